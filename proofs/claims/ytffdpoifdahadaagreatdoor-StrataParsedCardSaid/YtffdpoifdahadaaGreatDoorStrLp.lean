/- strata, the laws: levels, strata, rows of ints. -/
import Derived.Test.YtffdpoifdahadaaGreatDoorStrLo
set_option linter.unusedVariables false
set_option linter.unusedSimpArgs false
namespace Go.Proofs.YtffdpoifdahadaaGreatDoor
open Go.RowKit
open Go.Lib (hid)
structure uW (W5:World) (l:List Int) (v:Value) (w:World):Prop where
 row:IO w l v
 ge:∀ k,v.ownBlock=some k->W5.heap.size<=k
 bel:Below W5.heap.size W5 w
theorem uW.below {W5 w w':World} {l:List Int} {v:Value} (h:uW W5 l v w) (hb:Below w.heap.size w w'):uW W5 l v w' :=
 ⟨aJ h.row (fun k hk=>hb.block k (World.ownsRow.lt h.row k hk).2) fun _ _=>zW _,h.ge,h.bel.trans (hb.mono h.bel.size)⟩
theorem uW.push {W5 w:World} {l:List Int} {v:Value} (h:uW W5 l v w) (x:Int) (hl:l.length<=2000000000000) :
  ∃ (v':Value) (w2:World),cH Tryz.prog 33 33 33 v (.slice (some ⟨w.heap.size,0,none⟩) 1 1) v' (w.alloc (.cells #[iv x] 3)) w2/\(∃ a c,v'=.slice a (l.length+1) c)/\uW W5 (l++[x]) v' w2:=by
 have hrow':w.ownsRow 0 3 1 v l.length (l.map iv):=h.row; obtain ⟨v',w2,hap,hr2,hge2,hF2⟩:=i4 (t:=33) Tryz.underlying33 gJ rfl (by decide) hrow' (iv x) rfl (by omega)
 have hI2:IO w2 (l++[x]) v':=by
  show w2.ownsRow 0 _ 1 v' _ _; rw [zQ,List.map_append]; exact hr2
 obtain ⟨a,c,e,-,-⟩:=bp hI2; rw [zQ] at e; exact ⟨v',w2,hap,⟨a,c,e⟩,hI2,fun q hq=>(hge2 q hq).elim (h.ge q) fun e=>zV h.bel.size e,h.bel.trans (hF2.to_below h.bel.size fun q hq e=>Nat.not_le_of_lt hq (h.ge q e))⟩
theorem lL:∀ (S:List (List Nat)),(∀ l∈S,l.length<=dG S)/\((∀ l∈S,l≠[])->S.length<=dG S)
 | []=>⟨fun l h=>by simp at h,fun _=>zM _⟩
 | a::S=>by
  obtain ⟨h1,h2⟩:=lL S
  have e:dG (a::S)=a.length+dG S:=by unfold dG; simp
  refine ⟨fun l hl=>?_,fun h=>?_⟩
  ·rcases List.mem_cons.1 hl with rfl | hl
   ·omega
   ·have:=h1 l hl; omega
  ·have h3:=h2 fun l hl=>h l (List.mem_cons_of_mem _ hl)
   have h4:=h a (List.mem_cons_self); have:0 < a.length:=List.length_pos_iff.2 h4; rw [zT]; omega
theorem oA {rs:List Rg} {nu:Nm->Nat} {L:List (List Nat)} (h:dn rs=some nu) (e:L=cD rs nu) :
  dG L=rs.length/\(∀ l∈L,l≠[])/\∀ (n:Nat) (l:List Nat),L[n]? = some l->l.Pairwise (· < ·)/\∀ k∈l,k < rs.length/\r7 rs L (jc rs k)=(n:Int):=by
 subst e
 have hg:∀ (n:Nat) (l:List Nat),(cD rs nu)[n]? = some l->(cD rs nu).getD n []=l:=fun n l hl=>by rw [zZ,hl]; rfl
 refine ⟨je _ _,fun l hl=>?_,fun n l hl=>⟨?_,fun k hk=>?_⟩⟩
 ·obtain ⟨n,hn,e⟩:=List.getElem_of_mem hl
  have:=pq h hn; rw [hg n l (by rw [zR hn,e])] at this; exact this
 ·rw [← hg n l hl]; exact pp
 ·rw [← hg n l hl] at hk
  obtain ⟨h1,h2⟩:=gn.1 hk; refine ⟨h1,?_⟩; rw [wG (iD.2 ⟨k,h1,rfl⟩)]
  exact_mod_cast h2
theorem uH {q:Qg} {b:Bool} {X:Int} {L:List (List Nat)} (h:(X,L)=ce arF q b):L.length<=q.rules.length/\∀ l∈L,l.length<=q.rules.length:=by
 by_cases hX:X=0
 ·obtain ⟨-,-,nu,h2,h3⟩:=qK (ar:=arF) (q:=q) (b:=b) (by rw [← h]; exact hX)
  rw [← h] at h3; obtain ⟨ht,hne,-⟩:=oA h2 h3; have h4:=(lL L).2 hne; have h5:=(lL L).1; rw [ht] at h4 h5; exact ⟨h4,h5⟩
 ·have h1:=uI (ar:=arF) (q:=q) (b:=b) (by rw [← h]; exact hX)
  rw [← h] at h1; have h2:L=[]:=h1; rw [h2]; exact ⟨zW _,fun l hl=>by cases hl⟩
end Go.Proofs.YtffdpoifdahadaaGreatDoor
