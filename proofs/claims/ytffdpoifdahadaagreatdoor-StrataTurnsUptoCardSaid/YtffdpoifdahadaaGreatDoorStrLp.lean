/- strata, the laws: levels, strata, rows of ints. -/
import Derived.Test.YtffdpoifdahadaaGreatDoorStrLo
set_option linter.unusedVariables false
set_option linter.unusedSimpArgs false
namespace Go.Proofs.YtffdpoifdahadaaGreatDoor
open Go.RowKit
open Go.Lib (hid)
/-- a row of integers of the call's own, made from W5 on -/
structure OwnI (W5:World) (l:List Int) (v:Value) (w:World):Prop where
 row:IO w l v
 ge:∀ k,v.ownBlock=some k→W5.heap.size≤k
 bel:Below W5.heap.size W5 w
theorem OwnI.below {W5 w w':World} {l:List Int} {v:Value} (h:OwnI W5 l v w) (hb:Below w.heap.size w w'):OwnI W5 l v w' :=
 ⟨owns_move h.row (fun k hk=>hb.block k (World.ownsRow.lt h.row k hk).2) fun _ _=>Nat.zero_le _,h.ge,h.bel.trans (hb.mono h.bel.size)⟩
theorem io_int {w:World} {l:List Int} {v:Value} (h:IO w l v):SlR 1 IntR (fun k=>v.ownBlock=some k) w l v:=by
 rcases h.2 with ⟨rfl,h0⟩ | ⟨g,cap,cur,rfl,-,hg,hn,hm,hs,ht⟩
 ·have:l=[]:=List.length_eq_zero_iff.1 h0
  subst this; exact SlR.nil _ _ _ _ _
 ·refine ⟨some ⟨g,0,none⟩,cap,g,0,fun i=>[iv (l.getD i 0)],rfl,hn,fun _=>⟨rfl,rfl,lt_of_some hg⟩,fun i hi j u hu=>?_,fun i x hx=>?_⟩
  ·have hj:j=0:=by
    have:=(List.getElem?_eq_some_iff.1 hu).1; simp at this; omega
   subst hj; simp at hu; subst hu; have hc:=(own_cell (i:=i) (x:=iv (l.getD i 0)) h (by rw [List.getElem?_map,List.getElem?_eq_getElem hi,List.getD_eq_getElem?_getD,List.getElem?_eq_getElem hi]; rfl)).1; simpa using hc
  ·show [iv (l.getD i 0)]=[iv x]
   rw [List.getD_eq_getElem?_getD,hx]; rfl
theorem OwnI.push {W5 w:World} {l:List Int} {v:Value} (h:OwnI W5 l v w) (x:Int) (hl:l.length≤2000000000000) :
  ∃ (v':Value) (w2:World),AppRun Tryz.prog 33 33 33 v (.slice (some ⟨w.heap.size,0,none⟩) 1 1) v' (w.alloc (.cells #[iv x] 3)) w2∧(∃ a c,v'=.slice a (l.length+1) c)∧OwnI W5 (l++[x]) v' w2:=by
 have hrow':w.ownsRow 0 3 1 v l.length (l.map iv):=h.row; obtain ⟨v',w2,hap,hr2,hge2,hF2⟩:=own_app (t:=33) Tryz.underlying33 infoIntS rfl (by decide) hrow' (iv x) rfl (by omega)
 have hI2:IO w2 (l++[x]) v':=by
  show w2.ownsRow 0 _ 1 v' _ _; rw [List.length_append,List.map_append]; exact hr2
 obtain ⟨a,c,e,-,-⟩:=owns_form hI2; rw [List.length_append] at e; exact ⟨v',w2,hap,⟨a,c,e⟩,hI2,fun q hq=>(hge2 q hq).elim (h.ge q) fun e=>Nat.le_trans h.bel.size e,h.bel.trans (hF2.to_below h.bel.size fun q hq e=>Nat.not_le_of_lt hq (h.ge q e))⟩
theorem total_le:∀ (S:List (List Nat)),(∀ l∈S,l.length≤totalS S)∧((∀ l∈S,l≠[])→S.length≤totalS S)
 | []=>⟨fun l h=>by simp at h,fun _=>Nat.le_refl _⟩
 | a::S=>by
  obtain ⟨h1,h2⟩:=total_le S
  have e:totalS (a::S)=a.length+totalS S:=by unfold totalS; simp
  refine ⟨fun l hl=>?_,fun h=>?_⟩
  ·rcases List.mem_cons.1 hl with rfl | hl
   ·omega
   ·have:=h1 l hl; omega
  ·have h3:=h2 fun l hl=>h l (List.mem_cons_of_mem _ hl)
   have h4:=h a (List.mem_cons_self); have:0 < a.length:=List.length_pos_iff.2 h4; rw [List.length_cons]; omega
theorem total_take {S:List (List Nat)} {k:Nat} {l:List Nat} (h:S[k]? = some l):totalS (S.take (k+1))=totalS (S.take k)+l.length∧totalS (S.take k)+l.length≤totalS S:=by
 have e:totalS (S.take (k+1))=totalS (S.take k)+l.length:=by
  rw [List.take_add_one,h,total_app]; unfold totalS; simp
 refine ⟨e,?_⟩
 have:totalS S=totalS (S.take (k+1))+totalS (S.drop (k+1)):=by rw [← total_app,List.take_append_drop]
 omega
/-- the strata of a checked query -/
theorem strata_facts {rs:List Rg} {nu:Nm→Nat} {L:List (List Nat)} (h:levelsF rs=some nu) (e:L=strataF rs nu) :
  totalS L=rs.length∧(∀ l∈L,l≠[])∧∀ (n:Nat) (l:List Nat),L[n]? = some l→l.Pairwise (· < ·)∧∀ k∈l,k < rs.length∧levelA rs L (relA rs k)=(n:Int):=by
 subst e
 have hg:∀ (n:Nat) (l:List Nat),(strataF rs nu)[n]? = some l→(strataF rs nu).getD n []=l:=fun n l hl=>by rw [List.getD_eq_getElem?_getD,hl]; rfl
 refine ⟨strataG_total _ _,fun l hl=>?_,fun n l hl=>⟨?_,fun k hk=>?_⟩⟩
 ·obtain ⟨n,hn,e⟩:=List.getElem_of_mem hl
  have:=strata_full h hn; rw [hg n l (by rw [List.getElem?_eq_getElem hn,e])] at this; exact this
 ·rw [← hg n l hl]; exact stratum_asc
 ·rw [← hg n l hl] at hk
  obtain ⟨h1,h2⟩:=mem_stratum.1 hk; refine ⟨h1,?_⟩; rw [level_of (relA_mem.2 ⟨k,h1,rfl⟩)]
  exact_mod_cast h2
theorem check_len {q:Qg} {b:Bool} {X:Int} {L:List (List Nat)} (h:(X,L)=checkF arF q b):L.length≤q.rules.length∧∀ l∈L,l.length≤q.rules.length:=by
 by_cases hX:X=0
 ·obtain ⟨-,-,nu,h2,h3⟩:=check_ok (ar:=arF) (q:=q) (b:=b) (by rw [← h]; exact hX)
  rw [← h] at h3; obtain ⟨ht,hne,-⟩:=strata_facts h2 h3; have h4:=(total_le L).2 hne; have h5:=(total_le L).1; rw [ht] at h4 h5; exact ⟨h4,h5⟩
 ·have h1:=check_bad (ar:=arF) (q:=q) (b:=b) (by rw [← h]; exact hX)
  rw [← h] at h1; have h2:L=[]:=h1; rw [h2]; exact ⟨Nat.zero_le _,fun l hl=>by cases hl⟩
theorem asc_at {l:List Nat} (h:l.Pairwise (· < ·)) {i x y:Nat} (hx:l[i]? = some x) (hy:l[i+1]? = some y):x < y:=by
 obtain ⟨h1,rfl⟩:=List.getElem?_eq_some_iff.1 hx; obtain ⟨h2,rfl⟩:=List.getElem?_eq_some_iff.1 hy; exact List.pairwise_iff_getElem.1 h i (i+1) h1 h2 (Nat.lt_succ_self _)
end Go.Proofs.YtffdpoifdahadaaGreatDoor
