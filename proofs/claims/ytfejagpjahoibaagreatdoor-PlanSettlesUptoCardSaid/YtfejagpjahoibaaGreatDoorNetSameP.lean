/- NetSameP: Eq2, NetSame, NetSameP, in one text. -/
import Derived.Test.YtfejagpjahoibaaGreatDoorEqual
import Derived.Test.YtfejagpjahoibaaGreatDoorEfA
import Derived.Test.YtfejagpjahoibaaGreatDoorMapS
import Derived.Deep.QuietTactic
import Derived.BigQuiet
import Derived.Deep.RegionHeld3
import Derived.WalkSpells
set_option linter.unusedVariables false
namespace Go.Proofs.YtfejagpjahoibaaGreatDoor
open Go.RowKit
open Go.Lib (hid)
/-- two effects are equal, their ticks aside -/
def OutEq (x y:Out):Prop:=x.key=y.key∧x.name=y.name∧x.part=y.part∧x.args=y.args
theorem out_eq {x y:Out} (h1:x.key=y.key) (h2:x.name=y.name) (h3:x.part=y.part):OutEq x y ↔ x.args=y.args:=by simp [OutEq,h1,h2,h3]

set_option maxHeartbeats 4000000 in
set_option maxRecDepth 100000 in
theorem nEqOut_of (x y:Out) (vx vy:Value) (w:World) (hs:∀ W,Below w.heap.size w W→Calls Tryz.prog 55 #[vx,vy] W fun e w'=>e=.returned (.bool (dec (x.args=y.args)))∧Below W.heap.size W w'):Calls Tryz.prog 24 #[.agg (outCs x vx).toArray,.agg (outCs y vy).toArray] w fun e w'=>e=.returned (.bool (dec (OutEq x y)))∧Below w.heap.size w w':=by
 have hb:Below w.heap.size w ((w.alloc (.cells (outCs x vx).toArray 37)).alloc (.cells (outCs y vy).toArray 37)):=((Below.refl _ w).alloc (Nat.le_refl _) _).alloc (by simp) _; replace hs:=hid hs; by_cases h0:x.key=y.key
 ·skip
  by_cases h1:x.name=y.name
  ·skip
   by_cases h2:x.part=y.part
   ·skip
    have b2:(x.part == y.part)=true:=by simpa using h2
    have hc:=hid (dec_iff (out_eq h0 h1 h2))
    go_enter Tryz.func24,Tryz.ntmps24
    go_wp2_with fail
    refine (hs.out _ hb).mono ?_; rintro e w3 ⟨rfl,hb3⟩
    cases hd:dec (x.args=y.args) with
    | true =>
     rw [hd] at hc
     go_wp2_with fail
     go_ret; rw [hc.out]; exact ⟨rfl,hb.trans (hb3.mono hb.size)⟩
    | false =>
     rw [hd] at hc
     go_wp2_with fail
     go_ret; rw [hc.out]; exact ⟨rfl,hb.trans (hb3.mono hb.size)⟩
   ·skip
    have b2:(x.part == y.part)=false:=by simpa using h2
    have hne:dec (OutEq x y)=false:=dec_false (fun e=>h2 e.2.2.1); rw [hne]
    go_enter Tryz.func24,Tryz.ntmps24
    go_wp2_with fail
    all_goals
     go_ret; exact ⟨rfl,hb⟩
  ·skip
   have hne:dec (OutEq x y)=false:=dec_false (fun e=>h1 e.2.1); rw [hne]
   go_enter Tryz.func24,Tryz.ntmps24
   go_wp2_with fail
   all_goals
    go_ret; exact ⟨rfl,hb⟩
 ·skip
  have hne:dec (OutEq x y)=false:=dec_false (fun e=>h0 e.1); rw [hne]
  go_enter Tryz.func24,Tryz.ntmps24
  go_wp2_with fail
  all_goals
   go_ret; exact ⟨rfl,hb⟩

theorem nEqOut_any (x y:Out) (hx:ValsB x.args) (hy:ValsB y.args) (S T:Foot) (ca cb:List Value) (w:World) (h1:OutR S w x ca) (h2:OutR T w y cb):Calls Tryz.prog 24 #[.agg ca.toArray,.agg cb.toArray] w fun e w'=>e=.returned (.bool (dec (OutEq x y)))∧Below w.heap.size w w':=by
 obtain ⟨a1,k1,rfl,q1⟩:=h1; obtain ⟨a2,k2,rfl,q2⟩:=h2; exact nEqOut_of x y _ _ w (fun W hW=>vSame_any x.args y.args hx hy S T _ _ W (q1.below goodVal hW) (q2.below goodVal hW))
end Go.Proofs.YtfejagpjahoibaaGreatDoor
namespace Go.Proofs.YtfejagpjahoibaaGreatDoor
open Go.RowKit
open Go.Lib (hid)
theorem keyLitS (s:List UInt8) (h:s.length≤1048576):keyOf Tryz.prog 9 (sv s)=some (.string s):=by
 have:=WideMaps.keyOf_string_mk (P:=Tryz.prog) (k:=9) Tryz.underlying9 (s:=⟨s.toArray⟩) (by rw [ByteArray.size_mk',List.size_toArray]; unfold maxLen; omega); simpa using this
set_option maxHeartbeats 2000000 in
set_option maxRecDepth 100000 in
theorem indexFuncSame_any (p:Out→Bool) (l:List Out) (hl:l.length≤1048576) (B:Nat) (S:Foot) (v:Value) (w:World) (hr:SlR 5 OutR S w l v)
  (hf:∀ x∈l,∀ (cs:List Value) (W:World),Below w.heap.size w W→OutR S W x cs→Calls Tryz.prog 23 #[.agg cs.toArray,pt B] W fun e w'=>e=.returned (.bool (p x))∧Below W.heap.size W w') :
  Calls Tryz.prog 22 #[v,.func (Fn.func 23) #[] #[pt B]] w fun e w'=>e=.returned (iv (idxF p l))∧Below w.heap.size w w':=by
 obtain ⟨a,c,rfl,-⟩:=hr.slice; replace hr:=hid hr; replace hf:=hid hf; generalize hres:idxF p l=r; replace hres:=hid hres
 go_enter Tryz.func22,Tryz.ntmps22
 go_wp2
 go_loopw [5,8] (fun _ i wr=>∃ k:Nat,i=.int .i64 k∧k≤l.length∧Hid (∀ i y,i < k→l[i]? = some y→p y=false)∧Below w.heap.size w wr) (fun _ i _=>l.length - (intOf i).toNat)
 case atStart=>exact ⟨0,rfl,Nat.zero_le _,hid (fun i y h=>absurd h (by omega)),Below.refl _ _⟩
 case round =>
  obtain ⟨k,rfl,hk,hn,hB⟩:=hrel; by_cases hlt:k < l.length
  ·obtain ⟨x,hx⟩:∃ x,l[k]? = some x:=⟨_,List.getElem?_eq_getElem hlt⟩
   obtain ⟨g,o,cs,hidx,hS,hg,hc,hR⟩:=(hr.out.below goodOut hB).at (P:=Tryz.prog) (t:=23) (by kernel_rfl) (fun _=>by kernel_rfl) hx; have hcall:=hid (hf.out x (List.mem_of_getElem? hx) _ _ hB hR); obtain ⟨a1,k1,rfl,-⟩:=id hR; have c0:=hc 0 _ rfl; have c1:=hc 1 _ rfl; have c2:=hc 2 _ rfl; have c3:=hc 3 _ rfl; have c4:=hc 4 _ rfl; rw [Nat.add_zero] at c0; clear hR hc; replace hx:=hid hx
   go_wp2_with fail
   refine hcall.out.mono ?_; rintro e w2 ⟨rfl,hb2⟩; have hB2:=hB.trans (hb2.mono hB.size); clear c0 c1 c2 c3 c4 hcall hb2 hidx
   cases hp:p x with
   | true =>
    have hfin:=idxF_hit hx.out hp hn.out; rw [hres.out] at hfin; replace hfin:=hid hfin; clear hp
    go_wp2
    go_ret; exact ⟨by rw [hfin.out]; rfl,hB2⟩
   | false =>
    have hn2:=hid (show ∀ i y,i < k+1→l[i]? = some y→p y=false from fun i y hi hy=>by
     by_cases e:i=k
     ·subst e; rw [hx.out] at hy; injection hy with hy; rw [← hy]; exact hp
     ·exact hn.out i y (by omega) hy)
    clear hp
    go_wp2
    exact ⟨⟨k+1,by go_num,by omega,hn2,hB2⟩,by simp [intOf]; omega⟩
  ·have hkl:k=l.length:=by omega
   subst hkl; have hfin:=idxF_miss hn.out; rw [hres.out] at hfin; replace hfin:=hid hfin
   go_wp2
   go_ret; exact ⟨by rw [hfin.out]; rfl,hB⟩
set_option maxHeartbeats 2000000 in
set_option maxRecDepth 100000 in
theorem deleteOut_own (l:List Out) (hl:l.length≤1048576) (k:Nat) (hk:k < l.length) (S:Foot) (g cap:Nat) (w:World) (hr:OwnR 37 5 OutR S w l (.slice (some ⟨g,0,none⟩) l.length cap)) :
  Calls Tryz.prog 25 #[.slice (some ⟨g,0,none⟩) l.length cap,iv k,iv ((k:Int)+1)] w fun e w'=>∃ v',e=.returned v'∧OwnR 37 5 OutR S w' (l.eraseIdx k) v'∧Fr (fun q=>q=g) w w':=by
 obtain ⟨g',cap',he,hS,hg,hcap,hcm⟩:=hr.form (by omega); simp only [Value.slice.injEq,Option.some.injEq,Addr.mk.injEq,and_true,true_and] at he; obtain ⟨rfl,rfl⟩:=he; unfold maxLen at hcm; obtain ⟨i0,hi,hz0,hz1,hz2⟩:=info_parts infoOut
 have hkI:(k:Int) < l.length:=by omega
 have hne:((k:Int) == (k:Int)+1)=false:=by simp; omega
 obtain ⟨n,hn⟩:∃ n,l.length=n+1:=⟨l.length - 1,by omega⟩
 have hkn:k≤n:=by omega
 rcases (by omega:cap=k+1∨k+1 < cap) with hc | hc
 ·obtain ⟨W1,W2,h1,h2,h3,h4⟩:=delete_own goodOut (t:=23) (ty:=23) (ty2:=0) (z:=.agg #[.string .empty,.string .empty,.slice none 0 0,.bool false,.int .i64 0]) (by kernel_rfl) hi hz1 (fun _=>by kernel_rfl) rfl (by intro u hu; simp [Value.cells] at hu; rcases hu with rfl | rfl | rfl | rfl | rfl <;> rfl) (hr.drew goodOut) hk (by decide) ⟨g,0,none⟩ (fun h=>by omega)
  obtain rfl:k=n:=by omega
  subst hc; rw [hn] at h1 h2 h3 hcap hkI ⊢; rw [Nat.sub_self,Nat.add_sub_cancel] at h1; rw [Nat.add_sub_cancel,Nat.add_sub_cancel_left] at h2; rw [Nat.add_sub_cancel] at h3; have hf:Fr (fun q=>q=g) w W2:=(Fr.refl _ w).drew.trans h4; replace h3:=hid h3
  have k1:k≤k+1:=by omega
  have k3:(k:Int)≤(k:Int)+1:=by omega
  have k5:(0:Int)≤(k:Int)+1:=by omega
  have k9:¬ k+1=k:=by omega
  clear hr h4 hi hz0 hz1 hz2
  go_enter Tryz.func25,Tryz.ntmps25
  go_wp2_with fail
  go_region_law (refine step_append_shut (by rfl) (.tmp 22) (.tmp 25) (by rfl) (by rfl) (by rfl) h1 ?_)
  go_wp2_with fail
  go_ret; exact ⟨_,rfl,h3.out,hf⟩
 ·obtain ⟨W1,W2,h1,h2,h3,h4⟩:=delete_own goodOut (t:=23) (ty:=23) (ty2:=0) (z:=.agg #[.string .empty,.string .empty,.slice none 0 0,.bool false,.int .i64 0]) (by kernel_rfl) hi hz1 (fun _=>by kernel_rfl) rfl (by intro u hu; simp [Value.cells] at hu; rcases hu with rfl | rfl | rfl | rfl | rfl <;> rfl) (hr.drew goodOut) hk (by decide) ⟨g,(k+1) * 5,none⟩ (fun h=>rfl)
  rw [hn] at h1 h2 h3 hcap hkI ⊢; rw [show n+1 - (k+1)=n - k by omega,Nat.add_sub_cancel] at h1; rw [Nat.add_sub_cancel] at h2 h3
  have k5:(0:Int)≤(k:Int)+1:=by omega
  have k6:¬ cap=k+1:=by omega
  have k7:n+1≤cap:=hcap
  have k8:n≤cap:=by omega
  have k9:¬ cap=n:=by omega
  have hf:Fr (fun q=>q=g) w W2:=(Fr.refl _ w).drew.trans h4; replace h3:=hid h3
  have k1:k≤cap:=by omega
  have k2:k+1≤n+1:=by omega
  have k3:(k:Int)≤(cap:Int):=by omega
  have k4:(k:Int)+1≤(n:Int)+1:=by omega
  clear hr h4 hi hz0 hz1 hz2
  go_enter Tryz.func25,Tryz.ntmps25
  go_wp2_with fail
  go_region_law (refine step_append_shut (by rfl) (.tmp 22) (.tmp 25) (by rfl) (by rfl) (by rfl) h1 ?_)
  go_wp2_with fail
  go_ret; exact ⟨_,rfl,h3.out,hf⟩
set_option maxRecDepth 100000 in
theorem sameC_any (o x:Out) (ho:ValsB o.args) (hx:ValsB x.args) (cs:List Value) (S T:Foot) (vo:Value) (w:World) (B:Nat) (hB:w.heap[B]? = some (.cells (outCs o vo).toArray 37)) (hro:OutR T w o (outCs o vo)) (hr:OutR S w x cs) :
  Calls Tryz.prog 23 #[.agg cs.toArray,pt B] w fun e w'=>e=.returned (.bool (dec (OutEq x o)))∧Below w.heap.size w w':=by
 obtain ⟨a1,k1,rfl,-⟩:=id hr; have hb:Below w.heap.size w (w.alloc (.cells (outCs x (.slice a1 x.args.length k1)).toArray 37)):=(Below.refl _ w).alloc (Nat.le_refl _) _; have hBl:=lt_of_some hB; obtain ⟨a2,k2,he,-⟩:=id hro; simp only [List.cons.injEq,and_true,true_and] at he; obtain rfl:=he; have c0:w.cell? ⟨B,0,none⟩=some (sv o.key):=(cell_of hB).trans rfl; have c1:w.cell? ⟨B,1,none⟩=some (sv o.name):=(cell_of hB).trans rfl; have c2:w.cell? ⟨B,2,none⟩=some (.slice a2 o.args.length k2):=(cell_of hB).trans rfl; have c3:w.cell? ⟨B,3,none⟩=some (.bool o.part):=(cell_of hB).trans rfl; have c4:w.cell? ⟨B,4,none⟩=some (iv o.tick):=(cell_of hB).trans rfl; have hcall:=hid (nEqOut_any x o hx ho S T _ _ _ (goodOut.below hr hb) (goodOut.below hro hb)); replace hb:=hid hb; clear hr hro hB
 go_enter Tryz.func23,Tryz.ntmps23
 go_wp2_with fail
 refine hcall.out.mono ?_; rintro e w3 ⟨rfl,hb3⟩; clear c0 c1 c2 c3 c4 hcall
 go_wp2_with fail
 go_ret; exact ⟨rfl,hb.out.trans (hb3.mono hb.out.size)⟩
/-- append(nil, x): a new row -/
theorem nil_app1 {α:Type} {E:TypeId} {sz:Nat} {R:Rel α} {P:Program} {t ty:TypeId} {bytes:Nat} {i:TypeInfo} {z:Value} (hR:Good sz R) (ht:P.underlying t=some (.slice E)) (hi:P.info? E=some i) (hz:i.zero=some z) (hsize:i.size=sz) (hby:i.bytes=bytes) (hzs:z.cells.size=sz) (hsz:0 < sz)
  {T:Foot} {w:World} {x:α} {C:Nat} {cs:List Value} {vs:Value} (hr:Row C w sz vs 1 cs) (hx:R T w x cs) (hT:∀ q,T q→q < w.heap.size) (hbytes:(0+1) * bytes≤140737488355328) :
  ∃ v' w',AppRun P t t ty (.slice none 0 0) vs v' w w'∧OwnR E sz R (fun q=>T q∨v'.ownBlock=some q) w' [x] v'∧v'.ownBlock=some w.heap.size∧Below w.heap.size w w':=by
 obtain ⟨v',w',hrun,hown,hg,hv⟩:=append_row w 0 t ty E i z sz bytes ht hi hz hsize hby hzs hsz (.slice none 0 0) 0 [] (World.ownsRow_nil _ _ _ _) C vs 1 cs hr (hR.one hx) (by unfold maxLen; omega) hbytes (Nat.zero_le _)
 have hvo:v'.ownBlock=some w.heap.size:=by
  rcases hv with e | e
  ·rcases hown.2 with ⟨rfl,h0⟩ | ⟨g,cap,cur,rfl,_⟩
   ·omega
   ·cases e
  ·exact e
 have hb:Below w.heap.size w w':=⟨hg.os,hg.tape,hg.output,hg.size,fun k hk=>hg.block k hk (fun e=>by cases e)⟩; refine ⟨v',w',⟨hrun⟩,⟨cs,by simpa using hown,fun q hq=>Or.inr hq,fun k y hy=>?_⟩,hvo,hb⟩; rcases k with _ | k
 ·simp at hy; subst hy
  refine ⟨cs,fun j u hu=>by rw [Nat.zero_mul,Nat.zero_add]; exact hu,hR.move hx fun q hq hs=>⟨⟨Or.inl hs,fun e=>?_⟩,hb.block q hq⟩⟩
  rw [hvo] at e; injection e with e; have:=hT q hs; omega
 ·simp at hy
/-- what is left: at the keys of lo..hi a row of that effect alone; at no other key of l anything -/
structure LeftR (l:List Out) (B mb lo hi:Nat) (w:World):Prop where
 ex:∃ (N:Nat) (f:Lit→Option Value) (vs:Nat→Value),MapV Tryz.prog 9 mb N f w∧N≤hi+lo ∧
  (∀ j o,lo≤j→j < hi→l[j]? = some o→f (.string o.key)=some (vs j)∧OwnR 37 5 OutR (fun q=>q < B∨(vs j).ownBlock=some q) w [o] (vs j)∧∃ q,(vs j).ownBlock=some q∧B < q∧q≠mb∧q < w.heap.size) ∧
  (∀ i j,lo≤i→i < hi→lo≤j→j < hi→i≠j→(vs i).ownBlock≠(vs j).ownBlock) ∧
  (∀ s,(∀ j o,j < hi→l[j]? = some o→o.key≠s)→f (.string s)=none)
theorem LeftR.below {l:List Out} {B mb lo hi:Nat} {w w':World} (h:LeftR l B mb lo hi w) (hb:Below w.heap.size w w') (hB:B≤w.heap.size):LeftR l B mb lo hi w':=by
 obtain ⟨N,f,vs,h1,h2,h3,h4,h5⟩:=h.ex; refine ⟨N,f,vs,h1.below hb h1.lt,h2,fun j o h6 h7 h8=>?_,h4,h5⟩; obtain ⟨h9,h10,q,h11,h12,h13,h14⟩:=h3 j o h6 h7 h8; exact ⟨h9,h10.below goodOut hb,q,h11,h12,h13,Nat.lt_of_lt_of_le h14 hb.size⟩
theorem key_ne {l:List Out} (hnd:(l.map Out.key).Nodup) {i j:Nat} {x y:Out} (hx:l[i]? = some x) (hy:l[j]? = some y) (h:i≠j):x.key≠y.key:=by
 intro e; have hi:=(List.getElem?_eq_some_iff.1 hx).1; have hj:=(List.getElem?_eq_some_iff.1 hy).1
 have h1:(l.map Out.key)[i]? = some x.key:=by rw [List.getElem?_map,hx]; rfl
 have h2:(l.map Out.key)[j]? = some x.key:=by rw [List.getElem?_map,hy,e]; rfl
 exact h ((List.getElem?_inj (by simpa using hi) hnd).1 (h1.trans h2.symm))
theorem LeftR.push {l:List Out} {B mb k:Nat} {w w3 w4:World} (h:LeftR l B mb 0 k w) (hnd:(l.map Out.key).Nodup) {o:Out} (ho:l[k]? = some o) {v:Value} (hb:Below w.heap.size w w3) (hBw:B≤w.heap.size)
  (hO:OwnR 37 5 OutR (fun q=>q < B∨v.ownBlock=some q) w3 [o] v) {g:Nat} (hg:v.ownBlock=some g) (hg2:w.heap.size≤g) (hmB:mb < w.heap.size) (hmB2:B≤mb) (hkey:keyOf Tryz.prog 9 (sv o.key)=some (.string o.key))
  (hput:∀ (N:Nat) (f:Lit→Option Value),MapV Tryz.prog 9 mb N f w3→N < maxLen→MapV Tryz.prog 9 mb (N+1) (putF f (.string o.key) v) w4) (hgr:w3.grownBy w4 (some mb)) (hk:k < maxLen):LeftR l B mb 0 (k+1) w4:=by
 obtain ⟨N,f,vs,h1,h2,h3,h4,h5⟩:=h.ex; have hm3:=h1.below hb h1.lt; have hgl:g < w3.heap.size:=hO.lt hg; refine ⟨N+1,putF f (.string o.key) v,fun j=>if j=k then v else vs j,hput N f hm3 (by omega),by omega,fun j y h6 h7 h8=>?_,fun i j hi hik hj hjk hij=>?_,fun s hs=>?_⟩
 ·by_cases e:j=k
  ·subst e
   rw [ho] at h8; injection h8 with h8; subst h8
   simp only [if_true]; refine ⟨by unfold putF; rw [if_pos rfl],hO.move goodOut fun q hq hs=>⟨hs,?_⟩,g,hg,by omega,by omega,Nat.lt_of_lt_of_le hgl hgr.size⟩
   refine hgr.block q hq fun e=>?_
   injection e with e; rcases hs with hs | hs
   ·omega
   ·rw [hg] at hs; injection hs with hs; omega
  ·obtain ⟨h9,h10,q,h11,h12,h13,h14⟩:=h3 j y h6 (by omega) h8
   simp only [if_neg e]; refine ⟨?_,(h10.below goodOut hb).move goodOut fun q2 hq hs=>⟨hs,?_⟩,q,h11,h12,h13,Nat.lt_of_lt_of_le h14 (Nat.le_trans hb.size hgr.size)⟩
   ·unfold putF
    rw [if_neg (fun h=>by injection h with h; exact key_ne hnd h8 ho e h)]; exact h9
   ·refine hgr.block q2 hq fun e=>?_
    injection e with e; rcases hs with hs | hs
    ·omega
    ·rw [h11] at hs; injection hs with hs; omega
 ·by_cases e:i=k
  ·have e2:¬ j=k:=fun h=>hij (by rw [e,h])
   have hjl:j < l.length:=by have:=(List.getElem?_eq_some_iff.1 ho).1; omega
   obtain ⟨-,-,q,h11,h12,h13,h14⟩:=h3 j l[j] (by omega) (by omega) (List.getElem?_eq_getElem hjl); simp only [if_pos e,if_neg e2]
   rw [hg,h11]; intro h; injection h with h; omega
  ·have hil:i < l.length:=by have:=(List.getElem?_eq_some_iff.1 ho).1; omega
   obtain ⟨-,-,q,h11,h12,h13,h14⟩:=h3 i l[i] (by omega) (by omega) (List.getElem?_eq_getElem hil); by_cases e2:j=k
   ·simp only [if_neg e,if_pos e2]
    rw [hg,h11]; intro h; injection h with h; omega
   ·simp only [if_neg e,if_neg e2]
    exact h4 i j (by omega) (by omega) (by omega) (by omega) hij
 ·unfold putF
  rw [if_neg (fun h=>by injection h with h; exact hs k o (by omega) ho h.symm)]
  exact h5 s fun j y hj hy=>hs j y (by omega) hy
theorem LeftR.pop {l:List Out} {B mb k:Nat} {w w3 w4:World} (h:LeftR l B mb k l.length w) (hnd:(l.map Out.key).Nodup) {o:Out} (ho:l[k]? = some o) {g:Nat} (hBw:B≤w.heap.size) (hmB:mb < w.heap.size) (hmB2:B≤mb)
  (hg:∀ v,(∃ f N,MapV Tryz.prog 9 mb N f w∧f (.string o.key)=some v)→v.ownBlock=some g) (hb:Fr (fun q=>q=g) w w3) (v':Value)
  (hput:∀ (N:Nat) (f:Lit→Option Value),MapV Tryz.prog 9 mb N f w3→N < maxLen→MapV Tryz.prog 9 mb (N+1) (putF f (.string o.key) v') w4) (hgr:w3.grownBy w4 (some mb)) (hk:2 * l.length < maxLen):LeftR l B mb (k+1) l.length w4:=by
 obtain ⟨N,f,vs,h1,h2,h3,h4,h5⟩:=h.ex; have hkl:=(List.getElem?_eq_some_iff.1 ho).1; obtain ⟨k9,k10,q0,k11,k12,k13,k14⟩:=h3 k o (Nat.le_refl _) hkl ho
 have hg0:q0=g:=by
  have:=hg (vs k) ⟨f,N,h1,k9⟩; rw [k11] at this; injection this
 have hm3:MapV Tryz.prog 9 mb N f w3:=h1.same (hb.block mb hmB (fun e=>k13 (hg0.trans e.symm))); refine ⟨N+1,putF f (.string o.key) v',vs,hput N f hm3 (by omega),by omega,fun j y h6 h7 h8=>?_,fun i j hi hik hj hjk hij=>h4 i j (by omega) hik (by omega) hjk hij,fun s hs=>?_⟩
 ·obtain ⟨h9,h10,q,h11,h12,h13,h14⟩:=h3 j y (by omega) h7 h8
  have hqg:q≠g:=fun e=>h4 k j (Nat.le_refl _) hkl (by omega) h7 (by omega) (by rw [k11,h11,hg0,e])
  refine ⟨?_,h10.move goodOut fun q2 hq hs=>⟨hs,?_⟩,q,h11,h12,h13,Nat.lt_of_lt_of_le h14 (Nat.le_trans hb.size hgr.size)⟩
  ·unfold putF
   rw [if_neg (fun h=>by injection h with h; exact key_ne hnd h8 ho (by omega) h)]; exact h9
  ·have hne:q2≠g∧q2≠mb:=by
    rcases hs with hs | hs
    ·exact ⟨by omega,by omega⟩
    ·rw [h11] at hs; injection hs with hs; subst hs; exact ⟨hqg,h13⟩
   exact (hgr.block q2 (Nat.lt_of_lt_of_le hq hb.size) (fun e=>by injection e with e; exact hne.2 e)).trans (hb.block q2 hq hne.1)
 ·unfold putF
  rw [if_neg (fun h=>by injection h with h; exact hs k o hkl ho h.symm)]; exact h5 s hs
end Go.Proofs.YtfejagpjahoibaaGreatDoor
namespace Go.Proofs.YtfejagpjahoibaaGreatDoor
open Go.RowKit
open Go.Lib (hid)
theorem LeftR.perm {b c:List Out} {B mb n:Nat} {w:World} (h:LeftR b B mb 0 n w) (hb:b.length=n) (hc:n=c.length) (hnd:(b.map Out.key).Nodup) (hcn:(c.map Out.key).Nodup) (hcb:∀ (k:Nat) (p:Out),c[k]? = some p→∃ i:Nat,b[i]? = some p) (hbc:∀ p∈b,∃ q∈c,q.key=p.key):LeftR c B mb 0 n w:=by
 obtain ⟨N,f,vs,h1,h2,h3,h4,h5⟩:=h.ex
 have hs:∀ k:Nat,∃ i:Nat,∀ p:Out,c[k]? = some p→b[i]? = some p:=fun k=>by
  cases e:c[k]? with
  | none=>exact ⟨0,fun p hp=>by cases hp⟩
  | some q =>
   obtain ⟨i,hi⟩:=hcb k q e; exact ⟨i,fun p hp=>by injection hp with hp; rw [← hp]; exact hi⟩
 have lt:∀ {i:Nat} {p:Out},b[i]? = some p→i < n:=fun hi=>by have:=(List.getElem?_eq_some_iff.1 hi).1; omega
 refine ⟨N,f,fun k=>vs (Classical.choose (hs k)),h1,h2,fun j o _ hj ho=>?_,fun i j _ hi _ hj hij=>?_,fun s hS=>h5 s fun j o hj ho e=>?_⟩
 ·have:=Classical.choose_spec (hs j) o ho
  exact h3 _ o (Nat.zero_le _) (lt this) this
 ·obtain ⟨x,hx⟩:∃ x,c[i]? = some x:=⟨_,List.getElem?_eq_getElem (by omega)⟩
  obtain ⟨y,hy⟩:∃ x,c[j]? = some x:=⟨_,List.getElem?_eq_getElem (by omega)⟩; have h6:=Classical.choose_spec (hs i) x hx; have h7:=Classical.choose_spec (hs j) y hy
  refine h4 _ _ (Nat.zero_le _) (lt h6) (Nat.zero_le _) (lt h7) fun e=>?_
  rw [e,h7] at h6; injection h6 with h6; subst h6; exact key_ne hcn hx hy hij rfl
 ·obtain ⟨q,hq,hqk⟩:=hbc o (List.mem_of_getElem? ho)
  obtain ⟨k,hk⟩:=List.mem_iff_getElem?.1 hq; exact hS k q (by have:=(List.getElem?_eq_some_iff.1 hk).1; omega) hk (hqk.trans e)
set_option maxHeartbeats 8000000 in
set_option maxRecDepth 100000 in
theorem netSameP_any (a b c:List Out) (hl:b.length≤100000) (hnd:(b.map Out.key).Nodup) (hkl:∀ o∈b,o.key.length≤1048576) (hlB:OutsB b) (haB:OutsB a) (hal:a.length=c.length) (hbl:b.length=c.length) (hcn:(c.map Out.key).Nodup) (hcb:∀ (k:Nat) (p:Out),c[k]? = some p→∃ i:Nat,b[i]? = some p) (hbc:∀ p∈b,∃ q∈c,q.key=p.key) (hca:∀ (k:Nat) (o:Out),a[k]? = some o→∃ p,c[k]? = some p∧OutEq p o) (S T:Foot) (va vb:Value) (w:World) (ha:SlR 5 OutR S w a va) (hb:SlR 5 OutR T w b vb) :
  Calls Tryz.prog 9 #[va,vb] w fun e w'=>e=.returned (.bool true)∧Below w.heap.size w w':=by
 obtain ⟨a1,k1,rfl,-⟩:=ha.slice; obtain ⟨a2,k2,rfl,-⟩:=hb.slice; obtain ⟨n,hn⟩:∃ n,n=c.length:=⟨_,rfl⟩; rw [← hn] at hal hbl; have hbl2:=hid hbl; have hal2:=hid hal; have hn2:=hid hn; rw [hal,hbl]; rw [hbl] at hl; clear hal hbl hn; have hmm:=@run_makeMap Tryz.prog; have K:=Maps.string_keyed Tryz.underlying9; obtain ⟨i0,hi,hz0,hz1,hz2⟩:=info_parts infoOut; have hi':=hid hi; have hz0':=hid hz0; have hz1':=hid hz1; have hz2':=hid hz2; have hb1:Below w.heap.size w (w.alloc (.map #[] 0)):=(Below.refl _ w).alloc (Nat.le_refl _) _; have hL:=hid (show LeftR b w.heap.size w.heap.size 0 0 (w.alloc (.map #[] 0)) from ⟨0,fun _=>none,fun _=>.slice none 0 0,MapV.made w,Nat.zero_le _,fun j o h1 h2=>absurd h2 (by omega),fun i j h1 h2=>absurd h2 (by omega),fun _ _=>rfl⟩)
 have hsz1:w.heap.size+1≤(w.alloc (.map #[] 0)).heap.size:=by simp
 replace ha:=hid ha; replace hb:=hid hb; replace hnd:=hid hnd; replace hkl:=hid hkl; replace hlB:=hid hlB; replace haB:=hid haB; replace hcn:=hid hcn; replace hcb:=hid hcb; replace hbc:=hid hbc; replace hca:=hid hca; replace hb1:=hid hb1; clear hi hz0 hz1 hz2
 go_enter Tryz.func9,Tryz.ntmps9
 go_wp2_with fail
 go_loopw [20] (fun i wr=>∃ k:Nat,i=.int .i64 k∧k≤n∧Hid (LeftR b w.heap.size w.heap.size 0 k wr)∧Hid (Below w.heap.size w wr)∧w.heap.size+1≤wr.heap.size) (fun i _=>n - (intOf i).toNat)
 case atStart=>exact ⟨0,rfl,Nat.zero_le _,hL,hb1,hsz1⟩
 case round =>
  clear hL hb1 hsz1 hmm; obtain ⟨k,rfl,hk,hL,hB,hsz⟩:=hrel; by_cases hlt:k < n
  ·obtain ⟨o,ho⟩:∃ o,b[k]? = some o:=⟨_,List.getElem?_eq_getElem (by rw [hbl2.out]; exact hlt)⟩
   have hT:=hb.out.below goodOut hB.out; obtain ⟨g,of,cs,hidx,hTg,hg,hc,hR⟩:=(hb.out.mono goodOut (T:=fun q=>q < w.heap.size) (fun q hq _=>hq)).below goodOut hB.out |>.at (P:=Tryz.prog) (t:=23) (by kernel_rfl) (fun _=>by kernel_rfl) ho; rw [hbl2.out] at hidx; obtain ⟨a3,k3,rfl,hv⟩:=id hR; have c0:=hc 0 _ rfl; have c1:=hc 1 _ rfl; have c2:=hc 2 _ rfl; have c3:=hc 3 _ rfl; have c4:=hc 4 _ rfl; rw [Nat.add_zero] at c0; have hkey:=keyLitS o.key (hkl.out o (List.mem_of_getElem? ho)); replace ho:=hid ho; clear hc hT; generalize hW:wr.alloc (.cells #[sv o.key,sv o.name,.slice a3 o.args.length k3,.bool o.part,iv o.tick] 37)=W at *; have hbW:Below wr.heap.size wr W:=hW ▸ (Below.refl _ wr).alloc (Nat.le_refl _) _
   have hsW:W.heap.size=wr.heap.size+1:=by rw [← hW]; simp
   have hbox:W.heap[wr.heap.size]? = some (.cells #[sv o.key,sv o.name,.slice a3 o.args.length k3,.bool o.part,iv o.tick] 37):=hW ▸ heap_alloc_new' wr _; have hLW:=hL.out.below hbW (by omega); generalize hX:(W.alloc (.cells #[sv o.key,sv o.name,.slice a3 o.args.length k3,.bool o.part,iv o.tick] 37)).drew=X at *; have hbX:Below W.heap.size W X:=hX ▸ ((Below.refl _ W).alloc (Nat.le_refl _) _).drew
   have hsX:X.heap.size=W.heap.size+1:=by rw [← hX]; show (W.alloc _).heap.size=_; simp
   have hsrc:X.heap[W.heap.size]? = some (.cells #[sv o.key,sv o.name,.slice a3 o.args.length k3,.bool o.part,iv o.tick] 37):=hX ▸ heap_alloc_new' W _; have hboxX:=below_keep hbX hbox (by omega); obtain ⟨v,W3,hap,hO3,hvo,hb3⟩:=nil_app1 (x:=o) (R:=OutR) (t:=23) (ty:=23) (T:=fun q=>q < w.heap.size) goodOut (by kernel_rfl) hi'.out hz0'.out hz1'.out hz2'.out rfl (by decide) (row_of_block hsrc rfl) (goodOut.below (goodOut.below hR hbW) hbX) (fun q hq=>by show q < X.heap.size; have:q < w.heap.size:=hq; omega) (by omega); rw [hsW] at hap; have hLX:=hLW.below hbX (by omega); obtain ⟨N,f,vs,h1,h2,h3,h4,h5⟩:=id hLX.ex
   have hfn:f (.string o.key)=none:=h5 o.key fun j y hj hy=>key_ne hnd.out hy ho.out (by omega)
   have hlookX:=h1.look K (t:=68) (e:=23) Tryz.underlying68 (z:=.slice none 0 0) (by kernel_rfl) hkey trivial; rw [hfn] at hlookX
   have h1W:MapV Tryz.prog 9 w.heap.size N f W.drew:=by
    refine h1.same ?_; show W.heap[w.heap.size]? = X.heap[w.heap.size]?; exact (hbX.block _ (by omega)).symm
   have hlookW:=h1W.look K (t:=68) (e:=23) Tryz.underlying68 (z:=.slice none 0 0) (by kernel_rfl) hkey trivial; rw [hfn] at hlookW; obtain ⟨W4,hput,hm4,hgr⟩:=(h1.below hb3 h1.lt).put K (t:=68) (e:=23) Tryz.underlying68 (by unfold maxLen; omega) hkey trivial v
   have hL4:LeftR b w.heap.size w.heap.size 0 (k+1) W4:=hLX.push hnd.out ho.out hb3 (by omega) hO3 hvo (by omega) (by omega) (Nat.le_refl _) hkey (fun N' f' hm hN=>by
    obtain ⟨W5,hput5,hm5,-⟩:=hm.put K (t:=68) (e:=23) Tryz.underlying68 hN hkey trivial v
    rw [hput] at hput5; injection hput5 with _ e; rw [e]; exact hm5) hgr (by unfold maxLen; omega)
   have hB4:Below w.heap.size w W4:=(((hB.out.trans (hbW.mono (by omega))).trans (hbX.mono (by omega))).trans (hb3.mono (by omega))).trans ⟨hgr.os,hgr.tape,hgr.output,hgr.size,fun q hq=>hgr.block q (by have:=hb3.size; omega) (fun e=>by injection e with e; omega)⟩
   have hs4:w.heap.size+1≤W4.heap.size:=by have:=hb3.size; have:=hgr.size; omega
   have e0:W.cell? ⟨wr.heap.size,0,none⟩=some (sv o.key):=(cell_of hbox).trans rfl; have e1:W.cell? ⟨wr.heap.size,1,none⟩=some (sv o.name):=(cell_of hbox).trans rfl; have e2:W.cell? ⟨wr.heap.size,2,none⟩=some (.slice a3 o.args.length k3):=(cell_of hbox).trans rfl; have e3:W.cell? ⟨wr.heap.size,3,none⟩=some (.bool o.part):=(cell_of hbox).trans rfl; have e4:W.cell? ⟨wr.heap.size,4,none⟩=some (iv o.tick):=(cell_of hbox).trans rfl; have hbox3:=below_keep hb3 hboxX (by omega); have hbox4:=(hgr.block wr.heap.size (lt_of_some hbox3) (fun e=>by injection e with e; omega)).trans hbox3; have qX:_∧_∧_∧_∧_:=⟨(cell_of (i:=0) hboxX).trans rfl,(cell_of (i:=1) hboxX).trans rfl,(cell_of (i:=2) hboxX).trans rfl,(cell_of (i:=3) hboxX).trans rfl,(cell_of (i:=4) hboxX).trans rfl⟩
   have q3:_∧_∧_∧_∧_:=⟨(cell_of (i:=0) hbox3).trans rfl,(cell_of (i:=1) hbox3).trans rfl,(cell_of (i:=2) hbox3).trans rfl,(cell_of (i:=3) hbox3).trans rfl,(cell_of (i:=4) hbox3).trans rfl⟩; have q4:_∧_∧_∧_∧_:=⟨(cell_of (i:=0) hbox4).trans rfl,(cell_of (i:=1) hbox4).trans rfl,(cell_of (i:=2) hbox4).trans rfl,(cell_of (i:=3) hbox4).trans rfl,(cell_of (i:=4) hbox4).trans rfl⟩; replace hL4:=hid hL4; replace hB4:=hid hB4; clear h1 h1W h2 h3 h4 h5 hfn hLX hLW hm4 hgr hO3 hvo hb3 hboxX hbox3 hbox4 hsrc hsX hbX hbox hbW hkey hv hR hL hB hTg
   go_wp2_with fail
   go_region_held3 (fun w'=>w'.cell? ⟨wr.heap.size,0,none⟩=some (sv o.key)∧w'.cell? ⟨wr.heap.size,1,none⟩=some (sv o.name)∧w'.cell? ⟨wr.heap.size,2,none⟩=some (.slice a3 o.args.length k3)∧w'.cell? ⟨wr.heap.size,3,none⟩=some (.bool o.part)∧w'.cell? ⟨wr.heap.size,4,none⟩=some (iv o.tick)) (first | with_reducible exact qX | with_reducible exact q3 | with_reducible exact q4 | exact ⟨e0,e1,e2,e3,e4⟩ | go_keep) (first | (refine step_append_shut (by rfl) (.tmp 30) (.tmp 32) (by rfl) (by rfl) (by rfl) hap ?_))
   all_goals
    go_wp2_with fail
    exact ⟨⟨k+1,by go_num,by omega,hL4,hB4,hs4⟩,by simp [intOf]; omega⟩
  ·obtain rfl:n=k:=by omega
   have hL2:=hid (hL.out.perm hbl2.out hn2.out hnd.out hcn.out hcb.out hbc.out); replace hL:=hL2; clear hL2; clear hlt hb
   go_wp2_with fail
   go_loopw [37] (fun i wr=>∃ k:Nat,i=.int .i64 k∧k≤n∧Hid (LeftR c w.heap.size w.heap.size k n wr)∧Hid (Below w.heap.size w wr)∧w.heap.size+1≤wr.heap.size) (fun i _=>n - (intOf i).toNat)
   case atStart=>exact ⟨0,rfl,Nat.zero_le _,hL,hB,hsz⟩
   case round =>
    clear hL hB hsz hk; obtain ⟨k,rfl,hk,hL,hB,hsz⟩:=hrel; by_cases hlt:k < n
    ·obtain ⟨o,ho⟩:∃ o,a[k]? = some o:=⟨_,List.getElem?_eq_getElem (by rw [hal2.out]; exact hlt)⟩
     obtain ⟨⟨pk,pn,pa,pp,pt⟩,hp,e1,e2⟩:=hca.out k o ho; replace e1:pk=o.key:=e1; subst e1; have hpo:OutEq (⟨o.key,pn,pa,pp,pt⟩:Out) o:=⟨rfl,e2⟩
     have hpB:ValsB pa:=by
      obtain ⟨i,hi⟩:=hcb.out k _ hp; exact hlB.out _ (List.mem_of_getElem? hi)
     obtain ⟨g,of,cs,hidx,hTg,hg,hc,hR⟩:=(ha.out.mono goodOut (T:=fun q=>q < w.heap.size) (fun q hq _=>hq)).below goodOut hB.out |>.at (P:=Tryz.prog) (t:=23) (by kernel_rfl) (fun _=>by kernel_rfl) ho; rw [hal2.out] at hidx; obtain ⟨a3,k3,rfl,hv⟩:=id hR; have c0:=hc 0 _ rfl; have c1:=hc 1 _ rfl; have c2:=hc 2 _ rfl; have c3:=hc 3 _ rfl; have c4:=hc 4 _ rfl; rw [Nat.add_zero] at c0
     have hkey:=keyLitS o.key (by
      obtain ⟨i,hi⟩:=hcb.out k _ hp; have h9:=hkl.out _ (List.mem_of_getElem? hi)
      exact h9)
     have hoB:=haB.out o (List.mem_of_getElem? ho); clear hc; generalize hW:wr.alloc (.cells #[sv o.key,sv o.name,.slice a3 o.args.length k3,.bool o.part,iv o.tick] 37)=W at *; have hbW:Below wr.heap.size wr W:=hW ▸ (Below.refl _ wr).alloc (Nat.le_refl _) _
     have hsW:W.heap.size=wr.heap.size+1:=by rw [← hW]; simp
     have hbox:W.heap[wr.heap.size]? = some (.cells #[sv o.key,sv o.name,.slice a3 o.args.length k3,.bool o.part,iv o.tick] 37):=hW ▸ heap_alloc_new' wr _; have hLW:=hL.out.below hbW (by omega); obtain ⟨N,f,vs,h0,h2,h3,h4,h5⟩:=id hL.out.ex; have h1:=h0.below hbW h0.lt; obtain ⟨hfk,hrow0,g0,hvo,hg1,hg2,hg3⟩:=h3 k _ (Nat.le_refl _) hlt hp; have hrow:=hrow0.below goodOut hbW; clear hrow0; obtain ⟨g0',cp,hvs,-,-,-,-⟩:=hrow.form (by simp); rw [List.length_singleton] at hvs; have e0:W.cell? ⟨wr.heap.size,0,none⟩=some (sv o.key):=(cell_of hbox).trans rfl; rw [hvs] at hfk hrow hvo
     obtain rfl:g0'=g0:=by simpa [Value.ownBlock] using hvo
     have hlook:=h1.look K (t:=68) (e:=23) Tryz.underlying68 (z:=.slice none 0 0) (by kernel_rfl) hkey trivial; rw [hfk] at hlook; have hRW:=goodOut.below hR hbW
     have hcall:=indexFuncSame_any (fun x=>dec (OutEq x o)) [(⟨o.key,pn,pa,pp,pt⟩:Out)] (by simp) wr.heap.size _ _ W (hrow.sl goodOut) (fun x hx cs2 W2 hW2 hR2=>by
      obtain rfl:=List.mem_singleton.1 hx
      exact sameC_any o _ hoB hpB cs2 _ _ _ W2 wr.heap.size (below_keep hW2 hbox (by omega)) (goodOut.below hRW hW2) hR2)
     rw [show idxF (fun x=>dec (OutEq x o)) [(⟨o.key,pn,pa,pp,pt⟩:Out)]=((0:Nat):Int) from idxF_hit (k:=0) (x:=(⟨o.key,pn,pa,pp,pt⟩:Out)) rfl (dec_true hpo) (fun i y h=>absurd h (by omega))] at hcall; replace hcall:=hid hcall; replace hrow:=hid hrow; clear h0; replace hLW:=hid hLW; replace hbW:=hid hbW; have h1':=hid h1; have hfk':=hid hfk; replace ho:=hid ho; replace hp:=hid hp; replace hpo:=hid hpo; replace hpB:=hid hpB; clear e2
     have hN2:N≤200000:=by omega
     clear h1 h2 h3 h4 h5 hR hRW hvo hv hfk hL
     go_wp2_with fail
     refine hcall.out.mono ?_; rintro e W2 ⟨rfl,hb2⟩; clear e0; have hs2:=hb2.size; have hbox2:=below_keep hb2 hbox (by omega); have hL2:=hid (hLW.out.below hb2 (by omega)); have h12:=hid (h1'.out.below hb2 h1'.out.lt); have hB2:=hid ((hB.out.trans (hbW.out.mono (by omega))).trans (hb2.mono (by omega))); have hdel:=deleteOut_own [(⟨o.key,pn,pa,pp,pt⟩:Out)] (by simp) 0 (by simp) _ g0' cp W2.drew ((hrow.out.below goodOut hb2).drew goodOut); rw [show (((0:Nat):Int)+1)=1 from rfl,show ((0:Nat):Int)=0 from rfl,List.length_singleton] at hdel; replace hdel:=hid hdel; clear hb2 hcall hlook hrow hLW hbW; have q2:_∧_∧_∧_∧_:=⟨(cell_of (i:=0) hbox2).trans rfl,(cell_of (i:=1) hbox2).trans rfl,(cell_of (i:=2) hbox2).trans rfl,(cell_of (i:=3) hbox2).trans rfl,(cell_of (i:=4) hbox2).trans rfl⟩; have e0:=q2.1
     have e1:=q2.2.1; have e2:=q2.2.2.1; have e3:=q2.2.2.2.1; have e4:=q2.2.2.2.2
     go_wp2_with fail
     go_region_held3 (fun w'=>w'.cell? ⟨wr.heap.size,0,none⟩=some (sv o.key)∧w'.cell? ⟨wr.heap.size,1,none⟩=some (sv o.name)∧w'.cell? ⟨wr.heap.size,2,none⟩=some (.slice a3 o.args.length k3)∧w'.cell? ⟨wr.heap.size,3,none⟩=some (.bool o.part)∧w'.cell? ⟨wr.heap.size,4,none⟩=some (iv o.tick)) (first | with_reducible exact q3 | with_reducible exact q4 | exact q2 | go_keep)
      ((go_at_call 25; refine hdel.out.mono ?_; rintro e W3 ⟨v',rfl,-,hf3⟩; have hf3':Fr (fun q=>q=g0') W2 W3:=(Fr.refl _ W2).drew.trans hf3; have hbox3:=hf3'.keep hbox2 (fun h=>by { have h9:wr.heap.size=g0':=h; omega }); have q3:_∧_∧_∧_∧_:=⟨(cell_of (i:=0) hbox3).trans rfl,(cell_of (i:=1) hbox3).trans rfl,(cell_of (i:=2) hbox3).trans rfl,(cell_of (i:=3) hbox3).trans rfl,(cell_of (i:=4) hbox3).trans rfl⟩; have hs3:=hf3'.size; have h13:=h12.out.same (hf3'.block w.heap.size (by omega) (fun h=>hg2 h.symm)); obtain ⟨W4,hput,hm4,hgr⟩:=h13.put K (t:=68) (e:=23) Tryz.underlying68 (by unfold maxLen; omega) hkey trivial v'; have hbox4:=(hgr.block wr.heap.size (lt_of_some hbox3) (fun e=>by { injection e with e; omega })).trans hbox3; have q4:_∧_∧_∧_∧_:=⟨(cell_of (i:=0) hbox4).trans rfl,(cell_of (i:=1) hbox4).trans rfl,(cell_of (i:=2) hbox4).trans rfl,(cell_of (i:=3) hbox4).trans rfl,(cell_of (i:=4) hbox4).trans rfl⟩))
     all_goals
      have hL4:LeftR c w.heap.size w.heap.size (k+1) n W4:=by
       rw [hn2.out]; rw [hn2.out] at hL2
       exact hL2.out.pop hcn.out hp.out (g:=g0') (by omega) (by omega) (Nat.le_refl _) (fun v ⟨f',N',hm',hf'⟩=>by
       have hq1:=h12.out.look K (t:=68) (e:=23) Tryz.underlying68 (z:=.slice none 0 0) (by kernel_rfl) hkey trivial; have hq2:=hm'.look K (t:=68) (e:=23) Tryz.underlying68 (z:=.slice none 0 0) (by kernel_rfl) hkey trivial; rw [hfk'.out] at hq1; rw [hf'] at hq2; have hq3:=hq1.symm.trans hq2; injection hq3 with hq3 _
       rw [← show _=v from hq3]; rfl) hf3' v' (fun N' f' hm hN=>by
       obtain ⟨W5,hput5,hm5,-⟩:=hm.put K (t:=68) (e:=23) Tryz.underlying68 hN hkey trivial v'
       rw [hput] at hput5; injection hput5 with _ e; rw [e]; exact hm5) hgr (by unfold maxLen; have:=hn2.out; omega)
      have hB4:Below w.heap.size w W4:=(hB2.out.trans (hf3'.to_below (by omega) (fun q hq h=>by have h9:q=g0':=h; omega))).trans ⟨hgr.os,hgr.tape,hgr.output,hgr.size,fun q hq=>hgr.block q (by omega) (fun e=>by injection e with e; omega)⟩
      have hs4:w.heap.size+1≤W4.heap.size:=by have:=hgr.size; omega
      replace hL4:=hid hL4; replace hB4:=hid hB4; clear hgr hm4 hput h13 hf3 hf3' hdel q3 q4 hbox3 hbox4 q2 hbox2 e0 e1 e2 e3 e4 c0 c1 c2 c3 c4
      go_wp2_with fail
      exact ⟨⟨k+1,by go_num,by omega,hL4,hB4,hs4⟩,by simp [intOf]; omega⟩
    ·obtain rfl:n=k:=by omega
     go_wp2_with fail
     go_ret; exact ⟨rfl,hB.out⟩
end Go.Proofs.YtfejagpjahoibaaGreatDoor
