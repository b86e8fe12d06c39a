/- PlJ: PlK, PlJ, in one text. -/
import Derived.Test.YtfejagpjahoibaaGreatDoorPlN
import Derived.Test.YtfejagpjahoibaaGreatDoorPlD
import Derived.Test.YtfejagpjahoibaaGreatDoorSumH
import Derived.Test.YtfejagpjahoibaaGreatDoorTextW
import Derived.Test.YtfejagpjahoibaaGreatDoorClone
set_option linter.unusedVariables false
set_option linter.unusedSimpArgs false
namespace Go.Proofs.YtfejagpjahoibaaGreatDoor
open Go.RowKit
open Go.Lib (hid)
/-- the tables that the walks read -/
structure Tabs (w:World):Prop where
 r:TabR w
 t:Tab w
theorem Tabs.below {w w':World} (h:Tabs w) (hb:Below w.heap.size w w'):Tabs w':=⟨h.r.below hb (Nat.le_refl _),h.t.below hb⟩
theorem Tabs.from {w w0 w':World} (h:Tabs w0) (hs:w0.heap.size≤w.heap.size) (h0:Below w0.heap.size w0 w) (hb:Below w.heap.size w w'):Tabs w':=h.below (h0.trans (hb.mono hs))
def keyF (turn kind:Int) (of new:List UInt8):List UInt8:=115::hexF (shaF (ienc turn++nenc kind++tenc of++tenc new))
theorem keyF_len (turn kind:Int) (of new:List UInt8):(keyF turn kind of new).length=65:=by simp [keyF,hexF]
theorem nenc_len (n:Int) (h:n≤9223372036854775807):(nenc n).length≤9:=by
 unfold nenc; split
 ·simp
 ·exact (venc_bound _ (by omega)).2
set_option maxHeartbeats 4000000 in
set_option maxRecDepth 100000 in
theorem key_any (turn kind:Int) (of new:List UInt8) (w:World) (ht:Hid (Tabs w)) (hk:kind≤9223372036854775807) (ho:of.length≤1000) (hn:new.length≤1000) :
  Calls Tryz.prog 10 #[iv turn,iv kind,sv of,sv new] w fun e w'=>e=.returned (sv (keyF turn kind of new))∧Below w.heap.size w w':=by
 obtain ⟨A1,hA1⟩:∃ A,A=ienc turn:=⟨_,rfl⟩; obtain ⟨A2,hA2⟩:∃ A,A=nenc kind:=⟨_,rfl⟩; obtain ⟨A3,hA3⟩:∃ A,A=tenc of:=⟨_,rfl⟩; obtain ⟨A4,hA4⟩:∃ A,A=tenc new:=⟨_,rfl⟩; obtain ⟨D,hD⟩:∃ A,A=shaF (A1++A2++A3++A4):=⟨_,rfl⟩; obtain ⟨X,hX⟩:∃ A,A=hexF D:=⟨_,rfl⟩
 have hr:keyF turn kind of new=115::X:=by rw [hX,hD,hA1,hA2,hA3,hA4]; rfl
 rw [hr]
 have l1:A1.length≤9:=by rw [hA1]; exact ienc_bound turn
 have l2:A2.length≤9:=by rw [hA2]; exact nenc_len kind hk
 have l3:A3.length≤1009:=by rw [hA3]; unfold tenc; rw [List.length_append]; have:=(venc_bound of.length (by omega)).2; omega
 have l4:A4.length≤1009:=by rw [hA4]; unfold tenc; rw [List.length_append]; have:=(venc_bound new.length (by omega)).2; omega
 have lX:X.length=64:=by rw [hX]; simp [hexF]
 have lD:D.length=32:=by rw [hD]; simp [shaF]
 have c1:=hid (fun W=>int_any turn W); have c2:=hid (fun W=>num_any kind W hk); have c3:=hid (fun W=>text_any of W (by omega)); have c4:=hid (fun W=>text_any new W (by omega)); have c5:=hid (fun W hW=>sha_any (A1++A2++A3++A4) W hW (by simp only [List.length_append]; omega)); have c6:=hid (fun W=>hex_any D lD W); rw [← hA1] at c1; rw [← hA2] at c2; rw [← hA3] at c3; rw [← hA4] at c4; rw [← hD] at c5; rw [← hX] at c6
 have s1:¬ 9223372036854775807 < A1.length+A2.length:=by omega
 have s2:¬ 9223372036854775807 < A1.length+A2.length+A3.length:=by omega
 have s3:¬ 9223372036854775807 < A1.length+A2.length+A3.length+A4.length:=by omega
 have s4:¬ 9223372036854775807 < 1+X.length:=by omega
 clear hA1 hA2 hA3 hA4 hD hX hr l1 l2 l3 l4 lX lD
 go_enter Tryz.func10,Tryz.ntmps10
 go_wp2_with fail
 refine (c1.out _).mono ?_; rintro e w1 ⟨rfl,b1⟩
 go_wp2_with fail
 refine (c2.out _).mono ?_; rintro e w2 ⟨rfl,b2⟩; have B2:=b1.trans (b2.mono b1.size); clear b1 b2
 go_wp2_with fail
 refine (c3.out _).mono ?_; rintro e w3 ⟨rfl,b3⟩; have B3:=B2.trans (b3.mono B2.size); clear B2 b3
 go_wp2_with fail
 refine (c4.out _).mono ?_; rintro e w4 ⟨rfl,b4⟩; have B4:=hid (B3.trans (b4.mono B3.size)); clear B3 b4
 go_wp2_with fail
 rw [show Value.string ({ data:=A1.toArray }++{ data:=A2.toArray }++{ data:=A3.toArray }++{ data:=A4.toArray })=sv (A1++A2++A3++A4) from by simp [ByteArray.mk_append_mk]]; refine (c5.out _ (hid (ht.out.below B4.out).r)).mono ?_; rintro e w5 ⟨rfl,b5⟩; have B5:=hid (B4.out.trans (b5.mono B4.out.size)); clear b5
 go_wp2_with fail
 refine (c6.out _).mono ?_; rintro e w6 ⟨rfl,b6⟩; have B6:=hid (B5.out.trans (b6.mono B5.out.size)); clear b6
 go_wp2_with fail
 go_ret; exact ⟨by simp [ByteArray.mk_append_mk],B6.out⟩
def allowF (turn:Int) (R:List (List UInt8)) (kind:Int) (of new:List UInt8):Bool:=!decide (keyF turn kind of new∈R)
/-- what allows reads of a settlement -/
structure XA (xb rb:Nat) (turn:Int) (R:List (List UInt8)) (w:World):Prop where
 c2:w.cell? ⟨xb,2,none⟩=some (iv turn)
 c3:w.cell? ⟨xb,3,none⟩=some (.map (some rb))
 set:SetM rb R w
 lt:xb < w.heap.size
theorem XA.below {xb rb:Nat} {turn:Int} {R:List (List UInt8)} {w w':World} (h:XA xb rb turn R w) (hb:Below w.heap.size w w'):XA xb rb turn R w' :=
 ⟨(hb.cell (p:=⟨xb,2,none⟩) h.lt).trans h.c2,(hb.cell (p:=⟨xb,3,none⟩) h.lt).trans h.c3,h.set.below hb,Nat.lt_of_lt_of_le h.lt hb.size⟩
set_option maxHeartbeats 40000000 in
set_option maxRecDepth 100000 in
theorem allows_any (xb rb:Nat) (turn kind:Int) (R:List (List UInt8)) (of new:List UInt8) (w:World) (h:XA xb rb turn R w) (ht:Hid (Tabs w)) (hk:kind≤9223372036854775807) (ho:of.length≤1000) (hn:new.length≤1000) :
  Calls Tryz.prog 45 #[pt xb,iv kind,sv of,sv new] w fun e w'=>e=.returned (.bool (allowF turn R kind of new))∧Below w.heap.size w w':=by
 obtain ⟨c2,c3,hset,hlt⟩:=h; obtain ⟨mo,hmo⟩:=some_of_lt hset.lt
 have hset2:∀ W,W.heap[rb]? = some mo→SetM rb R W:=fun W hW=>hset.same (hW.trans hmo.symm)
 obtain ⟨xo,hxo⟩:=some_of_lt hlt; have hrl:=hset.lt
 obtain ⟨m,hlen,hm0⟩:∃ m:Nat,(∀ W,W.heap[rb]? = some mo→∀ ty,(Builtin.len_ #[94] ty #[.map (some rb)]).run Tryz.prog W=.ok (iv m) W)∧(m=0 ↔ R=[]):=by
  obtain ⟨m,h1,h2,h3⟩:=hset; exact ⟨m,fun W hW ty=>(h1.same (hW.trans hmo.symm)).len Tryz.underlying94 ty,h3⟩
 have e2:w.drew.cell? ⟨xb,2,none⟩=some (iv turn):=c2; have e3:w.drew.cell? ⟨xb,3,none⟩=some (.map (some rb)):=c3; have e4:w.drew.heap[rb]? = some mo:=hmo; have hBd:=hid (show Below w.heap.size w w.drew from (Below.refl _ w).drew); have hkey:=hid (fun W hW=>key_any turn kind of new W hW hk ho hn); obtain ⟨K9,hK9⟩:∃ K,K=keyF turn kind of new:=⟨_,rfl⟩
 have hK65:K9.length≤1048576:=by rw [hK9,keyF_len]; omega
 have hlook:=fun W hW=>(hset2 W hW).look (s:=K9) hK65
 have hal:allowF turn R kind of new = !decide (K9∈R):=by rw [hK9]; rfl
 rw [hal]; rw [← hK9] at hkey; replace hlen:=hid hlen; replace hlook:=hid hlook; replace hxo:=hid hxo; clear hset hset2 hK9 hal hmo c2 c3; by_cases hR:R=[]
 ·have hm:m=0:=hm0.2 hR
  subst hm; subst hR
  have hrr:(!decide (K9∈([]:List (List UInt8))))=true:=by simp
  rw [hrr]; clear hrr hm0 hkey hlook
  go_enter Tryz.func45,Tryz.ntmps45
  go_wp2_with fail
  refine wp_region_held_drew (S:=fun w'=>w'.cell? ⟨xb,2,none⟩=some (iv turn)∧w'.cell? ⟨xb,3,none⟩=some (.map (some rb))∧w'.heap[rb]? = some mo) (by kernel_rfl) ?_ (fun hHeld=>?_)
  ·exact ⟨e2,e3,e4⟩
  refine wTk (i:=0) (v:=?_) rfl ?hy ?_
  case hy =>
   intro w hSw; obtain ⟨s2,s3,s4⟩:=hSw; have hl:=hlen.out w s4; go_simp
   all_goals with_reducible rfl
  try simp only [Act.put,sI,sZ,sS]
  refine wTk (i:=1) (v:=?_) rfl ?hy ?_
  case hy =>
   intro w hSw; obtain ⟨s2,s3,s4⟩:=hSw; have hl:=hlen.out w s4; go_simp
   all_goals with_reducible rfl
  try simp only [Act.put,sI,sZ,sS]
  refine wTk (i:=2) (v:=?_) rfl ?hy ?_
  case hy =>
   intro w hSw; obtain ⟨s2,s3,s4⟩:=hSw; have hl:=hlen.out w s4; go_simp
   all_goals with_reducible rfl
  try simp only [Act.put,sI,sZ,sS]
  refine wTk (i:=3) (v:=?_) rfl ?hy ?_
  case hy =>
   intro w hSw; obtain ⟨s2,s3,s4⟩:=hSw; have hl:=hlen.out w s4; go_simp
   all_goals with_reducible rfl
  try simp only [Act.put,sI,sZ,sS]
  refine wTk (i:=4) (v:=?_) rfl ?hy ?_
  case hy =>
   intro w hSw; obtain ⟨s2,s3,s4⟩:=hSw; have hl:=hlen.out w s4; go_simp
   all_goals with_reducible rfl
  try simp only [Act.put,sI,sZ,sS]
  refine wTk (i:=5) (v:=?_) rfl ?hy ?_
  case hy =>
   intro w hSw; obtain ⟨s2,s3,s4⟩:=hSw; have hl:=hlen.out w s4; go_simp
   all_goals with_reducible rfl
  try simp only [Act.put,sI,sZ,sS]
  refine wTk (i:=6) (v:=?_) rfl ?hy ?_
  case hy =>
   intro w hSw; obtain ⟨s2,s3,s4⟩:=hSw; have hl:=hlen.out w s4; go_simp
   all_goals with_reducible rfl
  try simp only [Act.put,sI,sZ,sS]
  refine wpAnyH_take (i:=7) (oi:=⟨_,_,_,_,_,_⟩) (v:=undef) rfl (by as_aux_lemma=>kernel_rfl) (by as_aux_lemma=>kernel_rfl) (by as_aux_lemma=>kernel_rfl) (fun _ _ _ h=>h) (Or.inr ⟨by rfl,rfl⟩) (by assumption) ?_
  try simp only [Act.put,sI,sZ,sS]
  refine wpAnyH_take (i:=8) (oi:=⟨_,_,_,_,_,_⟩) (v:=undef) rfl (by as_aux_lemma=>kernel_rfl) (by as_aux_lemma=>kernel_rfl) (by as_aux_lemma=>kernel_rfl) (fun _ _ _ h=>h) (Or.inr ⟨by rfl,rfl⟩) (by assumption) ?_
  try simp only [Act.put,sI,sZ,sS]
  refine wpAnyH_take (i:=9) (oi:=⟨_,_,_,_,_,_⟩) (v:=undef) rfl (by as_aux_lemma=>kernel_rfl) (by as_aux_lemma=>kernel_rfl) (by as_aux_lemma=>kernel_rfl) (fun _ _ _ h=>h) (Or.inr ⟨by rfl,rfl⟩) (by assumption) ?_
  try simp only [Act.put,sI,sZ,sS]
  refine wpAnyH_take (i:=10) (oi:=⟨_,_,_,_,_,_⟩) (v:=undef) rfl (by as_aux_lemma=>kernel_rfl) (by as_aux_lemma=>kernel_rfl) (by as_aux_lemma=>kernel_rfl) (fun _ _ _ h=>h) (Or.inr ⟨by rfl,rfl⟩) (by assumption) ?_
  try simp only [Act.put,sI,sZ,sS]
  refine wpAnyH_take (i:=11) (oi:=⟨_,_,_,_,_,_⟩) (v:=undef) rfl (by as_aux_lemma=>kernel_rfl) (by as_aux_lemma=>kernel_rfl) (by as_aux_lemma=>kernel_rfl) (fun _ _ _ h=>h) (Or.inr ⟨by rfl,rfl⟩) (by assumption) ?_
  try simp only [Act.put,sI,sZ,sS]
  refine wpAnyH_take (i:=12) (oi:=⟨_,_,_,_,_,_⟩) (v:=undef) rfl (by as_aux_lemma=>kernel_rfl) (by as_aux_lemma=>kernel_rfl) (by as_aux_lemma=>kernel_rfl) (fun _ _ _ h=>h) (Or.inr ⟨by rfl,rfl⟩) (by assumption) ?_
  try simp only [Act.put,sI,sZ,sS]
  refine wpAnyH_take (i:=13) (oi:=⟨_,_,_,_,_,_⟩) (v:=undef) rfl (by as_aux_lemma=>kernel_rfl) (by as_aux_lemma=>kernel_rfl) (by as_aux_lemma=>kernel_rfl) (fun _ _ _ h=>h) (Or.inr ⟨by rfl,rfl⟩) (by assumption) ?_
  try simp only [Act.put,sI,sZ,sS]
  refine wpAnyH_take (i:=14) (oi:=⟨_,_,_,_,_,_⟩) (v:=undef) rfl (by as_aux_lemma=>kernel_rfl) (by as_aux_lemma=>kernel_rfl) (by as_aux_lemma=>kernel_rfl) (fun _ _ _ h=>h) (Or.inr ⟨by rfl,rfl⟩) (by assumption) ?_
  try simp only [Act.put,sI,sZ,sS]
  refine wpAnyH_take (i:=15) (oi:=⟨_,_,_,_,_,_⟩) (v:=undef) rfl (by as_aux_lemma=>kernel_rfl) (by as_aux_lemma=>kernel_rfl) (by as_aux_lemma=>kernel_rfl) (fun _ _ _ h=>h) (Or.inr ⟨by rfl,rfl⟩) (by assumption) ?_
  try simp only [Act.put,sI,sZ,sS]
  refine wpAnyH_take (i:=16) (oi:=⟨_,_,_,_,_,_⟩) (v:=undef) rfl (by as_aux_lemma=>kernel_rfl) (by as_aux_lemma=>kernel_rfl) (by as_aux_lemma=>kernel_rfl) (fun _ _ _ h=>h) (Or.inr ⟨by rfl,rfl⟩) (by assumption) ?_
  try simp only [Act.put,sI,sZ,sS]
  refine wpAnyH_take (i:=17) (oi:=⟨_,_,_,_,_,_⟩) (v:=undef) rfl (by as_aux_lemma=>kernel_rfl) (by as_aux_lemma=>kernel_rfl) (by as_aux_lemma=>kernel_rfl) (fun _ _ _ h=>h) (Or.inr ⟨by rfl,rfl⟩) (by assumption) ?_
  try simp only [Act.put,sI,sZ,sS]
  refine wpAnyH_take (i:=18) (oi:=⟨_,_,_,_,_,_⟩) (v:=undef) rfl (by as_aux_lemma=>kernel_rfl) (by as_aux_lemma=>kernel_rfl) (by as_aux_lemma=>kernel_rfl) (fun _ _ _ h=>h) (Or.inr ⟨by rfl,rfl⟩) (by assumption) ?_
  try simp only [Act.put,sI,sZ,sS]
  refine wpAnyH_take (i:=19) (oi:=⟨_,_,_,_,_,_⟩) (v:=undef) rfl (by as_aux_lemma=>kernel_rfl) (by as_aux_lemma=>kernel_rfl) (by as_aux_lemma=>kernel_rfl) (fun _ _ _ h=>h) (Or.inr ⟨by rfl,rfl⟩) (by assumption) ?_
  try simp only [Act.put,sI,sZ,sS]
  refine wpAnyH_take (i:=20) (oi:=⟨_,_,_,_,_,_⟩) (v:=undef) rfl (by as_aux_lemma=>kernel_rfl) (by as_aux_lemma=>kernel_rfl) (by as_aux_lemma=>kernel_rfl) (fun _ _ _ h=>h) (Or.inr ⟨by rfl,rfl⟩) (by assumption) ?_
  try simp only [Act.put,sI,sZ,sS]
  refine wTk (i:=21) (v:=?_) rfl ?hy ?_
  case hy =>
   intro w hSw; obtain ⟨s2,s3,s4⟩:=hSw; have hl:=hlen.out w s4; go_simp
   all_goals with_reducible rfl
  try simp only [Act.put,sI,sZ,sS]
  refine wTk (i:=22) (v:=?_) rfl ?hy ?_
  case hy =>
   intro w hSw; obtain ⟨s2,s3,s4⟩:=hSw; have hl:=hlen.out w s4; go_simp
   all_goals with_reducible rfl
  try simp only [Act.put,sI,sZ,sS]
  refine wpAnyH_done (by as_aux_lemma=>kernel_rfl) ?_ _
  go_wp2_with fail
  go_ret; exact ⟨rfl,hBd.out⟩
 ·have hm:¬ m=0:=fun e=>hR (hm0.1 e)
  have hm1:((m:Int) == 0)=false:=by simp; omega
  have hm2:¬ ((m:Int)=0):=by omega
  obtain ⟨b,hb⟩:∃ b,b=decide (K9∈R):=⟨_,rfl⟩; rw [← hb] at hlook ⊢; clear hb hR hm0
  go_enter Tryz.func45,Tryz.ntmps45
  go_wp2_with fail
  refine wp_region_held_drew (S:=fun w'=>w'.cell? ⟨xb,2,none⟩=some (iv turn)∧w'.cell? ⟨xb,3,none⟩=some (.map (some rb))∧w'.heap[rb]? = some mo) (by kernel_rfl) ?_ (fun hHeld=>?_)
  ·exact ⟨e2,e3,e4⟩
  refine wTk (i:=0) (v:=?_) rfl ?hy ?_
  case hy =>
   intro w hSw; obtain ⟨s2,s3,s4⟩:=hSw; have hl:=hlen.out w s4; have hk:=hlook.out w s4; go_simp
   all_goals with_reducible rfl
  try simp only [Act.put,sI,sZ,sS]
  refine wTk (i:=1) (v:=?_) rfl ?hy ?_
  case hy =>
   intro w hSw; obtain ⟨s2,s3,s4⟩:=hSw; have hl:=hlen.out w s4; have hk:=hlook.out w s4; go_simp
   all_goals with_reducible rfl
  try simp only [Act.put,sI,sZ,sS]
  refine wTk (i:=2) (v:=?_) rfl ?hy ?_
  case hy =>
   intro w hSw; obtain ⟨s2,s3,s4⟩:=hSw; have hl:=hlen.out w s4; have hk:=hlook.out w s4; go_simp
   all_goals with_reducible rfl
  try simp only [Act.put,sI,sZ,sS]
  refine wTk (i:=3) (v:=?_) rfl ?hy ?_
  case hy =>
   intro w hSw; obtain ⟨s2,s3,s4⟩:=hSw; have hl:=hlen.out w s4; have hk:=hlook.out w s4; go_simp
   all_goals with_reducible rfl
  try simp only [Act.put,sI,sZ,sS]
  refine wTk (i:=4) (v:=?_) rfl ?hy ?_
  case hy =>
   intro w hSw; obtain ⟨s2,s3,s4⟩:=hSw; have hl:=hlen.out w s4; have hk:=hlook.out w s4; go_simp
   all_goals with_reducible rfl
  try simp only [Act.put,sI,sZ,sS]
  refine wTk (i:=5) (v:=?_) rfl ?hy ?_
  case hy =>
   intro w hSw; obtain ⟨s2,s3,s4⟩:=hSw; have hl:=hlen.out w s4; have hk:=hlook.out w s4; go_simp
   all_goals with_reducible rfl
  try simp only [Act.put,sI,sZ,sS]
  refine wTk (i:=6) (v:=?_) rfl ?hy ?_
  case hy =>
   intro w hSw; obtain ⟨s2,s3,s4⟩:=hSw; have hl:=hlen.out w s4; have hk:=hlook.out w s4; go_simp
   all_goals with_reducible rfl
  try simp only [Act.put,sI,sZ,sS]
  refine wTk (i:=7) (v:=?_) rfl ?hy ?_
  case hy =>
   intro w hSw; obtain ⟨s2,s3,s4⟩:=hSw; have hl:=hlen.out w s4; have hk:=hlook.out w s4; go_simp
   all_goals with_reducible rfl
  try simp only [Act.put,sI,sZ,sS]
  refine wTk (i:=8) (v:=?_) rfl ?hy ?_
  case hy =>
   intro w hSw; obtain ⟨s2,s3,s4⟩:=hSw; have hl:=hlen.out w s4; have hk:=hlook.out w s4; go_simp
   all_goals with_reducible rfl
  try simp only [Act.put,sI,sZ,sS]
  refine wTk (i:=9) (v:=?_) rfl ?hy ?_
  case hy =>
   intro w hSw; obtain ⟨s2,s3,s4⟩:=hSw; have hl:=hlen.out w s4; have hk:=hlook.out w s4; go_simp
   all_goals with_reducible rfl
  try simp only [Act.put,sI,sZ,sS]
  refine wTk (i:=10) (v:=?_) rfl ?hy ?_
  case hy =>
   intro w hSw; obtain ⟨s2,s3,s4⟩:=hSw; have hl:=hlen.out w s4; have hk:=hlook.out w s4; go_simp
   all_goals with_reducible rfl
  try simp only [Act.put,sI,sZ,sS]
  refine wTk (i:=11) (v:=?_) rfl ?hy ?_
  case hy =>
   intro w hSw; obtain ⟨s2,s3,s4⟩:=hSw; have hl:=hlen.out w s4; have hk:=hlook.out w s4; go_simp
   all_goals with_reducible rfl
  try simp only [Act.put,sI,sZ,sS]
  refine wTk (i:=12) (v:=?_) rfl ?hy ?_
  case hy =>
   intro w hSw; obtain ⟨s2,s3,s4⟩:=hSw; have hl:=hlen.out w s4; have hk:=hlook.out w s4; go_simp
   all_goals with_reducible rfl
  try simp only [Act.put,sI,sZ,sS]
  refine wTk (i:=13) (v:=?_) rfl ?hy ?_
  case hy =>
   intro w hSw; obtain ⟨s2,s3,s4⟩:=hSw; have hl:=hlen.out w s4; have hk:=hlook.out w s4; go_simp
   all_goals with_reducible rfl
  try simp only [Act.put,sI,sZ,sS]
  refine wTk (i:=14) (v:=?_) rfl ?hy ?_
  case hy =>
   intro w hSw; obtain ⟨s2,s3,s4⟩:=hSw; have hl:=hlen.out w s4; have hk:=hlook.out w s4; go_simp
   all_goals with_reducible rfl
  try simp only [Act.put,sI,sZ,sS]
  refine wTk (i:=15) (v:=?_) rfl ?hy ?_
  case hy =>
   intro w hSw; obtain ⟨s2,s3,s4⟩:=hSw; have hl:=hlen.out w s4; have hk:=hlook.out w s4; go_simp
   all_goals with_reducible rfl
  try simp only [Act.put,sI,sZ,sS]
  refine wTk (i:=16) (v:=?_) rfl ?hy ?_
  case hy =>
   intro w hSw; obtain ⟨s2,s3,s4⟩:=hSw; have hl:=hlen.out w s4; have hk:=hlook.out w s4; go_simp
   all_goals with_reducible rfl
  try simp only [Act.put,sI,sZ,sS]
  refine wTk (i:=17) (v:=?_) rfl ?hy ?_
  case hy =>
   intro w hSw; obtain ⟨s2,s3,s4⟩:=hSw; have hl:=hlen.out w s4; have hk:=hlook.out w s4; go_simp
   all_goals with_reducible rfl
  try simp only [Act.put,sI,sZ,sS]
  refine wpAnyH_ready (rs:=[18]) (by as_aux_lemma=>kernel_rfl) (by simp) ?_; refine rdY rfl (fun K hK=>?_); go_simp
  go_at_call 10
  with_reducible refine (hkey.out _ (hid (ht.out.below hBd.out))).mono ?_
  rintro e W6 ⟨rfl,hb6⟩; have f2:=(hb6.cell (p:=⟨xb,2,none⟩) (show xb < w.drew.heap.size from hlt)).trans e2; have f3:=(hb6.cell (p:=⟨xb,3,none⟩) (show xb < w.drew.heap.size from hlt)).trans e3; have f4:=(hb6.block rb (show rb < w.drew.heap.size from hrl)).trans e4; have hBf:=hid (hBd.out.trans (hb6.mono (Nat.le_refl _))); clear hb6; refine hK.out _ _ ?_ (fun hHeld2=>?_)
  ·exact ⟨f2,f3,f4⟩
  clear hK K hHeld; have hHeld:=hHeld2; clear hHeld2
  try simp only [Act.put,sI,sZ,sS]
  refine wTk (i:=19) (v:=?_) rfl ?hy ?_
  case hy =>
   intro w hSw; obtain ⟨s2,s3,s4⟩:=hSw; have hl:=hlen.out w s4; have hk:=hlook.out w s4; go_simp
   all_goals with_reducible rfl
  try simp only [Act.put,sI,sZ,sS]
  refine wTk (i:=20) (v:=?_) rfl ?hy ?_
  case hy =>
   intro w hSw; obtain ⟨s2,s3,s4⟩:=hSw; have hl:=hlen.out w s4; have hk:=hlook.out w s4; go_simp
   all_goals with_reducible rfl
  try simp only [Act.put,sI,sZ,sS]
  refine wTk (i:=21) (v:=?_) rfl ?hy ?_
  case hy =>
   intro w hSw; obtain ⟨s2,s3,s4⟩:=hSw; have hl:=hlen.out w s4; have hk:=hlook.out w s4; go_simp
   all_goals with_reducible rfl
  try simp only [Act.put,sI,sZ,sS]
  refine wTk (i:=22) (v:=?_) rfl ?hy ?_
  case hy =>
   intro w hSw; obtain ⟨s2,s3,s4⟩:=hSw; have hl:=hlen.out w s4; have hk:=hlook.out w s4; go_simp
   all_goals with_reducible rfl
  try simp only [Act.put,sI,sZ,sS]
  refine wpAnyH_done (by as_aux_lemma=>kernel_rfl) ?_ _
  go_wp2_with fail
  go_ret; exact ⟨rfl,hBf.out⟩
end Go.Proofs.YtfejagpjahoibaaGreatDoor
set_option linter.unusedSimpArgs false
namespace Go.Proofs.YtfejagpjahoibaaGreatDoor
open Go.RowKit
open Go.Lib (hid)
def distF (l:List Out):Bool:=decide (([]::l.map Out.key).Nodup)
theorem takeKey {l:List Out} {i:Nat} {x:Out} (hx:l[i]? = some x):(l.take (i+1)).map Out.key=(l.take i).map Out.key++[x.key]:=by
 rw [List.take_add_one,hx]; simp
def seenK (l:List Out) (i:Nat):List (List UInt8):=((l.take i).map Out.key).reverse++[[]]
theorem seen_next {l:List Out} {i:Nat} {x:Out} (hx:l[i]? = some x):x.key::seenK l i=seenK l (i+1):=by
 unfold seenK; rw [takeKey hx,List.reverse_append]; rfl
theorem seen_perm (l:List Out) (i:Nat):(seenK l i).Perm ([]::(l.take i).map Out.key):=by
 unfold seenK; exact (List.perm_append_comm).trans (List.Perm.cons _ (List.reverse_perm _))
theorem seen_bad {l:List Out} {i:Nat} {x:Out} (hx:l[i]? = some x) (h:x.key∈seenK l i):distF l=false:=by
 unfold distF
 refine decide_eq_false fun hn=>?_
 have h1:([]::(l.take (i+1)).map Out.key).Nodup:=by
  rw [List.map_take]; exact hn.sublist (List.Sublist.cons_cons _ (List.take_sublist _ _))
 have h2:=(seen_perm l (i+1)).nodup_iff.2 h1; rw [← seen_next hx,List.nodup_cons] at h2; exact h2.1 h
set_option maxHeartbeats 4000000 in
set_option maxRecDepth 100000 in
theorem distinct_any (l:List Out) (S:Foot) (v:Value) (w:World) (hl:l.length≤1000000) (hk:∀ o∈l,o.key.length≤1048576) (hr:SlR 5 OutR S w l v) :
  Calls Tryz.prog 42 #[v] w fun e w'=>e=.returned (.bool (distF l))∧Below w.heap.size w w':=by
 obtain ⟨a,c,rfl,-⟩:=hr.slice; obtain ⟨res,hres⟩:∃ r,r=distF l:=⟨_,rfl⟩; rw [← hres]; have hb1:Below w.heap.size w (w.alloc (.map #[] 0)):=(Below.refl _ w).alloc (Nat.le_refl _) _; have hset:=SetM.made w; obtain ⟨W1,hW1⟩:∃ W,W=w.alloc (.map #[] 0):=⟨_,rfl⟩; rw [← hW1] at hb1 hset
 have hmm:(Instr.makeMap 94 none).run Tryz.prog w=.ok (.map (some w.heap.size)) W1:=by rw [hW1]; exact run_makeMap _ _
 obtain ⟨W2,hup,hset2,hg2⟩:=hset.put (s:=[]) (by simp) (by simp); obtain ⟨mb,hmb⟩:∃ x,x=w.heap.size:=⟨_,rfl⟩; rw [← hmb] at hup hset2 hg2 hmm; have hb2:Below w.heap.size w W2:=hb1.trans (((Fr.refl (fun k=>k=mb) W1).grown hg2 (fun k hk=>Or.inl (by injection hk with hk; exact hk.symm))).to_below hb1.size fun k hk e=>by omega); have hS2:=hid (show SetM mb (seenK l 0) W2 from hset2); replace hb2:=hid hb2; replace hres:=hid hres; replace hr:=hid hr; replace hk:=hid hk; replace hW1:=hid hW1; have hmb':=hid hmb; clear hb1 hset hset2 hg2 hmb
 go_enter Tryz.func42,Tryz.ntmps42
 go_wp2_with fail
 go_loopg [5,10] l.length (fun f v5 v10 wr=>∃ i:Nat,v10=iv i∧i+f=l.length∧Hid (SetM mb (seenK l i) wr)∧Hid (Below w.heap.size w wr)∧Hid ((seenK l i).Nodup))
 case atStart=>exact ⟨0,rfl,by omega,hS2,hb2,hid (by simp [seenK])⟩
 case round =>
  obtain ⟨i,rfl,hif,hS,hB,hnd⟩:=hrel; clear hS2 hb2 hmm hup; by_cases hin:i < l.length
  ·have q1:decide ((i:Int) < (l.length:Int))=true:=decide_eq_true (by omega)
   have q1':decide (i < l.length)=true:=decide_eq_true hin; obtain ⟨x,hx⟩:∃ x,l[i]? = some x:=⟨_,List.getElem?_eq_getElem hin⟩; have hkl:=hk.out x (List.mem_of_getElem? hx); obtain ⟨g,o,cs,hidx,hS',hg,hc,hR⟩:=(hr.out.below goodOut hB.out).at (P:=Tryz.prog) (t:=23) (by kernel_rfl) (fun _=>by kernel_rfl) hx; obtain ⟨a1,k1,rfl,-⟩:=hR; have c0:=hc 0 _ rfl; have c1:=hc 1 _ rfl; have c2:=hc 2 _ rfl; have c3:=hc 3 _ rfl; have c4:=hc 4 _ rfl; rw [Nat.add_zero] at c0; have hba:Below wr.heap.size wr (wr.alloc (.cells #[sv x.key,sv x.name,.slice a1 x.args.length k1,.bool x.part,iv x.tick] 37 (0,0))):=(Below.refl _ wr).alloc (Nat.le_refl _) _; obtain ⟨W3,hW3⟩:∃ W,W=wr.alloc (.cells #[sv x.key,sv x.name,.slice a1 x.args.length k1,.bool x.part,iv x.tick] 37 (0,0)):=⟨_,rfl⟩
   rw [← hW3] at hba; have hS3:=hS.out.below hba; have hB3:=hid (hB.out.trans (hba.mono hB.out.size)); have hlk:=hS3.look (s:=x.key) hkl; obtain ⟨W4,hup,hS4,hg4⟩:=hS3.put (s:=x.key) hkl (by unfold seenK; simp; omega); have hB4:Below w.heap.size w W4:=hB3.out.trans (((Fr.refl (fun k=>k=mb) W3).grown hg4 (fun k hk=>Or.inl (by injection hk with hk; exact hk.symm))).to_below hB3.out.size fun k hk e=>by have:=hmb'.out; omega); rw [hW3] at hlk hup; replace hB4:=hid hB4; by_cases hd:x.key∈seenK l i
   ·have hfin:=hid (hres.out.trans (seen_bad hx hd))
    rw [decide_eq_true hd] at hlk; rw [hW3] at hB3; clear hd hS3 hS4 hg4 hW3 hx hc hup
    go_wp2_with fail
    go_ret; exact ⟨by rw [hfin.out]; rfl,hB3.out⟩
   ·have hnd2:=hid (show (seenK l (i+1)).Nodup from by rw [← seen_next hx,List.nodup_cons]; exact ⟨hd,hnd.out⟩)
    rw [decide_eq_false hd] at hlk; rw [seen_next hx] at hS4; replace hS4:=hid hS4; clear hd hS3 hg4 hW3 hx hc
    go_wp2_with fail
    go_roundg (l.length - (i+1))
    case measure=>omega
    case rel=>exact ⟨i+1,by go_num,by omega,hS4,hB4,hnd2⟩
  ·have q1:decide ((i:Int) < (l.length:Int))=false:=decide_eq_false (by omega)
   have q1':decide (i < l.length)=false:=decide_eq_false hin
   have hil:i=l.length:=by omega
   subst hil
   have hfin:=hid (hres.out.trans (show distF l=true from decide_eq_true (by
    have:=(seen_perm l l.length).nodup_iff.1 hnd.out
    rwa [List.take_length] at this)))
   go_wp2_with fail
   go_ret; exact ⟨by rw [hfin.out]; rfl,hB.out⟩
def opt0:Opt:=⟨0,0,8589934592⟩
def dropF (turn:Int) (R:List (List UInt8)) (fo:Option Offer) (u:Out) (clock:Int):Opt:=match fo with
 | none=>opt0
 | some o=>if canF o u.tick clock && allowF turn R 2 u.key [] then ⟨2,o.undo,o.undo⟩ else if decide (o.part≠-1) && !u.part && allowF turn R 3 u.key [] then ⟨3,o.part,134217728+o.part⟩ else opt0
theorem opt_cells {w:World} {R:Nat} {o:Opt} (h:w.heap[R]? = some (.cells (optCs o).toArray 102 (0,0))):w.cell? ⟨R,0,none⟩=some (iv o.kind)∧w.cell? ⟨R,1,none⟩=some (iv o.cost)∧w.cell? ⟨R,2,none⟩=some (iv o.weight)∧∀ i,w.frozen? ⟨R,i,none⟩=false :=
 ⟨(cell_of h).trans rfl,(cell_of h).trans rfl,(cell_of h).trans rfl,fun i=>free_of h⟩
abbrev setOpt (w:World) (R:Nat) (o:Opt):World:=((w.setCell ⟨R,0,none⟩ (iv o.kind)).setCell ⟨R,1,none⟩ (iv o.cost)).setCell ⟨R,2,none⟩ (iv o.weight)
theorem opt_set {w:World} {R:Nat} {o0:Opt} (h:w.heap[R]? = some (.cells (optCs o0).toArray 102 (0,0))) (o:Opt):(setOpt w R o).heap[R]? = some (.cells (optCs o).toArray 102 (0,0)):=by
 have a0:=heap_setCell_same h (i:=0) (iv o.kind); have a1:=heap_setCell_same a0 (i:=1) (iv o.cost); have a2:=heap_setCell_same a1 (i:=2) (iv o.weight); simpa [optCs] using a2
theorem below_setOpt {R:Nat} {a w:World} (h:Below a.heap.size a w) (hR:a.heap.size≤R) (o:Opt):Below a.heap.size a (setOpt w R o) :=
 below_set (below_set (below_set h hR _) hR _) hR _
def optZ:Opt:=⟨0,0,0⟩
set_option maxHeartbeats 4000000 in
set_option maxRecDepth 100000 in
theorem dropping_none (xb rb:Nat) (turn clock:Int) (R:List (List UInt8)) (u:Out) (va:Value) (w:World) :
  Calls Tryz.prog 44 #[pt xb,.agg (offCs off0).toArray,.bool false,.agg (outCs u va).toArray,iv clock] w fun e w'=>e=.returned (.agg (optCs opt0).toArray)∧Below w.heap.size w w':=by
 go_enter Tryz.func44,Tryz.ntmps44
 go_wp2_with fail
 have hs1:∀ o:Obj,(w.alloc o).heap.size=w.heap.size+1:=fun o=>by simp
 have hs2:∀ o p:Obj,((w.alloc o).alloc p).heap.size=w.heap.size+1+1:=fun o p=>by simp
 have hrow:=heap_alloc_new' ((w.alloc (.cells (offCs off0).toArray 45 (0,0))).alloc (.cells (outCs u va).toArray 37 (0,0))) (.cells (optCs opt0).toArray 102 (0,0)); rw [hs2] at hrow; refine bodyPost_ret (v:=.agg (optCs opt0).toArray) (results_cell_row (by rfl) _ _ (w.heap.size+1+1) 102 (optCs opt0).toArray (0,0) _ (by rfl) (hrow) Tryz.underlying102 rfl (by kernel_rfl)) rfl ⟨rfl,(((Below.refl _ w).alloc (Nat.le_refl _) _).alloc (by simp) _).alloc (by simp; omega) _⟩
set_option maxHeartbeats 40000000 in
set_option maxRecDepth 100000 in
theorem dropping_some (xb rb:Nat) (turn clock:Int) (R:List (List UInt8)) (onm:List UInt8) (odo ud odu pa oam:Int) (ky unm:List UInt8) (ua:List Val) (x4:Bool) (tc:Int) (va:Value) (w:World) (h:XA xb rb turn R w) (ht:Hid (Tabs w)) (hk:ky.length≤1000) (hp0:-1≤pa) (hp1:pa≤1048576) :
  Calls Tryz.prog 44 #[pt xb,.agg #[sv onm,iv odo,iv ud,iv odu,iv pa,iv oam],.bool true,.agg #[sv ky,sv unm,va,.bool x4,iv tc],iv clock] w fun e w'=>e=.returned (.agg (optCs (dropF turn R (some ⟨onm,odo,ud,odu,pa,oam⟩) ⟨ky,unm,ua,x4,tc⟩ clock)).toArray)∧Below w.heap.size w w':=by
 obtain ⟨res,hres⟩:∃ r,r=dropF turn R (some ⟨onm,odo,ud,odu,pa,oam⟩) ⟨ky,unm,ua,x4,tc⟩ clock:=⟨_,rfl⟩; rw [← hres]; have b1:Below w.heap.size w (w.alloc (.cells #[sv onm,iv odo,iv ud,iv odu,iv pa,iv oam] 45 (0,0))):=(Below.refl _ w).alloc (Nat.le_refl _) _; have r1:=heap_alloc_new' w (.cells #[sv onm,iv odo,iv ud,iv odu,iv pa,iv oam] 45 (0,0))
 have s1:(w.alloc (.cells #[sv onm,iv odo,iv ud,iv odu,iv pa,iv oam] 45 (0,0))).heap.size=w.heap.size+1:=by simp
 obtain ⟨W1,hW1⟩:∃ W,W=w.alloc (.cells #[sv onm,iv odo,iv ud,iv odu,iv pa,iv oam] 45 (0,0)):=⟨_,rfl⟩; rw [← hW1] at b1 r1 s1; have b2:Below W1.heap.size W1 (W1.alloc (.cells #[sv ky,sv unm,va,.bool x4,iv tc] 37 (0,0))):=(Below.refl _ W1).alloc (Nat.le_refl _) _; have r2:=heap_alloc_new' W1 (.cells #[sv ky,sv unm,va,.bool x4,iv tc] 37 (0,0))
 have s2:(W1.alloc (.cells #[sv ky,sv unm,va,.bool x4,iv tc] 37 (0,0))).heap.size=w.heap.size+1+1:=by simp; omega
 obtain ⟨W2,hW2⟩:∃ W,W=W1.alloc (.cells #[sv ky,sv unm,va,.bool x4,iv tc] 37 (0,0)):=⟨_,rfl⟩; rw [← hW2] at b2 r2 s2; have b3:Below W2.heap.size W2 (W2.alloc (.cells #[.int .i64 0,.int .i64 0,.int .i64 0] 102 (0,0))):=(Below.refl _ W2).alloc (Nat.le_refl _) _; have r3:=heap_alloc_new' W2 (.cells #[.int .i64 0,.int .i64 0,.int .i64 0] 102 (0,0))
 have s3:(W2.alloc (.cells #[.int .i64 0,.int .i64 0,.int .i64 0] 102 (0,0))).heap.size=w.heap.size+1+1+1:=by simp; omega
 obtain ⟨W3,hW3⟩:∃ W,W=W2.alloc (.cells #[.int .i64 0,.int .i64 0,.int .i64 0] 102 (0,0)):=⟨_,rfl⟩; rw [← hW3] at b3 r3 s3; rw [s1] at r2; rw [s2] at r3; have B2:=b1.trans (b2.mono (by omega)); have B3:=B2.trans (b3.mono (by omega)); have hXA:=h.below B3
 have r1':W3.heap[w.heap.size]? = some (.cells #[sv onm,iv odo,iv ud,iv odu,iv pa,iv oam] 45 (0,0)):=by rw [b3.block _ (by omega),b2.block _ (by omega)]; exact r1
 have r2':W3.heap[w.heap.size+1]? = some (.cells #[sv ky,sv unm,va,.bool x4,iv tc] 37 (0,0)):=by rw [b3.block _ (by omega)]; exact r2
 have hcells:=hid (fun W (hW:Below W3.heap.size W3 W)=>(⟨(hW.cell (p:=⟨w.heap.size,2,none⟩) (show w.heap.size < W3.heap.size by omega)).trans ((cell_of r1').trans rfl),(hW.cell (p:=⟨w.heap.size,4,none⟩) (show w.heap.size < W3.heap.size by omega)).trans ((cell_of r1').trans rfl),
  (hW.cell (p:=⟨w.heap.size+1,0,none⟩) (show w.heap.size+1 < W3.heap.size by omega)).trans ((cell_of r2').trans rfl),(hW.cell (p:=⟨w.heap.size+1,3,none⟩) (show w.heap.size+1 < W3.heap.size by omega)).trans ((cell_of r2').trans rfl),
  (hW.block _ (show w.heap.size+1+1 < W3.heap.size by omega)).trans r3⟩:W.cell? ⟨w.heap.size,2,none⟩=some (iv ud)∧W.cell? ⟨w.heap.size,4,none⟩=some (iv pa)∧W.cell? ⟨w.heap.size+1,0,none⟩=some (sv ky)∧W.cell? ⟨w.heap.size+1,3,none⟩=some (.bool x4) ∧
   W.heap[w.heap.size+1+1]? = some (.cells (optCs optZ).toArray 102 (0,0))))
 have hal2:=hid (fun W (hW:Below W3.heap.size W3 W)=>allows_any xb rb turn 2 R ky [] W (hXA.below hW) (hid (ht.out.below (B3.trans (hW.mono B3.size)))) (by omega) hk (by simp)); have hal3:=hid (fun W (hW:Below W3.heap.size W3 W)=>allows_any xb rb turn 3 R ky [] W (hXA.below hW) (hid (ht.out.below (B3.trans (hW.mono B3.size)))) (by omega) hk (by simp)); obtain ⟨x2,hx2⟩:∃ x,x=allowF turn R 2 ky []:=⟨_,rfl⟩; obtain ⟨x5,hx5⟩:∃ x,x=allowF turn R 3 ky []:=⟨_,rfl⟩; rw [← hx2] at hal2; rw [← hx5] at hal3; have hBz:=hid (fun W (hW:Below W3.heap.size W3 W) (o:Opt)=>below_setOpt (R:=w.heap.size+1+1) (B3.trans (hW.mono B3.size)) (by omega) o); have hbel0:=hid (show Below W3.heap.size W3 W3 from Below.refl _ _); obtain ⟨x1,hx1⟩:∃ x,x=canF ⟨onm,odo,ud,odu,pa,oam⟩ tc clock:=⟨_,rfl⟩
 obtain ⟨x3,hx3⟩:∃ x,decide (pa≠-1)=x:=⟨_,rfl⟩
 have hfin:res=if x1 && x2 then ⟨2,ud,ud⟩ else if x3 && !x4 && x5 then ⟨3,pa,134217728+pa⟩ else opt0:=by
  rw [hres,hx1,hx2,← hx3,hx5]; rfl
 have hcan:=can_any ⟨onm,odo,ud,odu,pa,oam⟩ tc clock W3; rw [← hx1] at hcan; rw [hW3,hW2,hW1] at hcan; have hWe:=hid (show W3=(((w.alloc (.cells #[sv onm,iv odo,iv ud,iv odu,iv pa,iv oam] 45 (0,0))).alloc (.cells #[sv ky,sv unm,va,.bool x4,iv tc] 37 (0,0))).alloc (.cells #[.int .i64 0,.int .i64 0,.int .i64 0] 102 (0,0))) from by rw [hW3,hW2,hW1]); replace hcan:=hid hcan
 have w5:IntKind.i64.wrap (134217728+pa)=134217728+pa:=by rw [IntKind.wrap_i64]; omega
 have hn1:(pa != -1)=x3:=by rw [← hx3]; by_cases e:pa = -1 <;> simp [e]
 have hn2:(pa == -1) = !x3:=by rw [← hx3]; by_cases e:pa = -1 <;> simp [e]
 have hn3:x3=true→¬ pa = -1:=fun h=>by rw [← hx3] at h; simpa using h
 have hn4:x3=false→pa = -1:=fun h=>by rw [← hx3] at h; simpa using h
 replace hn3:=hid hn3; replace hn4:=hid hn4; have hres':=hid hres; clear hx1 hx2 hx3 hx5 hp0 hp1 b1 b2 b3 B2 B3 s1 s2 s3 r1 r2 r3 r1' r2' hXA hres hW1 hW2 hW3 W1 W2; replace hfin:=hid hfin
 go_enter Tryz.func44,Tryz.ntmps44
 go_wp2_with fail
 refine hcan.out.mono ?_; rintro e W4 ⟨rfl,hb4⟩; rw [← hWe.out] at hb4; have hbel:=hid hb4; obtain ⟨y2,y4,y6,y7,y9⟩:=hcells.out W4 hb4; obtain ⟨q0,q1,q2,qz⟩:=opt_cells y9; clear y9 hb4 hcan hbel0 hWe
 cases x1 with
 | true =>
  go_wp2_with fail
  with_reducible refine (hal2.out _ hbel.out).mono ?_
  rintro e W5 ⟨rfl,hb5⟩; have hbel5:=hid (hbel.out.trans (hb5.mono hbel.out.size)); clear hbel q0 q1 q2 qz y2 y4 y6 y7 hb5; obtain ⟨y2,y4,y6,y7,y9⟩:=hcells.out W5 hbel5.out; obtain ⟨q0,q1,q2,qz⟩:=opt_cells y9; have hbel:=hbel5; clear y9 hbel5
  cases x2 with
  | true =>
   clear hn1 hn2
   go_wp2_with fail
   refine bodyPost_ret (v:=.agg (optCs ⟨2,ud,ud⟩).toArray) (results_cell_row (by rfl) _ _ (w.heap.size+1+1) 102 (optCs ⟨2,ud,ud⟩).toArray (0,0) _ (by rfl) (opt_set (hcells.out _ hbel.out).2.2.2.2 ⟨2,ud,ud⟩) Tryz.underlying102 rfl (by kernel_rfl)) rfl ⟨by rw [hfin.out]; rfl,hBz.out _ hbel.out ⟨2,ud,ud⟩⟩
  | false =>
   cases x3 with
   | false =>
    go_wp2_with fail
    refine bodyPost_ret (v:=.agg (optCs opt0).toArray) (results_cell_row (by rfl) _ _ (w.heap.size+1+1) 102 (optCs opt0).toArray (0,0) _ (by rfl) (opt_set (hcells.out _ hbel.out).2.2.2.2 opt0) Tryz.underlying102 rfl (by kernel_rfl)) rfl ⟨by rw [hfin.out]; rfl,hBz.out _ hbel.out opt0⟩
   | true =>
    have hn5:=hn3.out rfl
    cases x4 with
    | true =>
     go_wp2_with fail
     refine bodyPost_ret (v:=.agg (optCs opt0).toArray) (results_cell_row (by rfl) _ _ (w.heap.size+1+1) 102 (optCs opt0).toArray (0,0) _ (by rfl) (opt_set (hcells.out _ hbel.out).2.2.2.2 opt0) Tryz.underlying102 rfl (by kernel_rfl)) rfl ⟨by rw [hfin.out]; rfl,hBz.out _ hbel.out opt0⟩
    | false =>
     go_wp2_with fail
     with_reducible refine (hal3.out _ hbel.out).mono ?_
     rintro e W6 ⟨rfl,hb6⟩; have hbel6:=hid (hbel.out.trans (hb6.mono hbel.out.size)); clear hbel q0 q1 q2 qz y2 y4 y6 y7 hb6; obtain ⟨y2,y4,y6,y7,y9⟩:=hcells.out W6 hbel6.out; obtain ⟨q0,q1,q2,qz⟩:=opt_cells y9; have hbel:=hbel6; clear y9 hbel6
     cases x5 with
     | true =>
      go_wp2_with fail
      refine bodyPost_ret (v:=.agg (optCs ⟨3,pa,134217728+pa⟩).toArray) (results_cell_row (by rfl) _ _ (w.heap.size+1+1) 102 (optCs ⟨3,pa,134217728+pa⟩).toArray (0,0) _ (by rfl) (opt_set (hcells.out _ hbel.out).2.2.2.2 ⟨3,pa,134217728+pa⟩) Tryz.underlying102 rfl (by kernel_rfl)) rfl ⟨by rw [hfin.out]; rfl,hBz.out _ hbel.out ⟨3,pa,134217728+pa⟩⟩
     | false =>
      go_wp2_with fail
      refine bodyPost_ret (v:=.agg (optCs opt0).toArray) (results_cell_row (by rfl) _ _ (w.heap.size+1+1) 102 (optCs opt0).toArray (0,0) _ (by rfl) (opt_set (hcells.out _ hbel.out).2.2.2.2 opt0) Tryz.underlying102 rfl (by kernel_rfl)) rfl ⟨by rw [hfin.out]; rfl,hBz.out _ hbel.out opt0⟩
 | false =>
  cases x3 with
  | false =>
   go_wp2_with fail
   refine bodyPost_ret (v:=.agg (optCs opt0).toArray) (results_cell_row (by rfl) _ _ (w.heap.size+1+1) 102 (optCs opt0).toArray (0,0) _ (by rfl) (opt_set (hcells.out _ hbel.out).2.2.2.2 opt0) Tryz.underlying102 rfl (by kernel_rfl)) rfl ⟨by rw [hfin.out]; rfl,hBz.out _ hbel.out opt0⟩
  | true =>
   have hn5:=hn3.out rfl
   cases x4 with
   | true =>
    go_wp2_with fail
    refine bodyPost_ret (v:=.agg (optCs opt0).toArray) (results_cell_row (by rfl) _ _ (w.heap.size+1+1) 102 (optCs opt0).toArray (0,0) _ (by rfl) (opt_set (hcells.out _ hbel.out).2.2.2.2 opt0) Tryz.underlying102 rfl (by kernel_rfl)) rfl ⟨by rw [hfin.out]; rfl,hBz.out _ hbel.out opt0⟩
   | false =>
    go_wp2_with fail
    with_reducible refine (hal3.out _ hbel.out).mono ?_
    rintro e W6 ⟨rfl,hb6⟩; have hbel6:=hid (hbel.out.trans (hb6.mono hbel.out.size)); clear hbel q0 q1 q2 qz y2 y4 y6 y7 hb6; obtain ⟨y2,y4,y6,y7,y9⟩:=hcells.out W6 hbel6.out; obtain ⟨q0,q1,q2,qz⟩:=opt_cells y9; have hbel:=hbel6; clear y9 hbel6
    cases x5 with
    | true =>
     go_wp2_with fail
     refine bodyPost_ret (v:=.agg (optCs ⟨3,pa,134217728+pa⟩).toArray) (results_cell_row (by rfl) _ _ (w.heap.size+1+1) 102 (optCs ⟨3,pa,134217728+pa⟩).toArray (0,0) _ (by rfl) (opt_set (hcells.out _ hbel.out).2.2.2.2 ⟨3,pa,134217728+pa⟩) Tryz.underlying102 rfl (by kernel_rfl)) rfl ⟨by rw [hfin.out]; rfl,hBz.out _ hbel.out ⟨3,pa,134217728+pa⟩⟩
    | false =>
     go_wp2_with fail
     refine bodyPost_ret (v:=.agg (optCs opt0).toArray) (results_cell_row (by rfl) _ _ (w.heap.size+1+1) 102 (optCs opt0).toArray (0,0) _ (by rfl) (opt_set (hcells.out _ hbel.out).2.2.2.2 opt0) Tryz.underlying102 rfl (by kernel_rfl)) rfl ⟨by rw [hfin.out]; rfl,hBz.out _ hbel.out opt0⟩
theorem dropping_any (xb rb:Nat) (turn clock:Int) (R:List (List UInt8)) (fo:Option Offer) (u:Out) (va:Value) (w:World) (h:XA xb rb turn R w) (ht:Hid (Tabs w)) (hk:u.key.length≤1000) (hp:∀ o,fo=some o→-1≤o.part∧o.part≤1048576) :
  Calls Tryz.prog 44 #[pt xb,.agg (offCs (fo.getD off0)).toArray,.bool fo.isSome,.agg (outCs u va).toArray,iv clock] w fun e w'=>e=.returned (.agg (optCs (dropF turn R fo u clock)).toArray)∧Below w.heap.size w w':=by
 obtain ⟨ky,nm,ar,x4,tc⟩:=u
 cases fo with
 | none=>exact dropping_none xb rb turn clock R _ va w
 | some o =>
  obtain ⟨h0,h1⟩:=hp o rfl; obtain ⟨a,b,c,d,e,f⟩:=o; exact dropping_some xb rb turn clock R a b c d e f ky nm ar x4 tc va w h ht hk h0 h1
end Go.Proofs.YtfejagpjahoibaaGreatDoor
