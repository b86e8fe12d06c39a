/- lex: walks: text. -/
import Derived.Test.YtbkdakbhagjkhaaGreatDoorLexW4
import Derived.Test.YtbkdakbhagjkhaaGreatDoorShelf
set_option linter.unusedVariables false
set_option linter.unusedSimpArgs false
namespace Go.Proofs.YtbkdakbhagjkhaaGreatDoor
open Go.RowKit
open Go.Lib (hid byteCells)
theorem fr_belowB {S : Nat → Prop} {a w w' : World} {B : Nat} (h : Fr S a w) (hb : Below B w w') (hB : a.heap.size ≤ B) : Fr S a w' :=
 ⟨hb.os.trans h.os,hb.tape.trans h.tape,hb.output.trans h.output,Nat.le_trans h.size hb.size,fun k hk hs=>(hb.block k (by omega)).trans (h.block k hk hs)⟩
theorem lit_10 (r acc : List UInt8) : litF (10 :: r) acc = none:=by cases r <;> simp [litF]
theorem lit_34 (r acc : List UInt8) : litF (34 :: r) acc = some (acc,r):=by cases r <;> simp [litF]
theorem lit_92 (acc : List UInt8) : litF [92] acc = none:=by simp [litF]
theorem lit_esc (e : UInt8) (r acc : List UInt8) : litF (92 :: e :: r) acc = match unesc e with | some x=>litF r (acc ++ [x]) | none=>none:=by
 rw [litF,if_neg (by decide),if_neg (by decide),if_pos rfl]; rfl
theorem lit_one (c : UInt8) (r acc : List UInt8) (h1 : c ≠ 10) (h2 : c ≠ 34) (h3 : c ≠ 92) : litF (c :: r) acc = litF r (acc ++ [c]):=by
 cases r with
 | nil=>simp [litF,h2]
 | cons e r=>rw [litF,if_neg h1,if_neg h2,if_neg h3]
def textR (lt : Option (List UInt8 × List UInt8)) : Except Int (Tk × List UInt8) :=
 match lt with
 | some (t,r')=>if 4096 < t.length then .error 15 else .ok (⟨3,t,0,0⟩,r')
 | none=>.error 2
abbrev IsB (bb : Nat) (l : List UInt8) (w : World) : Prop:=Lib.IsBuilder 87 5 bb bb (byteCells l) w
theorem isB_lt {bb : Nat} {l : List UInt8} {w : World} (h : IsB bb l w) : bb < w.heap.size:=by
 rcases h with ⟨_,v,h,_⟩ | ⟨_,v,h,_⟩ <;> exact lt_of_heap h
set_option maxHeartbeats 4000000 in
set_option maxRecDepth 100000 in
theorem strlit_any (b : Nat) (s : List UInt8) (k : Nat) (w : World) (hS : Sc b s k w) (hk : k < s.length) (hs : s.length ≤ 1000000) :
  Calls Tryz.prog 27 #[pt b] w (TokPost b s w (textF (s.drop k))):=by
 have hlt:=lt_of_heap hS; obtain ⟨res,hres⟩ : ∃ r,r = textF (s.drop k):=⟨_,rfl⟩; obtain ⟨lt,hlt0⟩ : ∃ r,r = litF (s.drop (k + 1)) []:=⟨_,rfl⟩
 have hres1 : res = textR lt:=by
  rw [hres,hlt0]; unfold textF textR; rw [List.tail_drop]; rfl
 rw [← hres]; clear hres; replace hS:=hid hS; replace hres1:=hid hres1; obtain ⟨post,hpost⟩ : ∃ p,p = TokPost b s w res:=⟨_,rfl⟩; rw [← hpost]; replace hpost:=hid hpost; have hR:=hid (TR.new w); have hF:=hid ((Fr.refl (one b) w).alloc (.cells #[.int .i64 0,.string ⟨#[]⟩,.int .i64 0,.int .i64 0] 51)); replace hS:=hid (show Sc b s k (w.alloc (.cells #[.int .i64 0,.string ⟨#[]⟩,.int .i64 0,.int .i64 0] 51)) from (Below.heap_alloc _ _ _ hlt).trans hS.out)
 have hsz0 : (w.alloc (.cells #[.int .i64 0,.string ⟨#[]⟩,.int .i64 0,.int .i64 0] 51)).heap.size = w.heap.size + 1:=by simp
 obtain ⟨w0,hw0⟩ : ∃ w0,w0 = w.alloc (.cells #[.int .i64 0,.string ⟨#[]⟩,.int .i64 0,.int .i64 0] 51):=⟨_,rfl⟩; rw [← hw0] at hR hF hS hsz0; have hlt0':=lt_of_heap hS.out; have hBd:=bld_fresh w0; replace hR:=hid (show TR w.heap.size tk0 (w0.alloc (.cells #[.pointer none,.slice none 0 0] 87)) from (Below.heap_alloc _ _ _ (by omega)).trans hR.out); replace hF:=hid (hF.out.alloc (.cells #[.pointer none,.slice none 0 0] 87)); replace hS:=hid (show Sc b s k (w0.alloc (.cells #[.pointer none,.slice none 0 0] 87)) from (Below.heap_alloc _ _ _ (by omega)).trans hS.out); rw [hsz0] at hBd; have hBd2:=hid (show IsB (w.heap.size + 1) [] (w0.alloc (.cells #[.pointer none,.slice none 0 0] 87)) from hBd); clear hBd; rw [hw0] at hR hF hS hBd2; clear hsz0 hlt0' hw0
 replace hlt0:=hid hlt0; have c0:=hS.out.c0; have c1:=hS.out.c1
 have e1 : IntKind.i64.wrap ((k : Int) + 1) = ((k + 1 : Nat) : Int):=by rw [i64_wrap_id _ (by omega) (by omega)]; omega
 have hlen:=hid (fun W l h=>Tryz.Builder_Len (w.heap.size + 1) (w.heap.size + 1) (byteCells l) W h); have hstr:=hid (fun W l h hb=>bldString (w.heap.size + 1) (w.heap.size + 1) l W h hb); have hwr:=hid (fun W l c h hl hb=>writeByte (w.heap.size + 1) (w.heap.size + 1) l c W h hl hb)
 go_enter Tryz.func27,Tryz.ntmps27
 go_wp2_with fail
 generalize ((w.alloc (.cells #[.int .i64 0,.string ⟨#[]⟩,.int .i64 0,.int .i64 0] 51)).alloc (.cells #[.pointer none,.slice none 0 0] 87)) = w1 at *
 go_loopw [5] (fun z wr=>∃ (i : Nat) (acc : List UInt8),z = .int .i64 i ∧ k + 1 ≤ i ∧ i ≤ s.length ∧ acc.length + k ≤ i ∧ Hid (litF (s.drop i) acc = lt) ∧ Hid (IsB (w.heap.size + 1) acc wr) ∧ Hid (Sc b s k wr) ∧ Hid (TR w.heap.size tk0 wr) ∧ Hid (Fr (one b) w wr)) (fun z _=>s.length - (intOf z).toNat)
 case atStart=>exact ⟨k + 1,[],rfl,Nat.le_refl _,by omega,by simp,hid hlt0.out.symm,hBd2,hS,hR,hF⟩
 case round =>
  clear hS hR hF hBd2 c0 c1 e1 hlt0; obtain ⟨i,acc,rfl,hi1,hi2,hal,hlit,hBd,hS,hR,hF⟩:=hrel; have c0:=hS.out.c0; by_cases hil : i < s.length
  ·have q1 : decide ((i : Int) < (s.length : Int)) = true:=decide_eq_true (by omega)
   have q1i : (i : Int) < (s.length : Int):=by omega
   obtain ⟨c,hc⟩ : ∃ c,s[i]? = some c:=⟨_,List.getElem?_eq_getElem hil⟩; have hix:=idx_str (P:=Tryz.prog) 9 (by kernel_rfl) s i c hc; have hd:=drop_at hc
   have e1 : IntKind.i64.wrap ((i : Int) + 1) = ((i + 1 : Nat) : Int):=by rw [i64_wrap_id _ (by omega) (by omega)]; omega
   clear hc; by_cases h10 : c = 10
   ·subst h10
    have hv:=hid (show res = .error 2 by rw [hres1.out,← hlit.out,hd,lit_10]; rfl); clear hd; obtain ⟨t0,t1,t2,t3⟩:=hR.out.cell; have g0:=hR.out.f 0; have g1:=hR.out.f 1; have g2:=hR.out.f 2; have g3:=hR.out.f 3; have hfin:=hid (hR.out.set4 tk0); have hFf:=hid (fr_set4 (R:=w.heap.size) hF.out (Nat.le_refl _) (iv 0) (sv []) (iv 0) (iv 0))
    go_wp2_with fail
    refine bodyPost_ret (v:=.tuple #[tkv tk0,iv 2]) (results_tok (by rfl) _ _ w.heap.size tk0 2 (by rfl) (by rfl) hfin.out) rfl ?_; rw [hpost.out,hv.out]; exact ⟨hFf.out,rfl⟩
   ·obtain ⟨a1,a1',a1''⟩ : ((c.toNat : Int) == 10) = false ∧ ¬ ((c.toNat : Int) = 10) ∧ ¬ c.toNat = 10:=bn c 10 10 rfl h10
    by_cases h34 : c = 34
    ·subst h34
     have hv0:=hid (show lt = some (acc,s.drop (i + 1)) by rw [← hlit.out,hd,lit_34]); clear hd; have hbcl : (byteCells acc).length = acc.length:=Lib.byteCells_length acc; by_cases hbig : 4096 < acc.length
     ·have hv:=hid (show res = .error 15 by rw [hres1.out,hv0.out]; exact if_pos hbig)
      have p1 : decide ((acc.length : Int) > 4096) = true:=decide_eq_true (by omega)
      have p1i : (4096 : Int) < (acc.length : Int):=by omega
      have p2 : decide (((byteCells acc).length : Int) > 4096) = true:=decide_eq_true (by omega); obtain ⟨t0,t1,t2,t3⟩:=hR.out.cell; have g0:=hR.out.f 0; have g1:=hR.out.f 1; have g2:=hR.out.f 2; have g3:=hR.out.f 3; have hfin:=hid (hR.out.set4 tk0); have hFf:=hid (fr_set4 (R:=w.heap.size) hF.out (Nat.le_refl _) (iv 0) (sv []) (iv 0) (iv 0))
      go_wp2_with fail
      refine (hlen.out _ acc hBd.out).mono ?_; rintro e w2 ⟨rfl,rfl⟩; rw [hbcl]
      go_wp2_with fail
      refine bodyPost_ret (v:=.tuple #[tkv tk0,iv 15]) (results_tok (by rfl) _ _ w.heap.size tk0 15 (by rfl) (by rfl) hfin.out) rfl ?_; rw [hpost.out,hv.out]; exact ⟨hFf.out,rfl⟩
     ·have hv:=hid (show res = .ok (⟨3,acc,0,0⟩,s.drop (i + 1)) by rw [hres1.out,hv0.out]; exact if_neg hbig)
      have p1 : decide ((acc.length : Int) > 4096) = false:=decide_eq_false (by omega)
      have p1i : ¬ (4096 : Int) < (acc.length : Int):=by omega
      have hsl : s.length - (s.drop (i + 1)).length = i + 1:=by rw [List.length_drop]; omega
      have c1:=hS.out.c1; have f1:=hS.out.f 1; have hSs:=hid (hS.out.set (i + 1)); have hFs:=hid (fr_set1 hF.out 1 (iv (i + 1 : Nat))); have hRs:=hid (show TR w.heap.size tk0 (wr.setCell ⟨b,1,none⟩ (iv (i + 1 : Nat))) from (heap_setCell_other _ (by omega)).trans hR.out); have hBs:=hid (show IsB (w.heap.size + 1) acc (wr.setCell ⟨b,1,none⟩ (iv (i + 1 : Nat))) from isB_far hBd.out (by omega))
      go_wp2_with fail
      refine (hlen.out _ acc hBd.out).mono ?_; rintro e w2 ⟨rfl,rfl⟩; rw [hbcl]
      go_wp2_with fail
      refine (hstr.out _ acc hBs.out (by have:=isB_lt hBs.out; omega)).mono ?_; rintro e w3 ⟨rfl,hb3⟩; have hS3:=below_keep hb3 hSs.out (by omega); have hR3 : TR w.heap.size tk0 w3:=below_keep hb3 hRs.out (by omega); have hF3:=fr_belowB hFs.out hb3 (by omega); obtain ⟨t0,t1,t2,t3⟩:=hR3.cell; have g0:=hR3.f 0; have g1:=hR3.f 1; have g2:=hR3.f 2; have g3:=hR3.f 3; have hfin:=hid (hR3.set4 ⟨3,acc,0,0⟩); have hFf:=hid (fr_set4 (R:=w.heap.size) hF3 (Nat.le_refl _) (iv 3) (sv acc) (iv 0) (iv 0)); have hSf:=hid (Sc.other4 (R:=w.heap.size) hS3 (by omega) (iv 3) (sv acc) (iv 0) (iv 0)); clear hb3 hS3 hR3 hF3 hSs hFs hRs hBs
      go_wp2_with fail
      refine bodyPost_ret (v:=.tuple #[tkv ⟨3,acc,0,0⟩,iv 0]) (results_tok (by rfl) _ _ w.heap.size ⟨3,acc,0,0⟩ 0 (by rfl) (by rfl) hfin.out) rfl ?_; rw [hpost.out,hv.out]; exact ⟨hFf.out,rfl,by rw [hsl]; exact hSf.out⟩
    ·obtain ⟨a2,a2',a2''⟩ : ((c.toNat : Int) == 34) = false ∧ ¬ ((c.toNat : Int) = 34) ∧ ¬ c.toNat = 34:=bn c 34 34 rfl h34
     by_cases h92 : c = 92
     ·subst h92
      by_cases hil2 : i + 1 < s.length
      ·obtain ⟨d,hdd⟩ : ∃ d,s[i + 1]? = some d:=⟨_,List.getElem?_eq_getElem hil2⟩
       have hix2:=idx_str (P:=Tryz.prog) 9 (by kernel_rfl) s (i + 1) d hdd; have hd2:=drop_at hdd
       have e2 : IntKind.i64.wrap (((i + 1 : Nat) : Int) + 1) = ((i + 1 + 1 : Nat) : Int):=by rw [i64_wrap_id _ (by omega) (by omega)]; omega
       have n1 : (((i + 1 : Nat) : Int) == (s.length : Int)) = false:=by rw [beq_eq_false_iff_ne]; omega
       have n2 : ¬ (((i + 1 : Nat) : Int) = (s.length : Int)):=by omega
       have n3 : ¬ (i + 1 = s.length):=by omega
       have hun:=hid (fun W=>unescape_any d W); have hll:=lit_esc d (s.drop (i + 1 + 1)) acc; obtain ⟨i2,hi2e⟩ : ∃ i2,i2 = i + 1:=⟨_,rfl⟩; rw [← hi2e] at hix2 e1 e2 n1 n2 n3 hd hd2 hll hil2
       cases hue : unesc d with
       | none =>
        have hv:=hid (show res = .error 2 by rw [hres1.out,← hlit.out,hd,hd2,hll,hue]; rfl); rw [hue] at hun; clear hd hd2 hdd hll hue; replace hi2e:=hid hi2e
        go_wp2_with fail
        refine (hun.out _).mono ?_; rintro e w2 ⟨rfl,rfl⟩; obtain ⟨t0,t1,t2,t3⟩:=hR.out.cell; have g0:=hR.out.f 0; have g1:=hR.out.f 1; have g2:=hR.out.f 2; have g3:=hR.out.f 3; have hfin:=hid (hR.out.set4 tk0); have hFf:=hid (fr_set4 (R:=w.heap.size) hF.out (Nat.le_refl _) (iv 0) (sv []) (iv 0) (iv 0))
        go_wp2_with fail
        refine bodyPost_ret (v:=.tuple #[tkv tk0,iv 2]) (results_tok (by rfl) _ _ w.heap.size tk0 2 (by rfl) (by rfl) hfin.out) rfl ?_; rw [hpost.out,hv.out]; exact ⟨hFf.out,rfl⟩
       | some x =>
        have hlit2:=hid (show litF (s.drop (i2 + 1)) (acc ++ [x]) = lt by rw [← hlit.out,hd,hd2,hll,hue]); rw [hue] at hun; clear hd hd2 hdd hll hue; have hi2m : i2 < s.length ∧ i < i2:=⟨hil2,by omega⟩; replace hi2e:=hid hi2e
        go_wp2_with fail
        refine (hun.out _).mono ?_; rintro e w2 ⟨rfl,rfl⟩
        go_wp2_with fail
        refine (hwr.out _ acc x hBd.out (by omega) (by have:=isB_lt hBd.out; omega)).mono ?_; rintro e w3 ⟨rfl,hBd3,hb3⟩; have hS3:=hid (show Sc b s k w3 from below_keep hb3 hS.out (by omega)); have hR3:=hid (show TR w.heap.size tk0 w3 from below_keep hb3 hR.out (by omega)); have hF3:=hid (fr_belowB hF.out hb3 (by omega)); replace hBd3:=hid hBd3
        have hal2 : (acc ++ [x]).length + k ≤ i2 + 1:=by rw [List.length_append]; simp; have:=hi2e.out; omega
        clear hb3
        go_wp2_with fail
        have hi2o:=hi2e.out; refine ⟨?_,by simp [intOf]; omega⟩
        repeat (first | exact ⟨⟨i2 + 1,acc ++ [x],rfl,by omega,by omega,hal2,hlit2,hBd3,hS3,hR3,hF3⟩,rfl⟩ | exact ⟨i2 + 1,acc ++ [x],rfl,by omega,by omega,hal2,hlit2,hBd3,hS3,hR3,hF3⟩ | apply Exists.intro)
      ·have hi3 : i + 1 = s.length:=by omega
       have n1 : (((i + 1 : Nat) : Int) == (s.length : Int)) = true:=by rw [beq_iff_eq]; omega
       have hv:=hid (show res = .error 2 by rw [hres1.out,← hlit.out,hd,hi3,List.drop_length,lit_92]; rfl); clear hd; rw [hi3] at e1; clear n1; obtain ⟨t0,t1,t2,t3⟩:=hR.out.cell; have g0:=hR.out.f 0; have g1:=hR.out.f 1; have g2:=hR.out.f 2; have g3:=hR.out.f 3; have hfin:=hid (hR.out.set4 tk0); have hFf:=hid (fr_set4 (R:=w.heap.size) hF.out (Nat.le_refl _) (iv 0) (sv []) (iv 0) (iv 0))
       go_wp2_with fail
       refine bodyPost_ret (v:=.tuple #[tkv tk0,iv 2]) (results_tok (by rfl) _ _ w.heap.size tk0 2 (by rfl) (by rfl) hfin.out) rfl ?_; rw [hpost.out,hv.out]; exact ⟨hFf.out,rfl⟩
     ·obtain ⟨a3,a3',a3''⟩ : ((c.toNat : Int) == 92) = false ∧ ¬ ((c.toNat : Int) = 92) ∧ ¬ c.toNat = 92:=bn c 92 92 rfl h92
      have hlit2:=hid (show litF (s.drop (i + 1)) (acc ++ [c]) = lt by rw [← hlit.out,hd,lit_one c _ _ h10 h34 h92]); clear hd
      go_wp2_with fail
      refine (hwr.out _ acc c hBd.out (by omega) (by have:=isB_lt hBd.out; omega)).mono ?_; rintro e w3 ⟨rfl,hBd3,hb3⟩; have hS3:=hid (show Sc b s k w3 from below_keep hb3 hS.out (by omega)); have hR3:=hid (show TR w.heap.size tk0 w3 from below_keep hb3 hR.out (by omega)); have hF3:=hid (fr_belowB hF.out hb3 (by omega)); replace hBd3:=hid hBd3
      have hal2 : (acc ++ [c]).length + k ≤ i + 1:=by rw [List.length_append]; simp; omega
      clear hb3
      go_wp2_with fail
      refine ⟨?_,by simp [intOf]; omega⟩
      repeat (first | exact ⟨⟨i + 1,acc ++ [c],rfl,by omega,by omega,hal2,hlit2,hBd3,hS3,hR3,hF3⟩,rfl⟩ | exact ⟨i + 1,acc ++ [c],rfl,by omega,by omega,hal2,hlit2,hBd3,hS3,hR3,hF3⟩ | apply Exists.intro)
  ·have hie : i = s.length:=by omega
   subst hie; have hv:=hid (show res = .error 2 by rw [hres1.out,← hlit.out,List.drop_length]; rfl); clear hil; obtain ⟨t0,t1,t2,t3⟩:=hR.out.cell; have g0:=hR.out.f 0; have g1:=hR.out.f 1; have g2:=hR.out.f 2; have g3:=hR.out.f 3; have hfin:=hid (hR.out.set4 tk0); have hFf:=hid (fr_set4 (R:=w.heap.size) hF.out (Nat.le_refl _) (iv 0) (sv []) (iv 0) (iv 0))
   go_wp2_with fail
   refine bodyPost_ret (v:=.tuple #[tkv tk0,iv 2]) (results_tok (by rfl) _ _ w.heap.size tk0 2 (by rfl) (by rfl) hfin.out) rfl ?_; rw [hpost.out,hv.out]; exact ⟨hFf.out,rfl⟩
end Go.Proofs.YtbkdakbhagjkhaaGreatDoor
