/- Chapter 05 (disk): the reference's Flush, Cut, Turn. -/
import Derived.Test.YtdapjoapndemkaaDiskR3
set_option linter.unusedVariables false
namespace Go.Proofs.Ytdapjoapndemkaa
open Go.RowKit
open Go.Lib (hid)
set_option maxHeartbeats 4000000 in
set_option maxRecDepth 100000 in
theorem rflush_any (b fb cp : Nat) (vk : Value) (x : RS) (f : Int) (w : World) (h : RV b fb cp vk x w) (ho : ROk x) :
    Calls Try.prog 41 #[pt b, iv f] w (VP b fb cp vk w (iv (rFlush1 f x)) (rFlush2 f x)) := by
  have hoc := ho.comes 0 []
  have hcm := hid (rcomes_any b fb cp vk x 0 [] w h ho (by decide))
  have e1 : rFlush1 f x = if rMay f (rComes 0 [] x) ≠ 0 then rMay f (rComes 0 [] x) else if 0 < (rComes 0 [] x).lost then 13 else 0 := rfl
  have e2 : rFlush2 f x = if rMay f (rComes 0 [] x) ≠ 0 then rComes 0 [] x else if 0 < (rComes 0 [] x).lost then { rComes 0 [] x with lost := (rComes 0 [] x).lost - 1 } else rSet f.toNat ((rComes 0 [] x).ls f.toNat ++ (rComes 0 [] x).rs f.toNat) [] (rComes 0 [] x) := rfl
  generalize rComes 0 [] x = y at *
  clear h ho
  by_cases hm : rMay f y = 0
  · obtain ⟨hd, hv⟩ := rMay_zero hm
    have hmm := hid hm
    rw [hm] at e1 e2
    by_cases hl : 0 < y.lost
    · rw [if_neg (by simp), if_pos hl] at e1 e2
      obtain ⟨m, hml⟩ : ∃ m : Nat, y.lost = m + 1 := ⟨y.lost - 1, by omega⟩
      have hlo := hoc.lost
      have hm63 : (m : Int) ≤ 9223372036854775806 := by omega
      have hz1 : decide (0 < (m : Int) + 1) = true := decide_eq_true (by omega)
      replace e1 := hid e1
      replace e2 := hid e2
      replace hml := hid hml
      clear hm hd hv hl
      go_enter Try.func41, Try.ntmps41
      go_wp2_with fail
      refine hcm.out.mono ?_
      rintro e w1 ⟨rfl, h1, f1⟩
      replace h1 := hid h1
      go_wp2_with fail
      refine (rmay_any (fun _ => True) b y f _ (h1.out.rk hoc)).mono ?_
      rintro e w2 ⟨rfl, rfl⟩
      rw [hmm.out]
      obtain ⟨c1, c2, c3, c4, g1, g2, g3⟩ := h1.out.head
      rw [hml.out] at c1
      replace c1 : w1.cell? ⟨b, 1, none⟩ = some (iv ((m : Int) + 1)) := c1
      have h4 := hid (h1.out.set 1 (iv m) (x' := { y with lost := y.lost - 1 }) (by unfold rCells; rw [hml.out]; rfl) rfl rfl rfl)
      go_wp2_with fail
      go_ret
      rw [e1.out, e2.out]
      exact ⟨rfl, h4.out, f1.setCell (Or.inl (Or.inl rfl)) _⟩
    · rw [if_neg (by simp), if_neg hl] at e1 e2
      obtain ⟨n, hn, rfl, hn2⟩ := idx8 (F := fun _ => True) f hv
      have hnI : (n : Int) < 8 := by omega
      rw [hn2] at e2
      have hi := RV.idx (fb := fb) (cap := cp) hn
      have hle := hoc.len n hn
      have hcat := fun W => scat (P := Try.prog) (y.ls n) (y.rs n) (by omega) W
      have hl0 : y.lost = 0 := by omega
      replace hl0 := hid hl0
      replace e1 := hid e1
      replace e2 := hid e2
      clear hm hd hv hn2 hl
      go_enter Try.func41, Try.ntmps41
      go_wp2_with fail
      refine hcm.out.mono ?_
      rintro e w1 ⟨rfl, h1, f1⟩
      replace h1 := hid h1
      go_wp2_with fail
      refine (rmay_any (fun _ => True) b y n _ (h1.out.rk hoc)).mono ?_
      rintro e w2 ⟨rfl, rfl⟩
      rw [hmm.out]
      obtain ⟨c1, c2, c3, c4, -, -, -⟩ := h1.out.head
      rw [hl0.out] at c1
      obtain ⟨hfs, hbs, c0, d1, d2, g1, g2⟩ := h1.out.file hn
      have hne := h1.out.ne
      have h4 := hid (h1.out.drew.setLR hn (y.ls n ++ y.rs n) [])
      clear c2 c3 c4
      go_wp2_with fail
      go_region
      go_wp2_with fail
      go_ret
      rw [e1.out, e2.out]
      exact ⟨rfl, h4.out, (f1.drew.setCell (Or.inl (Or.inr rfl)) _).setCell (Or.inl (Or.inr rfl)) _⟩
  · rw [if_pos hm] at e1 e2
    replace e1 := hid e1
    replace e2 := hid e2
    rcases rMay_cases f y with hk | hk | hk
    · exact absurd hk hm
    all_goals
      replace hk := hid hk
      clear hm
      go_enter Try.func41, Try.ntmps41
      go_wp2_with fail
      refine hcm.out.mono ?_
      rintro e w1 ⟨rfl, h1, f1⟩
      replace h1 := hid h1
      go_wp2_with fail
      refine (rmay_any (fun _ => True) b y f _ (h1.out.rk hoc)).mono ?_
      rintro e w2 ⟨rfl, rfl⟩
      rw [hk.out]
      go_wp2_with fail
      go_ret
      rw [e1.out, e2.out, hk.out]
      exact ⟨rfl, h1.out, f1⟩

set_option maxHeartbeats 4000000 in
set_option maxRecDepth 100000 in
theorem rcut_any (b fb cp : Nat) (vk : Value) (x : RS) (f m : Int) (w : World) (h : RV b fb cp vk x w) (ho : ROk x) (hmb : -9223372036854775808 ≤ m ∧ m ≤ 9223372036854775807) :
    Calls Try.prog 42 #[pt b, iv f, iv m] w (VP b fb cp vk w (iv (rCut1 f m x)) (rCut2 f m x)) := by
  have hoc := ho.comes 0 []
  have hcm := hid (rcomes_any b fb cp vk x 0 [] w h ho (by decide))
  have e1 : rCut1 f m x = if rMay f (rComes 0 [] x) ≠ 0 then rMay f (rComes 0 [] x) else if m < 0 ∨ (rSize f (rComes 0 [] x) : Int) < m then 1 else 0 := rfl
  have e2 : rCut2 f m x = if rCut1 f m x = 0 then rSet f.toNat (cutL m.toNat ((rComes 0 [] x).ls f.toNat)) (cutR m.toNat ((rComes 0 [] x).ls f.toNat) ((rComes 0 [] x).rs f.toNat)) (rComes 0 [] x) else rComes 0 [] x := rfl
  generalize rComes 0 [] x = y at *
  clear h ho
  by_cases hm : rMay f y = 0
  · obtain ⟨hd, hv⟩ := rMay_zero hm
    have hmm := hid hm
    rw [hm, if_neg (by simp)] at e1
    by_cases hbad : m < 0 ∨ (rSize f y : Int) < m
    · rw [if_pos hbad] at e1
      rw [e1, if_neg (by decide)] at e2
      replace e1 := hid e1
      replace e2 := hid e2
      clear hm hd hv
      rcases (by omega : m < 0 ∨ (0 ≤ m ∧ (rSize f y : Int) < m)) with hb | ⟨hb, hb2⟩
      · clear hbad
        go_enter Try.func42, Try.ntmps42
        go_wp2_with fail
        refine hcm.out.mono ?_
        rintro e w1 ⟨rfl, h1, f1⟩
        replace h1 := hid h1
        go_wp2_with fail
        refine (rmay_any (fun _ => True) b y f _ (h1.out.rk hoc)).mono ?_
        rintro e w2 ⟨rfl, rfl⟩
        rw [hmm.out]
        go_wp2_with fail
        go_ret
        rw [e1.out, e2.out]
        exact ⟨rfl, h1.out, f1⟩
      · clear hbad
        go_enter Try.func42, Try.ntmps42
        go_wp2_with fail
        refine hcm.out.mono ?_
        rintro e w1 ⟨rfl, h1, f1⟩
        replace h1 := hid h1
        go_wp2_with fail
        refine (rmay_any (fun _ => True) b y f _ (h1.out.rk hoc)).mono ?_
        rintro e w2 ⟨rfl, rfl⟩
        rw [hmm.out]
        go_wp2_with fail
        refine (rsize_any (fun _ => True) b y f _ (h1.out.rk hoc)).mono ?_
        rintro e w2 ⟨rfl, nq, rfl⟩
        go_wp2_with fail
        go_ret
        rw [e1.out, e2.out]
        exact ⟨rfl, h1.out.drewN _, f1.drewN _⟩
    · rw [if_neg hbad] at e1
      rw [e1, if_pos rfl] at e2
      obtain ⟨n, hn, rfl, hn2⟩ := idx8 (F := fun _ => True) f hv
      have hnI : (n : Int) < 8 := by omega
      obtain ⟨k, rfl⟩ : ∃ k : Nat, m = (k : Int) := ⟨m.toNat, by omega⟩
      have hks : k ≤ rSize (n : Int) y := by omega
      have hks2 : (k : Int) ≤ (rSize (n : Int) y : Int) := by omega
      have hsz : rSize (n : Int) y = (y.ls n).length + (y.rs n).length := by unfold rSize; rw [hv, hn2]; rfl
      rw [hn2, Int.toNat_natCast] at e2
      have hi := RV.idx (fb := fb) (cap := cp) hn
      have hle := hoc.len n hn
      by_cases hkl : k ≤ (y.ls n).length
      · have hx := ext_take (y.ls n) k
        rw [show cutL k (y.ls n) = (y.ls n).take k from if_pos hkl, show cutR k (y.ls n) (y.rs n) = [] from if_pos hkl] at e2
        have hdk : decide ((k : Int) ≤ ((y.ls n).length : Int)) = true := by simp; omega
        replace e1 := hid e1
        replace e2 := hid e2
        replace hsz := hid hsz
        clear hm hd hv hn2 hbad
        go_enter Try.func42, Try.ntmps42
        go_wp2_with fail
        refine hcm.out.mono ?_
        rintro e w1 ⟨rfl, h1, f1⟩
        replace h1 := hid h1
        go_wp2_with fail
        refine (rmay_any (fun _ => True) b y n _ (h1.out.rk hoc)).mono ?_
        rintro e w2 ⟨rfl, rfl⟩
        rw [hmm.out]
        go_wp2_with fail
        refine (rsize_any (fun _ => True) b y n _ (h1.out.rk hoc)).mono ?_
        rintro e w2 ⟨rfl, nq, e9⟩
        have h2 := h1.out.drewN nq
        rw [← e9] at h2
        have f2 := f1.drewN nq
        rw [← e9] at f2
        clear e9 f1
        replace h2 := hid h2
        obtain ⟨hfs, hbs, c0, d1, d2, g1, g2⟩ := h2.out.file hn
        have hne := h2.out.ne
        have h4 := hid (((h2.out.setLR hn ((y.ls n).take k) []).alloc (.cells #[sv (y.ls n), sv (y.rs n)] 66)).drew)
        go_wp2_with fail
        go_region
        go_wp2_with fail
        go_ret
        rw [e1.out, e2.out]
        exact ⟨rfl, h4.out, (((f2.setCell (Or.inl (Or.inr rfl)) _).setCell (Or.inl (Or.inr rfl)) _).alloc _).drew⟩
      · have hx := ext_take (y.rs n) (k - (y.ls n).length)
        rw [show cutL k (y.ls n) = y.ls n from if_neg hkl, show cutR k (y.ls n) (y.rs n) = (y.rs n).take (k - (y.ls n).length) from if_neg hkl] at e2
        obtain ⟨q, rfl⟩ : ∃ q, k = (y.ls n).length + q := ⟨k - (y.ls n).length, by omega⟩
        rw [Nat.add_sub_cancel_left] at hx e2
        have hq1 : 1 ≤ q := by omega
        have hq2 : q ≤ (y.rs n).length := by omega
        have hdk : decide ((((y.ls n).length + q : Nat) : Int) ≤ ((y.ls n).length : Int)) = false := by simp; omega
        have hw1 : IntKind.i64.wrap ((((y.ls n).length + q : Nat) : Int) - ((y.ls n).length : Int)) = (q : Int) := by rw [IntKind.wrap_i64]; omega
        have hsame : upd y.ls n (y.ls n) = y.ls := by
          funext i; unfold upd; split
          · rename_i e; subst e; rfl
          · rfl
        rw [show rSet n (y.ls n) ((y.rs n).take q) y = { y with rs := upd y.rs n ((y.rs n).take q) } by unfold rSet; rw [hsame]] at e2
        replace e1 := hid e1
        replace e2 := hid e2
        replace hsz := hid hsz
        clear hm hd hv hn2 hbad hkl hsame
        go_enter Try.func42, Try.ntmps42
        go_wp2_with fail
        refine hcm.out.mono ?_
        rintro e w1 ⟨rfl, h1, f1⟩
        replace h1 := hid h1
        go_wp2_with fail
        refine (rmay_any (fun _ => True) b y n _ (h1.out.rk hoc)).mono ?_
        rintro e w2 ⟨rfl, rfl⟩
        rw [hmm.out]
        go_wp2_with fail
        refine (rsize_any (fun _ => True) b y n _ (h1.out.rk hoc)).mono ?_
        rintro e w2 ⟨rfl, nq, e9⟩
        have h2 := h1.out.drewN nq
        rw [← e9] at h2
        have f2 := f1.drewN nq
        rw [← e9] at f2
        clear e9 f1
        replace h2 := hid h2
        obtain ⟨hfs, hbs, c0, d1, d2, g1, g2⟩ := h2.out.file hn
        have hne := h2.out.ne
        have h4 := hid (((h2.out.setR hn ((y.rs n).take q)).alloc (.cells #[sv (y.ls n), sv (y.rs n)] 66)).drew)
        go_wp2_with fail
        go_region
        go_wp2_with fail
        go_ret
        rw [e1.out, e2.out]
        exact ⟨rfl, h4.out, ((f2.setCell (Or.inl (Or.inr rfl)) _).alloc _).drew⟩
  · rw [if_pos hm] at e1
    rw [e1, if_neg hm] at e2
    replace e1 := hid e1
    replace e2 := hid e2
    rcases rMay_cases f y with hk | hk | hk
    · exact absurd hk hm
    all_goals
      replace hk := hid hk
      clear hm
      go_enter Try.func42, Try.ntmps42
      go_wp2_with fail
      refine hcm.out.mono ?_
      rintro e w1 ⟨rfl, h1, f1⟩
      replace h1 := hid h1
      go_wp2_with fail
      refine (rmay_any (fun _ => True) b y f _ (h1.out.rk hoc)).mono ?_
      rintro e w2 ⟨rfl, rfl⟩
      rw [hk.out]
      go_wp2_with fail
      go_ret
      rw [e1.out, e2.out, hk.out]
      exact ⟨rfl, h1.out, f1⟩

set_option maxHeartbeats 4000000 in
set_option maxRecDepth 100000 in
theorem rturn_any (b fb cp : Nat) (vk : Value) (x : RS) (f g : Int) (w : World) (h : RV b fb cp vk x w) (ho : ROk x) :
    Calls Try.prog 43 #[pt b, iv f, iv g] w (VP b fb cp vk w (iv (rTurn1 f g x)) (rTurn2 f g x)) := by
  have hoc := ho.comes 0 []
  have hcm := hid (rcomes_any b fb cp vk x 0 [] w h ho (by decide))
  have e1 : rTurn1 f g x = if rMay f (rComes 0 [] x) ≠ 0 then rMay f (rComes 0 [] x) else if rMay g (rComes 0 [] x) ≠ 0 then rMay g (rComes 0 [] x) else if f = g then 1 else if (rComes 0 [] x).rs g.toNat ≠ [] then 16 else 0 := rfl
  have e2 : rTurn2 f g x = if rTurn1 f g x = 0 then rSet g.toNat [] [] (rSet f.toNat ((rComes 0 [] x).ls g.toNat) ((rComes 0 [] x).rs g.toNat) (rComes 0 [] x)) else rComes 0 [] x := rfl
  generalize rComes 0 [] x = y at *
  clear h ho
  by_cases hm : rMay f y = 0
  · rw [hm, if_neg (by simp)] at e1
    by_cases hg : rMay g y = 0
    · rw [hg, if_neg (by simp)] at e1
      obtain ⟨hd, hv⟩ := rMay_zero hm
      obtain ⟨-, hw⟩ := rMay_zero hg
      obtain ⟨n, hn, rfl, hn2⟩ := idx8 (F := fun _ => True) f hv
      obtain ⟨m, hmm, rfl, hm2⟩ := idx8 (F := fun _ => True) g hw
      have hnI : (n : Int) < 8 := by omega
      have hmI : (m : Int) < 8 := by omega
      rw [hn2, hm2] at e2
      rw [hm2] at e1
      have hi := RV.idx (fb := fb) (cap := cp) hn
      have hj := RV.idx (fb := fb) (cap := cp) hmm
      replace hm := hid hm
      replace hg := hid hg
      clear hd hv hw hn2 hm2
      by_cases hfg : n = m
      · subst hfg
        rw [if_pos rfl] at e1
        rw [e1, if_neg (by decide)] at e2
        replace e1 := hid e1
        replace e2 := hid e2
        go_enter Try.func43, Try.ntmps43
        go_wp2_with fail
        refine hcm.out.mono ?_
        rintro e w1 ⟨rfl, h1, f1⟩
        replace h1 := hid h1
        go_wp2_with fail
        refine (rmay_any (fun _ => True) b y n _ (h1.out.rk hoc)).mono ?_
        rintro e w2 ⟨rfl, rfl⟩
        rw [hm.out]
        go_wp2_with fail
        refine (rmay_any (fun _ => True) b y n _ (h1.out.rk hoc)).mono ?_
        rintro e w2 ⟨rfl, rfl⟩
        rw [hm.out]
        go_wp2_with fail
        go_ret
        rw [e1.out, e2.out]
        exact ⟨rfl, h1.out, f1⟩
      · have hne1 : ((n : Int) == (m : Int)) = false := by simp; omega
        have hne2 : ¬ (n : Int) = (m : Int) := by omega
        rw [if_neg hne2] at e1
        cases hr : y.rs m with
        | cons a r =>
          rw [hr, if_pos (by simp)] at e1
          rw [e1, if_neg (by decide)] at e2
          replace e1 := hid e1
          replace e2 := hid e2
          go_enter Try.func43, Try.ntmps43
          go_wp2_with fail
          refine hcm.out.mono ?_
          rintro e w1 ⟨rfl, h1, f1⟩
          replace h1 := hid h1
          go_wp2_with fail
          refine (rmay_any (fun _ => True) b y n _ (h1.out.rk hoc)).mono ?_
          rintro e w2 ⟨rfl, rfl⟩
          rw [hm.out]
          go_wp2_with fail
          refine (rmay_any (fun _ => True) b y m _ (h1.out.rk hoc)).mono ?_
          rintro e w2 ⟨rfl, rfl⟩
          rw [hg.out]
          obtain ⟨hfs, hbs, c0, d1, d2, g1, g2⟩ := h1.out.file hmm
          rw [hr] at d2
          clear hr
          go_wp2_with fail
          go_ret
          rw [e1.out, e2.out]
          exact ⟨rfl, h1.out, f1⟩
        | nil =>
          rw [hr, if_neg (by simp)] at e1
          rw [e1, if_pos rfl, hr] at e2
          replace e1 := hid e1
          replace e2 := hid e2
          go_enter Try.func43, Try.ntmps43
          go_wp2_with fail
          refine hcm.out.mono ?_
          rintro e w1 ⟨rfl, h1, f1⟩
          replace h1 := hid h1
          go_wp2_with fail
          refine (rmay_any (fun _ => True) b y n _ (h1.out.rk hoc)).mono ?_
          rintro e w2 ⟨rfl, rfl⟩
          rw [hm.out]
          go_wp2_with fail
          refine (rmay_any (fun _ => True) b y m _ (h1.out.rk hoc)).mono ?_
          rintro e w2 ⟨rfl, rfl⟩
          rw [hg.out]
          obtain ⟨hfs, hbs, c0, d1, d2, g1, g2⟩ := h1.out.file hmm
          obtain ⟨-, -, -, d3, d4, g3, g4⟩ := h1.out.file hn
          rw [hr] at d2
          clear hr
          have hne := h1.out.ne
          have h4 := hid ((h1.out.drew.setLR hn (y.ls m) []).setLR hmm [] [])
          go_wp2_with fail
          go_region
          go_wp2_with fail
          go_ret
          rw [e1.out, e2.out]
          exact ⟨rfl, h4.out, (((f1.drew.setCell (Or.inl (Or.inr rfl)) _).setCell (Or.inl (Or.inr rfl)) _).setCell (Or.inl (Or.inr rfl)) _).setCell (Or.inl (Or.inr rfl)) _⟩
    · rw [if_pos hg] at e1
      rw [e1, if_neg hg] at e2
      replace e1 := hid e1
      replace e2 := hid e2
      replace hm := hid hm
      rcases rMay_cases g y with hk | hk | hk
      · exact absurd hk hg
      all_goals
        replace hk := hid hk
        clear hg
        go_enter Try.func43, Try.ntmps43
        go_wp2_with fail
        refine hcm.out.mono ?_
        rintro e w1 ⟨rfl, h1, f1⟩
        replace h1 := hid h1
        go_wp2_with fail
        refine (rmay_any (fun _ => True) b y f _ (h1.out.rk hoc)).mono ?_
        rintro e w2 ⟨rfl, rfl⟩
        rw [hm.out]
        go_wp2_with fail
        refine (rmay_any (fun _ => True) b y g _ (h1.out.rk hoc)).mono ?_
        rintro e w2 ⟨rfl, rfl⟩
        rw [hk.out]
        go_wp2_with fail
        go_ret
        rw [e1.out, e2.out, hk.out]
        exact ⟨rfl, h1.out, f1⟩
  · rw [if_pos hm] at e1
    rw [e1, if_neg hm] at e2
    replace e1 := hid e1
    replace e2 := hid e2
    rcases rMay_cases f y with hk | hk | hk
    · exact absurd hk hm
    all_goals
      replace hk := hid hk
      clear hm
      go_enter Try.func43, Try.ntmps43
      go_wp2_with fail
      refine hcm.out.mono ?_
      rintro e w1 ⟨rfl, h1, f1⟩
      replace h1 := hid h1
      go_wp2_with fail
      refine (rmay_any (fun _ => True) b y f _ (h1.out.rk hoc)).mono ?_
      rintro e w2 ⟨rfl, rfl⟩
      rw [hk.out]
      go_wp2_with fail
      go_ret
      rw [e1.out, e2.out, hk.out]
      exact ⟨rfl, h1.out, f1⟩
end Go.Proofs.Ytdapjoapndemkaa
