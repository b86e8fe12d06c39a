/- Chapter 05 (disk): the reference's comes, Append, Flush, Cut, Turn. -/
import Derived.Test.YtdapjoapndemkaaDiskR2
set_option linter.unusedVariables false
namespace Go.Proofs.Ytdapjoapndemkaa
open Go.RowKit
open Go.Lib (hid)
theorem RV.krow {b fb cap : Nat} {vk : Value} {x : RS} {w w' : World} (h : RV b fb cap vk x w) (hf : Fr (ff b fb) w w') : Row w'.heap.size w' 1 vk x.keep.length (x.keep.map iv) :=
  Row.of_owns (owns_blk (base' := 0) h.own (fun k hk => hf.block k (h.foot_lt (Or.inr (Or.inr hk))) (fun e => by rcases e with e | e; exact h.nek.1 (by rw [hk, e]); exact h.nek.2 (by rw [hk, e]))) (fun _ _ => Nat.zero_le _))
theorem ROk.less {x : RS} (h : ROk x) : ROk (rLess x) := ⟨h.len, h.lost, by show x.armed - 1 ≤ _; have := h.armed; omega, h.keep⟩
theorem ROk.grow {x : RS} (h : ROk x) {f : Nat} {s : List UInt8} (hs : (x.ls f).length + (x.rs f).length + s.length ≤ 16777216) : ROk (rGrow f s x) := by
  refine ⟨fun g hg => ?_, h.lost, h.armed, h.keep⟩
  show (x.ls g).length + (upd x.rs f (x.rs f ++ s) g).length ≤ _
  unfold upd
  split
  · rename_i e; subst e; rw [List.length_append]; omega
  · exact h.len g hg
theorem ROk.bump {x : RS} (h : ROk x) (f : Int) (s : List UInt8) : ROk (rBump f s x) := by
  unfold rBump
  split
  · rename_i hf
    unfold rFits rSize at hf
    cases hv : vF f with
    | true => rw [hv] at hf; simp at hf; exact h.grow hf
    | false => rw [hv] at hf; simp at hf
  · exact h
theorem ROk.crash {x : RS} (h : ROk x) (l : List Int) : ROk (rCrash l x) := by
  unfold rCrash
  split
  · exact h
  · exact rFall_ok h l
theorem ROk.comes {x : RS} (h : ROk x) (f : Int) (s : List UInt8) : ROk (rComes f s x) := by
  unfold rComes
  split
  · exact h
  · split
    · exact h
    · split
      · exact (h.less.bump f s).crash _
      · exact h.less
theorem RV.grow {b fb cap : Nat} {vk : Value} {x : RS} {w : World} (h : RV b fb cap vk x w) {f : Nat} (hf : f < 8) (s : List UInt8) : RV b fb cap vk (rGrow f s x) (w.setCell ⟨fb, f * 2 + 1, none⟩ (sv (x.rs f ++ s))) := h.setR hf _

set_option maxHeartbeats 4000000 in
set_option maxRecDepth 100000 in
theorem rcomes_any (b fb cp : Nat) (vk : Value) (x : RS) (f : Int) (s : List UInt8) (w : World) (h : RV b fb cp vk x w) (ho : ROk x) (hs : s.length ≤ 1048576) :
    Calls Try.prog 48 #[pt b, iv f, sv s] w (VP b fb cp vk w (.tuple #[]) (rComes f s x)) := by
  obtain ⟨c1, c2, c3, c4, f1, f2, f3⟩ := h.head
  have hh := hid h
  have hoo := hid ho
  cases hd : x.down with
  | true =>
    have e1 := hid (show rComes f s x = x by unfold rComes; rw [hd]; rfl)
    rw [hd] at c2
    clear h hd ho
    go_enter Try.func48, Try.ntmps48
    go_wp2
    go_end0
    rw [e1.out]
    exact ⟨rfl, hh.out, Fr.refl _ _⟩
  | false =>
    rw [hd] at c2
    have hal := ho.armed
    rcases (by omega : x.armed = 0 ∨ x.armed = 1 ∨ 2 ≤ x.armed) with ha | ha | ha
    · have e1 := hid (show rComes f s x = x by unfold rComes; rw [hd, ha]; rfl)
      rw [ha] at c3
      clear h hd ha hal ho
      go_enter Try.func48, Try.ntmps48
      go_wp2
      go_end0
      rw [e1.out]
      exact ⟨rfl, hh.out, Fr.refl _ _⟩
    · have e1 := hid (show rComes f s x = rCrash x.keep (rBump f s (rLess x)) by unfold rComes; rw [hd, ha]; rfl)
      have hl : rLess x = { x with armed := 0 } := by unfold rLess; rw [ha]
      have h1 := h.set 3 (iv 0) (x' := rLess x) (by rw [hl]; rfl) rfl rfl rfl
      have hf1 : Fr (ff b fb) w (w.setCell ⟨b, 3, none⟩ (iv 0)) := (Fr.refl _ _).setCell (Or.inl (Or.inl rfl)) _
      rw [ha] at c3
      have ho1 := ho.less
      have hkp : (rLess x).keep = x.keep := rfl
      replace hl := hid hl
      replace hkp := hid hkp
      have hrk : ∀ w', Rk (fun _ => True) b (rLess x) w' ↔ Rk (fun _ => True) b (rLess x) w' := fun _ => Iff.rfl
      have hrk1 : Rk (fun _ => True) b (rLess x) (w.setCell ⟨b, 3, none⟩ (iv 0)) := ⟨ho1, fb, cp, vk, h1, fun _ _ => trivial⟩
      cases hfit : rFits f s (rLess x) with
      | false =>
        have hb : rBump f s (rLess x) = rLess x := by unfold rBump; rw [hfit]; rfl
        rw [hb] at e1
        clear h hd ho hb ha hal
        have hsz := hid (rsize_any (fun _ => True) b (rLess x) f _ hrk1)
        cases hv : vF f with
        | false =>
          have hv2 := (vF_not f).1 hv
          replace hfit := hid hfit
          replace h1 := hid h1
          replace hf1 := hid hf1
          by_cases hneg : f < 0
          all_goals
            go_enter Try.func48, Try.ntmps48
            go_wp2_with fail
            refine (rcrash_any b fb cp vk (rLess x) x.keep vk _ h1.out ho1 (fun w' hf' => h1.out.krow hf') ho1.keep.1 ho1.keep.2).mono ?_
            rintro e w3 ⟨rfl, h3, f3⟩
            go_wp2
            go_end0
            rw [e1.out]
            exact ⟨rfl, h3, hf1.out.trans f3⟩
        | true =>
          have hsmall : 16777216 < rSize f (rLess x) + s.length := by
            rcases Nat.lt_or_ge 16777216 (rSize f (rLess x) + s.length) with h9 | h9
            · exact h9
            · have : rFits f s (rLess x) = true := by unfold rFits; rw [hv]; simp; exact h9
              rw [this] at hfit; cases hfit
          have hsb : rSize f (rLess x) ≤ 16777216 := by unfold rSize; rw [hv]; exact ho1.len _ (vF_lt hv)
          have hw1 : IntKind.i64.wrap ((rSize f (rLess x) : Int) + s.length) = (rSize f (rLess x) : Int) + s.length := by rw [IntKind.wrap_i64]; omega
          have hdc : decide ((rSize f (rLess x) : Int) + s.length ≤ 16777216) = false := by simp; omega
          obtain ⟨hv1, hv2⟩ := (vF_iff f).1 hv
          replace hfit := hid hfit
          replace h1 := hid h1
          replace hf1 := hid hf1
          clear hsmall
          go_enter Try.func48, Try.ntmps48
          go_wp2_with fail
          refine (hsz.out).mono ?_
          rintro e w2 ⟨rfl, nq, rfl⟩
          go_wp2_with fail
          refine (rcrash_any b fb cp vk (rLess x) x.keep vk _ (h1.out.drewN _) ho1 (fun w' hf' => (h1.out.drewN _).krow hf') ho1.keep.1 ho1.keep.2).mono ?_
          rintro e w3 ⟨rfl, h3, f3⟩
          go_wp2
          go_end0
          rw [e1.out]
          exact ⟨rfl, h3, (hf1.out.drewN _).trans f3⟩
      | true =>
        obtain ⟨hv, hfl⟩ : vF f = true ∧ rSize f (rLess x) + s.length ≤ 16777216 := by unfold rFits at hfit; simpa using hfit
        have hb : rBump f s (rLess x) = rGrow f.toNat s (rLess x) := by unfold rBump; rw [hfit]; rfl
        rw [hb] at e1
        have hob := ho1.bump f s
        rw [hb] at hob
        clear hb hd ha hal
        have hsz := hid (rsize_any (fun _ => True) b (rLess x) f _ hrk1)
        obtain ⟨n, hn, rfl, hn2⟩ := idx8 (F := fun _ => True) f hv
        have hnI : (n : Int) < 8 := by omega
        rw [hn2] at e1 hob
        have hfl2 : (rSize (n : Int) (rLess x) : Int) + s.length ≤ 16777216 := by omega
        have hw1 : IntKind.i64.wrap ((rSize (n : Int) (rLess x) : Int) + s.length) = (rSize (n : Int) (rLess x) : Int) + s.length := by rw [IntKind.wrap_i64]; omega
        obtain ⟨hfs, hbs, c0, d1, d2, g1, g2⟩ := h.file hn
        have hi := RV.idx (fb := fb) (cap := cp) hn
        have hle := ho.len n hn
        have hne := h.ne
        have h4 := hid (fun nq => (h1.drewN (nq + 1)).grow hn s)
        have hcat := fun W => scat (P := Try.prog) (x.rs n) s (by omega) W
        replace hfit := hid hfit
        replace h1 := hid h1
        replace hf1 := hid hf1
        clear h ho hv hn2 hfl
        go_enter Try.func48, Try.ntmps48
        go_wp2_with fail
        refine (hsz.out).mono ?_
        rintro e w2 ⟨rfl, nq, rfl⟩
        go_wp2_with fail
        go_region
        go_wp2_with fail
        refine (rcrash_any b fb cp vk (rGrow n s (rLess x)) x.keep vk _ (h4.out nq) hob (fun w' hf' => (h4.out nq).krow hf') ho1.keep.1 ho1.keep.2).mono ?_
        rintro e w3 ⟨rfl, h3, f3⟩
        go_wp2
        go_end0
        rw [e1.out]
        exact ⟨rfl, h3, ((hf1.out.drewN _).setCell (Or.inl (Or.inr rfl)) _).trans f3⟩
    · have e1 := hid (show rComes f s x = rLess x by unfold rComes; rw [hd, if_neg (by simp), if_neg (by omega), if_neg (by omega)])
      obtain ⟨m, hm⟩ : ∃ m : Nat, x.armed = m + 1 := ⟨x.armed - 1, by omega⟩
      have h1 := hid (h.set 3 (iv m) (x' := rLess x) (by unfold rLess rCells; rw [hm]; rfl) rfl rfl rfl)
      rw [hm] at c3
      replace c3 : w.cell? ⟨b, 3, none⟩ = some (iv ((m : Int) + 1)) := c3
      have hm1 : 1 ≤ m := by omega
      have hm2 : m + 1 ≤ 9223372036854775807 := by omega
      have hw1 : IntKind.i64.wrap ((m : Int) + 1 - 1) = (m : Int) := by rw [IntKind.wrap_i64]; omega
      have hz0 : ((m : Int) + 1 == 0) = false := by simp; omega
      have hz1 : decide (0 < (m : Int)) = true := by simp; omega
      clear h hd ha hal ho hm
      go_enter Try.func48, Try.ntmps48
      go_wp2
      go_end0
      rw [e1.out]
      exact ⟨rfl, h1.out, (Fr.refl _ _).setCell (Or.inl (Or.inl rfl)) _⟩
theorem ROk.set {x : RS} (h : ROk x) {f : Nat} {l r : List UInt8} (hs : l.length + r.length ≤ 16777216) : ROk (rSet f l r x) := by
  refine ⟨fun g hg => ?_, h.lost, h.armed, h.keep⟩
  show (upd x.ls f l g).length + (upd x.rs f r g).length ≤ _
  unfold upd
  split
  · exact hs
  · exact h.len g hg
theorem VP.then {b fb cp : Nat} {vk : Value} {w w1 w2 : World} {v : Value} {x2 : RS} (hf : Fr (ff b fb) w w1) (h2 : RV b fb cp vk x2 w2) (hf2 : Fr (ff b fb) w1 w2) : VP b fb cp vk w v x2 (.returned v) w2 := ⟨rfl, h2, hf.trans hf2⟩
theorem RV.rk {b fb cp : Nat} {vk : Value} {x : RS} {w : World} (h : RV b fb cp vk x w) (ho : ROk x) : Rk (fun _ => True) b x w := ⟨ho, fb, cp, vk, h, fun _ _ => trivial⟩
theorem rMay_cases (f : Int) (x : RS) : rMay f x = 0 ∨ rMay f x = 12 ∨ rMay f x = 1 := by unfold rMay; split; exact Or.inr (Or.inl rfl); split; exact Or.inl rfl; exact Or.inr (Or.inr rfl)

set_option maxHeartbeats 4000000 in
set_option maxRecDepth 100000 in
theorem rapp_any (b fb cp : Nat) (vk : Value) (x : RS) (f : Int) (s : List UInt8) (w : World) (h : RV b fb cp vk x w) (ho : ROk x) (hs : s.length ≤ 1048576) :
    Calls Try.prog 40 #[pt b, iv f, sv s] w (VP b fb cp vk w (iv (rApp1 f s x)) (rApp2 f s x)) := by
  have hoc := ho.comes f s
  have hcm := hid (rcomes_any b fb cp vk x f s w h ho hs)
  have e1 : rApp1 f s x = if rMay f (rComes f s x) ≠ 0 then rMay f (rComes f s x) else if 16777216 < rSize f (rComes f s x) + s.length then 15 else 0 := rfl
  have e2 : rApp2 f s x = if rApp1 f s x = 0 then rGrow f.toNat s (rComes f s x) else rComes f s x := rfl
  generalize rComes f s x = y at *
  clear h ho
  by_cases hm : rMay f y = 0
  · obtain ⟨hd, hv⟩ := rMay_zero hm
    have hsb : rSize f y ≤ 16777216 := by unfold rSize; rw [hv]; exact hoc.len _ (vF_lt hv)
    have hw1 : IntKind.i64.wrap ((rSize f y : Int) + s.length) = (rSize f y : Int) + s.length := by rw [IntKind.wrap_i64]; omega
    have hmm := hm
    rw [hm] at e1
    by_cases hbig : 16777216 < rSize f y + s.length
    · have hdc : decide (16777216 < (rSize f y : Int) + s.length) = true := by simp; omega
      rw [if_neg (by simp), if_pos hbig] at e1
      rw [e1, if_neg (by decide)] at e2
      replace e1 := hid e1
      replace e2 := hid e2
      replace hmm := hid hmm
      clear hm hd hv
      go_enter Try.func40, Try.ntmps40
      go_wp2_with fail
      refine hcm.out.mono ?_
      rintro e w1 ⟨rfl, h1, f1⟩
      replace h1 := hid h1
      go_wp2_with fail
      refine (rmay_any (fun _ => True) b y f _ (h1.out.rk hoc)).mono ?_
      rintro e w2 ⟨rfl, rfl⟩
      rw [hmm.out]
      go_wp2_with fail
      refine (rsize_any (fun _ => True) b y f _ (h1.out.rk hoc)).mono ?_
      rintro e w2 ⟨rfl, nq, rfl⟩
      go_wp2_with fail
      go_ret
      rw [e1.out, e2.out]
      exact ⟨rfl, h1.out.drewN _, f1.drewN _⟩
    · have hdc : decide (16777216 < (rSize f y : Int) + s.length) = false := by simp; omega
      rw [if_neg (by simp), if_neg hbig] at e1
      rw [e1, if_pos rfl] at e2
      obtain ⟨n, hn, rfl, hn2⟩ := idx8 (F := fun _ => True) f hv
      have hnI : (n : Int) < 8 := by omega
      rw [hn2] at e2
      have hi := RV.idx (fb := fb) (cap := cp) hn
      have hle := hoc.len n hn
      have hcat := fun W => scat (P := Try.prog) (y.rs n) s (by omega) W
      replace e1 := hid e1
      replace e2 := hid e2
      replace hmm := hid hmm
      clear hm hd hv hn2 hbig
      go_enter Try.func40, Try.ntmps40
      go_wp2_with fail
      refine hcm.out.mono ?_
      rintro e w1 ⟨rfl, h1, f1⟩
      replace h1 := hid h1
      go_wp2_with fail
      refine (rmay_any (fun _ => True) b y n _ (h1.out.rk hoc)).mono ?_
      rintro e w2 ⟨rfl, rfl⟩
      rw [hmm.out]
      go_wp2_with fail
      refine (rsize_any (fun _ => True) b y n _ (h1.out.rk hoc)).mono ?_
      rintro e w2 ⟨rfl, nq, rfl⟩
      obtain ⟨hfs, hbs, c0, d1, d2, g1, g2⟩ := h1.out.file hn
      have hne := h1.out.ne
      have h4 := hid ((h1.out.drewN (nq + 1)).grow hn s)
      go_wp2_with fail
      go_region
      go_wp2_with fail
      go_ret
      rw [e1.out, e2.out]
      exact ⟨rfl, h4.out, (f1.drewN (nq + 1)).setCell (Or.inl (Or.inr rfl)) _⟩
  · rw [if_pos hm] at e1
    rw [e1, if_neg hm] at e2
    replace e1 := hid e1
    replace e2 := hid e2
    rcases rMay_cases f y with hk | hk | hk
    · exact absurd hk hm
    all_goals
      replace hk := hid hk
      clear hm
      go_enter Try.func40, Try.ntmps40
      go_wp2_with fail
      refine hcm.out.mono ?_
      rintro e w1 ⟨rfl, h1, f1⟩
      replace h1 := hid h1
      go_wp2_with fail
      refine (rmay_any (fun _ => True) b y f _ (h1.out.rk hoc)).mono ?_
      rintro e w2 ⟨rfl, rfl⟩
      rw [hk.out]
      go_wp2_with fail
      go_ret
      rw [e1.out, e2.out, hk.out]
      exact ⟨rfl, h1.out, f1⟩
end Go.Proofs.Ytdapjoapndemkaa
