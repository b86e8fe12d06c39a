/- Chapter 05 (disk): the law DiskLasts. -/
import Derived.Test.YtdapjoapndemkaaDiskW12
import Derived.Test.YtdapjoapndemkaaDiskP
import Derived.Test.YtdapjoapndemkaaDiskL4
set_option linter.unusedVariables false
namespace Go.Proofs.Ytdapjoapndemkaa
open Go.RowKit
open Go.Lib (hid)
def sCells (safe : Nat → List UInt8) : Array Value := #[sv (safe 0), sv (safe 1), sv (safe 2), sv (safe 3), sv (safe 4), sv (safe 5), sv (safe 6), sv (safe 7)]
theorem sCells_at (safe : Nat → List UInt8) : ∀ f, f < 8 → (sCells safe)[f]? = some (sv (safe f)) := lt8 rfl rfl rfl rfl rfl rfl rfl rfl
theorem sCells_set (safe : Nat → List UInt8) (x : List UInt8) : ∀ f, f < 8 → (sCells safe).setIfInBounds f (sv x) = sCells (upd safe f x) := lt8 rfl rfl rfl rfl rfl rfl rfl rfl
theorem alloc_below (w : World) (o : Obj) : Below w.heap.size w (w.alloc o) := (Below.refl _ _).alloc (Nat.le_refl _) _
/-- block S holds eight strings -/
def Strs (S : Nat) (safe : Nat → List UInt8) (w : World) : Prop := w.heap[S]? = some (.cells (sCells safe) 9 (0, 0))
theorem Strs.cell {S : Nat} {safe : Nat → List UInt8} {w : World} (h : Strs S safe w) {f : Nat} (hf : f < 8) : w.cell? ⟨S, f, none⟩ = some (sv (safe f)) := by rw [cell_of h]; exact sCells_at safe f hf
theorem Strs.free {S : Nat} {safe : Nat → List UInt8} {w : World} (h : Strs S safe w) (f : Nat) : w.frozen? ⟨S, f, none⟩ = false := free_of h
theorem Strs.set {S : Nat} {safe : Nat → List UInt8} {w : World} (h : Strs S safe w) {f : Nat} (hf : f < 8) (x : List UInt8) : Strs S (upd safe f x) (w.setCell ⟨S, f, none⟩ (sv x)) := by
  have := heap_setCell_same (i := f) h (sv x)
  rw [sCells_set safe x f hf] at this
  exact this
theorem strs_idx (S f : Nat) (hf : f < 8) : ∀ kd W, (Instr.indexAt 37 (.slice (some ⟨S, 0, none⟩) 8 8) (.int kd f)).run Try.prog W = .ok (.pointer (some ⟨S, f, none⟩)) W := fun kd W => by
  have := row_idx (P := Try.prog) (t := 37) (sz := 1) (by kernel_rfl) (fun _ => by kernel_rfl) (rfl : (some ⟨S, 0, none⟩ : Option Addr) = some ⟨S, 0, none⟩) 8 8 f hf kd W
  simpa using this

theorem flush_up {f : Int} {d : DS} (h : flush1 f d = 0) : d.down = false := by
  by_cases h0 : start1 d = 0
  · exact (start1_zero h0).1
  · unfold flush1 at h; rw [if_pos h0] at h; exact absurd h h0
abbrev NoF : Nat → Prop := fun _ => False
def mixS (x s : Nat → List UInt8) (f : Nat) : Nat → List UInt8 := fun i => if i < f then x i else s i
theorem mixS_at (x s : Nat → List UInt8) (f : Nat) : mixS x s f f = s f := if_neg (Nat.lt_irrefl f)
theorem mixS_next (x s : Nat → List UInt8) (f : Nat) : upd (mixS x s f) f (x f) = mixS x s (f + 1) := by
  funext i
  unfold upd mixS
  split
  · rename_i e; subst e; rw [if_pos (Nat.lt_succ_self _)]
  · split
    · rw [if_pos (by omega)]
    · rw [if_neg (by omega)]
theorem mixS_all {x s : Nat → List UInt8} {S : Nat} {w : World} : Strs S (mixS x s 8) w = Strs S x w := by
  have : sCells (mixS x s 8) = sCells x := rfl
  unfold Strs; rw [this]
theorem dk_drewN {F : Nat → Prop} {b : Nat} {d : DS} {w : World} (h : DkD F b d w) (n : Nat) : DkD F b d (w.drewN n) := h.fr ((Fr.refl (fun _ => False) w).drewN n) (fun _ _ h => h)
theorem mk8 (w : World) : (Instr.makeSlice 37 (.int .i64 8) (.int .i64 8)).run Try.prog w = .ok (.slice (some ⟨w.heap.size, 0, none⟩) 8 8) (w.alloc (.cells (sCells fun _ => []) 9)) := by kernel_rfl
set_option maxHeartbeats 16000000 in
set_option maxRecDepth 100000 in
theorem DiskLasts_walk (l : List AC) (keep : List Int) (v vk : Value) (w : World) (hr : ARow w.heap.size w v l) (hl : l.length ≤ 1048576) (hs : ∀ k, sumA l k ≤ 1048576) (hok : ∀ a ∈ l, ActOk a) (hkr : Row w.heap.size w 1 vk keep.length (keep.map iv)) (hkl : keep.length ≤ 1048576) (hkx : ∀ x ∈ keep, x ≤ 9223372036854775807) :
    Calls Try.prog 4 #[v, vk] w fun e w' => e = .returned (.bool true) ∧ Below w.heap.size w w' := by
  obtain ⟨a, cap, rfl⟩ := hr.slice
  have hR := hid hr
  have hS := hid hs
  have hO := hid hok
  have hK := hid hkr
  have hKx := hid hkx
  clear hr hs hok hkr hkx
  go_enter Try.func4, Try.ntmps4
  go_wp2_with fail
  refine (small_any _).mono ?_
  rintro e w1 ⟨rfl, hB⟩
  go_wp2_with fail
  refine (new_any _).mono ?_
  rintro e w2 ⟨rfl, h, hb, hz⟩
  have hP : w.heap.size ≤ w1.heap.size := hB.size
  replace hB := hB.trans (hb.mono hP)
  have hwB : w1.heap.size ≤ w2.heap.size := hb.size
  clear hb hz
  have hd := hid h
  clear h
  generalize w1.heap.size = B at *
  go_wp2_with fail
  refine (few_any _ l _ _ (hR.out.below hB) hB.size hl hS.out).mono ?_
  rintro e w3 ⟨rfl, hb⟩
  replace hB := hB.trans (hb.mono hB.size)
  replace hd := hid (dk_below hd.out hb)
  replace hwB := Nat.le_trans hwB hb.size
  clear hb
  cases hfa : fewA l with
  | false =>
    go_wp2
    go_ret
    exact ⟨rfl, hB⟩
  | true =>
    have hmk := mk8 w3
    have hSt : Strs w3.heap.size (fun _ => []) (w3.alloc (.cells (sCells fun _ => []) 9)) := heap_alloc_new' _ _
    have hd2 := hid ((dk_alloc (hd.out.mono (G := fun k => B ≤ k ∧ k ≠ w3.heap.size) (fun k h1 h2 => ⟨h2, by omega⟩)) (.cells (sCells fun _ => []) 9)))
    have hB2 : Below w.heap.size w (w3.alloc (.cells (sCells fun _ => []) 9)) := hB.alloc hB.size _
    have hlt3 : w3.heap.size < (w3.alloc (.cells (sCells fun _ => []) 9)).heap.size := by simp
    clear hd hB
    generalize hw4 : w3.alloc (.cells (sCells fun _ => []) 9) = w4 at *
    generalize w3.heap.size = S at *
    clear hw4
    go_wp2_with fail
    clear hmk
    go_loopw [8] (fun i wr => ∃ (k : Nat) (d : DS) (safe : Nat → List UInt8), i = .int .i64 k ∧ k ≤ l.length ∧ DkD (fun k => B ≤ k ∧ k ≠ S) B d wr ∧ Safe safe d ∧ Fell d ∧ Strs S safe wr ∧ Below w.heap.size w wr ∧ S < wr.heap.size) (fun i _ => l.length - (intOf i).toNat)
    case atStart => exact ⟨0, dNew, fun _ => [], rfl, Nat.zero_le _, hd2.out, Safe.new, Fell.up rfl, hSt, hB2, hlt3⟩
    case round =>
      clear hd2 hSt hB2 hlt3
      obtain ⟨k, d, safe, rfl, hk, hd, hSa, hFe, hSt, hB, hSl⟩ := hrel
      by_cases hlt : k < l.length
      · have hclr := True.intro
        obtain ⟨y, hy⟩ : ∃ y, l[k]? = some y := ⟨_, List.getElem?_eq_getElem hlt⟩
        obtain ⟨g, o, hidx, vy, e0, e1, e2, e3, e4, e5, ry⟩ := (hR.out.below hB).at hy
        have hyo := hid (hO.out y (List.mem_of_getElem? hy))
        have hry := hid (ry.mono hP)
        obtain ⟨ya, yc, yb, yo, rfl, -⟩ := ry
        have hwB : B ≤ wr.heap.size := by have := hd.1; obtain ⟨_, vs, h1, h2⟩ := hd; have := h1.lt; have := (h2 B (Or.inl rfl)).1; omega
        have hd1 := hid (dk_alloc (hd.mono (G := fun k => B ≤ k ∧ k ≠ S ∧ k ≠ wr.heap.size) (fun k h1 h2 => ⟨h2.1, h2.2, by omega⟩)) (.cells #[iv y.op, iv y.f, iv y.g, iv y.n, sv y.s, .slice ya y.keep.length yc] 39))
        have hS1 := hid (show Strs S safe (wr.alloc (.cells #[iv y.op, iv y.f, iv y.g, iv y.n, sv y.s, .slice ya y.keep.length yc] 39)) from heap_alloc_lt hSt)
        have hA := heap_alloc_new' wr (.cells #[iv y.op, iv y.f, iv y.g, iv y.n, sv y.s, .slice ya y.keep.length yc] 39)
        have hB1 : Below w.heap.size w (wr.alloc (.cells #[iv y.op, iv y.f, iv y.g, iv y.n, sv y.s, .slice ya y.keep.length yc] 39)) := hB.alloc hB.size _
        have hry1 := hid (hry.out.below (alloc_below wr (.cells #[iv y.op, iv y.f, iv y.g, iv y.n, sv y.s, .slice ya y.keep.length yc] 39)) hwB)
        have hsz : S < (wr.alloc (.cells #[iv y.op, iv y.f, iv y.g, iv y.n, sv y.s, .slice ya y.keep.length yc] 39)).heap.size ∧ wr.heap.size < (wr.alloc (.cells #[iv y.op, iv y.f, iv y.g, iv y.n, sv y.s, .slice ya y.keep.length yc] 39)).heap.size := by simp; omega
        replace hSa := hid hSa
        replace hFe := hid hFe
        clear hy hry hd hSt hB
        go_wp2_with fail
        clear hidx e0 e1 e2 e3 e4 e5
        generalize wr.alloc (.cells #[iv y.op, iv y.f, iv y.g, iv y.n, sv y.s, .slice ya y.keep.length yc] 39) = wa at *
        generalize wr.heap.size = A at *
        refine (down_any _ B d _ hd1.out).mono ?_
        rintro e w4 ⟨rfl, rfl⟩
        obtain ⟨c0, c1, c2, c3, c4, c5⟩ := cells6 hA
        go_wp2_with fail
        refine (do_gen _ B B d y _ _ hd1.out (fun k hk => ⟨by omega, by omega, by omega⟩) (fun k h => h.1) (by omega) hyo.out hry1.out).mono ?_
        rintro e w5 ⟨rfl, h, hf⟩
        have hS5 := hf.keep hS1.out (fun h => h.2.1 rfl)
        replace hA := hf.keep hA (fun h => h.2.2 rfl)
        have hB5 := hB1.trans (hf.to_below hB1.size (fun k hk h => by have := h.1; omega))
        have hSz5 : S < w5.heap.size := Nat.lt_of_lt_of_le hsz.1 hf.size
        have hwB5 : B ≤ w5.heap.size := Nat.le_trans (show B ≤ wa.heap.size by omega) hf.size
        have hd5 := hid h
        have hFe5 := hid (hFe.out.do y)
        have hSa5 := hid (hSa.out.do (ok_of hd1.out) y)
        replace hS5 := hid hS5
        clear h hf hS1 hB1 hd1 hry1 c0 c1 c2 c3 c4 c5 hsz
        obtain ⟨c0, c1, c2, c3, c4, c5⟩ := cells6 hA
        go_wp2_with fail
        refine (pick_any y.op _ hyo.out.op).mono ?_
        rintro e w6 ⟨rfl, rfl⟩
        rcases (by omega : y.op % 11 = 2 ∨ y.op % 11 = 3 ∨ y.op % 11 = 4 ∨ (y.op % 11 ≠ 2 ∧ y.op % 11 ≠ 3 ∧ y.op % 11 ≠ 4)) with hk2 | hk3 | hk4 | ⟨hk2, hk3, hk4⟩
        · by_cases hE : do1 y d = 0
          · have hok0 := True.intro
            have e1 : do1 y d = flush1 y.f d := by simp [do1, hk2]
            have e2 : do2 y d = flush2 y.f d := by simp [do2, hk2]
            have hE2 := hE
            rw [e1] at hE2
            obtain ⟨hv, h1, h2, h3⟩ := flush_ok hE2
            have hup := flush_up hE2
            have hns : nextSafe y d safe = upd safe y.f.toNat (d.data y.f.toNat) := by simp [nextSafe, hk2, hE]
            obtain ⟨n, hn, hyf, hn2⟩ := idx8 (F := NoF) y.f hv
            rw [hns, hn2] at hSa5
            have hdn : (do2 y d).down = false := by rw [e2]; exact h3
            have hrd : read2 (n : Int) (do2 y d) = d.data n := by rw [e2, ← hyf, (read_up h3 hv).2, h1, hn2]
            have hix := strs_idx S n hn
            have cS := Strs.cell hS5.out hn
            have fS := Strs.free hS5.out n
            rw [hE, hk2]
            rw [hyf] at c1
            replace hA := hid hA
            replace hyf := hid hyf
            clear e1 e2 hE hE2 hv h1 h2 h3 hns hk2
            go_wp2_with fail
            refine (read_any _ B _ (n : Int) _ hd5.out).mono ?_
            rintro e w7 ⟨rfl, rfl⟩
            rw [hrd]
            generalize read1 (n : Int) (do2 y d) = err at *
            go_upto_region 16 with (fail)
            go_quiet (fail)
            have hdz := hid (dk_drewN (hd5.out.fr ((Fr.refl (fun k => k = S) w5).setCell (p := ⟨S, n, none⟩) (Or.inl rfl) (sv (d.data n))) (fun k h1 h2 => h1.2.1 h2)) nq)
            have hSz : Strs S (upd safe n (d.data n)) ((w5.setCell ⟨S, n, none⟩ (sv (d.data n))).drewN nq) := Strs.set hS5.out hn (d.data n)
            have hBz : Below w.heap.size w ((w5.setCell ⟨S, n, none⟩ (sv (d.data n))).drewN nq) := below_drewN (hB5.setCell (by show w.heap.size ≤ S; omega) _) nq
            have hSzl : S < ((w5.setCell ⟨S, n, none⟩ (sv (d.data n))).drewN nq).heap.size := by
              show S < (w5.setCell ⟨S, n, none⟩ (sv (d.data n))).heap.size
              simpa using hSz5
            clear c0 c1 c2 c3 c4 c5 cS fS hd5 hS5 hB5
            generalize (w5.setCell ⟨S, n, none⟩ (sv (d.data n))).drewN nq = wz at *
            replace hSz := hid hSz
            go_wp2_with fail
            refine (down_any _ B _ _ hdz.out).mono ?_
            rintro e w7 ⟨rfl, rfl⟩
            rw [hdn]
            go_wp2
            exact ⟨⟨k + 1, do2 y d, upd safe n (d.data n), by go_num, by omega, hdz.out.mono (fun k h1 h2 => ⟨h2.1, h2.2.1⟩), hSa5.out, hFe5.out, hSz.out, hBz, hSzl⟩, by simp [intOf]; omega⟩
          · have t5 : (do1 y d == 0) = false := by simpa using hE
            have hns : nextSafe y d safe = safe := by simp [nextSafe, hk2, hE]
            rw [hns] at hSa5
            rw [hk2]
            clear hk2 hns hE
            go_upto_region 16 with (fail)
            go_quiet (fail)
            have hdz := hid (dk_drewN hd5.out nq)
            have hSz := hid (show Strs S (safe) (w5.drewN nq) from hS5.out)
            have hBz := below_drewN hB5 nq
            have hSzl : S < (w5.drewN nq).heap.size := hSz5
            have hAzl : A < (w5.drewN nq).heap.size := lt_of_heap hA
            clear hd5 hS5 hB5 hSz5
            replace hA : (w5.drewN nq).heap[A]? = _ := hA
            clear c0 c1 c2 c3 c4 c5
            generalize w5.drewN nq = wz at *
            obtain ⟨c0, c1, c2, c3, c4, c5⟩ := cells6 hA
            clear c0 c1 c2 c3 c4 c5 hA
            cases hup : d.down with
            | true =>
              go_wp2
              exact ⟨⟨k + 1, do2 y d, safe, by go_num, by omega, hdz.out.mono (fun k h1 h2 => ⟨h2.1, h2.2.1⟩), hSa5.out, hFe5.out, hSz.out, hBz, hSzl⟩, by simp [intOf]; omega⟩
            | false =>
              go_wp2_with fail
              refine (down_any _ B _ _ hdz.out).mono ?_
              rintro e w7 ⟨rfl, rfl⟩
              cases hdn : (do2 y d).down with
              | false =>
                go_wp2
                exact ⟨⟨k + 1, do2 y d, safe, by go_num, by omega, hdz.out.mono (fun k h1 h2 => ⟨h2.1, h2.2.1⟩), hSa5.out, hFe5.out, hSz.out, hBz, hSzl⟩, by simp [intOf]; omega⟩
              | true =>
                have hag := hid (Safe.again hFe5.out hdn)
                have hok := ok_of hdz.out
                replace hok := hid hok.len
                go_wp2_with fail
                refine (start_any _ B _ _ hdz.out).mono ?_
                rintro e w8 h
                obtain ⟨rfl, h, hf⟩ := h.absorb (fun k hk => ⟨by omega, by omega, by omega⟩)
                have hS8 := hid (show Strs S _ w8 from hf.keep hSz.out (fun h => h.2.1 rfl))
                have hB8 := hBz.trans (hf.to_below hBz.size (fun k hk h => by have := h.1; omega))
                have hSl8 : S < w8.heap.size := Nat.lt_of_lt_of_le hSzl hf.size
                have hAl8 : A < w8.heap.size := Nat.lt_of_lt_of_le hAzl hf.size
                have hd8 := hid h
                clear h hf hSz hBz hdz hSzl hAzl
                have hda : (dStart (do2 y d)).data = (do2 y d).data := rfl
                have hup2 : (dStart (do2 y d)).down = false := rfl
                clear hdn hup hFe5
                generalize hd9 : do2 y d = d9 at *
                clear hd9
                generalize hdS : dStart d9 = dS at *
                go_wp2_with fail
                go_loopw [16] (fun i wr => ∃ f : Nat, i = .int .i64 f ∧ f ≤ 8 ∧ DkD (fun k => B ≤ k ∧ k ≠ S ∧ k ≠ A) B dS wr ∧ Strs S (mixS d9.data (safe) f) wr ∧ Below w.heap.size w wr ∧ S < wr.heap.size ∧ A < wr.heap.size) (fun i _ => 8 - (intOf i).toNat)
                case atStart => exact ⟨0, rfl, by omega, hd8.out, hS8.out, hB8, hSl8, hAl8⟩
                case round =>
                  clear hd8 hS8 hB8 hSl8 hAl8
                  obtain ⟨f, rfl, hf8, hd8, hS8, hB8, hSl8, hAl8⟩ := hrel
                  by_cases hf9 : f < 8
                  · have hrd : read2 (f : Int) dS = d9.data f := by
                      rw [(read_up hup2 (f := (f : Int)) ((vF_iff _).2 ⟨by omega, by omega⟩)).2, hda]; rfl
                    have hbg := hid (fun W => begins_any (d9.data f) ((safe) f) W (hSa5.out.data hf9) (by have := hok.out f hf9; omega))
                    have hix := strs_idx S f hf9
                    have cS := hS8.cell hf9
                    rw [mixS_at] at cS
                    have fS := hS8.free f
                    have hS9 := hid (hS8.set hf9 (d9.data f))
                    rw [mixS_next] at hS9
                    replace hS8 := hid hS8
                    replace hd8 := hid hd8
                    go_wp2_with fail
                    refine (read_any _ B dS f _ hd8.out).mono ?_
                    rintro e w10 ⟨rfl, rfl⟩
                    rw [hrd]
                    generalize read1 (f : Int) dS = err at *
                    go_wp2_with fail
                    refine (hbg.out _).mono ?_
                    rintro e w11 ⟨rfl, rfl⟩
                    go_wp2
                    exact ⟨⟨f + 1, by go_num, by omega, hd8.out.fr ((Fr.refl (fun k => k = S) _).setCell (Or.inl rfl) _) (fun k h1 h2 => h1.2.1 h2), hS9.out, hB8.setCell (by show w.heap.size ≤ S; omega) _, by simpa using hSl8, by simpa using hAl8⟩, by simp [intOf]; omega⟩
                  · have hf10 : f = 8 := by omega
                    subst hf10
                    replace hS8 := hid hS8
                    replace hd8 := hid hd8
                    go_wp2_with fail
                    refine (crash_any _ B dS [] (.slice none 0 0) _ hd8.out (Row.nil _ _ _ _) (by simp) (by simp)).mono ?_
                    rintro e w12 h
                    obtain ⟨rfl, h, hf⟩ := h.absorb (fun k hk => ⟨by omega, by omega, by omega⟩)
                    have hSx : Strs S (mixS d9.data (safe) 8) w12 := hf.keep hS8.out (fun h => h.2.1 rfl)
                    rw [mixS_all] at hSx
                    have hBx := hB8.trans (hf.to_below hB8.size (fun k hk h => by have := h.1; omega))
                    have hSlx : S < w12.heap.size := Nat.lt_of_lt_of_le hSl8 hf.size
                    go_wp2
                    exact ⟨⟨k + 1, _, d9.data, by go_num, by omega, h.mono (fun k h1 h2 => ⟨h2.1, h2.2.1⟩), hag.out.1, hag.out.2, hSx, hBx, hSlx⟩, by simp [intOf]; omega⟩
        · by_cases hE : do1 y d = 0
          · have hok0 := True.intro
            have e1 : do1 y d = cut1 y.f y.n d := by simp [do1, hk3]
            have e2 : do2 y d = cut2 y.f y.n d := by simp [do2, hk3]
            have hE2 := hE
            rw [e1] at hE2
            obtain ⟨hst, hv, hm0, hm1⟩ := cut1_zero hE2
            have hup := (start1_zero hst).1
            have hns : nextSafe y d safe = upd safe y.f.toNat ((safe y.f.toNat).take y.n.toNat) := by simp [nextSafe, hk3, hE]
            obtain ⟨n, hn, hyf, hn2⟩ := idx8 (F := NoF) y.f hv
            obtain ⟨m, hym⟩ : ∃ m : Nat, y.n = m := ⟨y.n.toNat, by omega⟩
            have hm2 : y.n.toNat = m := by omega
            rw [hns, hn2, hm2] at hSa5
            have hdn : (do2 y d).down = false := by rw [e2, cut_ok hE2, (start1_zero hst).2.2]; exact hup
            have hix := strs_idx S n hn
            have cS := Strs.cell hS5.out hn
            have fS := Strs.free hS5.out n
            rw [hE, hk3]
            rw [hyf] at c1
            rw [hym] at c3
            have hA2 := hid hA
            replace hyf := hid hyf
            clear e1 e2 hE hE2 hv hns hk3 hst hm0 hm1 hm2 hym hA
            by_cases hlen : m < (safe n).length
            · have hd9 : decide ((m : Int) < ((safe n).length : Int)) = true := by simp; omega
              have hex := ext_take (safe n) m
              go_upto_region 16 with (fail)
              go_quiet (fail)
              go_wp2_with fail
              go_region
              have hdz := hid ((dk_drewN hd5.out (nq + 1)).fr ((Fr.refl (fun k => k = S) (w5.drewN (nq + 1))).setCell (p := ⟨S, n, none⟩) (Or.inl rfl) (sv ((safe n).take m))) (fun k h1 h2 => h1.2.1 h2))
              have hSz : Strs S (upd safe n ((safe n).take m)) ((w5.drewN (nq + 1)).setCell ⟨S, n, none⟩ (sv ((safe n).take m))) := Strs.set (w := w5.drewN (nq + 1)) hS5.out hn _
              have hBz : Below w.heap.size w ((w5.drewN (nq + 1)).setCell ⟨S, n, none⟩ (sv ((safe n).take m))) := (below_drewN hB5 (nq + 1)).setCell (by show w.heap.size ≤ S; omega) _
              have hSzl : S < ((w5.drewN (nq + 1)).setCell ⟨S, n, none⟩ (sv ((safe n).take m))).heap.size := by
                show S < (w5.setCell ⟨S, n, none⟩ (sv ((safe n).take m))).heap.size
                simpa using hSz5
              clear c0 c1 c2 c3 c4 c5 cS fS hd5 hS5 hB5
              generalize (w5.drewN (nq + 1)).setCell ⟨S, n, none⟩ (sv ((safe n).take m)) = wz at *
              replace hSz := hid hSz
              go_wp2_with fail
              refine (down_any _ B _ _ hdz.out).mono ?_
              rintro e w7 ⟨rfl, rfl⟩
              rw [hdn]
              go_wp2
              exact ⟨⟨k + 1, do2 y d, upd safe n ((safe n).take m), by go_num, by omega, hdz.out.mono (fun k h1 h2 => ⟨h2.1, h2.2.1⟩), hSa5.out, hFe5.out, hSz.out, hBz, hSzl⟩, by simp [intOf]; omega⟩
            · have hd9 : decide ((m : Int) < ((safe n).length : Int)) = false := by simp; omega
              rw [List.take_of_length_le (by omega), upd_self] at hSa5
              go_upto_region 16 with (fail)
              go_quiet (fail)
              have hdz := hid (dk_drewN hd5.out nq)
              have hSz : Strs S safe (w5.drewN nq) := hS5.out
              have hBz := below_drewN hB5 nq
              have hSzl : S < (w5.drewN nq).heap.size := hSz5
              clear c0 c1 c2 c3 c4 c5 cS fS hd5 hS5 hB5
              generalize w5.drewN nq = wz at *
              replace hSz := hid hSz
              go_wp2_with fail
              refine (down_any _ B _ _ hdz.out).mono ?_
              rintro e w7 ⟨rfl, rfl⟩
              rw [hdn]
              go_wp2
              exact ⟨⟨k + 1, do2 y d, safe, by go_num, by omega, hdz.out.mono (fun k h1 h2 => ⟨h2.1, h2.2.1⟩), hSa5.out, hFe5.out, hSz.out, hBz, hSzl⟩, by simp [intOf]; omega⟩
          · have t5 : (do1 y d == 0) = false := by simpa using hE
            have hns : nextSafe y d safe = safe := by simp [nextSafe, hk3, hE]
            rw [hns] at hSa5
            rw [hk3]
            clear hk3 hns hE
            go_upto_region 16 with (fail)
            go_quiet (fail)
            have hdz := hid (dk_drewN hd5.out nq)
            have hSz := hid (show Strs S (safe) (w5.drewN nq) from hS5.out)
            have hBz := below_drewN hB5 nq
            have hSzl : S < (w5.drewN nq).heap.size := hSz5
            have hAzl : A < (w5.drewN nq).heap.size := lt_of_heap hA
            clear hd5 hS5 hB5 hSz5
            replace hA : (w5.drewN nq).heap[A]? = _ := hA
            clear c0 c1 c2 c3 c4 c5
            generalize w5.drewN nq = wz at *
            obtain ⟨c0, c1, c2, c3, c4, c5⟩ := cells6 hA
            clear c0 c1 c2 c3 c4 c5 hA
            cases hup : d.down with
            | true =>
              go_wp2
              exact ⟨⟨k + 1, do2 y d, safe, by go_num, by omega, hdz.out.mono (fun k h1 h2 => ⟨h2.1, h2.2.1⟩), hSa5.out, hFe5.out, hSz.out, hBz, hSzl⟩, by simp [intOf]; omega⟩
            | false =>
              go_wp2_with fail
              refine (down_any _ B _ _ hdz.out).mono ?_
              rintro e w7 ⟨rfl, rfl⟩
              cases hdn : (do2 y d).down with
              | false =>
                go_wp2
                exact ⟨⟨k + 1, do2 y d, safe, by go_num, by omega, hdz.out.mono (fun k h1 h2 => ⟨h2.1, h2.2.1⟩), hSa5.out, hFe5.out, hSz.out, hBz, hSzl⟩, by simp [intOf]; omega⟩
              | true =>
                have hag := hid (Safe.again hFe5.out hdn)
                have hok := ok_of hdz.out
                replace hok := hid hok.len
                go_wp2_with fail
                refine (start_any _ B _ _ hdz.out).mono ?_
                rintro e w8 h
                obtain ⟨rfl, h, hf⟩ := h.absorb (fun k hk => ⟨by omega, by omega, by omega⟩)
                have hS8 := hid (show Strs S _ w8 from hf.keep hSz.out (fun h => h.2.1 rfl))
                have hB8 := hBz.trans (hf.to_below hBz.size (fun k hk h => by have := h.1; omega))
                have hSl8 : S < w8.heap.size := Nat.lt_of_lt_of_le hSzl hf.size
                have hAl8 : A < w8.heap.size := Nat.lt_of_lt_of_le hAzl hf.size
                have hd8 := hid h
                clear h hf hSz hBz hdz hSzl hAzl
                have hda : (dStart (do2 y d)).data = (do2 y d).data := rfl
                have hup2 : (dStart (do2 y d)).down = false := rfl
                clear hdn hup hFe5
                generalize hd9 : do2 y d = d9 at *
                clear hd9
                generalize hdS : dStart d9 = dS at *
                go_wp2_with fail
                go_loopw [16] (fun i wr => ∃ f : Nat, i = .int .i64 f ∧ f ≤ 8 ∧ DkD (fun k => B ≤ k ∧ k ≠ S ∧ k ≠ A) B dS wr ∧ Strs S (mixS d9.data (safe) f) wr ∧ Below w.heap.size w wr ∧ S < wr.heap.size ∧ A < wr.heap.size) (fun i _ => 8 - (intOf i).toNat)
                case atStart => exact ⟨0, rfl, by omega, hd8.out, hS8.out, hB8, hSl8, hAl8⟩
                case round =>
                  clear hd8 hS8 hB8 hSl8 hAl8
                  obtain ⟨f, rfl, hf8, hd8, hS8, hB8, hSl8, hAl8⟩ := hrel
                  by_cases hf9 : f < 8
                  · have hrd : read2 (f : Int) dS = d9.data f := by
                      rw [(read_up hup2 (f := (f : Int)) ((vF_iff _).2 ⟨by omega, by omega⟩)).2, hda]; rfl
                    have hbg := hid (fun W => begins_any (d9.data f) ((safe) f) W (hSa5.out.data hf9) (by have := hok.out f hf9; omega))
                    have hix := strs_idx S f hf9
                    have cS := hS8.cell hf9
                    rw [mixS_at] at cS
                    have fS := hS8.free f
                    have hS9 := hid (hS8.set hf9 (d9.data f))
                    rw [mixS_next] at hS9
                    replace hS8 := hid hS8
                    replace hd8 := hid hd8
                    go_wp2_with fail
                    refine (read_any _ B dS f _ hd8.out).mono ?_
                    rintro e w10 ⟨rfl, rfl⟩
                    rw [hrd]
                    generalize read1 (f : Int) dS = err at *
                    go_wp2_with fail
                    refine (hbg.out _).mono ?_
                    rintro e w11 ⟨rfl, rfl⟩
                    go_wp2
                    exact ⟨⟨f + 1, by go_num, by omega, hd8.out.fr ((Fr.refl (fun k => k = S) _).setCell (Or.inl rfl) _) (fun k h1 h2 => h1.2.1 h2), hS9.out, hB8.setCell (by show w.heap.size ≤ S; omega) _, by simpa using hSl8, by simpa using hAl8⟩, by simp [intOf]; omega⟩
                  · have hf10 : f = 8 := by omega
                    subst hf10
                    replace hS8 := hid hS8
                    replace hd8 := hid hd8
                    go_wp2_with fail
                    refine (crash_any _ B dS [] (.slice none 0 0) _ hd8.out (Row.nil _ _ _ _) (by simp) (by simp)).mono ?_
                    rintro e w12 h
                    obtain ⟨rfl, h, hf⟩ := h.absorb (fun k hk => ⟨by omega, by omega, by omega⟩)
                    have hSx : Strs S (mixS d9.data (safe) 8) w12 := hf.keep hS8.out (fun h => h.2.1 rfl)
                    rw [mixS_all] at hSx
                    have hBx := hB8.trans (hf.to_below hB8.size (fun k hk h => by have := h.1; omega))
                    have hSlx : S < w12.heap.size := Nat.lt_of_lt_of_le hSl8 hf.size
                    go_wp2
                    exact ⟨⟨k + 1, _, d9.data, by go_num, by omega, h.mono (fun k h1 h2 => ⟨h2.1, h2.2.1⟩), hag.out.1, hag.out.2, hSx, hBx, hSlx⟩, by simp [intOf]; omega⟩
        · by_cases hE : do1 y d = 0
          · have hok0 := True.intro
            have e1 : do1 y d = turn1 y.f y.g d := by simp [do1, hk4]
            have e2 : do2 y d = turn2 y.f y.g d := by simp [do2, hk4]
            have hE2 := hE
            rw [e1] at hE2
            obtain ⟨hst, hv, hv2, hne, hm1⟩ := turn1_zero hE2
            have hup := (start1_zero hst).1
            have hns : nextSafe y d safe = upd (upd safe y.f.toNat (safe y.g.toNat)) y.g.toNat [] := by simp [nextSafe, hk4, hE]
            obtain ⟨n, hn, hyf, hn2⟩ := idx8 (F := NoF) y.f hv
            obtain ⟨m, hm, hyg, hm2⟩ := idx8 (F := NoF) y.g hv2
            have hnm : n ≠ m := by omega
            rw [hns, hn2, hm2] at hSa5
            have hdn : (do2 y d).down = false := by rw [e2, turn_ok hE2, (start1_zero hst).2.2]; exact hup
            have hix := strs_idx S n hn
            have hix2 := strs_idx S m hm
            have cS := Strs.cell hS5.out hn
            have cS2 := Strs.cell hS5.out hm
            have fS := Strs.free hS5.out n
            have fS2 := Strs.free hS5.out m
            rw [hE, hk4]
            rw [hyf] at c1
            rw [hyg] at c2
            have hA2 := hid hA
            replace hyf := hid hyf
            replace hyg := hid hyg
            have hne1 : A ≠ S := by omega
            have hne2 : S ≠ A := by omega
            clear e1 e2 hE hE2 hv hv2 hns hk4 hst hm1 hm2 hn2 hne hA
            go_upto_region 16 with (fail)
            go_quiet (fail)
            go_wp2_with fail
            go_region
            go_wp2_with fail
            have hdz := hid (((dk_drewN hd5.out (nq + 1)).fr ((Fr.refl (fun k => k = S) (w5.drewN (nq + 1))).setCell (p := ⟨S, n, none⟩) (Or.inl rfl) (sv (safe m))) (fun k h1 h2 => h1.2.1 h2)).fr ((Fr.refl (fun k => k = S) _).setCell (p := ⟨S, m, none⟩) (Or.inl rfl) (sv [])) (fun k h1 h2 => h1.2.1 h2))
            have hSz : Strs S (upd (upd safe n (safe m)) m []) (((w5.drewN (nq + 1)).setCell ⟨S, n, none⟩ (sv (safe m))).setCell ⟨S, m, none⟩ (sv [])) := Strs.set (Strs.set (w := w5.drewN (nq + 1)) hS5.out hn _) hm _
            have hBz : Below w.heap.size w (((w5.drewN (nq + 1)).setCell ⟨S, n, none⟩ (sv (safe m))).setCell ⟨S, m, none⟩ (sv [])) := ((below_drewN hB5 (nq + 1)).setCell (by show w.heap.size ≤ S; omega) _).setCell (by show w.heap.size ≤ S; omega) _
            have hSzl : S < (((w5.drewN (nq + 1)).setCell ⟨S, n, none⟩ (sv (safe m))).setCell ⟨S, m, none⟩ (sv [])).heap.size := by
              show S < ((w5.setCell ⟨S, n, none⟩ (sv (safe m))).setCell ⟨S, m, none⟩ (sv [])).heap.size
              simpa using hSz5
            clear c0 c1 c2 c3 c4 c5 cS cS2 fS fS2 hd5 hS5 hB5
            refine (down_any _ B _ _ hdz.out).mono ?_
            rintro e w7 ⟨rfl, rfl⟩
            rw [hdn]
            go_wp2
            exact ⟨⟨k + 1, do2 y d, upd (upd safe n (safe m)) m [], by go_num, by omega, hdz.out.mono (fun k h1 h2 => ⟨h2.1, h2.2.1⟩), hSa5.out, hFe5.out, hSz, hBz, hSzl⟩, by simp [intOf]; omega⟩
          · have t5 : (do1 y d == 0) = false := by simpa using hE
            have hns : nextSafe y d safe = safe := by simp [nextSafe, hk4, hE]
            rw [hns] at hSa5
            rw [hk4]
            clear hk4 hns hE
            go_upto_region 16 with (fail)
            go_quiet (fail)
            have hdz := hid (dk_drewN hd5.out nq)
            have hSz := hid (show Strs S (safe) (w5.drewN nq) from hS5.out)
            have hBz := below_drewN hB5 nq
            have hSzl : S < (w5.drewN nq).heap.size := hSz5
            have hAzl : A < (w5.drewN nq).heap.size := lt_of_heap hA
            clear hd5 hS5 hB5 hSz5
            replace hA : (w5.drewN nq).heap[A]? = _ := hA
            clear c0 c1 c2 c3 c4 c5
            generalize w5.drewN nq = wz at *
            obtain ⟨c0, c1, c2, c3, c4, c5⟩ := cells6 hA
            clear c0 c1 c2 c3 c4 c5 hA
            cases hup : d.down with
            | true =>
              go_wp2
              exact ⟨⟨k + 1, do2 y d, safe, by go_num, by omega, hdz.out.mono (fun k h1 h2 => ⟨h2.1, h2.2.1⟩), hSa5.out, hFe5.out, hSz.out, hBz, hSzl⟩, by simp [intOf]; omega⟩
            | false =>
              go_wp2_with fail
              refine (down_any _ B _ _ hdz.out).mono ?_
              rintro e w7 ⟨rfl, rfl⟩
              cases hdn : (do2 y d).down with
              | false =>
                go_wp2
                exact ⟨⟨k + 1, do2 y d, safe, by go_num, by omega, hdz.out.mono (fun k h1 h2 => ⟨h2.1, h2.2.1⟩), hSa5.out, hFe5.out, hSz.out, hBz, hSzl⟩, by simp [intOf]; omega⟩
              | true =>
                have hag := hid (Safe.again hFe5.out hdn)
                have hok := ok_of hdz.out
                replace hok := hid hok.len
                go_wp2_with fail
                refine (start_any _ B _ _ hdz.out).mono ?_
                rintro e w8 h
                obtain ⟨rfl, h, hf⟩ := h.absorb (fun k hk => ⟨by omega, by omega, by omega⟩)
                have hS8 := hid (show Strs S _ w8 from hf.keep hSz.out (fun h => h.2.1 rfl))
                have hB8 := hBz.trans (hf.to_below hBz.size (fun k hk h => by have := h.1; omega))
                have hSl8 : S < w8.heap.size := Nat.lt_of_lt_of_le hSzl hf.size
                have hAl8 : A < w8.heap.size := Nat.lt_of_lt_of_le hAzl hf.size
                have hd8 := hid h
                clear h hf hSz hBz hdz hSzl hAzl
                have hda : (dStart (do2 y d)).data = (do2 y d).data := rfl
                have hup2 : (dStart (do2 y d)).down = false := rfl
                clear hdn hup hFe5
                generalize hd9 : do2 y d = d9 at *
                clear hd9
                generalize hdS : dStart d9 = dS at *
                go_wp2_with fail
                go_loopw [16] (fun i wr => ∃ f : Nat, i = .int .i64 f ∧ f ≤ 8 ∧ DkD (fun k => B ≤ k ∧ k ≠ S ∧ k ≠ A) B dS wr ∧ Strs S (mixS d9.data (safe) f) wr ∧ Below w.heap.size w wr ∧ S < wr.heap.size ∧ A < wr.heap.size) (fun i _ => 8 - (intOf i).toNat)
                case atStart => exact ⟨0, rfl, by omega, hd8.out, hS8.out, hB8, hSl8, hAl8⟩
                case round =>
                  clear hd8 hS8 hB8 hSl8 hAl8
                  obtain ⟨f, rfl, hf8, hd8, hS8, hB8, hSl8, hAl8⟩ := hrel
                  by_cases hf9 : f < 8
                  · have hrd : read2 (f : Int) dS = d9.data f := by
                      rw [(read_up hup2 (f := (f : Int)) ((vF_iff _).2 ⟨by omega, by omega⟩)).2, hda]; rfl
                    have hbg := hid (fun W => begins_any (d9.data f) ((safe) f) W (hSa5.out.data hf9) (by have := hok.out f hf9; omega))
                    have hix := strs_idx S f hf9
                    have cS := hS8.cell hf9
                    rw [mixS_at] at cS
                    have fS := hS8.free f
                    have hS9 := hid (hS8.set hf9 (d9.data f))
                    rw [mixS_next] at hS9
                    replace hS8 := hid hS8
                    replace hd8 := hid hd8
                    go_wp2_with fail
                    refine (read_any _ B dS f _ hd8.out).mono ?_
                    rintro e w10 ⟨rfl, rfl⟩
                    rw [hrd]
                    generalize read1 (f : Int) dS = err at *
                    go_wp2_with fail
                    refine (hbg.out _).mono ?_
                    rintro e w11 ⟨rfl, rfl⟩
                    go_wp2
                    exact ⟨⟨f + 1, by go_num, by omega, hd8.out.fr ((Fr.refl (fun k => k = S) _).setCell (Or.inl rfl) _) (fun k h1 h2 => h1.2.1 h2), hS9.out, hB8.setCell (by show w.heap.size ≤ S; omega) _, by simpa using hSl8, by simpa using hAl8⟩, by simp [intOf]; omega⟩
                  · have hf10 : f = 8 := by omega
                    subst hf10
                    replace hS8 := hid hS8
                    replace hd8 := hid hd8
                    go_wp2_with fail
                    refine (crash_any _ B dS [] (.slice none 0 0) _ hd8.out (Row.nil _ _ _ _) (by simp) (by simp)).mono ?_
                    rintro e w12 h
                    obtain ⟨rfl, h, hf⟩ := h.absorb (fun k hk => ⟨by omega, by omega, by omega⟩)
                    have hSx : Strs S (mixS d9.data (safe) 8) w12 := hf.keep hS8.out (fun h => h.2.1 rfl)
                    rw [mixS_all] at hSx
                    have hBx := hB8.trans (hf.to_below hB8.size (fun k hk h => by have := h.1; omega))
                    have hSlx : S < w12.heap.size := Nat.lt_of_lt_of_le hSl8 hf.size
                    go_wp2
                    exact ⟨⟨k + 1, _, d9.data, by go_num, by omega, h.mono (fun k h1 h2 => ⟨h2.1, h2.2.1⟩), hag.out.1, hag.out.2, hSx, hBx, hSlx⟩, by simp [intOf]; omega⟩
        · have t2 : (y.op % 11 == 2) = false := by simpa using hk2
          have t3 : (y.op % 11 == 3) = false := by simpa using hk3
          have t4 : (y.op % 11 == 4) = false := by simpa using hk4
          have hns : nextSafe y d safe = safe := by simp [nextSafe, hk2, hk3, hk4]
          rw [hns] at hSa5
          clear hk2 hk3 hk4 hns
          go_upto_region 16 with (fail)
          go_quiet (fail)
          have hdz := hid (dk_drewN hd5.out nq)
          have hSz := hid (show Strs S (safe) (w5.drewN nq) from hS5.out)
          have hBz := below_drewN hB5 nq
          have hSzl : S < (w5.drewN nq).heap.size := hSz5
          have hAzl : A < (w5.drewN nq).heap.size := lt_of_heap hA
          clear hd5 hS5 hB5 hSz5
          replace hA : (w5.drewN nq).heap[A]? = _ := hA
          clear c0 c1 c2 c3 c4 c5
          generalize w5.drewN nq = wz at *
          obtain ⟨c0, c1, c2, c3, c4, c5⟩ := cells6 hA
          clear c0 c1 c2 c3 c4 c5 hA
          cases hup : d.down with
          | true =>
            go_wp2
            exact ⟨⟨k + 1, do2 y d, safe, by go_num, by omega, hdz.out.mono (fun k h1 h2 => ⟨h2.1, h2.2.1⟩), hSa5.out, hFe5.out, hSz.out, hBz, hSzl⟩, by simp [intOf]; omega⟩
          | false =>
            go_wp2_with fail
            refine (down_any _ B _ _ hdz.out).mono ?_
            rintro e w7 ⟨rfl, rfl⟩
            cases hdn : (do2 y d).down with
            | false =>
              go_wp2
              exact ⟨⟨k + 1, do2 y d, safe, by go_num, by omega, hdz.out.mono (fun k h1 h2 => ⟨h2.1, h2.2.1⟩), hSa5.out, hFe5.out, hSz.out, hBz, hSzl⟩, by simp [intOf]; omega⟩
            | true =>
              have hag := hid (Safe.again hFe5.out hdn)
              have hok := ok_of hdz.out
              replace hok := hid hok.len
              go_wp2_with fail
              refine (start_any _ B _ _ hdz.out).mono ?_
              rintro e w8 h
              obtain ⟨rfl, h, hf⟩ := h.absorb (fun k hk => ⟨by omega, by omega, by omega⟩)
              have hS8 := hid (show Strs S _ w8 from hf.keep hSz.out (fun h => h.2.1 rfl))
              have hB8 := hBz.trans (hf.to_below hBz.size (fun k hk h => by have := h.1; omega))
              have hSl8 : S < w8.heap.size := Nat.lt_of_lt_of_le hSzl hf.size
              have hAl8 : A < w8.heap.size := Nat.lt_of_lt_of_le hAzl hf.size
              have hd8 := hid h
              clear h hf hSz hBz hdz hSzl hAzl
              have hda : (dStart (do2 y d)).data = (do2 y d).data := rfl
              have hup2 : (dStart (do2 y d)).down = false := rfl
              clear hdn hup hFe5
              generalize hd9 : do2 y d = d9 at *
              clear hd9
              generalize hdS : dStart d9 = dS at *
              go_wp2_with fail
              go_loopw [16] (fun i wr => ∃ f : Nat, i = .int .i64 f ∧ f ≤ 8 ∧ DkD (fun k => B ≤ k ∧ k ≠ S ∧ k ≠ A) B dS wr ∧ Strs S (mixS d9.data (safe) f) wr ∧ Below w.heap.size w wr ∧ S < wr.heap.size ∧ A < wr.heap.size) (fun i _ => 8 - (intOf i).toNat)
              case atStart => exact ⟨0, rfl, by omega, hd8.out, hS8.out, hB8, hSl8, hAl8⟩
              case round =>
                clear hd8 hS8 hB8 hSl8 hAl8
                obtain ⟨f, rfl, hf8, hd8, hS8, hB8, hSl8, hAl8⟩ := hrel
                by_cases hf9 : f < 8
                · have hrd : read2 (f : Int) dS = d9.data f := by
                    rw [(read_up hup2 (f := (f : Int)) ((vF_iff _).2 ⟨by omega, by omega⟩)).2, hda]; rfl
                  have hbg := hid (fun W => begins_any (d9.data f) ((safe) f) W (hSa5.out.data hf9) (by have := hok.out f hf9; omega))
                  have hix := strs_idx S f hf9
                  have cS := hS8.cell hf9
                  rw [mixS_at] at cS
                  have fS := hS8.free f
                  have hS9 := hid (hS8.set hf9 (d9.data f))
                  rw [mixS_next] at hS9
                  replace hS8 := hid hS8
                  replace hd8 := hid hd8
                  go_wp2_with fail
                  refine (read_any _ B dS f _ hd8.out).mono ?_
                  rintro e w10 ⟨rfl, rfl⟩
                  rw [hrd]
                  generalize read1 (f : Int) dS = err at *
                  go_wp2_with fail
                  refine (hbg.out _).mono ?_
                  rintro e w11 ⟨rfl, rfl⟩
                  go_wp2
                  exact ⟨⟨f + 1, by go_num, by omega, hd8.out.fr ((Fr.refl (fun k => k = S) _).setCell (Or.inl rfl) _) (fun k h1 h2 => h1.2.1 h2), hS9.out, hB8.setCell (by show w.heap.size ≤ S; omega) _, by simpa using hSl8, by simpa using hAl8⟩, by simp [intOf]; omega⟩
                · have hf10 : f = 8 := by omega
                  subst hf10
                  replace hS8 := hid hS8
                  replace hd8 := hid hd8
                  go_wp2_with fail
                  refine (crash_any _ B dS [] (.slice none 0 0) _ hd8.out (Row.nil _ _ _ _) (by simp) (by simp)).mono ?_
                  rintro e w12 h
                  obtain ⟨rfl, h, hf⟩ := h.absorb (fun k hk => ⟨by omega, by omega, by omega⟩)
                  have hSx : Strs S (mixS d9.data (safe) 8) w12 := hf.keep hS8.out (fun h => h.2.1 rfl)
                  rw [mixS_all] at hSx
                  have hBx := hB8.trans (hf.to_below hB8.size (fun k hk h => by have := h.1; omega))
                  have hSlx : S < w12.heap.size := Nat.lt_of_lt_of_le hSl8 hf.size
                  go_wp2
                  exact ⟨⟨k + 1, _, d9.data, by go_num, by omega, h.mono (fun k h1 h2 => ⟨h2.1, h2.2.1⟩), hag.out.1, hag.out.2, hSx, hBx, hSlx⟩, by simp [intOf]; omega⟩
      · have hkl2 : k = l.length := by omega
        subst hkl2
        obtain ⟨ka, kc, kb, ko, rfl, -⟩ := id hK.out
        replace hd := hid hd
        have hwB : B ≤ wr.heap.size := by omega
        go_wp2_with fail
        refine (arm_any _ B d 0 [] (.slice none 0 0) _ hd.out (by omega) (fun _ _ => Row.nil _ _ _ _) (by simp) (by simp)).mono ?_
        rintro e w5 h
        obtain ⟨rfl, h, hf⟩ := h.absorb (fun k hk => ⟨by omega, by omega⟩)
        have hS5 := hid (show Strs S safe w5 from hf.keep hSt (fun h => h.2 rfl))
        have hB5 := hB.trans (hf.to_below hB.size (fun k hk h => by have := h.1; omega))
        have hl5 : S < w5.heap.size := Nat.lt_of_lt_of_le hSl hf.size
        have hd5 := hid h
        clear h hf hd hSt hB hSl
        go_wp2_with fail
        refine (start_any _ B _ _ hd5.out).mono ?_
        rintro e w6 h
        obtain ⟨rfl, h, hf⟩ := h.absorb (fun k hk => ⟨by omega, by omega⟩)
        have hS6 := hid (show Strs S safe w6 from hf.keep hS5.out (fun h => h.2 rfl))
        have hB6 := hB5.trans (hf.to_below hB5.size (fun k hk h => by have := h.1; omega))
        have hl6 : S < w6.heap.size := Nat.lt_of_lt_of_le hl5 hf.size
        have hd6 := hid h
        clear h hf hd5 hS5 hB5 hl5
        have hcalm := calm_arm d
        have hlen0 := hid ((ok_of hd6.out).len)
        have hSa2 := hid (hSa.same (e := dStart (dArm 0 [] d)) rfl rfl)
        clear hSa hFe
        generalize dStart (dArm 0 [] d) = d1 at *
        have hmk := mk8 w6
        have hW0 : Strs w6.heap.size (fun _ => []) (w6.alloc (.cells (sCells fun _ => []) 9)) := heap_alloc_new' _ _
        have hd7 := hid ((dk_alloc (hd6.out.mono (G := fun k => B ≤ k ∧ k ≠ S ∧ k ≠ w6.heap.size) (fun k h1 h2 => ⟨h2.1, h2.2, by omega⟩)) (.cells (sCells fun _ => []) 9)))
        have hB7 : Below w.heap.size w (w6.alloc (.cells (sCells fun _ => []) 9)) := hB6.alloc hB6.size _
        have hS7 : Strs S safe (w6.alloc (.cells (sCells fun _ => []) 9)) := heap_alloc_lt hS6.out
        have hl7 : w6.heap.size < (w6.alloc (.cells (sCells fun _ => []) 9)).heap.size := by simp
        clear hd6 hB6 hS6
        generalize w6.alloc (.cells (sCells fun _ => []) 9) = w7 at *
        generalize w6.heap.size = V at *
        replace hW0 := hid hW0
        go_wp2_with fail
        clear hmk
        go_loopw [20] (fun i wr => ∃ f : Nat, i = .int .i64 f ∧ f ≤ 8 ∧ DkD (fun k => B ≤ k ∧ k ≠ S ∧ k ≠ V) B d1 wr ∧ Strs V (mixS d1.data (fun _ => []) f) wr ∧ Strs S safe wr ∧ Below w.heap.size w wr ∧ V < wr.heap.size) (fun i _ => 8 - (intOf i).toNat)
        case atStart => exact ⟨0, rfl, by omega, hd7.out, hW0.out, hS7, hB7, hl7⟩
        case round =>
          clear hd7 hW0 hS7 hB7 hl7
          obtain ⟨f, rfl, hf8, hd8, hW8, hS8, hB8, hl8⟩ := hrel
          by_cases hf9 : f < 8
          · have hrd : read2 (f : Int) d1 = d1.data f := by
              rw [(read_up hcalm.down (f := (f : Int)) ((vF_iff _).2 ⟨by omega, by omega⟩)).2]; rfl
            have hix := strs_idx V f hf9
            have cS := hW8.cell hf9
            have fS := hW8.free f
            have hW9 := hid (hW8.set hf9 (d1.data f))
            rw [mixS_next] at hW9
            replace hW8 := hid hW8
            replace hS8 := hid hS8
            replace hd8 := hid hd8
            go_wp2_with fail
            refine (read_any _ B d1 f _ hd8.out).mono ?_
            rintro e w10 ⟨rfl, rfl⟩
            rw [hrd]
            generalize read1 (f : Int) d1 = err at *
            go_wp2
            exact ⟨⟨f + 1, by go_num, by omega, hd8.out.fr ((Fr.refl (fun k => k = V) _).setCell (Or.inl rfl) _) (fun k h1 h2 => h1.2.2 h2), hW9.out, (heap_setCell_other _ (by omega)).trans hS8.out, hB8.setCell (by show w.heap.size ≤ V; omega) _, by simpa using hl8⟩, by simp [intOf]; omega⟩
          · have hf10 : f = 8 := by omega
            subst hf10
            rw [mixS_all] at hW8
            replace hS8 := hid hS8
            replace hW8 := hid hW8
            replace hd8 := hid hd8
            have hrow := hid ((hK.out.below hB8 (Nat.le_refl _)).mono hB8.size)
            go_wp2_with fail
            refine (crash_any _ B d1 keep _ _ hd8.out hrow.out (by omega) hKx.out).mono ?_
            rintro e w11 h
            obtain ⟨rfl, h, hf⟩ := h.absorb (fun k hk => ⟨by omega, by omega, by omega⟩)
            have hW11 := hid (show Strs V d1.data w11 from hf.keep hW8.out (fun h => h.2.2 rfl))
            have hS11 := hid (show Strs S safe w11 from hf.keep hS8.out (fun h => h.2.1 rfl))
            have hB11 := hB8.trans (hf.to_below hB8.size (fun k hk h => by have := h.1; omega))
            have hl11 : V < w11.heap.size := Nat.lt_of_lt_of_le hl8 hf.size
            have hd11 := hid h
            have hSa11 := hSa2.out.crash keep
            have hpre : ∀ f, (dCrash keep d1).data f <+: d1.data f := fun f => by rw [crash_calm hcalm.down]; exact List.take_prefix _ _
            have hok11 := (ok_of h).len
            clear h hf hd8 hW8 hS8 hB8 hl8 hrow hcalm hSa2
            generalize dCrash keep d1 = d2 at *
            go_wp2_with fail
            refine (start_any _ B _ _ hd11.out).mono ?_
            rintro e w12 h
            obtain ⟨rfl, h, hf⟩ := h.absorb (fun k hk => ⟨by omega, by omega, by omega⟩)
            have hW12 : Strs V d1.data w12 := hf.keep hW11.out (fun h => h.2.2 rfl)
            have hS12 : Strs S safe w12 := hf.keep hS11.out (fun h => h.2.1 rfl)
            have hB12 := hB11.trans (hf.to_below hB11.size (fun k hk h => by have := h.1; omega))
            have hd12 := hid h
            clear h hf hd11 hW11 hS11 hB11 hl11
            have hup2 : (dStart d2).down = false := rfl
            have hda : (dStart d2).data = d2.data := rfl
            have hok1 := (ok_of hd12.out).len
            generalize dStart d2 = d3 at *
            replace hW12 := hid hW12
            replace hS12 := hid hS12
            replace hSa11 := hid hSa11
            replace hpre := hid hpre
            replace hok1 := hid hok1
            replace hok11 := hid hok11
            have hlen1 := hid (show ∀ f, f < 8 → (d1.data f).length ≤ 1000000000 from fun f hf => by have := hlen0.out f hf; omega)
            go_wp2_with fail
            go_loopw [23] (fun i wr => ∃ f : Nat, i = .int .i64 f ∧ f ≤ 8 ∧ wr = w12) (fun i _ => 8 - (intOf i).toNat)
            case atStart => exact ⟨0, rfl, by omega, rfl⟩
            case round =>
              obtain ⟨f, rfl, hf8, rfl⟩ := hrel
              by_cases hf9 : f < 8
              · have hr9 := read_up hup2 (f := (f : Int)) ((vF_iff _).2 ⟨by omega, by omega⟩)
                have hrd : read2 (f : Int) d3 = d2.data f := by rw [hr9.2, hda]; rfl
                have hre : read1 (f : Int) d3 = 0 := hr9.1
                clear hr9
                have hb1 := hid (fun W => begins_any (d2.data f) (safe f) W (hSa11.out.data hf9) (by have := hok11.out f hf9; omega))
                have hb2 := hid (fun W => begins_any (d1.data f) (d2.data f) W (hpre.out f) (hlen1.out f hf9))
                have hix := strs_idx S f hf9
                have hix2 := strs_idx V f hf9
                have cS := hS12.out.cell hf9
                have cV := hW12.out.cell hf9
                go_wp2_with fail
                refine (read_any _ B d3 f _ hd12.out).mono ?_
                rintro e w13 ⟨rfl, rfl⟩
                rw [hrd, hre]
                go_wp2_with fail
                refine (hb1.out _).mono ?_
                rintro e w14 ⟨rfl, rfl⟩
                go_wp2_with fail
                refine (hb2.out _).mono ?_
                rintro e w15 ⟨rfl, rfl⟩
                go_wp2
                exact ⟨⟨f + 1, by go_num, by omega, trivial⟩, by simp [intOf]; omega⟩
              · have hf10 : f = 8 := by omega
                subst hf10
                go_wp2
                go_ret
                exact ⟨rfl, hB12⟩

end Go.Proofs.Ytdapjoapndemkaa
