/- Chapter 05 (disk): the law DiskDown. -/
import Derived.Test.YtdapjoapndemkaaDiskW11
import Derived.Test.YtdapjoapndemkaaDiskT
import Derived.Test.YtdapjoapndemkaaDiskL2
set_option linter.unusedVariables false
namespace Go.Proofs.Ytdapjoapndemkaa
open Go.RowKit
open Go.Lib (hid)
theorem down_start {d : DS} (h : d.down = true) : start1 d = 12 ∧ start2 d = d := by unfold start1 start2; rw [h]; exact ⟨rfl, rfl⟩
theorem down_app {d : DS} (h : d.down = true) (f : Int) (s : List UInt8) : app1 f s d = 12 ∧ app2 f s d = d := by unfold app1 app2; rw [h]; exact ⟨rfl, rfl⟩
theorem down_flush {d : DS} (h : d.down = true) (f : Int) : flush1 f d = 12 ∧ flush2 f d = d := by
  obtain ⟨h1, h2⟩ := down_start h
  unfold flush1 flush2; rw [h1, h2]; exact ⟨rfl, rfl⟩
theorem down_cut {d : DS} (h : d.down = true) (f n : Int) : cut1 f n d = 12 ∧ cut2 f n d = d := by
  obtain ⟨h1, h2⟩ := down_start h
  have h3 : cut1 f n d = 12 := by unfold cut1; rw [h1]; rfl
  unfold cut2; rw [h3, h2]; exact ⟨rfl, rfl⟩
theorem down_turn {d : DS} (h : d.down = true) (f g : Int) : turn1 f g d = 12 ∧ turn2 f g d = d := by
  obtain ⟨h1, h2⟩ := down_start h
  have h3 : turn1 f g d = 12 := by unfold turn1; rw [h1]; rfl
  unfold turn2; rw [h3, h2]; exact ⟨rfl, rfl⟩
theorem down_read {d : DS} (h : d.down = true) (f : Int) : read1 f d = 12 ∧ read2 f d = [] := by
  have h3 : read1 f d = 12 := by unfold read1; rw [h]; rfl
  unfold read2; rw [h3]; exact ⟨rfl, rfl⟩
theorem down_crash {d : DS} (h : d.down = true) (l : List Int) : dCrash l d = d := by unfold dCrash; rw [h]; rfl
theorem bad_app {d : DS} (h : Calm d) {f : Int} (hf : vF f = false) (s : List UInt8) : app1 f s d = 1 ∧ app2 f s d = d := by
  obtain ⟨h1, h2⟩ := due_calm h
  have e : ext1 f s d = 1 := by unfold ext1; rw [hf]; rfl
  have e2 : ext2 f s d = d := by unfold ext2; rw [e]; rfl
  unfold app1 app2; rw [h.down, h1, h2, e, e2]; exact ⟨rfl, rfl⟩
theorem bad_flush {d : DS} (h : Calm d) {f : Int} (hf : vF f = false) : flush1 f d = 1 ∧ flush2 f d = d := by
  obtain ⟨h1, h2⟩ := start_calm h
  unfold flush1 flush2; rw [h1, h2, hf]; exact ⟨rfl, rfl⟩
theorem bad_cut {d : DS} (h : Calm d) {f : Int} (hf : vF f = false) (n : Int) : cut1 f n d = 1 ∧ cut2 f n d = d := by
  obtain ⟨h1, h2⟩ := start_calm h
  have h3 : cut1 f n d = 1 := by unfold cut1; rw [h1, hf]; rfl
  unfold cut2; rw [h3, h2]; exact ⟨rfl, rfl⟩
theorem bad_turn {d : DS} (h : Calm d) {f g : Int} (hf : vF f = false ∨ vF g = false) : turn1 f g d = 1 ∧ turn2 f g d = d := by
  obtain ⟨h1, h2⟩ := start_calm h
  have h3 : turn1 f g d = 1 := turn1_bad h1 (by rcases hf with h | h; exact Or.inl h; exact Or.inr (Or.inl h))
  unfold turn2; rw [h3, h2]; exact ⟨rfl, rfl⟩
theorem bad_size {d : DS} {f : Int} (hf : vF f = false) : size1 f d = 0 := by unfold size1; rw [hf]; rfl
theorem calm_arm (d : DS) : Calm (dStart (dArm 0 [] d)) := ⟨rfl, rfl⟩
theorem crash_down (l : List Int) (d : DS) : (dCrash l d).down = true := by
  unfold dCrash
  split
  · assumption
  · rfl

set_option maxHeartbeats 16000000 in
set_option maxRecDepth 100000 in
theorem DiskDown_walk (l : List AC) (x : AC) (v vk : Value) (w : World) (hr : ARow w.heap.size w v l) (hl : l.length ≤ 1048576) (hs : ∀ k, sumA l k ≤ 1048576) (hok : ∀ a ∈ l, ActOk a) (hxo : ActOk x) :
    Calls Try.prog 8 #[v, aga x vk] w fun e w' => e = .returned (.bool true) ∧ Below w.heap.size w w' := by
  obtain ⟨a, cap, rfl⟩ := hr.slice
  have hR := hid hr
  have hS := hid hs
  have hO := hid hok
  obtain ⟨xop, xf, xg, xn, xs, xkl, xkeep⟩ := hxo
  clear hr hs hok xop xkeep
  have hA := heap_alloc_new' w (.cells #[iv x.op, iv x.f, iv x.g, iv x.n, sv x.s, vk] 39)
  have hBA : Below w.heap.size w (w.alloc (.cells #[iv x.op, iv x.f, iv x.g, iv x.n, sv x.s, vk] 39)) := (Below.refl _ _).alloc (Nat.le_refl _) _
  go_enter Try.func8, Try.ntmps8
  go_wp2_with fail
  refine (small_any _).mono ?_
  rintro e w1 ⟨rfl, hb⟩
  have hA1 := below_keep hb hA (lt_of_heap hA)
  have hB : Below w.heap.size w w1 := hBA.trans (hb.mono hBA.size)
  clear hb hA hBA
  go_wp2_with fail
  refine (new_any _).mono ?_
  rintro e w2 ⟨rfl, h, hb, hz⟩
  have hA := below_keep hb hA1 (lt_of_heap hA1)
  have hP : w.heap.size < w1.heap.size := lt_of_heap hA1
  replace hB := hB.trans (hb.mono (by omega))
  have hwB : w1.heap.size ≤ w2.heap.size := hb.size
  clear hb hA1 hz
  have hd := hid h
  clear h
  generalize w1.heap.size = B at *
  obtain ⟨c0, c1, c2, c3, c4, c5⟩ := cells6 hA
  go_wp2_with fail
  refine (few_any _ l _ _ (hR.out.below hB) hB.size hl hS.out).mono ?_
  rintro e w3 ⟨rfl, hb⟩
  replace hA := below_keep hb hA (by omega)
  replace hB := hB.trans (hb.mono (by omega))
  replace hd := hid (dk_below hd.out hb)
  replace hwB := Nat.le_trans hwB hb.size
  clear hb c0 c1 c2 c3 c4 c5
  obtain ⟨c0, c1, c2, c3, c4, c5⟩ := cells6 hA
  cases hfa : fewA l with
  | false =>
    go_wp2
    go_ret
    exact ⟨rfl, hB⟩
  | true =>
    by_cases hxs : x.s.length ≤ 100000
    · have hd1 : decide (100000 < (x.s.length : Int)) = false := by simp; omega
      go_wp2_with fail
      go_loopw [7] (fun i wr => ∃ (k : Nat) (d : DS), i = .int .i64 k ∧ k ≤ l.length ∧ DkD (from_ B) B d wr ∧ Below w.heap.size w wr ∧ B ≤ wr.heap.size ∧ wr.heap[w.heap.size]? = some (.cells #[iv x.op, iv x.f, iv x.g, iv x.n, sv x.s, vk] 39 (0, 0))) (fun i _ => l.length - (intOf i).toNat)
      case atStart => exact ⟨0, _, rfl, Nat.zero_le _, hd.out, hB, hwB, hA⟩
      case round =>
        clear hd hB hwB hA c0 c1 c2 c3 c4 c5
        obtain ⟨k, d, rfl, hk, hd, hB, hwB, hA⟩ := hrel
        by_cases hlt : k < l.length
        · obtain ⟨y, hy⟩ : ∃ y, l[k]? = some y := ⟨_, List.getElem?_eq_getElem hlt⟩
          obtain ⟨g, o, hidx, vy, e0, e1, e2, e3, e4, e5, ry⟩ := (hR.out.below hB).at hy
          have hyo := hid (hO.out y (List.mem_of_getElem? hy))
          replace hd := hid hd
          have hry := hid (ry.mono (Nat.le_of_lt hP))
          clear hy ry
          go_wp2_with fail
          refine (do_any B B d y _ _ hd.out hwB hyo.out hry.out).mono ?_
          rintro e w4 ⟨rfl, h, hb⟩
          go_wp2
          exact ⟨⟨k + 1, _, by go_num, by omega, h, hB.trans (hb.mono (Nat.le_of_lt hP)), Nat.le_trans hwB hb.size, below_keep hb hA hP⟩, by simp [intOf]; omega⟩
        · have hkl : k = l.length := by omega
          subst hkl
          replace hd := hid hd
          obtain ⟨c0, c1, c2, c3, c4, c5⟩ := cells6 hA
          go_wp2_with fail
          refine (arm_s B B d 0 [] (.slice none 0 0) _ hd.out hwB (by omega) (fun _ _ => Row.nil _ _ _ _) (by simp) (by simp)).mono ?_
          rintro e w9 ⟨rfl, h, hb⟩
          replace hA := below_keep hb hA hP
          replace hB := hB.trans (hb.mono (Nat.le_of_lt hP))
          replace hwB := Nat.le_trans hwB hb.size
          replace hd := hid h
          clear h hb c0 c1 c2 c3 c4 c5
          obtain ⟨c0, c1, c2, c3, c4, c5⟩ := cells6 hA
          go_wp2_with fail
          refine (start_s B B _ _ hd.out hwB).mono ?_
          rintro e w9 ⟨rfl, h, hb⟩
          replace hA := below_keep hb hA hP
          replace hB := hB.trans (hb.mono (Nat.le_of_lt hP))
          replace hwB := Nat.le_trans hwB hb.size
          replace hd := hid h
          clear h hb c0 c1 c2 c3 c4 c5
          obtain ⟨c0, c1, c2, c3, c4, c5⟩ := cells6 hA
          have hcalm := hid (calm_arm d)
          generalize dStart (dArm 0 [] d) = d1 at *
          by_cases hvf : vF x.f = true
          · rw [vF_iff] at hvf
            have hd2 : decide (x.f < 0) = false := by simp; omega
            have hd3 : decide (7 < x.f) = false := by simp; omega
            go_wp2_with fail
            refine (crash_s B B d1 [] (.slice none 0 0) _ hd.out hwB (Row.nil _ _ _ _) (by simp) (by simp)).mono ?_
            rintro e w9 ⟨rfl, h, hb⟩
            replace hA := below_keep hb hA hP
            replace hB := hB.trans (hb.mono (Nat.le_of_lt hP))
            replace hwB := Nat.le_trans hwB hb.size
            replace hd := hid h
            clear h hb c0 c1 c2 c3 c4 c5
            obtain ⟨c0, c1, c2, c3, c4, c5⟩ := cells6 hA
            have hdn := crash_down [] d1
            generalize dCrash [] d1 = d2 at *
            have qa := hid (down_app hdn x.f x.s)
            have qf := hid (down_flush hdn x.f)
            have qc := hid (down_cut hdn x.f x.n)
            have qt := hid (down_turn hdn x.f x.g)
            have qr := hid (down_read hdn x.f)
            have qk := hid (down_crash hdn [1, 1])
            replace hdn := hid hdn
            clear hcalm
            go_wp2_with fail
            refine (copy_any (from_ B) B d2 _ hd.out).mono ?_
            rintro e w5 ⟨rfl, hc, hb⟩
            replace hA := below_keep hb hA (by omega)
            replace hB := hB.trans (hb.mono (by omega))
            replace hd := hid (dk_below (hd.out.mono (G := fun k => B ≤ k ∧ k < w9.heap.size) (fun k h1 h2 => ⟨h2, h1⟩)) hb)
            have hs5 := hb.size
            replace hc := hid hc
            clear hb c0 c1 c2 c3 c4 c5
            generalize w9.heap.size = S at *
            obtain ⟨c0, c1, c2, c3, c4, c5⟩ := cells6 hA
            go_wp2_with fail
            refine (start_any (from_ S) S d2 _ hc.out).mono ?_
            rintro e w6 h
            obtain ⟨rfl, h, hf⟩ := h.absorb (fun k h => Nat.le_trans hs5 h)
            have hs6 := Nat.le_trans hs5 hf.size
            replace hd := hid ((hd.out.fr hf (fun k h1 (h2 : S ≤ k) => by omega)).mono (G := fun k => (B ≤ k ∧ k < S) ∨ w6.heap.size ≤ k) (fun k _ h => Or.inl h))
            replace hc := hid (h.mono (G := fun k => S ≤ k ∧ k < w6.heap.size) (fun k h1 h2 => ⟨h2, h1⟩))
            replace hA := hf.keep hA (fun (h2 : S ≤ w.heap.size) => by omega)
            replace hB := hB.trans (hf.to_below hB.size (fun k hk (h2 : S ≤ k) => by omega))
            clear h hf c0 c1 c2 c3 c4 c5 hs5
            obtain ⟨T, hTd⟩ : ∃ T, T = w6.heap.size := ⟨_, rfl⟩
            rw [← hTd] at hd hc hs6
            have hT : T ≤ w6.heap.size := by omega
            clear hTd
            obtain ⟨c0, c1, c2, c3, c4, c5⟩ := cells6 hA
            go_wp2_with fail
            refine (read_any _ B d2 x.f _ hd.out).mono ?_
            rintro e w9 ⟨rfl, rfl⟩
            rw [qr.out.1, qr.out.2]
            go_wp2_with fail
            refine (crash_any _ B d2 [1, 1] _ _ (dk_alloc hd.out _) (row_new _ [iv 1, iv 1] 3) (by simp) (by simp)).mono ?_
            rintro e w9 h
            obtain ⟨rfl, h, hf⟩ := h.absorb (fun k h => Or.inr (by (try simp at h); omega))
            rw [qk.out] at h
            replace hc := hid ((dk_alloc hc.out _).fr hf (fun k h1 h2 => by omega))
            replace hA := hf.keep (heap_alloc_lt hA) (fun h2 => by omega)
            replace hB := (hB.alloc hB.size _).trans (hf.to_below (hB.alloc hB.size _).size (fun k hk h2 => by omega))
            replace hT : T ≤ w9.heap.size := by have hq := hf.size; simp at hq; omega
            replace hd := hid h
            clear h hf c0 c1 c2 c3 c4 c5
            obtain ⟨c0, c1, c2, c3, c4, c5⟩ := cells6 hA
            go_wp2_with fail
            refine (append_any _ B d2 x.f x.s _ hd.out (by omega)).mono ?_
            rintro e w9 h
            obtain ⟨rfl, h, hf⟩ := h.absorb (fun k h => Or.inr (by (try simp at h); omega))
            rw [qa.out.1]
            rw [qa.out.2] at h
            replace hc := hid (hc.out.fr hf (fun k h1 h2 => by omega))
            replace hA := hf.keep hA (fun h2 => by omega)
            replace hB := hB.trans (hf.to_below hB.size (fun k hk h2 => by omega))
            replace hT := Nat.le_trans hT hf.size
            replace hd := hid h
            clear h hf c0 c1 c2 c3 c4 c5
            obtain ⟨c0, c1, c2, c3, c4, c5⟩ := cells6 hA
            go_wp2_with fail
            refine (flush_any _ B d2 x.f _ hd.out).mono ?_
            rintro e w9 h
            obtain ⟨rfl, h, hf⟩ := h.absorb (fun k h => Or.inr (by (try simp at h); omega))
            rw [qf.out.1]
            rw [qf.out.2] at h
            replace hc := hid (hc.out.fr hf (fun k h1 h2 => by omega))
            replace hA := hf.keep hA (fun h2 => by omega)
            replace hB := hB.trans (hf.to_below hB.size (fun k hk h2 => by omega))
            replace hT := Nat.le_trans hT hf.size
            replace hd := hid h
            clear h hf c0 c1 c2 c3 c4 c5
            obtain ⟨c0, c1, c2, c3, c4, c5⟩ := cells6 hA
            go_wp2_with fail
            refine (cut_any _ B d2 x.f x.n _ hd.out).mono ?_
            rintro e w9 h
            obtain ⟨rfl, h, hf⟩ := h.absorb (fun k h => Or.inr (by (try simp at h); omega))
            rw [qc.out.1]
            rw [qc.out.2] at h
            replace hc := hid (hc.out.fr hf (fun k h1 h2 => by omega))
            replace hA := hf.keep hA (fun h2 => by omega)
            replace hB := hB.trans (hf.to_below hB.size (fun k hk h2 => by omega))
            replace hT := Nat.le_trans hT hf.size
            replace hd := hid h
            clear h hf c0 c1 c2 c3 c4 c5
            obtain ⟨c0, c1, c2, c3, c4, c5⟩ := cells6 hA
            go_wp2_with fail
            refine (turn_any _ B d2 x.f x.g _ hd.out).mono ?_
            rintro e w9 h
            obtain ⟨rfl, h, hf⟩ := h.absorb (fun k h => Or.inr (by (try simp at h); omega))
            rw [qt.out.1]
            rw [qt.out.2] at h
            replace hc := hid (hc.out.fr hf (fun k h1 h2 => by omega))
            replace hA := hf.keep hA (fun h2 => by omega)
            replace hB := hB.trans (hf.to_below hB.size (fun k hk h2 => by omega))
            replace hT := Nat.le_trans hT hf.size
            replace hd := hid h
            clear h hf c0 c1 c2 c3 c4 c5
            obtain ⟨c0, c1, c2, c3, c4, c5⟩ := cells6 hA
            go_wp2_with fail
            refine (down_any _ B d2 _ hd.out).mono ?_
            rintro e w9 ⟨rfl, rfl⟩
            rw [hdn.out]
            go_wp2_with fail
            refine (start_any _ B d2 _ hd.out).mono ?_
            rintro e w9 h
            obtain ⟨rfl, h, hf⟩ := h.absorb (fun k h => Or.inr (by (try simp at h); omega))
            replace hc := hid (hc.out.fr hf (fun k h1 h2 => by omega))
            replace hA := hf.keep hA (fun h2 => by omega)
            replace hB := hB.trans (hf.to_below hB.size (fun k hk h2 => by omega))
            replace hT := Nat.le_trans hT hf.size
            replace hd := hid h
            clear h hf c0 c1 c2 c3 c4 c5
            obtain ⟨c0, c1, c2, c3, c4, c5⟩ := cells6 hA
            have hup : (dStart d2).down = false := rfl
            generalize dStart d2 = d3 at *
            go_wp2_with fail
            clear c0 c1 c2 c3 c4 c5
            go_loopw [11, 12, 13, 14, 15] (fun i _ _ _ _ wr => ∃ (k : Nat), i = .int .i64 k ∧ k ≤ 8 ∧ wr = w9) (fun i _ _ _ _ _ => 8 - (intOf i).toNat)
            case atStart => exact ⟨0, rfl, Nat.zero_le _, rfl⟩
            case round =>
              obtain ⟨k, rfl, hk8, rfl⟩ := hrel
              by_cases hk9 : k < 8
              · go_wp2_with fail
                refine (read_any _ B d3 k _ hd.out).mono ?_
                rintro e w10 ⟨rfl, rfl⟩
                go_wp2_with fail
                refine (read_any _ S d3 k _ hc.out).mono ?_
                rintro e w11 ⟨rfl, rfl⟩
                generalize read2 (k : Int) d3 = str at *
                generalize read1 (k : Int) d3 = err at *
                go_wp2
                exact ⟨⟨k + 1, by go_num, by omega, trivial⟩, by simp [intOf]; omega⟩
              · have hk10 : k = 8 := by omega
                subst hk10
                go_wp2_with fail
                refine (down_any _ B d3 _ hd.out).mono ?_
                rintro e w10 ⟨rfl, rfl⟩
                rw [hup]
                go_wp2
                go_ret
                exact ⟨rfl, hB⟩
          · replace hvf : vF x.f = false := by simpa using hvf
            have hor := (vF_not x.f).1 hvf
            by_cases hneg : x.f < 0
            · have hd2 : decide (x.f < 0) = true := by simpa using hneg
              have ba := hid (bad_app hcalm.out hvf x.s)
              have bf := hid (bad_flush hcalm.out hvf)
              have bc := hid (bad_cut hcalm.out hvf 0)
              have bt := hid (bad_turn (g := 1) hcalm.out (Or.inl hvf))
              have bu := hid (bad_turn (f := 1) hcalm.out (Or.inr hvf))
              have bs := hid (bad_size (d := d1) hvf)
              replace hvf := hid hvf
              go_wp2_with fail
              refine (app_s B B d1 x.f x.s _ hd.out hwB (by omega)).mono ?_
              rintro e w9 ⟨rfl, h, hb⟩
              rw [ba.out.1]
              rw [ba.out.2] at h
              replace hA := below_keep hb hA hP
              replace hB := hB.trans (hb.mono (Nat.le_of_lt hP))
              replace hwB := Nat.le_trans hwB hb.size
              replace hd := hid h
              clear h hb c0 c1 c2 c3 c4 c5
              obtain ⟨c0, c1, c2, c3, c4, c5⟩ := cells6 hA
              go_wp2_with fail
              refine (flush_s B B d1 x.f _ hd.out hwB).mono ?_
              rintro e w9 ⟨rfl, h, hb⟩
              rw [bf.out.1]
              rw [bf.out.2] at h
              replace hA := below_keep hb hA hP
              replace hB := hB.trans (hb.mono (Nat.le_of_lt hP))
              replace hwB := Nat.le_trans hwB hb.size
              replace hd := hid h
              clear h hb c0 c1 c2 c3 c4 c5
              obtain ⟨c0, c1, c2, c3, c4, c5⟩ := cells6 hA
              go_wp2_with fail
              refine (cut_s B B d1 x.f 0 _ hd.out hwB).mono ?_
              rintro e w9 ⟨rfl, h, hb⟩
              rw [bc.out.1]
              rw [bc.out.2] at h
              replace hA := below_keep hb hA hP
              replace hB := hB.trans (hb.mono (Nat.le_of_lt hP))
              replace hwB := Nat.le_trans hwB hb.size
              replace hd := hid h
              clear h hb c0 c1 c2 c3 c4 c5
              obtain ⟨c0, c1, c2, c3, c4, c5⟩ := cells6 hA
              go_wp2_with fail
              refine (turn_s B B d1 x.f 1 _ hd.out hwB).mono ?_
              rintro e w9 ⟨rfl, h, hb⟩
              rw [bt.out.1]
              rw [bt.out.2] at h
              replace hA := below_keep hb hA hP
              replace hB := hB.trans (hb.mono (Nat.le_of_lt hP))
              replace hwB := Nat.le_trans hwB hb.size
              replace hd := hid h
              clear h hb c0 c1 c2 c3 c4 c5
              obtain ⟨c0, c1, c2, c3, c4, c5⟩ := cells6 hA
              go_wp2_with fail
              refine (turn_s B B d1 1 x.f _ hd.out hwB).mono ?_
              rintro e w9 ⟨rfl, h, hb⟩
              rw [bu.out.1]
              rw [bu.out.2] at h
              replace hA := below_keep hb hA hP
              replace hB := hB.trans (hb.mono (Nat.le_of_lt hP))
              replace hwB := Nat.le_trans hwB hb.size
              replace hd := hid h
              clear h hb c0 c1 c2 c3 c4 c5
              obtain ⟨c0, c1, c2, c3, c4, c5⟩ := cells6 hA
              go_wp2_with fail
              refine (size_any _ B d1 x.f _ hd.out).mono ?_
              rintro e w9 ⟨rfl, rfl⟩
              rw [bs.out]
              clear ba bf bc bt bu bs
              go_wp2_with fail
              refine (crash_s B B d1 [] (.slice none 0 0) _ hd.out hwB (Row.nil _ _ _ _) (by simp) (by simp)).mono ?_
              rintro e w9 ⟨rfl, h, hb⟩
              replace hA := below_keep hb hA hP
              replace hB := hB.trans (hb.mono (Nat.le_of_lt hP))
              replace hwB := Nat.le_trans hwB hb.size
              replace hd := hid h
              clear h hb c0 c1 c2 c3 c4 c5
              obtain ⟨c0, c1, c2, c3, c4, c5⟩ := cells6 hA
              have hdn := crash_down [] d1
              generalize dCrash [] d1 = d2 at *
              have qa := hid (down_app hdn x.f x.s)
              have qf := hid (down_flush hdn x.f)
              have qc := hid (down_cut hdn x.f x.n)
              have qt := hid (down_turn hdn x.f x.g)
              have qr := hid (down_read hdn x.f)
              have qk := hid (down_crash hdn [1, 1])
              replace hdn := hid hdn
              clear hcalm
              go_wp2_with fail
              refine (copy_any (from_ B) B d2 _ hd.out).mono ?_
              rintro e w5 ⟨rfl, hc, hb⟩
              replace hA := below_keep hb hA (by omega)
              replace hB := hB.trans (hb.mono (by omega))
              replace hd := hid (dk_below (hd.out.mono (G := fun k => B ≤ k ∧ k < w9.heap.size) (fun k h1 h2 => ⟨h2, h1⟩)) hb)
              have hs5 := hb.size
              replace hc := hid hc
              clear hb c0 c1 c2 c3 c4 c5
              generalize w9.heap.size = S at *
              obtain ⟨c0, c1, c2, c3, c4, c5⟩ := cells6 hA
              go_wp2_with fail
              refine (start_any (from_ S) S d2 _ hc.out).mono ?_
              rintro e w6 h
              obtain ⟨rfl, h, hf⟩ := h.absorb (fun k h => Nat.le_trans hs5 h)
              have hs6 := Nat.le_trans hs5 hf.size
              replace hd := hid ((hd.out.fr hf (fun k h1 (h2 : S ≤ k) => by omega)).mono (G := fun k => (B ≤ k ∧ k < S) ∨ w6.heap.size ≤ k) (fun k _ h => Or.inl h))
              replace hc := hid (h.mono (G := fun k => S ≤ k ∧ k < w6.heap.size) (fun k h1 h2 => ⟨h2, h1⟩))
              replace hA := hf.keep hA (fun (h2 : S ≤ w.heap.size) => by omega)
              replace hB := hB.trans (hf.to_below hB.size (fun k hk (h2 : S ≤ k) => by omega))
              clear h hf c0 c1 c2 c3 c4 c5 hs5
              obtain ⟨T, hTd⟩ : ∃ T, T = w6.heap.size := ⟨_, rfl⟩
              rw [← hTd] at hd hc hs6
              have hT : T ≤ w6.heap.size := by omega
              clear hTd
              obtain ⟨c0, c1, c2, c3, c4, c5⟩ := cells6 hA
              go_wp2_with fail
              refine (read_any _ B d2 x.f _ hd.out).mono ?_
              rintro e w9 ⟨rfl, rfl⟩
              rw [qr.out.1, qr.out.2]
              go_wp2_with fail
              refine (crash_any _ B d2 [1, 1] _ _ (dk_alloc hd.out _) (row_new _ [iv 1, iv 1] 3) (by simp) (by simp)).mono ?_
              rintro e w9 h
              obtain ⟨rfl, h, hf⟩ := h.absorb (fun k h => Or.inr (by (try simp at h); omega))
              rw [qk.out] at h
              replace hc := hid ((dk_alloc hc.out _).fr hf (fun k h1 h2 => by omega))
              replace hA := hf.keep (heap_alloc_lt hA) (fun h2 => by omega)
              replace hB := (hB.alloc hB.size _).trans (hf.to_below (hB.alloc hB.size _).size (fun k hk h2 => by omega))
              replace hT : T ≤ w9.heap.size := by have hq := hf.size; simp at hq; omega
              replace hd := hid h
              clear h hf c0 c1 c2 c3 c4 c5
              obtain ⟨c0, c1, c2, c3, c4, c5⟩ := cells6 hA
              go_wp2_with fail
              refine (append_any _ B d2 x.f x.s _ hd.out (by omega)).mono ?_
              rintro e w9 h
              obtain ⟨rfl, h, hf⟩ := h.absorb (fun k h => Or.inr (by (try simp at h); omega))
              rw [qa.out.1]
              rw [qa.out.2] at h
              replace hc := hid (hc.out.fr hf (fun k h1 h2 => by omega))
              replace hA := hf.keep hA (fun h2 => by omega)
              replace hB := hB.trans (hf.to_below hB.size (fun k hk h2 => by omega))
              replace hT := Nat.le_trans hT hf.size
              replace hd := hid h
              clear h hf c0 c1 c2 c3 c4 c5
              obtain ⟨c0, c1, c2, c3, c4, c5⟩ := cells6 hA
              go_wp2_with fail
              refine (flush_any _ B d2 x.f _ hd.out).mono ?_
              rintro e w9 h
              obtain ⟨rfl, h, hf⟩ := h.absorb (fun k h => Or.inr (by (try simp at h); omega))
              rw [qf.out.1]
              rw [qf.out.2] at h
              replace hc := hid (hc.out.fr hf (fun k h1 h2 => by omega))
              replace hA := hf.keep hA (fun h2 => by omega)
              replace hB := hB.trans (hf.to_below hB.size (fun k hk h2 => by omega))
              replace hT := Nat.le_trans hT hf.size
              replace hd := hid h
              clear h hf c0 c1 c2 c3 c4 c5
              obtain ⟨c0, c1, c2, c3, c4, c5⟩ := cells6 hA
              go_wp2_with fail
              refine (cut_any _ B d2 x.f x.n _ hd.out).mono ?_
              rintro e w9 h
              obtain ⟨rfl, h, hf⟩ := h.absorb (fun k h => Or.inr (by (try simp at h); omega))
              rw [qc.out.1]
              rw [qc.out.2] at h
              replace hc := hid (hc.out.fr hf (fun k h1 h2 => by omega))
              replace hA := hf.keep hA (fun h2 => by omega)
              replace hB := hB.trans (hf.to_below hB.size (fun k hk h2 => by omega))
              replace hT := Nat.le_trans hT hf.size
              replace hd := hid h
              clear h hf c0 c1 c2 c3 c4 c5
              obtain ⟨c0, c1, c2, c3, c4, c5⟩ := cells6 hA
              go_wp2_with fail
              refine (turn_any _ B d2 x.f x.g _ hd.out).mono ?_
              rintro e w9 h
              obtain ⟨rfl, h, hf⟩ := h.absorb (fun k h => Or.inr (by (try simp at h); omega))
              rw [qt.out.1]
              rw [qt.out.2] at h
              replace hc := hid (hc.out.fr hf (fun k h1 h2 => by omega))
              replace hA := hf.keep hA (fun h2 => by omega)
              replace hB := hB.trans (hf.to_below hB.size (fun k hk h2 => by omega))
              replace hT := Nat.le_trans hT hf.size
              replace hd := hid h
              clear h hf c0 c1 c2 c3 c4 c5
              obtain ⟨c0, c1, c2, c3, c4, c5⟩ := cells6 hA
              go_wp2_with fail
              refine (down_any _ B d2 _ hd.out).mono ?_
              rintro e w9 ⟨rfl, rfl⟩
              rw [hdn.out]
              go_wp2_with fail
              refine (start_any _ B d2 _ hd.out).mono ?_
              rintro e w9 h
              obtain ⟨rfl, h, hf⟩ := h.absorb (fun k h => Or.inr (by (try simp at h); omega))
              replace hc := hid (hc.out.fr hf (fun k h1 h2 => by omega))
              replace hA := hf.keep hA (fun h2 => by omega)
              replace hB := hB.trans (hf.to_below hB.size (fun k hk h2 => by omega))
              replace hT := Nat.le_trans hT hf.size
              replace hd := hid h
              clear h hf c0 c1 c2 c3 c4 c5
              obtain ⟨c0, c1, c2, c3, c4, c5⟩ := cells6 hA
              have hup : (dStart d2).down = false := rfl
              generalize dStart d2 = d3 at *
              go_wp2_with fail
              clear c0 c1 c2 c3 c4 c5
              go_loopw [11, 12, 13, 14, 15] (fun i _ _ _ _ wr => ∃ (k : Nat), i = .int .i64 k ∧ k ≤ 8 ∧ wr = w9) (fun i _ _ _ _ _ => 8 - (intOf i).toNat)
              case atStart => exact ⟨0, rfl, Nat.zero_le _, rfl⟩
              case round =>
                obtain ⟨k, rfl, hk8, rfl⟩ := hrel
                by_cases hk9 : k < 8
                · go_wp2_with fail
                  refine (read_any _ B d3 k _ hd.out).mono ?_
                  rintro e w10 ⟨rfl, rfl⟩
                  go_wp2_with fail
                  refine (read_any _ S d3 k _ hc.out).mono ?_
                  rintro e w11 ⟨rfl, rfl⟩
                  generalize read2 (k : Int) d3 = str at *
                  generalize read1 (k : Int) d3 = err at *
                  go_wp2
                  exact ⟨⟨k + 1, by go_num, by omega, trivial⟩, by simp [intOf]; omega⟩
                · have hk10 : k = 8 := by omega
                  subst hk10
                  go_wp2_with fail
                  refine (down_any _ B d3 _ hd.out).mono ?_
                  rintro e w10 ⟨rfl, rfl⟩
                  rw [hup]
                  go_wp2
                  go_ret
                  exact ⟨rfl, hB⟩
            · have hd2 : decide (x.f < 0) = false := by simpa using hneg
              have hd3 : decide (7 < x.f) = true := by simp; omega
              have ba := hid (bad_app hcalm.out hvf x.s)
              have bf := hid (bad_flush hcalm.out hvf)
              have bc := hid (bad_cut hcalm.out hvf 0)
              have bt := hid (bad_turn (g := 1) hcalm.out (Or.inl hvf))
              have bu := hid (bad_turn (f := 1) hcalm.out (Or.inr hvf))
              have bs := hid (bad_size (d := d1) hvf)
              replace hvf := hid hvf
              go_wp2_with fail
              refine (app_s B B d1 x.f x.s _ hd.out hwB (by omega)).mono ?_
              rintro e w9 ⟨rfl, h, hb⟩
              rw [ba.out.1]
              rw [ba.out.2] at h
              replace hA := below_keep hb hA hP
              replace hB := hB.trans (hb.mono (Nat.le_of_lt hP))
              replace hwB := Nat.le_trans hwB hb.size
              replace hd := hid h
              clear h hb c0 c1 c2 c3 c4 c5
              obtain ⟨c0, c1, c2, c3, c4, c5⟩ := cells6 hA
              go_wp2_with fail
              refine (flush_s B B d1 x.f _ hd.out hwB).mono ?_
              rintro e w9 ⟨rfl, h, hb⟩
              rw [bf.out.1]
              rw [bf.out.2] at h
              replace hA := below_keep hb hA hP
              replace hB := hB.trans (hb.mono (Nat.le_of_lt hP))
              replace hwB := Nat.le_trans hwB hb.size
              replace hd := hid h
              clear h hb c0 c1 c2 c3 c4 c5
              obtain ⟨c0, c1, c2, c3, c4, c5⟩ := cells6 hA
              go_wp2_with fail
              refine (cut_s B B d1 x.f 0 _ hd.out hwB).mono ?_
              rintro e w9 ⟨rfl, h, hb⟩
              rw [bc.out.1]
              rw [bc.out.2] at h
              replace hA := below_keep hb hA hP
              replace hB := hB.trans (hb.mono (Nat.le_of_lt hP))
              replace hwB := Nat.le_trans hwB hb.size
              replace hd := hid h
              clear h hb c0 c1 c2 c3 c4 c5
              obtain ⟨c0, c1, c2, c3, c4, c5⟩ := cells6 hA
              go_wp2_with fail
              refine (turn_s B B d1 x.f 1 _ hd.out hwB).mono ?_
              rintro e w9 ⟨rfl, h, hb⟩
              rw [bt.out.1]
              rw [bt.out.2] at h
              replace hA := below_keep hb hA hP
              replace hB := hB.trans (hb.mono (Nat.le_of_lt hP))
              replace hwB := Nat.le_trans hwB hb.size
              replace hd := hid h
              clear h hb c0 c1 c2 c3 c4 c5
              obtain ⟨c0, c1, c2, c3, c4, c5⟩ := cells6 hA
              go_wp2_with fail
              refine (turn_s B B d1 1 x.f _ hd.out hwB).mono ?_
              rintro e w9 ⟨rfl, h, hb⟩
              rw [bu.out.1]
              rw [bu.out.2] at h
              replace hA := below_keep hb hA hP
              replace hB := hB.trans (hb.mono (Nat.le_of_lt hP))
              replace hwB := Nat.le_trans hwB hb.size
              replace hd := hid h
              clear h hb c0 c1 c2 c3 c4 c5
              obtain ⟨c0, c1, c2, c3, c4, c5⟩ := cells6 hA
              go_wp2_with fail
              refine (size_any _ B d1 x.f _ hd.out).mono ?_
              rintro e w9 ⟨rfl, rfl⟩
              rw [bs.out]
              clear ba bf bc bt bu bs
              go_wp2_with fail
              refine (crash_s B B d1 [] (.slice none 0 0) _ hd.out hwB (Row.nil _ _ _ _) (by simp) (by simp)).mono ?_
              rintro e w9 ⟨rfl, h, hb⟩
              replace hA := below_keep hb hA hP
              replace hB := hB.trans (hb.mono (Nat.le_of_lt hP))
              replace hwB := Nat.le_trans hwB hb.size
              replace hd := hid h
              clear h hb c0 c1 c2 c3 c4 c5
              obtain ⟨c0, c1, c2, c3, c4, c5⟩ := cells6 hA
              have hdn := crash_down [] d1
              generalize dCrash [] d1 = d2 at *
              have qa := hid (down_app hdn x.f x.s)
              have qf := hid (down_flush hdn x.f)
              have qc := hid (down_cut hdn x.f x.n)
              have qt := hid (down_turn hdn x.f x.g)
              have qr := hid (down_read hdn x.f)
              have qk := hid (down_crash hdn [1, 1])
              replace hdn := hid hdn
              clear hcalm
              go_wp2_with fail
              refine (copy_any (from_ B) B d2 _ hd.out).mono ?_
              rintro e w5 ⟨rfl, hc, hb⟩
              replace hA := below_keep hb hA (by omega)
              replace hB := hB.trans (hb.mono (by omega))
              replace hd := hid (dk_below (hd.out.mono (G := fun k => B ≤ k ∧ k < w9.heap.size) (fun k h1 h2 => ⟨h2, h1⟩)) hb)
              have hs5 := hb.size
              replace hc := hid hc
              clear hb c0 c1 c2 c3 c4 c5
              generalize w9.heap.size = S at *
              obtain ⟨c0, c1, c2, c3, c4, c5⟩ := cells6 hA
              go_wp2_with fail
              refine (start_any (from_ S) S d2 _ hc.out).mono ?_
              rintro e w6 h
              obtain ⟨rfl, h, hf⟩ := h.absorb (fun k h => Nat.le_trans hs5 h)
              have hs6 := Nat.le_trans hs5 hf.size
              replace hd := hid ((hd.out.fr hf (fun k h1 (h2 : S ≤ k) => by omega)).mono (G := fun k => (B ≤ k ∧ k < S) ∨ w6.heap.size ≤ k) (fun k _ h => Or.inl h))
              replace hc := hid (h.mono (G := fun k => S ≤ k ∧ k < w6.heap.size) (fun k h1 h2 => ⟨h2, h1⟩))
              replace hA := hf.keep hA (fun (h2 : S ≤ w.heap.size) => by omega)
              replace hB := hB.trans (hf.to_below hB.size (fun k hk (h2 : S ≤ k) => by omega))
              clear h hf c0 c1 c2 c3 c4 c5 hs5
              obtain ⟨T, hTd⟩ : ∃ T, T = w6.heap.size := ⟨_, rfl⟩
              rw [← hTd] at hd hc hs6
              have hT : T ≤ w6.heap.size := by omega
              clear hTd
              obtain ⟨c0, c1, c2, c3, c4, c5⟩ := cells6 hA
              go_wp2_with fail
              refine (read_any _ B d2 x.f _ hd.out).mono ?_
              rintro e w9 ⟨rfl, rfl⟩
              rw [qr.out.1, qr.out.2]
              go_wp2_with fail
              refine (crash_any _ B d2 [1, 1] _ _ (dk_alloc hd.out _) (row_new _ [iv 1, iv 1] 3) (by simp) (by simp)).mono ?_
              rintro e w9 h
              obtain ⟨rfl, h, hf⟩ := h.absorb (fun k h => Or.inr (by (try simp at h); omega))
              rw [qk.out] at h
              replace hc := hid ((dk_alloc hc.out _).fr hf (fun k h1 h2 => by omega))
              replace hA := hf.keep (heap_alloc_lt hA) (fun h2 => by omega)
              replace hB := (hB.alloc hB.size _).trans (hf.to_below (hB.alloc hB.size _).size (fun k hk h2 => by omega))
              replace hT : T ≤ w9.heap.size := by have hq := hf.size; simp at hq; omega
              replace hd := hid h
              clear h hf c0 c1 c2 c3 c4 c5
              obtain ⟨c0, c1, c2, c3, c4, c5⟩ := cells6 hA
              go_wp2_with fail
              refine (append_any _ B d2 x.f x.s _ hd.out (by omega)).mono ?_
              rintro e w9 h
              obtain ⟨rfl, h, hf⟩ := h.absorb (fun k h => Or.inr (by (try simp at h); omega))
              rw [qa.out.1]
              rw [qa.out.2] at h
              replace hc := hid (hc.out.fr hf (fun k h1 h2 => by omega))
              replace hA := hf.keep hA (fun h2 => by omega)
              replace hB := hB.trans (hf.to_below hB.size (fun k hk h2 => by omega))
              replace hT := Nat.le_trans hT hf.size
              replace hd := hid h
              clear h hf c0 c1 c2 c3 c4 c5
              obtain ⟨c0, c1, c2, c3, c4, c5⟩ := cells6 hA
              go_wp2_with fail
              refine (flush_any _ B d2 x.f _ hd.out).mono ?_
              rintro e w9 h
              obtain ⟨rfl, h, hf⟩ := h.absorb (fun k h => Or.inr (by (try simp at h); omega))
              rw [qf.out.1]
              rw [qf.out.2] at h
              replace hc := hid (hc.out.fr hf (fun k h1 h2 => by omega))
              replace hA := hf.keep hA (fun h2 => by omega)
              replace hB := hB.trans (hf.to_below hB.size (fun k hk h2 => by omega))
              replace hT := Nat.le_trans hT hf.size
              replace hd := hid h
              clear h hf c0 c1 c2 c3 c4 c5
              obtain ⟨c0, c1, c2, c3, c4, c5⟩ := cells6 hA
              go_wp2_with fail
              refine (cut_any _ B d2 x.f x.n _ hd.out).mono ?_
              rintro e w9 h
              obtain ⟨rfl, h, hf⟩ := h.absorb (fun k h => Or.inr (by (try simp at h); omega))
              rw [qc.out.1]
              rw [qc.out.2] at h
              replace hc := hid (hc.out.fr hf (fun k h1 h2 => by omega))
              replace hA := hf.keep hA (fun h2 => by omega)
              replace hB := hB.trans (hf.to_below hB.size (fun k hk h2 => by omega))
              replace hT := Nat.le_trans hT hf.size
              replace hd := hid h
              clear h hf c0 c1 c2 c3 c4 c5
              obtain ⟨c0, c1, c2, c3, c4, c5⟩ := cells6 hA
              go_wp2_with fail
              refine (turn_any _ B d2 x.f x.g _ hd.out).mono ?_
              rintro e w9 h
              obtain ⟨rfl, h, hf⟩ := h.absorb (fun k h => Or.inr (by (try simp at h); omega))
              rw [qt.out.1]
              rw [qt.out.2] at h
              replace hc := hid (hc.out.fr hf (fun k h1 h2 => by omega))
              replace hA := hf.keep hA (fun h2 => by omega)
              replace hB := hB.trans (hf.to_below hB.size (fun k hk h2 => by omega))
              replace hT := Nat.le_trans hT hf.size
              replace hd := hid h
              clear h hf c0 c1 c2 c3 c4 c5
              obtain ⟨c0, c1, c2, c3, c4, c5⟩ := cells6 hA
              go_wp2_with fail
              refine (down_any _ B d2 _ hd.out).mono ?_
              rintro e w9 ⟨rfl, rfl⟩
              rw [hdn.out]
              go_wp2_with fail
              refine (start_any _ B d2 _ hd.out).mono ?_
              rintro e w9 h
              obtain ⟨rfl, h, hf⟩ := h.absorb (fun k h => Or.inr (by (try simp at h); omega))
              replace hc := hid (hc.out.fr hf (fun k h1 h2 => by omega))
              replace hA := hf.keep hA (fun h2 => by omega)
              replace hB := hB.trans (hf.to_below hB.size (fun k hk h2 => by omega))
              replace hT := Nat.le_trans hT hf.size
              replace hd := hid h
              clear h hf c0 c1 c2 c3 c4 c5
              obtain ⟨c0, c1, c2, c3, c4, c5⟩ := cells6 hA
              have hup : (dStart d2).down = false := rfl
              generalize dStart d2 = d3 at *
              go_wp2_with fail
              clear c0 c1 c2 c3 c4 c5
              go_loopw [11, 12, 13, 14, 15] (fun i _ _ _ _ wr => ∃ (k : Nat), i = .int .i64 k ∧ k ≤ 8 ∧ wr = w9) (fun i _ _ _ _ _ => 8 - (intOf i).toNat)
              case atStart => exact ⟨0, rfl, Nat.zero_le _, rfl⟩
              case round =>
                obtain ⟨k, rfl, hk8, rfl⟩ := hrel
                by_cases hk9 : k < 8
                · go_wp2_with fail
                  refine (read_any _ B d3 k _ hd.out).mono ?_
                  rintro e w10 ⟨rfl, rfl⟩
                  go_wp2_with fail
                  refine (read_any _ S d3 k _ hc.out).mono ?_
                  rintro e w11 ⟨rfl, rfl⟩
                  generalize read2 (k : Int) d3 = str at *
                  generalize read1 (k : Int) d3 = err at *
                  go_wp2
                  exact ⟨⟨k + 1, by go_num, by omega, trivial⟩, by simp [intOf]; omega⟩
                · have hk10 : k = 8 := by omega
                  subst hk10
                  go_wp2_with fail
                  refine (down_any _ B d3 _ hd.out).mono ?_
                  rintro e w10 ⟨rfl, rfl⟩
                  rw [hup]
                  go_wp2
                  go_ret
                  exact ⟨rfl, hB⟩
    · have hd1 : decide (100000 < (x.s.length : Int)) = true := by simp; omega
      go_wp2
      go_ret
      exact ⟨rfl, hB⟩
end Go.Proofs.Ytdapjoapndemkaa
