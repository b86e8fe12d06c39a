/- Chapter 02 (code): walks: the law's valid. -/
import Derived.Test.YtmlcnmpfjallkaaCodeV3
import Derived.Deep.DeepCutAuto
set_option linter.unusedVariables false
namespace Go.Proofs.Ytmlcnmpfjallkaa
open Go.RowKit
open Go.Lib (hid IsBuilder byteCells)

def okHead (t : CV) : Bool := !(decide (t.kind % 5 = 0) && decide (t.n < 0)) && !(decide (t.kind % 5 = 1) && !inR t.n) && fewB t.texts && decide (t.text.length ≤ 10000) && decide (t.nums.length ≤ 100)
def okCV (t : CV) : Bool := okHead t && t.nums.all inR
def validB (ts : List CV) : Bool := ts.all okCV && decide (ts.length ≤ 20)
theorem all_snoc {α : Type} (p : α → Bool) (l : List α) (k : Nat) (x : α) (h : l[k]? = some x) (h1 : (l.take k).all p = true) (h2 : p x = true) : (l.take (k + 1)).all p = true := by
  rw [List.take_add_one, h]; simp only [Option.toList_some, List.all_append, List.all_cons, List.all_nil, h1, h2]; rfl
theorem all_false {α : Type} (p : α → Bool) (l : List α) (k : Nat) (x : α) (h : l[k]? = some x) (h2 : p x = false) : l.all p = false := by
  rw [List.all_eq_false]; exact ⟨x, List.mem_of_getElem? h, by simp [h2]⟩
/-- the ways through the head's test -/
theorem okHead_ways (t : CV) : (t.kind % 5 = 0 ∧ t.n < 0 ∧ okHead t = false) ∨ (t.kind % 5 = 1 ∧ inR t.n = false ∧ okHead t = false) ∨
    (((t.kind % 5 = 0 ∧ 0 ≤ t.n) ∨ (t.kind % 5 = 1 ∧ inR t.n = true) ∨ (2 ≤ t.kind % 5)) ∧
      ((fewB t.texts = false ∧ okHead t = false) ∨ (fewB t.texts = true ∧ 10000 < t.text.length ∧ okHead t = false) ∨ (fewB t.texts = true ∧ t.text.length ≤ 10000 ∧ 100 < t.nums.length ∧ okHead t = false) ∨
       (fewB t.texts = true ∧ t.text.length ≤ 10000 ∧ t.nums.length ≤ 100 ∧ okHead t = true))) := by
  have hk : t.kind % 5 = 0 ∨ t.kind % 5 = 1 ∨ 2 ≤ t.kind % 5 := by omega
  unfold okHead
  cases hf : fewB t.texts <;> cases hi : inR t.n <;> by_cases h1 : t.n < 0 <;> by_cases h2 : t.text.length ≤ 10000 <;> by_cases h3 : t.nums.length ≤ 100 <;> rcases hk with hk | hk | hk <;> simp [h1, h2, h3, hk] <;> omega

set_option maxHeartbeats 16000000 in
set_option maxRecDepth 100000 in
theorem valid_any (S : Nat → Prop) (ts : List CV) (v : Value) (w : World) (hv : VRow S w v ts) (hK : ∀ t ∈ ts, -9223372036854775808 ≤ t.kind ∧ t.kind ≤ 9223372036854775807) (hl : ts.length ≤ 140737488355328)
    (hx : ∀ t ∈ ts, t.texts.length ≤ 1000000000 ∧ ∀ x ∈ t.texts, x.length ≤ 140737488355328) (hn : ∀ t ∈ ts, t.nums.length ≤ 1000000000 ∧ t.text.length ≤ 1000000000) :
    Calls Try.prog 41 #[v] w fun e w' => e = .returned (.bool (validB ts)) ∧ Below w.heap.size w w' := by
  have hv0 := hid hv
  obtain ⟨a, cap, g, off, rfl, h2, h3⟩ := hv
  clear h3
  replace hl := hid hl
  go_enter Try.func41, Try.ntmps41
  go_wp2
  go_loopw [3] (fun i wr => ∃ k : Nat, k ≤ ts.length ∧ i = .int .i64 k ∧ (ts.take k).all okCV = true ∧ Below w.heap.size w wr) (fun i _ => ts.length - (intOf i).toNat)
  case atStart => exact ⟨0, Nat.zero_le _, rfl, rfl, Below.refl _ _⟩
  case round =>
    obtain ⟨k, hk, rfl, hall, hB⟩ := hrel
    replace hall := hid hall
    by_cases hlt : k < ts.length
    · obtain ⟨t, ht⟩ : ∃ t, ts[k]? = some t := ⟨_, List.getElem?_eq_getElem hlt⟩
      have hmem := List.mem_of_getElem? ht
      replace hK := hid (hK t hmem)
      replace hx := hx t hmem
      obtain ⟨hxl, hxt⟩ := hx
      replace hxt := hid hxt
      obtain ⟨hnl, htl⟩ := hn t hmem
      have hidx := fun kd W => row_idx (P := Try.prog) (t := 42) (sz := 5) (by kernel_rfl) (fun _ => by kernel_rfl) (h2 (by omega)).1 ts.length cap k hlt kd W
      have hgl : g < w.heap.size := (h2 (by omega)).2.1
      have hwr : ∃ vt vn, RowS S wr vt (t.texts.map sv) ∧ RowS S wr vn (t.nums.map iv) ∧ ∀ w2, Below wr.heap.size wr w2 → (w2.cell? ⟨g, off + k * 5, none⟩ = some (iv t.kind) ∧ w2.cell? ⟨g, off + k * 5 + 1, none⟩ = some (iv t.n) ∧ w2.cell? ⟨g, off + k * 5 + 2, none⟩ = some (sv t.text) ∧
          w2.cell? ⟨g, off + k * 5 + 3, none⟩ = some vt ∧ w2.cell? ⟨g, off + k * 5 + 4, none⟩ = some vn) := by
        obtain ⟨a', cap', g', off', e', h2', h3'⟩ := hv0.out.below hB
        simp only [Value.slice.injEq] at e'
        have e1 := (h2 (by omega)).1.symm.trans (e'.1.trans (h2' (by omega)).1)
        simp only [Option.some.injEq, Addr.mk.injEq] at e1
        obtain ⟨rfl, rfl, _⟩ := e1
        obtain ⟨vt, vn, c0, c1, c2, c3, c4, r1, r2⟩ := h3' k t ht
        refine ⟨vt, vn, r1, r2, fun w2 hb => ?_⟩
        have e : ∀ i, w2.cell? ⟨g, i, none⟩ = wr.cell? ⟨g, i, none⟩ := fun i => hb.cell (h2' (by omega)).2.1
        exact ⟨by rw [e]; exact c0, by rw [e]; exact c1, by rw [e]; exact c2, by rw [e]; exact c3, by rw [e]; exact c4⟩
      obtain ⟨vt, vn, r1, r2, hcells⟩ := hwr
      obtain ⟨an, cn, gn, on, hvn, hn2, hn3⟩ := id r2
      rw [List.length_map] at hvn hn2
      subst hvn
      have hrow := hid (fun w2 (hb : Below wr.heap.size wr w2) => (by have h9 := (r1.fr (Fr.of_below hb (fun _ => False)) (fun _ e => e.elim)).row; rw [List.length_map] at h9; exact h9 : Row w2.heap.size w2 1 vt t.texts.length (t.texts.map sv)))
      obtain ⟨c0, c1, c2, c3, c4⟩ := hcells wr (Below.refl _ _)
      replace hcells := hid hcells
      replace hn3 := hid hn3
      replace hn2 := hid hn2
      have hcur : RowKit.Hid (Below wr.heap.size wr wr) := hid (Below.refl _ _)
      have hsz : w.heap.size ≤ wr.heap.size := hB.size
      have hv1 : okCV t = false → validB ts = false := fun h => by unfold validB; rw [all_false okCV ts k t ht h]; rfl
      have hv2 : okHead t = false → validB ts = false := fun h => hv1 (by unfold okCV; rw [h]; rfl)
      have hv3 : okCV t = true → (ts.take (k + 1)).all okCV = true := fun h => all_snoc okCV ts k t ht hall.out h
      clear r1 r2 hmem hn
      replace hv1 := hid hv1
      replace hv3 := hid hv3
      replace ht := hid ht
      clear hv2
      go_upto_region 4 with (fail)
      go_cut [68] (fun c wx => c = .bool (!okHead t) ∧ RowKit.Hid (Below wr.heap.size wr wx))
      case first =>
        rcases okHead_ways t with ⟨w1, w2, w3⟩ | ⟨w1, w2, w3⟩ | ⟨hp, hq⟩
        · have e0 : (t.kind % 5 == 0) = true := by simp [w1]
          have q4 := hid w3
          clear w1 w3
          go_wp2_with (first | (go_at_call 52; refine (kind_any t.kind (iv t.n) (sv t.text) vt _ _ hK.out).mono ?_; rintro e wx ⟨rfl, hb⟩; replace hcur := hid (hcur.out.trans (hb.mono hcur.out.size)); obtain ⟨c0, c1, c2, c3, c4⟩ := hcells.out wx hcur.out; clear hb) | (go_at_call 45; refine (in_any t.n _).mono ?_; rintro e wx ⟨rfl, rfl⟩) | (go_at_call 10; refine (few_any t.texts vt _ (hrow.out _ hcur.out) (by omega) hxt.out).mono ?_; rintro e wx ⟨rfl, hb⟩; replace hcur := hid (hcur.out.trans (hb.mono hcur.out.size)); obtain ⟨c0, c1, c2, c3, c4⟩ := hcells.out wx hcur.out; clear hb))
          all_goals
            go_meet
            case rel => exact ⟨by rw [q4.out]; rfl, hcur⟩
        · have e0 : (t.kind % 5 == 0) = false := by simp [w1]
          have e1 : (t.kind % 5 == 1) = true := by simp [w1]
          have q4 := hid w3
          clear w1 w3
          go_wp2_with (first | (go_at_call 52; refine (kind_any t.kind (iv t.n) (sv t.text) vt _ _ hK.out).mono ?_; rintro e wx ⟨rfl, hb⟩; replace hcur := hid (hcur.out.trans (hb.mono hcur.out.size)); obtain ⟨c0, c1, c2, c3, c4⟩ := hcells.out wx hcur.out; clear hb) | (go_at_call 45; refine (in_any t.n _).mono ?_; rintro e wx ⟨rfl, rfl⟩) | (go_at_call 10; refine (few_any t.texts vt _ (hrow.out _ hcur.out) (by omega) hxt.out).mono ?_; rintro e wx ⟨rfl, hb⟩; replace hcur := hid (hcur.out.trans (hb.mono hcur.out.size)); obtain ⟨c0, c1, c2, c3, c4⟩ := hcells.out wx hcur.out; clear hb))
          all_goals
            go_meet
            case rel => exact ⟨by rw [q4.out]; rfl, hcur⟩
        · have hp' : ((t.kind % 5 == 0) = true ∧ decide (t.n < 0) = false ∧ (t.kind % 5 == 1) = false) ∨ ((t.kind % 5 == 0) = false ∧ (t.kind % 5 == 1) = true ∧ inR t.n = true) ∨ ((t.kind % 5 == 0) = false ∧ (t.kind % 5 == 1) = false ∧ True) := by
            rcases hp with ⟨h1, h2⟩ | ⟨h1, h2⟩ | h1
            · exact Or.inl ⟨by simp [h1], by simp; omega, by simp [h1]⟩
            · exact Or.inr (Or.inl ⟨by simp [h1], by simp [h1], h2⟩)
            · exact Or.inr (Or.inr ⟨by simp; omega, by simp; omega, trivial⟩)
          clear hp
          rcases hq with ⟨q1, q4⟩ | ⟨q1, q2, q4⟩ | ⟨q1, q2, q3, q4⟩ | ⟨q1, q2, q3, q4⟩
          · replace q4 := hid q4
            rcases hp' with ⟨e0, e1, e2⟩ | ⟨e0, e1, e2⟩ | ⟨e0, e1, e2⟩
            all_goals
              go_wp2_with (first | (go_at_call 52; refine (kind_any t.kind (iv t.n) (sv t.text) vt _ _ hK.out).mono ?_; rintro e wx ⟨rfl, hb⟩; replace hcur := hid (hcur.out.trans (hb.mono hcur.out.size)); obtain ⟨c0, c1, c2, c3, c4⟩ := hcells.out wx hcur.out; clear hb) | (go_at_call 45; refine (in_any t.n _).mono ?_; rintro e wx ⟨rfl, rfl⟩) | (go_at_call 10; refine (few_any t.texts vt _ (hrow.out _ hcur.out) (by omega) hxt.out).mono ?_; rintro e wx ⟨rfl, hb⟩; replace hcur := hid (hcur.out.trans (hb.mono hcur.out.size)); obtain ⟨c0, c1, c2, c3, c4⟩ := hcells.out wx hcur.out; clear hb))
              all_goals
                go_meet
                case rel => exact ⟨by rw [q4.out]; rfl, hcur⟩
          · replace q4 := hid q4
            have hd1 : decide (10000 < (t.text.length : Int)) = true := by simp; omega
            rcases hp' with ⟨e0, e1, e2⟩ | ⟨e0, e1, e2⟩ | ⟨e0, e1, e2⟩
            all_goals
              go_wp2_with (first | (go_at_call 52; refine (kind_any t.kind (iv t.n) (sv t.text) vt _ _ hK.out).mono ?_; rintro e wx ⟨rfl, hb⟩; replace hcur := hid (hcur.out.trans (hb.mono hcur.out.size)); obtain ⟨c0, c1, c2, c3, c4⟩ := hcells.out wx hcur.out; clear hb) | (go_at_call 45; refine (in_any t.n _).mono ?_; rintro e wx ⟨rfl, rfl⟩) | (go_at_call 10; refine (few_any t.texts vt _ (hrow.out _ hcur.out) (by omega) hxt.out).mono ?_; rintro e wx ⟨rfl, hb⟩; replace hcur := hid (hcur.out.trans (hb.mono hcur.out.size)); obtain ⟨c0, c1, c2, c3, c4⟩ := hcells.out wx hcur.out; clear hb))
              all_goals
                go_meet
                case rel => exact ⟨by rw [q4.out]; rfl, hcur⟩
          · replace q4 := hid q4
            have hd1 : decide (10000 < (t.text.length : Int)) = false := by simp; omega
            have hd2 : decide (100 < (t.nums.length : Int)) = true := by simp; omega
            rcases hp' with ⟨e0, e1, e2⟩ | ⟨e0, e1, e2⟩ | ⟨e0, e1, e2⟩
            all_goals
              go_wp2_with (first | (go_at_call 52; refine (kind_any t.kind (iv t.n) (sv t.text) vt _ _ hK.out).mono ?_; rintro e wx ⟨rfl, hb⟩; replace hcur := hid (hcur.out.trans (hb.mono hcur.out.size)); obtain ⟨c0, c1, c2, c3, c4⟩ := hcells.out wx hcur.out; clear hb) | (go_at_call 45; refine (in_any t.n _).mono ?_; rintro e wx ⟨rfl, rfl⟩) | (go_at_call 10; refine (few_any t.texts vt _ (hrow.out _ hcur.out) (by omega) hxt.out).mono ?_; rintro e wx ⟨rfl, hb⟩; replace hcur := hid (hcur.out.trans (hb.mono hcur.out.size)); obtain ⟨c0, c1, c2, c3, c4⟩ := hcells.out wx hcur.out; clear hb))
              all_goals
                go_meet
                case rel => exact ⟨by rw [q4.out]; rfl, hcur⟩
          · replace q4 := hid q4
            have hd1 : decide (10000 < (t.text.length : Int)) = false := by simp; omega
            have hd2 : decide (100 < (t.nums.length : Int)) = false := by simp; omega
            rcases hp' with ⟨e0, e1, e2⟩ | ⟨e0, e1, e2⟩ | ⟨e0, e1, e2⟩
            all_goals
              go_wp2_with (first | (go_at_call 52; refine (kind_any t.kind (iv t.n) (sv t.text) vt _ _ hK.out).mono ?_; rintro e wx ⟨rfl, hb⟩; replace hcur := hid (hcur.out.trans (hb.mono hcur.out.size)); obtain ⟨c0, c1, c2, c3, c4⟩ := hcells.out wx hcur.out; clear hb) | (go_at_call 45; refine (in_any t.n _).mono ?_; rintro e wx ⟨rfl, rfl⟩) | (go_at_call 10; refine (few_any t.texts vt _ (hrow.out _ hcur.out) (by omega) hxt.out).mono ?_; rintro e wx ⟨rfl, hb⟩; replace hcur := hid (hcur.out.trans (hb.mono hcur.out.size)); obtain ⟨c0, c1, c2, c3, c4⟩ := hcells.out wx hcur.out; clear hb))
              all_goals
                go_meet
                case rel => exact ⟨by rw [q4.out]; rfl, hcur⟩
      case rest =>
        obtain ⟨h68, hcur⟩ := hcut
        obtain ⟨c0, c1, c2, c3, c4⟩ := hcells.out wc hcur.out
        have hkb : k ≤ 140737488355328 := by have := hl.out; omega
        cases hoh : okHead t with
        | false =>
          rw [hoh, Bool.not_false] at h68
          subst h68
          have hfin := hid (hv1.out (by unfold okCV; rw [hoh]; rfl))
          go_wp2
          all_goals
            go_ret
            exact ⟨ret_bool hfin.out.symm, hB.trans (hcur.out.mono hsz)⟩
        | true =>
          rw [hoh, Bool.not_true] at h68
          subst h68
          have q4 := hid hoh
          clear hoh
          go_wp2
          go_loop [4] (fun j => ∃ m : Nat, m ≤ t.nums.length ∧ j = .int .i64 m ∧ (t.nums.take m).all inR = true) (fun j => t.nums.length - (intOf j).toNat)
          case atStart => exact ⟨0, Nat.zero_le _, rfl, rfl⟩
          case round =>
            obtain ⟨m, hm, rfl, hinn⟩ := hrel
            replace hinn := hid hinn
            by_cases hml : m < t.nums.length
            · obtain ⟨x, hxm⟩ : ∃ x, t.nums[m]? = some x := ⟨_, List.getElem?_eq_getElem hml⟩
              have hnidx := fun kd W => row_idx1 (P := Try.prog) (t := 23) (by kernel_rfl) (fun _ => by kernel_rfl) (hn2.out (by omega)).1 t.nums.length cn m hml kd W
              have hncell : wc.cell? ⟨gn, on + m, none⟩ = some (iv x) := by
                rw [hcur.out.cell (hn2.out (by omega)).2.1, hn3.out m (by rw [List.length_map]; exact hml)]
                rw [List.getElem?_eq_getElem hml] at hxm
                simp only [List.getElem_map]
                rw [Option.some.inj hxm]
              cases hin : inR x with
              | false =>
                have hfin := hid (hv1.out (by unfold okCV; rw [all_false inR t.nums m x hxm hin]; simp))
                clear hxm
                go_wp2_with (go_at_call 45; refine (in_any x _).mono ?_; rintro e wy ⟨rfl, rfl⟩)
                all_goals
                  go_ret
                  exact ⟨ret_bool hfin.out.symm, hB.trans (hcur.out.mono hsz)⟩
              | true =>
                have hst := hid (all_snoc inR t.nums m x hxm hinn.out hin)
                clear hxm
                go_wp2_with (go_at_call 45; refine (in_any x _).mono ?_; rintro e wy ⟨rfl, rfl⟩)
                go_round
                case rel => exact ⟨m + 1, by omega, by go_num, hst.out⟩
                case measure => simp [intOf]; omega
            · have hok : okCV t = true := by
                have h9 := hinn.out
                rw [List.take_of_length_le (by omega)] at h9
                unfold okCV; rw [q4.out, h9]; rfl
              replace hok := hid hok
              go_wp2
              refine ⟨⟨k + 1, by omega, by go_num, hv3.out hok.out, hB.trans (hcur.out.mono hsz)⟩, by simp [intOf]; omega⟩
    · have hkl : k = ts.length := by omega
      subst hkl
      have e : validB ts = decide (ts.length ≤ 20) := by
        have h9 := hall.out
        rw [List.take_length] at h9
        unfold validB; rw [h9]; rfl
      replace e := hid e
      replace hl := hl.out
      go_wp2
      go_ret
      exact ⟨ret_bool (by rw [e.out]; simp; omega), hB⟩
end Go.Proofs.Ytmlcnmpfjallkaa
