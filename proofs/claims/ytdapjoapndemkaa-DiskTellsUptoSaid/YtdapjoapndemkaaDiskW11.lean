/- Chapter 05 (disk): a slice of the law's acts; few. -/
import Derived.Test.YtdapjoapndemkaaDiskW10
set_option linter.unusedVariables false
namespace Go.Proofs.Ytdapjoapndemkaa
open Go.RowKit
open Go.Lib (hid)

/-- a slice of acts in memory below B -/
def ARow (B : Nat) (w : World) (v : Value) (l : List AC) : Prop :=
  ∃ a cap g off, v = .slice a l.length cap ∧ (0 < l.length → a = some ⟨g, off, none⟩ ∧ g < B) ∧ ∀ (k : Nat) (x : AC), l[k]? = some x → ∃ vk, w.cell? ⟨g, off + k * 6, none⟩ = some (iv x.op) ∧ w.cell? ⟨g, off + k * 6 + 1, none⟩ = some (iv x.f) ∧ w.cell? ⟨g, off + k * 6 + 2, none⟩ = some (iv x.g) ∧
      w.cell? ⟨g, off + k * 6 + 3, none⟩ = some (iv x.n) ∧ w.cell? ⟨g, off + k * 6 + 4, none⟩ = some (sv x.s) ∧ w.cell? ⟨g, off + k * 6 + 5, none⟩ = some vk ∧ Row B w 1 vk x.keep.length (x.keep.map iv)
theorem ARow.below {B : Nat} {w w' : World} {v : Value} {l : List AC} (h : ARow B w v l) (hb : Below B w w') : ARow B w' v l := by
  obtain ⟨a, cap, g, off, h1, h2, h3⟩ := h
  refine ⟨a, cap, g, off, h1, h2, fun k x hk => ?_⟩
  obtain ⟨vk, c0, c1, c2, c3, c4, c5, r⟩ := h3 k x hk
  have h0 : 0 < l.length := by have := (List.getElem?_eq_some_iff.1 hk).1; omega
  have e : ∀ i, w'.cell? ⟨g, i, none⟩ = w.cell? ⟨g, i, none⟩ := fun i => hb.cell (h2 h0).2
  exact ⟨vk, by rw [e]; exact c0, by rw [e]; exact c1, by rw [e]; exact c2, by rw [e]; exact c3, by rw [e]; exact c4, by rw [e]; exact c5, r.below hb (Nat.le_refl _)⟩
/-- the k-th act of a row: its address and its cells -/
theorem ARow.at {B : Nat} {w : World} {a : Option Addr} {n cap : Nat} {l : List AC} (h : ARow B w (.slice a n cap) l) {k : Nat} {x : AC} (hk : l[k]? = some x) :
    ∃ g o, (∀ kd W, (Instr.indexAt 35 (.slice a n cap) (.int kd k)).run Try.prog W = .ok (.pointer (some ⟨g, o, none⟩)) W) ∧ ∃ vk, w.cell? ⟨g, o, none⟩ = some (iv x.op) ∧ w.cell? ⟨g, o + 1, none⟩ = some (iv x.f) ∧ w.cell? ⟨g, o + 2, none⟩ = some (iv x.g) ∧
      w.cell? ⟨g, o + 3, none⟩ = some (iv x.n) ∧ w.cell? ⟨g, o + 4, none⟩ = some (sv x.s) ∧ w.cell? ⟨g, o + 5, none⟩ = some vk ∧ Row B w 1 vk x.keep.length (x.keep.map iv) := by
  obtain ⟨a', cap', g, off, e, h2, h3⟩ := h
  simp only [Value.slice.injEq] at e
  obtain ⟨rfl, rfl, rfl⟩ := e
  have hlt := (List.getElem?_eq_some_iff.1 hk).1
  exact ⟨g, off + k * 6, fun kd W => row_idx (P := Try.prog) (t := 35) (sz := 6) (by kernel_rfl) (fun _ => by kernel_rfl) (h2 (by omega)).1 _ _ k hlt kd W, h3 k x hk⟩
theorem ARow.slice {B : Nat} {w : World} {v : Value} {l : List AC} (h : ARow B w v l) : ∃ a cap, v = .slice a l.length cap := by
  obtain ⟨a, cap, _, _, e, _⟩ := h; exact ⟨a, cap, e⟩
def sumA (l : List AC) (k : Nat) : Nat := ((l.take k).map (fun x => x.s.length + x.keep.length)).sum
theorem sumA_succ (l : List AC) (k : Nat) (x : AC) (h : l[k]? = some x) : sumA l (k + 1) = sumA l k + (x.s.length + x.keep.length) := by
  unfold sumA; rw [List.take_add_one, h]; simp
def fewA (l : List AC) : Bool := decide (l.length ≤ 200) && decide (sumA l l.length ≤ 100000)
set_option maxHeartbeats 800000 in
set_option maxRecDepth 100000 in
theorem few_any (B : Nat) (l : List AC) (v : Value) (w : World) (hr : ARow B w v l) (hBw : B ≤ w.heap.size) (hl : l.length ≤ 1048576) (hs : ∀ k, sumA l k ≤ 1048576) :
    Calls Try.prog 18 #[v] w fun e w' => e = .returned (.bool (fewA l)) ∧ Below w.heap.size w w' := by
  obtain ⟨a, cap, rfl⟩ := hr.slice
  replace hr := hid hr
  replace hs := hid hs
  go_enter Try.func18, Try.ntmps18
  go_wp2
  go_loopw [3, 4] (fun s i wr => ∃ k m : Nat, k ≤ l.length ∧ i = .int .i64 k ∧ s = .int .i64 m ∧ m = sumA l k ∧ Below w.heap.size w wr) (fun _ i _ => l.length - (intOf i).toNat)
  case atStart => exact ⟨0, 0, Nat.zero_le _, rfl, rfl, rfl, Below.refl _ _⟩
  case round =>
    obtain ⟨k, m, hk, rfl, rfl, hm, hB⟩ := hrel
    have hsum := hs.out k
    by_cases hlt : k < l.length
    · obtain ⟨x, hx⟩ : ∃ x, l[k]? = some x := ⟨_, List.getElem?_eq_getElem hlt⟩
      have hfl := sumA_succ l k x hx
      have hs1 := hs.out (k + 1)
      have hrr : ARow B wr (.slice a l.length cap) l := by
        exact hr.out.below (hB.mono hBw)
      obtain ⟨g, o, hidx, vk, c0, c1, c2, c3, c4, c5, rk⟩ := hrr.at hx
      obtain ⟨ka, kc, kb, ko, rfl, -⟩ := rk
      have hw1 : IntKind.i64.wrap ((m : Int) + x.s.length) = (m : Int) + x.s.length := by rw [IntKind.wrap_i64]; omega
      have hw2 : IntKind.i64.wrap ((m : Int) + x.s.length + x.keep.length) = (m : Int) + x.s.length + x.keep.length := by rw [IntKind.wrap_i64]; omega
      replace hfl := hid hfl
      replace hm := hid hm
      clear hx
      go_wp2_with fail
      go_quiet (fail)
      go_wp2
      exact ⟨⟨k + 1, m + x.s.length + x.keep.length, by omega, by go_num, by go_num, by rw [hfl.out, ← hm.out]; omega, below_drewN hB _⟩, by simp [intOf]; omega⟩
    · have hkl : k = l.length := by omega
      subst hkl
      by_cases h2 : l.length ≤ 200
      · have hd1 : decide ((l.length : Int) ≤ 200) = true := by simp; omega
        have hm2 := hid hm
        clear hm
        go_wp2
        go_ret
        exact ⟨ret_bool (by unfold fewA; rw [← hm2.out]; simp [h2]; omega), hB⟩
      · have hd1 : decide ((l.length : Int) ≤ 200) = false := by simp; omega
        go_wp2
        go_ret
        exact ⟨ret_bool (by simp [fewA]; omega), hB⟩
end Go.Proofs.Ytdapjoapndemkaa
