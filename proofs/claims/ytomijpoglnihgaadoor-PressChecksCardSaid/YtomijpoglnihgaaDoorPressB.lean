/- press, plain: how long a packed string is. -/
import Derived.Test.YtomijpoglnihgaaDoorPressN
set_option linter.unusedVariables false
namespace Go.Proofs.YtomijpoglnihgaaDoor
theorem venc_one {n : Nat} (h : n < 128) : (venc n).length = 1 := by
  unfold venc; rw [vencF, if_pos h]; rfl
theorem venc_two {n : Nat} (h : n < 16384) : (venc n).length ≤ 2 := by
  unfold venc; rw [vencF]; split
  · simp
  · rw [vencF, if_pos (by omega)]; simp
theorem lit_len (s : List UInt8) {a b : Nat} (hab : a ≤ b) (hb : b ≤ s.length) (hs : s.length ≤ 8000) : (encs (litT s a b)).length ≤ 2 * (b - a) := by
  unfold litT
  split
  · have hl : ((s.take b).drop a).length = b - a := by simp; omega
    simp only [encs, Tok.enc, List.map_cons, List.map_nil, List.flatten_cons, List.flatten_nil, List.append_nil, List.length_append, hl]
    by_cases h : 2 * (b - a) < 128
    · rw [venc_one h]; omega
    · have := venc_two (n := 2 * (b - a)) (by omega); omega
  · simp [encs]
theorem encs_app (x y : List Tok) : encs (x ++ y) = encs x ++ encs y := by simp [encs]
theorem mat_len (s : List UInt8) {i : Nat} (hs : s.length ≤ 8000) (h : 4 ≤ (longF s i).1) : (encs [.mat (longF s i).1 (longF s i).2]).length ≤ 4 := by
  have h1 := longF_le s i
  have h2 := (longF_ok (s := s) (i := i) (by omega)).2.2.2
  have h3 := venc_two (n := 2 * (longF s i).1 + 1) (by omega)
  have h4 := venc_two (n := (longF s i).2) (by omega)
  simp only [encs, Tok.enc, List.map_cons, List.map_nil, List.flatten_cons, List.flatten_nil, List.append_nil, List.length_append]
  omega
theorem parse_len (s : List UInt8) (hs : s.length ≤ 8000) : ∀ f a i, a ≤ i → i ≤ s.length → (encs (parse s f a i)).length ≤ 2 * (s.length - a)
  | 0, a, i, h1, h2 => by rw [parse]; exact lit_len s (by omega) (Nat.le_refl _) hs
  | f + 1, a, i, h1, h2 => by
    rw [parse]
    split
    · exact lit_len s (by omega) (Nat.le_refl _) hs
    · split
      · exact parse_len s hs f a (i + 1) (by omega) (by omega)
      · have h3 := longF_le s i
        have h4 := lit_len s h1 h2 hs
        have h5 := mat_len s (i := i) hs (by omega)
        have h6 := parse_len s hs f (i + (longF s i).1) (i + (longF s i).1) (Nat.le_refl _) (by omega)
        rw [encs_app, encs_app, List.length_append, List.length_append]
        omega
theorem pack_len (s : List UInt8) (hs : s.length ≤ 8000) : (packF s).length ≤ 2 * s.length + 8 := by
  unfold packF
  rw [if_neg (by omega), List.length_append]
  have h1 := venc_two (n := s.length) (by omega)
  have h2 := parse_len s hs s.length 0 0 (Nat.le_refl _) (Nat.zero_le _)
  omega
/-! ### repeated strings -/
def repF (s : List UInt8) : Nat → List UInt8
  | 0 => []
  | n + 1 => repF s n ++ s
theorem repF_len (s : List UInt8) : ∀ n, (repF s n).length = n * s.length
  | 0 => by simp [repF]
  | n + 1 => by rw [repF, List.length_append, repF_len s n, Nat.succ_mul]
theorem repF_left (s : List UInt8) : ∀ n, repF s (n + 1) = s ++ repF s n
  | 0 => by simp [repF]
  | n + 1 => by
    show repF s (n + 1) ++ s = s ++ (repF s n ++ s)
    rw [repF_left s n, List.append_assoc]
theorem repF_at (s : List UInt8) (n i : Nat) (h : i + s.length < (repF s n).length) : (repF s n)[i + s.length]? = (repF s n)[i]? := by
  cases n with
  | zero => simp [repF] at h
  | succ n =>
    have h1 : (repF s (n + 1))[i + s.length]? = (repF s n)[i]? := by
      rw [repF_left, List.getElem?_append_right (by omega)]; congr 1; omega
    have hl : (repF s (n + 1)).length = (repF s n).length + s.length := by rw [repF, List.length_append]
    rw [h1, repF, List.getElem?_append_left (by omega)]
theorem rep_long (s : List UInt8) (n i : Nat) (hL : 1 ≤ s.length) (hL2 : s.length ≤ 4096) (hi : s.length ≤ i) : (longF (repF s n) i).1 = (repF s n).length - i := by
  have h1 := longF_le (repF s n) i
  have h2 : (repF s n).length - i ≤ mlen (repF s n) i s.length := by
    rcases Nat.lt_or_ge (mlen (repF s n) i s.length) ((repF s n).length - i) with h | h
    · exfalso
      have := cp_end ((repF s n).drop i) ((repF s n).drop (i - s.length)) (by rw [List.length_drop]; exact h) (by rw [List.length_drop]; unfold mlen at h; omega)
      apply this
      rw [List.getElem?_drop, List.getElem?_drop]
      unfold mlen at h
      generalize cp ((repF s n).drop i) ((repF s n).drop (i - s.length)) = c at *
      have := repF_at s n (i - s.length + c) (by omega)
      rw [show i + c = i - s.length + c + s.length by omega]
      exact this
    · exact h
  have h3 := scan_ge (repF s n) i (min i 4096) s.length hL (by omega)
  have : (scan (repF s n) i (min i 4096)).1 = (longF (repF s n) i).1 := rfl
  omega
theorem rep_after (s : List UInt8) (n : Nat) (hL : 1 ≤ s.length) (hL2 : s.length ≤ 4096) (hN : (repF s n).length ≤ 4000) (f a i : Nat) (ha : a ≤ i) (hi : i ≤ (repF s n).length) (hLi : s.length ≤ i) (hf : (repF s n).length - i ≤ f) : (encs (parse (repF s n) f a i)).length ≤ 2 * (i - a) + 6 := by
  have hlo := rep_long s n i hL hL2 hLi
  generalize repF s n = t at *
  cases f with
  | zero => rw [parse]; have := lit_len t (a := a) (b := t.length) (by omega) (Nat.le_refl _) (by omega); omega
  | succ f =>
    rw [parse]
    split
    · have := lit_len t (a := a) (b := t.length) (by omega) (Nat.le_refl _) (by omega); omega
    · split
      · have := parse_len t (by omega) f a (i + 1) (by omega) (by omega); omega
      · have h4 := lit_len t ha hi (by omega)
        have h5 := mat_len t (i := i) (by omega) (by omega)
        have h6 := parse_len t (by omega) f (i + (longF t i).1) (i + (longF t i).1) (Nat.le_refl _) (by omega)
        rw [encs_app, encs_app, List.length_append, List.length_append]
        omega
theorem rep_len (s : List UInt8) (n : Nat) (hL : 1 ≤ s.length) (hL2 : s.length ≤ 4096) (hN : (repF s n).length ≤ 4000) (hn : s.length ≤ (repF s n).length) : ∀ f a i, a ≤ i → i ≤ s.length → (repF s n).length - i ≤ f → (encs (parse (repF s n) f a i)).length ≤ 2 * (s.length - a) + 12
  | 0, a, i, h1, h2, hf => by rw [parse]; have := lit_len (repF s n) (a := a) (b := (repF s n).length) (by omega) (Nat.le_refl _) (by omega); omega
  | f + 1, a, i, h1, h2, hf => by
    by_cases he : i = s.length
    · have := rep_after s n hL hL2 hN (f + 1) a i h1 (by omega) (by omega) hf; omega
    · rw [parse]
      split
      · have := lit_len (repF s n) (a := a) (b := (repF s n).length) (by omega) (Nat.le_refl _) (by omega); omega
      · split
        · exact rep_len s n hL hL2 hN hn f a (i + 1) (by omega) (by omega) (by omega)
        · have h3 := longF_le (repF s n) i
          have h4 := lit_len (repF s n) h1 (by omega) (by omega)
          have h5 := mat_len (repF s n) (i := i) (by omega) (by omega)
          rw [encs_app, encs_app, List.length_append, List.length_append]
          by_cases hk : i + (longF (repF s n) i).1 ≤ s.length
          · have h6 := rep_len s n hL hL2 hN hn f (i + (longF (repF s n) i).1) (i + (longF (repF s n) i).1) (Nat.le_refl _) hk (by omega)
            omega
          · have h6 := rep_after s n hL hL2 hN f (i + (longF (repF s n) i).1) (i + (longF (repF s n) i).1) (Nat.le_refl _) (by omega) (by omega) (by omega)
            omega
theorem pack_rep (s : List UInt8) (n : Nat) (h1 : 4 ≤ s.length) (h2 : s.length ≤ 300) (h3 : 1 ≤ n) (h4 : n ≤ 12) : (packF (repF s n)).length ≤ 2 * s.length + 20 := by
  have hl := repF_len s n
  have hN : (repF s n).length ≤ 3600 := by rw [hl]; exact Nat.mul_le_mul h4 h2
  have hn : s.length ≤ (repF s n).length := by rw [hl]; exact Nat.le_mul_of_pos_left _ h3
  unfold packF
  rw [if_neg (by omega), List.length_append]
  have q1 := venc_two (n := (repF s n).length) (by omega)
  have q2 := rep_len s n (by omega) (by omega) (by omega) hn (repF s n).length 0 0 (Nat.le_refl _) (Nat.zero_le _) (by omega)
  omega
end Go.Proofs.YtomijpoglnihgaaDoor
