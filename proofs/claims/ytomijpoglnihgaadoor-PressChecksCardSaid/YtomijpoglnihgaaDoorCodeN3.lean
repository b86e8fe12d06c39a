/- Chapter 02 (code): plain laws: what is encoded is decoded again; lengths. -/
import Derived.Test.YtomijpoglnihgaaDoorCodeN2
set_option linter.unusedVariables false
namespace Go.Proofs.YtomijpoglnihgaaDoor
theorem dnum_vencF : ∀ (f : Nat) (first : Bool) (n : Nat) (r : List UInt8), n < 128 ^ f → 0 < f → (first = true ∨ n ≠ 0) → dnum f first (vencF f n ++ r) = some (n, r) := by
  intro f
  induction f with
  | zero => intro _ _ _ _ h; omega
  | succ f ih =>
    intro first n r hn _ h0
    unfold vencF
    split
    · rename_i h
      have e : (UInt8.ofNat n).toNat = n := by simp; omega
      rw [List.singleton_append, dnum_last _ _ _ _ (by omega) (by rw [e]; rintro ⟨h1, h2⟩; rcases h0 with h0 | h0; rw [h0] at h2; cases h2; exact h0 h1), e]
    · rename_i h
      have e : (UInt8.ofNat (n % 128 + 128)).toNat = n % 128 + 128 := by simp; omega
      have h2 : n / 128 < 128 ^ f := by rw [Nat.div_lt_iff_lt_mul (by decide)]; rw [Nat.pow_succ] at hn; exact hn
      have hf : 0 < f := by
        rcases Nat.eq_zero_or_pos f with rfl | hf
        · simp at h2; omega
        · exact hf
      rw [List.cons_append, dnum_more _ _ _ _ (by omega), ih false (n / 128) r h2 hf (Or.inr (by omega)), e]
      simp [comb]; omega
theorem dnum_venc (n : Nat) (r : List UInt8) (h : n < 9223372036854775808) : dnum 9 true (venc n ++ r) = some (n, r) :=
  dnum_vencF 9 true n r (by simpa using h) (by decide) (Or.inl rfl)
theorem vencF_len_mono : ∀ f a b, a ≤ b → (vencF f a).length ≤ (vencF f b).length := by
  intro f
  induction f with
  | zero => intro a b _; simp [vencF]
  | succ f ih =>
    intro a b h
    unfold vencF
    split
    · split <;> simp
    · rw [if_neg (by omega)]
      have := ih (a / 128) (b / 128) (Nat.div_le_div_right h)
      simp; exact this
theorem venc_len_mono (a b : Nat) (h : a ≤ b) : (venc a).length ≤ (venc b).length := vencF_len_mono 9 a b h
theorem venc_prefix (a b : Nat) (ha : a < 9223372036854775808) (hb : b < 9223372036854775808) : (venc b).take (venc a).length = venc a ↔ a = b := by
  constructor
  · intro h
    have e : venc b = venc a ++ (venc b).drop (venc a).length := by
      conv => lhs; rw [← List.take_append_drop (venc a).length (venc b), h]
    have h1 := dnum_venc b [] hb
    rw [List.append_nil, e, dnum_venc a _ ha] at h1
    simp at h1; exact h1.1
  · rintro rfl; exact List.take_length
theorem inR_iff (n : Int) : inR n = true ↔ -1152921504606846976 ≤ n ∧ n ≤ 1152921504606846976 := by simp [inR]
theorem zig_lt (n : Int) (h : inR n = true) : (zig n).toNat < 9223372036854775808 := by
  rw [inR_iff] at h
  unfold zig; split <;> omega
theorem ienc_in (n : Int) (h : inR n = true) : ienc n = venc (zig n).toNat := if_pos h
theorem ienc_neg_mono (a b : Int) (h0 : 0 ≤ a) (h : a ≤ b) (hb : b ≤ 1152921504606846976) : (ienc (-a)).length ≤ (ienc (-b)).length ∧ ienc (-a) ≠ [] := by
  have ha' : inR (-a) = true := by rw [inR_iff]; omega
  have hb' : inR (-b) = true := by rw [inR_iff]; omega
  rw [ienc_in _ ha', ienc_in _ hb']
  refine ⟨venc_len_mono _ _ ?_, ?_⟩
  · unfold zig; split <;> split <;> omega
  · have := (venc_bound _ (zig_lt _ ha')).1
    intro e; rw [e] at this; simp at this
end Go.Proofs.YtomijpoglnihgaaDoor
