/- Chapter 02 (code): walks: the reference's Num; Int and Text of both. -/
import Derived.Test.YtnbhpicmflagcaaDoorCodeW1
set_option linter.unusedVariables false
namespace Go.Proofs.YtnbhpicmflagcaaDoor
open Go.RowKit
open Go.Lib (hid IsBuilder byteCells)

theorem byte_of (q : Int) (h0 : 0 ≤ q) (h : q < 256) : ∃ c : UInt8, q = c.toNat ∧ c = UInt8.ofNat q.toNat := ⟨UInt8.ofNat q.toNat, by simp; omega, rfl⟩

set_option maxHeartbeats 1000000 in
set_option maxRecDepth 100000 in
theorem rnum_pos (n : Int) (w : World) (h0 : 0 ≤ n) (h1 : n ≤ 9223372036854775807) :
    Calls Tryd.prog 38 #[.int .i64 n] w fun e w' => e = .returned (.string ⟨(venc n.toNat).toArray⟩) ∧ Below w.heap.size w w' := by
  have hd : decide (n < 0) = false := by simp; omega
  have info : (Tryd.prog.info? 5).map (fun i => (i.zero, i.size, i.bytes)) = some (some (.int .u8 0), 1, 1) := by kernel_rfl
  obtain ⟨i0, hi, hz0, hz1, hz2⟩ := info_parts info
  clear info
  go_enter Tryd.func38, Tryd.ntmps38
  go_wp2
  go_loopw [0, 3] (fun m v wr => ∃ (q : Int) (pre : List UInt8), wr.ownsRow w.heap.size 5 1 v pre.length (pre.map fun b => Value.int .u8 b.toNat) ∧ Below w.heap.size w wr ∧ m = .int .i64 q ∧ 0 ≤ q ∧ q ≤ 9223372036854775807 ∧ pre.length ≤ 8 ∧ venc n.toNat = pre ++ vencF (9 - pre.length) q.toNat ∧ q < 128 ^ (9 - pre.length)) (fun m _ _ => (intOf m).toNat)
  case atStart => exact ⟨n, [], World.ownsRow_nil _ _ _ _, Below.refl _ _, rfl, by omega, by omega, by simp, rfl, by simp; omega⟩
  case round =>
    obtain ⟨q, pre, hown, hbl, rfl, h0, h1, h2, h3, h4⟩ := hrel
    have H3 := Go.Lib.hid h3; clear h3
    have H4 := Go.Lib.hid h4; clear h4
    have hsz := hbl.size
    by_cases hq : q < 128
    · obtain ⟨c, hc, hc2⟩ := byte_of q h0 (by omega)
      have hv : venc n.toNat = pre ++ [c] := by
        rw [H3.out]
        obtain ⟨m, hm⟩ : ∃ m, 9 - pre.length = m + 1 := ⟨8 - pre.length, by omega⟩
        rw [hm, vencF, if_pos (by omega), hc2]
      have Hv := hid hv; have Hc := hid hc
      have Hx : Hid (pre.map (fun b => Value.int .u8 b.toNat) ++ [Value.int .u8 q] = (pre ++ [c]).map fun b => Value.int .u8 b.toNat) := hid (by rw [hc]; simp)
      clear hv hc hc2 H3 H4
      go_wp2_with (at_builtin; refine wpList_append_own _ rfl _ _ 53 rfl w.heap.size 5 i0 (.int .u8 0) 1 1 Tryd.underlying53 hi hz0 hz1 hz2 rfl (by decide) _ _ _ rfl (hown.alloc _) ⟨wr.heap.size, 0, none⟩ 1 1 [.int .u8 q] rfl rfl (new1 _ _ _) (one1 rfl) (by unfold maxLen; omega) (by omega) (by simp; omega) ?_; intro v' w3 hown' hgrow3 hnil3; have hcv := conv_own' (P := Tryd.prog) (src := 53) (dst := 9) (e := 5) (by kernel_rfl) (by kernel_rfl) (by kernel_rfl) Hx hown')
      go_ret
      refine ⟨?_, (hbl.alloc (by omega) _).grown hgrow3 (by simp; omega) (fun k hk => (hown.lt k hk).1)⟩
      rw [Hv.out]; rfl
    · have h7 : pre.length ≤ 7 := by
        have := H4.out
        rcases Nat.lt_or_ge pre.length 8 with h | h
        · omega
        · have e : pre.length = 8 := by omega
          rw [e] at this; simp at this; omega
      obtain ⟨c, hc, hc2⟩ := byte_of (q % 128 + 128) (by omega) (by omega)
      have Hc := hid hc; have Hc2 := hid hc2
      clear hc hc2
      go_wp2_with (at_builtin; refine wpList_append_own _ rfl _ _ 53 rfl w.heap.size 5 i0 (.int .u8 0) 1 1 Tryd.underlying53 hi hz0 hz1 hz2 rfl (by decide) _ _ _ rfl (hown.alloc _) ⟨wr.heap.size, 0, none⟩ 1 1 [.int .u8 (q % 128 + 128)] rfl rfl (new1 _ _ _) (one1 rfl) (by unfold maxLen; omega) (by omega) (by simp; omega) ?_; intro v' w3 hown' hgrow3 hnil3)
      have ho : w3.ownsRow w.heap.size 5 1 v' (pre ++ [c]).length ((pre ++ [c]).map fun b => Value.int .u8 b.toNat) := by
        rw [Hc.out] at hown'; simpa using hown'
      refine ⟨⟨q / 128, pre ++ [c], ho, (hbl.alloc (by omega) _).grown hgrow3 (by simp; omega) (fun k hk => (hown.lt k hk).1), rfl, by omega, by omega, by simp; omega, ?_, ?_⟩, by simp [intOf]; omega⟩
      · rw [H3.out]
        obtain ⟨m, hm⟩ : ∃ m, 9 - pre.length = m + 1 := ⟨8 - pre.length, by omega⟩
        have hm2 : 9 - (pre ++ [c]).length = m := by simp; omega
        rw [hm, hm2, vencF, if_neg (by omega), Hc2.out]
        have e1 : (q / 128).toNat = q.toNat / 128 := by omega
        have e2 : (q % 128 + 128).toNat = q.toNat % 128 + 128 := by omega
        simp [e1, e2]
      · have h := H4.out
        obtain ⟨m, hm⟩ : ∃ m, 9 - pre.length = m + 1 := ⟨8 - pre.length, by omega⟩
        have hm2 : 9 - (pre ++ [c]).length = m := by simp; omega
        rw [hm, Int.pow_succ] at h
        rw [hm2]
        omega

theorem rnum_neg (n : Int) (w : World) (h0 : n < 0) :
    Calls Tryd.prog 38 #[.int .i64 n] w fun e w' => e = .returned (.string ⟨#[]⟩) ∧ Below w.heap.size w w' := by
  have hd : decide (n < 0) = true := by simp; omega
  go_enter Tryd.func38, Tryd.ntmps38
  go_wp2
  go_ret
  exact ⟨rfl, Below.refl _ _⟩
theorem rnum_any (n : Int) (w : World) (h1 : n ≤ 9223372036854775807) :
    Calls Tryd.prog 38 #[.int .i64 n] w fun e w' => e = .returned (.string ⟨(nenc n).toArray⟩) ∧ Below w.heap.size w w' := by
  unfold nenc
  split
  · exact rnum_neg n w ‹_›
  · exact rnum_pos n w (by omega) h1

theorem int_any (n : Int) (w : World) :
    Calls Tryd.prog 30 #[.int .i64 n] w fun e w' => e = .returned (.string ⟨(ienc n).toArray⟩) ∧ Below w.heap.size w w' := by
  by_cases h1 : n < -1152921504606846976
  · have hv : ienc n = [] := by simp [ienc, inR]; omega
    rw [hv]
    go_enter Tryd.func30, Tryd.ntmps30
    go_wp2
    go_ret
    exact ⟨rfl, Below.refl _ _⟩
  by_cases h2 : 1152921504606846976 < n
  · have hv : ienc n = [] := by simp [ienc, inR]; omega
    rw [hv]
    go_enter Tryd.func30, Tryd.ntmps30
    go_wp2
    go_ret
    exact ⟨rfl, Below.refl _ _⟩
  by_cases h3 : n < 0
  · have hv : ienc n = venc (-2 * n - 1).toNat := by
      unfold ienc zig inR
      rw [if_pos h3, if_pos (by simp; omega)]
    rw [hv]
    go_enter Tryd.func30, Tryd.ntmps30
    go_wp2_with (go_at_call 31; refine (num_pos _ _ (by omega) (by omega)).mono ?_; rintro e w' ⟨rfl, hb⟩)
    go_ret
    exact ⟨by simp, hb⟩
  · have hv : ienc n = venc (2 * n).toNat := by
      unfold ienc zig inR
      rw [if_neg h3, if_pos (by simp; omega)]
    rw [hv]
    go_enter Tryd.func30, Tryd.ntmps30
    go_wp2_with (go_at_call 31; refine (num_pos _ _ (by omega) (by omega)).mono ?_; rintro e w' ⟨rfl, hb⟩)
    go_ret
    exact ⟨by simp, hb⟩
end Go.Proofs.YtnbhpicmflagcaaDoor
