/- sum.Crc. -/
import Derived.Test.YtomijpoglnihgaaDoorU32
import Derived.Test.YtomijpoglnihgaaDoorRel
set_option linter.unusedVariables false
namespace Go.Proofs.YtomijpoglnihgaaDoor
open Go.RowKit
open Go.Lib (hid)
def cStep (c : UInt32) : UInt32 := if c % 2 = 1 then xW (divW c 2) 2197175160 else divW c 2
set_option maxHeartbeats 1000000 in
theorem step_any (c : UInt32) (w : World) : Calls Tryd.prog 19 #[wv c] w fun e w' => e = .returned (wv (cStep c)) ∧ w = w' := by
  have e2 : (c.toNat : Int) / 2 % 4294967296 = ((divW c 2).toNat : Int) := by have := udiv32 c 2; have := u32_lt c; omega
  have hx : bits .xor .u32 ((divW c 2).toNat : Int) 2197175160 = ((xW (divW c 2) 2197175160).toNat : Int) := ux32 (divW c 2) 2197175160
  by_cases h : c % 2 = 1
  · have q : ((c.toNat : Int) % 2 == 1) = true := by
      have := congrArg UInt32.toNat h
      rw [UInt32.toNat_mod] at this
      have h3 : c.toNat % 2 = 1 := this
      simp; omega
    have hr : cStep c = xW (divW c 2) 2197175160 := if_pos h
    rw [hr]
    clear h hr
    go_enter Tryd.func19, Tryd.ntmps19
    go_wp2_with fail
    go_ret
    exact ⟨rfl, rfl⟩
  · have q : ((c.toNat : Int) % 2 == 1) = false := by
      have h3 : c.toNat % 2 ≠ 1 := fun e => h (UInt32.toNat_inj.1 (by rw [UInt32.toNat_mod]; exact e))
      simp; omega
    have hr : cStep c = divW c 2 := if_neg h
    rw [hr]
    clear h hr
    go_enter Tryd.func19, Tryd.ntmps19
    go_wp2_with fail
    go_ret
    exact ⟨rfl, rfl⟩
def itC : Nat → UInt32 → UInt32
  | 0, c => c
  | j + 1, c => cStep (itC j c)
def fourW (k : Nat) : UInt32 := itC 4 (UInt32.ofNat k)
def cHalf (c : UInt32) : UInt32 := xW (divW c 16) (fourW (c.toNat % 16))
def cByte (c : UInt32) (b : UInt8) : UInt32 := cHalf (cHalf (xW c (byteW b)))
def crcL (s : List UInt8) : UInt32 := s.foldl cByte 4294967295
def crcF (s : List UInt8) : UInt32 := nW (crcL s)
def fourT (k : Nat) : Nat → Value := fun j => wv (if j < k then fourW j else 0)
theorem crcL_succ (s : List UInt8) (k : Nat) (c : UInt8) (h : s[k]? = some c) : crcL (s.take (k + 1)) = cByte (crcL (s.take k)) c := by
  unfold crcL
  rw [List.take_add_one, h, List.foldl_append]
  rfl
set_option maxHeartbeats 2000000 in
set_option maxRecDepth 100000 in
theorem crc_any (s : List UInt8) (w : World) (hs : s.length ≤ 140737488355328) : Calls Tryd.prog 8 #[sv s] w fun e w' => e = .returned (wv (crcF s)) ∧ Below w.heap.size w w' := by
  go_enter Tryd.func8, Tryd.ntmps8
  go_wp2_with fail
  go_loopw [8] (fun i wr => ∃ k : Nat, i = .int .i64 k ∧ k ≤ 16 ∧ wr = w.alloc (.cells (arrW 16 (fourT k)) 56)) (fun i _ => 16 - (intOf i).toNat)
  case atStart => exact ⟨0, rfl, Nat.zero_le _, rfl⟩
  case round =>
    obtain ⟨k, rfl, hk, rfl⟩ := hrel
    by_cases hlt : k < 16
    · have q1 : decide ((k : Int) < 16) = true := decide_eq_true (by omega)
      have q1' : decide (k < 16) = true := decide_eq_true hlt
      have ecv := hid (show (k : Int) = ((UInt32.ofNat k).toNat : Int) by
        rw [UInt32.toNat_ofNat_of_lt' (show k < UInt32.size by unfold UInt32.size; omega)])
      have hset := arr_set (n := 16) (fourT k) k (wv (fourW k)) (fourT (k + 1)) (by unfold fourT; rw [if_pos (by omega)]) (fun j hj hne => by
        unfold fourT
        by_cases h : j < k
        · rw [if_pos h, if_pos (by omega)]
        · rw [if_neg h, if_neg (by omega)])
      have hat := arr_at (fourT k) hlt
      go_wp2_with fail
      go_loop [5, 13] (fun c j => ∃ n : Nat, c = wv (itC n (UInt32.ofNat k)) ∧ j = .int .i64 n ∧ n ≤ 4) (fun _ j => 4 - (intOf j).toNat)
      case atStart => exact ⟨0, by show _ = wv (UInt32.ofNat k); unfold wv; rw [← ecv.out], rfl, Nat.zero_le _⟩
      case round =>
        obtain ⟨n, rfl, rfl, hn⟩ := hrel
        by_cases hn4 : n < 4
        · have q2 : decide ((n : Int) < 4) = true := decide_eq_true (by omega)
          have q2' : decide (n < 4) = true := decide_eq_true hn4
          have hstep := hid (step_any (itC n (UInt32.ofNat k)))
          go_wp2_with fail
          refine (hstep.out _).mono ?_
          rintro e w1 ⟨rfl, rfl⟩
          go_wp2_with fail
          exact ⟨⟨n + 1, rfl, by go_num, by omega⟩, by simp [intOf]; omega⟩
        · have hn4' : n = 4 := by omega
          subst hn4'
          change (arrW 16 (fourT k)).setIfInBounds k (wv (itC 4 (UInt32.ofNat k))) = _ at hset
          generalize itC 4 (UInt32.ofNat k) = F at *
          go_wp2_with fail
          exact ⟨⟨k + 1, by go_num, by omega, rfl⟩, by simp [intOf]; omega⟩
    · have hk16 : k = 16 := by omega
      subst hk16
      have hft : arrW 16 (fourT 16) = arrW 16 (fun j => wv (fourW j)) := arr_congr (fun j hj => by unfold fourT; rw [if_pos hj])
      rw [hft]
      clear hft
      have hat := fun j (h : j < 16) => arr_at (fun j => wv (fourW j)) h
      generalize arrW 16 (fun j => wv (fourW j)) = Z at *
      replace hat := hid hat
      go_wp2_with fail
      go_loop [6, 24] (fun c i => ∃ k : Nat, c = wv (crcL (s.take k)) ∧ i = .int .i64 k ∧ k ≤ s.length) (fun _ i => s.length - (intOf i).toNat)
      case atStart => exact ⟨0, rfl, rfl, Nat.zero_le _⟩
      case round =>
        obtain ⟨k, rfl, rfl, hk⟩ := hrel
        by_cases hlt : k < s.length
        · have q2 : decide ((k : Int) < (s.length : Int)) = true := decide_eq_true (by omega)
          obtain ⟨b, hb⟩ : ∃ b, s[k]? = some b := ⟨_, List.getElem?_eq_getElem hlt⟩
          have hidx := idx_str (P := Tryd.prog) 9 (by kernel_rfl) s k b hb
          have hnx := crcL_succ s k b hb
          generalize crcL (s.take k) = c at *
          rw [cByte, cHalf, cHalf] at hnx
          have hx1 := ux32 c (byteW b)
          rw [← ubyte32 b] at hx1
          have eb : (b.toNat : Int) % 4294967296 = (b.toNat : Int) := by have := b.toNat_lt; omega
          generalize xW c (byteW b) = c1 at *
          have hd1 : (c1.toNat : Int) / 16 = ((divW c1 16).toNat : Int) := udiv32 c1 16
          have ha1 : bits .and .u32 (c1.toNat : Int) 15 = ((c1.toNat % 16 : Nat) : Int) := (ua32 c1 15).trans (and15 c1)
          have hx2 := ux32 (divW c1 16) (fourW (c1.toNat % 16))
          rw [← hd1] at hx2
          generalize hc2 : xW (divW c1 16) (fourW (c1.toNat % 16)) = c2 at *
          have hd2 : (c2.toNat : Int) / 16 = ((divW c2 16).toNat : Int) := udiv32 c2 16
          have ha2 : bits .and .u32 (c2.toNat : Int) 15 = ((c2.toNat % 16 : Nat) : Int) := (ua32 c2 15).trans (and15 c2)
          have hx3 := ux32 (divW c2 16) (fourW (c2.toNat % 16))
          rw [← hd2] at hx3
          generalize xW (divW c2 16) (fourW (c2.toNat % 16)) = c3 at *
          have hn1 : c1.toNat % 16 < 16 := Nat.mod_lt _ (by decide)
          have hn2 : c2.toNat % 16 < 16 := Nat.mod_lt _ (by decide)
          have ht1 := hat.out _ hn1
          have ht2 := hat.out _ hn2
          generalize c1.toNat % 16 = n1 at *
          generalize c2.toNat % 16 = n2 at *
          generalize fourW n1 = f1 at *
          generalize fourW n2 = f2 at *
          clear hd1 hd2 hc2
          replace hnx := hid hnx
          go_wp2_with fail
          exact ⟨⟨k + 1, by rw [hnx.out], by go_num, by omega⟩, by simp [intOf]; omega⟩
        · have hkl : k = s.length := by omega
          subst hkl
          rw [List.take_length]
          have hnt : bits .xor .u32 IntKind.u32.max ((crcL s).toNat : Int) = ((crcF s).toNat : Int) := un32 (crcL s)
          generalize crcL s = c at *
          go_wp2_with fail
          go_ret
          exact ⟨rfl, (Below.refl _ _).alloc (Nat.le_refl _) _⟩
end Go.Proofs.YtomijpoglnihgaaDoor
