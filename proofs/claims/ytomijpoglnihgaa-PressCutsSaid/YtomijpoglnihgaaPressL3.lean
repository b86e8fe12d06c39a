/- press: PressCuts. -/
import Derived.Test.YtomijpoglnihgaaPressL0
import Derived.Test.YtomijpoglnihgaaPressD
import Derived.Test.YtomijpoglnihgaaPressB
set_option linter.unusedVariables false
namespace Go.Proofs.Ytomijpoglnihgaa
open Go.RowKit
open Go.Lib (hid byteCells)
set_option maxHeartbeats 2000000 in
set_option maxRecDepth 100000 in
theorem cuts_big (s t : List UInt8) (n : Int) (w : World) (h : 4000 < s.length ∨ 100 < t.length) : Calls Try.prog 5 #[.string ⟨s.toArray⟩, .int .i64 n, .string ⟨t.toArray⟩] w fun e w' => e = .returned (.bool true) ∧ Below w.heap.size w w' := by
  by_cases hs : 4000 < s.length
  · have q1 : decide (4000 < (s.length : Int)) = true := decide_eq_true (by omega)
    go_enter Try.func5, Try.ntmps5
    go_wp2_with fail
    refine (small_any _).mono ?_
    rintro e w1 ⟨rfl, hB⟩
    clear h
    go_wp2_with fail
    go_ret
    exact ⟨rfl, hB⟩
  · have q1 : decide (4000 < (s.length : Int)) = false := decide_eq_false (by omega)
    have q2 : decide (100 < (t.length : Int)) = true := decide_eq_true (by omega)
    clear h
    go_enter Try.func5, Try.ntmps5
    go_wp2_with fail
    refine (small_any _).mono ?_
    rintro e w1 ⟨rfl, hB⟩
    go_wp2_with fail
    go_ret
    exact ⟨rfl, hB⟩
set_option maxHeartbeats 2000000 in
set_option maxRecDepth 100000 in
theorem cuts_nil (s : List UInt8) (n : Int) (w : World) (hs : s.length ≤ 4000) : Calls Try.prog 5 #[.string ⟨s.toArray⟩, .int .i64 n, .string ⟨[].toArray⟩] w fun e w' => e = .returned (.bool true) ∧ Below w.heap.size w w' := by
  have q1 : decide (4000 < (s.length : Int)) = false := decide_eq_false (by omega)
  have q2 : decide (100 < ((([] : List UInt8).length : Nat) : Int)) = false := decide_eq_false (by simp)
  have hl := pack_len s hs
  have hp := hid (fun w => pack_any s w (by omega))
  have hu0 := unp_pack_app s [] (by omega)
  rw [if_pos rfl] at hu0
  have hu : ∀ w, Calls Try.prog 10 #[.string (ByteArray.mk (packF s).toArray ++ ByteArray.mk ([] : List UInt8).toArray)] w fun e w' => e = .returned (.tuple #[.string ⟨(s : List UInt8).toArray⟩, .bool true]) ∧ Below w.heap.size w w' := fun w => by rw [ByteArray.mk_append_mk]; exact un_any (packF s ++ []) s true w (by rw [List.length_append]; simp; omega) hu0
  have hcut := pack_cut s (by omega)
  generalize packF s = P at *
  clear hu0
  replace hu := hid hu
  replace hcut := hid hcut
  go_enter Try.func5, Try.ntmps5
  go_wp2_with fail
  refine (small_any _).mono ?_
  rintro e w1 ⟨rfl, hB⟩
  replace hB := hid hB
  go_wp2_with fail
  refine (hp.out _).mono ?_
  rintro e w2 ⟨rfl, hb⟩
  replace hB := hid (hB.out.trans (hb.mono hB.out.size)); clear hb
  by_cases hn : 0 ≤ n
  · have q3 : decide (0 ≤ n) = true := decide_eq_true hn
    obtain ⟨m, rfl⟩ : ∃ m : Nat, n = (m : Int) := ⟨n.toNat, by omega⟩
    by_cases hm : m < P.length
    · have q4 : decide ((m : Int) < (P.length : Int)) = true := decide_eq_true (by omega)
      have hc := hid (fun w => un_any (P.take m) [] false w (by rw [List.length_take]; omega) (hcut.out m hm))
      have hex : (ByteArray.mk P.toArray).extract 0 m = ⟨(P.take m).toArray⟩ := by rw [ByteArray.extract_mk]; simp
      have i1 : (m : Int) ≤ (P.length : Int) := by omega
      go_wp2_with fail
      refine (hc.out _).mono ?_
      rintro e w3 ⟨rfl, hb⟩
      replace hB := hid (hB.out.trans (hb.mono hB.out.size)); clear hb
      go_wp2_with fail
      refine (hu.out _).mono ?_
      rintro e w4 ⟨rfl, hb⟩
      replace hB := hid (hB.out.trans (hb.mono hB.out.size)); clear hb
      go_wp2_with fail
      go_ret
      exact ⟨rfl, hB.out⟩
    · have q4 : decide ((m : Int) < (P.length : Int)) = false := decide_eq_false (by omega)
      go_wp2_with fail
      refine (hu.out _).mono ?_
      rintro e w4 ⟨rfl, hb⟩
      replace hB := hid (hB.out.trans (hb.mono hB.out.size)); clear hb
      go_wp2_with fail
      go_ret
      exact ⟨rfl, hB.out⟩
  · have q3 : decide (0 ≤ n) = false := decide_eq_false hn
    go_wp2_with fail
    refine (hu.out _).mono ?_
    rintro e w4 ⟨rfl, hb⟩
    replace hB := hid (hB.out.trans (hb.mono hB.out.size)); clear hb
    go_wp2_with fail
    go_ret
    exact ⟨rfl, hB.out⟩
set_option maxHeartbeats 2000000 in
set_option maxRecDepth 100000 in
theorem cuts_more (s : List UInt8) (c : UInt8) (r : List UInt8) (n : Int) (w : World) (hs : s.length ≤ 4000) (ht : (c :: r).length ≤ 100) : Calls Try.prog 5 #[.string ⟨s.toArray⟩, .int .i64 n, .string ⟨(c :: r).toArray⟩] w fun e w' => e = .returned (.bool true) ∧ Below w.heap.size w w' := by
  have q1 : decide (4000 < (s.length : Int)) = false := decide_eq_false (by omega)
  have hr1 : r.length + 1 ≤ 100 := by rw [List.length_cons] at ht; exact ht
  have q2 : decide (100 < (r.length : Int) + 1) = false := decide_eq_false (by rw [List.length_cons] at ht; omega)
  have hl := pack_len s hs
  have hp := hid (fun w => pack_any s w (by omega))
  have hu0 := unp_pack_app s (c :: r) (by omega)
  rw [if_neg (by simp)] at hu0
  have hu : ∀ w, Calls Try.prog 10 #[.string (ByteArray.mk (packF s).toArray ++ ByteArray.mk ((c :: r) : List UInt8).toArray)] w fun e w' => e = .returned (.tuple #[.string ⟨([] : List UInt8).toArray⟩, .bool false]) ∧ Below w.heap.size w w' := fun w => by rw [ByteArray.mk_append_mk]; exact un_any (packF s ++ (c :: r)) [] false w (by rw [List.length_append]; rw [List.length_cons] at *; omega) hu0
  have hcut := pack_cut s (by omega)
  generalize packF s = P at *
  clear hu0
  replace hu := hid hu
  replace hcut := hid hcut
  go_enter Try.func5, Try.ntmps5
  go_wp2_with fail
  refine (small_any _).mono ?_
  rintro e w1 ⟨rfl, hB⟩
  replace hB := hid hB
  go_wp2_with fail
  refine (hp.out _).mono ?_
  rintro e w2 ⟨rfl, hb⟩
  replace hB := hid (hB.out.trans (hb.mono hB.out.size)); clear hb
  by_cases hn : 0 ≤ n
  · have q3 : decide (0 ≤ n) = true := decide_eq_true hn
    obtain ⟨m, rfl⟩ : ∃ m : Nat, n = (m : Int) := ⟨n.toNat, by omega⟩
    by_cases hm : m < P.length
    · have q4 : decide ((m : Int) < (P.length : Int)) = true := decide_eq_true (by omega)
      have hc := hid (fun w => un_any (P.take m) [] false w (by rw [List.length_take]; omega) (hcut.out m hm))
      have hex : (ByteArray.mk P.toArray).extract 0 m = ⟨(P.take m).toArray⟩ := by rw [ByteArray.extract_mk]; simp
      have i1 : (m : Int) ≤ (P.length : Int) := by omega
      go_wp2_with fail
      refine (hc.out _).mono ?_
      rintro e w3 ⟨rfl, hb⟩
      replace hB := hid (hB.out.trans (hb.mono hB.out.size)); clear hb
      go_wp2_with fail
      refine (hu.out _).mono ?_
      rintro e w4 ⟨rfl, hb⟩
      replace hB := hid (hB.out.trans (hb.mono hB.out.size)); clear hb
      go_wp2_with fail
      go_ret
      exact ⟨rfl, hB.out⟩
    · have q4 : decide ((m : Int) < (P.length : Int)) = false := decide_eq_false (by omega)
      go_wp2_with fail
      refine (hu.out _).mono ?_
      rintro e w4 ⟨rfl, hb⟩
      replace hB := hid (hB.out.trans (hb.mono hB.out.size)); clear hb
      go_wp2_with fail
      go_ret
      exact ⟨rfl, hB.out⟩
  · have q3 : decide (0 ≤ n) = false := decide_eq_false hn
    go_wp2_with fail
    refine (hu.out _).mono ?_
    rintro e w4 ⟨rfl, hb⟩
    replace hB := hid (hB.out.trans (hb.mono hB.out.size)); clear hb
    go_wp2_with fail
    go_ret
    exact ⟨rfl, hB.out⟩
theorem PressCuts_walk (s : List UInt8) (n : Int) (t : List UInt8) (w : World) (hn : -9223372036854775808 ≤ n ∧ n ≤ 9223372036854775807) : Calls Try.prog 5 #[.string ⟨s.toArray⟩, .int .i64 n, .string ⟨t.toArray⟩] w fun e w' => e = .returned (.bool true) ∧ Below w.heap.size w w' := by
  by_cases h : 4000 < s.length ∨ 100 < t.length
  · exact cuts_big s t n w h
  · cases t with
    | nil => exact cuts_nil s n w (by omega)
    | cons c r => exact cuts_more s c r n w (by omega) (by omega)
end Go.Proofs.Ytomijpoglnihgaa
