/- MatchKeys: for every input within the statement's reading the law returns true, and its arguments read as before. -/
import Derived.Test.YtnbhpicmflagcaaDoorRows
import Derived.Test.YtnbhpicmflagcaaDoorFrame
import Derived.Test.YtnbhpicmflagcaaDoorCards
import Derived.Test.YtnbhpicmflagcaaDoorTie
import Derived.Test.YtnbhpicmflagcaaDoorLaid
import Derived.SevenTiedAt
import Derived.Deep.DeepHandedRow
import Derived.Deep.DeepWitnessRowRef
import Derived.Test.YtnbhpicmflagcaaDoorMatT
import Derived.Test.YtnbhpicmflagcaaDoorMatVals
import Derived.Test.YtnbhpicmflagcaaDoorSumTab
import Derived.Test.YtnbhpicmflagcaaDoorSized
set_option linter.unusedVariables false
namespace Go.Proofs.YtnbhpicmflagcaaDoor.matchKeys
open Go.ChangeShapes Go.WideShapes Go.ChangeAt Go.RowKit Go.WideMaps Go.WideElems
open Go.ChangeMaps (open_string shut_string)

theorem own : ownKnob Tryd.prog.godebug = none := by kernel_rfl

set_option maxRecDepth 100000 in
theorem contract (H : Type) (enc : TypeId × Value → H) (W : World) (base : Nat) (args : Array Value) (ds gs : List (DataW H)) (before : List MemPlace)
    (hval : ∀ (j : Nat) t v, Tryd.f5.params[j]? = some t → args[j]? = some v → Value.okWide Tryd.prog W .any base t v)
    (hW : DataW.Whole enc Tryd.prog Tryd.f5.params.toList Rows.matchKeysSpec.vars false W args.toList ds gs before) (hL : laidMetH Tryd.prog Rows.matchKeysRow.laid W) (hk : Rows.uptoSmall H (ds ++ gs) = true) :
    Calls Tryd.prog 5 args W fun e W' => ∃ v, e = .returned v ∧ Rows.matchKeysSpec.post enc Tryd.prog Tryd.f5 false true false false W args v W' := by
  have hW0 := hW
  have hlt := hW.lt
  obtain ⟨p, q, hA0, hV, rfl, hfz, hnd⟩ := hW
  have hA : DataW.TrodAll enc Tryd.prog W 0 (fun _ => true) true Tryd.f5.params.toList args.toList ds p := hA0
  rw [Tryd.params5] at hA hval
  obtain ⟨v0, vs0, d0, ds0, p0, q0, hargs, rfl, rfl, h0, r0⟩ := trodAll_cons hA
  obtain ⟨v1, vs1, d1, ds1, p1, q1, rfl, rfl, rfl, h1, r1⟩ := trodAll_cons r0
  obtain ⟨v2, vs2, d2, ds2, p2, q2, rfl, rfl, rfl, h2, r2⟩ := trodAll_cons r1
  obtain ⟨v3, vs3, d3, ds3, p3, q3, rfl, rfl, rfl, h3, r3⟩ := trodAll_cons r2
  obtain ⟨v4, vs4, d4, ds4, p4, q4, rfl, rfl, rfl, h4, r4⟩ := trodAll_cons r3
  obtain ⟨rfl, rfl, rfl⟩ := trodAll_nil r4
  obtain rfl : args = #[v0, v1, v2, v3, v4] := by cases args; simp_all
  obtain ⟨rfl, rfl⟩ := trodVars_none hV
  have fin : ∀ W', Below W.heap.size W W' → Rows.matchKeysSpec.post enc Tryd.prog Tryd.f5 false true false false W #[v0, v1, v2, v3, v4] (.bool true) W' := fun W' hb =>
    law_post (tb := 4) (by kernel_rfl) Tryd.underlying4 (by kernel_rfl) (by rw [Tryd.params5]; intro t ht; simp at ht; rcases ht with rfl | rfl | rfl | rfl | rfl <;> exact ⟨by kernel_rfl, of_decide_eq_true (by kernel_rfl)⟩) rfl hW0 hb rfl
  clear hA0
  simp only [List.append_nil] at hk
  obtain ⟨x0, cs0, rfl, hr0, hl0⟩ := read_reqv (hval 0 25 v0 rfl rfl) h0 (fun x hx => hlt x (by simp [hx])) (by have hb := bulks.bound hk; simp only [Rows.uptoBulkAll] at hb; omega)
  obtain ⟨x1, cs1, rfl, hr1, hl1⟩ := read_reqv (hval 1 25 v1 rfl rfl) h1 (fun x hx => hlt x (by simp [hx])) (by have hb := bulks.bound hk; simp only [Rows.uptoBulkAll] at hb; omega)
  obtain ⟨b2, rfl, rfl, rfl, hm2⟩ := open_string Tryd.underlying9 (hval 2 9 v2 rfl rfl) h2
  obtain ⟨x2, rfl, hl2⟩ := str_list b2
  obtain ⟨x3, rfl, rfl, rfl, wf3⟩ := open_int Tryd.underlying3 (hval 3 3 v3 rfl rfl) h3
  obtain ⟨x4, rfl, rfl, rfl⟩ := open_bool Tryd.underlying4 (hval 4 4 v4 rfl rfl) h4
  have htab := tab_of_laid hL
  have hb2 : x2.length ≤ 1048576 := by have hb := bulks.bound hk; simp only [Rows.uptoBulkAll, Rows.uptoBulk] at hb; omega
  refine (MatchKeys_walk x0 x1 x2 x3 x4 cs0 cs1 W htab hl0 hl1 hb2 hr0 hr1).mono fun e W' ⟨he, hb⟩ => ?_
  exact ⟨_, he, fin W' hb⟩


theorem door_met (os : Os) (args : Array Value) : laidMet Tryd.prog Rows.matchKeysUptoRow.laid ((World.doorLaid Tryd.prog 13 os).forCall (fun _ _ => 0) ⟨#[], args, []⟩).memory := by
  exact laidMet_of_run' 8 (by kernel_rfl) (by kernel_rfl)
theorem reads (os : Os) {H : Type} (enc : TypeId × Value → H) : ∃ places, DataW.whole enc Tryd.prog ((World.doorLaid Tryd.prog 13 os).forCall (fun _ _ => 0) ⟨#[], #[.agg #[.string .empty, .string .empty, .slice none 0 0, .int .i64 0, .string .empty, .int .i64 0, .int .i64 0, .bool false], .agg #[.string .empty, .string .empty, .slice none 0 0, .int .i64 0, .string .empty, .int .i64 0, .int .i64 0, .bool false], .string .empty, .int .i64 0, .bool false], []⟩).memory Tryd.f5.params.toList Rows.matchKeysSpec.vars false (#[.agg #[.string .empty, .string .empty, .slice none 0 0, .int .i64 0, .string .empty, .int .i64 0, .int .i64 0, .bool false], .agg #[.string .empty, .string .empty, .slice none 0 0, .int .i64 0, .string .empty, .int .i64 0, .int .i64 0, .bool false], .string .empty, .int .i64 0, .bool false] : Array Value).toList 8 = some ([.agg [.lit (.string []), .lit (.string []), .nil, .lit (.int .i64 0), .lit (.string []), .lit (.int .i64 0), .lit (.int .i64 0), .lit (.bool false)], .agg [.lit (.string []), .lit (.string []), .nil, .lit (.int .i64 0), .lit (.string []), .lit (.int .i64 0), .lit (.int .i64 0), .lit (.bool false)], .lit (.string []), .lit (.int .i64 0), .lit (.bool false)], [], places) :=
  ⟨[], by kernel_rfl⟩

set_option maxRecDepth 100000 in
theorem lifted (os : Os) (started : os.Started) (H : Type) (enc : TypeId × Value → H) (F : Stop.Interp) :
    ReturnsInHanded {} Tryd.checked os 5 .any ((Rows.OpenSpec.upto Rows.matchKeysSpec).preRow enc Tryd.prog Tryd.f5 Rows.matchKeysUptoRow.domain false Rows.matchKeysUptoRow.laid) (((Rows.OpenSpec.upto Rows.matchKeysSpec).at F).post enc Tryd.prog Tryd.f5 false true false false) := by
  obtain ⟨places, hx⟩ := reads os enc
  refine returnsInHanded_of_row (C := Tryd.checked) (s := Rows.OpenSpec.upto Rows.matchKeysSpec) own started (by kernel_rfl) Tryd.func5
    (witness_row_atRef (enc := enc) (C := Tryd.checked) false (World.doorLaid Tryd.prog 13 os) #[.agg #[.string .empty, .string .empty, .slice none 0 0, .int .i64 0, .string .empty, .int .i64 0, .int .i64 0, .bool false], .agg #[.string .empty, .string .empty, .slice none 0 0, .int .i64 0, .string .empty, .int .i64 0, .int .i64 0, .bool false], .string .empty, .int .i64 0, .bool false] rfl (by kernel_rfl) (by kernel_rfl) (by kernel_rfl)
      (OpenSpec.preRow_of_cond 8 hx (by kernel_rfl) (fun k hk => by cases hk; kernel_rfl) (by kernel_rfl) (door_met os _))) ?_
  intro W base args ds gs before hval hW _ hcond _ hL _ _
  exact contract H enc W base args ds gs before hval hW hL (hcond _ rfl)

theorem row_holds : Rows.MatchKeysUptoSaid :=
  OpenClaim.holds_of_cond 5 Tryd.f5 rfl rfl rfl rfl rfl rfl rfl ⟨rfl, rfl, rfl, rfl, rfl⟩ rfl rfl rfl rfl rfl (by kernel_rfl) Tryd.func5 (by kernel_rfl)
    (of_decide_eq_true (by kernel_rfl)) (by unfold Func.isWrapper; first | (rw [if_pos (by decide +kernel)]; kernel_rfl) | (rw [if_neg (by decide +kernel)]; exact ⟨rfl, rfl⟩))
    (fun os started H enc _ F => by rw [OpenClaim.pre_eq_preRow]; exact lifted os started H enc F)

theorem proved : Rows.MatchKeysUptoCardSaid :=
  Claim7.holds_tied_plain_at .later [] [.data] true (true, "cef1b7368e3f7b8948bafa4c71e64333eec748176cebdd04dbbae4ca47806de2") false
    row_holds (fun _ h => by cases h) (by kernel_rfl) (fun _ h => by cases h) matchKeysUpto_row_tie rfl ⟨rfl, rfl⟩ (by kernel_rfl) rfl
    (fun f fn hf hfn => by
      obtain rfl : f = 5 := Option.some.inj ((show Tryd.prog.funcNamed "retroact/retroactlaw39.MatchKeys" = some 5 by kernel_rfl).symm.trans hf) |>.symm
      obtain rfl : fn = Tryd.f5 := (Option.some.inj (Tryd.func5.symm.trans hfn)).symm
      exact ⟨by kernel_rfl, fun j t ht => by
        rw [Tryd.params5] at ht
        have hm : t ∈ [25, 25, 9, 3, 4] := by simpa using Array.mem_of_getElem? ht
        have hall : ([25, 25, 9, 3, 4].all fun u => !Tryd.prog.wantsStandIn u) = true := by kernel_rfl
        exact (show Tryd.prog.wantsStandIn t = false by simpa using List.all_eq_true.1 hall t hm)⟩)
    (by kernel_rfl)
end Go.Proofs.YtnbhpicmflagcaaDoor.matchKeys
