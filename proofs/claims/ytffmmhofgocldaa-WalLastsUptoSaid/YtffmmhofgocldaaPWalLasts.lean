/- WalLasts: for every input within the statement's reading the law returns true, and its arguments read as before. -/
import Derived.Test.YtffmmhofgocldaaRows
import Derived.Test.YtffmmhofgocldaaFrame
import Derived.Test.YtffmmhofgocldaaWalVals
set_option linter.unusedVariables false
namespace Go.Proofs.Ytffmmhofgocldaa.walLasts
open Go.ChangeShapes Go.WideShapes Go.ChangeAt Go.RowKit Go.WideMaps Go.WideElems
open Go.ChangeMaps (open_string shut_string)

theorem own : ownKnob Try.prog.godebug = none := by kernel_rfl

set_option maxRecDepth 100000 in
theorem contract (H : Type) (enc : TypeId × Value → H) (W : World) (base : Nat) (args : Array Value) (ds gs : List (DataW H)) (before : List MemPlace)
    (hval : ∀ (j : Nat) t v, Try.f6.params[j]? = some t → args[j]? = some v → Value.okWide Try.prog W .any base t v)
    (hW : DataW.Whole enc Try.prog Try.f6.params.toList Rows.walLastsSpec.vars false W args.toList ds gs before) (hk : Rows.uptoSmall H (ds ++ gs) = true) :
    Calls Try.prog 6 args W fun e W' => ∃ v, e = .returned v ∧ Rows.walLastsSpec.post enc Try.prog Try.f6 false true false false W args v W' := by
  have hW0 := hW
  have hlt := hW.lt
  obtain ⟨p, q, hA0, hV, rfl, hfz, hnd⟩ := hW
  have hA : DataW.TrodAll enc Try.prog W 0 (fun _ => true) true Try.f6.params.toList args.toList ds p := hA0
  rw [Try.params6] at hA hval
  obtain ⟨v0, vs0, d0, ds0, p0, q0, hargs, rfl, rfl, h0, r0⟩ := trodAll_cons hA
  obtain ⟨v1, vs1, d1, ds1, p1, q1, rfl, rfl, rfl, h1, r1⟩ := trodAll_cons r0
  obtain ⟨rfl, rfl, rfl⟩ := trodAll_nil r1
  obtain rfl : args = #[v0, v1] := by cases args; simp_all
  obtain ⟨rfl, rfl⟩ := trodVars_none hV
  have fin : ∀ W', Below W.heap.size W W' → Rows.walLastsSpec.post enc Try.prog Try.f6 false true false false W #[v0, v1] (.bool true) W' := fun W' hb =>
    law_post (tb := 4) (by kernel_rfl) Try.underlying4 (by kernel_rfl) (by rw [Try.params6]; intro t ht; simp at ht; rcases ht with rfl | rfl <;> exact ⟨by kernel_rfl, of_decide_eq_true (by kernel_rfl)⟩) rfl hW0 hb rfl
  clear hA0
  simp only [List.append_nil] at hk
  obtain ⟨x0, hr0, hk0, hl0, hs0⟩ := read_acts (okWide_slice Try.underlying46 (hval 0 46 v0 rfl rfl)) h0 (fun x hx => hlt x (by simp [hx])) (by have hb := bulks.bound hk; simp only [Rows.uptoBulkAll] at hb; omega)
  obtain ⟨x1, hr1, hs1, hm1, hd1⟩ := read_ints Try.underlying47 Try.underlying3 (by kernel_rfl) (okWide_slice Try.underlying47 (hval 1 47 v1 rfl rfl)) h1 (fun x hx => hlt x (by simp [hx]))
  have hbk := bulks.bound hk
  simp only [Rows.uptoBulkAll] at hbk
  have hq := bulks.ints_le hd1
  refine (WalLasts_walk x0 x1 _ _ W hr0 (by omega) (fun k => by have := hs0 k; omega) hk0 hr1 (by omega) (fun x hx => (wf64 (hs1 x hx)).2)).mono fun e W' ⟨he, hb⟩ => ?_
  exact ⟨_, he, fin W' hb⟩


set_option maxRecDepth 100000 in
theorem lifted (os : Os) (started : os.Started) (H : Type) (enc : TypeId × Value → H) (F : Stop.Interp) :
    ReturnsInHanded {} Try.checked os 6 .any ((Rows.OpenSpec.upto Rows.walLastsSpec).pre6 enc Try.prog Try.f6 Rows.walLastsUptoRow.domain false) (((Rows.OpenSpec.upto Rows.walLastsSpec).at F).post enc Try.prog Try.f6 false true false false) := by
  refine returnsInHanded_of_cond (C := Try.checked) (s := Rows.OpenSpec.upto Rows.walLastsSpec) (k := Rows.uptoSmall) rfl own started (by kernel_rfl) Try.func6
    (OpenSpec.witness (enc := enc) (C := Try.checked) (s := Rows.OpenSpec.upto Rows.walLastsSpec) (k := Rows.uptoSmall) rfl false ⟨#[], #[.slice none 0 0, .slice none 0 0], []⟩ 8 (by kernel_rfl) (by kernel_rfl) (by kernel_rfl)
      (x := ([.nil, .nil], [], [])) (by kernel_rfl) rfl (by kernel_rfl)) ?_
  intro W base args ds gs before hval hW _ hk _
  exact contract H enc W base args ds gs before hval hW hk

theorem proved : Rows.WalLastsUptoSaid :=
  OpenClaim.holds_of_cond 6 Try.f6 rfl rfl rfl rfl rfl rfl rfl ⟨rfl, rfl, rfl, rfl, rfl⟩ rfl rfl rfl rfl rfl (by kernel_rfl) Try.func6 (by kernel_rfl)
    (of_decide_eq_true (by kernel_rfl)) (by unfold Func.isWrapper; first | (rw [if_pos (by decide +kernel)]; kernel_rfl) | (rw [if_neg (by decide +kernel)]; exact ⟨rfl, rfl⟩))
    (fun os started H enc _ F => lifted os started H enc F)
end Go.Proofs.Ytffmmhofgocldaa.walLasts
