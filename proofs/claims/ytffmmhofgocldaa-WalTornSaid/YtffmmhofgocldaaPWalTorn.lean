/- WalTorn: for every input within the statement's reading the law returns true, and its arguments read as before. -/
import Derived.Test.YtffmmhofgocldaaRows
import Derived.Test.YtffmmhofgocldaaFrame
import Derived.Test.YtffmmhofgocldaaWalL3
import Derived.Test.YtffmmhofgocldaaLaid
import Derived.Test.YtffmmhofgocldaaSized
import Derived.Test.YtffmmhofgocldaaStrCap
set_option linter.unusedVariables false
namespace Go.Proofs.Ytffmmhofgocldaa.walTorn
open Go.ChangeShapes Go.WideShapes Go.ChangeAt Go.RowKit Go.WideMaps Go.WideElems
open Go.ChangeMaps (open_string shut_string)

theorem own : ownKnob Try.prog.godebug = none := by kernel_rfl

set_option maxRecDepth 100000 in
theorem contract (H : Type) (enc : TypeId × Value → H) (W : World) (base : Nat) (args : Array Value) (ds gs : List (DataW H)) (before : List MemPlace)
    (hval : ∀ (j : Nat) t v, Try.f3.params[j]? = some t → args[j]? = some v → Value.okWide Try.prog W .any base t v)
    (hW : DataW.Whole enc Try.prog Try.f3.params.toList Rows.walTornSpec.vars false W args.toList ds gs before) (hsz : (DataW.weightsEach Try.prog (Try.f3.params.toList ++ Rows.walTornSpec.plain.varTypes Try.prog) (ds ++ gs)).all (· ≤ reachBytes) = true) :
    Calls Try.prog 3 args W fun e W' => ∃ v, e = .returned v ∧ Rows.walTornSpec.post enc Try.prog Try.f3 false true false false W args v W' := by
  have hW0 := hW
  have hlt := hW.lt
  obtain ⟨p, q, hA0, hV, rfl, hfz, hnd⟩ := hW
  have hA : DataW.TrodAll enc Try.prog W 0 (fun _ => true) true Try.f3.params.toList args.toList ds p := hA0
  rw [Try.params3] at hA hval
  obtain ⟨v0, vs0, d0, ds0, p0, q0, hargs, rfl, rfl, h0, r0⟩ := trodAll_cons hA
  obtain ⟨v1, vs1, d1, ds1, p1, q1, rfl, rfl, rfl, h1, r1⟩ := trodAll_cons r0
  obtain ⟨rfl, rfl, rfl⟩ := trodAll_nil r1
  obtain rfl : args = #[v0, v1] := by cases args; simp_all
  obtain ⟨rfl, rfl⟩ := trodVars_none hV
  have fin : ∀ W', Below W.heap.size W W' → Rows.walTornSpec.post enc Try.prog Try.f3 false true false false W #[v0, v1] (.bool true) W' := fun W' hb =>
    law_post (tb := 4) (by kernel_rfl) Try.underlying4 (by kernel_rfl) (by rw [Try.params3]; intro t ht; simp at ht; rcases ht with rfl | rfl <;> exact ⟨by kernel_rfl, of_decide_eq_true (by kernel_rfl)⟩) rfl hW0 hb rfl
  clear hA0
  rw [Try.params3] at hsz
  obtain ⟨x0, hr0, hs0, hm0, hd0⟩ := read_strs Try.underlying22 Try.underlying9 (by kernel_rfl) (base := 0) (o := 0) (okWide_slice Try.underlying22 (hval 0 22 v0 rfl rfl)) h0 (fun x hx => hlt x (by simp [hx]))
  have hc0 := strs_cap Try.underlying22 Try.underlying9 (by kernel_rfl) (base := 0) (o := 0) (okWide_slice Try.underlying22 (hval 0 22 v0 rfl rfl)) h0
  have c0 := strs_sized hsz (j := 0) (t := 22) rfl rfl Try.underlying22 (of_decide_eq_true (by kernel_rfl)) hd0
  obtain ⟨x1, rfl, rfl, rfl, wf1⟩ := open_int Try.underlying3 (hval 1 3 v1 rfl rfl) h1
  have b1 := wf64 wf1
  refine (WalTorn_walk x0 x1 _ W hr0 hc0 c0.1 c0.2 b1).mono fun e W' ⟨he, hb⟩ => ?_
  exact ⟨_, he, fin W' hb⟩


set_option maxRecDepth 100000 in
theorem lifted (os : Os) (started : os.Started) (H : Type) (enc : TypeId × Value → H) :
    ReturnsInHanded {} Try.checked os 3 .any (Rows.walTornSpec.pre6 enc Try.prog Try.f3 Rows.walTornRow.domain false) (Rows.walTornSpec.post enc Try.prog Try.f3 false true false false) := by
  refine returnsInHanded_of_change_sized (C := Try.checked) (s := Rows.walTornSpec) own started (by kernel_rfl) Try.func3
    (ChangeSpec.witness6 (enc := enc) (C := Try.checked) (s := Rows.walTornSpec) false ⟨#[], #[.slice none 0 0, .int .i64 0], []⟩ 8 (by kernel_rfl) (by kernel_rfl) (by kernel_rfl) (by kernel_rfl)) ?_
  intro W base args ds gs before hval hW _ hsz _
  exact contract H enc W base args ds gs before hval hW hsz

theorem proved : Rows.WalTornSaid :=
  OpenClaim.holds_of_wide 3 Try.f3 rfl rfl rfl rfl rfl rfl rfl ⟨rfl, rfl, rfl, rfl, rfl⟩ rfl rfl rfl rfl rfl (by kernel_rfl) Try.func3 (by kernel_rfl)
    (of_decide_eq_true (by kernel_rfl)) (by unfold Func.isWrapper; first | (rw [if_pos (by decide +kernel)]; kernel_rfl) | (rw [if_neg (by decide +kernel)]; exact ⟨rfl, rfl⟩))
    (fun os started H enc _ => lifted os started H enc)
end Go.Proofs.Ytffmmhofgocldaa.walTorn
