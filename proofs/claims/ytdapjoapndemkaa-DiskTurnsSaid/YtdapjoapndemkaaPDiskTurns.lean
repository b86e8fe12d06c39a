/- DiskTurns: for every input within the statement's reading the law returns true, and its arguments read as before. -/
import Derived.Test.YtdapjoapndemkaaRows
import Derived.Test.YtdapjoapndemkaaFrame
import Derived.Test.YtdapjoapndemkaaDiskL1
import Derived.Test.YtdapjoapndemkaaLaid
import Derived.Test.YtdapjoapndemkaaSized
set_option linter.unusedVariables false
namespace Go.Proofs.Ytdapjoapndemkaa.diskTurns
open Go.ChangeShapes Go.WideShapes Go.ChangeAt Go.RowKit Go.WideMaps Go.WideElems
open Go.ChangeMaps (open_string shut_string)

theorem own : ownKnob Try.prog.godebug = none := by kernel_rfl

theorem contract (H : Type) (enc : TypeId × Value → H) (W : World) (base : Nat) (args : Array Value) (ds gs : List (DataW H)) (before : List MemPlace)
    (hval : ∀ (j : Nat) t v, Try.f3.params[j]? = some t → args[j]? = some v → Value.okWide Try.prog W .any base t v)
    (hW : DataW.Whole enc Try.prog Try.f3.params.toList Rows.diskTurnsSpec.vars false W args.toList ds gs before) (hsz : (DataW.weightsEach Try.prog (Try.f3.params.toList ++ Rows.diskTurnsSpec.plain.varTypes Try.prog) (ds ++ gs)).all (· ≤ reachBytes) = true) :
    Calls Try.prog 3 args W fun e W' => ∃ v, e = .returned v ∧ Rows.diskTurnsSpec.post enc Try.prog Try.f3 false true false false W args v W' := by
  have hW0 := hW
  have hlt := hW.lt
  obtain ⟨p, q, hA0, hV, rfl, hfz, hnd⟩ := hW
  have hA : DataW.TrodAll enc Try.prog W 0 (fun _ => true) true Try.f3.params.toList args.toList ds p := hA0
  rw [Try.params3] at hA hval
  obtain ⟨v0, vs0, d0, ds0, p0, q0, hargs, rfl, rfl, h0, r0⟩ := trodAll_cons hA
  obtain ⟨v1, vs1, d1, ds1, p1, q1, rfl, rfl, rfl, h1, r1⟩ := trodAll_cons r0
  obtain ⟨v2, vs2, d2, ds2, p2, q2, rfl, rfl, rfl, h2, r2⟩ := trodAll_cons r1
  obtain ⟨v3, vs3, d3, ds3, p3, q3, rfl, rfl, rfl, h3, r3⟩ := trodAll_cons r2
  obtain ⟨rfl, rfl, rfl⟩ := trodAll_nil r3
  obtain rfl : args = #[v0, v1, v2, v3] := by cases args; simp_all
  obtain ⟨rfl, rfl⟩ := trodVars_none hV
  have fin : ∀ W', Below W.heap.size W W' → Rows.diskTurnsSpec.post enc Try.prog Try.f3 false true false false W #[v0, v1, v2, v3] (.bool true) W' := fun W' hb =>
    law_post (tb := 4) (by kernel_rfl) Try.underlying4 (by kernel_rfl) (by rw [Try.params3]; intro t ht; simp at ht; rcases ht with rfl | rfl | rfl | rfl <;> exact ⟨by kernel_rfl, of_decide_eq_true (by kernel_rfl)⟩) rfl hW0 hb rfl
  clear hA0
  rw [Try.params3] at hsz
  obtain ⟨b0, rfl, rfl, rfl, hm0⟩ := open_string Try.underlying9 (hval 0 9 v0 rfl rfl) h0
  obtain ⟨x0, rfl, hl0⟩ := str_list b0
  obtain ⟨b1, rfl, rfl, rfl, hm1⟩ := open_string Try.underlying9 (hval 1 9 v1 rfl rfl) h1
  obtain ⟨x1, rfl, hl1⟩ := str_list b1
  obtain ⟨x2, rfl, rfl, rfl, wf2⟩ := open_int Try.underlying3 (hval 2 3 v2 rfl rfl) h2
  obtain ⟨x3, hr3, hs3, hm3, hd3⟩ := read_ints Try.underlying22 Try.underlying3 (by kernel_rfl) (okWide_slice Try.underlying22 (hval 3 22 v3 rfl rfl)) h3 (fun x hx => hlt x (by simp [hx]))
  have c0 := str_sized hsz (j := 0) (t := 9) rfl rfl
  simp at c0
  have c1 := str_sized hsz (j := 1) (t := 9) rfl rfl
  simp at c1
  have c3 := ints_sized hsz (j := 3) (t := 22) rfl rfl Try.underlying22 (of_decide_eq_true (by kernel_rfl)) hd3
  refine (DiskTurns_walk x0 x1 x2 x3 _ W (by omega) (by omega) hr3 (by omega) (fun x hx => (wf64 (hs3 x hx)).2)).mono fun e W' ⟨he, hb⟩ => ?_
  exact ⟨_, he, fin W' hb⟩


set_option maxRecDepth 100000 in
theorem lifted (os : Os) (started : os.Started) (H : Type) (enc : TypeId × Value → H) :
    ReturnsInHanded {} Try.checked os 3 .any (Rows.diskTurnsSpec.pre6 enc Try.prog Try.f3 Rows.diskTurnsRow.domain false) (Rows.diskTurnsSpec.post enc Try.prog Try.f3 false true false false) := by
  refine returnsInHanded_of_change_sized (C := Try.checked) (s := Rows.diskTurnsSpec) own started (by kernel_rfl) Try.func3
    (ChangeSpec.witness6 (enc := enc) (C := Try.checked) (s := Rows.diskTurnsSpec) false ⟨#[], #[.string .empty, .string .empty, .int .i64 0, .slice none 0 0], []⟩ 8 (by kernel_rfl) (by kernel_rfl) (by kernel_rfl) (by kernel_rfl)) ?_
  intro W base args ds gs before hval hW _ hsz _
  exact contract H enc W base args ds gs before hval hW hsz

theorem proved : Rows.DiskTurnsSaid :=
  OpenClaim.holds_of_wide 3 Try.f3 rfl rfl rfl rfl rfl rfl rfl ⟨rfl, rfl, rfl, rfl, rfl⟩ rfl rfl rfl rfl rfl (by kernel_rfl) Try.func3 (by kernel_rfl)
    (of_decide_eq_true (by kernel_rfl)) (by unfold Func.isWrapper; first | (rw [if_pos (by decide +kernel)]; kernel_rfl) | (rw [if_neg (by decide +kernel)]; exact ⟨rfl, rfl⟩))
    (fun os started H enc _ => lifted os started H enc)
end Go.Proofs.Ytdapjoapndemkaa.diskTurns
