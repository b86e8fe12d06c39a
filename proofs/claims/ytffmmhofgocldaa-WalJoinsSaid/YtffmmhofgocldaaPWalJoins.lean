/- WalJoins: for every input within the statement's reading the law returns true, and its arguments read as before. -/
import Derived.Test.YtffmmhofgocldaaRows
import Derived.Test.YtffmmhofgocldaaFrame
import Derived.Test.YtffmmhofgocldaaWalL6
import Derived.Test.YtffmmhofgocldaaLaid
import Derived.Test.YtffmmhofgocldaaSized
import Derived.Test.YtffmmhofgocldaaStrCap
set_option linter.unusedVariables false
namespace Go.Proofs.Ytffmmhofgocldaa.walJoins
open Go.ChangeShapes Go.WideShapes Go.ChangeAt Go.RowKit Go.WideMaps Go.WideElems
open Go.ChangeMaps (open_string shut_string)

theorem own : ownKnob Try.prog.godebug = none := by kernel_rfl

set_option maxRecDepth 100000 in
theorem contract (H : Type) (enc : TypeId × Value → H) (W : World) (base : Nat) (args : Array Value) (ds gs : List (DataW H)) (before : List MemPlace)
    (hval : ∀ (j : Nat) t v, Try.f4.params[j]? = some t → args[j]? = some v → Value.okWide Try.prog W .any base t v)
    (hW : DataW.Whole enc Try.prog Try.f4.params.toList Rows.walJoinsSpec.vars false W args.toList ds gs before) (hsz : (DataW.weightsEach Try.prog (Try.f4.params.toList ++ Rows.walJoinsSpec.plain.varTypes Try.prog) (ds ++ gs)).all (· ≤ reachBytes) = true) :
    Calls Try.prog 4 args W fun e W' => ∃ v, e = .returned v ∧ Rows.walJoinsSpec.post enc Try.prog Try.f4 false true false false W args v W' := by
  have hW0 := hW
  have hlt := hW.lt
  obtain ⟨p, q, hA0, hV, rfl, hfz, hnd⟩ := hW
  have hA : DataW.TrodAll enc Try.prog W 0 (fun _ => true) true Try.f4.params.toList args.toList ds p := hA0
  rw [Try.params4] at hA hval
  obtain ⟨v0, vs0, d0, ds0, p0, q0, hargs, rfl, rfl, h0, r0⟩ := trodAll_cons hA
  obtain ⟨v1, vs1, d1, ds1, p1, q1, rfl, rfl, rfl, h1, r1⟩ := trodAll_cons r0
  obtain ⟨v2, vs2, d2, ds2, p2, q2, rfl, rfl, rfl, h2, r2⟩ := trodAll_cons r1
  obtain ⟨rfl, rfl, rfl⟩ := trodAll_nil r2
  obtain rfl : args = #[v0, v1, v2] := by cases args; simp_all
  obtain ⟨rfl, rfl⟩ := trodVars_none hV
  have fin : ∀ W', Below W.heap.size W W' → Rows.walJoinsSpec.post enc Try.prog Try.f4 false true false false W #[v0, v1, v2] (.bool true) W' := fun W' hb =>
    law_post (tb := 4) (by kernel_rfl) Try.underlying4 (by kernel_rfl) (by rw [Try.params4]; intro t ht; simp at ht; rcases ht with rfl | rfl | rfl <;> exact ⟨by kernel_rfl, of_decide_eq_true (by kernel_rfl)⟩) rfl hW0 hb rfl
  clear hA0
  rw [Try.params4] at hsz
  obtain ⟨x0, hr0, hs0, hm0, hd0⟩ := read_strs Try.underlying22 Try.underlying9 (by kernel_rfl) (base := 0) (o := 0) (okWide_slice Try.underlying22 (hval 0 22 v0 rfl rfl)) h0 (fun x hx => hlt x (by simp [hx]))
  have hc0 := strs_cap Try.underlying22 Try.underlying9 (by kernel_rfl) (base := 0) (o := 0) (okWide_slice Try.underlying22 (hval 0 22 v0 rfl rfl)) h0
  have c0 := strs_sized hsz (j := 0) (t := 22) rfl rfl Try.underlying22 (of_decide_eq_true (by kernel_rfl)) hd0
  obtain ⟨x0, hr0, hs0, hm0, hd0⟩ := read_strs Try.underlying22 Try.underlying9 (by kernel_rfl) (base := 0) (o := 0) (okWide_slice Try.underlying22 (hval 0 22 v0 rfl rfl)) h0 (fun x hx => hlt x (by simp [hx]))
  have hc0 := strs_cap Try.underlying22 Try.underlying9 (by kernel_rfl) (base := 0) (o := 0) (okWide_slice Try.underlying22 (hval 0 22 v0 rfl rfl)) h0
  have c0 := strs_sized hsz (j := 0) (t := 22) rfl rfl Try.underlying22 (of_decide_eq_true (by kernel_rfl)) hd0
  obtain ⟨x1, hr1, hs1, hm1, hd1⟩ := read_strs Try.underlying22 Try.underlying9 (by kernel_rfl) (base := 0) (o := 0) (okWide_slice Try.underlying22 (hval 1 22 v1 rfl rfl)) h1 (fun x hx => hlt x (by simp [hx]))
  have hc1 := strs_cap Try.underlying22 Try.underlying9 (by kernel_rfl) (base := 0) (o := 0) (okWide_slice Try.underlying22 (hval 1 22 v1 rfl rfl)) h1
  have c1 := strs_sized hsz (j := 1) (t := 22) rfl rfl Try.underlying22 (of_decide_eq_true (by kernel_rfl)) hd1
  obtain ⟨x1, hr1, hs1, hm1, hd1⟩ := read_strs Try.underlying22 Try.underlying9 (by kernel_rfl) (base := 0) (o := 0) (okWide_slice Try.underlying22 (hval 1 22 v1 rfl rfl)) h1 (fun x hx => hlt x (by simp [hx]))
  have hc1 := strs_cap Try.underlying22 Try.underlying9 (by kernel_rfl) (base := 0) (o := 0) (okWide_slice Try.underlying22 (hval 1 22 v1 rfl rfl)) h1
  have c1 := strs_sized hsz (j := 1) (t := 22) rfl rfl Try.underlying22 (of_decide_eq_true (by kernel_rfl)) hd1
  obtain ⟨b2, rfl, rfl, rfl, hm2⟩ := open_string Try.underlying9 (hval 2 9 v2 rfl rfl) h2
  obtain ⟨x2, rfl, hl2⟩ := str_list b2
  have c2 := str_sized hsz (j := 2) (t := 9) rfl rfl
  simp at c2
  refine (WalJoins_walk x0 x1 x2 _ _ W hr0 hr1 c0.1 c1.1 c0.2 c1.2 c2).mono fun e W' ⟨he, hb⟩ => ?_
  exact ⟨_, he, fin W' hb⟩


set_option maxRecDepth 100000 in
theorem lifted (os : Os) (started : os.Started) (H : Type) (enc : TypeId × Value → H) :
    ReturnsInHanded {} Try.checked os 4 .any (Rows.walJoinsSpec.pre6 enc Try.prog Try.f4 Rows.walJoinsRow.domain false) (Rows.walJoinsSpec.post enc Try.prog Try.f4 false true false false) := by
  refine returnsInHanded_of_change_sized (C := Try.checked) (s := Rows.walJoinsSpec) own started (by kernel_rfl) Try.func4
    (ChangeSpec.witness6 (enc := enc) (C := Try.checked) (s := Rows.walJoinsSpec) false ⟨#[], #[.slice none 0 0, .slice none 0 0, .string .empty], []⟩ 8 (by kernel_rfl) (by kernel_rfl) (by kernel_rfl) (by kernel_rfl)) ?_
  intro W base args ds gs before hval hW _ hsz _
  exact contract H enc W base args ds gs before hval hW hsz

theorem proved : Rows.WalJoinsSaid :=
  OpenClaim.holds_of_wide 4 Try.f4 rfl rfl rfl rfl rfl rfl rfl ⟨rfl, rfl, rfl, rfl, rfl⟩ rfl rfl rfl rfl rfl (by kernel_rfl) Try.func4 (by kernel_rfl)
    (of_decide_eq_true (by kernel_rfl)) (by unfold Func.isWrapper; first | (rw [if_pos (by decide +kernel)]; kernel_rfl) | (rw [if_neg (by decide +kernel)]; exact ⟨rfl, rfl⟩))
    (fun os started H enc _ => lifted os started H enc)
end Go.Proofs.Ytffmmhofgocldaa.walJoins
