/- AskBlanks: for every input within the statement's reading the law returns true, and its arguments read as before. -/
import Derived.Test.YtbkdakbhagjkhaaDoorRows
import Derived.Test.YtbkdakbhagjkhaaDoorFrame
import Derived.Test.YtbkdakbhagjkhaaDoorCards
import Derived.Test.YtbkdakbhagjkhaaDoorTie
import Derived.Test.YtbkdakbhagjkhaaDoorLaid
import Derived.SevenTiedAt
import Derived.Deep.DeepHandedRow
import Derived.Deep.DeepWitnessRowRef
import Derived.Test.YtbkdakbhagjkhaaDoorAskBk
import Derived.Test.YtbkdakbhagjkhaaDoorAskTab
import Derived.Test.YtbkdakbhagjkhaaDoorSized
set_option linter.unusedVariables false
namespace Go.Proofs.YtbkdakbhagjkhaaDoor.askBlanks
open Go.ChangeShapes Go.WideShapes Go.ChangeAt Go.RowKit Go.WideMaps Go.WideElems
open Go.ChangeMaps (open_string shut_string)

theorem own : ownKnob Tryd.prog.godebug = none:=by kernel_rfl

set_option maxRecDepth 100000 in
theorem contract (H : Type) (enc : TypeId × Value → H) (W : World) (base : Nat) (args : Array Value) (ds gs : List (DataW H)) (before : List MemPlace)
  (hval : ∀ (j : Nat) t v,Tryd.f4.params[j]? = some t → args[j]? = some v → Value.okWide Tryd.prog W .any base t v)
  (hW : DataW.Whole enc Tryd.prog Tryd.f4.params.toList Rows.askBlanksSpec.vars false W args.toList ds gs before) (hL : laidMetH Tryd.prog Rows.askBlanksRow.laid W) (hsz : (DataW.weightsEach Tryd.prog (Tryd.f4.params.toList ++ Rows.askBlanksSpec.plain.varTypes Tryd.prog) (ds ++ gs)).all (· ≤ reachBytes) = true) :
  Calls Tryd.prog 4 args W fun e W'=>∃ v,e = .returned v ∧ Rows.askBlanksSpec.post enc Tryd.prog Tryd.f4 false true false false W args v W':=by
 have hW0:=hW; have hlt:=hW.lt; obtain ⟨p,q,hA0,hV,rfl,hfz,hnd⟩:=hW; have hA : DataW.TrodAll enc Tryd.prog W 0 (fun _=>true) true Tryd.f4.params.toList args.toList ds p:=hA0; rw [Tryd.params4] at hA hval; obtain ⟨v0,vs0,d0,ds0,p0,q0,hargs,rfl,rfl,h0,r0⟩:=trodAll_cons hA; obtain ⟨v1,vs1,d1,ds1,p1,q1,rfl,rfl,rfl,h1,r1⟩:=trodAll_cons r0; obtain ⟨rfl,rfl,rfl⟩:=trodAll_nil r1
 obtain rfl : args = #[v0,v1]:=by cases args; simp_all
 obtain ⟨rfl,rfl⟩:=trodVars_none hV
 have fin : ∀ W',Below W.heap.size W W' → Rows.askBlanksSpec.post enc Tryd.prog Tryd.f4 false true false false W #[v0,v1] (.bool true) W':=fun W' hb =>
  law_post (tb:=4) (by kernel_rfl) Tryd.underlying4 (by kernel_rfl) (by rw [Tryd.params4]; intro t ht; simp at ht; rcases ht with rfl | rfl <;> exact ⟨by kernel_rfl,of_decide_eq_true (by kernel_rfl)⟩) rfl hW0 hb rfl
 clear hA0; rw [Tryd.params4] at hsz; obtain ⟨b0,rfl,rfl,rfl,hm0⟩:=open_string Tryd.underlying9 (hval 0 9 v0 rfl rfl) h0; obtain ⟨x0,rfl,hl0⟩:=str_list b0; obtain ⟨x1,rfl,rfl,rfl,wf1⟩:=open_int Tryd.underlying3 (hval 1 3 v1 rfl rfl) h1; have htab:=Go.Lib.hid (tab_of_laid hL)
 refine (AskBlanks_walk x0 x1 W htab).mono fun e W' ⟨he,hb⟩=>?_
 exact ⟨_,he,fin W' hb⟩


theorem door_met (os : Os) (args : Array Value) : laidMetH Tryd.prog Rows.askBlanksRow.laid ((World.doorLaid Tryd.prog 13 os).forCall (fun _ _=>0) ⟨#[],args,[]⟩).memory:=by
 rw [MakeChecks.laidMetH_plain _ _ _ (by kernel_rfl)]; exact laidMet_of_run' 8 (by kernel_rfl) (by kernel_rfl)

set_option maxRecDepth 100000 in
theorem lifted (os : Os) (started : os.Started) (H : Type) (enc : TypeId × Value → H) :
  ReturnsInHanded {} Tryd.checked os 4 .any (fun w args=>(Rows.askBlanksSpec.pre enc Tryd.prog Tryd.f4 [] false w args ∧ laidMetH Tryd.prog Rows.askBlanksRow.laid w) ∧ sizedMet enc Tryd.prog Tryd.f4 (OpenSpec.ofChange Rows.askBlanksSpec) false w args)
   (Rows.askBlanksSpec.post enc Tryd.prog Tryd.f4 false true false false):=by
 refine returnsInHanded_of_change_and (C:=Tryd.checked) (X:=fun w _=>laidMetH Tryd.prog Rows.askBlanksRow.laid w) (fun _ _ _ hh h=>h.of_heap hh) own started (by kernel_rfl) Tryd.func4
  (ChangeSpec.witness_shaped (enc:=enc) (C:=Tryd.checked) (os:=os) (X:=fun w _=>laidMetH Tryd.prog Rows.askBlanksRow.laid w) false (World.doorLaid Tryd.prog 13 os) #[.string .empty,.int .i64 0] 8 rfl (World.shaped_of_RefB (by kernel_rfl) (by kernel_rfl)) (by kernel_rfl) (by kernel_rfl) (by kernel_rfl) (door_met os _)) ?_
 intro W base args ds gs before hval hW _ hsz hL _; exact contract H enc W base args ds gs before hval hW hL hsz

theorem row_holds : Rows.AskBlanksSaid :=
 OpenClaim.holds_of_wide 4 Tryd.f4 rfl rfl rfl rfl rfl rfl rfl ⟨rfl,rfl,rfl,rfl,rfl⟩ rfl rfl rfl rfl rfl (by kernel_rfl) Tryd.func4 (by kernel_rfl)
  (of_decide_eq_true (by kernel_rfl)) (by unfold Func.isWrapper; first | (rw [if_pos (by decide +kernel)]; kernel_rfl) | (rw [if_neg (by decide +kernel)]; exact ⟨rfl,rfl⟩))
  (fun os started H enc _=>lifted os started H enc)

theorem proved : Rows.AskBlanksCardSaid :=
 Claim7.holds_tied_plain_at .later [] [.data, .data, .data] true (true, "2d759822ee919cf90bc872ed6d8d1ae4b738cc2a481f7b12d16c328765745afe") false
  row_holds (fun _ h=>by cases h) (by kernel_rfl) (fun _ h=>by cases h) askBlanks_row_tie rfl ⟨rfl,rfl⟩ (by kernel_rfl) rfl
  (fun f fn hf hfn=>by
   obtain rfl : f = 4 := Option.some.inj ((show Tryd.prog.funcNamed "retroact/retroactlaw27.AskBlanks" = some 4 by kernel_rfl).symm.trans hf) |>.symm; obtain rfl : fn = Tryd.f4 := (Option.some.inj (Tryd.func4.symm.trans hfn)).symm
   exact ⟨by kernel_rfl,fun j t ht=>by
    rw [Tryd.params4] at ht
    have hm : t ∈ [9,3]:=by simpa using Array.mem_of_getElem? ht
    have hall : ([9,3].all fun u=>!Tryd.prog.wantsStandIn u) = true:=by kernel_rfl
    exact (show Tryd.prog.wantsStandIn t = false by simpa using List.all_eq_true.1 hall t hm)⟩)
  (by kernel_rfl)
end Go.Proofs.YtbkdakbhagjkhaaDoor.askBlanks
