/- StrataParsed: for every input within the statement's reading the law returns true, and its arguments read as before. -/
import Derived.Test.YtffdpoifdahadaaGreatDoorRows
import Derived.Test.YtffdpoifdahadaaGreatDoorFrame
import Derived.Test.YtffdpoifdahadaaGreatDoorCards
import Derived.Test.YtffdpoifdahadaaGreatDoorTie
import Derived.Test.YtffdpoifdahadaaGreatDoorLaid
import Derived.SevenTiedAt
import Derived.Deep.DeepHandedRow
import Derived.Deep.DeepWitnessRowRef
import Derived.Test.YtffdpoifdahadaaGreatDoorStrL3
import Derived.Test.YtffdpoifdahadaaGreatDoorStrTab
import Derived.Test.YtffdpoifdahadaaGreatDoorSized
set_option linter.unusedVariables false
namespace Go.Proofs.YtffdpoifdahadaaGreatDoor.strataParsed
open Go.ChangeShapes Go.WideShapes Go.ChangeAt Go.RowKit Go.WideMaps Go.WideElems
open Go.ChangeMaps (open_string shut_string)

theorem own:ownKnob Tryz.prog.godebug=none:=by kernel_rfl

set_option maxRecDepth 100000 in
theorem contract (H:Type) (enc:TypeId × Value->H) (W:World) (base:Nat) (args:Array Value) (ds gs:List (DataW H)) (before:List MemPlace)
  (hval:∀ (j:Nat) t v,Tryz.f7.params[j]? = some t->args[j]? = some v->Value.okWide Tryz.prog W .any base t v)
  (hW:DataW.Whole enc Tryz.prog Tryz.f7.params.toList Rows.strataParsedSpec.vars false W args.toList ds gs before) (hL:laidMetH Tryz.prog Rows.strataParsedRow.laid W) (hsz:(DataW.weightsEach Tryz.prog (Tryz.f7.params.toList++Rows.strataParsedSpec.plain.varTypes Tryz.prog) (ds++gs)).all (·<=reachBytes)=true) :
  Calls Tryz.prog 7 args W fun e W'=>∃ v,e=.returned v/\Rows.strataParsedSpec.post enc Tryz.prog Tryz.f7 false true false false W args v W':=by
 have hW0:=hW; have hlt:=hW.lt; obtain ⟨p,q,hA0,hV,rfl,hfz,hnd⟩:=hW; have hA:DataW.TrodAll enc Tryz.prog W 0 (fun _=>true) true Tryz.f7.params.toList args.toList ds p:=hA0; rw [Tryz.params7] at hA hval; obtain ⟨v0,vs0,d0,ds0,p0,q0,hargs,rfl,rfl,h0,r0⟩:=trodAll_cons hA; obtain ⟨rfl,rfl,rfl⟩:=trodAll_nil r0
 obtain rfl:args=#[v0]:=by cases args; simp_all
 obtain ⟨rfl,rfl⟩:=trodVars_none hV
 have fin:∀ W',Below W.heap.size W W'->Rows.strataParsedSpec.post enc Tryz.prog Tryz.f7 false true false false W #[v0] (.bool true) W':=fun W' hb =>
  wJ (tb:=4) (by kernel_rfl) Tryz.underlying4 (by kernel_rfl) (by rw [Tryz.params7]; intro t ht; simp at ht; rcases ht with rfl <;> exact ⟨by kernel_rfl,of_decide_eq_true (by kernel_rfl)⟩) rfl hW0 hb rfl
 clear hA0; rw [Tryz.params7] at hsz; obtain ⟨b0,rfl,rfl,rfl,hm0⟩:=open_string Tryz.underlying9 (hval 0 9 v0 rfl rfl) h0; obtain ⟨x0,rfl,hl0⟩:=vn b0; have htab:=Go.Lib.hid (pn (show laidMetH Tryz.prog Rows.strataOrderRow.laid W from hL))
 refine (kj x0 W htab).mono fun e W' ⟨he,hb⟩=>?_
 exact ⟨_,he,fin W' hb⟩


theorem door_met (os:Os) (args:Array Value):laidMetH Tryz.prog Rows.strataParsedRow.laid ((World.doorLaid Tryz.prog 13 os).forCall (fun _ _=>0) ⟨#[],args,[]⟩).memory:=by
 rw [MakeChecks.laidMetH_plain _ _ _ (by kernel_rfl)]; exact laidMet_of_run' 8 (by kernel_rfl) (by kernel_rfl)

set_option maxRecDepth 100000 in
theorem lifted (os:Os) (started:os.Started) (H:Type) (enc:TypeId × Value->H) :
  ReturnsInHanded {} Tryz.checked os 7 .any (fun w args=>(Rows.strataParsedSpec.pre enc Tryz.prog Tryz.f7 [] false w args/\laidMetH Tryz.prog Rows.strataParsedRow.laid w)/\sizedMet enc Tryz.prog Tryz.f7 (OpenSpec.ofChange Rows.strataParsedSpec) false w args)
   (Rows.strataParsedSpec.post enc Tryz.prog Tryz.f7 false true false false):=by
 refine returnsInHanded_of_change_and (C:=Tryz.checked) (X:=fun w _=>laidMetH Tryz.prog Rows.strataParsedRow.laid w) (fun _ _ _ hh h=>h.of_heap hh) own started (by kernel_rfl) Tryz.func7
  (ChangeSpec.witness_shaped (enc:=enc) (C:=Tryz.checked) (os:=os) (X:=fun w _=>laidMetH Tryz.prog Rows.strataParsedRow.laid w) false (World.doorLaid Tryz.prog 13 os) #[.string .empty] 8 rfl (World.shaped_of_RefB (by kernel_rfl) (by kernel_rfl)) (by kernel_rfl) (by kernel_rfl) (by kernel_rfl) (door_met os _)) ?_
 intro W base args ds gs before hval hW _ hsz hL _; exact contract H enc W base args ds gs before hval hW hL hsz

theorem row_holds:Rows.StrataParsedSaid :=
 OpenClaim.holds_of_wide 7 Tryz.f7 rfl rfl rfl rfl rfl rfl rfl ⟨rfl,rfl,rfl,rfl,rfl⟩ rfl rfl rfl rfl rfl (by kernel_rfl) Tryz.func7 (by kernel_rfl)
  (of_decide_eq_true (by kernel_rfl)) (by unfold Func.isWrapper; first | (rw [if_pos (by decide +kernel)]; kernel_rfl) | (rw [if_neg (by decide +kernel)]; exact ⟨rfl,rfl⟩))
  (fun os started H enc _=>lifted os started H enc)

theorem proved:Rows.StrataParsedCardSaid :=
 Claim7.holds_tied_plain_at .later [] [.data, .data, .data] true (true, "14bd85c51cb055b7c9bd7093795d89eea5861889305c7a4047b0e239512b4998") true
  row_holds (fun _ h=>by cases h) (by kernel_rfl) (fun _ h=>by cases h) strataParsed_row_tie rfl ⟨rfl,rfl⟩ (by kernel_rfl) rfl
  (fun f fn hf hfn=>by
   obtain rfl : f = 7 := Option.some.inj ((show Tryz.prog.funcNamed "retroact/retroactlaw28.StrataParsed" = some 7 by kernel_rfl).symm.trans hf) |>.symm; obtain rfl : fn = Tryz.f7 := (Option.some.inj (Tryz.func7.symm.trans hfn)).symm
   exact ⟨by kernel_rfl,fun j t ht=>by
    rw [Tryz.params7] at ht
    have hm:t∈[9]:=by simpa using Array.mem_of_getElem? ht
    have hall:([9].all fun u=>!Tryz.prog.wantsStandIn u)=true:=by kernel_rfl
    exact (show Tryz.prog.wantsStandIn t=false by simpa using List.all_eq_true.1 hall t hm)⟩)
  (by kernel_rfl)
end Go.Proofs.YtffdpoifdahadaaGreatDoor.strataParsed
