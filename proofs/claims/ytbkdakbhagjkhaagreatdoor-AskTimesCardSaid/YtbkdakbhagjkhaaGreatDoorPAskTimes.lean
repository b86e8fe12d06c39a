/- AskTimes: for every input within the statement's reading the law returns true, and its arguments read as before. -/
import Derived.Test.YtbkdakbhagjkhaaGreatDoorRows
import Derived.Test.YtbkdakbhagjkhaaGreatDoorFrame
import Derived.Test.YtbkdakbhagjkhaaGreatDoorCards
import Derived.Test.YtbkdakbhagjkhaaGreatDoorTie
import Derived.Test.YtbkdakbhagjkhaaGreatDoorLaid
import Derived.SevenTiedAt
import Derived.Deep.DeepHandedRow
import Derived.Deep.DeepWitnessRowRef
import Derived.Test.YtbkdakbhagjkhaaGreatDoorAskTw
import Derived.Test.YtbkdakbhagjkhaaGreatDoorSized
set_option linter.unusedVariables false
namespace Go.Proofs.YtbkdakbhagjkhaaGreatDoor.askTimes
open Go.ChangeShapes Go.WideShapes Go.ChangeAt Go.RowKit Go.WideMaps Go.WideElems
open Go.ChangeMaps (open_string shut_string)

theorem own:ownKnob Tryz.prog.godebug=none:=by kernel_rfl

set_option maxRecDepth 100000 in
theorem contract (H:Type) (enc:TypeId × Value→H) (W:World) (base:Nat) (args:Array Value) (ds gs:List (DataW H)) (before:List MemPlace)
  (hval:∀ (j:Nat) t v,Tryz.f3.params[j]? = some t→args[j]? = some v→Value.okWide Tryz.prog W .any base t v)
  (hW:DataW.Whole enc Tryz.prog Tryz.f3.params.toList Rows.askTimesSpec.vars false W args.toList ds gs before) (hL:laidMetH Tryz.prog Rows.askTimesRow.laid W) (hsz:(DataW.weightsEach Tryz.prog (Tryz.f3.params.toList++Rows.askTimesSpec.plain.varTypes Tryz.prog) (ds++gs)).all (·≤reachBytes)=true) :
  Calls Tryz.prog 3 args W fun e W'=>∃ v,e=.returned v∧Rows.askTimesSpec.post enc Tryz.prog Tryz.f3 false true false false W args v W':=by
 have hW0:=hW; have hlt:=hW.lt; obtain ⟨p,q,hA0,hV,rfl,hfz,hnd⟩:=hW; have hA:DataW.TrodAll enc Tryz.prog W 0 (fun _=>true) true Tryz.f3.params.toList args.toList ds p:=hA0; rw [Tryz.params3] at hA hval; obtain ⟨v0,vs0,d0,ds0,p0,q0,hargs,rfl,rfl,h0,r0⟩:=trodAll_cons hA; obtain ⟨v1,vs1,d1,ds1,p1,q1,rfl,rfl,rfl,h1,r1⟩:=trodAll_cons r0; obtain ⟨v2,vs2,d2,ds2,p2,q2,rfl,rfl,rfl,h2,r2⟩:=trodAll_cons r1; obtain ⟨v3,vs3,d3,ds3,p3,q3,rfl,rfl,rfl,h3,r3⟩:=trodAll_cons r2; obtain ⟨v4,vs4,d4,ds4,p4,q4,rfl,rfl,rfl,h4,r4⟩:=trodAll_cons r3; obtain ⟨rfl,rfl,rfl⟩:=trodAll_nil r4
 obtain rfl:args=#[v0,v1,v2,v3,v4]:=by cases args; simp_all
 obtain ⟨rfl,rfl⟩:=trodVars_none hV
 have fin:∀ W',Below W.heap.size W W'→Rows.askTimesSpec.post enc Tryz.prog Tryz.f3 false true false false W #[v0,v1,v2,v3,v4] (.bool true) W':=fun W' hb =>
  law_post (tb:=4) (by kernel_rfl) Tryz.underlying4 (by kernel_rfl) (by rw [Tryz.params3]; intro t ht; simp at ht; rcases ht with rfl | rfl | rfl | rfl | rfl <;> exact ⟨by kernel_rfl,of_decide_eq_true (by kernel_rfl)⟩) rfl hW0 hb rfl
 clear hA0; rw [Tryz.params3] at hsz; obtain ⟨x0,rfl,rfl,rfl,wf0⟩:=open_int Tryz.underlying5 (hval 0 5 v0 rfl rfl) h0; obtain ⟨b1,rfl,rfl,rfl,hm1⟩:=open_string Tryz.underlying9 (hval 1 9 v1 rfl rfl) h1; obtain ⟨x1,rfl,hl1⟩:=str_list b1; obtain ⟨b2,rfl,rfl,rfl,hm2⟩:=open_string Tryz.underlying9 (hval 2 9 v2 rfl rfl) h2; obtain ⟨x2,rfl,hl2⟩:=str_list b2; obtain ⟨b3,rfl,rfl,rfl,hm3⟩:=open_string Tryz.underlying9 (hval 3 9 v3 rfl rfl) h3; obtain ⟨x3,rfl,hl3⟩:=str_list b3; obtain ⟨x4,rfl,rfl,rfl,wf4⟩:=open_int Tryz.underlying3 (hval 4 3 v4 rfl rfl) h4; have htab:=Go.Lib.hid (tab_of_laid hL); have c1:=str_sized hsz (j:=1) (t:=9) rfl rfl
 have c2:=str_sized hsz (j:=2) (t:=9) rfl rfl; have c3:=str_sized hsz (j:=3) (t:=9) rfl rfl; simp at c1 c2 c3
 have w0:0≤x0∧x0≤255:=by
  have this2:(0:Int)≤x0∧x0≤255:=by
   have h9:(decide (IntKind.u8.min≤x0) && decide (x0≤IntKind.u8.max))=true:=wf0; simp only [Bool.and_eq_true,decide_eq_true_eq] at h9; exact h9
  exact this2
 refine (AskTimes_walk x0 w0.1 w0.2 x1 x2 x3 x4 (wf64 wf4).1 (wf64 wf4).2 (by omega) (by omega) (by omega) W htab).mono fun e W' ⟨he,hb⟩=>?_
 exact ⟨_,he,fin W' hb⟩


theorem door_met (os:Os) (args:Array Value):laidMetH Tryz.prog Rows.askTimesRow.laid ((World.doorLaid Tryz.prog 13 os).forCall (fun _ _=>0) ⟨#[],args,[]⟩).memory:=by
 rw [MakeChecks.laidMetH_plain _ _ _ (by kernel_rfl)]; exact laidMet_of_run' 8 (by kernel_rfl) (by kernel_rfl)

set_option maxRecDepth 100000 in
theorem lifted (os:Os) (started:os.Started) (H:Type) (enc:TypeId × Value→H) :
  ReturnsInHanded {} Tryz.checked os 3 .any (fun w args=>(Rows.askTimesSpec.pre enc Tryz.prog Tryz.f3 [] false w args∧laidMetH Tryz.prog Rows.askTimesRow.laid w)∧sizedMet enc Tryz.prog Tryz.f3 (OpenSpec.ofChange Rows.askTimesSpec) false w args)
   (Rows.askTimesSpec.post enc Tryz.prog Tryz.f3 false true false false):=by
 refine returnsInHanded_of_change_and (C:=Tryz.checked) (X:=fun w _=>laidMetH Tryz.prog Rows.askTimesRow.laid w) (fun _ _ _ hh h=>h.of_heap hh) own started (by kernel_rfl) Tryz.func3
  (ChangeSpec.witness_shaped (enc:=enc) (C:=Tryz.checked) (os:=os) (X:=fun w _=>laidMetH Tryz.prog Rows.askTimesRow.laid w) false (World.doorLaid Tryz.prog 13 os) #[.int .u8 0,.string .empty,.string .empty,.string .empty,.int .i64 0] 8 rfl (World.shaped_of_RefB (by kernel_rfl) (by kernel_rfl)) (by kernel_rfl) (by kernel_rfl) (by kernel_rfl) (door_met os _)) ?_
 intro W base args ds gs before hval hW _ hsz hL _; exact contract H enc W base args ds gs before hval hW hL hsz

theorem row_holds:Rows.AskTimesSaid :=
 OpenClaim.holds_of_wide 3 Tryz.f3 rfl rfl rfl rfl rfl rfl rfl ⟨rfl,rfl,rfl,rfl,rfl⟩ rfl rfl rfl rfl rfl (by kernel_rfl) Tryz.func3 (by kernel_rfl)
  (of_decide_eq_true (by kernel_rfl)) (by unfold Func.isWrapper; first | (rw [if_pos (by decide +kernel)]; kernel_rfl) | (rw [if_neg (by decide +kernel)]; exact ⟨rfl,rfl⟩))
  (fun os started H enc _=>lifted os started H enc)

theorem proved:Rows.AskTimesCardSaid :=
 Claim7.holds_tied_plain_at .later [] [.data, .data, .data] true (true, "df54e0b11727230ad3ce50d36cc7800fca62e719ac84091d1f45e34facaa83f8") false
  row_holds (fun _ h=>by cases h) (by kernel_rfl) (fun _ h=>by cases h) askTimes_row_tie rfl ⟨rfl,rfl⟩ (by kernel_rfl) rfl
  (fun f fn hf hfn=>by
   obtain rfl : f = 3 := Option.some.inj ((show Tryz.prog.funcNamed "retroact/retroactlaw27.AskTimes" = some 3 by kernel_rfl).symm.trans hf) |>.symm; obtain rfl : fn = Tryz.f3 := (Option.some.inj (Tryz.func3.symm.trans hfn)).symm
   exact ⟨by kernel_rfl,fun j t ht=>by
    rw [Tryz.params3] at ht
    have hm:t∈[5,9,9,9,3]:=by simpa using Array.mem_of_getElem? ht
    have hall:([5,9,9,9,3].all fun u=>!Tryz.prog.wantsStandIn u)=true:=by kernel_rfl
    exact (show Tryz.prog.wantsStandIn t=false by simpa using List.all_eq_true.1 hall t hm)⟩)
  (by kernel_rfl)
end Go.Proofs.YtbkdakbhagjkhaaGreatDoor.askTimes
