/- StrataSafe: for every input within the statement's reading the law returns true, and its arguments read as before. -/
import Derived.Test.YtffdpoifdahadaaGreatDoorRows
import Derived.Test.YtffdpoifdahadaaGreatDoorFrame
import Derived.Test.YtffdpoifdahadaaGreatDoorCards
import Derived.Test.YtffdpoifdahadaaGreatDoorTie
import Derived.Test.YtffdpoifdahadaaGreatDoorLaid
import Derived.SevenTiedAt
import Derived.Deep.DeepHandedRow
import Derived.Deep.DeepWitnessRowRef
import Derived.Test.YtffdpoifdahadaaGreatDoorStrL5
import Derived.Test.YtffdpoifdahadaaGreatDoorStrQv
import Derived.Test.YtffdpoifdahadaaGreatDoorSized
set_option linter.unusedVariables false
namespace Go.Proofs.YtffdpoifdahadaaGreatDoor.strataSafe
open Go.ChangeShapes Go.WideShapes Go.ChangeAt Go.RowKit Go.WideMaps Go.WideElems
open Go.ChangeMaps (open_string shut_string)

theorem own:ownKnob Tryz.prog.godebug=none:=by kernel_rfl

set_option maxRecDepth 100000 in
theorem contract (H:Type) (enc:TypeId × Value→H) (W:World) (base:Nat) (args:Array Value) (ds gs:List (DataW H)) (before:List MemPlace)
  (hval:∀ (j:Nat) t v,Tryz.f5.params[j]? = some t→args[j]? = some v→Value.okWide Tryz.prog W .any base t v)
  (hW:DataW.Whole enc Tryz.prog Tryz.f5.params.toList Rows.strataSafeSpec.vars false W args.toList ds gs before) (hL:laidMetH Tryz.prog Rows.strataSafeRow.laid W) (hk:Rows.uptoSmall H (ds++gs)=true) :
  Calls Tryz.prog 5 args W fun e W'=>∃ v,e=.returned v∧Rows.strataSafeSpec.post enc Tryz.prog Tryz.f5 false true false false W args v W':=by
 have hW0:=hW; have hlt:=hW.lt; obtain ⟨p,q,hA0,hV,rfl,hfz,hnd⟩:=hW; have hA:DataW.TrodAll enc Tryz.prog W 0 (fun _=>true) true Tryz.f5.params.toList args.toList ds p:=hA0; rw [Tryz.params5] at hA hval; obtain ⟨v0,vs0,d0,ds0,p0,q0,hargs,rfl,rfl,h0,r0⟩:=trodAll_cons hA; obtain ⟨v1,vs1,d1,ds1,p1,q1,rfl,rfl,rfl,h1,r1⟩:=trodAll_cons r0; obtain ⟨v2,vs2,d2,ds2,p2,q2,rfl,rfl,rfl,h2,r2⟩:=trodAll_cons r1; obtain ⟨rfl,rfl,rfl⟩:=trodAll_nil r2
 obtain rfl:args=#[v0,v1,v2]:=by cases args; simp_all
 obtain ⟨rfl,rfl⟩:=trodVars_none hV
 have fin:∀ W',Below W.heap.size W W'→Rows.strataSafeSpec.post enc Tryz.prog Tryz.f5 false true false false W #[v0,v1,v2] (.bool true) W':=fun W' hb =>
  law_post (tb:=4) (by kernel_rfl) Tryz.underlying4 (by kernel_rfl) (by rw [Tryz.params5]; intro t ht; simp at ht; rcases ht with rfl | rfl | rfl <;> exact ⟨by kernel_rfl,of_decide_eq_true (by kernel_rfl)⟩) rfl hW0 hb rfl
 clear hA0; simp only [List.append_nil] at hk; obtain ⟨x0,ha0,hc0,ba0,bc0,rfl,hh0,hb0,hm0⟩:=read_rule (hval 0 27 v0 rfl rfl) h0 (fun x hx=>hlt x (by simp [hx])) (by have hb:=bulks.bound hk; simp only [Rows.uptoBulkAll] at hb; omega); obtain ⟨x1,rfl,rfl,rfl,wf1⟩:=open_int Tryz.underlying3 (hval 1 3 v1 rfl rfl) h1; obtain ⟨x2,la2,lc2,rfl,hl2,hm2⟩:=read_lit (hval 2 24 v2 rfl rfl) h2 (fun x hx=>hlt x (by simp [hx])) (by have hb:=bulks.bound hk; simp only [Rows.uptoBulkAll] at hb; omega); have htab:=Go.Lib.hid (tab_of_laid (show laidMetH Tryz.prog Rows.strataOrderRow.laid W from hL))
 refine (StrataSafe_walk x0 ha0 hc0 ba0 bc0 x1 x2 la2 lc2 _ W htab hh0 hb0 hl2 (fun k hk=>hk) hm0 hm2).mono fun e W' ⟨he,hb⟩=>?_
 exact ⟨_,he,fin W' hb⟩


theorem door_met (os:Os) (args:Array Value):laidMet Tryz.prog Rows.strataSafeUptoRow.laid ((World.doorLaid Tryz.prog 13 os).forCall (fun _ _=>0) ⟨#[],args,[]⟩).memory:=by
 exact laidMet_of_run' 8 (by kernel_rfl) (by kernel_rfl)
theorem reads (os:Os) {H:Type} (enc:TypeId × Value→H):∃ places,DataW.whole enc Tryz.prog ((World.doorLaid Tryz.prog 13 os).forCall (fun _ _=>0) ⟨#[],#[.agg #[.int .i64 0,.bool false,.string .empty,.slice none 0 0,.int .i64 0,.int .i64 0,.slice none 0 0],.int .i64 0,.agg #[.int .i64 0,.bool false,.string .empty,.slice none 0 0]],[]⟩).memory Tryz.f5.params.toList Rows.strataSafeSpec.vars false (#[.agg #[.int .i64 0,.bool false,.string .empty,.slice none 0 0,.int .i64 0,.int .i64 0,.slice none 0 0],.int .i64 0,.agg #[.int .i64 0,.bool false,.string .empty,.slice none 0 0]]:Array Value).toList 8=some ([.agg [.agg [.lit (.int .i64 0),.lit (.bool false),.lit (.string []),.nil],.lit (.int .i64 0),.lit (.int .i64 0),.nil],.lit (.int .i64 0),.agg [.lit (.int .i64 0),.lit (.bool false),.lit (.string []),.nil]],[],places) :=
 ⟨[],by kernel_rfl⟩

set_option maxRecDepth 100000 in
theorem lifted (os:Os) (started:os.Started) (H:Type) (enc:TypeId × Value→H) (F:Stop.Interp) :
  ReturnsInHanded {} Tryz.checked os 5 .any ((Rows.OpenSpec.upto Rows.strataSafeSpec).preRow enc Tryz.prog Tryz.f5 Rows.strataSafeUptoRow.domain false Rows.strataSafeUptoRow.laid) (((Rows.OpenSpec.upto Rows.strataSafeSpec).at F).post enc Tryz.prog Tryz.f5 false true false false):=by
 obtain ⟨places,hx⟩:=reads os enc
 refine returnsInHanded_of_row (C:=Tryz.checked) (s:=Rows.OpenSpec.upto Rows.strataSafeSpec) own started (by kernel_rfl) Tryz.func5
  (witness_row_atRef (enc:=enc) (C:=Tryz.checked) false (World.doorLaid Tryz.prog 13 os) #[.agg #[.int .i64 0,.bool false,.string .empty,.slice none 0 0,.int .i64 0,.int .i64 0,.slice none 0 0],.int .i64 0,.agg #[.int .i64 0,.bool false,.string .empty,.slice none 0 0]] rfl (by kernel_rfl) (by kernel_rfl) (by kernel_rfl)
   (OpenSpec.preRow_of_cond 8 hx (by kernel_rfl) (fun k hk=>by cases hk; kernel_rfl) (by kernel_rfl) (door_met os _))) ?_
 intro W base args ds gs before hval hW _ hcond _ hL _ _; exact contract H enc W base args ds gs before hval hW hL (hcond _ rfl)

theorem row_holds:Rows.StrataSafeUptoSaid :=
 OpenClaim.holds_of_cond 5 Tryz.f5 rfl rfl rfl rfl rfl rfl rfl ⟨rfl,rfl,rfl,rfl,rfl⟩ rfl rfl rfl rfl rfl (by kernel_rfl) Tryz.func5 (by kernel_rfl)
  (of_decide_eq_true (by kernel_rfl)) (by unfold Func.isWrapper; first | (rw [if_pos (by decide +kernel)]; kernel_rfl) | (rw [if_neg (by decide +kernel)]; exact ⟨rfl,rfl⟩))
  (fun os started H enc _ F=>by rw [OpenClaim.pre_eq_preRow]; exact lifted os started H enc F)

theorem proved:Rows.StrataSafeUptoCardSaid :=
 Claim7.holds_tied_plain_at .later [] [.data, .data, .data] true (true, "14bd85c51cb055b7c9bd7093795d89eea5861889305c7a4047b0e239512b4998") true
  row_holds (fun _ h=>by cases h) (by kernel_rfl) (fun _ h=>by cases h) strataSafeUpto_row_tie rfl ⟨rfl,rfl⟩ (by kernel_rfl) rfl
  (fun f fn hf hfn=>by
   obtain rfl : f = 5 := Option.some.inj ((show Tryz.prog.funcNamed "retroact/retroactlaw28.StrataSafe" = some 5 by kernel_rfl).symm.trans hf) |>.symm; obtain rfl : fn = Tryz.f5 := (Option.some.inj (Tryz.func5.symm.trans hfn)).symm
   exact ⟨by kernel_rfl,fun j t ht=>by
    rw [Tryz.params5] at ht
    have hm:t∈[27,3,24]:=by simpa using Array.mem_of_getElem? ht
    have hall:([27,3,24].all fun u=>!Tryz.prog.wantsStandIn u)=true:=by kernel_rfl
    exact (show Tryz.prog.wantsStandIn t=false by simpa using List.all_eq_true.1 hall t hm)⟩)
  (by kernel_rfl)
end Go.Proofs.YtffdpoifdahadaaGreatDoor.strataSafe
