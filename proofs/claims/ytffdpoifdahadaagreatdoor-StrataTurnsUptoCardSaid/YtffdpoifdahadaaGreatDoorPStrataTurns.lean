/- StrataTurns: for every input within the statement's reading the law returns true, and its arguments read as before. -/
import Derived.Test.YtffdpoifdahadaaGreatDoorRows
import Derived.Test.YtffdpoifdahadaaGreatDoorFrame
import Derived.Test.YtffdpoifdahadaaGreatDoorCards
import Derived.Test.YtffdpoifdahadaaGreatDoorTie
import Derived.Test.YtffdpoifdahadaaGreatDoorLaid
import Derived.SevenTiedAt
import Derived.Deep.DeepHandedRow
import Derived.Deep.DeepWitnessRowRef
import Derived.Test.YtffdpoifdahadaaGreatDoorStrL4
import Derived.Test.YtffdpoifdahadaaGreatDoorStrQv
import Derived.Test.YtffdpoifdahadaaGreatDoorSized
set_option linter.unusedVariables false
namespace Go.Proofs.YtffdpoifdahadaaGreatDoor.strataTurns
open Go.ChangeShapes Go.WideShapes Go.ChangeAt Go.RowKit Go.WideMaps Go.WideElems
open Go.ChangeMaps (open_string shut_string)

theorem own:ownKnob Tryz.prog.godebug=none:=by kernel_rfl

set_option maxRecDepth 100000 in
theorem contract (H:Type) (enc:TypeId × Value→H) (W:World) (base:Nat) (args:Array Value) (ds gs:List (DataW H)) (before:List MemPlace)
  (hval:∀ (j:Nat) t v,Tryz.f4.params[j]? = some t→args[j]? = some v→Value.okWide Tryz.prog W .any base t v)
  (hW:DataW.Whole enc Tryz.prog Tryz.f4.params.toList Rows.strataTurnsSpec.vars false W args.toList ds gs before) (hL:laidMetH Tryz.prog Rows.strataTurnsRow.laid W) (hk:Rows.uptoSmall H (ds++gs)=true) :
  Calls Tryz.prog 4 args W fun e W'=>∃ v,e=.returned v∧Rows.strataTurnsSpec.post enc Tryz.prog Tryz.f4 false true false false W args v W':=by
 have hW0:=hW; have hlt:=hW.lt; obtain ⟨p,q,hA0,hV,rfl,hfz,hnd⟩:=hW; have hA:DataW.TrodAll enc Tryz.prog W 0 (fun _=>true) true Tryz.f4.params.toList args.toList ds p:=hA0; rw [Tryz.params4] at hA hval; obtain ⟨v0,vs0,d0,ds0,p0,q0,hargs,rfl,rfl,h0,r0⟩:=trodAll_cons hA; obtain ⟨v1,vs1,d1,ds1,p1,q1,rfl,rfl,rfl,h1,r1⟩:=trodAll_cons r0; obtain ⟨v2,vs2,d2,ds2,p2,q2,rfl,rfl,rfl,h2,r2⟩:=trodAll_cons r1; obtain ⟨rfl,rfl,rfl⟩:=trodAll_nil r2
 obtain rfl:args=#[v0,v1,v2]:=by cases args; simp_all
 obtain ⟨rfl,rfl⟩:=trodVars_none hV
 have fin:∀ W',Below W.heap.size W W'→Rows.strataTurnsSpec.post enc Tryz.prog Tryz.f4 false true false false W #[v0,v1,v2] (.bool true) W':=fun W' hb =>
  law_post (tb:=4) (by kernel_rfl) Tryz.underlying4 (by kernel_rfl) (by rw [Tryz.params4]; intro t ht; simp at ht; rcases ht with rfl | rfl | rfl <;> exact ⟨by kernel_rfl,of_decide_eq_true (by kernel_rfl)⟩) rfl hW0 hb rfl
 clear hA0; simp only [List.append_nil] at hk; obtain ⟨x0,ra0,rc0,aa0,ac0,rfl,hr0,hg0,hm0⟩:=read_query (hval 0 32 v0 rfl rfl) h0 (fun x hx=>hlt x (by simp [hx])) (by have hb:=bulks.bound hk; simp only [Rows.uptoBulkAll] at hb; omega); obtain ⟨z1,rfl,rfl,rfl,wf1⟩:=open_int Tryz.underlying5 (hval 1 5 v1 rfl rfl) h1; obtain ⟨x1,hx1,rfl⟩:=u8_nat wf1; obtain ⟨z2,rfl,rfl,rfl,wf2⟩:=open_int Tryz.underlying5 (hval 2 5 v2 rfl rfl) h2; obtain ⟨x2,hx2,rfl⟩:=u8_nat wf2; have htab:=Go.Lib.hid (tab_of_laid (show laidMetH Tryz.prog Rows.strataOrderRow.laid W from hL))
 refine (StrataTurns_walk x0 ra0 rc0 aa0 ac0 _ x1 x2 W htab ⟨hr0,hg0,fun k hk=>hk⟩ hm0 hx1 hx2).mono fun e W' ⟨he,hb⟩=>?_
 exact ⟨_,he,fin W' hb⟩


theorem door_met (os:Os) (args:Array Value):laidMet Tryz.prog Rows.strataTurnsUptoRow.laid ((World.doorLaid Tryz.prog 13 os).forCall (fun _ _=>0) ⟨#[],args,[]⟩).memory:=by
 exact laidMet_of_run' 8 (by kernel_rfl) (by kernel_rfl)
theorem reads (os:Os) {H:Type} (enc:TypeId × Value→H):∃ places,DataW.whole enc Tryz.prog ((World.doorLaid Tryz.prog 13 os).forCall (fun _ _=>0) ⟨#[],#[.agg #[.slice none 0 0,.int .i64 0,.bool false,.string .empty,.slice none 0 0],.int .u8 0,.int .u8 0],[]⟩).memory Tryz.f4.params.toList Rows.strataTurnsSpec.vars false (#[.agg #[.slice none 0 0,.int .i64 0,.bool false,.string .empty,.slice none 0 0],.int .u8 0,.int .u8 0]:Array Value).toList 8=some ([.agg [.nil,.agg [.lit (.int .i64 0),.lit (.bool false),.lit (.string []),.nil]],.lit (.int .u8 0),.lit (.int .u8 0)],[],places) :=
 ⟨[],by kernel_rfl⟩

set_option maxRecDepth 100000 in
theorem lifted (os:Os) (started:os.Started) (H:Type) (enc:TypeId × Value→H) (F:Stop.Interp) :
  ReturnsInHanded {} Tryz.checked os 4 .any ((Rows.OpenSpec.upto Rows.strataTurnsSpec).preRow enc Tryz.prog Tryz.f4 Rows.strataTurnsUptoRow.domain false Rows.strataTurnsUptoRow.laid) (((Rows.OpenSpec.upto Rows.strataTurnsSpec).at F).post enc Tryz.prog Tryz.f4 false true false false):=by
 obtain ⟨places,hx⟩:=reads os enc
 refine returnsInHanded_of_row (C:=Tryz.checked) (s:=Rows.OpenSpec.upto Rows.strataTurnsSpec) own started (by kernel_rfl) Tryz.func4
  (witness_row_atRef (enc:=enc) (C:=Tryz.checked) false (World.doorLaid Tryz.prog 13 os) #[.agg #[.slice none 0 0,.int .i64 0,.bool false,.string .empty,.slice none 0 0],.int .u8 0,.int .u8 0] rfl (by kernel_rfl) (by kernel_rfl) (by kernel_rfl)
   (OpenSpec.preRow_of_cond 8 hx (by kernel_rfl) (fun k hk=>by cases hk; kernel_rfl) (by kernel_rfl) (door_met os _))) ?_
 intro W base args ds gs before hval hW _ hcond _ hL _ _; exact contract H enc W base args ds gs before hval hW hL (hcond _ rfl)

theorem row_holds:Rows.StrataTurnsUptoSaid :=
 OpenClaim.holds_of_cond 4 Tryz.f4 rfl rfl rfl rfl rfl rfl rfl ⟨rfl,rfl,rfl,rfl,rfl⟩ rfl rfl rfl rfl rfl (by kernel_rfl) Tryz.func4 (by kernel_rfl)
  (of_decide_eq_true (by kernel_rfl)) (by unfold Func.isWrapper; first | (rw [if_pos (by decide +kernel)]; kernel_rfl) | (rw [if_neg (by decide +kernel)]; exact ⟨rfl,rfl⟩))
  (fun os started H enc _ F=>by rw [OpenClaim.pre_eq_preRow]; exact lifted os started H enc F)

theorem proved:Rows.StrataTurnsUptoCardSaid :=
 Claim7.holds_tied_plain_at .later [] [.data, .data, .data] true (true, "14bd85c51cb055b7c9bd7093795d89eea5861889305c7a4047b0e239512b4998") true
  row_holds (fun _ h=>by cases h) (by kernel_rfl) (fun _ h=>by cases h) strataTurnsUpto_row_tie rfl ⟨rfl,rfl⟩ (by kernel_rfl) rfl
  (fun f fn hf hfn=>by
   obtain rfl : f = 4 := Option.some.inj ((show Tryz.prog.funcNamed "retroact/retroactlaw28.StrataTurns" = some 4 by kernel_rfl).symm.trans hf) |>.symm; obtain rfl : fn = Tryz.f4 := (Option.some.inj (Tryz.func4.symm.trans hfn)).symm
   exact ⟨by kernel_rfl,fun j t ht=>by
    rw [Tryz.params4] at ht
    have hm:t∈[32,5,5]:=by simpa using Array.mem_of_getElem? ht
    have hall:([32,5,5].all fun u=>!Tryz.prog.wantsStandIn u)=true:=by kernel_rfl
    exact (show Tryz.prog.wantsStandIn t=false by simpa using List.all_eq_true.1 hall t hm)⟩)
  (by kernel_rfl)
end Go.Proofs.YtffdpoifdahadaaGreatDoor.strataTurns
