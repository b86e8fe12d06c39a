/- PlanSettles: for every input within the statement's reading the law returns true, and its arguments read as before. -/
import Derived.Test.YtfejagpjahoibaaGreatDoorRows
import Derived.Test.YtfejagpjahoibaaGreatDoorAgg
import Derived.Test.YtfejagpjahoibaaGreatDoorCards
import Derived.Test.YtfejagpjahoibaaGreatDoorTie
import Derived.SevenTiedAt
import Derived.Deep.DeepHandedRow
import Derived.Deep.DeepWitnessRowRef
import Derived.Test.YtfejagpjahoibaaGreatDoorPsW
import Derived.Test.YtfejagpjahoibaaGreatDoorPlTabS
import Derived.Test.YtfejagpjahoibaaGreatDoorSized
set_option linter.unusedVariables false
namespace Go.Proofs.YtfejagpjahoibaaGreatDoor.planSettles
open Go.ChangeShapes Go.WideShapes Go.ChangeAt Go.RowKit Go.WideMaps Go.WideElems
open Go.ChangeMaps (open_string shut_string)

theorem own:ownKnob Tryz.prog.godebug=none:=by kernel_rfl

set_option maxRecDepth 100000 in
theorem contract (H:Type) (enc:TypeId × Value→H) (W:World) (base:Nat) (args:Array Value) (ds gs:List (DataW H)) (before:List MemPlace)
  (hval:∀ (j:Nat) t v,Tryz.f3.params[j]? = some t→args[j]? = some v→Value.okWide Tryz.prog W .any base t v)
  (hW:DataW.Whole enc Tryz.prog Tryz.f3.params.toList Rows.planSettlesSpec.vars false W args.toList ds gs before) (hL:laidMetH Tryz.prog Rows.planSettlesRow.laid W) (hk:Rows.uptoSmall H (ds++gs)=true) :
  Calls Tryz.prog 3 args W fun e W'=>∃ v,e=.returned v∧Rows.planSettlesSpec.post enc Tryz.prog Tryz.f3 false true false false W args v W':=by
 have hW0:=hW; have hlt:=hW.lt; obtain ⟨p,q,hA0,hV,rfl,hfz,hnd⟩:=hW; have hA:DataW.TrodAll enc Tryz.prog W 0 (fun _=>true) true Tryz.f3.params.toList args.toList ds p:=hA0; rw [Tryz.params3] at hA hval; obtain ⟨v0,vs0,d0,ds0,p0,q0,hargs,rfl,rfl,h0,r0⟩:=trodAll_cons hA; obtain ⟨v1,vs1,d1,ds1,p1,q1,rfl,rfl,rfl,h1,r1⟩:=trodAll_cons r0; obtain ⟨v2,vs2,d2,ds2,p2,q2,rfl,rfl,rfl,h2,r2⟩:=trodAll_cons r1; obtain ⟨v3,vs3,d3,ds3,p3,q3,rfl,rfl,rfl,h3,r3⟩:=trodAll_cons r2; obtain ⟨v4,vs4,d4,ds4,p4,q4,rfl,rfl,rfl,h4,r4⟩:=trodAll_cons r3; obtain ⟨v5,vs5,d5,ds5,p5,q5,rfl,rfl,rfl,h5,r5⟩:=trodAll_cons r4; obtain ⟨v6,vs6,d6,ds6,p6,q6,rfl,rfl,rfl,h6,r6⟩:=trodAll_cons r5
 obtain ⟨rfl,rfl,rfl⟩:=trodAll_nil r6
 obtain rfl:args=#[v0,v1,v2,v3,v4,v5,v6]:=by cases args; simp_all
 obtain ⟨rfl,rfl⟩:=trodVars_none hV
 have fin:∀ W',Below W.heap.size W W'→Rows.planSettlesSpec.post enc Tryz.prog Tryz.f3 false true false false W #[v0,v1,v2,v3,v4,v5,v6] (.bool true) W':=fun W' hb =>
  law_post (tb:=4) (by kernel_rfl) Tryz.underlying4 (by kernel_rfl) (by rw [Tryz.params3]; intro t ht; simp at ht; rcases ht with rfl | rfl | rfl | rfl | rfl | rfl | rfl <;> exact ⟨by kernel_rfl,of_decide_eq_true (by kernel_rfl)⟩) rfl hW0 hb rfl
 clear hA0; simp only [List.append_nil] at hk; obtain ⟨x0,hr0,ho0,hn0⟩:=read_offs (hval 0 22 v0 rfl rfl) h0 (fun x hx=>hlt x (by simp [hx])) (by have hb:=bulks.bound hk; simp only [Rows.uptoBulkAll] at hb; omega); obtain ⟨x1,hr1,ho1,hn1⟩:=read_outs (hval 1 23 v1 rfl rfl) h1 (fun x hx=>hlt x (by simp [hx])) (by have hb:=bulks.bound hk; simp only [Rows.uptoBulkAll] at hb; omega); obtain ⟨x2,hr2,ho2,hn2⟩:=read_outs (hval 2 23 v2 rfl rfl) h2 (fun x hx=>hlt x (by simp [hx])) (by have hb:=bulks.bound hk; simp only [Rows.uptoBulkAll] at hb; omega); obtain ⟨x3,hr3,ho3,hn3⟩:=read_outs (hval 3 23 v3 rfl rfl) h3 (fun x hx=>hlt x (by simp [hx])) (by have hb:=bulks.bound hk; simp only [Rows.uptoBulkAll] at hb; omega)
 obtain ⟨x4,rfl,rfl,rfl,wf4⟩:=open_int Tryz.underlying3 (hval 4 3 v4 rfl rfl) h4; obtain ⟨x5,rfl,rfl,rfl,wf5⟩:=open_int Tryz.underlying3 (hval 5 3 v5 rfl rfl) h5; obtain ⟨x6,hr6,ho6,hn6⟩:=read_texts (hval 6 24 v6 rfl rfl) h6 (fun x hx=>hlt x (by simp [hx])) (by have hb:=bulks.bound hk; simp only [Rows.uptoBulkAll] at hb; omega); have htab:=tabs_of_laid (show laidMetH Tryz.prog Rows.planSettlesRow.laid W from hL)
 refine (PlanSettles_walk x0 x1 x2 x3 x4 x5 x6 _ _ _ _ _ W (⟨⟨hn0,ho0,hr0,hn1,hr1,hn2,hr2,hn6,ho6,hr6,htab⟩,ho1,ho2⟩:LI0 x0 x1 x2 x6 _ _ _ _ W) hr3 ho3 hn3).mono fun e W' ⟨he,hb⟩=>?_
 exact ⟨_,he,fin W' hb⟩


theorem door_met (os:Os) (args:Array Value):laidMet Tryz.prog Rows.planSettlesUptoRow.laid ((World.doorLaid Tryz.prog 29 os).forCall (fun _ _=>0) ⟨#[],args,[]⟩).memory:=by
 exact laidMet_of_run' 8 (by kernel_rfl) (by kernel_rfl)
theorem reads (os:Os) {H:Type} (enc:TypeId × Value→H):∃ places,DataW.whole enc Tryz.prog ((World.doorLaid Tryz.prog 29 os).forCall (fun _ _=>0) ⟨#[],#[.slice none 0 0,.slice none 0 0,.slice none 0 0,.slice none 0 0,.int .i64 0,.int .i64 0,.slice none 0 0],[]⟩).memory Tryz.f3.params.toList Rows.planSettlesSpec.vars false (#[.slice none 0 0,.slice none 0 0,.slice none 0 0,.slice none 0 0,.int .i64 0,.int .i64 0,.slice none 0 0]:Array Value).toList 8=some ([.nil,.nil,.nil,.nil,.lit (.int .i64 0),.lit (.int .i64 0),.nil],[],places) :=
 ⟨[],by kernel_rfl⟩

set_option maxRecDepth 100000 in
theorem lifted (os:Os) (started:os.Started) (H:Type) (enc:TypeId × Value→H) (F:Stop.Interp) :
  ReturnsInHanded {} Tryz.checked os 3 .any ((Rows.OpenSpec.upto Rows.planSettlesSpec).preRow enc Tryz.prog Tryz.f3 Rows.planSettlesUptoRow.domain false Rows.planSettlesUptoRow.laid) (((Rows.OpenSpec.upto Rows.planSettlesSpec).at F).post enc Tryz.prog Tryz.f3 false true false false):=by
 obtain ⟨places,hx⟩:=reads os enc
 refine returnsInHanded_of_row (C:=Tryz.checked) (s:=Rows.OpenSpec.upto Rows.planSettlesSpec) own started (by kernel_rfl) Tryz.func3
  (witness_row_atRef (enc:=enc) (C:=Tryz.checked) false (World.doorLaid Tryz.prog 29 os) #[.slice none 0 0,.slice none 0 0,.slice none 0 0,.slice none 0 0,.int .i64 0,.int .i64 0,.slice none 0 0] rfl (by kernel_rfl) (by kernel_rfl) (by kernel_rfl)
   (OpenSpec.preRow_of_cond 8 hx (by kernel_rfl) (fun k hk=>by cases hk; kernel_rfl) (by kernel_rfl) (door_met os _))) ?_
 intro W base args ds gs before hval hW _ hcond _ hL _ _; exact contract H enc W base args ds gs before hval hW hL (hcond _ rfl)

theorem row_holds:Rows.PlanSettlesUptoSaid :=
 OpenClaim.holds_of_cond 3 Tryz.f3 rfl rfl rfl rfl rfl rfl rfl ⟨rfl,rfl,rfl,rfl,rfl⟩ rfl rfl rfl rfl rfl (by kernel_rfl) Tryz.func3 (by kernel_rfl)
  (of_decide_eq_true (by kernel_rfl)) (by unfold Func.isWrapper; first | (rw [if_pos (by decide +kernel)]; kernel_rfl) | (rw [if_neg (by decide +kernel)]; exact ⟨rfl,rfl⟩))
  (fun os started H enc _ F=>by rw [OpenClaim.pre_eq_preRow]; exact lifted os started H enc F)

theorem proved:Rows.PlanSettlesUptoCardSaid :=
 Claim7.holds_tied_plain_at .later [] [.data, .data, .data, .data] true (true, "54830ed0732b071e8d4077c793f467b3e9d94e2d2145063a7524a85a75a4ebca") false
  row_holds (fun _ h=>by cases h) (by kernel_rfl) (fun _ h=>by cases h) planSettlesUpto_row_tie rfl ⟨rfl,rfl⟩ (by kernel_rfl) rfl
  (fun f fn hf hfn=>by
   obtain rfl : f = 3 := Option.some.inj ((show Tryz.prog.funcNamed "retroact/retroactlaw45.PlanSettles" = some 3 by kernel_rfl).symm.trans hf) |>.symm; obtain rfl : fn = Tryz.f3 := (Option.some.inj (Tryz.func3.symm.trans hfn)).symm
   exact ⟨by kernel_rfl,fun j t ht=>by
    rw [Tryz.params3] at ht
    have hm:t∈[22,23,23,23,3,3,24]:=by simpa using Array.mem_of_getElem? ht
    have hall:([22,23,23,23,3,3,24].all fun u=>!Tryz.prog.wantsStandIn u)=true:=by kernel_rfl
    exact (show Tryz.prog.wantsStandIn t=false by simpa using List.all_eq_true.1 hall t hm)⟩)
  (by kernel_rfl)
end Go.Proofs.YtfejagpjahoibaaGreatDoor.planSettles
