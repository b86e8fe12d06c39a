/- PlanLeast: for every input within the statement's reading the law returns true, and its arguments read as before. -/
import Derived.Test.YtdmgfnnpjoihfaaDoorRows
import Derived.Test.YtdmgfnnpjoihfaaDoorAgg
import Derived.Test.YtdmgfnnpjoihfaaDoorCards
import Derived.Test.YtdmgfnnpjoihfaaDoorTie
import Derived.SevenTiedAt
import Derived.Deep.DeepHandedRow
import Derived.Deep.DeepWitnessRowRef
import Derived.Test.YtdmgfnnpjoihfaaDoorPmQ
import Derived.Test.YtdmgfnnpjoihfaaDoorPlTab
import Derived.Test.YtdmgfnnpjoihfaaDoorSized
set_option linter.unusedVariables false
namespace Go.Proofs.YtdmgfnnpjoihfaaDoor.planLeast
open Go.ChangeShapes Go.WideShapes Go.ChangeAt Go.RowKit Go.WideMaps Go.WideElems
open Go.ChangeMaps (open_string shut_string)

theorem own:ownKnob Tryd.prog.godebug=none:=by kernel_rfl

set_option maxRecDepth 100000 in
theorem contract (H:Type) (enc:TypeId × Value→H) (W:World) (base:Nat) (args:Array Value) (ds gs:List (DataW H)) (before:List MemPlace)
  (hval:∀ (j:Nat) t v,Tryd.f3.params[j]? = some t→args[j]? = some v→Value.okWide Tryd.prog W .any base t v)
  (hW:DataW.Whole enc Tryd.prog Tryd.f3.params.toList Rows.planLeastSpec.vars false W args.toList ds gs before) (hL:laidMetH Tryd.prog Rows.planLeastRow.laid W) (hk:Rows.uptoSmall H (ds++gs)=true) :
  Calls Tryd.prog 3 args W fun e W'=>∃ v,e=.returned v∧Rows.planLeastSpec.post enc Tryd.prog Tryd.f3 false true false false W args v W':=by
 have hW0:=hW; have hlt:=hW.lt; obtain ⟨p,q,hA0,hV,rfl,hfz,hnd⟩:=hW; have hA:DataW.TrodAll enc Tryd.prog W 0 (fun _=>true) true Tryd.f3.params.toList args.toList ds p:=hA0; rw [Tryd.params3] at hA hval; obtain ⟨v0,vs0,d0,ds0,p0,q0,hargs,rfl,rfl,h0,r0⟩:=trodAll_cons hA; obtain ⟨v1,vs1,d1,ds1,p1,q1,rfl,rfl,rfl,h1,r1⟩:=trodAll_cons r0; obtain ⟨v2,vs2,d2,ds2,p2,q2,rfl,rfl,rfl,h2,r2⟩:=trodAll_cons r1; obtain ⟨v3,vs3,d3,ds3,p3,q3,rfl,rfl,rfl,h3,r3⟩:=trodAll_cons r2; obtain ⟨v4,vs4,d4,ds4,p4,q4,rfl,rfl,rfl,h4,r4⟩:=trodAll_cons r3; obtain ⟨v5,vs5,d5,ds5,p5,q5,rfl,rfl,rfl,h5,r5⟩:=trodAll_cons r4; obtain ⟨v6,vs6,d6,ds6,p6,q6,rfl,rfl,rfl,h6,r6⟩:=trodAll_cons r5
 obtain ⟨v7,vs7,d7,ds7,p7,q7,rfl,rfl,rfl,h7,r7⟩:=trodAll_cons r6; obtain ⟨rfl,rfl,rfl⟩:=trodAll_nil r7
 obtain rfl:args=#[v0,v1,v2,v3,v4,v5,v6,v7]:=by cases args; simp_all
 obtain ⟨rfl,rfl⟩:=trodVars_none hV
 have fin:∀ W',Below W.heap.size W W'→Rows.planLeastSpec.post enc Tryd.prog Tryd.f3 false true false false W #[v0,v1,v2,v3,v4,v5,v6,v7] (.bool true) W':=fun W' hb =>
  law_post (tb:=4) (by kernel_rfl) Tryd.underlying4 (by kernel_rfl) (by rw [Tryd.params3]; intro t ht; simp at ht; rcases ht with rfl | rfl | rfl | rfl | rfl | rfl | rfl | rfl <;> exact ⟨by kernel_rfl,of_decide_eq_true (by kernel_rfl)⟩) rfl hW0 hb rfl
 clear hA0; simp only [List.append_nil] at hk; obtain ⟨x0,hr0,ho0,hn0⟩:=read_offs (hval 0 22 v0 rfl rfl) h0 (fun x hx=>hlt x (by simp [hx])) (by have hb:=bulks.bound hk; simp only [Rows.uptoBulkAll] at hb; omega); obtain ⟨x1,hr1,ho1,hn1⟩:=read_outs (hval 1 23 v1 rfl rfl) h1 (fun x hx=>hlt x (by simp [hx])) (by have hb:=bulks.bound hk; simp only [Rows.uptoBulkAll] at hb; omega); obtain ⟨x2,hr2,ho2,hn2⟩:=read_outs (hval 2 23 v2 rfl rfl) h2 (fun x hx=>hlt x (by simp [hx])) (by have hb:=bulks.bound hk; simp only [Rows.uptoBulkAll] at hb; omega); obtain ⟨x3,rfl,rfl,rfl,wf3⟩:=open_int Tryd.underlying3 (hval 3 3 v3 rfl rfl) h3; obtain ⟨x4,rfl,rfl,rfl,wf4⟩:=open_int Tryd.underlying3 (hval 4 3 v4 rfl rfl) h4
 obtain ⟨x5,hr5,ho5,hn5⟩:=read_texts (hval 5 24 v5 rfl rfl) h5 (fun x hx=>hlt x (by simp [hx])) (by have hb:=bulks.bound hk; simp only [Rows.uptoBulkAll] at hb; omega); obtain ⟨st6,re6,co6,rw6,cl6,vs6,ve6,vR6,vC6,rfl,hs6,he6,hR6,hC6,hsl6,hel6,hsv6,hes6,hco6,hrr6,hcr6,hrl6,hcl6⟩:=read_plan (hval 6 28 v6 rfl rfl) h6 (fun x hx=>hlt x (by simp [hx])) (by have hb:=bulks.bound hk; simp only [Rows.uptoBulkAll] at hb; omega); obtain ⟨x7,hr7,ho7,hn7⟩:=read_nums (hval 7 26 v7 rfl rfl) h7 (fun x hx=>hlt x (by simp [hx])) (by have hb:=bulks.bound hk; simp only [Rows.uptoBulkAll] at hb; omega); have htab:=tabs_of_laid (show laidMetH Tryd.prog Rows.planLeastRow.laid W from hL)
 refine (PlanLeast_walk x0 x1 x2 x3 x4 x5 _ _ _ _ W (⟨⟨hn0,ho0,hr0,hn1,hr1,hn2,hr2,hn5,ho5,hr5,htab⟩,ho1,ho2⟩:LI0 x0 x1 x2 x5 _ _ _ _ W) ⟨st6,re6,co6,rw6,cl6⟩ vs6 ve6 vR6 vC6 _ hs6 he6 hR6 hC6 hsl6 hel6 hsv6 x7 hr7 hn7 ho7).mono fun e W' ⟨he,hb⟩=>?_
 exact ⟨_,he,fin W' hb⟩


theorem door_met (os:Os) (args:Array Value):laidMet Tryd.prog Rows.planLeastUptoRow.laid ((World.doorLaid Tryd.prog 29 os).forCall (fun _ _=>0) ⟨#[],args,[]⟩).memory:=by
 exact laidMet_of_run' 8 (by kernel_rfl) (by kernel_rfl)
theorem reads (os:Os) {H:Type} (enc:TypeId × Value→H):∃ places,DataW.whole enc Tryd.prog ((World.doorLaid Tryd.prog 29 os).forCall (fun _ _=>0) ⟨#[],#[.slice none 0 0,.slice none 0 0,.slice none 0 0,.int .i64 0,.int .i64 0,.slice none 0 0,.agg #[.slice none 0 0,.slice none 0 0,.int .i64 0,.slice none 0 0,.slice none 0 0],.slice none 0 0],[]⟩).memory Tryd.f3.params.toList Rows.planLeastSpec.vars false (#[.slice none 0 0,.slice none 0 0,.slice none 0 0,.int .i64 0,.int .i64 0,.slice none 0 0,.agg #[.slice none 0 0,.slice none 0 0,.int .i64 0,.slice none 0 0,.slice none 0 0],.slice none 0 0]:Array Value).toList 8=some ([.nil,.nil,.nil,.lit (.int .i64 0),.lit (.int .i64 0),.nil,.agg [.nil,.nil,.lit (.int .i64 0),.nil,.nil],.nil],[],places) :=
 ⟨[],by kernel_rfl⟩

set_option maxRecDepth 100000 in
theorem lifted (os:Os) (started:os.Started) (H:Type) (enc:TypeId × Value→H) (F:Stop.Interp) :
  ReturnsInHanded {} Tryd.checked os 3 .any ((Rows.OpenSpec.upto Rows.planLeastSpec).preRow enc Tryd.prog Tryd.f3 Rows.planLeastUptoRow.domain false Rows.planLeastUptoRow.laid) (((Rows.OpenSpec.upto Rows.planLeastSpec).at F).post enc Tryd.prog Tryd.f3 false true false false):=by
 obtain ⟨places,hx⟩:=reads os enc
 refine returnsInHanded_of_row (C:=Tryd.checked) (s:=Rows.OpenSpec.upto Rows.planLeastSpec) own started (by kernel_rfl) Tryd.func3
  (witness_row_atRef (enc:=enc) (C:=Tryd.checked) false (World.doorLaid Tryd.prog 29 os) #[.slice none 0 0,.slice none 0 0,.slice none 0 0,.int .i64 0,.int .i64 0,.slice none 0 0,.agg #[.slice none 0 0,.slice none 0 0,.int .i64 0,.slice none 0 0,.slice none 0 0],.slice none 0 0] rfl (by kernel_rfl) (by kernel_rfl) (by kernel_rfl)
   (OpenSpec.preRow_of_cond 8 hx (by kernel_rfl) (fun k hk=>by cases hk; kernel_rfl) (by kernel_rfl) (door_met os _))) ?_
 intro W base args ds gs before hval hW _ hcond _ hL _ _; exact contract H enc W base args ds gs before hval hW hL (hcond _ rfl)

theorem row_holds:Rows.PlanLeastUptoSaid :=
 OpenClaim.holds_of_cond 3 Tryd.f3 rfl rfl rfl rfl rfl rfl rfl ⟨rfl,rfl,rfl,rfl,rfl⟩ rfl rfl rfl rfl rfl (by kernel_rfl) Tryd.func3 (by kernel_rfl)
  (of_decide_eq_true (by kernel_rfl)) (by unfold Func.isWrapper; first | (rw [if_pos (by decide +kernel)]; kernel_rfl) | (rw [if_neg (by decide +kernel)]; exact ⟨rfl,rfl⟩))
  (fun os started H enc _ F=>by rw [OpenClaim.pre_eq_preRow]; exact lifted os started H enc F)

theorem proved:Rows.PlanLeastUptoCardSaid :=
 Claim7.holds_tied_plain_at .later [] [.data, .data, .data, .data] true (true, "4739d3dd38bd23b106f94576ba25e543baf736985dc317130a02e4e9b3dffe2d") false
  row_holds (fun _ h=>by cases h) (by kernel_rfl) (fun _ h=>by cases h) planLeastUpto_row_tie rfl ⟨rfl,rfl⟩ (by kernel_rfl) rfl
  (fun f fn hf hfn=>by
   obtain rfl : f = 3 := Option.some.inj ((show Tryd.prog.funcNamed "retroact/retroactlaw45.PlanLeast" = some 3 by kernel_rfl).symm.trans hf) |>.symm; obtain rfl : fn = Tryd.f3 := (Option.some.inj (Tryd.func3.symm.trans hfn)).symm
   exact ⟨by kernel_rfl,fun j t ht=>by
    rw [Tryd.params3] at ht
    have hm:t∈[22,23,23,3,3,24,28,26]:=by simpa using Array.mem_of_getElem? ht
    have hall:([22,23,23,3,3,24,28,26].all fun u=>!Tryd.prog.wantsStandIn u)=true:=by kernel_rfl
    exact (show Tryd.prog.wantsStandIn t=false by simpa using List.all_eq_true.1 hall t hm)⟩)
  (by kernel_rfl)
end Go.Proofs.YtdmgfnnpjoihfaaDoor.planLeast
