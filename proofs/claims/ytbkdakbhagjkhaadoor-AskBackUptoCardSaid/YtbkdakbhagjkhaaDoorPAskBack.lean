/- AskBack: for every input within the statement's reading the law returns true, and its arguments read as before. -/
import Derived.Test.YtbkdakbhagjkhaaDoorRows
import Derived.Test.YtbkdakbhagjkhaaDoorFrame
import Derived.Test.YtbkdakbhagjkhaaDoorCards
import Derived.Test.YtbkdakbhagjkhaaDoorTie
import Derived.Test.YtbkdakbhagjkhaaDoorLaid
import Derived.SevenTiedAt
import Derived.Deep.DeepHandedRow
import Derived.Deep.DeepWitnessRowRef
import Derived.Test.YtbkdakbhagjkhaaDoorAskBz
import Derived.Test.YtbkdakbhagjkhaaDoorAskTab
import Derived.Test.YtbkdakbhagjkhaaDoorSized
set_option linter.unusedVariables false
namespace Go.Proofs.YtbkdakbhagjkhaaDoor.askBack
open Go.ChangeShapes Go.WideShapes Go.ChangeAt Go.RowKit Go.WideMaps Go.WideElems
open Go.ChangeMaps (open_string shut_string)

theorem own:ownKnob Tryd.prog.godebug=none:=by kernel_rfl

set_option maxRecDepth 100000 in
theorem contract (H:Type) (enc:TypeId × Value→H) (W:World) (base:Nat) (args:Array Value) (ds gs:List (DataW H)) (before:List MemPlace)
  (hval:∀ (j:Nat) t v,Tryd.f3.params[j]? = some t→args[j]? = some v→Value.okWide Tryd.prog W .any base t v)
  (hW:DataW.Whole enc Tryd.prog Tryd.f3.params.toList Rows.askBackSpec.vars false W args.toList ds gs before) (hL:laidMetH Tryd.prog Rows.askBackRow.laid W) (hk:Rows.uptoSmall H (ds++gs)=true) :
  Calls Tryd.prog 3 args W fun e W'=>∃ v,e=.returned v∧Rows.askBackSpec.post enc Tryd.prog Tryd.f3 false true false false W args v W':=by
 have hW0:=hW; have hlt:=hW.lt; obtain ⟨p,q,hA0,hV,rfl,hfz,hnd⟩:=hW; have hA:DataW.TrodAll enc Tryd.prog W 0 (fun _=>true) true Tryd.f3.params.toList args.toList ds p:=hA0; rw [Tryd.params3] at hA hval; obtain ⟨v0,vs0,d0,ds0,p0,q0,hargs,rfl,rfl,h0,r0⟩:=trodAll_cons hA; obtain ⟨v1,vs1,d1,ds1,p1,q1,rfl,rfl,rfl,h1,r1⟩:=trodAll_cons r0; obtain ⟨rfl,rfl,rfl⟩:=trodAll_nil r1
 obtain rfl:args=#[v0,v1]:=by cases args; simp_all
 obtain ⟨rfl,rfl⟩:=trodVars_none hV
 have fin:∀ W',Below W.heap.size W W'→Rows.askBackSpec.post enc Tryd.prog Tryd.f3 false true false false W #[v0,v1] (.bool true) W':=fun W' hb =>
  law_post (tb:=4) (by kernel_rfl) Tryd.underlying4 (by kernel_rfl) (by rw [Tryd.params3]; intro t ht; simp at ht; rcases ht with rfl | rfl <;> exact ⟨by kernel_rfl,of_decide_eq_true (by kernel_rfl)⟩) rfl hW0 hb rfl
 clear hA0; simp only [List.append_nil] at hk; obtain ⟨x0,ra0,rc0,aa0,ac0,rfl,hr0,hg0,hm0⟩:=read_query (hval 0 27 v0 rfl rfl) h0 (fun x hx=>hlt x (by simp [hx])) (by have hb:=bulks.bound hk; simp only [Rows.uptoBulkAll] at hb; omega); obtain ⟨b1,rfl,rfl,rfl,hm1⟩:=open_string Tryd.underlying9 (hval 1 9 v1 rfl rfl) h1; obtain ⟨x1,rfl,hl1⟩:=str_list b1; have htab:=Go.Lib.hid (tab_of_laid hL)
 have hb1:x1.length≤1048576:=by have hb:=bulks.bound hk; simp only [Rows.uptoBulkAll,Rows.uptoBulk] at hb; omega
 refine (AskBack_walk x0 ra0 rc0 aa0 ac0 _ x1 W htab hr0 hg0 (fun k hk=>hk) hm0 hb1).mono fun e W' ⟨he,hb⟩=>?_
 exact ⟨_,he,fin W' hb⟩


theorem door_met (os:Os) (args:Array Value):laidMet Tryd.prog Rows.askBackUptoRow.laid ((World.doorLaid Tryd.prog 13 os).forCall (fun _ _=>0) ⟨#[],args,[]⟩).memory:=by
 exact laidMet_of_run' 8 (by kernel_rfl) (by kernel_rfl)
theorem reads (os:Os) {H:Type} (enc:TypeId × Value→H):∃ places,DataW.whole enc Tryd.prog ((World.doorLaid Tryd.prog 13 os).forCall (fun _ _=>0) ⟨#[],#[.agg #[.slice none 0 0,.int .i64 0,.bool false,.string .empty,.slice none 0 0],.string .empty],[]⟩).memory Tryd.f3.params.toList Rows.askBackSpec.vars false (#[.agg #[.slice none 0 0,.int .i64 0,.bool false,.string .empty,.slice none 0 0],.string .empty]:Array Value).toList 8=some ([.agg [.nil,.agg [.lit (.int .i64 0),.lit (.bool false),.lit (.string []),.nil]],.lit (.string [])],[],places) :=
 ⟨[],by kernel_rfl⟩

set_option maxRecDepth 100000 in
theorem lifted (os:Os) (started:os.Started) (H:Type) (enc:TypeId × Value→H) (F:Stop.Interp) :
  ReturnsInHanded {} Tryd.checked os 3 .any ((Rows.OpenSpec.upto Rows.askBackSpec).preRow enc Tryd.prog Tryd.f3 Rows.askBackUptoRow.domain false Rows.askBackUptoRow.laid) (((Rows.OpenSpec.upto Rows.askBackSpec).at F).post enc Tryd.prog Tryd.f3 false true false false):=by
 obtain ⟨places,hx⟩:=reads os enc
 refine returnsInHanded_of_row (C:=Tryd.checked) (s:=Rows.OpenSpec.upto Rows.askBackSpec) own started (by kernel_rfl) Tryd.func3
  (witness_row_atRef (enc:=enc) (C:=Tryd.checked) false (World.doorLaid Tryd.prog 13 os) #[.agg #[.slice none 0 0,.int .i64 0,.bool false,.string .empty,.slice none 0 0],.string .empty] rfl (by kernel_rfl) (by kernel_rfl) (by kernel_rfl)
   (OpenSpec.preRow_of_cond 8 hx (by kernel_rfl) (fun k hk=>by cases hk; kernel_rfl) (by kernel_rfl) (door_met os _))) ?_
 intro W base args ds gs before hval hW _ hcond _ hL _ _; exact contract H enc W base args ds gs before hval hW hL (hcond _ rfl)

theorem row_holds:Rows.AskBackUptoSaid :=
 OpenClaim.holds_of_cond 3 Tryd.f3 rfl rfl rfl rfl rfl rfl rfl ⟨rfl,rfl,rfl,rfl,rfl⟩ rfl rfl rfl rfl rfl (by kernel_rfl) Tryd.func3 (by kernel_rfl)
  (of_decide_eq_true (by kernel_rfl)) (by unfold Func.isWrapper; first | (rw [if_pos (by decide +kernel)]; kernel_rfl) | (rw [if_neg (by decide +kernel)]; exact ⟨rfl,rfl⟩))
  (fun os started H enc _ F=>by rw [OpenClaim.pre_eq_preRow]; exact lifted os started H enc F)

theorem proved:Rows.AskBackUptoCardSaid :=
 Claim7.holds_tied_plain_at .later [] [.data, .data, .data] true (true, "2d759822ee919cf90bc872ed6d8d1ae4b738cc2a481f7b12d16c328765745afe") false
  row_holds (fun _ h=>by cases h) (by kernel_rfl) (fun _ h=>by cases h) askBackUpto_row_tie rfl ⟨rfl,rfl⟩ (by kernel_rfl) rfl
  (fun f fn hf hfn=>by
   obtain rfl : f = 3 := Option.some.inj ((show Tryd.prog.funcNamed "retroact/retroactlaw27.AskBack" = some 3 by kernel_rfl).symm.trans hf) |>.symm; obtain rfl : fn = Tryd.f3 := (Option.some.inj (Tryd.func3.symm.trans hfn)).symm
   exact ⟨by kernel_rfl,fun j t ht=>by
    rw [Tryd.params3] at ht
    have hm:t∈[27,9]:=by simpa using Array.mem_of_getElem? ht
    have hall:([27,9].all fun u=>!Tryd.prog.wantsStandIn u)=true:=by kernel_rfl
    exact (show Tryd.prog.wantsStandIn t=false by simpa using List.all_eq_true.1 hall t hm)⟩)
  (by kernel_rfl)
end Go.Proofs.YtbkdakbhagjkhaaDoor.askBack
