/- From a law's contract to its row: what every law's frame shares. -/
import Derived.Test.YtffdpoifdahadaaGreatDoorChecked
import Derived.Test.YtffdpoifdahadaaGreatDoorRel
import Derived.WalkKit
import Derived.ProofKit
import Derived.OpenShut
import Derived.JoinedCond
import Derived.SizedLaws
import Derived.SliceStrings
set_option linter.unusedVariables false
namespace Go.Proofs.YtffdpoifdahadaaGreatDoor
open Go.ChangeShapes Go.WideShapes Go.ChangeAt Go.RowKit Go.WideMaps Go.WideElems

theorem mZ {H:Type} {enc:TypeId × Value->H} {P:Program} (hl:laidOutB P=true) {W W':World} (hb:Below W.heap.size W W') (sp:Nat->Bool):∀ {ts:List TypeId} (_:∀ t∈ts,P.readableRec t=true/\t < P.types.size) {vs:List Value} {ds:List (DataW H)} {ps:List MemPlace},
  DataW.TrodAll enc P W 0 (fun _=>true) true ts vs ds ps->(∀ x∈ps,x.block < W.heap.size)->(∀ p∈ps,sp p.block=true)->DataW.TrodAll enc P W' 0 sp true ts vs ds ps:=by
 intro ts
 induction ts with
 | nil =>
  intro _ vs ds ps h _ _; obtain ⟨rfl,rfl,rfl⟩:=trodAll_nil h; exact trodAll_mk0
 | cons t ts ih =>
  intro hr vs ds ps h hlt hsp; obtain ⟨v,vs',d,ds',p,q,rfl,rfl,rfl,h1,h2⟩:=trodAll_cons h; refine trodAll_cons_mk ?_ (ih (fun t ht=>hr t (List.mem_cons_of_mem _ ht)) h2 (fun x hx=>hlt x (List.mem_append_right _ hx)) (fun x hx=>hsp x (List.mem_append_right _ hx))); exact WideElems.Trod_stays hl (hr t (by simp)).1 (hr t (by simp)).2 h1 (fun x hx=>hb.same (hlt x (List.mem_append_left _ hx))) (fun x hx=>hsp x (List.mem_append_left _ hx))

theorem wJ {H:Type} {enc:TypeId × Value->H} {P:Program} {f:Func} {s:ChangeSpec} {tb:TypeId} (hl:laidOutB P=true) (hb:P.underlying tb=some .bool) (hft:f.resultTypes=#[tb]) (hread:∀ t∈f.params.toList,P.readableRec t=true/\t < P.types.size)
  (hv:s.vars=[]) {W W':World} {args:Array Value} {ds gs:List (DataW H)} {before:List MemPlace} (hW:DataW.Whole enc P f.params.toList s.vars false W args.toList ds gs before) (hbl:Below W.heap.size W W')
  (hfn:s.fn H (ds++gs)={ results:=[.lit (.bool true)],args:=ds }):s.post enc P f false true false false W args (.bool true) W':=by
 have hW0:=hW; have hlt:=hW.lt; obtain ⟨p,q,hA,hV,rfl,hfz,hnd⟩:=hW; rw [hv] at hV; obtain ⟨rfl,rfl⟩:=trodVars_none hV; rw [List.append_nil] at hW0 hlt; refine ⟨ds,[],p,[],p,[],hW0,?_,?_,?_,hbl.frame _,fun h=>by cases h⟩
 ·rw [hfn,hft]
  exact trodAll_mk1 (shut_bool hb _)
 ·rw [hfn]
  exact mZ hl hbl _ hread hA hlt (fun x hx=>by simpa using hlt x hx)
 ·rw [hfn,hv]
  rfl

end Go.Proofs.YtffdpoifdahadaaGreatDoor
