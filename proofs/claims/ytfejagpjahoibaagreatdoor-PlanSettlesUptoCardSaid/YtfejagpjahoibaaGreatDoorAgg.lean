/- Agg: Frame, Laid, Bulk, Structs, Agg, in one text. -/
import Derived.Test.YtfejagpjahoibaaGreatDoorChecked
import Derived.Test.YtfejagpjahoibaaGreatDoorRel
import Derived.WalkKit
import Derived.ProofKit
import Derived.OpenShut
import Derived.JoinedCond
import Derived.SizedLaws
import Derived.SliceStrings
import Derived.LaidMore
import Derived.LaidOnce
import Derived.MakeChecks
import Derived.Lib.LaidTab
import Derived.Test.YtfejagpjahoibaaGreatDoorRows
import Derived.Deep.Slices
import Derived.Deep.Fields
import Derived.Lib.SmallJoins
set_option linter.unusedVariables false
namespace Go.Proofs.YtfejagpjahoibaaGreatDoor
open Go.ChangeShapes Go.WideShapes Go.ChangeAt Go.RowKit Go.WideMaps Go.WideElems

theorem trodAll_stays {H:Type} {enc:TypeId × Value→H} {P:Program} (hl:laidOutB P=true) {W W':World} (hb:Below W.heap.size W W') (sp:Nat→Bool):∀ {ts:List TypeId} (_:∀ t∈ts,P.readableRec t=true∧t < P.types.size) {vs:List Value} {ds:List (DataW H)} {ps:List MemPlace},
  DataW.TrodAll enc P W 0 (fun _=>true) true ts vs ds ps→(∀ x∈ps,x.block < W.heap.size)→(∀ p∈ps,sp p.block=true)→DataW.TrodAll enc P W' 0 sp true ts vs ds ps:=by
 intro ts
 induction ts with
 | nil =>
  intro _ vs ds ps h _ _; obtain ⟨rfl,rfl,rfl⟩:=trodAll_nil h; exact trodAll_mk0
 | cons t ts ih =>
  intro hr vs ds ps h hlt hsp; obtain ⟨v,vs',d,ds',p,q,rfl,rfl,rfl,h1,h2⟩:=trodAll_cons h; refine trodAll_cons_mk ?_ (ih (fun t ht=>hr t (List.mem_cons_of_mem _ ht)) h2 (fun x hx=>hlt x (List.mem_append_right _ hx)) (fun x hx=>hsp x (List.mem_append_right _ hx))); exact WideElems.Trod_stays hl (hr t (by simp)).1 (hr t (by simp)).2 h1 (fun x hx=>hb.same (hlt x (List.mem_append_left _ hx))) (fun x hx=>hsp x (List.mem_append_left _ hx))

theorem law_post {H:Type} {enc:TypeId × Value→H} {P:Program} {f:Func} {s:ChangeSpec} {tb:TypeId} (hl:laidOutB P=true) (hb:P.underlying tb=some .bool) (hft:f.resultTypes=#[tb]) (hread:∀ t∈f.params.toList,P.readableRec t=true∧t < P.types.size)
  (hv:s.vars=[]) {W W':World} {args:Array Value} {ds gs:List (DataW H)} {before:List MemPlace} (hW:DataW.Whole enc P f.params.toList s.vars false W args.toList ds gs before) (hbl:Below W.heap.size W W')
  (hfn:s.fn H (ds++gs)={ results:=[.lit (.bool true)],args:=ds }):s.post enc P f false true false false W args (.bool true) W':=by
 have hW0:=hW; have hlt:=hW.lt; obtain ⟨p,q,hA,hV,rfl,hfz,hnd⟩:=hW; rw [hv] at hV; obtain ⟨rfl,rfl⟩:=trodVars_none hV; rw [List.append_nil] at hW0 hlt; refine ⟨ds,[],p,[],p,[],hW0,?_,?_,?_,hbl.frame _,fun h=>by cases h⟩
 ·rw [hfn,hft]
  exact trodAll_mk1 (shut_bool hb _)
 ·rw [hfn]
  exact trodAll_stays hl hbl _ hread hA hlt (fun x hx=>by simpa using hlt x hx)
 ·rw [hfn,hv]
  rfl

theorem plain_add {a:Addr} (h:a.spot=none) (i:Nat):a.add i=⟨a.block,a.off+i,none⟩:=by
 obtain ⟨b,o,s⟩:=a; subst h; simp only [Addr.add]; split <;> simp_all

end Go.Proofs.YtfejagpjahoibaaGreatDoor
namespace Go.Proofs.YtfejagpjahoibaaGreatDoor
open Go.ChangeShapes Go.WideShapes Go.ChangeAt Go.RowKit
theorem laidMet_tail {P:Program} {W:World} {n:String} {d:DataW Unit} {r:List (String × DataW Unit)} (h:laidMet P ((n,d)::r) W):laidMet P r W:=by
 obtain ⟨ps,⟨g,t,cs,fuel,p,q,hg,ht,hvar,hd,hr,rfl⟩,hn,hc⟩:=h; exact ⟨q,hr,(List.nodup_append.1 hn).2.1,fun b off hm=>hc b off (List.mem_append_right _ hm)⟩
theorem wf64 {n:Int} (h:(Lit.int .i64 n).wf=true):-9223372036854775808≤n∧n≤9223372036854775807:=by
 simpa [Lit.wf,IntKind.min,IntKind.max,IntKind.signed,IntKind.bits] using h
end Go.Proofs.YtfejagpjahoibaaGreatDoor
namespace Go.Proofs.YtfejagpjahoibaaGreatDoor.bulks
theorem one_le {H:Type} (d:DataW H):1≤Rows.uptoBulk d:=by
 cases d with
 | lit l=>cases l <;> simp [Rows.uptoBulk]
 | nil=>simp [Rows.uptoBulk]
 | ptr d=>simp [Rows.uptoBulk]
 | slice elems spare=>simp [Rows.uptoBulk]
 | agg parts=>simp [Rows.uptoBulk]
 | iface t d=>simp [Rows.uptoBulk]
 | map entries=>simp [Rows.uptoBulk]
 | held h=>simp [Rows.uptoBulk]
theorem part_le {H:Type} {d:DataW H} {l:List (DataW H)} (h:d∈l):Rows.uptoBulk d≤Rows.uptoBulkAll l:=by
 induction l with
 | nil=>cases h
 | cons x r ih =>
  simp only [Rows.uptoBulkAll]
  cases List.mem_cons.1 h with
  | inl e=>subst e; omega
  | inr e=>have:=ih e; omega
theorem length_le {H:Type} (l:List (DataW H)):l.length≤Rows.uptoBulkAll l:=by
 induction l with
 | nil=>simp [Rows.uptoBulkAll]
 | cons x r ih=>have:=one_le x; simp only [Rows.uptoBulkAll,List.length_cons]; omega
theorem bound {H:Type} {l:List (DataW H)} (hk:Rows.uptoSmall H l=true):Rows.uptoBulkAll l≤1048576:=of_decide_eq_true hk
end Go.Proofs.YtfejagpjahoibaaGreatDoor.bulks
namespace Go.Proofs.YtfejagpjahoibaaGreatDoor
open Go.ChangeShapes Go.WideShapes Go.ChangeAt Go.RowKit Go.WideMaps Go.WideElems Go.Deep
theorem read_int1 {H:Type} {enc:TypeId × Value→H} {P:Program} {W:World} {t:TypeId} {k:IntKind} (ht:P.underlying t=some (.int k)) {v:Value} {y:DataW H × List MemPlace} {n:Nat} (h:DataW.trod enc P W 0 (fun _=>true) true n t [v]=some y) :
  ∃ z,v=.int k z∧(Lit.int k z).wf=true:=by
 obtain ⟨z,e1,_,e3⟩:=DataW.trod_int ht h; exact ⟨z,by simpa using e1,e3⟩
theorem read_str1 {H:Type} {enc:TypeId × Value→H} {P:Program} {W:World} {t:TypeId} (ht:P.underlying t=some .string) {v:Value} {y:DataW H × List MemPlace} {n:Nat} (h:DataW.trod enc P W 0 (fun _=>true) true n t [v]=some y) :
  ∃ s:List UInt8,v=.string ⟨s.toArray⟩∧y.1=.lit (.string s):=by
 obtain ⟨s,e1,e2,_⟩:=DataW.trod_string ht h; exact ⟨s.data.toList,by simpa using e1,by rw [e2]⟩
/-- a list out of what is known at each index -/
theorem list_choose {α:Type} {Q:Nat→α→Prop}:∀ (n:Nat),(∀ i,i < n→∃ x,Q i x)→∃ l:List α,l.length=n∧∀ i x,l[i]? = some x→Q i x
 | 0,_=>⟨[],rfl,fun i x h=>by simp at h⟩
 | n+1,h=>by
  obtain ⟨l,hl,hq⟩:=list_choose n (fun i hi=>h i (by omega)); obtain ⟨x,hx⟩:=h n (by omega); refine ⟨l++[x],by simp [hl],fun i y hy=>?_⟩; by_cases hi:i < n
  ·rw [List.getElem?_append_left (by omega)] at hy
   exact hq i y hy
  ·rw [List.getElem?_append_right (by omega)] at hy
   have:i=n:=by
    have:=(List.getElem?_eq_some_iff.1 hy).1; simp at this; omega
   subst this; rw [hl] at hy; simp at hy; subst hy; exact hx
theorem bulk_len {H:Type} {d:DataW H} {D:Nat→DataW H} {len:Nat} (hd:(d=.nil∧len=0)∨∃ sp,d=.slice ((List.range len).map D) sp):len≤Rows.uptoBulk d:=by
 rcases hd with ⟨_,h⟩ | ⟨sp,rfl⟩
 ·omega
 ·have h1:=bulks.length_le ((List.range len).map D)
  rw [List.length_map,List.length_range] at h1; simp only [Rows.uptoBulk]; omega
end Go.Proofs.YtfejagpjahoibaaGreatDoor
namespace Go.Proofs.YtfejagpjahoibaaGreatDoor
open Go.Joins Go.ChangeShapes Go.WideShapes Go.ChangeAt Go.RowKit Go.WideMaps Go.WideElems Go.Deep
end Go.Proofs.YtfejagpjahoibaaGreatDoor
