/- plan, walks: the settlement in memory; cell. -/
import Derived.Test.YtfejagpjahoibaaGreatDoorPlF
import Derived.Test.YtfejagpjahoibaaGreatDoorMapS
import Derived.Test.YtfejagpjahoibaaGreatDoorApi
import Derived.DeepKeys4
set_option linter.unusedVariables false
set_option linter.unusedSimpArgs false
namespace Go.Proofs.YtfejagpjahoibaaGreatDoor
open Go.RowKit
open Go.Lib (hid)
open Go.Maps (Keyed)
set_option maxRecDepth 100000 in
theorem laidOut45:laidOutB Tryz.prog=true:=by kernel_rfl
set_option maxRecDepth 100000 in
theorem row2:(105:TypeId) < Tryz.prog.types.size:=of_decide_eq_true (by kernel_rfl)
theorem wide2:(match Tryz.prog.underlying 105 with | some (.array _ _) | some (.struct _)=>true | _=>false)=true:=by kernel_rfl
theorem under2:Tryz.prog.underlying 105 = some (.array 2 3):=by kernel_rfl
theorem cells2:Tryz.prog.cellsOf 105 = 2:=by kernel_rfl
theorem cells2i:Tryz.prog.cellsOf 3 = 1:=by kernel_rfl
theorem deep2:Tryz.prog.keyType 105 = true:=by kernel_rfl
set_option maxRecDepth 100000 in
theorem keyed2:Keyed Tryz.prog 105:=Maps.Keyed.of_law (deep_law_laid laidOut45 (m:=2) (by omega) row2 (by kernel_rfl) wide2)
theorem formed2 {c0 c1:Value}:(Value.agg #[c0,c1]).formed Tryz.prog 105 = true:=by simp [Value.formed,under2,cells2]
theorem size2:∃ m,Tryz.prog.types.size=m+1:=by
 cases h:Tryz.prog.types.size with
 | zero=>have:=row2; rw [h] at this; exact absurd this (Nat.not_lt_zero _)
 | succ m=>exact ⟨m,rfl⟩
def I64 (z:Int):Prop:=-9223372036854775808≤z∧z≤9223372036854775807
theorem wfI {n:Int} (h:I64 n):(Lit.int .i64 n).wf=true:=by
 simp only [Lit.wf,Bool.and_eq_true,decide_eq_true_eq]; have h1:IntKind.i64.min = -9223372036854775808:=rfl; have h2:IntKind.i64.max=9223372036854775807:=rfl; rw [h1,h2]; exact h
theorem key2_lits (r c:Int) (hr:I64 r) (hc:I64 c):Tryz.prog.keyLits (Tryz.prog.types.size+1) 105 [iv r,iv c]=some [.int .i64 r,.int .i64 c]:=by
 obtain ⟨m,hm⟩:=size2
 have hi:∀ n:Int,I64 n→Tryz.prog.keyLits (m+1) 3 [iv n]=some [.int .i64 n]:=fun n hn=>by
  unfold Program.keyLits; rw [Tryz.underlying3]; simp [wfI hn]
 rw [hm]; unfold Program.keyLits; rw [under2]; simp only [List.length_cons,List.length_nil,cells2,cells2i]; simp [List.range_succ,hi r hr,hi c hc]
theorem key2_ex (r c:Int) (hr:I64 r) (hc:I64 c):∃ kl,keyOf Tryz.prog 105 (.agg #[iv r,iv c])=some kl:=by
 unfold keyOf; rw [under2,deep2,formed2]; have e:(Value.agg #[iv r,iv c]).cells.toList=[iv r,iv c]:=rfl; rw [e,key2_lits r c hr hc]; exact ⟨_,rfl⟩
noncomputable def kl2 (r c:Int):Lit:=(keyOf Tryz.prog 105 (.agg #[iv r,iv c])).getD (.bool false)
theorem key2 {r c:Int} (hr:I64 r) (hc:I64 c):keyOf Tryz.prog 105 (.agg #[iv r,iv c])=some (kl2 r c):=by
 obtain ⟨kl,h⟩:=key2_ex r c hr hc; unfold kl2; rw [h]; rfl
theorem kl2_inj {r c a b:Int} (hr:I64 r) (hc:I64 c) (ha:I64 a) (hb:I64 b) (h:kl2 r c=kl2 a b):r=a∧c=b:=by
 have h1:=keyed2.inj (key2 hr hc) (by rw [h]; exact key2 ha hb); injection h1 with h1
 have h2:([iv r,iv c]:List Value)=[iv a,iv b]:=by
  have:=congrArg Array.toList h1; simpa using this
 injection h2 with e1 e2; injection e2 with e2 _; injection e1 with _ e1; injection e2 with _ e2; exact ⟨e1,e2⟩
theorem i64n {n:Nat} (h:n≤1048576):I64 (n:Int):=⟨by omega,by omega⟩
/-- an option -/
structure Opt where
 kind:Int
 cost:Int
 weight:Int
def optCs (o:Opt):List Value:=[iv o.kind,iv o.cost,iv o.weight]
abbrev optV (o:Opt):Value:=.agg #[iv o.kind,iv o.cost,iv o.weight]
/-- the map of options at b, of at most M entries -/
def AmM (b M:Nat) (A:Int→Int→Option Opt) (w:World):Prop:=∃ f,MapV Tryz.prog 105 b M f w∧∀ r c,I64 r→I64 c→f (kl2 r c)=(A r c).map optV
section
variable {b M:Nat} {A B:Int→Int→Option Opt} {w w':World}
theorem AmM.made (w:World):AmM w.heap.size 0 (fun _ _=>none) (w.alloc (.map #[] 0)):=⟨_,MapV.made w,fun r c _ _=>rfl⟩
theorem AmM.lt (h:AmM b M A w):b < w.heap.size:=by obtain ⟨f,h1,-⟩:=h; exact h1.lt
theorem AmM.mono (h:AmM b M A w) {N:Nat} (hN:M≤N):AmM b N A w:=by obtain ⟨f,h1,h2⟩:=h; exact ⟨f,h1.mono hN,h2⟩
theorem AmM.same (h:AmM b M A w) (hb:w'.heap[b]? = w.heap[b]?):AmM b M A w':=by obtain ⟨f,h1,h2⟩:=h; exact ⟨f,h1.same hb,h2⟩
theorem AmM.below (h:AmM b M A w) (hb:Below w.heap.size w w'):AmM b M A w':=h.same (hb.block b h.lt)
theorem AmM.congr (h:AmM b M A w) (he:∀ r c,I64 r→I64 c→B r c=A r c):AmM b M B w:=by obtain ⟨f,h1,h2⟩:=h; exact ⟨f,h1,fun r c hr hc=>by rw [he r c hr hc]; exact h2 r c hr hc⟩
set_option maxRecDepth 100000 in
theorem AmM.look (h:AmM b M A w) {r c:Int} (hr:I64 r) (hc:I64 c) :
  (Instr.lookup 95 (.map (some b)) (.agg #[iv r,iv c]) true).run Tryz.prog w=.ok (.tuple #[(A r c).elim (.agg #[iv 0,iv 0,iv 0]) optV,.bool (A r c).isSome]) w:=by
 obtain ⟨f,h1,h2⟩:=h; have:=h1.look_ok keyed2 (t:=95) (e:=102) Tryz.underlying95 (z:=.agg #[iv 0,iv 0,iv 0]) (by kernel_rfl) (key2 hr hc) (keyed2.key (key2 hr hc)); rw [this,h2 r c hr hc]; cases A r c <;> rfl
set_option maxRecDepth 100000 in
theorem AmM.put (h:AmM b M A w) {r c:Int} (hr:I64 r) (hc:I64 c) (o:Opt) (hM:M < 1048576) :
  ∃ w',(Instr.mapUpdate 95 (.map (some b)) (.agg #[iv r,iv c]) (optV o)).run Tryz.prog w=.ok () w'∧AmM b (M+1) (fun r' c'=>if r'=r∧c'=c then some o else A r' c') w'∧w.grownBy w' (some b):=by
 obtain ⟨f,h1,h2⟩:=h; obtain ⟨w',e1,e2,e3⟩:=h1.put keyed2 (t:=95) (e:=102) Tryz.underlying95 (by unfold maxLen; omega) (key2 hr hc) (keyed2.key (key2 hr hc)) (optV o); refine ⟨w',e1,⟨_,e2,fun r' c' hr' hc'=>?_⟩,e3⟩; unfold putF; by_cases e:r'=r∧c'=c
 ·exact (if_pos (by rw [e.1,e.2])).trans (by show _=Option.map optV (if r'=r∧c'=c then some o else A r' c'); rw [if_pos e]; rfl)
 ·exact (if_neg (fun h=>e (kl2_inj hr' hc' hr hc h))).trans (by show _=Option.map optV (if r'=r∧c'=c then some o else A r' c'); rw [if_neg e]; exact h2 r' c' hr' hc')
end
def OptR:Rel Opt:=fun _ _ o cs=>cs=optCs o
theorem goodOpt:Good 3 OptR:=⟨fun h=>by rw [h]; rfl,fun h=>by rw [h]; intro u hu; simp [optCs] at hu; rcases hu with rfl | rfl | rfl <;> rfl,fun h _=>h⟩
/-- a settlement with its options -/
structure Stl where
 undo:List Out
 «do»:List Out
 turn:Int
 refused:List (List UInt8)
 drop:List Opt
 give:List Opt
 amend:Nat→Nat→Option Opt
/-- the option of amending r into c, if they are indices -/
def amG (A:Nat→Nat→Option Opt) (m k:Nat) (r c:Int):Option Opt:=if 0≤r∧r < m∧0≤c∧c < k then A r.toNat c.toNat else none
def Stl.op (x:Stl):Pl.Op:=⟨x.undo.length,x.do.length,fun r=>match x.drop[r]? with | some o=>o.weight | none=>0,fun c=>match x.give[c]? with | some o=>o.weight | none=>0,fun r c=>match x.amend r c with | some o=>o.weight | none=>-1⟩
/-- where a settlement lies -/
structure XB where
 xb:Nat
 ua:Option Addr
 uc:Nat
 da:Option Addr
 dc:Nat
 rb:Nat
 pa:Option Addr
 pc:Nat
 ga:Option Addr
 gc:Nat
 mb:Nat
 F:Foot
def XB.cells (X:XB) (m k:Nat) (turn:Int):Array Value:=#[.slice X.ua m X.uc,.slice X.da k X.dc,iv turn,.map (some X.rb),.slice X.pa m X.pc,.slice X.ga k X.gc,.map (some X.mb)]
/-- a settlement in memory -/
structure StM (X:XB) (x:Stl) (w:World):Prop where
 blk:w.heap[X.xb]? = some (.cells (X.cells x.undo.length x.do.length x.turn) 98 (0,0))
 undo:SlR 5 OutR X.F w x.undo (.slice X.ua x.undo.length X.uc)
 «do»:SlR 5 OutR X.F w x.do (.slice X.da x.do.length X.dc)
 drop:SlR 3 OptR X.F w x.drop (.slice X.pa x.undo.length X.pc)
 give:SlR 3 OptR X.F w x.give (.slice X.ga x.do.length X.gc)
 ref:SetM X.rb x.refused w
 am:AmM X.mb 1048576 (amG x.amend x.undo.length x.do.length) w
 dl:x.drop.length=x.undo.length
 gl:x.give.length=x.do.length
 ul:x.undo.length≤32
 kl:x.do.length≤32
 fx:X.F X.xb∧X.F X.rb∧X.F X.mb
theorem StM.keep {X:XB} {x:Stl} {w w':World} (h:StM X x w) (hb:∀ k,k < w.heap.size→X.F k→w'.heap[k]? = w.heap[k]?):StM X x w':=by
 refine ⟨(hb _ (lt_of_heap h.blk) h.fx.1).trans h.blk,h.undo.move goodOut fun k hk hs=>⟨hs,hb k hk hs⟩,h.do.move goodOut fun k hk hs=>⟨hs,hb k hk hs⟩,h.drop.move goodOpt fun k hk hs=>⟨hs,hb k hk hs⟩,h.give.move goodOpt fun k hk hs=>⟨hs,hb k hk hs⟩,h.ref.same (hb _ h.ref.lt h.fx.2.1),h.am.same (hb _ h.am.lt h.fx.2.2),h.dl,h.gl,h.ul,h.kl,h.fx⟩
theorem StM.below {X:XB} {x:Stl} {w w':World} (h:StM X x w) (hb:Below w.heap.size w w'):StM X x w':=h.keep fun k hk _=>hb.block k hk
theorem StM.fields {X:XB} {x:Stl} {w:World} (h:StM X x w):w.cell? ⟨X.xb,0,none⟩=some (.slice X.ua x.undo.length X.uc)∧w.cell? ⟨X.xb,1,none⟩=some (.slice X.da x.do.length X.dc)∧w.cell? ⟨X.xb,2,none⟩=some (iv x.turn)∧w.cell? ⟨X.xb,3,none⟩=some (.map (some X.rb)) ∧
  w.cell? ⟨X.xb,4,none⟩=some (.slice X.pa x.undo.length X.pc)∧w.cell? ⟨X.xb,5,none⟩=some (.slice X.ga x.do.length X.gc)∧w.cell? ⟨X.xb,6,none⟩=some (.map (some X.mb)) :=
 ⟨(cell_of h.blk).trans rfl,(cell_of h.blk).trans rfl,(cell_of h.blk).trans rfl,(cell_of h.blk).trans rfl,(cell_of h.blk).trans rfl,(cell_of h.blk).trans rfl,(cell_of h.blk).trans rfl⟩
set_option maxRecDepth 100000 in
theorem StM.look {X:XB} {x:Stl} {w:World} (h:StM X x w) {r c:Nat} (hr:r < x.undo.length) (hc:c < x.do.length) :
  (Instr.lookup 95 (.map (some X.mb)) (.agg #[iv r,iv c]) true).run Tryz.prog w=.ok (.tuple #[.agg (match x.amend r c with | some o=>(optCs o).toArray | none=>#[iv 0,iv 0,iv 0]),.bool (x.amend r c).isSome]) w:=by
 have:=h.am.look (r:=r) (c:=c) (i64n (by have:=h.ul; omega)) (i64n (by have:=h.kl; omega))
 have e:amG x.amend x.undo.length x.do.length (r:Int) (c:Int)=x.amend r c:=by unfold amG; rw [if_pos (by omega)]; rfl
 rw [this,e]; cases x.amend r c <;> rfl
theorem StM.wt {X:XB} {x:Stl} {w:World} (h:StM X x w) {r:Nat} (hr:r < x.undo.length) :
  ∃ g o,(∀ kd W,(Instr.indexAt 96 (.slice X.pa x.undo.length X.pc) (.int kd r)).run Tryz.prog W=.ok (.pointer (some ⟨g,o,none⟩)) W)∧w.cell? ⟨g,o+2,none⟩=some (iv (x.op.drop r)):=by
 obtain ⟨y,hy⟩:∃ y,x.drop[r]? = some y:=⟨_,List.getElem?_eq_getElem (by have:=h.dl; omega)⟩; obtain ⟨g,o,cs,h1,h2,h3,h4,h5⟩:=h.drop.at (P:=Tryz.prog) (t:=96) (by kernel_rfl) (fun _=>by kernel_rfl) hy; refine ⟨g,o,h1,?_⟩
 have e:x.op.drop r=y.weight:=by show (match x.drop[r]? with | some o=>o.weight | none=>0)=_; rw [hy]
 rw [e]; exact h4 2 _ (by rw [show cs=optCs y from h5]; rfl)
theorem StM.wg {X:XB} {x:Stl} {w:World} (h:StM X x w) {r:Nat} (hr:r < x.do.length) :
  ∃ g o,(∀ kd W,(Instr.indexAt 96 (.slice X.ga x.do.length X.gc) (.int kd r)).run Tryz.prog W=.ok (.pointer (some ⟨g,o,none⟩)) W)∧w.cell? ⟨g,o+2,none⟩=some (iv (x.op.give r)):=by
 obtain ⟨y,hy⟩:∃ y,x.give[r]? = some y:=⟨_,List.getElem?_eq_getElem (by have:=h.gl; omega)⟩; obtain ⟨g,o,cs,h1,h2,h3,h4,h5⟩:=h.give.at (P:=Tryz.prog) (t:=96) (by kernel_rfl) (fun _=>by kernel_rfl) hy; refine ⟨g,o,h1,?_⟩
 have e:x.op.give r=y.weight:=by show (match x.give[r]? with | some o=>o.weight | none=>0)=_; rw [hy]
 rw [e]; exact h4 2 _ (by rw [show cs=optCs y from h5]; rfl)
set_option maxHeartbeats 40000000 in
set_option maxRecDepth 100000 in
theorem cell_any (X:XB) (x:Stl) (r c m k:Nat) (w:World) (h:StM X x w) (hm:m=x.undo.length) (hk:k=x.do.length) (hr:r < m+k) (hc:c < m+k) :
  Calls Tryz.prog 46 #[pt X.xb,iv r,iv c,iv m,iv k] w fun e w'=>e=.returned (iv (x.op.cell r c))∧Below w.heap.size w w':=by
 obtain ⟨f0,f1,f2,f3,f4,f5,f6⟩:=h.fields; have hul:=h.ul; have hkl:=h.kl
 have w1:IntKind.i64.wrap ((k:Int)+(r:Int))=((k+r:Nat):Int):=by rw [IntKind.wrap_i64]; omega
 have w2:IntKind.i64.wrap ((m:Int)+(c:Int))=((m+c:Nat):Int):=by rw [IntKind.wrap_i64]; omega
 have hop:x.op.m=m∧x.op.k=k:=⟨hm.symm,hk.symm⟩; obtain ⟨R,hR⟩:∃ R,R=x.op.cell r c:=⟨_,rfl⟩; rw [← hR]; unfold Pl.Op.cell at hR; rw [hop.1,hop.2] at hR; by_cases hrm:r < m
 ·have q1:decide ((r:Int) < (m:Int))=true:=decide_eq_true (by omega)
  have q1':decide ((m:Int)≤(r:Int))=false:=decide_eq_false (by omega); by_cases hck:c < k
  ·have q2:decide ((c:Int) < (k:Int))=true:=decide_eq_true (by omega)
   rw [if_pos ⟨hrm,hck⟩] at hR; have hl:=h.look (r:=r) (c:=c) (by omega) (by omega)
   replace hR:R=match x.amend r c with | some o=>o.weight | none=>-1:=hR
   clear f0 f1 f2 f3 f4 f5
   cases ha:x.amend r c with
   | some o =>
    rw [ha] at hl hR; replace hl:(Instr.lookup 95 (.map (some X.mb)) (.agg #[iv r,iv c]) true).run Tryz.prog w=.ok (.tuple #[.agg #[iv o.kind,iv o.cost,iv o.weight],.bool true]) w:=hl; replace hR:R=o.weight:=hR; subst hR; replace h:=hid h; replace ha:=hid ha; replace hop:=hid hop; replace hm:=hid hm; replace hk:=hid hk
    go_enter Tryz.func46,Tryz.ntmps46
    go_wp2_with fail
    go_ret; exact ⟨rfl,(Below.refl _ w).alloc (Nat.le_refl _) _⟩
   | none =>
    rw [ha] at hl hR; replace hl:(Instr.lookup 95 (.map (some X.mb)) (.agg #[iv r,iv c]) true).run Tryz.prog w=.ok (.tuple #[.agg #[iv 0,iv 0,iv 0],.bool false]) w:=hl; replace hR:R = -1:=hR; subst hR; replace ha:=hid ha; replace h:=hid h; replace hop:=hid hop; replace hm:=hid hm; replace hk:=hid hk
    go_enter Tryz.func46,Tryz.ntmps46
    go_wp2_with fail
    go_ret; exact ⟨rfl,(Below.refl _ w).alloc (Nat.le_refl _) _⟩
  ·have q2:decide ((c:Int) < (k:Int))=false:=decide_eq_false (by omega)
   have q2':decide ((k:Int)≤(c:Int))=true:=decide_eq_true (by omega); rw [if_neg (fun e=>hck e.2)] at hR; by_cases hcr:c=k+r
   ·rw [if_pos ⟨hrm,hcr⟩] at hR
    obtain ⟨g,o,i1,e1⟩:=h.wt (r:=r) (by omega); rw [← hR] at e1
    have hcr1:((c:Int) == ((k+r:Nat):Int))=true:=by simp; omega
    have hcr2:decide ((c:Int)=((k+r:Nat):Int))=true:=decide_eq_true (by omega); clear f0 f1 f2 f3 f5 f6; replace hR:=hid hR; replace hcr:=hid hcr; replace h:=hid h; replace hop:=hid hop; replace hm:=hid hm; replace hk:=hid hk
    go_enter Tryz.func46,Tryz.ntmps46
    go_wp2_with fail
    go_ret; exact ⟨rfl,Below.refl _ w⟩
   ·rw [if_neg (fun e=>hcr e.2),if_neg (fun e=>hck e.1),if_neg (by omega)] at hR
    have hcr1:((c:Int) == ((k+r:Nat):Int))=false:=by simp; omega
    have hcr2:decide ((c:Int)=((k+r:Nat):Int))=false:=decide_eq_false (by omega)
    have hcr3:¬ ((c:Int)=((k+r:Nat):Int)):=by omega
    subst hR; clear f0 f1 f2 f3 f4 f5 f6; replace h:=hid h; replace hop:=hid hop; replace hm:=hid hm; replace hk:=hid hk
    go_enter Tryz.func46,Tryz.ntmps46
    go_wp2_with fail
    go_ret; exact ⟨rfl,Below.refl _ w⟩
 ·have q1:decide ((r:Int) < (m:Int))=false:=decide_eq_false (by omega)
  have q1':decide ((m:Int)≤(r:Int))=true:=decide_eq_true (by omega); rw [if_neg (fun e=>hrm e.1),if_neg (fun e=>hrm e.1)] at hR; by_cases hck:c < k
  ·have q2:decide ((c:Int) < (k:Int))=true:=decide_eq_true (by omega)
   have q2':decide ((k:Int)≤(c:Int))=false:=decide_eq_false (by omega); by_cases hcr:r=m+c
   ·rw [if_pos ⟨hck,hcr⟩] at hR
    obtain ⟨g,o,i1,e1⟩:=h.wg (r:=c) (by omega); rw [← hR] at e1
    have hcr1:((r:Int) == ((m+c:Nat):Int))=true:=by simp; omega
    have hcr2:decide ((r:Int)=((m+c:Nat):Int))=true:=decide_eq_true (by omega); clear f0 f1 f2 f3 f4 f6; replace hR:=hid hR; replace hcr:=hid hcr; replace h:=hid h; replace hop:=hid hop; replace hm:=hid hm; replace hk:=hid hk
    go_enter Tryz.func46,Tryz.ntmps46
    go_wp2_with fail
    go_ret; exact ⟨rfl,Below.refl _ w⟩
   ·rw [if_neg (fun e=>hcr e.2),if_neg (by omega)] at hR
    have hcr1:((r:Int) == ((m+c:Nat):Int))=false:=by simp; omega
    have hcr2:decide ((r:Int)=((m+c:Nat):Int))=false:=decide_eq_false (by omega)
    have hcr3:¬ ((r:Int)=((m+c:Nat):Int)):=by omega
    subst hR; clear f0 f1 f2 f3 f4 f5 f6; replace h:=hid h; replace hop:=hid hop; replace hm:=hid hm; replace hk:=hid hk
    go_enter Tryz.func46,Tryz.ntmps46
    go_wp2_with fail
    go_ret; exact ⟨rfl,Below.refl _ w⟩
  ·have q2:decide ((c:Int) < (k:Int))=false:=decide_eq_false (by omega)
   have q2':decide ((k:Int)≤(c:Int))=true:=decide_eq_true (by omega); rw [if_neg (fun e=>hck e.1),if_pos (by omega)] at hR; subst hR; clear f0 f1 f2 f3 f4 f5 f6; replace h:=hid h; replace hop:=hid hop; replace hm:=hid hm; replace hk:=hid hk
   go_enter Tryz.func46,Tryz.ntmps46
   go_wp2_with fail
   go_ret; exact ⟨rfl,Below.refl _ w⟩
end Go.Proofs.YtfejagpjahoibaaGreatDoor
