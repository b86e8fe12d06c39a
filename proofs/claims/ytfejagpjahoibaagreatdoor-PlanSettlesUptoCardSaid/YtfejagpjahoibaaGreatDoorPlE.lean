/- plan, walks: prepare. -/
import Derived.Test.YtfejagpjahoibaaGreatDoorPlR
import Derived.Deep.LoopGhost
import Derived.Deep.RegionHeld3
set_option linter.unusedVariables false
set_option linter.unusedSimpArgs false
namespace Go.Proofs.YtfejagpjahoibaaGreatDoor
open Go.RowKit
open Go.Lib (hid)
def giveF (turn:Int) (R:List (List UInt8)) (fo:Option Offer) (d:Out):Opt:=match fo with
 | none=>opt0
 | some o=>if decide (o.do≠-1) && allowF turn R 1 [] d.key then ⟨1,o.do,o.do⟩ else opt0
def amdF (turn:Int) (R:List (List UInt8)) (fo:Option Offer) (u d:Out):Option Opt:=match fo with
 | none=>none
 | some o=>if decide (u.name=d.name) && decide (o.amend≠-1) && allowF turn R 4 u.key d.key then some ⟨4,o.amend,o.amend⟩ else none
/-- the settlement with its options -/
def stlF (l:List Offer) (undo «do»:List Out) (clock turn:Int) (rf:List (List UInt8)):Stl :=
 ⟨undo,«do»,turn,rf,undo.map fun u=>dropF turn rf (findF l u.name) u clock,«do».map fun d=>giveF turn rf (findF l d.name) d,
  fun r c=>match undo[r]?,«do»[c]? with | some u,some d=>amdF turn rf (findF l u.name) u d | _,_=>none⟩
def okArg (l:List Offer) (undo «do»:List Out):Prop:=(l=[]∨CatOk l)∧distF undo=true∧distF «do» = true
open Classical in
noncomputable def prepE (l:List Offer) (undo «do»:List Out):Int:=if okArg l undo «do» then (if undo.length≤32∧«do».length≤32 then 0 else 3) else 1
structure PIn (S:Foot) (l:List Offer) (undo «do»:List Out) (rf:List (List UInt8)) (vl vu vd vr:Value) (w:World):Prop where
 l1:l.length≤1048576
 l2:∀ o∈l,o.name.length≤1048576∧∀ z∈[o.do,o.undo,o.due,o.part,o.amend],-9223372036854775808≤z∧z≤9223372036854775807
 lr:SlR 6 OffR S w l vl
 u1:undo.length≤1000000
 u2:∀ o∈undo,o.key.length≤1000
 ur:SlR 5 OutR S w undo vu
 d1:«do».length≤1000000
 d2:∀ o∈«do»,o.key.length≤1000
 dr:SlR 5 OutR S w «do» vd
 r1:rf.length≤1000000
 r2:∀ s∈rf,s.length≤1048576
 rr:SlR 1 StrR S w rf vr
 tb:Tabs w
theorem PIn.below {S:Foot} {l:List Offer} {undo «do»:List Out} {rf:List (List UInt8)} {vl vu vd vr:Value} {w w':World} (h:PIn S l undo «do» rf vl vu vd vr w) (hb:Below w.heap.size w w'):PIn S l undo «do» rf vl vu vd vr w' :=
 ⟨h.l1,h.l2,h.lr.below goodOff hb,h.u1,h.u2,h.ur.below goodOut hb,h.d1,h.d2,h.dr.below goodOut hb,h.r1,h.r2,h.rr.below goodStr hb,h.tb.below hb⟩
def PPost (S:Foot) (l:List Offer) (undo «do»:List Out) (clock turn:Int) (rf:List (List UInt8)) (w:World) (e:Ending) (w':World):Prop :=
 Below w.heap.size w w'∧((prepE l undo «do»≠0∧e=.returned (.tuple #[.pointer none,iv (prepE l undo «do»)])) ∨
  (prepE l undo «do» = 0∧∃ X:XB,e=.returned (.tuple #[pt X.xb,iv 0])∧w.heap.size≤X.xb∧StM X (stlF l undo «do» clock turn rf) w'∧∀ q,X.F q→(S q∨w.heap.size≤q)∧q < w'.heap.size))
theorem find_right {l:List Offer} (h:l=[]∨CatOk l):∀ n o,findF l n=some o→rightF o=true:=fun n o ho=>by
 rcases h with h | h
 ·subst h; cases ho
 ·exact h.2.1 o (List.mem_of_find?_eq_some ho)
theorem prm_start {w0 w:World} {ua da:Option Addr} {uc dc m k:Nat} {turn:Int} (hb:Below w0.heap.size w0 w) :
  PrM w0 (w.heap.size+1+1) w.heap.size (w.heap.size+1) ua da uc dc m k turn [] [] [] (.slice none 0 0) (.slice none 0 0) 0 (fun _ _=>none) []
   (((w.alloc (.map #[] 0)).alloc (.map #[] 0)).alloc (.cells #[.slice ua m uc,.slice da k dc,iv turn,.map (some w.heap.size),.slice none 0 0,.slice none 0 0,.map (some (w.heap.size+1))] 98 (0,0))):=by
 have b1:Below w.heap.size w (w.alloc (.map #[] 0)):=(Below.refl _ w).alloc (Nat.le_refl _) _; have m1:=SetM.made w
 have s1:(w.alloc (.map #[] 0)).heap.size=w.heap.size+1:=by simp
 generalize w.alloc (.map #[] 0)=W1 at *; have b2:Below W1.heap.size W1 (W1.alloc (.map #[] 0)):=(Below.refl _ W1).alloc (Nat.le_refl _) _; have m2:=AmM.made W1
 have s2:(W1.alloc (.map #[] 0)).heap.size=w.heap.size+1+1:=by simp; omega
 generalize W1.alloc (.map #[] 0)=W2 at *
 have b3:∀ o,Below W2.heap.size W2 (W2.alloc o):=fun o=>(Below.refl _ W2).alloc (Nat.le_refl _) _
 have hn:=fun o=>heap_alloc_new' W2 o
 rw [s2] at hn; rw [s1] at m2; have hs:=hb.size; exact ⟨hn _,(m1.below b2).below (b3 _),m2.below (b3 _),OO.nil _,OO.nil _,hb.trans ((b1.mono hs).trans ((b2.mono (by omega)).trans ((b3 _).mono (by omega)))),⟨by omega,by omega,by omega⟩,⟨by omega,by omega,by omega⟩,fun q hq=>by simp [Value.ownBlock] at hq,fun q hq=>by simp [Value.ownBlock] at hq,fun p hp=>by cases hp⟩
/-- the amendments found so far: rows below i, and of row i the columns below j -/
def amP (A:Nat→Nat→Option Opt) (k i j:Nat) (r c:Int):Option Opt:=if 0≤r∧0≤c∧((r < i∧c < k)∨(r=i∧c < j)) then A r.toNat c.toNat else none
theorem amP_zero (A:Nat→Nat→Option Opt) (k:Nat) (r c:Int):amP A k 0 0 r c=none:=if_neg (by omega)
theorem amP_row (A:Nat→Nat→Option Opt) (k i:Nat) (r c:Int):amP A k (i+1) 0 r c=amP A k i k r c:=by
 unfold amP; by_cases h:0≤r∧0≤c∧((r < i∧c < k)∨(r=i∧c < k))
 ·rw [if_pos h,if_pos (by omega)]
 ·rw [if_neg h,if_neg (by omega)]
theorem amP_all (A:Nat→Nat→Option Opt) (m k:Nat) (r c:Int):amG A m k r c=amP A k m 0 r c:=by
 unfold amP amG; by_cases h:0≤r∧r < m∧0≤c∧c < k
 ·rw [if_pos h,if_pos (by omega)]
 ·rw [if_neg h,if_neg (by omega)]
theorem amP_some {A:Nat→Nat→Option Opt} {k i j:Nat} {o:Opt} (h:A i j=some o) (r c:Int):amP A k i (j+1) r c=if r=i∧c=j then some o else amP A k i j r c:=by
 unfold amP; by_cases h1:r=i∧c=j
 ·rw [if_pos h1,if_pos (by omega),h1.1,h1.2]; exact h
 ·rw [if_neg h1]
  by_cases h2:0≤r∧0≤c∧((r < i∧c < k)∨(r=i∧c < j))
  ·rw [if_pos h2,if_pos (by omega)]
  ·rw [if_neg h2,if_neg (by omega)]
theorem amP_none {A:Nat→Nat→Option Opt} {k i j:Nat} (h:A i j=none) (r c:Int):amP A k i (j+1) r c=amP A k i j r c:=by
 unfold amP; by_cases h2:0≤r∧0≤c∧((r < i∧c < k)∨(r=i∧c < j))
 ·rw [if_pos h2,if_pos (by omega)]
 ·rw [if_neg h2]
  by_cases h1:r=i∧c=j
  ·rw [if_pos (by omega),h1.1,h1.2]; exact h
  ·rw [if_neg (by omega)]
theorem cells6 {w:World} {b:Nat} {a0 a1 a2 a3 a4 a5:Value} {t:TypeId} {f:Nat × Nat} (h:w.heap[b]? = some (.cells #[a0,a1,a2,a3,a4,a5] t f)):w.cell? ⟨b,0,none⟩=some a0∧w.cell? ⟨b,1,none⟩=some a1∧w.cell? ⟨b,2,none⟩=some a2∧w.cell? ⟨b,3,none⟩=some a3∧w.cell? ⟨b,4,none⟩=some a4∧w.cell? ⟨b,5,none⟩=some a5 :=
 ⟨(cell_of h).trans rfl,(cell_of h).trans rfl,(cell_of h).trans rfl,(cell_of h).trans rfl,(cell_of h).trans rfl,(cell_of h).trans rfl⟩
theorem cells5 {w:World} {b:Nat} {a0 a1 a2 a3 a4:Value} {t:TypeId} {f:Nat × Nat} (h:w.heap[b]? = some (.cells #[a0,a1,a2,a3,a4] t f)):w.cell? ⟨b,0,none⟩=some a0∧w.cell? ⟨b,1,none⟩=some a1∧w.cell? ⟨b,2,none⟩=some a2∧w.cell? ⟨b,3,none⟩=some a3∧w.cell? ⟨b,4,none⟩=some a4 :=
 ⟨(cell_of h).trans rfl,(cell_of h).trans rfl,(cell_of h).trans rfl,(cell_of h).trans rfl,(cell_of h).trans rfl⟩
set_option maxHeartbeats 40000000 in
set_option maxRecDepth 100000 in
theorem prepare_any (S:Foot) (l:List Offer) (undo «do»:List Out) (clock turn:Int) (rf:List (List UInt8)) (vl vu vd vr:Value) (w:World) (h:PIn S l undo «do» rf vl vu vd vr w) :
  Calls Tryz.prog 15 #[vl,vu,vd,iv clock,iv turn,vr] w (PPost S l undo «do» clock turn rf w):=by
 obtain ⟨la,lc,rfl,-⟩:=h.lr.slice; obtain ⟨ua,uc,rfl,-⟩:=h.ur.slice; obtain ⟨da,dc,rfl,-⟩:=h.dr.slice; obtain ⟨ra,rc,rfl,-⟩:=h.rr.slice; have hw:=hid (fun W (hW:Below w.heap.size w W)=>cwrite_any l S _ W h.l1 h.l2 (h.lr.below goodOff hW) (hid (h.tb.below hW).t)); have hdu:=hid (fun W (hW:Below w.heap.size w W)=>distinct_any undo S _ W h.u1 (fun o ho=>by have:=h.u2 o ho; omega) (h.ur.below goodOut hW)); have hdd:=hid (fun W (hW:Below w.heap.size w W)=>distinct_any «do» S _ W h.d1 (fun o ho=>by have:=h.d2 o ho; omega) (h.dr.below goodOut hW)); obtain ⟨b,hb⟩:∃ b:Bool,(b=true ↔ ¬ okArg l undo «do»):=⟨@decide _ (Classical.propDecidable _),@decide_eq_true_iff _ (Classical.propDecidable _)⟩; replace h:=hid h; replace hb:=hid hb
 generalize hPQ:PPost S l undo «do» clock turn rf w=PQ
 replace hPQ:=hid hPQ
 go_enter Tryz.func15,Tryz.ntmps15
 go_upto_region 1 with (fail)
 go_cut [45] (fun v45 wx=>v45=.bool b∧Hid (Below w.heap.size w wx))
 case first =>
  by_cases hl0:0 < l.length
  ·have q1:decide ((0:Int) < (l.length:Int))=true:=decide_eq_true (by omega)
   have q1':decide (0 < l.length)=true:=decide_eq_true hl0
   go_wp2_with fail
   refine (hw.out w (Below.refl _ w)).mono ?_; rintro e W1 ⟨t,rfl,ht1,ht2,hbW⟩; have hB1:=hid hbW; clear hw hbW; rcases t with _ | ⟨tc,tr⟩
   ·have e:b=true:=hb.out.2 fun ok=>by
     rcases ok.1 with e | e
     ·rw [e] at hl0; exact absurd hl0 (by simp)
     ·exact ht1 e (by intro e; rw [e] at hl0; exact absurd hl0 (by simp)) rfl
    subst e; clear ht1 ht2
    go_wp2_with fail
    go_meet
    case rel=>exact ⟨rfl,hB1⟩
   ·have hok1:Hid (l=[]∨CatOk l):=hid (Or.inr (Classical.byContradiction fun hc=>by have:=ht2 hc; cases this))
    clear ht1 ht2
    go_wp2_with fail
    have hd1:=hid (hdu.out _ hB1.out); refine hd1.out.mono ?_; rintro e W2 ⟨rfl,hb2⟩; have hB2:=hid (hB1.out.trans (hb2.mono hB1.out.size)); clear hb2 hd1 hB1
    cases hx1:distF undo with
    | false =>
     have e:b=true:=hb.out.2 fun ok=>by have:=ok.2.1; rw [hx1] at this; cases this
     subst e; clear hx1
     go_wp2_with fail
     go_meet
     case rel=>exact ⟨rfl,hB2⟩
    | true =>
     clear hdu; replace hx1:=hid hx1
     go_wp2_with fail
     have hd2:=hid (hdd.out _ hB2.out); refine hd2.out.mono ?_; rintro e W3 ⟨rfl,hb3⟩; have hB3:=hid (hB2.out.trans (hb3.mono hB2.out.size)); clear hb3 hd2 hB2
     cases hx2:distF «do» with
     | false =>
      have e:b=true:=hb.out.2 fun ok=>by have:=ok.2.2; rw [hx2] at this; cases this
      subst e; clear hx2
      go_wp2_with fail
      go_meet
      case rel=>exact ⟨rfl,hB3⟩
     | true =>
      have e:b=false:=by
       cases hbb:b with
       | false=>rfl
       | true=>exact absurd ⟨hok1.out,hx1.out,hx2⟩ (hb.out.1 hbb)
      subst e; clear hx2
      go_wp2_with fail
      go_meet
      case rel=>exact ⟨rfl,hB3⟩
  ·have q1:decide ((0:Int) < (l.length:Int))=false:=decide_eq_false (by omega)
   have q1':decide (0 < l.length)=false:=decide_eq_false hl0; have hok1:Hid (l=[]∨CatOk l):=hid (Or.inl (List.eq_nil_of_length_eq_zero (by omega))); have hB1:=hid (Below.refl w.heap.size w); clear hw
   go_wp2_with fail
   have hd1:=hid (hdu.out _ hB1.out); refine hd1.out.mono ?_; rintro e W2 ⟨rfl,hb2⟩; have hB2:=hid (hB1.out.trans (hb2.mono hB1.out.size)); clear hb2 hd1 hB1
   cases hx1:distF undo with
   | false =>
    have e:b=true:=hb.out.2 fun ok=>by have:=ok.2.1; rw [hx1] at this; cases this
    subst e; clear hx1
    go_wp2_with fail
    go_meet
    case rel=>exact ⟨rfl,hB2⟩
   | true =>
    clear hdu; replace hx1:=hid hx1
    go_wp2_with fail
    have hd2:=hid (hdd.out _ hB2.out); refine hd2.out.mono ?_; rintro e W3 ⟨rfl,hb3⟩; have hB3:=hid (hB2.out.trans (hb3.mono hB2.out.size)); clear hb3 hd2 hB2
    cases hx2:distF «do» with
    | false =>
     have e:b=true:=hb.out.2 fun ok=>by have:=ok.2.2; rw [hx2] at this; cases this
     subst e; clear hx2
     go_wp2_with fail
     go_meet
     case rel=>exact ⟨rfl,hB3⟩
    | true =>
     have e:b=false:=by
      cases hbb:b with
      | false=>rfl
      | true=>exact absurd ⟨hok1.out,hx1.out,hx2⟩ (hb.out.1 hbb)
     subst e; clear hx2
     go_wp2_with fail
     go_meet
     case rel=>exact ⟨rfl,hB3⟩
 case rest =>
  obtain ⟨rfl,hB⟩:=hcut; clear hw hdu hdd
  cases b with
  | true =>
   have he:prepE l undo «do» = 1:=if_neg (hb.out.1 rfl)
   have hfin:Hid (∀ W,Below w.heap.size w W→PQ (.returned (.tuple #[.pointer none,iv 1])) W):=hid fun W hW=>by rw [← hPQ.out]; exact ⟨hW,Or.inl ⟨by rw [he]; decide,by rw [he]⟩⟩
   clear he
   go_wp2_with fail
   skip
   exact hfin.out _ hB.out
  | false =>
   have hok:okArg l undo «do»:=Classical.byContradiction fun hc=>by have:=hb.out.2 hc; cases this
   by_cases hsm:undo.length≤32∧«do».length≤32
   ·have hpe:prepE l undo «do» = 0:=(if_pos hok).trans (if_pos hsm)
    obtain ⟨hu32,hd32⟩:=hsm; have q1:decide ((32:Int) < (undo.length:Int))=false:=decide_eq_false (by omega); have q1':decide (32 < undo.length)=false:=decide_eq_false (by omega); have q2:decide ((32:Int) < («do».length:Int))=false:=decide_eq_false (by omega); have q2':decide (32 < «do».length)=false:=decide_eq_false (by omega); have hP0:=hid (prm_start (turn:=turn) (ua:=ua) (uc:=uc) (da:=da) (dc:=dc) (m:=undo.length) (k:=«do».length) hB.out); have hcat:Hid (∀ n o,findF l n=some o→rightF o=true):=hid (find_right hok.1); replace hok:=hid hok; replace hpe:=hid hpe; have mk1:(Instr.makeMap 94 none).run Tryz.prog wc=.ok (.map (some wc.heap.size)) (wc.alloc (.map #[] 0)):=run_makeMap _ _
    have mk2:(Instr.makeMap 95 none).run Tryz.prog (wc.alloc (.map #[] 0))=.ok (.map (some (wc.alloc (.map #[] 0)).heap.size)) ((wc.alloc (.map #[] 0)).alloc (.map #[] 0)):=run_makeMap _ _; rw [show (wc.alloc (.map #[] 0)).heap.size=wc.heap.size+1 by simp] at mk2; obtain ⟨xb,hxb⟩:∃ x,x=wc.heap.size+1+1:=⟨_,rfl⟩; obtain ⟨rb,hrb⟩:∃ x,x=wc.heap.size:=⟨_,rfl⟩; obtain ⟨mb,hmb⟩:∃ x,x=wc.heap.size+1:=⟨_,rfl⟩; clear hb
    go_upto_region 6 with (fail)
    go_cut [14,61,62,63] (fun v14 v61 v62 v63 wx=>v14=pt xb∧v61=.slice ra rf.length rc∧v62=iv rf.length∧v63=iv 0∧Hid (PrM w xb rb mb ua da uc dc undo.length «do».length turn [] [] [] (.slice none 0 0) (.slice none 0 0) 0 (fun _ _=>none) [] wx))
    case first =>
     go_wp2_with fail
     go_meet
     case rel=>exact ⟨by rw [hxb],rfl,rfl,rfl,by rw [hxb,hrb,hmb]; exact hP0⟩
    case rest =>
     obtain ⟨rfl,rfl,rfl,rfl,hP⟩:=hcut; clear hP0 mk1 mk2 hxb hrb hmb hB
     go_wp2_with fail
     go_loopg [63] rf.length (fun f v63 wr=>∃ i:Nat,v63=iv i∧i+f=rf.length∧Hid (PrM w xb rb mb ua da uc dc undo.length «do».length turn (rf.take i).reverse [] [] (.slice none 0 0) (.slice none 0 0) 0 (fun _ _=>none) [] wr))
     case atStart=>exact ⟨0,rfl,by omega,hP⟩
     case round =>
      obtain ⟨i,rfl,hif,hR⟩:=hrel; clear hP; by_cases hin:i < rf.length
      ·have q3:decide ((i:Int) < (rf.length:Int))=true:=decide_eq_true (by omega)
       have q3':decide (i < rf.length)=true:=decide_eq_true hin; obtain ⟨s,hs⟩:∃ s,rf[i]? = some s:=⟨_,List.getElem?_eq_getElem hin⟩; have hrl:=h.out.r1; have hsl:=h.out.r2 s (List.mem_of_getElem? hs); obtain ⟨g,o,cs,hidx,hS',hg,hc,hRs⟩:=(h.out.rr.below goodStr hR.out.bel).at (P:=Tryz.prog) (t:=24) (by kernel_rfl) (fun _=>by kernel_rfl) hs; have hcs:cs=[sv s]:=hRs; subst hcs; have c0:=hc 0 _ rfl; rw [Nat.add_zero] at c0; have d3:=(cell_of (i:=3) hR.out.blk).trans rfl; obtain ⟨W1,hup,hR1⟩:=hR.out.putR (s:=s) hsl (by rw [List.length_reverse,List.length_take]; have:=h.out.r1; omega)
       have hR2:=hid (show PrM w xb rb mb ua da uc dc undo.length «do».length turn (rf.take (i+1)).reverse [] [] (.slice none 0 0) (.slice none 0 0) 0 (fun _ _=>none) [] W1 from by rw [List.take_add_one,hs,List.reverse_append]; exact hR1); clear hc hRs hS' hg hs hR1
       go_wp2_with fail
       go_roundg (rf.length - (i+1))
       case measure=>omega
       case rel=>exact ⟨i+1,by go_num,by omega,hR2⟩
      ·have q3:decide ((i:Int) < (rf.length:Int))=false:=decide_eq_false (by omega)
       have q3':decide (i < rf.length)=false:=decide_eq_false hin; have hR0:=hid (show PrM w xb rb mb ua da uc dc undo.length «do».length turn rf [] [] (.slice none 0 0) (.slice none 0 0) 0 (amP (stlF l undo «do» clock turn rf).amend «do».length 0 0) [] wr from (hR.out.perm (by rw [List.take_of_length_le (by omega)]; exact List.reverse_perm _)).congr fun r c _ _=>amP_zero _ _ r c); clear hR
       go_wp2_with fail
       obtain ⟨D,hD⟩:∃ D:Out→Opt,D=fun u=>dropF turn rf (findF l u.name) u clock:=⟨_,rfl⟩
       obtain ⟨A,hA⟩:∃ A,A=(stlF l undo «do» clock turn rf).amend:=⟨_,rfl⟩; rw [← hA] at hR0; replace hD:=hid hD; replace hA:=hid hA
       obtain ⟨n,hn⟩:∃ n,n = «do».length:=⟨_,rfl⟩
       go_loopg [75] undo.length (fun f v75 wr=>∃ (i M:Nat) (va:Value),v75=iv i∧i+f=undo.length∧Hid (PrM w xb rb mb ua da uc dc undo.length «do».length turn rf ((undo.take i).map D) [] va (.slice none 0 0) M (amP A «do».length i 0) [] wr)∧Hid (M≤i * 32))
       case atStart=>exact ⟨0,0,_,rfl,by omega,hR0,hid (by omega)⟩
       case round =>
        obtain ⟨i,M,va,rfl,hif,hR,hM⟩:=hrel; clear hR0; by_cases hin:i < undo.length
        ·have q4:decide ((i:Int) < (undo.length:Int))=true:=decide_eq_true (by omega)
         have q4':decide (i < undo.length)=true:=decide_eq_true hin; obtain ⟨u,hu⟩:∃ u,undo[i]? = some u:=⟨_,List.getElem?_eq_getElem hin⟩; have hukl:=h.out.u2 u (List.mem_of_getElem? hu); obtain ⟨g,o,cs,hidx,hS',hg,hc,hRu⟩:=(h.out.ur.below goodOut hR.out.bel).at (P:=Tryz.prog) (t:=23) (by kernel_rfl) (fun _=>by kernel_rfl) hu; obtain ⟨ky,nm,ar,pb,tk⟩:=u; obtain ⟨a1,k1,rfl,-⟩:=hRu; obtain ⟨z1,hz1⟩:∃ z,z=Value.slice a1 ar.length k1:=⟨_,rfl⟩; have c0:=hc 0 _ rfl; have c1:=hc 1 _ rfl; have c2:=hc 2 _ rfl; have c3:=hc 3 _ rfl; have c4:=hc 4 _ rfl; rw [Nat.add_zero] at c0; replace c0:wr.cell? ⟨g,o,none⟩=some (sv ky):=c0; replace c1:wr.cell? ⟨g,o+1,none⟩=some (sv nm):=c1; replace c2:wr.cell? ⟨g,o+2,none⟩=some (.slice a1 ar.length k1):=c2
         replace c3:wr.cell? ⟨g,o+3,none⟩=some (.bool pb):=c3; replace c4:wr.cell? ⟨g,o+4,none⟩=some (iv tk):=c4; clear hc hS' hg; have hP1:=hid (hR.out.alloc (.cells #[sv ky,sv nm,.slice a1 ar.length k1,.bool pb,iv tk] 37 (0,0))); obtain ⟨ub,hub⟩:∃ q,q=wr.heap.size:=⟨_,rfl⟩; obtain ⟨W1,hW1⟩:∃ W,W=wr.alloc (.cells #[sv ky,sv nm,.slice a1 ar.length k1,.bool pb,iv tk] 37 (0,0)):=⟨_,rfl⟩; rw [← hW1,← hub] at hP1; have hfind:=cfind_any l nm S _ W1 h.out.l1 (h.out.lr.below goodOff hP1.out.bel); have hor:=hcat.out nm; obtain ⟨fo,hfo⟩:∃ fo,fo=findF l nm:=⟨_,rfl⟩; rw [← hfo] at hfind hor; obtain ⟨on,od,ud,du,pa,am,hX⟩:∃ on od ud du pa am,fo.getD off0=⟨on,od,ud,du,pa,am⟩:=⟨_,_,_,_,_,_,rfl⟩; rw [hX] at hfind
         obtain ⟨ok,hok2⟩:∃ b,b=fo.isSome:=⟨_,rfl⟩; rw [← hok2] at hfind; replace hfind:=hid hfind; replace hfo:=hid hfo; replace hX:=hid hX; replace hok2:=hid hok2; have hor':=hid hor; have hu':=hid hu; replace hW1:=hid hW1; replace hub:=hid hub; clear hor hu hz1 z1
         go_wp2_with fail
         rw [← hW1.out]; refine hfind.out.mono ?_; rintro e W2 ⟨rfl,hb2⟩; have hP2:=hid (hP1.out.below hb2); have uc2:=(hP2.out.kp _ (List.mem_singleton.2 rfl)).1; clear hfind hb2 c0 c1 c2 c3 c4 hP1; have hP3:=hP2.out.alloc (.cells #[sv on,iv od,iv ud,iv du,iv pa,iv am] 45 (0,0)); obtain ⟨ob,hob⟩:∃ q,q=W2.heap.size:=⟨_,rfl⟩; obtain ⟨W3,hW3⟩:∃ W,W=W2.alloc (.cells #[sv on,iv od,iv ud,iv du,iv pa,iv am] 45 (0,0)):=⟨_,rfl⟩; rw [← hW3,← hob] at hP3; have hPd:=hid (hP3.below ((Below.refl _ W3).drew:Below W3.heap.size W3 W3.drew)); obtain ⟨Du,hDu⟩:∃ x,x=D ⟨ky,nm,ar,pb,tk⟩:=⟨_,rfl⟩
         have hdrop:=fun W (hxa:XA xb rb turn rf W) (ht:Hid (Tabs W))=>dropping_any xb rb turn clock rf fo ⟨ky,nm,ar,pb,tk⟩ (.slice a1 ar.length k1) W hxa ht hukl (fun o ho=>by have:=right_parts (hor'.out o ho); exact this.2.2.1)
         have hDu2:dropF turn rf fo ⟨ky,nm,ar,pb,tk⟩ clock=Du:=by rw [hDu,hD.out,hfo.out]
         rw [hX.out,← hok2.out,hDu2] at hdrop; obtain ⟨e0,e1,e2⟩:=Du
         replace hdrop:∀ W,XA xb rb turn rf W→Hid (Tabs W)→Calls Tryz.prog 44 #[pt xb,.agg #[sv on,iv od,iv ud,iv du,iv pa,iv am],.bool ok,.agg #[sv ky,sv nm,.slice a1 ar.length k1,.bool pb,iv tk],iv clock] W fun e w'=>e=.returned (.agg #[iv e0,iv e1,iv e2])∧Below W.heap.size W w':=hdrop
         have hdl:((undo.take i).map D).length=i:=by rw [List.length_map,List.length_take]; omega
         have hnext:(undo.take i).map D++[⟨e0,e1,e2⟩]=(undo.take (i+1)).map D:=by rw [List.take_add_one,hu'.out,List.map_append,hDu]; rfl
         replace hdrop:=hid hdrop; replace hdl:=hid hdl; replace hnext:=hid hnext; clear hP3 hDu2 uc2 hP2 hDu; replace hW3:=hid hW3; replace hob:=hid hob
         go_upto_region 15 with (fail)
         rw [← hob.out,← hW3.out,← hub.out]
         go_cut [101] (fun v101 wx=>∃ va',Hid (PrM w xb rb mb ua da uc dc undo.length «do».length turn rf ((undo.take (i+1)).map D) [] va' (.slice none 0 0) M (amP A «do».length i 0) [(ob,.cells #[sv on,iv od,iv ud,iv du,iv pa,iv am] 45 (0,0)),(ub,.cells #[sv ky,sv nm,.slice a1 ar.length k1,.bool pb,iv tk] 37 (0,0))] wx))
         case first =>
          have o1:=(hPd.out.kp _ (List.mem_cons_self ..)).1; have o2:=(hPd.out.kp _ (List.mem_cons_of_mem _ (List.mem_cons_self ..))).1; have o4:=(cell_of (i:=4) hPd.out.blk).trans rfl; refine wp_region_held_drew (S:=fun w'=>w'.heap[ob]? = some (.cells #[sv on,iv od,iv ud,iv du,iv pa,iv am] 45 (0,0))∧w'.heap[ub]? = some (.cells #[sv ky,sv nm,.slice a1 ar.length k1,.bool pb,iv tk] 37 (0,0))) (by kernel_rfl) ?_ (fun hHeld=>?_)
          ·exact ⟨o1,o2⟩
          generalize W3.drew=Wd at *; refine wTk (i:=0) (v:=?_) rfl ?hy ?_
          case hy =>
           intro w hSw; obtain ⟨s1,s2⟩:=hSw; obtain ⟨z0,z1,z2,z3,z4,z5⟩:=cells6 s1; obtain ⟨y0,y1,y2,y3,y4⟩:=cells5 s2; go_simp
           all_goals with_reducible rfl
          try simp only [Act.put,sI,sZ,sS]
          refine wTk (i:=1) (v:=?_) rfl ?hy ?_
          case hy =>
           intro w hSw; obtain ⟨s1,s2⟩:=hSw; obtain ⟨z0,z1,z2,z3,z4,z5⟩:=cells6 s1; obtain ⟨y0,y1,y2,y3,y4⟩:=cells5 s2; go_simp
           all_goals with_reducible rfl
          try simp only [Act.put,sI,sZ,sS]
          refine wTk (i:=2) (v:=?_) rfl ?hy ?_
          case hy =>
           intro w hSw; obtain ⟨s1,s2⟩:=hSw; obtain ⟨z0,z1,z2,z3,z4,z5⟩:=cells6 s1; obtain ⟨y0,y1,y2,y3,y4⟩:=cells5 s2; go_simp
           all_goals with_reducible rfl
          try simp only [Act.put,sI,sZ,sS]
          refine wTk (i:=3) (v:=?_) rfl ?hy ?_
          case hy =>
           intro w hSw; obtain ⟨s1,s2⟩:=hSw; obtain ⟨z0,z1,z2,z3,z4,z5⟩:=cells6 s1; obtain ⟨y0,y1,y2,y3,y4⟩:=cells5 s2; go_simp
           all_goals with_reducible rfl
          try simp only [Act.put,sI,sZ,sS]
          refine wTk (i:=5) (v:=?_) rfl ?hy ?_
          case hy =>
           intro w hSw; obtain ⟨s1,s2⟩:=hSw; obtain ⟨z0,z1,z2,z3,z4,z5⟩:=cells6 s1; obtain ⟨y0,y1,y2,y3,y4⟩:=cells5 s2; go_simp
           all_goals with_reducible rfl
          try simp only [Act.put,sI,sZ,sS]
          refine wTk (i:=6) (v:=?_) rfl ?hy ?_
          case hy =>
           intro w hSw; obtain ⟨s1,s2⟩:=hSw; obtain ⟨z0,z1,z2,z3,z4,z5⟩:=cells6 s1; obtain ⟨y0,y1,y2,y3,y4⟩:=cells5 s2; go_simp
           all_goals with_reducible rfl
          try simp only [Act.put,sI,sZ,sS]
          refine wTk (i:=7) (v:=?_) rfl ?hy ?_
          case hy =>
           intro w hSw; obtain ⟨s1,s2⟩:=hSw; obtain ⟨z0,z1,z2,z3,z4,z5⟩:=cells6 s1; obtain ⟨y0,y1,y2,y3,y4⟩:=cells5 s2; go_simp
           all_goals with_reducible rfl
          try simp only [Act.put,sI,sZ,sS]
          refine wTk (i:=8) (v:=?_) rfl ?hy ?_
          case hy =>
           intro w hSw; obtain ⟨s1,s2⟩:=hSw; obtain ⟨z0,z1,z2,z3,z4,z5⟩:=cells6 s1; obtain ⟨y0,y1,y2,y3,y4⟩:=cells5 s2; go_simp
           all_goals with_reducible rfl
          try simp only [Act.put,sI,sZ,sS]
          refine wTk (i:=9) (v:=?_) rfl ?hy ?_
          case hy =>
           intro w hSw; obtain ⟨s1,s2⟩:=hSw; obtain ⟨z0,z1,z2,z3,z4,z5⟩:=cells6 s1; obtain ⟨y0,y1,y2,y3,y4⟩:=cells5 s2; go_simp
           all_goals with_reducible rfl
          try simp only [Act.put,sI,sZ,sS]
          refine wpAnyH_ready (rs:=[4,10]) (by as_aux_lemma=>kernel_rfl) (by simp) ?_; refine AllReadyH.cons (o:=⟨_,_,_,_,_,_⟩) rfl (fun KK hKK=>?_) (AllReadyH.cons (o:=⟨_,_,_,_,_,_⟩) rfl (fun KK hKK=>?_) AllReadyH.nil)
          all_goals clear hHeld
          ·go_simp
           skip
           refine hKK.out _ _ ?_ (fun hHeld2=>?_)
           ·exact ⟨o1,o2⟩
           clear hKK KK; have hHeld:=hHeld2; clear hHeld2
           try simp only [Act.put,sI,sZ,sS]
           refine wpAnyH_ready (rs:=[10]) (by as_aux_lemma=>kernel_rfl) (by simp) ?_; refine rdY rfl (fun K hK=>?_); go_simp
           go_at_call 44
           with_reducible refine (hdrop.out _ hPd.out.xa (hid (h.out.tb.below hPd.out.bel))).mono ?_
           rintro e W5 ⟨rfl,hb5⟩; have hP5:=hid (hPd.out.below hb5); have f1:=(hP5.out.kp _ (List.mem_cons_self ..)).1; have f2:=(hP5.out.kp _ (List.mem_cons_of_mem _ (List.mem_cons_self ..))).1; have f4:=(cell_of (i:=4) hP5.out.blk).trans rfl; have hpu:=hP5.out.pushA ⟨e0,e1,e2⟩ (by rw [hdl.out]; omega) 96; rw [hdl.out,hnext.out] at hpu; obtain ⟨a',c',W6,hap,⟨u6,hu6⟩,hfz,hP6⟩:=hpu; have g1:=(hP6.kp _ (List.mem_cons_self ..)).1; have g2:=(hP6.kp _ (List.mem_cons_of_mem _ (List.mem_cons_self ..))).1; have hAl:=hP5.out.alloc (.cells #[iv e0,iv e1,iv e2] 102 (0,0)); have j1:=(hAl.kp _ (List.mem_cons_of_mem _ (List.mem_cons_self ..))).1; have j2:=(hAl.kp _ (List.mem_cons_of_mem _ (List.mem_cons_of_mem _ (List.mem_cons_self ..)))).1; have j4:=(cell_of (i:=4) hAl.blk).trans rfl
           have hoxb:=(hP5.out.kp _ (List.mem_cons_self ..)).2.2.1; have huxb:=(hP5.out.kp _ (List.mem_cons_of_mem _ (List.mem_cons_self ..))).2.2.1; have m1:W6.heap[ob]? = some (.cells #[sv on,iv od,iv ud,iv du,iv pa,iv am] 45 (0,0)):=(heap_setCell_other (.slice a' (i+1) c') hoxb).symm.trans g1; have m2:W6.heap[ub]? = some (.cells #[sv ky,sv nm,.slice a1 ar.length k1,.bool pb,iv tk] 37 (0,0)):=(heap_setCell_other (.slice a' (i+1) c') huxb).symm.trans g2; replace hP6:=hid hP6; replace g1:(W6.setCell ⟨xb,4,none⟩ (.slice a' (i+1) c')).heap[ob]? = some (.cells #[sv on,iv od,iv ud,iv du,iv pa,iv am] 45 (0,0)):=g1; clear hb5 hAl hoxb huxb; refine hK.out _ _ ?_ (fun hHeld2=>?_)
           ·exact ⟨f1,f2⟩
           clear hK K; clear hHeld; have hHeld:=hHeld2; clear hHeld2
           try simp only [Act.put,sI,sZ,sS]
           refine wpAnyH_ready (rs:=[11]) (by as_aux_lemma=>kernel_rfl) (by simp) ?_; refine rdY rfl (fun K hK=>?_); go_simp
           skip
           refine hK.out _ _ ?_ (fun hHeld2=>?_)
           ·exact ⟨j1,j2⟩
           clear hK K; clear hHeld; have hHeld:=hHeld2; clear hHeld2
           try simp only [Act.put,sI,sZ,sS]
           refine wpAnyH_ready (rs:=[12]) (by as_aux_lemma=>kernel_rfl) (by simp) ?_; refine rdY rfl (fun K hK=>?_); refine step_append_shut (by rfl) (.tmp 91) (.tmp 98) (by rfl) (by rfl) (by rfl) hap ?_; refine hK.out _ _ ?_ (fun hHeld2=>?_)
           ·exact ⟨m1,m2⟩
           clear hK K hHeld; have hHeld:=hHeld2; clear hHeld2
           try simp only [Act.put,sI,sZ,sS]
           refine wTk (i:=13) (v:=?_) rfl ?hy ?_
           case hy =>
            intro w hSw; obtain ⟨s1,s2⟩:=hSw; obtain ⟨z0,z1,z2,z3,z4,z5⟩:=cells6 s1; obtain ⟨y0,y1,y2,y3,y4⟩:=cells5 s2; go_simp
            all_goals with_reducible rfl
           try simp only [Act.put,sI,sZ,sS]
           refine wTk (i:=14) (v:=?_) rfl ?hy ?_
           case hy =>
            intro w hSw; obtain ⟨s1,s2⟩:=hSw; obtain ⟨z0,z1,z2,z3,z4,z5⟩:=cells6 s1; obtain ⟨y0,y1,y2,y3,y4⟩:=cells5 s2; go_simp
            all_goals with_reducible rfl
           try simp only [Act.put,sI,sZ,sS]
           refine wpAnyH_ready (rs:=[15]) (by as_aux_lemma=>kernel_rfl) (by simp) ?_; refine rdY rfl (fun K hK=>?_); go_simp
           skip
           refine hK.out _ _ ?_ (fun hHeld2=>?_)
           ·exact ⟨g1,g2⟩
           clear hK K; clear hHeld; have hHeld:=hHeld2; clear hHeld2
           try simp only [Act.put,sI,sZ,sS]
           refine wpAnyH_done (by as_aux_lemma=>kernel_rfl) ?_ _
           go_wp2_with fail
           go_meet
           case rel=>exact ⟨_,hP6⟩
          ·go_simp
           go_at_call 44
           with_reducible refine (hdrop.out _ hPd.out.xa (hid (h.out.tb.below hPd.out.bel))).mono ?_
           rintro e W5 ⟨rfl,hb5⟩; have hP5:=hid (hPd.out.below hb5); have f1:=(hP5.out.kp _ (List.mem_cons_self ..)).1; have f2:=(hP5.out.kp _ (List.mem_cons_of_mem _ (List.mem_cons_self ..))).1; have f4:=(cell_of (i:=4) hP5.out.blk).trans rfl; have hpu:=hP5.out.pushA ⟨e0,e1,e2⟩ (by rw [hdl.out]; omega) 96; rw [hdl.out,hnext.out] at hpu; obtain ⟨a',c',W6,hap,⟨u6,hu6⟩,hfz,hP6⟩:=hpu; have g1:=(hP6.kp _ (List.mem_cons_self ..)).1; have g2:=(hP6.kp _ (List.mem_cons_of_mem _ (List.mem_cons_self ..))).1; have hAl:=hP5.out.alloc (.cells #[iv e0,iv e1,iv e2] 102 (0,0)); have j1:=(hAl.kp _ (List.mem_cons_of_mem _ (List.mem_cons_self ..))).1; have j2:=(hAl.kp _ (List.mem_cons_of_mem _ (List.mem_cons_of_mem _ (List.mem_cons_self ..)))).1; have j4:=(cell_of (i:=4) hAl.blk).trans rfl
           have hoxb:=(hP5.out.kp _ (List.mem_cons_self ..)).2.2.1; have huxb:=(hP5.out.kp _ (List.mem_cons_of_mem _ (List.mem_cons_self ..))).2.2.1; have m1:W6.heap[ob]? = some (.cells #[sv on,iv od,iv ud,iv du,iv pa,iv am] 45 (0,0)):=(heap_setCell_other (.slice a' (i+1) c') hoxb).symm.trans g1; have m2:W6.heap[ub]? = some (.cells #[sv ky,sv nm,.slice a1 ar.length k1,.bool pb,iv tk] 37 (0,0)):=(heap_setCell_other (.slice a' (i+1) c') huxb).symm.trans g2; replace hP6:=hid hP6; replace g1:(W6.setCell ⟨xb,4,none⟩ (.slice a' (i+1) c')).heap[ob]? = some (.cells #[sv on,iv od,iv ud,iv du,iv pa,iv am] 45 (0,0)):=g1; clear hb5 hAl hoxb huxb; refine hKK.out _ _ ?_ (fun hHeld2=>?_)
           ·exact ⟨f1,f2⟩
           clear hKK KK; have hHeld:=hHeld2; clear hHeld2
           try simp only [Act.put,sI,sZ,sS]
           refine wpAnyH_ready (rs:=[4,11]) (by as_aux_lemma=>kernel_rfl) (by simp) ?_; refine AllReadyH.cons (o:=⟨_,_,_,_,_,_⟩) rfl (fun KK hKK=>?_) (AllReadyH.cons (o:=⟨_,_,_,_,_,_⟩) rfl (fun KK hKK=>?_) AllReadyH.nil)
           all_goals clear hHeld
           ·go_simp
            skip
            refine hKK.out _ _ ?_ (fun hHeld2=>?_)
            ·exact ⟨f1,f2⟩
            clear hKK KK; have hHeld:=hHeld2; clear hHeld2
            try simp only [Act.put,sI,sZ,sS]
            refine wpAnyH_ready (rs:=[11]) (by as_aux_lemma=>kernel_rfl) (by simp) ?_; refine rdY rfl (fun K hK=>?_); go_simp
            skip
            refine hK.out _ _ ?_ (fun hHeld2=>?_)
            ·exact ⟨j1,j2⟩
            clear hK K; clear hHeld; have hHeld:=hHeld2; clear hHeld2
            try simp only [Act.put,sI,sZ,sS]
            refine wpAnyH_ready (rs:=[12]) (by as_aux_lemma=>kernel_rfl) (by simp) ?_; refine rdY rfl (fun K hK=>?_); refine step_append_shut (by rfl) (.tmp 91) (.tmp 98) (by rfl) (by rfl) (by rfl) hap ?_; refine hK.out _ _ ?_ (fun hHeld2=>?_)
            ·exact ⟨m1,m2⟩
            clear hK K hHeld; have hHeld:=hHeld2; clear hHeld2
            try simp only [Act.put,sI,sZ,sS]
            refine wTk (i:=13) (v:=?_) rfl ?hy ?_
            case hy =>
             intro w hSw; obtain ⟨s1,s2⟩:=hSw; obtain ⟨z0,z1,z2,z3,z4,z5⟩:=cells6 s1; obtain ⟨y0,y1,y2,y3,y4⟩:=cells5 s2; go_simp
             all_goals with_reducible rfl
            try simp only [Act.put,sI,sZ,sS]
            refine wTk (i:=14) (v:=?_) rfl ?hy ?_
            case hy =>
             intro w hSw; obtain ⟨s1,s2⟩:=hSw; obtain ⟨z0,z1,z2,z3,z4,z5⟩:=cells6 s1; obtain ⟨y0,y1,y2,y3,y4⟩:=cells5 s2; go_simp
             all_goals with_reducible rfl
            try simp only [Act.put,sI,sZ,sS]
            refine wpAnyH_ready (rs:=[15]) (by as_aux_lemma=>kernel_rfl) (by simp) ?_; refine rdY rfl (fun K hK=>?_); go_simp
            skip
            refine hK.out _ _ ?_ (fun hHeld2=>?_)
            ·exact ⟨g1,g2⟩
            clear hK K; clear hHeld; have hHeld:=hHeld2; clear hHeld2
            try simp only [Act.put,sI,sZ,sS]
            refine wpAnyH_done (by as_aux_lemma=>kernel_rfl) ?_ _
            go_wp2_with fail
            go_meet
            case rel=>exact ⟨_,hP6⟩
           ·go_simp
            skip
            refine hKK.out _ _ ?_ (fun hHeld2=>?_)
            ·exact ⟨j1,j2⟩
            clear hKK KK; have hHeld:=hHeld2; clear hHeld2
            try simp only [Act.put,sI,sZ,sS]
            refine wpAnyH_ready (rs:=[4]) (by as_aux_lemma=>kernel_rfl) (by simp) ?_; refine rdY rfl (fun K hK=>?_); go_simp
            skip
            refine hK.out _ _ ?_ (fun hHeld2=>?_)
            ·exact ⟨j1,j2⟩
            clear hK K; clear hHeld; have hHeld:=hHeld2; clear hHeld2
            try simp only [Act.put,sI,sZ,sS]
            refine wpAnyH_ready (rs:=[12]) (by as_aux_lemma=>kernel_rfl) (by simp) ?_; refine rdY rfl (fun K hK=>?_); refine step_append_shut (by rfl) (.tmp 91) (.tmp 98) (by rfl) (by rfl) (by rfl) hap ?_; refine hK.out _ _ ?_ (fun hHeld2=>?_)
            ·exact ⟨m1,m2⟩
            clear hK K hHeld; have hHeld:=hHeld2; clear hHeld2
            try simp only [Act.put,sI,sZ,sS]
            refine wTk (i:=13) (v:=?_) rfl ?hy ?_
            case hy =>
             intro w hSw; obtain ⟨s1,s2⟩:=hSw; obtain ⟨z0,z1,z2,z3,z4,z5⟩:=cells6 s1; obtain ⟨y0,y1,y2,y3,y4⟩:=cells5 s2; go_simp
             all_goals with_reducible rfl
            try simp only [Act.put,sI,sZ,sS]
            refine wTk (i:=14) (v:=?_) rfl ?hy ?_
            case hy =>
             intro w hSw; obtain ⟨s1,s2⟩:=hSw; obtain ⟨z0,z1,z2,z3,z4,z5⟩:=cells6 s1; obtain ⟨y0,y1,y2,y3,y4⟩:=cells5 s2; go_simp
             all_goals with_reducible rfl
            try simp only [Act.put,sI,sZ,sS]
            refine wpAnyH_ready (rs:=[15]) (by as_aux_lemma=>kernel_rfl) (by simp) ?_; refine rdY rfl (fun K hK=>?_); go_simp
            skip
            refine hK.out _ _ ?_ (fun hHeld2=>?_)
            ·exact ⟨g1,g2⟩
            clear hK K; clear hHeld; have hHeld:=hHeld2; clear hHeld2
            try simp only [Act.put,sI,sZ,sS]
            refine wpAnyH_done (by as_aux_lemma=>kernel_rfl) ?_ _
            go_wp2_with fail
            go_meet
            case rel=>exact ⟨_,hP6⟩
         case rest =>
          obtain ⟨va',hP6⟩:=hcut; clear hdrop hdl hnext hPd hW1 hW3 hR; have hall:=hid (fun W (hxa:XA xb rb turn rf W) (ht:Hid (Tabs W)) (k2:List UInt8) (hk2:k2.length≤1000)=>allows_any xb rb turn 4 rf ky k2 W hxa ht (by omega) hukl hk2)
          go_wp2_with fail
          go_loopg [104] «do».length (fun f v104 wr2=>∃ (j M2:Nat),v104=iv j∧j+f = «do».length∧Hid (PrM w xb rb mb ua da uc dc undo.length «do».length turn rf ((undo.take (i+1)).map D) [] va' (.slice none 0 0) M2 (amP A «do».length i j) [(ob,(.cells #[sv on,iv od,iv ud,iv du,iv pa,iv am] 45 (0,0))),(ub,(.cells #[sv ky,sv nm,.slice a1 ar.length k1,.bool pb,iv tk] 37 (0,0)))] wr2)∧Hid (M2≤i * 32+j))
          case atStart=>exact ⟨0,M,rfl,by omega,hP6,hid (by have:=hM.out; omega)⟩
          case round =>
           obtain ⟨j,M2,rfl,hjf,hR2,hM2⟩:=hrel; clear hP6
           by_cases hjn:j < «do».length
           ·have q5:decide ((j:Int) < («do».length:Int))=true:=decide_eq_true (by omega)
            have q5':decide (j < «do».length)=true:=decide_eq_true hjn
            obtain ⟨d,hd⟩:∃ d,«do»[j]? = some d:=⟨_,List.getElem?_eq_getElem hjn⟩
            have hdkl:=h.out.d2 d (List.mem_of_getElem? hd); obtain ⟨g2,o2,cs2,hidx2,hS2',hg2,hc2,hRd⟩:=(h.out.dr.below goodOut hR2.out.bel).at (P:=Tryz.prog) (t:=23) (by kernel_rfl) (fun _=>by kernel_rfl) hd
            have hAij:A i j=amdF turn rf fo ⟨ky,nm,ar,pb,tk⟩ d:=by rw [hA.out,hfo.out]; show (match undo[i]?,«do»[j]? with | some u,some d=>amdF turn rf (findF l u.name) u d | _,_=>none)=_; rw [hu'.out,hd]
            obtain ⟨ky2,nm2,ar2,pb2,tk2⟩:=d; obtain ⟨a2,k2,rfl,-⟩:=hRd; have c0:=hc2 0 _ rfl; have c1:=hc2 1 _ rfl; have c2:=hc2 2 _ rfl; have c3:=hc2 3 _ rfl; have c4:=hc2 4 _ rfl; rw [Nat.add_zero] at c0; replace c0:wr.cell? ⟨g2,o2,none⟩=some (sv ky2):=c0; replace c1:wr.cell? ⟨g2,o2+1,none⟩=some (sv nm2):=c1; replace c2:wr.cell? ⟨g2,o2+2,none⟩=some (.slice a2 ar2.length k2):=c2; replace c3:wr.cell? ⟨g2,o2+3,none⟩=some (.bool pb2):=c3; replace c4:wr.cell? ⟨g2,o2+4,none⟩=some (iv tk2):=c4; replace hdkl:ky2.length≤1000:=hdkl; have hP7:=hR2.out.alloc (.cells #[sv ky2,sv nm2,.slice a2 ar2.length k2,.bool pb2,iv tk2] 37 (0,0)); obtain ⟨db,hdb⟩:∃ q,q=wr.heap.size:=⟨_,rfl⟩
            obtain ⟨W7,hW7⟩:∃ W,W=wr.alloc (.cells #[sv ky2,sv nm2,.slice a2 ar2.length k2,.bool pb2,iv tk2] 37 (0,0)):=⟨_,rfl⟩; rw [← hW7,← hdb] at hP7; replace hP7:=hid hP7; replace hW7:=hid hW7; replace hdb:=hid hdb; replace hAij:=hid hAij; clear hc2 hS2' hg2 hd
            go_upto_region 19 with (fail)
            rw [← hdb.out,← hW7.out]; clear c0 c1 c2 c3 c4 hidx2 hW7; obtain ⟨x0,x1,-,-,-⟩:=cells5 (hP7.out.kp _ (List.mem_cons_self ..)).1; obtain ⟨-,-,-,-,-,y5⟩:=cells6 (hP7.out.kp _ (List.mem_cons_of_mem _ (List.mem_cons_self ..))).1; obtain ⟨u0,u1,-,-,-⟩:=cells5 (hP7.out.kp _ (List.mem_cons_of_mem _ (List.mem_cons_of_mem _ (List.mem_cons_self ..)))).1
            have none_:A i j=none→Hid (PrM w xb rb mb ua da uc dc undo.length «do».length turn rf ((undo.take (i+1)).map D) [] va' (.slice none 0 0) M2 (amP A «do».length i (j+1)) [(ob,(.cells #[sv on,iv od,iv ud,iv du,iv pa,iv am] 45 (0,0))),(ub,(.cells #[sv ky,sv nm,.slice a1 ar.length k1,.bool pb,iv tk] 37 (0,0)))] W7):=fun e=>hid ((hP7.out.less (fun p hp=>List.mem_cons_of_mem _ hp)).congr fun r c _ _=>amP_none e r c)
            replace none_:=hid none_
            cases fo with
            | none =>
             have hok3:ok=false:=hok2.out; have hP8:=none_.out hAij.out; subst hok3; clear none_
             go_wp2_with fail
             go_roundg («do».length - (j+1))
             case measure=>omega
             case rel=>exact ⟨j+1,M2,by go_num,by omega,hP8,hid (by have:=hM2.out; omega)⟩
            | some fo' =>
             have hok3:ok=true:=hok2.out; have hX2:fo'=⟨on,od,ud,du,pa,am⟩:=hX.out; subst hok3; subst hX2
             have hAv:A i j=if decide (nm=nm2) && decide (am≠-1) && allowF turn rf 4 ky ky2 then some ⟨4,am,am⟩ else none:=hAij.out
             by_cases hnm:nm=nm2
             ·have hnb:(nm == nm2)=true:=by simpa using hnm
              rw [decide_eq_true hnm] at hAv; by_cases ham:am = -1
              ·have hP8:=none_.out (by rw [hAv,ham]; rfl)
               subst ham; replace hAv:=hid hAv; clear none_
               go_wp2_with fail
               go_roundg («do».length - (j+1))
               case measure=>omega
               case rel=>exact ⟨j+1,M2,by go_num,by omega,hP8,hid (by have:=hM2.out; omega)⟩
              ·have ham2:(am != -1)=true:=by simpa using ham
               rw [decide_eq_true ham] at hAv; have hal2:=hall.out W7 hP7.out.xa (hid (h.out.tb.below hP7.out.bel)) ky2 hdkl; obtain ⟨y,hy⟩:∃ y,y=allowF turn rf 4 ky ky2:=⟨_,rfl⟩; rw [← hy] at hAv hal2; replace hal2:=hid hal2; replace hAv:=hid hAv; replace hy:=hid hy
               go_wp2_with fail
               refine hal2.out.mono ?_; rintro e W8 ⟨rfl,hb8⟩; have hP8:=hid (hP7.out.below hb8)
               have none8:=fun e=>hid ((none_.out e).out.below hb8)
               clear none_ hb8 hal2 x0 x1 y5 u0 u1 hP7
               cases y with
               | false =>
                have hP9:=none8 hAv.out; clear none8
                go_wp2_with fail
                go_roundg («do».length - (j+1))
                case measure=>omega
                case rel=>exact ⟨j+1,M2,by go_num,by omega,hP9,hid (by have:=hM2.out; omega)⟩
               | true =>
                clear none8; have hPd8:=hP8.out.below ((Below.refl _ W8).drew:Below W8.heap.size W8 W8.drew); obtain ⟨W9,hup,hP9⟩:=hPd8.putA (r:=(i:Int)) (c:=(j:Int)) (i64n (by omega)) (i64n (by omega)) ⟨4,am,am⟩ (by have:=hM2.out; omega); have hP10:=hid (show PrM w xb rb mb ua da uc dc undo.length «do».length turn rf ((undo.take (i+1)).map D) [] va' (.slice none 0 0) (M2+1) (amP A «do».length i (j+1)) [(ob,(.cells #[sv on,iv od,iv ud,iv du,iv pa,iv am] 45 (0,0))),(ub,(.cells #[sv ky,sv nm,.slice a1 ar.length k1,.bool pb,iv tk] 37 (0,0)))] W9 from (hP9.less (fun p hp=>List.mem_cons_of_mem _ hp)).congr fun r c _ _=>amP_some hAv.out r c); have v6:=(cell_of (i:=6) hPd8.blk).trans rfl; obtain ⟨-,-,-,-,-,v5⟩:=cells6 (hPd8.kp _ (List.mem_cons_of_mem _ (List.mem_cons_self ..))).1
                clear hPd8 hP9 hP8
                go_wp2_with fail
                go_region
                all_goals go_wp2_with fail
                all_goals go_roundg («do».length - (j+1))
                all_goals first
                 | (show _ < _; omega)
                 | exact ⟨j+1,M2+1,by go_num,by omega,hP10,hid (by have:=hM2.out; omega)⟩
             ·have hP8:=none_.out (by rw [hAv,decide_eq_false hnm]; rfl)
              have hnb:(nm == nm2)=false:=by simpa using hnm
              replace hAv:=hid hAv; clear none_
              go_wp2_with fail
              go_roundg («do».length - (j+1))
              case measure=>omega
              case rel=>exact ⟨j+1,M2,by go_num,by omega,hP8,hid (by have:=hM2.out; omega)⟩
           ·have q5:decide ((j:Int) < («do».length:Int))=false:=decide_eq_false (by omega)
            have q5':decide (j < «do».length)=false:=decide_eq_false hjn
            have hjl:j = «do».length:=by omega
            subst hjl; have hP8:=hid (show PrM w xb rb mb ua da uc dc undo.length «do».length turn rf ((undo.take (i+1)).map D) [] va' (.slice none 0 0) M2 (amP A «do».length (i+1) 0) [] wr from (hR2.out.less (fun p hp=>by cases hp)).congr fun r c _ _=>amP_row A _ i r c)
            go_wp2_with fail
            go_roundg (undo.length - (i+1))
            case measure=>omega
            case rel=>exact ⟨i+1,M2,va',by go_num,by omega,hP8,hid (by have:=hM2.out; omega)⟩
        ·have q4:decide ((i:Int) < (undo.length:Int))=false:=decide_eq_false (by omega)
         have q4':decide (i < undo.length)=false:=decide_eq_false hin
         have hil:i=undo.length:=by omega
         subst hil
         have hR3:PrM w xb rb mb ua da uc dc undo.length «do».length turn rf (undo.map D) [] va (.slice none 0 0) M (amG A undo.length «do».length) [] wr:=by
          have h0:=hR.out; rw [List.take_of_length_le (Nat.le_refl _)] at h0
          exact h0.congr fun r c _ _=>amP_all A _ _ r c
         replace hR3:=hid hR3; have hMf:=hid (show M≤undo.length * 32 from hM.out); clear hR
         obtain ⟨G,hG⟩:∃ G:Out→Opt,G=fun d=>giveF turn rf (findF l d.name) d:=⟨_,rfl⟩
         replace hG:=hid hG; clear hn
         go_wp2_with fail
         go_loopg [146] «do».length (fun f v146 wr=>∃ (j:Nat) (vg:Value),v146=iv j∧j+f = «do».length∧Hid (PrM w xb rb mb ua da uc dc undo.length «do».length turn rf (undo.map D) ((«do».take j).map G) va vg M (amG A undo.length «do».length) [] wr))
         case atStart=>exact ⟨0,_,rfl,by omega,hR3⟩
         case round =>
          obtain ⟨j,vg,rfl,hjf,hR4⟩:=hrel; clear hR3
          by_cases hjn:j < «do».length
          ·have q5:decide ((j:Int) < («do».length:Int))=true:=decide_eq_true (by omega)
           have q5':decide (j < «do».length)=true:=decide_eq_true hjn
           obtain ⟨d,hd⟩:∃ d,«do»[j]? = some d:=⟨_,List.getElem?_eq_getElem hjn⟩
           have hdkl:=h.out.d2 d (List.mem_of_getElem? hd); obtain ⟨g,o,cs,hidx,hS',hg,hc,hRu⟩:=(h.out.dr.below goodOut hR4.out.bel).at (P:=Tryz.prog) (t:=23) (by kernel_rfl) (fun _=>by kernel_rfl) hd; obtain ⟨ky,nm,ar,pb,tk⟩:=d; obtain ⟨a1,k1,rfl,-⟩:=hRu; have c0:=hc 0 _ rfl; have c1:=hc 1 _ rfl; have c2:=hc 2 _ rfl; have c3:=hc 3 _ rfl; have c4:=hc 4 _ rfl; rw [Nat.add_zero] at c0; replace c0:wr.cell? ⟨g,o,none⟩=some (sv ky):=c0; replace c1:wr.cell? ⟨g,o+1,none⟩=some (sv nm):=c1; replace c2:wr.cell? ⟨g,o+2,none⟩=some (.slice a1 ar.length k1):=c2; replace c3:wr.cell? ⟨g,o+3,none⟩=some (.bool pb):=c3; replace c4:wr.cell? ⟨g,o+4,none⟩=some (iv tk):=c4; replace hdkl:ky.length≤1000:=hdkl; clear hc hS' hg
           have hP1:=hR4.out.alloc (.cells #[sv ky,sv nm,.slice a1 ar.length k1,.bool pb,iv tk] 37 (0,0)); obtain ⟨db,hdb⟩:∃ q,q=wr.heap.size:=⟨_,rfl⟩; obtain ⟨W1,hW1⟩:∃ W,W=wr.alloc (.cells #[sv ky,sv nm,.slice a1 ar.length k1,.bool pb,iv tk] 37 (0,0)):=⟨_,rfl⟩; rw [← hW1,← hdb] at hP1
           have hs1:W1.heap.size=wr.heap.size+1:=by rw [hW1]; simp
           have hP1b:=hP1.alloc (.cells (optCs opt0).toArray 102 (0,0)); obtain ⟨gb,hgb⟩:∃ q,q=wr.heap.size+1:=⟨_,rfl⟩; obtain ⟨W2,hW2⟩:∃ W,W=W1.alloc (.cells (optCs opt0).toArray 102 (0,0)):=⟨_,rfl⟩; rw [← hW2,hs1,← hgb] at hP1b; replace hP1b:=hid hP1b
           have hW2':W2=(wr.alloc (.cells #[sv ky,sv nm,.slice a1 ar.length k1,.bool pb,iv tk] 37 (0,0))).alloc (.cells #[.int .i64 0,.int .i64 0,.int .i64 8589934592] 102 (0,0)):=by rw [hW2,hW1]; rfl
           have hfind:=cfind_any l nm S _ W2 h.out.l1 (h.out.lr.below goodOff hP1b.out.bel); obtain ⟨fo,hfo⟩:∃ fo,fo=findF l nm:=⟨_,rfl⟩; rw [← hfo] at hfind; obtain ⟨on,od,ud,du,pa,am,hX⟩:∃ on od ud du pa am,fo.getD off0=⟨on,od,ud,du,pa,am⟩:=⟨_,_,_,_,_,_,rfl⟩; rw [hX] at hfind; obtain ⟨ok,hok2⟩:∃ b,b=fo.isSome:=⟨_,rfl⟩; rw [← hok2] at hfind
           have hGd:G ⟨ky,nm,ar,pb,tk⟩=giveF turn rf fo ⟨ky,nm,ar,pb,tk⟩:=by rw [hG.out,hfo]
           have hnext:(«do».take j).map G++[G ⟨ky,nm,ar,pb,tk⟩]=(«do».take (j+1)).map G:=by rw [List.take_add_one,hd,List.map_append]; rfl
           have hgl:((«do».take j).map G).length=j:=by rw [List.length_map,List.length_take]; omega
           replace hfind:=hid hfind; replace hfo:=hid hfo; replace hX:=hid hX; replace hok2:=hid hok2; replace hW2':=hid hW2'; replace hdb:=hid hdb; replace hgb:=hid hgb; replace hGd:=hid hGd; replace hnext:=hid hnext; replace hgl:=hid hgl; clear hW1 hW2 hs1 hd hP1 W1
           go_wp2_with fail
           rw [← hW2'.out]; refine hfind.out.mono ?_; rintro e W3 ⟨rfl,hb3⟩; have hP3:=hid (hP1b.out.below hb3); clear hfind hb3 c0 c1 c2 c3 c4 hP1b hW2' hidx; have hP4:=hP3.out.alloc (.cells #[sv on,iv od,iv ud,iv du,iv pa,iv am] 45 (0,0)); obtain ⟨ob,hob⟩:∃ q,q=W3.heap.size:=⟨_,rfl⟩; obtain ⟨W4,hW4⟩:∃ W,W=W3.alloc (.cells #[sv on,iv od,iv ud,iv du,iv pa,iv am] 45 (0,0)):=⟨_,rfl⟩; rw [← hW4,← hob] at hP4; replace hP4:=hid hP4; replace hW4:=hid hW4; replace hob:=hid hob; clear hP3
           go_upto_region 28 with (fail)
           rw [← hob.out,← hW4.out,← hgb.out,← hdb.out]; clear hW4
           obtain ⟨y,hy⟩:∃ y:Bool,(y=true→G ⟨ky,nm,ar,pb,tk⟩=⟨1,od,od⟩)∧(y=false→G ⟨ky,nm,ar,pb,tk⟩=opt0)∧y=(ok && (decide (od≠-1) && allowF turn rf 1 [] ky)):=by
            refine ⟨ok && (decide (od≠-1) && allowF turn rf 1 [] ky),fun e=>?_,fun e=>?_,rfl⟩
            ·rw [hGd.out]
             cases fo with
             | none=>rw [hok2.out] at e; cases e
             | some o' =>
              have hX2:o'=⟨on,od,ud,du,pa,am⟩:=hX.out; subst hX2; rw [Bool.and_eq_true] at e; show (if (decide (od≠-1) && allowF turn rf 1 [] ky)=true then (⟨1,od,od⟩:Opt) else opt0)=_; rw [if_pos e.2]
            ·rw [hGd.out]
             cases fo with
             | none=>rfl
             | some o' =>
              have hX2:o'=⟨on,od,ud,du,pa,am⟩:=hX.out; subst hX2; rw [hok2.out] at e; show (if (decide (od≠-1) && allowF turn rf 1 [] ky)=true then (⟨1,od,od⟩:Opt) else opt0)=_; rw [if_neg (by rw [show (decide (od≠-1) && allowF turn rf 1 [] ky)=false from e]; exact Bool.false_ne_true)]
           obtain ⟨hy1,hy2,hy3⟩:=hy; replace hy1:=hid hy1; replace hy2:=hid hy2
           go_cut [169] (fun v169 wx=>v169=.bool y∧Hid (PrM w xb rb mb ua da uc dc undo.length «do».length turn rf (undo.map D) ((«do».take j).map G) va vg M (amG A undo.length «do».length) [(ob,(.cells #[sv on,iv od,iv ud,iv du,iv pa,iv am] 45 (0,0))),(gb,.cells (optCs opt0).toArray 102 (0,0)),(db,(.cells #[sv ky,sv nm,.slice a1 ar.length k1,.bool pb,iv tk] 37 (0,0)))] wx))
           case first =>
            obtain ⟨-,y1,-,-,-,-⟩:=cells6 (hP4.out.kp _ (List.mem_cons_self ..)).1; obtain ⟨x0,-,-,-,-⟩:=cells5 (hP4.out.kp _ (List.mem_cons_of_mem _ (List.mem_cons_of_mem _ (List.mem_cons_self ..)))).1; have hal:=hid (allows_any xb rb turn 1 rf [] ky W4 hP4.out.xa (hid (h.out.tb.below hP4.out.bel)) (by omega) (by simp) hdkl)
            cases ok with
            | false =>
             have e:y=false:=hy3; subst e; clear hy3
             go_wp2_with fail
             go_meet
             case rel=>exact ⟨rfl,hP4⟩
            | true =>
             by_cases hod:od = -1
             ·have e:y=false:=by rw [hy3,hod]; rfl
              subst e; subst hod; clear hy3
              go_wp2_with fail
              go_meet
              case rel=>exact ⟨rfl,hP4⟩
             ·have hod2:(od != -1)=true:=by simpa using hod
              have e:allowF turn rf 1 [] ky=y:=by rw [hy3,decide_eq_true hod]; rfl
              rw [e] at hal; clear hy3 e
              go_wp2_with fail
              refine hal.out.mono ?_; rintro e W5 ⟨rfl,hb5⟩; have hP5:=hid (hP4.out.below hb5); clear hb5 hal x0 y1
              go_wp2_with fail
              all_goals go_meet
              all_goals exact ⟨rfl,hP5⟩
           case rest =>
            obtain ⟨rfl,hP6⟩:=hcut; clear hP4 hy3
            go_upto_if 169 with (fail)
            go_cut [174] (fun v174 wx=>Hid (PrM w xb rb mb ua da uc dc undo.length «do».length turn rf (undo.map D) ((«do».take j).map G) va vg M (amG A undo.length «do».length) [(gb,.cells (optCs (G ⟨ky,nm,ar,pb,tk⟩)).toArray 102 (0,0))] wx))
            case first =>
             cases y with
             | true =>
              obtain ⟨-,y1,-,-,-,-⟩:=cells6 (hP6.out.kp _ (List.mem_cons_self ..)).1; obtain ⟨g0,g1,g2,gz⟩:=opt_cells (hP6.out.kp _ (List.mem_cons_of_mem _ (List.mem_cons_self ..))).1; have hP7:=hid (hP6.out.setK (o0:=opt0) (List.mem_cons_of_mem _ (List.mem_cons_self ..)) ⟨1,od,od⟩)
              go_wp2_with fail
              go_meet
              case rel=>exact hid (by rw [hy1.out (by first | rfl | trivial)]; exact hP7.out)
             | false =>
              go_wp2_with fail
              go_meet
              case rel=>exact hid (by rw [hy2.out (by first | rfl | trivial)]; exact hP6.out.less (fun p hp=>by rw [List.mem_singleton] at hp; rw [hp]; exact List.mem_cons_of_mem _ (List.mem_cons_self ..)))
            case rest =>
             have hP8:=hcut; clear hP6 hy1 hy2; obtain ⟨e0,e1,e2,hGe⟩:∃ e0 e1 e2,G ⟨ky,nm,ar,pb,tk⟩=⟨e0,e1,e2⟩:=⟨_,_,_,rfl⟩; rw [hGe] at hP8 hnext; replace hGe:=hid hGe; have o1:wc.drew.heap[gb]? = some (.cells #[iv e0,iv e1,iv e2] 102 (0,0)):=(hP8.out.kp _ (List.mem_cons_self ..)).1; have hPd:=hid (hP8.out.below ((Below.refl _ wc).drew:Below wc.heap.size wc wc.drew)); have hpu:=hPd.out.pushG ⟨e0,e1,e2⟩ (by rw [hgl.out]; omega) 96; rw [hgl.out,hnext.out] at hpu; obtain ⟨a',c',W6,hap,⟨u6,hu6⟩,hfz,hP9⟩:=hpu; have g1:=(hP9.kp _ (List.mem_cons_self ..)).1; have hAl:=hPd.out.alloc (.cells #[iv e0,iv e1,iv e2] 102 (0,0)); have j1:=(hAl.kp _ (List.mem_cons_of_mem _ (List.mem_cons_self ..))).1; have j4:=(cell_of (i:=5) hAl.blk).trans rfl
             have o4:=(cell_of (i:=5) hPd.out.blk).trans rfl; have hoxb:=(hP8.out.kp _ (List.mem_cons_self ..)).2.2.1; have m1:W6.heap[gb]? = some (.cells #[iv e0,iv e1,iv e2] 102 (0,0)):=(heap_setCell_other (.slice a' (j+1) c') hoxb).symm.trans g1; replace g1:(W6.setCell ⟨xb,5,none⟩ (.slice a' (j+1) c')).heap[gb]? = some (.cells #[iv e0,iv e1,iv e2] 102 (0,0)):=g1; replace j1:(wc.drew.alloc (.cells #[iv e0,iv e1,iv e2] 102 (0,0))).heap[gb]? = some (.cells #[iv e0,iv e1,iv e2] 102 (0,0)):=j1; have hP10:=hid (hP9.less (K':=[]) (fun p hp=>by cases hp)); clear hAl hoxb hP9 hP8 hPd
             go_wp2_with fail
             refine wp_region_held_drew (S:=fun w'=>w'.heap[gb]? = some (.cells #[iv e0,iv e1,iv e2] 102 (0,0))) (by kernel_rfl) ?_ (fun hHeld=>?_)
             ·exact o1
             generalize wc.drew=Wd at *; refine wTk (i:=0) (v:=?_) rfl ?hy ?_
             case hy =>
              intro w hSw; obtain ⟨z0,z1,z2,-⟩:=opt_cells (o:=⟨e0,e1,e2⟩) hSw; go_simp
              all_goals with_reducible rfl
             try simp only [Act.put,sI,sZ,sS]
             refine wTk (i:=1) (v:=?_) rfl ?hy ?_
             case hy =>
              intro w hSw; obtain ⟨z0,z1,z2,-⟩:=opt_cells (o:=⟨e0,e1,e2⟩) hSw; go_simp
              all_goals with_reducible rfl
             try simp only [Act.put,sI,sZ,sS]
             refine wTk (i:=2) (v:=?_) rfl ?hy ?_
             case hy =>
              intro w hSw; obtain ⟨z0,z1,z2,-⟩:=opt_cells (o:=⟨e0,e1,e2⟩) hSw; go_simp
              all_goals with_reducible rfl
             try simp only [Act.put,sI,sZ,sS]
             refine wTk (i:=3) (v:=?_) rfl ?hy ?_
             case hy =>
              intro w hSw; obtain ⟨z0,z1,z2,-⟩:=opt_cells (o:=⟨e0,e1,e2⟩) hSw; go_simp
              all_goals with_reducible rfl
             try simp only [Act.put,sI,sZ,sS]
             refine wTk (i:=5) (v:=?_) rfl ?hy ?_
             case hy =>
              intro w hSw; obtain ⟨z0,z1,z2,-⟩:=opt_cells (o:=⟨e0,e1,e2⟩) hSw; go_simp
              all_goals with_reducible rfl
             try simp only [Act.put,sI,sZ,sS]
             refine wpAnyH_ready (rs:=[4,6]) (by as_aux_lemma=>kernel_rfl) (by simp) ?_; refine AllReadyH.cons (o:=⟨_,_,_,_,_,_⟩) rfl (fun KK hKK=>?_) (AllReadyH.cons (o:=⟨_,_,_,_,_,_⟩) rfl (fun KK hKK=>?_) AllReadyH.nil)
             all_goals clear hHeld
             ·go_simp
              skip
              refine hKK.out _ _ ?_ (fun hHeld2=>?_)
              ·exact o1
              clear hKK KK; have hHeld:=hHeld2; clear hHeld2
              try simp only [Act.put,sI,sZ,sS]
              refine wpAnyH_ready (rs:=[6]) (by as_aux_lemma=>kernel_rfl) (by simp) ?_; refine rdY rfl (fun K hK=>?_); go_simp
              skip
              refine hK.out _ _ ?_ (fun hHeld2=>?_)
              ·exact j1
              clear hK K; clear hHeld; have hHeld:=hHeld2; clear hHeld2
              try simp only [Act.put,sI,sZ,sS]
              refine wpAnyH_ready (rs:=[7]) (by as_aux_lemma=>kernel_rfl) (by simp) ?_; refine rdY rfl (fun K hK=>?_); refine step_append_shut (by rfl) (.tmp 179) (.tmp 181) (by rfl) (by rfl) (by rfl) hap ?_; refine hK.out _ _ ?_ (fun hHeld2=>?_)
              ·exact m1
              clear hK K hHeld; have hHeld:=hHeld2; clear hHeld2
              try simp only [Act.put,sI,sZ,sS]
              refine wTk (i:=8) (v:=?_) rfl ?hy ?_
              case hy =>
               intro w hSw; obtain ⟨z0,z1,z2,-⟩:=opt_cells (o:=⟨e0,e1,e2⟩) hSw; go_simp
               all_goals with_reducible rfl
              try simp only [Act.put,sI,sZ,sS]
              refine wTk (i:=9) (v:=?_) rfl ?hy ?_
              case hy =>
               intro w hSw; obtain ⟨z0,z1,z2,-⟩:=opt_cells (o:=⟨e0,e1,e2⟩) hSw; go_simp
               all_goals with_reducible rfl
              try simp only [Act.put,sI,sZ,sS]
              refine wpAnyH_ready (rs:=[10]) (by as_aux_lemma=>kernel_rfl) (by simp) ?_; refine rdY rfl (fun K hK=>?_); go_simp
              skip
              refine hK.out _ _ ?_ (fun hHeld2=>?_)
              ·exact g1
              clear hK K; clear hHeld; have hHeld:=hHeld2; clear hHeld2
              try simp only [Act.put,sI,sZ,sS]
              refine wpAnyH_done (by as_aux_lemma=>kernel_rfl) ?_ _
              go_wp2_with fail
              go_roundg («do».length - (j+1))
              case measure=>omega
              case rel=>exact ⟨j+1,_,by go_num,by omega,hP10⟩
             ·go_simp
              skip
              refine hKK.out _ _ ?_ (fun hHeld2=>?_)
              ·exact j1
              clear hKK KK; have hHeld:=hHeld2; clear hHeld2
              try simp only [Act.put,sI,sZ,sS]
              refine wpAnyH_ready (rs:=[4]) (by as_aux_lemma=>kernel_rfl) (by simp) ?_; refine rdY rfl (fun K hK=>?_); go_simp
              skip
              refine hK.out _ _ ?_ (fun hHeld2=>?_)
              ·exact j1
              clear hK K; clear hHeld; have hHeld:=hHeld2; clear hHeld2
              try simp only [Act.put,sI,sZ,sS]
              refine wpAnyH_ready (rs:=[7]) (by as_aux_lemma=>kernel_rfl) (by simp) ?_; refine rdY rfl (fun K hK=>?_); refine step_append_shut (by rfl) (.tmp 179) (.tmp 181) (by rfl) (by rfl) (by rfl) hap ?_; refine hK.out _ _ ?_ (fun hHeld2=>?_)
              ·exact m1
              clear hK K hHeld; have hHeld:=hHeld2; clear hHeld2
              try simp only [Act.put,sI,sZ,sS]
              refine wTk (i:=8) (v:=?_) rfl ?hy ?_
              case hy =>
               intro w hSw; obtain ⟨z0,z1,z2,-⟩:=opt_cells (o:=⟨e0,e1,e2⟩) hSw; go_simp
               all_goals with_reducible rfl
              try simp only [Act.put,sI,sZ,sS]
              refine wTk (i:=9) (v:=?_) rfl ?hy ?_
              case hy =>
               intro w hSw; obtain ⟨z0,z1,z2,-⟩:=opt_cells (o:=⟨e0,e1,e2⟩) hSw; go_simp
               all_goals with_reducible rfl
              try simp only [Act.put,sI,sZ,sS]
              refine wpAnyH_ready (rs:=[10]) (by as_aux_lemma=>kernel_rfl) (by simp) ?_; refine rdY rfl (fun K hK=>?_); go_simp
              skip
              refine hK.out _ _ ?_ (fun hHeld2=>?_)
              ·exact g1
              clear hK K; clear hHeld; have hHeld:=hHeld2; clear hHeld2
              try simp only [Act.put,sI,sZ,sS]
              refine wpAnyH_done (by as_aux_lemma=>kernel_rfl) ?_ _
              go_wp2_with fail
              go_roundg («do».length - (j+1))
              case measure=>omega
              case rel=>exact ⟨j+1,_,by go_num,by omega,hP10⟩
          ·have q5:decide ((j:Int) < («do».length:Int))=false:=decide_eq_false (by omega)
           have q5':decide (j < «do».length)=false:=decide_eq_false hjn
           have hjl:j = «do».length:=by omega
           subst hjl
           obtain ⟨x,hx⟩:∃ x,x=stlF l undo «do» clock turn rf:=⟨_,rfl⟩
           have hR5:=hR4.out; rw [List.take_length] at hR5
           have hdn:∃ X:XB,X.xb=xb∧StM X (stlF l undo «do» clock turn rf) wr∧(∀ q,X.F q→(S q∨w.heap.size≤q)∧q < wr.heap.size):=by
            rw [hD.out,hG.out,hA.out] at hR5; exact PrM.done (x:=stlF l undo «do» clock turn rf) (K:=[]) hR5 hu32 hd32 (by have:=hMf.out; omega) (by show (undo.map _).length=undo.length; rw [List.length_map]) (by show («do».map _).length = «do».length; rw [List.length_map]) h.out.ur h.out.dr
           obtain ⟨X,hX1,hX2,hX3⟩:=hdn; have hfin:Hid (PQ (.returned (.tuple #[pt xb,iv 0])) wr):=hid (by rw [← hPQ.out]; exact ⟨hR4.out.bel,Or.inr ⟨hpe.out,X,by rw [hX1],by rw [hX1]; exact hR4.out.ge.1,hX2,hX3⟩⟩); clear hR4 hR5 hX1 hX2 hX3 hx
           go_wp2_with fail
           exact hfin.out
   ·have he:prepE l undo «do» = 3:=(if_pos hok).trans (if_neg hsm)
    have hfin:Hid (∀ W,Below w.heap.size w W→PQ (.returned (.tuple #[.pointer none,iv 3])) W):=hid fun W hW=>by rw [← hPQ.out]; exact ⟨hW,Or.inl ⟨by rw [he]; decide,by rw [he]⟩⟩
    replace hok:=hid hok; clear he hb; by_cases hu32:32 < undo.length
    ·have q1:decide ((32:Int) < (undo.length:Int))=true:=decide_eq_true (by omega)
     have q1':decide (32 < undo.length)=true:=decide_eq_true hu32
     go_wp2_with fail
     skip
     exact hfin.out _ hB.out
    ·have q1:decide ((32:Int) < (undo.length:Int))=false:=decide_eq_false (by omega)
     have q1':decide (32 < undo.length)=false:=decide_eq_false hu32; have q2:decide ((32:Int) < («do».length:Int))=true:=decide_eq_true (by omega); have q2':decide (32 < «do».length)=true:=decide_eq_true (by omega)
     go_wp2_with fail
     skip
     exact hfin.out _ hB.out
end Go.Proofs.YtfejagpjahoibaaGreatDoor
