/- retroactlaw45.Few and weight. -/
import Derived.Test.YtdmgfnnpjoihfaaDoorPmF
import Derived.Test.YtdmgfnnpjoihfaaDoorPmC
set_option linter.unusedVariables false
set_option linter.unusedSimpArgs false
namespace Go.Proofs.YtdmgfnnpjoihfaaDoor
open Go.RowKit
open Go.Lib (hid)
/-- what Few lets in -/
structure Few45 (l:List Offer) (undo «do»:List Out) (rf:List (List UInt8)):Prop where
 l:l.length≤6
 u:EffS undo 5
 d:EffS «do» 5
 r:rf.length≤40
/-- what a statement's reading gives: no bound of a key's length but the reading's own -/
structure PI0 (S:Foot) (l:List Offer) (undo «do»:List Out) (rf:List (List UInt8)) (vl vu vd vr:Value) (w:World):Prop where
 l1:l.length≤1048576
 l2:∀ o∈l,o.name.length≤1048576∧∀ z∈[o.do,o.undo,o.due,o.part,o.amend],-9223372036854775808≤z∧z≤9223372036854775807
 lr:SlR 6 OffR S w l vl
 u1:undo.length≤1048576
 ur:SlR 5 OutR S w undo vu
 d1:«do».length≤1048576
 dr:SlR 5 OutR S w «do» vd
 r1:rf.length≤1048576
 r2:∀ s∈rf,s.length≤1048576
 rr:SlR 1 StrR S w rf vr
 tb:Tabs w
theorem PI0.below {S:Foot} {l:List Offer} {undo «do»:List Out} {rf:List (List UInt8)} {vl vu vd vr:Value} {w w':World} (h:PI0 S l undo «do» rf vl vu vd vr w) (hb:Below w.heap.size w w'):PI0 S l undo «do» rf vl vu vd vr w' :=
 ⟨h.l1,h.l2,h.lr.below goodOff hb,h.u1,h.ur.below goodOut hb,h.d1,h.dr.below goodOut hb,h.r1,h.r2,h.rr.below goodStr hb,h.tb.below hb⟩
theorem PI0.full {S:Foot} {l:List Offer} {undo «do»:List Out} {rf:List (List UInt8)} {vl vu vd vr:Value} {w:World} (h:PI0 S l undo «do» rf vl vu vd vr w) (hf:Few45 l undo «do» rf):PIn S l undo «do» rf vl vu vd vr w :=
 ⟨h.l1,h.l2,h.lr,Nat.le_trans hf.u.1 (by decide),fun o ho=>Nat.le_trans (hf.u.2 o ho).1 (by decide),h.ur,Nat.le_trans hf.d.1 (by decide),fun o ho=>Nat.le_trans (hf.d.2 o ho).1 (by decide),h.dr,Nat.le_trans hf.r (by decide),h.r2,h.rr,h.tb⟩
set_option maxHeartbeats 4000000 in
set_option maxRecDepth 100000 in
theorem few45_any (S:Foot) (l:List Offer) (undo «do»:List Out) (rf:List (List UInt8)) (vl vu vd vr:Value) (w:World) (h:PI0 S l undo «do» rf vl vu vd vr w) (hu:∀ o∈undo,ValsB o.args) (hv:∀ o∈«do»,ValsB o.args) :
  Calls Tryd.prog 7 #[vl,vu,vd,vr] w fun e w'=>∃ b:Bool,e=.returned (.bool b)∧(b=true→Few45 l undo «do» rf)∧Below w.heap.size w w':=by
 have hl1:=h.l1; have hr1:=h.r1; obtain ⟨ua,uc,hvu,-⟩:=h.ur.slice; obtain ⟨da,dc,hvd,-⟩:=h.dr.slice; obtain ⟨la,lc,hvl,-⟩:=h.lr.slice; obtain ⟨ra,rc,hvr,-⟩:=h.rr.slice; subst hvu hvd hvl hvr; have he1:=hid (fun W (hW:Below w.heap.size w W)=>effects_any undo 5 (by decide) h.u1 hu S _ W (h.ur.below goodOut hW)); have he2:=hid (fun W (hW:Below w.heap.size w W)=>effects_any «do» 5 (by decide) h.d1 hv S _ W (h.dr.below goodOut hW)); have hlr:=hid h.lr; have hl2:=hid h.l2; have hB:=hid (Below.refl w.heap.size w); replace h:=hid h; clear hu hv
 go_enter Tryd.func7,Tryd.ntmps7
 go_wp2_with fail
 go_loopg [9] l.length (fun f v9 wr=>∃ (i:Nat),v9=iv i∧i+f=l.length∧Hid (Below w.heap.size w wr))
 case atStart=>exact ⟨0,rfl,by omega,hB⟩
 case round =>
  obtain ⟨i,rfl,hif,hBr⟩:=hrel; clear hB
  have hexit:∀ (Q:Prop),True:=fun _=>trivial
  by_cases hil:i < l.length∧i < 10
  ·obtain ⟨hi1,hi2⟩:=hil
   have q1:decide ((i:Int) < (l.length:Int))=true:=decide_eq_true (by omega); have q1':decide (i < l.length)=true:=decide_eq_true hi1; have q2:decide ((i:Int) < 10)=true:=decide_eq_true (by omega); have q2':decide (i < 10)=true:=decide_eq_true hi2; obtain ⟨o,ho⟩:∃ o,l[i]? = some o:=⟨_,List.getElem?_eq_getElem hi1⟩; obtain ⟨g,off,cs,hidx,-,-,hcc,hRo⟩:=(hlr.out.below goodOff hBr.out).at (P:=Tryd.prog) (t:=22) (by kernel_rfl) (fun _=>by kernel_rfl) ho; have hcs:cs=offCs o:=hRo; subst hcs; have hnl:=(hl2.out o (List.mem_of_getElem? ho)).1; obtain ⟨nm,o1,o2,o3,o4,o5⟩:=o; have c0:=hcc 0 _ rfl; rw [Nat.add_zero] at c0; replace c0:wr.cell? ⟨g,off,none⟩=some (sv nm):=c0; replace hnl:nm.length≤1048576:=hnl; clear hcc hRo ho; by_cases b1:100 < nm.length
   ·have q3:decide ((100:Int) < (nm.length:Int))=true:=decide_eq_true (by omega)
    have q3':decide (100 < nm.length)=true:=decide_eq_true b1
    go_wp2_with fail
    go_ret; exact ⟨false,rfl,fun h=>(by cases h),hBr.out⟩
   ·have q3:decide ((100:Int) < (nm.length:Int))=false:=decide_eq_false (by omega)
    have q3':decide (100 < nm.length)=false:=decide_eq_false b1
    go_wp2_with fail
    go_roundg (l.length - (i+1))
    case measure=>omega
    case rel=>exact ⟨i+1,by go_num,by omega,hBr⟩
  ·by_cases h6:l.length≤6
   ·have hi1:¬ i < l.length:=by omega
    have q1:decide ((i:Int) < (l.length:Int))=false:=decide_eq_false (by omega); have q1':decide (i < l.length)=false:=decide_eq_false hi1; have q3:decide ((l.length:Int)≤6)=true:=decide_eq_true (by omega); have q3':decide (l.length≤6)=true:=decide_eq_true h6; have hc1:=hid (he1.out wr hBr.out)
    go_wp2_with fail
    refine hc1.out.mono ?_; rintro e w2 ⟨b1,rfl,he,hb2⟩; have hB2:=hid (hBr.out.trans (hb2.mono hBr.out.size)); clear hc1 hb2 he1
    cases b1 with
    | false =>
     replace he:=hid he
     go_wp2_with fail
     go_ret; exact ⟨false,rfl,fun h=>(by cases h),hB2.out⟩
    | true =>
     have hc2:=hid (he2.out w2 hB2.out); replace he:=hid (he rfl)
     go_wp2_with fail
     refine hc2.out.mono ?_; rintro e w3 ⟨b2,rfl,hd,hb3⟩; have hB3:=hid (hB2.out.trans (hb3.mono hB2.out.size)); clear hc2 hb3 he2
     cases b2 with
     | false =>
      replace hd:=hid hd
      go_wp2_with fail
      go_ret; exact ⟨false,rfl,fun h=>(by cases h),hB3.out⟩
     | true =>
      replace hd:=hid (hd rfl); by_cases h40:rf.length≤40
      ·have q4:decide ((rf.length:Int)≤40)=true:=decide_eq_true (by omega)
       have q4':decide (rf.length≤40)=true:=decide_eq_true h40
       go_wp2_with fail
       go_ret; exact ⟨true,rfl,fun _=>⟨h6,he.out,hd.out,h40⟩,hB3.out⟩
      ·have q4:decide ((rf.length:Int)≤40)=false:=decide_eq_false (by omega)
       have q4':decide (rf.length≤40)=false:=decide_eq_false h40
       go_wp2_with fail
       go_ret; exact ⟨false,rfl,fun h=>(by cases h),hB3.out⟩
   ·have q3:decide ((l.length:Int)≤6)=false:=decide_eq_false (by omega)
    have q3':decide (l.length≤6)=false:=decide_eq_false h6; by_cases hi1:i < l.length
    ·have q1:decide ((i:Int) < (l.length:Int))=true:=decide_eq_true (by omega)
     have q1':decide (i < l.length)=true:=decide_eq_true hi1; have q2:decide ((i:Int) < 10)=false:=decide_eq_false (by omega); have q2':decide (i < 10)=false:=decide_eq_false (by omega)
     go_wp2_with fail
     go_ret; exact ⟨false,rfl,fun h=>(by cases h),hBr.out⟩
    ·have q1:decide ((i:Int) < (l.length:Int))=false:=decide_eq_false (by omega)
     have q1':decide (i < l.length)=false:=decide_eq_false hi1
     go_wp2_with fail
     go_ret; exact ⟨false,rfl,fun h=>(by cases h),hBr.out⟩
/-- the weight of a plan, as the law reckons it -/
def pWl (st:List Cmd) (re:List (List UInt8)) (co:Int):Int:=(re.length:Int) * 8589934592+co+134217728 * (cnt3 st:Int)
theorem cnt3_next {st:List Cmd} {i:Nat} {c:Cmd} (h:st[i]? = some c):cnt3 (st.take (i+1))=cnt3 (st.take i)+if c.kind=3 then 1 else 0:=by
 rw [List.take_add_one,h]; exact cnt3_one _ _
theorem cnt3_le (st:List Cmd):cnt3 st≤st.length:=List.countP_le_length
set_option maxHeartbeats 4000000 in
set_option maxRecDepth 100000 in
theorem lweight_any (vl vu:Value) (S T:Foot) (st:List Cmd) (re:List (List UInt8)) (co:Int) (vs vr vR vC:Value) (w:World) (hs:SlR 6 CmdR S w st vs) (hr:SlR 1 StrR T w re vr) (h1:st.length≤1000) (h2:re.length≤1000) (h3:0≤co) (h4:co≤1099511627776) :
  Calls Tryd.prog 11 #[vl,.agg #[vs,vr,iv co,vR,vC],vu] w fun e w'=>e=.returned (iv (pWl st re co))∧Below w.heap.size w w':=by
 obtain ⟨sa,sc,hvs,-⟩:=hs.slice; obtain ⟨ra,rc,hvr,-⟩:=hr.slice; subst hvs hvr; obtain ⟨n1,hn1⟩:∃ n,n=st.length:=⟨_,rfl⟩; obtain ⟨n2,hn2⟩:∃ n,n=re.length:=⟨_,rfl⟩; have b1:Below w.heap.size w (w.alloc (.cells #[.slice sa n1 sc,.slice ra n2 rc,iv co,vR,vC] 28 (0,0))):=(Below.refl _ w).alloc (Nat.le_refl _) _; have r1:=heap_alloc_new' w (.cells #[.slice sa n1 sc,.slice ra n2 rc,iv co,vR,vC] 28 (0,0)); obtain ⟨W1,hW1⟩:∃ W,W=w.alloc (.cells #[.slice sa n1 sc,.slice ra n2 rc,iv co,vR,vC] 28 (0,0)):=⟨_,rfl⟩; rw [← hW1] at b1 r1; rw [← hn1] at hs h1 ⊢; rw [← hn2] at hr h2 ⊢; obtain ⟨x0,x1,x2,x3,x4⟩:=cells5 r1; obtain ⟨C,hC⟩:∃ C:Int,C=(n2:Int) * 8589934592+co:=⟨_,rfl⟩
 have hfin:Hid (∀ k:Nat,k=cnt3 st→C+134217728 * (k:Int)=pWl st re co):=hid fun k hk=>by
  unfold pWl; rw [hC,hk,hn2]
 have hsh:IntKind.i64.wrap ((n2:Int) * 8589934592+co)=C:=by rw [IntKind.wrap_i64]; omega
 have hCb:0≤C∧C≤9689446219776:=by omega
 have hP:=hid r1; have hB:=hid b1; replace hs:=hid hs; replace hr:=hid hr; replace hW1:=hid hW1; replace hC:=hid hC; replace hn1:=hid hn1; replace hn2:=hid hn2
 go_enter Tryd.func11,Tryd.ntmps11
 go_upto_region 1 with (fail)
 rw [← hW1.out]
 go_wp2_with fail
 go_loopg [7,8] n1 (fun f v7 v8 wr=>∃ (i:Nat),v7=iv (C+134217728 * ((cnt3 (st.take i):Nat):Int))∧v8=iv i∧i+f=n1∧Hid (Below w.heap.size w wr)∧Hid (wr.heap[w.heap.size]? = some (.cells #[.slice sa n1 sc,.slice ra n2 rc,iv co,vR,vC] 28 (0,0))))
 case atStart=>exact ⟨0,by simp [cnt3],rfl,by omega,hB,hP⟩
 case round =>
  obtain ⟨i,rfl,rfl,hif,hBr,hPr⟩:=hrel; clear hP hB x0 x1 x2 x3 x4; obtain ⟨x0,x1,x2,x3,x4⟩:=cells5 hPr.out; have hcl:=cnt3_le (st.take i); rw [List.length_take] at hcl; by_cases hi:i < n1
  ·have q1:decide ((i:Int) < (n1:Int))=true:=decide_eq_true (by omega)
   have q1':decide (i < n1)=true:=decide_eq_true hi; obtain ⟨c,hc⟩:∃ c,st[i]? = some c:=⟨_,List.getElem?_eq_getElem (by rw [← hn1.out]; exact hi)⟩; have hnx:=cnt3_next hc; have hsr:=hs.out.below goodCmd hBr.out; obtain ⟨g,off,cs,hidx,-,-,hcc,hRc⟩:=hsr.at (P:=Tryd.prog) (t:=25) (by kernel_rfl) (fun _=>by kernel_rfl) hc; obtain ⟨a1,k1,rfl,-⟩:=hRc; obtain ⟨ck,cn,co',ce,cm,ca⟩:=c; have d1:=hcc 1 _ rfl; replace d1:wr.cell? ⟨g,off+1,none⟩=some (iv cn):=d1; obtain ⟨K,hK⟩:∃ K,K=cnt3 (st.take i):=⟨_,rfl⟩; obtain ⟨K2,hK2⟩:∃ K,K=cnt3 (st.take (i+1)):=⟨_,rfl⟩; rw [← hK,← hK2] at hnx; rw [← hK] at hcl ⊢; replace hK:=hid hK; clear hcc hsr hc; by_cases h3:cn=3
   ·subst h3
    rw [if_pos rfl] at hnx
    have e2:IntKind.i64.wrap (C+134217728 * (K:Int)+134217728)=C+134217728 * (K2:Int):=by rw [IntKind.wrap_i64]; omega
    rw [hK2] at e2; replace hK2:=hid hK2; replace hnx:=hid hnx
    go_wp2_with fail
    go_roundg (n1 - (i+1))
    case measure=>omega
    case rel=>exact ⟨i+1,by first | rfl | rw [e2] | go_num,by go_num,by omega,hBr,hPr⟩
   ·rw [if_neg h3] at hnx
    have q3:(cn == 3)=false:=by simpa using h3
    have hKK:K=cnt3 (st.take (i+1)):=by omega
    replace hK2:=hid hK2; replace hnx:=hid hnx; replace hKK:=hid hKK
    go_wp2_with fail
    go_roundg (n1 - (i+1))
    case measure=>omega
    case rel=>exact ⟨i+1,by rw [← hKK.out],by go_num,by omega,hBr,hPr⟩
  ·have q1:decide ((i:Int) < (n1:Int))=false:=decide_eq_false (by omega)
   have q1':decide (i < n1)=false:=decide_eq_false hi; have e1:=hfin.out (cnt3 (st.take i)) (by rw [List.take_of_length_le (by rw [← hn1.out]; omega)]); rw [e1]; clear hcl; replace e1:=hid e1
   go_wp2_with fail
   go_ret; exact ⟨rfl,hBr.out⟩
end Go.Proofs.YtdmgfnnpjoihfaaDoor
