/- PmG: PmC, PmG, in one text. -/
import Derived.Test.YtfejagpjahoibaaGreatDoorPmE
import Derived.Test.YtfejagpjahoibaaGreatDoorPlV
import Derived.Test.YtfejagpjahoibaaGreatDoorPmF
set_option linter.unusedVariables false
set_option linter.unusedSimpArgs false
namespace Go.Proofs.YtfejagpjahoibaaGreatDoor
open Go.RowKit
open Go.Lib (hid)
/-- a plan as data -/
structure Pln where
 st:List Cmd
 re:List (List UInt8)
 co:Int
 rows:List Int
 cols:List Int
/-- the choice that a plan's steps tell -/
def pickOf (x:Stl) (st:List Cmd):List Int:=listN x.undo.length (pickedF x st st.length)
theorem picked_rng (x:Stl) (l:List Cmd):∀ n r,pickedF x l n r = -1∨∃ c:Nat,c < x.do.length∧pickedF x l n r=c
 | 0,r=>Or.inl rfl
 | n+1,r=>by
  have ih:=picked_rng x l n r; have e0:pickedF x l (n+1)=(match l[n]? with | some c=>pickS x c (pickedF x l n) | none=>pickedF x l n):=rfl; rw [e0]
  cases l[n]? with
  | none=>exact ih
  | some c =>
   show pickS x c (pickedF x l n) r = -1∨∃ d:Nat,d < x.do.length∧pickS x c (pickedF x l n) r=d
   unfold pickS
   by_cases e:c.kind=4∧0≤keyI x.undo c.of∧0≤keyI x.do c.new
   ·rw [if_pos e]
    by_cases q:r=(keyI x.undo c.of).toNat
    ·right
     rw [q,Pl.upd_same]
     rcases idxF_bounds (keyP c.new) x.do with e2 | ⟨k,y,e2,e3,-⟩
     ·have:keyI x.do c.new = -1:=e2
      omega
     ·exact ⟨k,e3,e2⟩
    ·rw [Pl.upd_other _ _ q]; exact ih
   ·rw [if_neg e]; exact ih
theorem pickOf_i64 {x:Stl} {st:List Cmd} (hk:x.do.length≤32):∀ j∈pickOf x st,I64 j:=by
 intro j hj; unfold pickOf listN at hj; obtain ⟨r,-,rfl⟩:=List.mem_map.1 hj; unfold I64; rcases picked_rng x st st.length r with e | ⟨c,hc,e⟩ <;> omega
/- the steps' arguments are values -/
theorem valsB_nil:ValsB []:=⟨by simp,fun x h=>by cases h⟩
theorem dAt_vals {x:Stl} (h:∀ o∈x.do,ValsB o.args) (j:Int):ValsB (dAt x j).args:=by
 unfold dAt
 rcases e:x.do[j.toNat]? with _ | o
 ·exact valsB_nil
 ·exact h o (List.mem_of_getElem? e)
theorem cmd_vals (t k:Int) (u d:Out) (h:ValsB d.args):ValsB (cmdF t k u d).args:=by
 show ValsB (if k=2∨k=3 then [] else d.args); split
 ·exact valsB_nil
 ·exact h
theorem run1_vals {x:Stl} (h:∀ o∈x.do,ValsB o.args) (pick:List Int) (dr:List Opt):∀ i,(∀ c∈(run1 x pick dr i).st,ValsB c.args)∧∀ c∈(run1 x pick dr i).un,ValsB c.args
 | 0=>⟨fun c hc=>(by cases hc),fun c hc=>(by cases hc)⟩
 | i+1=>by
  obtain ⟨h1,h2⟩:=run1_vals h pick dr i; show (∀ c∈(p1 x pick i ((dr[i]?).getD opt0) (run1 x pick dr i)).st,ValsB c.args)∧∀ c∈(p1 x pick i ((dr[i]?).getD opt0) (run1 x pick dr i)).un,ValsB c.args; unfold p1; split
  ·exact ⟨h1,h2⟩
  ·split
   ·refine ⟨fun c hc=>?_,h2⟩
    rcases List.mem_append.1 hc with hc | hc
    ·exact h1 c hc
    ·rw [List.mem_singleton] at hc; subst hc; exact cmd_vals _ _ _ _ (dAt_vals h _)
   ·refine ⟨h1,fun c hc=>?_⟩
    rcases List.mem_append.1 hc with hc | hc
    ·exact h2 c hc
    ·rw [List.mem_singleton] at hc; subst hc; exact cmd_vals _ _ _ _ valsB_nil
theorem run2_vals {x:Stl} (h:∀ o∈x.do,ValsB o.args) (tk:Nat→Bool) (p:P4) (h1:∀ c∈p.st,ValsB c.args) (h2:∀ c∈p.un,ValsB c.args):∀ j,∀ c∈(run2 x tk p j).st,ValsB c.args
 | 0,c,hc=>by
  rcases List.mem_append.1 hc with hc | hc
  ·exact h1 c hc
  ·exact h2 c hc
 | j+1,c,hc=>by
  have ih:=run2_vals h tk p h1 h2 j; replace hc:c∈(p2 x tk j ((x.give[j]?).getD opt0) (run2 x tk p j)).st:=hc; unfold p2 at hc; split at hc
  ·exact ih c hc
  ·split at hc
   ·exact ih c hc
   ·rcases List.mem_append.1 hc with hc | hc
    ·exact ih c hc
    ·rw [List.mem_singleton] at hc; subst hc; exact cmd_vals _ _ _ _ (dAt_vals h _)
theorem plan_vals {x:Stl} {pick:List Int} {p:P4} (h:∀ o∈x.do,ValsB o.args) (hp:planF x pick=some p):∀ c∈p.st,ValsB c.args:=by
 unfold planF at hp
 cases e:optionsF x pick with
 | none=>rw [e] at hp; cases hp
 | some s =>
  rw [e] at hp; injection hp with hp; obtain ⟨h1,h2⟩:=run1_vals h pick s.1 x.undo.length; rw [← hp]; exact run2_vals h _ _ h1 h2 _
theorem plan_lens {x:Stl} {pick:List Int} {p:P4} (hp:planF x pick=some p):p.st.length≤2 * x.undo.length+x.do.length∧p.re.length≤x.undo.length+x.do.length:=by
 unfold planF at hp
 cases e:optionsF x pick with
 | none=>rw [e] at hp; cases hp
 | some s =>
  rw [e] at hp; injection hp with hp; have h1:=run1_len x pick s.1 x.undo.length
  have h2:=run2_len x s.2 (run1 x pick s.1 x.undo.length) x.do.length
  rw [hp] at h2; omega
/-- what Check asks -/
def CheckP (l:List Offer) (undo «do»:List Out) (clock turn:Int) (rf:List (List UInt8)) (p:Pln):Prop :=
 prepE l undo «do» = 0∧∃ q,planF (stlF l undo «do» clock turn rf) (pickOf (stlF l undo «do» clock turn rf) p.st)=some q∧q.co=p.co∧q.re=p.re∧q.st=p.st ∧
  ProvesP (g0 (stlF l undo «do» clock turn rf)) (weightF (stlF l undo «do» clock turn rf) (pickOf (stlF l undo «do» clock turn rf) p.st)).1 p.rows p.cols
def CkPost (l:List Offer) (undo «do»:List Out) (clock turn:Int) (rf:List (List UInt8)) (p:Pln) (w:World) (e:Ending) (w':World):Prop:=∃ b:Bool,e=.returned (.bool b)∧(b=true ↔ CheckP l undo «do» clock turn rf p)∧Below w.heap.size w w'
set_option maxHeartbeats 40000000 in
set_option maxRecDepth 100000 in
theorem check_any (S:Foot) (l:List Offer) (undo «do»:List Out) (clock turn:Int) (rf:List (List UInt8)) (vl vu vd vr:Value) (w:World) (h:PIn S l undo «do» rf vl vu vd vr w) (hn:undo.length+«do».length≤31) (hv:∀ o∈«do»,ValsB o.args)
  (p:Pln) (T:Foot) (vs ve vR vC:Value) (hs:SlR 6 CmdR T w p.st vs) (he:SlR 1 StrR T w p.re ve) (hR:SlR 1 IntR T w p.rows vR) (hC:SlR 1 IntR T w p.cols vC) (hsl:p.st.length≤1000000) (hel:p.re.length≤1000000) (hsv:∀ c∈p.st,ValsB c.args) :
  Calls Tryz.prog 13 #[vl,vu,vd,iv clock,iv turn,vr,.agg #[vs,ve,iv p.co,vR,vC]] w (CkPost l undo «do» clock turn rf p w):=by
 have b1:Below w.heap.size w (w.alloc (.cells #[vs,ve,iv p.co,vR,vC] 31 (0,0))):=(Below.refl _ w).alloc (Nat.le_refl _) _; have r1:=heap_alloc_new' w (.cells #[vs,ve,iv p.co,vR,vC] 31 (0,0))
 have s1:(w.alloc (.cells #[vs,ve,iv p.co,vR,vC] 31 (0,0))).heap.size=w.heap.size+1:=by simp
 have ho:=prepare_any S l undo «do» clock turn rf vl vu vd vr (w.alloc (.cells #[vs,ve,iv p.co,vR,vC] 31 (0,0))) (h.below b1)
 have htb:=hid (h.below b1).tb; have hu2:=hid h.u2; have hd2:=hid h.d2; obtain ⟨ua,uc,hvu,-⟩:=h.ur.slice; obtain ⟨da,dc,hvd,-⟩:=h.dr.slice; obtain ⟨la,lc,hvl,-⟩:=h.lr.slice; obtain ⟨ra,rc,hvr,-⟩:=h.rr.slice; obtain ⟨sa,sc,hvs,-⟩:=hs.slice; obtain ⟨ea,ec,hve,-⟩:=he.slice; obtain ⟨Ra,Rc,hvR,-⟩:=hR.slice; obtain ⟨Ca,Cc,hvC,-⟩:=hC.slice; rw [hvu,hvd,hvl,hvr] at ho; rw [hvu,hvd,hvl,hvr]
 generalize hPQ:CkPost l undo «do» clock turn rf p w=PQ
 unfold CkPost CheckP at hPQ; unfold PPost at ho; obtain ⟨p1,p2,p3,p4,p5⟩:=p; replace hs:SlR 6 CmdR T w p1 vs:=hs; replace he:SlR 1 StrR T w p2 ve:=he; replace hR:SlR 1 IntR T w p4 vR:=hR; replace hC:SlR 1 IntR T w p5 vC:=hC; replace hsl:p1.length≤1000000:=hsl; replace hel:p2.length≤1000000:=hel; replace hsv:∀ c∈p1,ValsB c.args:=hsv; replace hvs:vs=.slice sa p1.length sc:=hvs; replace hve:ve=.slice ea p2.length ec:=hve; replace hvR:vR=.slice Ra p4.length Rc:=hvR; replace hvC:vC=.slice Ca p5.length Cc:=hvC
 dsimp only at hPQ b1 r1 s1 ho htb ⊢
 obtain ⟨W1,hW1⟩:∃ W,W=w.alloc (.cells #[vs,ve,iv p3,vR,vC] 31 (0,0)):=⟨_,rfl⟩; rw [← hW1] at b1 r1 s1 ho htb
 obtain ⟨E,hE⟩:∃ E,E=prepE l undo «do»:=⟨_,rfl⟩
 obtain ⟨x,hx⟩:∃ x,x=stlF l undo «do» clock turn rf:=⟨_,rfl⟩
 rw [← hE,← hx] at ho hPQ
 have hok0:E=0→StlB x∧StlK x:=fun e=>by
  have:=okArg_of (hE.symm.trans e); rw [hx]; exact ⟨stlF_b this,stlF_k this⟩
 have hxm:x.undo.length=undo.length:=by rw [hx]; rfl
 have hxk:x.do.length = «do».length:=by rw [hx]; rfl
 have hxu:∀ o∈x.undo,o.key.length≤1000:=by rw [hx]; exact hu2.out
 have hxd:∀ o∈x.do,o.key.length≤1000∧ValsB o.args:=by rw [hx]; exact fun o ho=>⟨hd2.out o ho,hv o ho⟩
 subst hvs hve hvR hvC; replace ho:=hid ho; replace hPQ:=hid hPQ; replace hok0:=hid hok0; replace hxm:=hid hxm; replace hxk:=hid hxk; replace hxu:=hid hxu; replace hxd:=hid hxd; replace b1:=hid b1; replace r1:=hid r1; have s1':=hid s1; replace hW1:=hid hW1; replace hn:=hid hn; replace hs:=hid hs; replace he:=hid he; replace hR:=hid hR; replace hC:=hid hC; replace hsv:=hid hsv; clear s1 hE hx h hv hu2 hd2 hvu hvd hvl hvr
 go_enter Tryz.func13,Tryz.ntmps13
 go_wp2_with fail
 rw [← hW1.out]; refine ho.out.mono ?_; rintro e w1 ⟨hb,(⟨hne,rfl⟩ | ⟨h0,X,rfl,hX1,hX2,hX3⟩)⟩
 ·have q0:(E == 0)=false:=by simpa using hne
  have hpost:Hid (PQ (.returned (.bool false)) w1):=hid (by
   rw [← hPQ.out]; exact ⟨false,rfl,⟨fun h=>(by cases h),fun h=>absurd h.1 hne⟩,b1.out.trans (hb.mono b1.out.size)⟩)
  clear ho hok0 hb hne
  go_wp2_with fail
  exact hpost.out
 ·subst h0
  obtain ⟨hB,hK⟩:=hok0.out rfl; have hbw:=b1.out.trans (hb.mono b1.out.size); have hr:=(hb.block w.heap.size (by rw [s1'.out]; omega)).trans r1.out; have hrl:=lt_of_heap hr; obtain ⟨x0,x1,x2,-,-⟩:=cells5 hr; have hpk:=picked_any X x p1 T _ w1 hX2 hsl (hs.out.below goodCmd hbw); have htw:=htb.out.below hb
  have hX3':∀ q,X.F q→q < w1.heap.size:=fun q hq=>(hX3 q hq).2
  replace hpk:=hid hpk; replace hX2:=hid hX2; replace hX3':=hid hX3'; replace hbw:=hid hbw; replace hr:=hid hr; replace hb:=hid hb; replace hB:=hid hB; replace hK:=hid hK; replace htw:=hid htw; replace hrl:=hid hrl; obtain ⟨n1,hn1⟩:∃ n,n=p1.length:=⟨_,rfl⟩; obtain ⟨n2,hn2⟩:∃ n,n=p2.length:=⟨_,rfl⟩; obtain ⟨m,hm⟩:∃ n,n=x.undo.length:=⟨_,rfl⟩; rw [← hm] at hpk; rw [← hn1] at hpk x0; rw [← hn2] at x1; rw [← hn1,← hn2]; replace hn1:=hid hn1; replace hn2:=hid hn2; clear ho hok0 htb hX1 hX3
  go_wp2_with fail
  refine hpk.out.mono ?_; rintro e w2 ⟨pb,rfl,hI,-,hb2⟩; have hpsl:=hI.sl (S:=fun _=>True) (cap:=m) trivial (Nat.le_refl _); obtain ⟨pk,hpkq⟩:∃ pk,pk=pickOf x p1:=⟨_,rfl⟩
  have hpki:∀ j∈pk,I64 j:=by rw [hpkq]; exact pickOf_i64 (by have:=hn.out; rw [hxk.out]; omega)
  have hpkl:pk.length=m:=by rw [hpkq,hm]; exact listN_len _ _
  replace hpsl:SlR 1 IntR (fun _=>True) w2 pk (.slice (some ⟨pb,0,none⟩) m m):=by rw [hpkq]; unfold pickOf; rw [← hm,← hn1.out]; exact hpsl
  have hX2':=hX2.out.below hb2; have hpn:=plan_any X x pk _ _ w2 hX2' hB.out hK.out hpsl (by have:=hn.out; have:=hxm.out; omega) hpki (hid (htw.out.below hb2)) hxu.out hxd.out; have hrr:=(hb2.block w.heap.size hrl.out).trans hr.out; unfold PlPost at hpn; replace hpn:=hid hpn; replace hpkq:=hid hpkq; replace hpki:=hid hpki; replace hpsl:=hid hpsl; replace hX2':=hid hX2'; replace hrr:=hid hrr; have hb2':=hid (hbw.out.trans (hb2.mono hbw.out.size)); replace hb2:=hid hb2; replace hm:=hid hm; clear hpk hI x0 x1 x2
  go_wp2_with fail
  refine hpn.out.mono ?_; rintro e w3 ⟨hb3,hor⟩; have hb3':=hid (hb2'.out.trans (hb3.mono hb2'.out.size)); have hrr3:=(hb3.block w.heap.size (lt_of_heap hrr.out)).trans hrr.out; obtain ⟨y0,y1,y2,y3,y4⟩:=cells5 hrr3; have hlt3:=lt_of_heap hrr3; replace hrr3:=hid hrr3; rw [← hn1.out] at y0; rw [← hn2.out] at y1; rcases hor with ⟨hno,rfl⟩ | ⟨q,vq,vp,hq,rfl,hq1,hq2⟩
  ·have hpost:Hid (∀ W,Below w.heap.size w W→PQ (.returned (.bool false)) W):=hid fun W hW=>by
    rw [← hPQ.out]; refine ⟨false,rfl,⟨fun h=>(by cases h),fun h=>?_⟩,hW⟩; obtain ⟨-,q,h1,-⟩:=h; rw [← hpkq.out,hno] at h1; cases h1
   replace hno:=hid hno; replace hb3:=hid hb3; clear hpn
   go_wp2_with fail
   exact hpost.out _ (hb3'.out.alloc hb3'.out.size _)
  ·obtain ⟨qa,qc,rfl,-⟩:=hq1.slice
   obtain ⟨ra',rc',rfl,-⟩:=hq2.slice; have hqv:=plan_vals (fun o ho=>(hxd.out o ho).2) hq; have hql:=plan_lens hq
   have hno:Hid (∀ W,Below w.heap.size w W→(q.co=p3→q.re=p2→q.st=p1→¬ ProvesP (g0 x) (weightF x pk).1 p4 p5)→PQ (.returned (.bool false)) W):=hid fun W hW hx=>by
    rw [← hPQ.out]; refine ⟨false,rfl,⟨fun h=>(by cases h),fun h=>?_⟩,hW⟩; obtain ⟨-,q',h1,h2,h3,h4,h5⟩:=h; rw [← hpkq.out,hq] at h1; injection h1 with h1; subst h1; rw [← hpkq.out] at h5; exact absurd h5 (hx h2 h3 h4)
   have hqs:=hq1; obtain ⟨qst,qre,qco,qun⟩:=q; replace hq1:SlR 6 CmdR _ w3 qst (.slice qa qst.length qc):=hq1; replace hq2:SlR 1 StrR _ w3 qre (.slice ra' qre.length rc'):=hq2; replace hqv:∀ c∈qst,ValsB c.args:=hqv
   replace hql:qst.length≤2 * x.undo.length+x.do.length∧qre.length≤x.undo.length+x.do.length:=hql
   have hln:x.undo.length+x.do.length≤31:=by rw [hxm.out,hxk.out]; exact hn.out
   clear hqs
   dsimp only at hno ⊢
   have kB:Below w3.heap.size w3 (w3.alloc (.cells #[.slice qa qst.length qc,.slice ra' qre.length rc',iv qco,.slice none 0 0,.slice none 0 0] 31 (0,0))):=(Below.refl _ w3).alloc (Nat.le_refl _) _; have rB:=heap_alloc_new' w3 (.cells #[.slice qa qst.length qc,.slice ra' qre.length rc',iv qco,.slice none 0 0,.slice none 0 0] 31 (0,0)); have hc1:=eqStrs_any qre p2 (by omega) hel _ T _ _ _ (hq2.below goodStr kB) (he.out.below goodStr (hb3'.out.trans (kB.mono hb3'.out.size)))
   have hc2:=fun W (hW:Below w3.heap.size w3 W)=>equalFunc45_any qst p1 (by omega) hsl hqv hsv.out _ T _ _ W (hq1.below goodCmd hW) (hs.out.below goodCmd (hb3'.out.trans (hW.mono hb3'.out.size)))
   obtain ⟨W4,hW4⟩:∃ W,W=w3.alloc (.cells #[.slice qa qst.length qc,.slice ra' qre.length rc',iv qco,.slice none 0 0,.slice none 0 0] 31 (0,0)):=⟨_,rfl⟩; obtain ⟨B,hBq⟩:∃ B,B=w3.heap.size:=⟨_,rfl⟩; obtain ⟨n3,hn3⟩:∃ n,n=qst.length:=⟨_,rfl⟩; obtain ⟨n4,hn4⟩:∃ n,n=qre.length:=⟨_,rfl⟩; rw [← hW4] at kB rB hc1; rw [← hBq] at rB; rw [← hn3] at rB hc2 ⊢; rw [← hn4] at rB hc1 ⊢; rw [← hn2.out] at hc1; rw [← hn1.out] at hc2; have hb4:=hb3'.out.trans (kB.mono hb3'.out.size); have hrr4:=(kB.block w.heap.size hlt3).trans hrr3.out; obtain ⟨z0,z1,z2,z3,z4⟩:=cells5 rB; obtain ⟨x0,x1,x2,x3,x4⟩:=cells5 hrr4; have hlt4:=lt_of_heap hrr4; have hlB:=lt_of_heap rB; rw [← hn1.out] at x0; rw [← hn2.out] at x1
   replace hW4:=hid (hn3 ▸ hn4 ▸ hW4:W4=w3.alloc (.cells #[.slice qa n3 qc,.slice ra' n4 rc',iv qco,.slice none 0 0,.slice none 0 0] 31 (0,0))); replace hBq:=hid hBq; replace hn3:=hid hn3; replace hn4:=hid hn4; replace hq:=hid hq; replace hqv:=hid hqv; replace kB:=hid kB; replace rB:=hid rB; replace hb4:=hid hb4; replace hrr4:=hid hrr4; replace hc1:=hid hc1; replace hc2:=hid hc2; replace hq1:=hid hq1; replace hq2:=hid hq2; replace hb3:=hid hb3; clear hpn y0 y1 y2 y3 y4; have hX4:=hid ((hX2'.out.below hb3.out).below kB.out); by_cases hco:qco=p3
   ·have e0:(qco == p3)=true:=by simpa using hco
    replace hco:=hid hco
    go_upto_region 6 with (fail)
    rw [← hW4.out,← hBq.out]
    go_wp2_with fail
    refine hc1.out.mono ?_; rintro e w5 ⟨rfl,hb5⟩; have hb5':=hid (hb4.out.trans (hb5.mono hb4.out.size)); obtain ⟨z0,z1,z2,z3,z4⟩:=cells5 ((hb5.block B hlB).trans rB.out); have hrr5:=(hb5.block w.heap.size hlt4).trans hrr4.out; obtain ⟨x0,x1,x2,x3,x4⟩:=cells5 hrr5; have hlt5:=lt_of_heap hrr5; have hlB5:=Nat.lt_of_lt_of_le hlB hb5.size; rw [← hn1.out] at x0; rw [← hn2.out] at x1; have hc3:=hid (hc2.out w5 (kB.out.trans (hb5.mono kB.out.size))); have hX5:=hid (hX4.out.below hb5); replace hrr5:=hid hrr5; have kB5:=hid (kB.out.trans (hb5.mono kB.out.size)); clear hc1 hc2 hX4 hrr4 hb5 hb4; by_cases hre:qre=p2
    ·rw [decide_eq_true hre]
     replace hre:=hid hre
     go_wp2_with fail
     refine hc3.out.mono ?_; rintro e w6 ⟨rfl,hb6⟩; have hb6':=hid (hb5'.out.trans (hb6.mono hb5'.out.size)); have hrr6:=(hb6.block w.heap.size hlt5).trans hrr5.out; obtain ⟨x0,x1,x2,x3,x4⟩:=cells5 hrr6; have hlt6:=lt_of_heap hrr6; have hX6:=hX5.out.below hb6; have kB6:=kB5.out.trans (hb6.mono kB5.out.size); by_cases hst:qst=p1
     ·rw [dec_true hst]
      have hw:=weight_any X x pk (fun _=>True) _ w6 hX6 hB.out ((hpsl.out.below goodInt (hb3.out)).below goodInt kB6) (by have:=hn.out; have:=hxm.out; have:=hm.out; omega) hpki.out; obtain ⟨R1,hR1⟩:∃ r,r=(weightF x pk).1:=⟨_,rfl⟩; obtain ⟨R2,hR2⟩:∃ r,r=(weightF x pk).2:=⟨_,rfl⟩; rw [← hR1,← hR2] at hw; rw [← hR1] at hno; replace hR1:=hid hR1; replace hw:=hid hw; replace hX6:=hid hX6; replace hrr6:=hid hrr6; replace hst:=hid hst; replace kB6:=hid kB6; clear hc3 hb6 hX5 hrr5 hb5' kB5 hR2
      go_wp2_with fail
      refine hw.out.mono ?_; rintro e w7 ⟨rfl,hb7⟩; have hb7':=hid (hb6'.out.trans (hb7.mono hb6'.out.size)); have hrr7:=(hb7.block w.heap.size hlt6).trans hrr6.out; obtain ⟨x0,x1,x2,x3,x4⟩:=cells5 hrr7; have hlt7:=lt_of_heap hrr7; have hX7:=hX6.out.below hb7; replace hrr7:=hid hrr7; replace hX7:=hid hX7
      have hng:=hid (fun W (hW:Below w7.heap.size w7 W)=>newGrid_any X x W (hX7.out.below hW) (fun q hq=>by
       have h1:=hX3'.out q hq; have h2:=hb2.out.size; have h3:=hb3.out.size; have h4:=kB6.out.size; have h5:=hb7.size; have h6:=hW.size
       omega))
      have hGN:=hid (show GN (g0 x) from (gN_bound hB.out hln (i:=0) (by omega)).1); have hpR:=hid (fun W (hW:Below w7.heap.size w7 W)=>(hR.out.below goodInt (hb7'.out.trans (hW.mono hb7'.out.size)))); have hpC:=hid (fun W (hW:Below w7.heap.size w7 W)=>(hC.out.below goodInt (hb7'.out.trans (hW.mono hb7'.out.size)))); obtain ⟨n5,hn5⟩:∃ n,n=p4.length:=⟨_,rfl⟩; obtain ⟨n6,hn6⟩:∃ n,n=p5.length:=⟨_,rfl⟩; rw [← hn5] at x3 hpR; rw [← hn6] at x4 hpC; rw [← hn5,← hn6]; replace hb7:=hid hb7; replace hn5:=hid hn5; replace hn6:=hid hn6; clear hw hX6 hrr6 hb6'
      go_upto_region 9 with (fail)
      go_region_held3 (fun w'=>w'.cell? ⟨w.heap.size,3,none⟩=some (.slice Ra n5 Rc)∧w'.cell? ⟨w.heap.size,4,none⟩=some (.slice Ca n6 Cc)) (first | with_reducible exact ⟨x3,x4⟩ | with_reducible exact ⟨k3,k4⟩ | with_reducible exact ⟨m3,m4⟩ | go_keep) (first | (go_at_call 16; refine (hng.out _ (Below.refl _ _).drew).mono ?_; rintro e w8 ⟨G,rfl,hG,-,-,hb8,-,-⟩; have k3:=(hb8.cell (p:=⟨w.heap.size,3,none⟩) hlt7).trans x3; have k4:=(hb8.cell (p:=⟨w.heap.size,4,none⟩) hlt7).trans x4; have hpv:=hid (proves_any G (g0 x) R1 p4 p5 T _ _ w8 hG hGN.out (hpR.out w8 ((Below.refl _ _).drew.trans hb8)) (hpC.out w8 ((Below.refl _ _).drew.trans hb8)))) | (go_at_call 39; refine hpv.out.mono ?_; rintro e w9 ⟨b,rfl,hbp,hb9⟩; have m3:=(hb9.cell (p:=⟨w.heap.size,3,none⟩) (Nat.lt_of_lt_of_le hlt7 hb8.size)).trans k3; have m4:=(hb9.cell (p:=⟨w.heap.size,4,none⟩) (Nat.lt_of_lt_of_le hlt7 hb8.size)).trans k4))
      have hb9':Below w.heap.size w w9:=by
       have e1:Below w7.heap.size w7 w8:=(Below.refl _ w7).drew.trans hb8; have e2:=e1.trans (hb9.mono e1.size); exact hb7'.out.trans (e2.mono hb7'.out.size)
      have hpost:PQ (.returned (.bool b)) w9:=by
       rw [← hPQ.out]; refine ⟨b,rfl,hbp.trans ⟨fun h=>?_,fun h=>?_⟩,hb9'⟩
       ·exact ⟨(by first | rfl | trivial),⟨qst,qre,qco,qun⟩,by rw [← hpkq.out]; exact hq.out,hco.out,hre.out,hst.out,by rw [← hpkq.out,← hR1.out]; exact h⟩
       ·obtain ⟨-,q',-,-,-,-,h5⟩:=h
        rw [← hpkq.out,← hR1.out] at h5; exact h5
      replace hpost:=hid hpost; replace hbp:=hid hbp; clear hb9'
      go_wp2_with fail
      exact hpost.out
     ·rw [dec_false hst]
      have hst':=hid hst; replace hX6:=hid hX6; replace hrr6:=hid hrr6; replace kB6:=hid kB6; clear hst hc3 hb6
      go_wp2_with fail
      exact hno.out _ hb6'.out (fun _ _ e=>absurd e hst'.out)
    ·rw [decide_eq_false hre]
     have hre':=hid hre; clear hre hc3
     go_wp2_with fail
     exact hno.out _ hb5'.out (fun _ e=>absurd e hre'.out)
   ·have e0:(qco == p3)=false:=by simpa using hco
    go_upto_region 6 with (fail)
    rw [← hW4.out,← hBq.out]
    go_wp2_with fail
    exact hno.out _ hb4.out (fun e=>absurd e hco)
end Go.Proofs.YtfejagpjahoibaaGreatDoor
set_option linter.unusedSimpArgs false
namespace Go.Proofs.YtfejagpjahoibaaGreatDoor
open Go.RowKit
open Go.Lib (hid)
/-- what Few lets in -/
structure Few45 (l:List Offer) (undo «do»:List Out) (rf:List (List UInt8)):Prop where
 l:l.length≤6
 u:EffS undo 5
 d:EffS «do» 5
 r:rf.length≤40
/-- what a statement's reading gives: no bound of a key's length but the reading's own -/
structure PI0 (S:Foot) (l:List Offer) (undo «do»:List Out) (rf:List (List UInt8)) (vl vu vd vr:Value) (w:World):Prop where
 l1:l.length≤1048576
 l2:∀ o∈l,o.name.length≤1048576∧∀ z∈[o.do,o.undo,o.due,o.part,o.amend],-9223372036854775808≤z∧z≤9223372036854775807
 lr:SlR 6 OffR S w l vl
 u1:undo.length≤1048576
 ur:SlR 5 OutR S w undo vu
 d1:«do».length≤1048576
 dr:SlR 5 OutR S w «do» vd
 r1:rf.length≤1048576
 r2:∀ s∈rf,s.length≤1048576
 rr:SlR 1 StrR S w rf vr
 tb:Tabs w
theorem PI0.below {S:Foot} {l:List Offer} {undo «do»:List Out} {rf:List (List UInt8)} {vl vu vd vr:Value} {w w':World} (h:PI0 S l undo «do» rf vl vu vd vr w) (hb:Below w.heap.size w w'):PI0 S l undo «do» rf vl vu vd vr w' :=
 ⟨h.l1,h.l2,h.lr.below goodOff hb,h.u1,h.ur.below goodOut hb,h.d1,h.dr.below goodOut hb,h.r1,h.r2,h.rr.below goodStr hb,h.tb.below hb⟩
theorem PI0.full {S:Foot} {l:List Offer} {undo «do»:List Out} {rf:List (List UInt8)} {vl vu vd vr:Value} {w:World} (h:PI0 S l undo «do» rf vl vu vd vr w) (hf:Few45 l undo «do» rf):PIn S l undo «do» rf vl vu vd vr w :=
 ⟨h.l1,h.l2,h.lr,Nat.le_trans hf.u.1 (by decide),fun o ho=>Nat.le_trans (hf.u.2 o ho).1 (by decide),h.ur,Nat.le_trans hf.d.1 (by decide),fun o ho=>Nat.le_trans (hf.d.2 o ho).1 (by decide),h.dr,Nat.le_trans hf.r (by decide),h.r2,h.rr,h.tb⟩
set_option maxHeartbeats 4000000 in
set_option maxRecDepth 100000 in
theorem few45_any (S:Foot) (l:List Offer) (undo «do»:List Out) (rf:List (List UInt8)) (vl vu vd vr:Value) (w:World) (h:PI0 S l undo «do» rf vl vu vd vr w) (hu:∀ o∈undo,ValsB o.args) (hv:∀ o∈«do»,ValsB o.args) :
  Calls Tryz.prog 5 #[vl,vu,vd,vr] w fun e w'=>∃ b:Bool,e=.returned (.bool b)∧(b=true→Few45 l undo «do» rf)∧Below w.heap.size w w':=by
 have hl1:=h.l1; have hr1:=h.r1; obtain ⟨ua,uc,hvu,-⟩:=h.ur.slice; obtain ⟨da,dc,hvd,-⟩:=h.dr.slice; obtain ⟨la,lc,hvl,-⟩:=h.lr.slice; obtain ⟨ra,rc,hvr,-⟩:=h.rr.slice; subst hvu hvd hvl hvr; have he1:=hid (fun W (hW:Below w.heap.size w W)=>effects_any undo 5 (by decide) h.u1 hu S _ W (h.ur.below goodOut hW)); have he2:=hid (fun W (hW:Below w.heap.size w W)=>effects_any «do» 5 (by decide) h.d1 hv S _ W (h.dr.below goodOut hW)); have hlr:=hid h.lr; have hl2:=hid h.l2; have hB:=hid (Below.refl w.heap.size w); replace h:=hid h; clear hu hv
 go_enter Tryz.func5,Tryz.ntmps5
 go_wp2_with fail
 go_loopg [9] l.length (fun f v9 wr=>∃ (i:Nat),v9=iv i∧i+f=l.length∧Hid (Below w.heap.size w wr))
 case atStart=>exact ⟨0,rfl,by omega,hB⟩
 case round =>
  obtain ⟨i,rfl,hif,hBr⟩:=hrel; clear hB
  have hexit:∀ (Q:Prop),True:=fun _=>trivial
  by_cases hil:i < l.length∧i < 10
  ·obtain ⟨hi1,hi2⟩:=hil
   have q1:decide ((i:Int) < (l.length:Int))=true:=decide_eq_true (by omega); have q1':decide (i < l.length)=true:=decide_eq_true hi1; have q2:decide ((i:Int) < 10)=true:=decide_eq_true (by omega); have q2':decide (i < 10)=true:=decide_eq_true hi2; obtain ⟨o,ho⟩:∃ o,l[i]? = some o:=⟨_,List.getElem?_eq_getElem hi1⟩; obtain ⟨g,off,cs,hidx,-,-,hcc,hRo⟩:=(hlr.out.below goodOff hBr.out).at (P:=Tryz.prog) (t:=22) (by kernel_rfl) (fun _=>by kernel_rfl) ho; have hcs:cs=offCs o:=hRo; subst hcs; have hnl:=(hl2.out o (List.mem_of_getElem? ho)).1; obtain ⟨nm,o1,o2,o3,o4,o5⟩:=o; have c0:=hcc 0 _ rfl; rw [Nat.add_zero] at c0; replace c0:wr.cell? ⟨g,off,none⟩=some (sv nm):=c0; replace hnl:nm.length≤1048576:=hnl; clear hcc hRo ho; by_cases b1:100 < nm.length
   ·have q3:decide ((100:Int) < (nm.length:Int))=true:=decide_eq_true (by omega)
    have q3':decide (100 < nm.length)=true:=decide_eq_true b1
    go_wp2_with fail
    go_ret; exact ⟨false,rfl,fun h=>(by cases h),hBr.out⟩
   ·have q3:decide ((100:Int) < (nm.length:Int))=false:=decide_eq_false (by omega)
    have q3':decide (100 < nm.length)=false:=decide_eq_false b1
    go_wp2_with fail
    go_roundg (l.length - (i+1))
    case measure=>omega
    case rel=>exact ⟨i+1,by go_num,by omega,hBr⟩
  ·by_cases h6:l.length≤6
   ·have hi1:¬ i < l.length:=by omega
    have q1:decide ((i:Int) < (l.length:Int))=false:=decide_eq_false (by omega); have q1':decide (i < l.length)=false:=decide_eq_false hi1; have q3:decide ((l.length:Int)≤6)=true:=decide_eq_true (by omega); have q3':decide (l.length≤6)=true:=decide_eq_true h6; have hc1:=hid (he1.out wr hBr.out)
    go_wp2_with fail
    refine hc1.out.mono ?_; rintro e w2 ⟨b1,rfl,he,hb2⟩; have hB2:=hid (hBr.out.trans (hb2.mono hBr.out.size)); clear hc1 hb2 he1
    cases b1 with
    | false =>
     replace he:=hid he
     go_wp2_with fail
     go_ret; exact ⟨false,rfl,fun h=>(by cases h),hB2.out⟩
    | true =>
     have hc2:=hid (he2.out w2 hB2.out); replace he:=hid (he rfl)
     go_wp2_with fail
     refine hc2.out.mono ?_; rintro e w3 ⟨b2,rfl,hd,hb3⟩; have hB3:=hid (hB2.out.trans (hb3.mono hB2.out.size)); clear hc2 hb3 he2
     cases b2 with
     | false =>
      replace hd:=hid hd
      go_wp2_with fail
      go_ret; exact ⟨false,rfl,fun h=>(by cases h),hB3.out⟩
     | true =>
      replace hd:=hid (hd rfl); by_cases h40:rf.length≤40
      ·have q4:decide ((rf.length:Int)≤40)=true:=decide_eq_true (by omega)
       have q4':decide (rf.length≤40)=true:=decide_eq_true h40
       go_wp2_with fail
       go_ret; exact ⟨true,rfl,fun _=>⟨h6,he.out,hd.out,h40⟩,hB3.out⟩
      ·have q4:decide ((rf.length:Int)≤40)=false:=decide_eq_false (by omega)
       have q4':decide (rf.length≤40)=false:=decide_eq_false h40
       go_wp2_with fail
       go_ret; exact ⟨false,rfl,fun h=>(by cases h),hB3.out⟩
   ·have q3:decide ((l.length:Int)≤6)=false:=decide_eq_false (by omega)
    have q3':decide (l.length≤6)=false:=decide_eq_false h6; by_cases hi1:i < l.length
    ·have q1:decide ((i:Int) < (l.length:Int))=true:=decide_eq_true (by omega)
     have q1':decide (i < l.length)=true:=decide_eq_true hi1; have q2:decide ((i:Int) < 10)=false:=decide_eq_false (by omega); have q2':decide (i < 10)=false:=decide_eq_false (by omega)
     go_wp2_with fail
     go_ret; exact ⟨false,rfl,fun h=>(by cases h),hBr.out⟩
    ·have q1:decide ((i:Int) < (l.length:Int))=false:=decide_eq_false (by omega)
     have q1':decide (i < l.length)=false:=decide_eq_false hi1
     go_wp2_with fail
     go_ret; exact ⟨false,rfl,fun h=>(by cases h),hBr.out⟩
/-- the weight of a plan, as the law reckons it -/
def pWl (st:List Cmd) (re:List (List UInt8)) (co:Int):Int:=(re.length:Int) * 8589934592+co+134217728 * (cnt3 st:Int)
end Go.Proofs.YtfejagpjahoibaaGreatDoor
