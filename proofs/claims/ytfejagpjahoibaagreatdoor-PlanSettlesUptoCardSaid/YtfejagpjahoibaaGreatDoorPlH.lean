/- plan, walks: Make. -/
import Derived.Test.YtfejagpjahoibaaGreatDoorPlB
import Derived.Test.YtfejagpjahoibaaGreatDoorPlF
import Derived.Test.YtfejagpjahoibaaGreatDoorPlN
set_option linter.unusedVariables false
set_option linter.unusedSimpArgs false
namespace Go.Proofs.YtfejagpjahoibaaGreatDoor
open Go.RowKit
open Go.Lib (hid)
theorem results_plnV {fn:Func} {p u:Tmp} (h:fn.results=#[.cell p 31,.tmp u]) (tmps:Array Value) (w:World) (R:Nat) (a b c d e x:Value) (hp:tmps.getD p undef=.pointer (some ⟨R,0,none⟩)) (hu:tmps.getD u undef=x) (hR:w.heap[R]? = some (.cells #[a,b,c,d,e] 31 (0,0))) :
  (results fn tmps).run Tryz.prog w=.ok (.tuple #[.agg #[a,b,c,d,e],x]) w:=by
 rw [results_cell_tmp h,hp,hu]; simp only [asAddr,Sem.run_pure,Result.andThen_ok]; rw [run_loadVar_row w R 31 31 _ (0,0) _ hR Tryz.underlying31 rfl (by kernel_rfl)]; rfl
/-- what Make answers -/
def MkPost (l:List Offer) (undo «do»:List Out) (clock turn:Int) (rf:List (List UInt8)) (w:World) (e:Ending) (w':World):Prop:=Below w.heap.size w w' ∧
 ((prepE l undo «do»≠0∧e=.returned (.tuple #[.agg #[.slice none 0 0,.slice none 0 0,iv 0,.slice none 0 0,.slice none 0 0],iv (prepE l undo «do»)])) ∨
  (prepE l undo «do» = 0∧∃ p vs vr vR vC,planF (stlF l undo «do» clock turn rf) (bestF (stlF l undo «do» clock turn rf))=some p∧e=.returned (.tuple #[.agg #[vs,vr,iv p.co,vR,vC],iv 0]) ∧
   SlR 6 CmdR (fun q=>w.heap.size≤q∧q < w'.heap.size) w' p.st vs∧SlR 1 StrR (fun q=>w.heap.size≤q∧q < w'.heap.size) w' p.re vr ∧
   SlR 1 IntR (fun q=>w.heap.size≤q∧q < w'.heap.size) w' (listN (undo.length+«do».length) (gN (stlF l undo «do» clock turn rf)).rows) vR∧SlR 1 IntR (fun q=>w.heap.size≤q∧q < w'.heap.size) w' (listN (undo.length+«do».length) (gN (stlF l undo «do» clock turn rf)).cols) vC))
theorem okArg_of {l:List Offer} {undo «do»:List Out} (h:prepE l undo «do» = 0):okArg l undo «do»:=by
 unfold prepE at h
 by_cases e:okArg l undo «do»
 ·exact e
 ·rw [if_neg e] at h; exact absurd h (by decide)
theorem place_at (G:GB) (x:Stl) (j:Nat) (w:World) (hB:StlB x) (hn:x.undo.length+x.do.length≤31) (hj:j < x.undo.length+x.do.length) (h:GM G (Pl.placed (g0 x) j) w) :
  Calls Tryz.prog 17 #[pt G.gb,iv j] w fun e w'=>e=.returned (.tuple #[])∧GM G (Pl.placed (g0 x) (j+1)) w'∧Fr (fun k=>k=G.rb∨k=G.kb∨k=G.ob) w w':=by
 obtain ⟨k1,k2,k3,k4⟩:=gk_ok hB (Nat.le_of_lt hj); obtain ⟨-,b1,b2,-⟩:=gN_bound hB hn (Nat.le_of_lt hj); obtain ⟨-,-,-,b3⟩:=gN_bound hB hn (i:=j+1) (by omega); refine place_any G (Pl.placed (g0 x) j) j (j * ((x.undo.length+x.do.length:Nat) * 1099511627776)) w h k1 (by rw [k2]; exact hj) (by rw [k2]; omega) (fun ρ c _ _=>by rw [k3]; exact cell_le hB ρ c) (Pl.whole x.op fun _=>-1) ⟨fun ρ hr=>?_,fun ρ τ hr ht e=>?_⟩ b1 b2 ?_
 ·rw [k2] at hr ⊢; rw [k3]; exact (g0_perf hB).val ρ hr
 ·rw [k2] at hr ht; exact (g0_perf hB).inj ρ τ hr ht e
 ·rw [k2]
  have e:((j+1:Nat):Int) * ((x.undo.length+x.do.length:Nat) * 1099511627776)=j * ((x.undo.length+x.do.length:Nat) * 1099511627776)+((x.undo.length+x.do.length:Nat):Int) * 1099511627776:=by
   rw [Int.natCast_add j 1,Int.add_mul,Int.natCast_one,Int.one_mul]
  omega
theorem best_i64 {x:Stl} (hB:StlB x) (hn:x.undo.length+x.do.length≤31):∀ j∈bestF x,I64 j:=by
 intro j hj; unfold bestF listN at hj; obtain ⟨r,hr,rfl⟩:=List.mem_map.1 hj; unfold I64; rcases (gN_first hB).row r (List.mem_range.1 hr) with ⟨e,-⟩ | ⟨c,hc,e,-⟩
 ·omega
 ·omega
theorem first_at (G:GB) (x:Stl) (w:World) (hB:StlB x) (hn:x.undo.length+x.do.length≤31) (h:GM G (gN x) w) (hL:G.Low w.heap.size) :
  Calls Tryz.prog 19 #[pt G.gb,iv x.undo.length,iv x.do.length] w fun e w'=>∃ pb,e=.returned (.slice (some ⟨pb,0,none⟩) x.undo.length x.undo.length)∧SlR 1 IntR (fun q=>w.heap.size≤q) w' (bestF x) (.slice (some ⟨pb,0,none⟩) x.undo.length x.undo.length)∧GM G (Pl.withOwn (gN x) (fstF x).own) w'∧Fr (fun k=>k=G.ob) w w':=by
 refine (first_any G (gN x) x.undo.length x.do.length w h ?_ (gN_full hB) (gN_n hB) (gN_row hB) hL).mono ?_
 ·exact (gN_bound hB hn (Nat.le_refl _)).1
 ·rintro e w' ⟨pb,rfl,h1,h2,h3,h4⟩
  exact ⟨pb,rfl,h2.sl h1 (Nat.le_refl _),h3,h4⟩
theorem mk_post {w w4 w5 W:World} {st:List Cmd} {re:List (List UInt8)} {v1 v2 v3 v4 v5:Value} {rb kb n rc kc:Nat} {f g:Nat→Int} (h1:Below w.heap.size w W) (h2:Below w5.heap.size w5 W) (h3:w.heap.size < w4.heap.size) (hst:SlR 6 CmdR (fun q=>w4.heap.size≤q∧q < w5.heap.size) w5 st v1) (hre:SlR 1 StrR (fun q=>w4.heap.size≤q∧q < w5.heap.size) w5 re v2)
  (hr:IB rb n f w5) (hk:IB kb n g w5) (lr:w.heap.size < rb) (lk:w.heap.size < kb) (cr:n≤rc) (ck:n≤kc) :
  Below w.heap.size w (set5 W w.heap.size v1 v2 v3 v4 v5)∧SlR 6 CmdR (fun q=>w.heap.size≤q∧q < (set5 W w.heap.size v1 v2 v3 v4 v5).heap.size) (set5 W w.heap.size v1 v2 v3 v4 v5) st v1∧SlR 1 StrR (fun q=>w.heap.size≤q∧q < (set5 W w.heap.size v1 v2 v3 v4 v5).heap.size) (set5 W w.heap.size v1 v2 v3 v4 v5) re v2 ∧
   SlR 1 IntR (fun q=>w.heap.size≤q∧q < (set5 W w.heap.size v1 v2 v3 v4 v5).heap.size) (set5 W w.heap.size v1 v2 v3 v4 v5) (listN n f) (.slice (some ⟨rb,0,none⟩) n rc)∧SlR 1 IntR (fun q=>w.heap.size≤q∧q < (set5 W w.heap.size v1 v2 v3 v4 v5).heap.size) (set5 W w.heap.size v1 v2 v3 v4 v5) (listN n g) (.slice (some ⟨kb,0,none⟩) n kc):=by
 have hb:=below_set5 h1 (Nat.le_refl _) v1 v2 v3 v4 v5
 have sz:(set5 W w.heap.size v1 v2 v3 v4 v5).heap.size=W.heap.size:=by simp only [World.size_setCell]
 have keep:∀ q,w.heap.size < q→q < w5.heap.size→(set5 W w.heap.size v1 v2 v3 v4 v5).heap[q]? = w5.heap[q]?:=fun q h1 h3=>by
  rw [set5_other (by omega)]; exact h2.block q h3
 have hs:=h2.size; generalize set5 W w.heap.size v1 v2 v3 v4 v5=Z at *; refine ⟨hb,?_,?_,?_,?_⟩
 ·exact hst.move goodCmd fun q hq hs=>⟨⟨by omega,by omega⟩,keep q (by omega) hq⟩
 ·exact hre.move goodStr fun q hq hs=>⟨⟨by omega,by omega⟩,keep q (by omega) hq⟩
 ·exact (hr.keep (keep rb lr hr.lt)).sl ⟨by omega,by have:=hr.lt; omega⟩ cr
 ·exact (hk.keep (keep kb lk hk.lt)).sl ⟨by omega,by have:=hk.lt; omega⟩ ck
set_option maxHeartbeats 40000000 in
set_option maxRecDepth 100000 in
theorem make_any (S:Foot) (l:List Offer) (undo «do»:List Out) (clock turn:Int) (rf:List (List UInt8)) (vl vu vd vr:Value) (w:World) (h:PIn S l undo «do» rf vl vu vd vr w) (hn:undo.length+«do».length≤31) (hv:∀ o∈«do»,ValsB o.args) :
  Calls Tryz.prog 7 #[vl,vu,vd,iv clock,iv turn,vr] w (MkPost l undo «do» clock turn rf w):=by
 have b1:Below w.heap.size w (w.alloc (.cells #[.slice none 0 0,.slice none 0 0,.int .i64 0,.slice none 0 0,.slice none 0 0] 31 (0,0))):=(Below.refl _ w).alloc (Nat.le_refl _) _; have r1:=heap_alloc_new' w (.cells #[.slice none 0 0,.slice none 0 0,.int .i64 0,.slice none 0 0,.slice none 0 0] 31 (0,0))
 have s1:(w.alloc (.cells #[.slice none 0 0,.slice none 0 0,.int .i64 0,.slice none 0 0,.slice none 0 0] 31 (0,0))).heap.size=w.heap.size+1:=by simp
 obtain ⟨W1,hW1⟩:∃ W,W=w.alloc (.cells #[.slice none 0 0,.slice none 0 0,.int .i64 0,.slice none 0 0,.slice none 0 0] 31 (0,0)):=⟨_,rfl⟩; rw [← hW1] at b1 r1 s1
 have ho:=prepare_any S l undo «do» clock turn rf vl vu vd vr W1 (h.below b1)
 have htb:=hid (h.below b1).tb; have hu2:=hid h.u2; have hd2:=hid h.d2; obtain ⟨ua,uc,hvu,-⟩:=h.ur.slice; obtain ⟨da,dc,hvd,-⟩:=h.dr.slice; obtain ⟨la,lc,hvl,-⟩:=h.lr.slice; obtain ⟨ra,rc,hvr,-⟩:=h.rr.slice; rw [hvu,hvd,hvl,hvr] at ho; rw [hvu,hvd,hvl,hvr]
 obtain ⟨E,hE⟩:∃ E,E=prepE l undo «do»:=⟨_,rfl⟩
 obtain ⟨x,hx⟩:∃ x,x=stlF l undo «do» clock turn rf:=⟨_,rfl⟩
 obtain ⟨nl,hnl⟩:∃ n,n=l.length:=⟨_,rfl⟩; obtain ⟨nr,hnr⟩:∃ n,n=rf.length:=⟨_,rfl⟩; obtain ⟨m,hm⟩:∃ n,n=undo.length:=⟨_,rfl⟩
 obtain ⟨k,hk⟩:∃ n,n = «do».length:=⟨_,rfl⟩
 replace ho:=hid ho; unfold PPost at ho
 generalize hPQ:MkPost l undo «do» clock turn rf w=PQ
 unfold MkPost at hPQ; rw [← hE,← hx,← hnl,← hnr,← hm,← hk] at ho; rw [← hE,← hx,← hm,← hk] at hPQ; rw [← hm,← hk] at hn; rw [← hm,← hk,← hnl,← hnr]
 have hok0:E=0→StlB x∧StlK x:=fun e=>by
  have:=okArg_of (hE.symm.trans e); rw [hx]; exact ⟨stlF_b this,stlF_k this⟩
 have hxm:x.undo.length=m:=by rw [hx,hm]; rfl
 have hxk:x.do.length=k:=by rw [hx,hk]; rfl
 have hxu:∀ o∈x.undo,o.key.length≤1000:=by rw [hx]; exact hu2.out
 have hxd:∀ o∈x.do,o.key.length≤1000∧ValsB o.args:=by rw [hx]; exact fun o ho=>⟨hd2.out o ho,hv o ho⟩
 replace hPQ:=hid hPQ; replace hok0:=hid hok0; replace hxm:=hid hxm; replace hxk:=hid hxk; replace hxu:=hid hxu; replace hxd:=hid hxd; replace b1:=hid b1; replace r1:=hid r1; have s1':=hid s1; replace hW1:=hid hW1; replace hn:=hid hn; clear s1 hE hx hm hk hnl hnr h hv hu2 hd2 hvu hvd hvl hvr
 go_enter Tryz.func7,Tryz.ntmps7
 go_wp2_with fail
 rw [← hW1.out]; refine ho.out.mono ?_; rintro e w1 ⟨hb,(⟨hne,rfl⟩ | ⟨h0,X,rfl,hX1,hX2,hX3⟩)⟩
 ·have q0:(E == 0)=false:=by simpa using hne
  have hbw:=b1.out.trans (hb.mono b1.out.size); have hr:=(hb.block w.heap.size (by rw [s1'.out]; omega)).trans r1.out; obtain ⟨z0,z1,z2,z3,z4⟩:=cells5 hr
  have zz:=fun i=>free_of (i:=i) hr
  have hpost:Hid (∀ W,Below w.heap.size w W→PQ (.returned (.tuple #[.agg #[.slice none 0 0,.slice none 0 0,iv 0,.slice none 0 0,.slice none 0 0],iv E])) W):=hid fun W hW=>by rw [← hPQ.out]; exact ⟨hW,Or.inl ⟨hne,rfl⟩⟩
  replace hbw:=hid hbw; replace hr:=hid hr; replace hb:=hid hb; replace hne:=hid hne; clear ho hok0
  go_wp2_with fail
  refine bodyPost_ret (results_plnV (by rfl) _ _ w.heap.size _ _ _ _ _ _ (by rfl) (by rfl) (pln_set hr.out (.slice none 0 0) (.slice none 0 0) (iv 0) (.slice none 0 0) (.slice none 0 0))) rfl (hpost.out _ (below_set5 hbw.out (Nat.le_refl _) _ _ _ _ _))
 ·subst h0
  obtain ⟨hB,hK⟩:=hok0.out rfl; have hbw:=b1.out.trans (hb.mono b1.out.size); have hr:=(hb.block w.heap.size (by rw [s1'.out]; omega)).trans r1.out; have hrl:=lt_of_heap hr; have hg1:=newGrid_any X x w1 hX2 (fun q hq=>(hX3 q hq).2); rw [hxm.out,hxk.out] at hg1
  have hX3':∀ q,X.F q→q < w1.heap.size:=fun q hq=>(hX3 q hq).2
  have htw:=htb.out.below hb; replace hg1:=hid hg1; replace hX2:=hid hX2; replace hX3':=hid hX3'; replace hbw:=hid hbw; replace hr:=hid hr; replace hb:=hid hb; replace hB:=hid hB; replace hK:=hid hK; replace htw:=hid htw; replace hrl:=hid hrl; clear ho hok0 htb hX1 hX3
  go_wp2_with fail
  refine hg1.out.mono ?_; rintro e w2 ⟨G,rfl,hG,hL,⟨l1,l2,l3,l4,l5⟩,hb2,hrc,hkc⟩; obtain ⟨n,hnn⟩:∃ n,n=m+k:=⟨_,rfl⟩
  have hG0:Hid (GM G (Pl.placed (g0 x) 0) w2):=hid (by
   have e:(⟨m+k,x.op.cell,fun _=>0,fun _=>0,fun _=>-1⟩:Pl.Gr)=Pl.placed (g0 x) 0:=by show _=g0 x; unfold g0; rw [hxm.out,hxk.out]
   rw [← e]; exact hG)
  have f0:=hG.fields0.1; replace f0:w2.cell? ⟨G.gb,0,none⟩=some (iv ((m+k:Nat):Int)):=f0; rw [← hnn] at f0; have hF0:Hid (Fr (fun q=>q=G.rb∨q=G.kb∨q=G.ob) w2 w2):=hid (Fr.of_below (Below.refl _ w2) _); have hpl:=hid (fun j W (hj:j < n)=>place_at G x j W hB.out (by rw [hxm.out,hxk.out]; exact hn.out) (by rw [hxm.out,hxk.out]; omega))
  have hn31:n≤31:=by have:=hn.out; omega
  replace hnn:=hid hnn; replace hL:=hid hL; replace hb2:=hid hb2; replace hrc:=hid hrc; replace hkc:=hid hkc; have hl:=hid (And.intro l1 (And.intro l2 (And.intro l3 (And.intro l4 l5)))); clear hg1 hG l1 l2 l3 l4 l5
  go_wp2_with fail
  go_loopg [40] n (fun f v40 wr=>∃ (j:Nat),v40=iv j∧j+f=n∧Hid (GM G (Pl.placed (g0 x) j) wr)∧Hid (Fr (fun q=>q=G.rb∨q=G.kb∨q=G.ob) w2 wr))
  case atStart=>exact ⟨0,rfl,by omega,hG0,hF0⟩
  case round =>
   obtain ⟨j,rfl,hjf,hGj,hFj⟩:=hrel; clear hG0 hF0; by_cases hjn:j < n
   ·have q1:decide ((j:Int) < (n:Int))=true:=decide_eq_true (by omega)
    have q1':decide (j < n)=true:=decide_eq_true hjn; have hp:=hid (hpl.out j wr hjn hGj.out)
    go_wp2_with fail
    refine hp.out.mono ?_; rintro e w3 ⟨rfl,hG3,hF3⟩; replace hG3:=hid hG3; have hF4:=hid (hFj.out.trans hF3); replace hF3:=hid hF3
    go_wp2_with fail
    go_roundg (n - (j+1))
    case measure=>omega
    case rel=>exact ⟨j+1,by go_num,by omega,hG3,hF4⟩
   ·have q1:decide ((j:Int) < (n:Int))=false:=decide_eq_false (by omega)
    have q1':decide (j < n)=false:=decide_eq_false hjn
    have hjn2:j=n:=by omega
    subst hjn2; have hgn:Hid (gN x=Pl.placed (g0 x) j):=hid (by unfold gN; rw [hxm.out,hxk.out,← hnn.out]); rw [← hgn.out] at hGj
    have hbr:Below w1.heap.size w2 wr:=hFj.out.to_below hb2.out.size fun q hq hF=>by
     obtain ⟨-,l2,l3,l4,-⟩:=hl.out; omega
    have hbw1:Below w1.heap.size w1 wr:=hb2.out.trans hbr; have hLr:G.Low wr.heap.size:=⟨Nat.lt_of_lt_of_le hL.out.gb hFj.out.size,Nat.lt_of_lt_of_le hL.out.rb hFj.out.size,Nat.lt_of_lt_of_le hL.out.kb hFj.out.size,Nat.lt_of_lt_of_le hL.out.ob hFj.out.size,fun q hq=>Nat.lt_of_lt_of_le (hL.out.C q hq) hFj.out.size⟩; have hfi:=first_at G x wr hB.out (by rw [hxm.out,hxk.out]; exact hn.out) hGj.out hLr; rw [hxm.out,hxk.out] at hfi; replace hfi:=hid hfi; replace hbw1:=hid hbw1; replace hLr:=hid hLr; clear hGj hFj hbr hpl
    go_wp2_with fail
    refine hfi.out.mono ?_; rintro e w4 ⟨pb,rfl,hpk,hG4,hF4⟩
    have hb4:Below w1.heap.size w1 w4:=hbw1.out.trans (hF4.to_below hbw1.out.size fun q hq hF=>by
     obtain ⟨-,-,-,l4,-⟩:=hl.out
     omega)
    have hpn:=plan_any X x (bestF x) _ _ w4 (hX2.out.below hb4) hB.out hK.out hpk (by have:=hn.out; unfold bestF; rw [listN_len,hxm.out]; omega) (best_i64 hB.out (by rw [hxm.out,hxk.out]; exact hn.out)) (hid (htw.out.below hb4)) hxu.out hxd.out; obtain ⟨p,hpl⟩:=plan_some ((asg_iff hB.out).1 (best_asg hB.out).1); replace hpl:planF x (bestF x)=some p:=hpl; unfold PlPost at hpn; replace hpn:=hid hpn; replace hpl:=hid hpl; replace hb4:=hid hb4; replace hG4:=hid hG4; clear hfi hpk hF4 hbw1
    go_wp2_with fail
    refine hpn.out.mono ?_; rintro e w5 ⟨hb5,(⟨hno,-⟩ | ⟨p',vs,vr',hp',rfl,hst,hre⟩)⟩
    ·rw [hpl.out] at hno; cases hno
    rw [hpl.out] at hp'; injection hp' with hp'; subst hp'; obtain ⟨sa,sc,rfl,-⟩:=hst.slice; obtain ⟨ta,tc,rfl,-⟩:=hre.slice; have hG5:=hG4.out.below hb5; have hrr:=(hb4.out.trans (hb5.mono hb4.out.size)).block w.heap.size hrl.out |>.trans hr.out; obtain ⟨N1,hN1⟩:∃ N,N=p.st.length:=⟨_,rfl⟩; obtain ⟨N2,hN2⟩:∃ N,N=p.re.length:=⟨_,rfl⟩; obtain ⟨C,hC⟩:∃ C,C=p.co:=⟨_,rfl⟩
    have hnx:(gN x).n=j:=by rw [gN_n hB.out,hxm.out,hxk.out]; exact hnn.out.symm
    obtain ⟨-,-,f2,f3,-⟩:=hG5.fields0; replace f2:w5.cell? ⟨G.gb,2,none⟩=some (.slice (some ⟨G.rb,0,none⟩) (gN x).n G.rc):=f2; replace f3:w5.cell? ⟨G.gb,3,none⟩=some (.slice (some ⟨G.kb,0,none⟩) (gN x).n G.kc):=f3; rw [hnx] at f2 f3; have hGl:=lt_of_heap hG5.blk; have hrow5:=hG5.rows; have hcol5:=hG5.cols; replace hrow5:IB G.rb (gN x).n (gN x).rows w5:=hrow5; replace hcol5:IB G.kb (gN x).n (gN x).cols w5:=hcol5; rw [hnx] at hrow5 hcol5; rw [← hN1,← hN2,← hC]; replace hst:=hid hst; replace hre:=hid hre; replace hrr:=hid hrr; replace hrow5:=hid hrow5; replace hcol5:=hid hcol5; replace hb5:=hid hb5; replace hN1:=hid hN1; replace hN2:=hid hN2; replace hC:=hid hC; replace hnx:=hid hnx; replace hnn:=hid hnn; clear hpn hG4 hG5
    go_upto_region 11 with (fail)
    have rB:=heap_alloc_new' w5 (.cells #[.slice sa N1 sc,.slice ta N2 tc,.int .i64 C,.slice none 0 0,.slice none 0 0] 31 (0,0)); have kB:Below w5.heap.size w5 (w5.alloc (.cells #[.slice sa N1 sc,.slice ta N2 tc,.int .i64 C,.slice none 0 0,.slice none 0 0] 31 (0,0))):=(Below.refl _ w5).alloc (Nat.le_refl _) _; have f2:=(kB.cell (p:=⟨G.gb,2,none⟩) hGl).trans f2; have f3:=(kB.cell (p:=⟨G.gb,3,none⟩) hGl).trans f3
    have sB:(w5.alloc (.cells #[.slice sa N1 sc,.slice ta N2 tc,.int .i64 C,.slice none 0 0,.slice none 0 0] 31 (0,0))).heap.size=w5.heap.size+1:=by simp
    obtain ⟨B,hBq⟩:∃ B,B=w5.heap.size:=⟨_,rfl⟩; obtain ⟨W6,hW6⟩:∃ W,W=w5.alloc (.cells #[.slice sa N1 sc,.slice ta N2 tc,.int .i64 C,.slice none 0 0,.slice none 0 0] 31 (0,0)):=⟨_,rfl⟩; rw [← hW6] at rB kB f2 f3 sB ⊢; rw [← hBq] at rB hGl sB ⊢; obtain ⟨-,-,-,x3,x4⟩:=cells5 rB
    have xx:=fun i=>free_of (i:=i) rB
    have hne:G.gb≠B:=by omega
    replace rB:=hid rB; replace kB:=hid kB; replace hBq:=hid hBq; replace hW6:=hid hW6; replace sB:=hid sB
    go_region
    obtain ⟨V1,hV1⟩:∃ V:Value,V=.slice sa N1 sc:=⟨_,rfl⟩; obtain ⟨V2,hV2⟩:∃ V:Value,V=.slice ta N2 tc:=⟨_,rfl⟩; obtain ⟨V4,hV4⟩:∃ V:Value,V=.slice (some ⟨G.rb,0,none⟩) j G.rc:=⟨_,rfl⟩; obtain ⟨V5,hV5⟩:∃ V:Value,V=.slice (some ⟨G.kb,0,none⟩) j G.kc:=⟨_,rfl⟩; obtain ⟨W7,hW7⟩:∃ W,W=((W6.setCell ⟨B,3,none⟩ (.slice (some ⟨G.rb,0,none⟩) j G.rc)).setCell ⟨B,4,none⟩ (.slice (some ⟨G.kb,0,none⟩) j G.kc)).drew:=⟨_,rfl⟩; rw [← hW7]
    have rB7:W7.heap[B]? = some (.cells #[.slice sa N1 sc,.slice ta N2 tc,.int .i64 C,.slice (some ⟨G.rb,0,none⟩) j G.rc,.slice (some ⟨G.kb,0,none⟩) j G.kc] 31 (0,0)):=by
     rw [hW7]; have b0:=heap_setCell_same rB.out (i:=3) (.slice (some ⟨G.rb,0,none⟩) j G.rc); have b1:=heap_setCell_same b0 (i:=4) (.slice (some ⟨G.kb,0,none⟩) j G.kc); show ((W6.setCell _ _).setCell _ _).heap[B]? = _; simpa using b1
    have o7:∀ q,q≠B→W7.heap[q]? = W6.heap[q]?:=fun q hq=>by
     rw [hW7]; show ((W6.setCell _ _).setCell _ _).heap[q]? = _; rw [heap_setCell_other _ hq,heap_setCell_other _ hq]
    have s7:W7.heap.size=B+1:=by
     rw [hW7]; show ((W6.setCell _ _).setCell _ _).heap.size=_; rw [World.size_setCell,World.size_setCell]; exact sB.out
    have b7:Below w5.heap.size w5 W7:=by
     rw [hW7]; exact (below_set (below_set kB.out (by have:=hBq.out; omega) _) (by have:=hBq.out; omega) _).drew
    obtain ⟨y0,y1,y2,y3,y4⟩:=cells5 rB7; have hrr7:=(b7.block w.heap.size (lt_of_heap hrr.out)).trans hrr.out; obtain ⟨z0,z1,z2,z3,z4⟩:=cells5 hrr7
    have zz:=fun i=>free_of (i:=i) hrr7
    have hset:=pln_set hrr7 (.slice sa N1 sc) (.slice ta N2 tc) (iv C) (.slice (some ⟨G.rb,0,none⟩) j G.rc) (.slice (some ⟨G.kb,0,none⟩) j G.kc)
    have hw7:Below w.heap.size w W7:=by
     have e1:=hb4.out.trans (hb5.out.mono hb4.out.size); have e2:=e1.trans (b7.mono e1.size); exact hbw.out.trans (e2.mono hbw.out.size)
    have hlt:w.heap.size < w4.heap.size:=Nat.lt_of_lt_of_le hrl.out hb4.out.size; have hlt1:=hrl.out
    have hge:w.heap.size < G.rb∧w.heap.size < G.kb∧j≤G.rc∧j≤G.kc:=by
     obtain ⟨-,l2,l3,-,-⟩:=hl.out; have c1:=hrc.out; have c2:=hkc.out; have c3:=hnn.out.out; omega
    have hfin:=mk_post (v3:=iv C) (v4:=.slice (some ⟨G.rb,0,none⟩) j G.rc) (v5:=.slice (some ⟨G.kb,0,none⟩) j G.kc) hw7 b7 hlt hst.out hre.out hrow5.out hcol5.out hge.1 hge.2.1 hge.2.2.1 hge.2.2.2; rw [← hN1.out,← hN2.out] at hfin
    have hpost:Hid (PQ (.returned (.tuple #[.agg #[.slice sa N1 sc,.slice ta N2 tc,iv C,.slice (some ⟨G.rb,0,none⟩) j G.rc,.slice (some ⟨G.kb,0,none⟩) j G.kc],iv 0])) (set5 W7 w.heap.size (.slice sa N1 sc) (.slice ta N2 tc) (iv C) (.slice (some ⟨G.rb,0,none⟩) j G.rc) (.slice (some ⟨G.kb,0,none⟩) j G.kc))):=hid (by
     obtain ⟨e1,e2,e3,e4,e5⟩:=hfin; generalize set5 W7 w.heap.size (.slice sa N1 sc) (.slice ta N2 tc) (iv C) (.slice (some ⟨G.rb,0,none⟩) j G.rc) (.slice (some ⟨G.kb,0,none⟩) j G.kc)=Z at *; have c3:j=m+k:=hnn.out.out; rw [c3] at e4 e5 ⊢; rw [hC.out]; rw [← hPQ.out]
     exact ⟨e1,Or.inr ⟨(by first | rfl | trivial),p,_,_,_,_,hpl.out,rfl,e2,e3,e4,e5⟩⟩)
    replace hset:=hid hset; clear hfin hge hV1 hV2 hV4 hV5 V1 V2 V4 V5 o7 b7 hw7 hlt hlt1 rB7 hrr7 f2 f3 x3 x4 xx; replace hW7:=hid hW7; replace s7:=hid s7
    go_wp2_with fail
    refine bodyPost_ret (results_plnV (by rfl) _ _ w.heap.size _ _ _ _ _ _ (by rfl) (by rfl) hset.out) rfl hpost.out
end Go.Proofs.YtfejagpjahoibaaGreatDoor
