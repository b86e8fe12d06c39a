/- retroactlaw45.PlanOffers, walked. -/
import Derived.Test.YtdmgfnnpjoihfaaDoorPmT
import Derived.Test.YtdmgfnnpjoihfaaDoorPmU
import Derived.Test.YtdmgfnnpjoihfaaDoorPlZ
import Derived.Test.YtdmgfnnpjoihfaaDoorSlOf
import Derived.Deep.MidRow
set_option linter.unusedVariables false
set_option linter.unusedSimpArgs false
namespace Go.Proofs.YtdmgfnnpjoihfaaDoor
open Go.RowKit
open Go.Lib (hid)
theorem infoOffP:(Tryd.prog.info? 44).map (fun i=>(i.zero,i.size,i.bytes))=some (some (.agg #[.string .empty,.int .i64 0,.int .i64 0,.int .i64 0,.int .i64 0,.int .i64 0]),6,56):=by kernel_rfl
/-- one entry more behind a row of the call's own -/
theorem push_off {W w:World} {L:List Offer} {v:Value} (h:OwnR 44 6 OffR (from_ w.heap.size) W L v) (hw:Below w.heap.size w W) (o:Offer) (hl:L.length≤1000) (ty:TypeId) :
  ∃ a c w',AppRun Tryd.prog 22 22 ty v (.slice (some ⟨W.heap.size,0,none⟩) 1 1) (.slice a (L.length+1) c) (W.alloc (.cells (offCs o).toArray 44 (0,0))) w'∧OwnR 44 6 OffR (from_ w.heap.size) w' (L++[o]) (.slice a (L.length+1) c)∧Below w.heap.size w w':=by
 obtain ⟨i0,hi,hz0,hz1,hz2⟩:=info_parts infoOffP; have hb:Below W.heap.size W (W.alloc (.cells (offCs o).toArray 44 (0,0))):=(Below.refl _ _).alloc (Nat.le_refl _) _; have hz:=heap_alloc_new' W (.cells (offCs o).toArray 44 (0,0)); have h1:=h.below goodOff hb
 obtain ⟨v',w',hap,hO,hf⟩:=OwnR.appendN (t:=22) (ty:=ty) (m:=[o]) goodOff (by kernel_rfl) hi hz0 hz1 hz2 rfl (by decide) h1 (row_of_block hz rfl) (fun u hu=>goodOff.one (S:=fun _=>True) (w:=W) (x:=o) rfl u hu) (fun n y hy=>by
  match n,hy with
  | 0,hy=>simp at hy; subst hy; exact ⟨_,fun j u hu=>by simpa using hu,rfl⟩
  | n+1,hy=>simp at hy) (by unfold maxLen; simp; omega) (by simp; omega) (fun k hk=>Nat.le_trans hw.size (Nat.le_trans hb.size hk))
 obtain ⟨a,c,e,-,-⟩:=hO.slice; rw [List.length_append,List.length_singleton] at e; subst e; have hbb:=hw.trans (hb.mono hw.size); exact ⟨a,c,w',hap,hO,hbb.trans (hf.to_below hbb.size fun q hq hF=>absurd hF (by show ¬ w.heap.size≤q; omega))⟩
theorem flat6:∀ l:List Offer,((l.map offCs).flatten).length=l.length * 6
 | []=>rfl
 | o::l=>by
  have e:(offCs o).length=6:=rfl; have e2:(o::l).length=l.length+1:=rfl; rw [List.map_cons,List.flatten_cons,List.length_append,flat6 l,e,e2]; omega
theorem own_off {S:Foot} {W:World} {L:List Offer} {g n c:Nat} (h:SlR 6 OffR S W L (.slice (some ⟨g,0,none⟩) n c)) {r:Nat} {o:Offer} (ho:L[r]? = some o):W.cell? ⟨g,r * 6,none⟩=some (sv o.name)∧W.cell? ⟨g,r * 6+1,none⟩=some (iv o.do)∧W.cell? ⟨g,r * 6+2,none⟩=some (iv o.undo)∧W.cell? ⟨g,r * 6+3,none⟩=some (iv o.due)∧W.cell? ⟨g,r * 6+4,none⟩=some (iv o.part)∧W.cell? ⟨g,r * 6+5,none⟩=some (iv o.amend):=by
 obtain ⟨a,cap,b,off,cs,hv,-,hp,hc,hr⟩:=h; have hlt:=(List.getElem?_eq_some_iff.1 ho).1; obtain ⟨rfl,-,-⟩:=hp (by omega); simp only [Value.slice.injEq,Option.some.injEq,Addr.mk.injEq] at hv; obtain ⟨⟨rfl,rfl,-⟩,-,-⟩:=hv; have h1:cs r=offCs o:=hr r o ho
 have key:∀ j u,(offCs o)[j]? = some u→W.cell? ⟨g,r * 6+j,none⟩=some u:=fun j u hu=>by
  have:=hc r hlt j u (by rw [h1]; exact hu); rw [Nat.zero_add] at this; exact this
 exact ⟨key 0 _ rfl,key 1 _ rfl,key 2 _ rfl,key 3 _ rfl,key 4 _ rfl,key 5 _ rfl⟩
theorem off_idx {g n cap i:Nat} (hi:i < n) (kd:IntKind) (W:World):(Instr.indexAt 22 (.slice (some ⟨g,0,none⟩) n cap) (.int kd i)).run Tryd.prog W=.ok (.pointer (some ⟨g,i * 6,none⟩)) W:=by
 have:=row_idx (P:=Tryd.prog) (t:=22) (sz:=6) (b:=g) (off:=0) (a:=some ⟨g,0,none⟩) (by kernel_rfl) (fun _=>by kernel_rfl) rfl n cap i hi kd W; simpa using this
theorem offs_row {l:List Offer} {S:Foot} {w:World} {v:Value} (h:SlR 6 OffR S w l v):Row w.heap.size w 6 v l.length ((l.map offCs).flatten):=by
 obtain ⟨a,c,g,o,cs,hv,-,hp,hc,hr⟩:=h; refine ⟨a,c,g,o,hv,flat6 l,fun h0=>⟨(hp h0).1,(hp h0).2.2⟩,fun j hj=>?_⟩; have hj':=hj; rw [flat6] at hj'
 have hi:j / 6 < l.length:=by omega
 have hm:j % 6 < 6:=Nat.mod_lt _ (by decide)
 have hje:j / 6 * 6+j % 6=j:=by omega
 have h1:cs (j / 6)=offCs l[j / 6]:=hr (j / 6) _ (List.getElem?_eq_getElem hi); have h3:=flatten_at (sz:=6) (l.map offCs) (j / 6) (j % 6) (offCs l[j / 6]) (fun x hx=>by obtain ⟨y,-,rfl⟩:=List.mem_map.1 hx; rfl) (by rw [List.getElem?_map,List.getElem?_eq_getElem hi]; rfl) hm; rw [hje,List.getElem?_eq_getElem hj] at h3; have h2:=hc (j / 6) hi (j % 6) _ (by rw [h1]; exact h3.symm); rw [← h2]
 congr 2
 omega
/-- append([]Offer{}, l...) -/
theorem copy_off {W:World} {l:List Offer} {vl:Value} (hr:SlR 6 OffR (fun _=>True) W l vl) (hl:l.length≤1000) (h0:0 < l.length) (ty:TypeId) :
  ∃ g c w',AppRun Tryd.prog 22 22 ty (.slice (some ⟨W.heap.size,0,none⟩) 0 0) vl (.slice (some ⟨g,0,none⟩) l.length c) (W.alloc (.cells #[] 44 (0,0))) w'∧OwnR 44 6 OffR (from_ W.heap.size) w' l (.slice (some ⟨g,0,none⟩) l.length c)∧Below W.heap.size W w'∧W.heap.size≤g:=by
 obtain ⟨i0,hi,hz0,hz1,hz2⟩:=info_parts infoOffP; have hb:Below W.heap.size W (W.alloc (.cells #[] 44 (0,0))):=(Below.refl _ _).alloc (Nat.le_refl _) _; have hz:=heap_alloc_new' W (.cells #[] 44 (0,0))
 have hown:OwnR 44 6 OffR (from_ W.heap.size) (W.alloc (.cells #[] 44 (0,0))) ([]:List Offer) (.slice (some ⟨W.heap.size,0,none⟩) 0 0) :=
  ⟨[],⟨rfl,Or.inr ⟨W.heap.size,0,#[],rfl,Nat.zero_le _,hz,Nat.le_refl _,Nat.zero_le _,rfl,rfl⟩⟩,fun k hk=>by injection hk with hk; subst hk; exact Nat.le_refl _,fun i x hx=>by simp at hx⟩
 have hr5:=offs_row (hr.below goodOff hb)
 obtain ⟨v',w',h1,h2,h3⟩:=OwnR.appendN (t:=22) (ty:=ty) (m:=l) goodOff (by kernel_rfl) hi hz0 hz1 hz2 rfl (by decide) hown hr5 (fun u hu=>by
  obtain ⟨x,hx,hu⟩:=List.mem_flatten.1 hu; obtain ⟨y,-,rfl⟩:=List.mem_map.1 hx
  exact goodOff.one (S:=fun _=>True) (w:=W) (x:=y) rfl u hu) (fun n y hy=>⟨offCs y,fun j u hu=>by
   have hj:j < 6:=by have:=(List.getElem?_eq_some_iff.1 hu).1; simpa using this
   rw [flatten_at (sz:=6) (l.map offCs) n j (offCs y) (fun x hx=>by obtain ⟨z,-,rfl⟩:=List.mem_map.1 hx; rfl) (by rw [List.getElem?_map,hy]; rfl) hj]; exact hu,rfl⟩) (by unfold maxLen; simp; omega) (by simp; omega) (fun k hk=>Nat.le_trans hb.size hk)
 rw [List.nil_append] at h2; have h2':=h2; obtain ⟨xs,⟨e1,e2⟩,e3,-⟩:=h2'; rcases e2 with ⟨-,e⟩ | ⟨g,cap,cur,rfl,-⟩
 ·omega
 ·exact ⟨g,cap,w',h1,h2,hb.trans (h3.to_below hb.size fun q hq hF=>absurd hF (by show ¬ W.heap.size≤q; omega)),e3 g rfl⟩
theorem made_turned {l:List Offer} {undo «do»:List Out} {clock turn:Int} {rf:List (List UInt8)} {p q:P4} (hc:CatOk l) (hM:MadeB l undo «do» clock turn rf p) (hQ:MadeB l.reverse undo «do» clock turn rf q):q=p:=by
 have h1:=hQ.pl; rw [stl_find (fun n=>find_perm (List.reverse_perm l).symm hc.2.2 n) undo «do» clock turn rf,hM.pl] at h1; injection h1 with h1; exact h1.symm
/-- the first `if`: the undo cost -/
theorem if_undo {b:Bool} {cost x:Int} (h:b=true ↔ x = -1∨cost < x):cheapN cost x=if b then cost else x:=by
 unfold cheapN
 cases b with
 | true=>rw [if_pos (h.1 rfl),if_pos rfl]
 | false=>rw [if_neg (fun e=>by have:=h.2 e; cases this),if_neg (by decide)]
theorem own_free {S:Foot} {W:World} {L:List Offer} {g n c:Nat} (h:OwnR 44 6 OffR S W L (.slice (some ⟨g,0,none⟩) n c)) (i:Nat):W.frozen? ⟨g,i,none⟩=false:=by
 obtain ⟨xs,h1,-⟩:=h; obtain ⟨a,c,e,_,_⟩:=owns_form h1; simp only [Value.slice.injEq] at e; obtain ⟨-,rfl,-⟩:=e; exact h1.frozenAt _
theorem off_there {S:Foot} {W:World} {L:List Offer} {g n c r:Nat} (h:OwnR 44 6 OffR S W L (.slice (some ⟨g,0,none⟩) n c)) (hr:r < L.length):W.there g (r * 6) 6:=by
 obtain ⟨o,ho⟩:∃ o,L[r]? = some o:=⟨_,List.getElem?_eq_getElem hr⟩; obtain ⟨y0,y1,y2,y3,y4,y5⟩:=own_off (h.sl goodOff) ho; intro j hj; refine ⟨?_,own_free h _⟩
 match j,hj with
 | 0,_=>show (W.cell? ⟨g,r * 6,none⟩).isSome=true; rw [y0]; rfl
 | 1,_=>rw [y1]; rfl
 | 2,_=>rw [y2]; rfl
 | 3,_=>rw [y3]; rfl
 | 4,_=>rw [y4]; rfl
 | 5,_=>rw [y5]; rfl
 | j+6,h=>omega
theorem kitSet (b:Nat):∀ (cs:List Value) (w:World) (o:Nat),w.setCells b o cs=setCells w b o cs
 | [],_,_=>rfl
 | _::cs,_,o=>kitSet b cs _ (o+1)
theorem below_setCells {B b:Nat} {w0:World} (hb:B≤b) (hB:B=w0.heap.size):∀ (cs:List Value) (w:World) (o:Nat),Below B w0 w→Below B w0 (setCells w b o cs)
 | [],_,_,h=>h
 | u::cs,w,o,h=>below_setCells hb hB cs _ (o+1) (by subst hB; exact below_set h hb u)
theorem made_cheap {l:List Offer} {undo «do»:List Out} {clock turn:Int} {rf:List (List UInt8)} {p q:P4} {r:Nat} {o:Offer} {c:Int} (h0:0≤c) (h1:c≤1048576) (hl:CatOk l) (ho:l[r]? = some o) (hM:MadeB l undo «do» clock turn rf p) (hQ:MadeB (l.set r (cheapF c o)) undo «do» clock turn rf q):pWl q.st q.re q.co≤pWl p.st p.re p.co:=by
 rw [hM.w,hQ.w]; exact best_lighter (stlF_b hM.ok) (stlF_b hQ.ok) (stlF_lighter (Or.inr hl) (Or.inr (cat_set h0 h1 hl ho)) (fun s hs=>hs) (fun n=>find_set h0 l r o ho))
theorem off_bounds {l:List Offer} (hc:CatOk l) (x:Offer) (hx:x∈l) (hn:x.name.length≤1048576):x.name.length≤1048576∧∀ z∈[x.do,x.undo,x.due,x.part,x.amend],-9223372036854775808≤z∧z≤9223372036854775807:=by
 obtain ⟨h1,h2,h3,h4,-,h5,h6⟩:=right_parts (hc.2.1 x hx); refine ⟨hn,fun z hz=>?_⟩; simp only [List.mem_cons,List.not_mem_nil,or_false] at hz; rcases hz with rfl | rfl | rfl | rfl | rfl <;> omega
theorem set_off2 {W:World} {B:Nat} {nm:List UInt8} {o1 o2 o3 o4 o5:Int} (h:W.heap[B]? = some (.cells #[sv nm,iv o1,iv o2,iv o3,iv o4,iv o5] 44 (0,0))) (c:Int):(W.setCell ⟨B,2,none⟩ (iv c)).heap[B]? = some (.cells #[sv nm,iv o1,iv c,iv o3,iv o4,iv o5] 44 (0,0)):=by
 have:=heap_setCell_same h (i:=2) (iv c); simpa using this
theorem set_off1 {W:World} {B:Nat} {nm:List UInt8} {o1 o2 o3 o4 o5:Int} (h:W.heap[B]? = some (.cells #[sv nm,iv o1,iv o2,iv o3,iv o4,iv o5] 44 (0,0))) (c:Int):(W.setCell ⟨B,1,none⟩ (iv c)).heap[B]? = some (.cells #[sv nm,iv c,iv o2,iv o3,iv o4,iv o5] 44 (0,0)):=by
 have:=heap_setCell_same h (i:=1) (iv c); simpa using this
theorem set_off5 {W:World} {B:Nat} {nm:List UInt8} {o1 o2 o3 o4 o5:Int} (h:W.heap[B]? = some (.cells #[sv nm,iv o1,iv o2,iv o3,iv o4,iv o5] 44 (0,0))) (c:Int):(W.setCell ⟨B,5,none⟩ (iv c)).heap[B]? = some (.cells #[sv nm,iv o1,iv o2,iv o3,iv o4,iv c] 44 (0,0)):=by
 have:=heap_setCell_same h (i:=5) (iv c); simpa using this
set_option maxHeartbeats 40000000 in
set_option maxRecDepth 100000 in
theorem PlanOffers_walk (l:List Offer) (undo «do»:List Out) (clock:Int) (rf:List (List UInt8)) (wh:Nat) (hwh:wh < 256) (cost:Int) (hco:I64 cost) (vl vu vd vr:Value) (w:World) (h:LI0 l undo «do» rf vl vu vd vr w) :
  Calls Tryd.prog 5 #[vl,vu,vd,iv clock,vr,.int .u8 wh,iv cost] w fun e w'=>e=.returned (.bool true)∧Below w.heap.size w w':=by
 obtain ⟨ua,uc,hvu,-⟩:=h.pin.ur.slice; obtain ⟨da,dc,hvd,-⟩:=h.pin.dr.slice; obtain ⟨la,lc,hvl,-⟩:=h.pin.lr.slice; obtain ⟨ra,rc,hvr,-⟩:=h.pin.rr.slice; subst hvu hvd hvl hvr; have hsm:=hid (small_any w (hid h.pin.tb)); replace h:=hid h
 go_enter Tryd.func5,Tryd.ntmps5
 go_wp2_with fail
 refine hsm.out.mono ?_; rintro e w1 ⟨rfl,hb1⟩; have h1:=h.out.below hb1; have b1:=hid hb1; have hfw:=hid (few45_any _ l undo «do» rf _ _ _ _ w1 h1.pin h1.u h1.d); replace h1:=hid h1; clear hsm hb1 h
 go_wp2_with fail
 refine hfw.out.mono ?_; rintro e w2 ⟨bf,rfl,hbf,hb2⟩; have h2:=hid (h1.out.below hb2); have b2:=hid (b1.out.trans (hb2.mono b1.out.size)); clear hfw hb2 h1 b1
 cases bf with
 | false =>
  replace hbf:=hid hbf
  go_wp2_with fail
  go_ret; exact ⟨rfl,b2.out⟩
 | true =>
  have hfew:=hid (hbf rfl); replace h2:=hid (h2.out.full hfew.out); clear hbf; have hmk:=makeL h2.out hfew.out clock 0; have hll:=hfew.out.l
  obtain ⟨E,hE⟩:∃ E,E=prepE l undo «do»:=⟨_,rfl⟩
  obtain ⟨F,hF⟩:∃ F,F=prepE l [] []:=⟨_,rfl⟩; rw [← hE] at hmk; replace hmk:=hid hmk; have hE':=hE; replace hE:=hid hE; have hn0:=hid (fun W (hW:Below w2.heap.size w2 W)=>makeL (undo:=[]) («do»:=[]) (vu:=.slice none 0 0) (vd:=.slice none 0 0) (rf0:=rf) ⟨(let hh:=(h2.out.below hW).pin; ⟨hh.l1,hh.l2,hh.lr,by decide,(fun o ho=>by cases ho),SlR.nil 5 OutR _ W 0,by decide,(fun o ho=>by cases ho),SlR.nil 5 OutR _ W 0,hh.r1,hh.r2,hh.rr,hh.tb⟩),(fun o ho=>by cases ho),(fun o ho=>by cases ho)⟩ ⟨hfew.out.l,⟨by decide,fun o ho=>by cases ho⟩,⟨by decide,fun o ho=>by cases ho⟩,hfew.out.r⟩ clock 0); rw [← hF] at hn0
  have hFE:E=0→F=0:=fun e=>by rw [hF]; exact prep_none (hE'.symm.trans e)
  replace hF:=hid hF; clear hE'
  go_wp2_with fail
  refine hmk.out.mono ?_; rintro e w3 ⟨hb3,(⟨hne,rfl⟩ | ⟨hE0,q,qa,qc,rb,rd,Rb,Rd,Cb,Cd,hM,rfl,hQ⟩)⟩
  ·have q4:(E == 0)=false:=by simpa using hne
   have hb4:Below w3.heap.size w3 (w3.alloc (.cells #[.slice none 0 0,.slice none 0 0,iv 0,.slice none 0 0,.slice none 0 0] 28 (0,0))):=(Below.refl _ w3).alloc (Nat.le_refl _) _; have k4:=hb3.trans (hb4.mono hb3.size); have b4:=hid (b2.out.trans (k4.mono b2.out.size)); obtain ⟨W4,hW4⟩:∃ W,W=w3.alloc (.cells #[.slice none 0 0,.slice none 0 0,iv 0,.slice none 0 0,.slice none 0 0] 28 (0,0)):=⟨_,rfl⟩; obtain ⟨B4,hB4⟩:∃ B,B=w3.heap.size:=⟨_,rfl⟩; rw [← hW4] at k4 b4; have hm2:=hid (hn0.out W4 k4); replace hne:=hid hne; replace hW4:=hid hW4; replace hB4:=hid hB4; clear hb4 hb3 hmk hn0 k4 hFE
   go_upto_region 5 with (fail)
   rw [← hW4.out,← hB4.out]
   go_wp2_with fail
   refine hm2.out.mono ?_; rintro e w5 ⟨hb5,(⟨hnf,rfl⟩ | ⟨hF0,q2,qa2,qc2,rb2,rd2,Rb2,Rd2,Cb2,Cd2,hM2,rfl,hQ2⟩)⟩
   ·have q5:(F == 0)=false:=by simpa using hnf
    have hb6:Below w5.heap.size w5 (w5.alloc (.cells #[.slice none 0 0,.slice none 0 0,iv 0,.slice none 0 0,.slice none 0 0] 28 (0,0))):=(Below.refl _ w5).alloc (Nat.le_refl _) _; have b6:=hid (b4.out.trans ((hb5.trans (hb6.mono hb5.size)).mono b4.out.size)); replace hnf:=hid hnf; clear hb5 hb6 hm2
    go_wp2_with fail
    go_ret; exact ⟨rfl,b6.out⟩
   ·subst hF0
    obtain ⟨qst2,qre2,qco2,qun2⟩:=q2; obtain ⟨e1,e2,e3⟩:=plan_none hM2.pl; replace e1:qst2=[]:=e1; replace e2:qre2=[]:=e2; replace e3:qco2=0:=e3; subst e1 e2 e3
    dsimp only at hQ2 ⊢
    have hb6:Below w5.heap.size w5 (w5.alloc (.cells #[.slice qa2 0 qc2,.slice rb2 0 rd2,iv 0,.slice Rb2 0 Rd2,.slice Cb2 0 Cd2] 28 (0,0))):=(Below.refl _ w5).alloc (Nat.le_refl _) _; have b6:=hid (b4.out.trans ((hb5.trans (hb6.mono hb5.size)).mono b4.out.size)); replace hQ2:=hid hQ2; replace hM2:=hid hM2; clear hb5 hb6 hm2
    go_wp2_with fail
    go_ret; exact ⟨rfl,b6.out⟩
  ·subst hE0
   have hF0:=hFE rfl; subst hF0; obtain ⟨qst,qre,qco,qun⟩:=q
   dsimp only at hQ ⊢
   have hb4:Below w3.heap.size w3 (w3.alloc (.cells #[.slice qa qst.length qc,.slice rb qre.length rd,iv qco,.slice Rb (undo.length+«do».length) Rd,.slice Cb (undo.length+«do».length) Cd] 28 (0,0))):=(Below.refl _ w3).alloc (Nat.le_refl _) _; have k4:=hb3.trans (hb4.mono hb3.size); obtain ⟨W4,hW4⟩:∃ W,W=w3.alloc (.cells #[.slice qa qst.length qc,.slice rb qre.length rd,iv qco,.slice Rb (undo.length+«do».length) Rd,.slice Cb (undo.length+«do».length) Cd] 28 (0,0)):=⟨_,rfl⟩; obtain ⟨B4,hB4⟩:∃ B,B=w3.heap.size:=⟨_,rfl⟩; rw [← hW4] at hQ hb4 k4; rw [← hB4] at hQ; have hm2:=hid (hn0.out W4 k4); have h4:=hid (h2.out.below k4); have b4:=hid (b2.out.trans (k4.mono b2.out.size)); replace hQ:=hid hQ; replace hM:=hid hM; replace hW4:=hid hW4; replace hB4:=hid hB4
   clear hb4 hb3 hmk hn0 k4 hFE h2 b2
   go_upto_region 5 with (fail)
   rw [← hW4.out,← hB4.out]
   go_wp2_with fail
   refine hm2.out.mono ?_; rintro e w5 ⟨hb5,(⟨hnf,-⟩ | ⟨-,q2,qa2,qc2,rb2,rd2,Rb2,Rd2,Cb2,Cd2,hM2,rfl,hQ2⟩)⟩
   ·exact absurd rfl hnf
   obtain ⟨qst2,qre2,qco2,qun2⟩:=q2; obtain ⟨e1,e2,e3⟩:=plan_none hM2.pl; replace e1:qst2=[]:=e1; replace e2:qre2=[]:=e2; replace e3:qco2=0:=e3; subst e1 e2 e3
   dsimp only [List.length_nil] at hQ2 ⊢
   have hb6:Below w5.heap.size w5 (w5.alloc (.cells #[.slice qa2 0 qc2,.slice rb2 0 rd2,iv 0,.slice Rb2 0 Rd2,.slice Cb2 0 Cd2] 28 (0,0))):=(Below.refl _ w5).alloc (Nat.le_refl _) _; have r6:=heap_alloc_new' w5 (.cells #[.slice qa2 0 qc2,.slice rb2 0 rd2,iv 0,.slice Rb2 0 Rd2,.slice Cb2 0 Cd2] 28 (0,0)); have k6:=hb5.trans (hb6.mono hb5.size); obtain ⟨W6,hW6⟩:∃ W,W=w5.alloc (.cells #[.slice qa2 0 qc2,.slice rb2 0 rd2,iv 0,.slice Rb2 0 Rd2,.slice Cb2 0 Cd2] 28 (0,0)):=⟨_,rfl⟩; obtain ⟨B6,hB6⟩:∃ B,B=w5.heap.size:=⟨_,rfl⟩; rw [← hW6] at r6 hb6 k6; rw [← hB6] at r6; have h6:=hid (h4.out.below k6); have hQ6:=hid (hQ.out.below k6); have b6:=hid (b4.out.trans (k6.mono b4.out.size)); obtain ⟨z0,z1,z2,-,-⟩:=cells5 r6; have hlz:=lt_of_heap r6; replace hM2:=hid hM2
   replace hQ2:=hid hQ2; replace hW6:=hid hW6; replace hB6:=hid hB6; replace r6:=hid r6; clear hb5 hb6 hm2 h4 b4 hQ k6
   go_upto_region 6 with (fail)
   rw [← hW6.out,← hB6.out]; by_cases hl0:l.length=0
   ·have q6:((l.length:Int) == 0)=true:=by rw [beq_iff_eq]; omega
    go_wp2_with fail
    go_ret; exact ⟨rfl,b6.out⟩
   ·have q6:((l.length:Int) == 0)=false:=by rw [beq_eq_false_iff_ne]; omega
    obtain ⟨n,hn⟩:∃ n,n=l.length:=⟨_,rfl⟩; rw [← hn] at q6 hl0 hll ⊢; replace hn:=hid hn
    have q7:IntKind.i64.wrap ((n:Int) - 1)=(n:Int) - 1:=by rw [IntKind.wrap_i64]; omega
    have hO0:=hid (OwnR.nil 44 6 OffR (from_ W6.heap.size) W6); have hB0:=hid (Below.refl W6.heap.size W6)
    go_wp2_with fail
    go_loopg [20,21] n (fun f v20 v21 wr=>∃ (k:Nat) (J:Int) (a:Option Addr) (c:Nat),v20=.slice a k c∧v21=iv J∧Hid (J=(n:Int) - 1 - k)∧k+f=n∧Hid (OwnR 44 6 OffR (from_ W6.heap.size) wr (l.reverse.take k) (.slice a k c))∧Hid (Below W6.heap.size W6 wr))
    case atStart=>exact ⟨0,_,none,0,rfl,rfl,hid (by simp),by omega,hO0,hB0⟩
    case round =>
     obtain ⟨k,J,ta,tc,rfl,rfl,hJ,hkf,hO,hBr⟩:=hrel; clear hO0 hB0 z0 z1 z2; by_cases hk:k < n
     ·have hJe:J=((n - 1 - k:Nat):Int):=by rw [hJ.out]; omega
      have q8:decide ((0:Int)≤J)=true:=decide_eq_true (by omega); obtain ⟨o,ho⟩:∃ o,l[n - 1 - k]? = some o:=⟨_,List.getElem?_eq_getElem (by rw [← hn.out]; omega)⟩; obtain ⟨g1,o1,cs1,ix1,-,hg1,hc1,hr1⟩:=(h6.out.below hBr.out).pin.lr.at (P:=Tryd.prog) (t:=22) (by kernel_rfl) (fun _=>by kernel_rfl) ho; have hcs:cs1=offCs o:=hr1; subst hcs; rw [← hJe,← hn.out] at ix1
      have hnx:l.reverse.take (k+1)=l.reverse.take k++[o]:=by
       rw [List.take_add_one,List.getElem?_reverse (by rw [← hn.out]; exact hk),← hn.out,ho]; rfl
      obtain ⟨a7,c7,w7,hap,hO7,hb7⟩:=push_off hO.out hBr.out o (by rw [List.length_take]; omega) 22
      have hlk:(l.reverse.take k).length=k:=by rw [List.length_take,List.length_reverse,← hn.out]; omega
      rw [hlk] at hap hO7; rw [← hnx] at hO7; obtain ⟨nm,o2,o3,o4,o5,o6⟩:=o; have d0:=hc1 0 _ rfl; have d1:=hc1 1 _ rfl; have d2:=hc1 2 _ rfl; have d3:=hc1 3 _ rfl; have d4:=hc1 4 _ rfl; have d5:=hc1 5 _ rfl; rw [Nat.add_zero] at d0; replace d0:wr.cell? ⟨g1,o1,none⟩=some (sv nm):=d0; replace d1:wr.cell? ⟨g1,o1+1,none⟩=some (iv o2):=d1; replace d2:wr.cell? ⟨g1,o1+2,none⟩=some (iv o3):=d2; replace d3:wr.cell? ⟨g1,o1+3,none⟩=some (iv o4):=d3; replace d4:wr.cell? ⟨g1,o1+4,none⟩=some (iv o5):=d4; replace d5:wr.cell? ⟨g1,o1+5,none⟩=some (iv o6):=d5
      have q9:IntKind.i64.wrap (J - 1)=J - 1:=by rw [IntKind.wrap_i64]; omega
      have hJ2:Hid (J - 1=(n:Int) - 1 - ((k+1:Nat):Int)):=hid (by rw [hJ.out]; omega); replace hap:=hid hap; replace hO7:=hid hO7; replace hb7:=hid hb7; replace hJe:=hid hJe; replace ho:=hid ho; replace hnx:=hid hnx; replace hlk:=hid hlk; clear hc1 hr1
      go_wp2_with (first | (at_builtin; refine wpList_append_shut rfl (.tmp 77) (.tmp 82) rfl rfl rfl hap.out ?_))
      go_roundg (n - (k+1))
      case measure=>omega
      case rel=>exact ⟨k+1,J - 1,a7,c7,rfl,by first | rfl | rw [q9],hJ2,by omega,hO7,hb7⟩
     ·have hkn:k=n:=by omega
      subst hkn; have q8:decide ((0:Int)≤J)=false:=decide_eq_false (by rw [hJ.out]; omega)
      have hrev:l.reverse.take k=l.reverse:=by rw [List.take_of_length_le (by rw [List.length_reverse,← hn.out]; exact Nat.le_refl _)]
      have hcat:CatOk l:=by
       rcases hM.out.ok.1 with e | e
       ·exfalso; have:=hn.out; rw [e] at this; simp at this; omega
       ·exact e
      have hcat2:=cat_perm (List.reverse_perm l).symm hcat; have hO2:=hO.out; rw [hrev] at hO2
      have h7:LIn l.reverse undo «do» rf (.slice ta k tc) (.slice ua undo.length uc) (.slice da «do».length dc) (.slice ra rf.length rc) wr:=by
       have hh:=h6.out.below hBr.out; exact ⟨⟨by rw [List.length_reverse]; exact hh.pin.l1,fun o ho=>hh.pin.l2 o (List.mem_reverse.1 ho),(hO2.sl goodOff).mono goodOff fun _ _ _=>trivial,hh.pin.u1,hh.pin.u2,hh.pin.ur,hh.pin.d1,hh.pin.d2,hh.pin.dr,hh.pin.r1,hh.pin.r2,hh.pin.rr,hh.pin.tb⟩,hh.u,hh.d⟩
      have hfew2:Few45 l.reverse undo «do» rf:=⟨by rw [List.length_reverse]; exact hfew.out.l,hfew.out.u,hfew.out.d,hfew.out.r⟩
      have hmk:=makeL h7 hfew2 clock 0; rw [prep_cat hE.out.symm (Or.inr hcat2)] at hmk; replace hmk:=hid hmk; have b7:=hid (b6.out.trans (hBr.out.mono b6.out.size)); have h8:=hid (h6.out.below hBr.out); have hQ8:=hid (hQ6.out.below hBr.out); have r8:=hid ((hBr.out.block B6 hlz).trans r6.out); have hlz8:=Nat.lt_of_lt_of_le hlz hBr.out.size; replace hcat:=hid hcat; replace hcat2:=hid hcat2; replace hrev:=hid hrev; clear h7 hfew2 hO2 hO hBr h6 hQ6 b6 r6 hlz
      go_wp2_with fail
      refine hmk.out.mono ?_; rintro e w9 ⟨hb9,(⟨hng,-⟩ | ⟨-,q3,qa3,qc3,rb3,rd3,Rb3,Rd3,Cb3,Cd3,hM3,rfl,hQ3⟩)⟩
      ·exact absurd rfl hng
      have heq:=made_turned hcat.out hM.out hM3; subst heq
      dsimp only at hQ3 ⊢
      have hb10:Below w9.heap.size w9 (w9.alloc (.cells #[.slice qa3 qst.length qc3,.slice rb3 qre.length rd3,iv qco,.slice Rb3 (undo.length+«do».length) Rd3,.slice Cb3 (undo.length+«do».length) Cd3] 28 (0,0))):=(Below.refl _ w9).alloc (Nat.le_refl _) _; have k10:=hb9.trans (hb10.mono hb9.size); obtain ⟨W10,hW10⟩:∃ W,W=w9.alloc (.cells #[.slice qa3 qst.length qc3,.slice rb3 qre.length rd3,iv qco,.slice Rb3 (undo.length+«do».length) Rd3,.slice Cb3 (undo.length+«do».length) Cd3] 28 (0,0)):=⟨_,rfl⟩; obtain ⟨B10,hB10⟩:∃ B,B=w9.heap.size:=⟨_,rfl⟩; rw [← hW10] at hQ3 hb10 k10; rw [← hB10] at hQ3; have h10:=hid (h8.out.below k10); have hQ10:=hQ8.out.below k10; have b10:=hid (b7.out.trans (k10.mono b7.out.size)); have r10:=(k10.block B6 hlz8).trans r8.out
      obtain ⟨z0,z1,z2,-,-⟩:=cells5 r10; obtain ⟨x0,x1,x2,x3,x4⟩:=cells5 hQ10.blk; obtain ⟨y0,y1,y2,y3,y4⟩:=cells5 hQ3.blk; have hqv:=plan_vals (x:=stlF l undo «do» clock 0 rf) h10.out.d hM.out.pl; have hl1:qst.length≤15:=hM.out.st; have hl2:qre.length≤10:=hM.out.re; have hsame:=hid (refSame45 hQ10 hQ3 (by omega) (by omega) hqv); have hlq:=lt_of_heap hQ10.blk; replace hqv:=hid hqv; replace hQ10:=hid hQ10; replace hQ3:=hid hQ3; replace hM3:=hid hM3; replace hW10:=hid hW10; replace hB10:=hid hB10; replace r10:=hid r10; clear hb10 hb9 k10 hmk h8 hQ8 b7 r8 hlz8
      go_upto_region 14 with (fail)
      rw [← hW10.out,← hB10.out]
      go_wp2_with fail
      refine hsame.out.mono ?_; rintro e w11 ⟨rfl,hb11⟩; have h11:=hid (h10.out.below hb11); have hQ11:=hid (hQ10.out.below hb11); have b11:=hid (b10.out.trans (hb11.mono b10.out.size)); clear hsame hb11 h10 hQ10 b10 x0 x1 x2 x3 x4 y0 y1 y2 y3 y4 z0 z1 z2
      go_upto_region 16 with (fail)
      obtain ⟨g,gc,w12,hap,hO12,hb12,hg12⟩:=copy_off (h11.out.pin.lr) (by rw [← hn.out]; omega) (by rw [← hn.out]; omega) 22; rw [← hn.out] at hap hO12; have h12:=hid (h11.out.below hb12); have hQ12:=hid (hQ11.out.below hb12); have b12:=hid (b11.out.trans (hb12.mono b11.out.size)); have hOw:=hid hO12; have hbw:=hid hb12; replace hap:=hid hap; clear hO12 hb12; obtain ⟨r,hr⟩:∃ r,r=wh % k:=⟨_,rfl⟩
      have hrl:r < k:=by rw [hr]; exact Nat.mod_lt _ (by omega)
      have hrm:Int.tmod (wh:Int) (k:Int)=(r:Int):=by rw [hr]; rfl
      have hwr:IntKind.i64.wrap (wh:Int)=(wh:Int):=by rw [IntKind.wrap_i64]; omega
      obtain ⟨o,ho⟩:∃ o,l[r]? = some o:=⟨_,List.getElem?_eq_getElem (by rw [← hn.out]; exact hrl)⟩; obtain ⟨y0,y1,y2,y3,y4,y5⟩:=own_off (hOw.out.sl goodOff) ho
      have ix:=fun kd W=>off_idx (g:=g) (n:=k) (cap:=gc) hrl kd W
      obtain ⟨nm,o1,o2,o3,o4,o5⟩:=o; replace y0:w12.cell? ⟨g,r * 6,none⟩=some (sv nm):=y0; replace y1:w12.cell? ⟨g,r * 6+1,none⟩=some (iv o1):=y1; replace y2:w12.cell? ⟨g,r * 6+2,none⟩=some (iv o2):=y2; replace y3:w12.cell? ⟨g,r * 6+3,none⟩=some (iv o3):=y3; replace y4:w12.cell? ⟨g,r * 6+4,none⟩=some (iv o4):=y4; replace y5:w12.cell? ⟨g,r * 6+5,none⟩=some (iv o5):=y5; replace hr:=hid hr; replace ho:=hid ho
      go_upto_region 18 with (first | (at_builtin; refine wpList_append_shut rfl (.tmp 118) (.tmp 119) rfl rfl rfl hap.out ?_))
      have rB:=heap_alloc_new' w12 (.cells #[sv nm,iv o1,iv o2,iv o3,iv o4,iv o5] 44 (0,0)); have aB:Below w12.heap.size w12 (w12.alloc (.cells #[sv nm,iv o1,iv o2,iv o3,iv o4,iv o5] 44 (0,0))):=(Below.refl _ w12).alloc (Nat.le_refl _) _; obtain ⟨W13,hW13⟩:∃ W,W=w12.alloc (.cells #[sv nm,iv o1,iv o2,iv o3,iv o4,iv o5] 44 (0,0)):=⟨_,rfl⟩; obtain ⟨B13,hB13⟩:∃ B,B=w12.heap.size:=⟨_,rfl⟩; rw [← hW13] at rB aB; rw [← hB13] at rB; rw [← hW13,← hB13]; have b13:=hid (b12.out.trans (aB.mono b12.out.size)); by_cases hc0:cost < 0
      ·have q10:decide (cost < 0)=true:=decide_eq_true hc0
       replace hW13:=hid hW13; replace hB13:=hid hB13
       go_wp2_with fail
       go_ret; exact ⟨rfl,b13.out⟩
      have q10:decide (cost < 0)=false:=decide_eq_false hc0; by_cases hc1:1048576 < cost
      ·have q11:decide (1048576 < cost)=true:=decide_eq_true hc1
       replace hW13:=hid hW13; replace hB13:=hid hB13
       go_wp2_with fail
       go_ret; exact ⟨rfl,b13.out⟩
      have q11:decide (1048576 < cost)=false:=decide_eq_false hc1; have hR13:=hid rB; have hA13:=hid aB; replace rB:=hid rB; replace aB:=hid aB; replace hW13:=hid hW13; replace hB13:=hid hB13; clear hap ix y0 y1 y2 y3 y4 y5; obtain ⟨x0,x1,x2,x3,x4,x5,-⟩:=off_cells (o:=⟨nm,o1,o2,o3,o4,o5⟩) hR13.out
      go_upto_region 20 with (fail)
      go_cut [144] (fun v144 wx=>∃ b:Bool,v144=.bool b∧Hid (b=true ↔ o2 = -1∨cost < o2)∧wx=W13)
      case first =>
       by_cases e1:o2 = -1
       ·have p1:(o2 == -1)=true:=by simpa using e1
        replace e1:=hid e1
        go_wp2_with fail
        go_meet
        case rel=>exact ⟨true,rfl,hid ⟨fun _=>Or.inl e1.out,fun _=>rfl⟩,rfl⟩
       ·have p1:(o2 == -1)=false:=by simpa using e1
        replace e1:=hid e1; by_cases e2:cost < o2
        ·have p2:decide (cost < o2)=true:=decide_eq_true e2
         go_wp2_with fail
         go_meet
         case rel=>exact ⟨true,rfl,hid ⟨fun _=>Or.inr e2,fun _=>rfl⟩,rfl⟩
        ·have p2:decide (cost < o2)=false:=decide_eq_false e2
         go_wp2_with fail
         go_meet
         case rel=>exact ⟨false,rfl,hid ⟨fun h=>(by cases h),fun h=>absurd h (fun h=>h.elim e1.out (fun h2=>by omega))⟩,rfl⟩
      case rest =>
       obtain ⟨b,rfl,hb,hwx⟩:=hcut; replace hwx:=hid hwx
       apply_assumption
       clear x0 x1 x2 x3 x4 x5
       go_cut [] (fun wx=>Hid (wx.heap[B13]? = some (.cells #[sv nm,iv o1,iv (cheapN cost o2),iv o3,iv o4,iv o5] 44 (0,0)))∧Hid (Below w12.heap.size w12 wx))
       case first =>
        cases b with
        | true =>
         have hq:cheapN cost o2=cost:=if_undo hb.out; have rS:=set_off2 hR13.out cost; rw [← hwx.out] at rS
         have aS:Below w12.heap.size w12 (wc.setCell ⟨B13,2,none⟩ (iv cost)):=by rw [hwx.out]; exact below_set hA13.out (by have:=hB13.out; omega) _
         have x2:wc.cell? ⟨B13,2,none⟩=some (iv o2):=by rw [hwx.out]; exact (cell_of (i:=2) hR13.out).trans rfl
         have u2:∀ i,wc.frozen? ⟨B13,i,none⟩=false:=fun i=>by rw [hwx.out]; exact free_of (i:=i) hR13.out
         replace rS:=hid rS; replace aS:=hid aS; replace hq:=hid hq
         go_wp2_with fail
         go_meet
         case rel=>exact ⟨hid (by rw [hq.out]; exact rS.out),aS⟩
        | false =>
         have hq:cheapN cost o2=o2:=if_undo hb.out; have rS:=hR13.out; have aS:=hA13.out; rw [← hwx.out] at rS aS; replace rS:=hid rS; replace aS:=hid aS; replace hq:=hid hq
         go_wp2_with fail
         go_meet
         case rel=>exact ⟨hid (by rw [hq.out]; exact rS.out),aS⟩
       case rest =>
        obtain ⟨hR14,hA14⟩:=hcut; clear hb hR13 hA13; obtain ⟨u2,hu2⟩:∃ u,u=cheapN cost o2:=⟨_,rfl⟩; rw [← hu2] at hR14; replace hu2:=hid hu2
        as_aux_lemma =>
         obtain ⟨W22,hW22⟩:∃ W,W=wc:=⟨_,rfl⟩; subst hW22; obtain ⟨x0,x1,x2,x3,x4,x5,-⟩:=off_cells (o:=⟨nm,o1,u2,o3,o4,o5⟩) hR14.out
         apply_assumption
         go_upto_region 22 with (fail)
         go_cut [155] (fun v wx=>∃ b:Bool,v=.bool b∧Hid (b=true ↔ o5 = -1∨cost < o5)∧wx=W22)
         case first =>
          by_cases e1:o5 = -1
          ·have p1:(o5 == -1)=true:=by simpa using e1
           replace e1:=hid e1
           go_wp2_with fail
           go_meet
           case rel=>exact ⟨true,rfl,hid ⟨fun _=>Or.inl e1.out,fun _=>rfl⟩,rfl⟩
          ·have p1:(o5 == -1)=false:=by simpa using e1
           replace e1:=hid e1; by_cases e2:cost < o5
           ·have p2:decide (cost < o5)=true:=decide_eq_true e2
            go_wp2_with fail
            go_meet
            case rel=>exact ⟨true,rfl,hid ⟨fun _=>Or.inr e2,fun _=>rfl⟩,rfl⟩
           ·have p2:decide (cost < o5)=false:=decide_eq_false e2
            go_wp2_with fail
            go_meet
            case rel=>exact ⟨false,rfl,hid ⟨fun h=>(by cases h),fun h=>absurd h (fun h=>h.elim e1.out (fun h2=>by omega))⟩,rfl⟩
         case rest =>
          obtain ⟨b,rfl,hb,hwx⟩:=hcut; replace hwx:=hid hwx
          apply_assumption
          clear x0 x1 x2 x3 x4 x5
          go_cut [] (fun wx=>Hid (wx.heap[B13]? = some (.cells #[sv nm,iv o1,iv u2,iv o3,iv o4,iv (cheapN cost o5)] 44 (0,0)))∧Hid (Below w12.heap.size w12 wx))
          case first =>
           cases b with
           | true =>
            have hq:cheapN cost o5=cost:=if_undo hb.out; have rS:=set_off5 hR14.out cost; rw [← hwx.out] at rS
            have aS:Below w12.heap.size w12 (wc.setCell ⟨B13,5,none⟩ (iv cost)):=by rw [hwx.out]; exact below_set hA14.out (by have:=hB13.out; omega) _
            have xf:wc.cell? ⟨B13,5,none⟩=some (iv o5):=by rw [hwx.out]; exact (cell_of (i:=5) hR14.out).trans rfl
            have uf:∀ i,wc.frozen? ⟨B13,i,none⟩=false:=fun i=>by rw [hwx.out]; exact free_of (i:=i) hR14.out
            replace rS:=hid rS; replace aS:=hid aS; replace hq:=hid hq
            go_wp2_with fail
            go_meet
            case rel=>exact ⟨hid (by rw [hq.out]; exact rS.out),aS⟩
           | false =>
            have hq:cheapN cost o5=o5:=if_undo hb.out; have rS:=hR14.out; have aS:=hA14.out; rw [← hwx.out] at rS aS; replace rS:=hid rS; replace aS:=hid aS; replace hq:=hid hq
            go_wp2_with fail
            go_meet
            case rel=>exact ⟨hid (by rw [hq.out]; exact rS.out),aS⟩
          case rest =>
           obtain ⟨hR15,hA15⟩:=hcut; clear hb hR14 hA14; obtain ⟨u5,hu5⟩:∃ u,u=cheapN cost o5:=⟨_,rfl⟩; rw [← hu5] at hR15; replace hu5:=hid hu5
           as_aux_lemma =>
            obtain ⟨W24,hW24⟩:∃ W,W=wc:=⟨_,rfl⟩; subst hW24; obtain ⟨x0,x1,x2,x3,x4,x5,-⟩:=off_cells (o:=⟨nm,o1,u2,o3,o4,u5⟩) hR15.out
            apply_assumption
            go_upto_region 24 with (fail)
            go_cut [166] (fun v wx=>∃ b:Bool,v=.bool b∧Hid (b=true ↔ o1 = -1∨cost < o1)∧wx=W24)
            case first =>
             by_cases e1:o1 = -1
             ·have p1:(o1 == -1)=true:=by simpa using e1
              replace e1:=hid e1
              go_wp2_with fail
              go_meet
              case rel=>exact ⟨true,rfl,hid ⟨fun _=>Or.inl e1.out,fun _=>rfl⟩,rfl⟩
             ·have p1:(o1 == -1)=false:=by simpa using e1
              replace e1:=hid e1; by_cases e2:cost < o1
              ·have p2:decide (cost < o1)=true:=decide_eq_true e2
               go_wp2_with fail
               go_meet
               case rel=>exact ⟨true,rfl,hid ⟨fun _=>Or.inr e2,fun _=>rfl⟩,rfl⟩
              ·have p2:decide (cost < o1)=false:=decide_eq_false e2
               go_wp2_with fail
               go_meet
               case rel=>exact ⟨false,rfl,hid ⟨fun h=>(by cases h),fun h=>absurd h (fun h=>h.elim e1.out (fun h2=>by omega))⟩,rfl⟩
            case rest =>
             obtain ⟨b,rfl,hb,hwx⟩:=hcut; replace hwx:=hid hwx
             apply_assumption
             clear x0 x1 x2 x3 x4 x5
             go_cut [] (fun wx=>Hid (wx.heap[B13]? = some (.cells #[sv nm,iv (cheapN cost o1),iv u2,iv o3,iv o4,iv u5] 44 (0,0)))∧Hid (Below w12.heap.size w12 wx))
             case first =>
              cases b with
              | true =>
               have hq:cheapN cost o1=cost:=if_undo hb.out; have rS:=set_off1 hR15.out cost; rw [← hwx.out] at rS
               have aS:Below w12.heap.size w12 (wc.setCell ⟨B13,1,none⟩ (iv cost)):=by rw [hwx.out]; exact below_set hA15.out (by have:=hB13.out; omega) _
               have xf:wc.cell? ⟨B13,1,none⟩=some (iv o1):=by rw [hwx.out]; exact (cell_of (i:=1) hR15.out).trans rfl
               have uf:∀ i,wc.frozen? ⟨B13,i,none⟩=false:=fun i=>by rw [hwx.out]; exact free_of (i:=i) hR15.out
               replace rS:=hid rS; replace aS:=hid aS; replace hq:=hid hq
               go_wp2_with fail
               go_meet
               case rel=>exact ⟨hid (by rw [hq.out]; exact rS.out),aS⟩
              | false =>
               have hq:cheapN cost o1=o1:=if_undo hb.out; have rS:=hR15.out; have aS:=hA15.out; rw [← hwx.out] at rS aS; replace rS:=hid rS; replace aS:=hid aS; replace hq:=hid hq
               go_wp2_with fail
               go_meet
               case rel=>exact ⟨hid (by rw [hq.out]; exact rS.out),aS⟩
             case rest =>
              obtain ⟨hR16,hA16⟩:=hcut; clear hb hR15 hA15
              as_aux_lemma =>
               obtain ⟨u1,hu1⟩:∃ u,u=cheapN cost o1:=⟨_,rfl⟩; rw [← hu1] at hR16; replace hu1:=hid hu1
               have hgB:B13≠g:=by have h1:g < w12.heap.size:=hOw.out.lt rfl; have:=hB13.out; omega
               have hgs:w11.heap.size≤g:=hg12; have kc:=hid (hbw.out.trans (hA16.out.mono hbw.out.size)); have hOc:=hid (hOw.out.below goodOff hA16.out); clear hA16 hOw hbw b12 h12 hQ12; obtain ⟨y0,y1,y2,y3,y4,y5⟩:=own_off (hOc.out.sl goodOff) ho.out; replace y0:wc.cell? ⟨g,r * 6,none⟩=some (sv nm):=y0; replace y1:wc.cell? ⟨g,r * 6+1,none⟩=some (iv o1):=y1; replace y2:wc.cell? ⟨g,r * 6+2,none⟩=some (iv o2):=y2; replace y3:wc.cell? ⟨g,r * 6+3,none⟩=some (iv o3):=y3; replace y4:wc.cell? ⟨g,r * 6+4,none⟩=some (iv o4):=y4; replace y5:wc.cell? ⟨g,r * 6+5,none⟩=some (iv o5):=y5
               have ix:=fun kd W=>off_idx (g:=g) (n:=k) (cap:=gc) hrl kd W
               have uf:=own_free hOc.out; obtain ⟨x0,x1,x2,x3,x4,x5,-⟩:=off_cells (o:=⟨nm,u1,u2,o3,o4,u5⟩) hR16.out; have hth:=hid (off_there (hOc.out.below goodOff ((Below.refl _ wc).drew)) (r:=r) (by rw [← hn.out]; exact hrl))
               have hkp:=hid (show _∧_∧_∧_∧_∧_ from (by
                obtain ⟨q0,q1,q2,q3,q4,q5,-⟩:=off_cells (o:=⟨nm,u1,u2,o3,o4,u5⟩) (w:=setCells wc.drew g (r * 6) (Array.toList #[sv nm,iv u1,iv u2,iv o3,iv o4,iv u5])) ((setCells_other g (Array.toList #[sv nm,iv u1,iv u2,iv o3,iv o4,iv u5]) wc.drew (r * 6) B13 hgB).trans hR16.out)
                exact ⟨q0,q1,q2,q3,q4,q5⟩))
               apply_assumption
               go_upto_region 26 with (fail)
               refine wp_region_held_drew (S:=fun w'=>w'.cell? ⟨B13,0,none⟩=some (sv nm)∧w'.cell? ⟨B13,1,none⟩=some (iv u1)∧w'.cell? ⟨B13,2,none⟩=some (iv u2)∧w'.cell? ⟨B13,3,none⟩=some (iv o3)∧w'.cell? ⟨B13,4,none⟩=some (iv o4)∧w'.cell? ⟨B13,5,none⟩=some (iv u5)) (by kernel_rfl) ?_ (fun hHeld=>?_)
               ·exact ⟨x0,x1,x2,x3,x4,x5⟩
               refine wTk (i:=0) (v:=?_) rfl ?hy ?_
               case hy =>
                intro w hSw
                (try dsimp only at hSw)
                go_simp
                all_goals with_reducible rfl
               try simp only [Act.put,sI,sZ,sS]
               refine wTk (i:=1) (v:=?_) rfl ?hy ?_
               case hy =>
                intro w hSw
                (try dsimp only at hSw)
                go_simp
                all_goals with_reducible rfl
               try simp only [Act.put,sI,sZ,sS]
               refine wTk (i:=2) (v:=?_) rfl ?hy ?_
               case hy =>
                intro w hSw
                (try dsimp only at hSw)
                go_simp
                all_goals with_reducible rfl
               try simp only [Act.put,sI,sZ,sS]
               refine wTk (i:=3) (v:=?_) rfl ?hy ?_
               case hy =>
                intro w hSw
                (try dsimp only at hSw)
                go_simp
                all_goals with_reducible rfl
               try simp only [Act.put,sI,sZ,sS]
               refine wTk (i:=4) (v:=?_) rfl ?hy ?_
               case hy =>
                intro w hSw
                (try dsimp only at hSw)
                go_simp
                all_goals with_reducible rfl
               try simp only [Act.put,sI,sZ,sS]
               refine wTk (i:=5) (v:=?_) rfl ?hy ?_
               case hy =>
                intro w hSw
                (try dsimp only at hSw)
                go_simp
                all_goals with_reducible rfl
               try simp only [Act.put,sI,sZ,sS]
               refine wTk (i:=6) (v:=?_) rfl ?hy ?_
               case hy =>
                intro w hSw; obtain ⟨s0,s1,s2,s3,s4,s5⟩:=hSw; go_simp
                all_goals with_reducible rfl
               try simp only [Act.put,sI,sZ,sS]
               refine wTk (i:=7) (v:=?_) rfl ?hy ?_
               case hy =>
                intro w hSw
                (try dsimp only at hSw)
                go_simp
                all_goals with_reducible rfl
               try simp only [Act.put,sI,sZ,sS]
               refine wpAnyH_ready (rs:=[8]) (by as_aux_lemma=>kernel_rfl) (by simp) ?_; refine rdY rfl (fun K hK=>?_); rw [if_pos (by rfl)]; refine wp_store_mid 44 (.tmp 176) (.tmp 175) rfl g (r * 6) #[sv nm,iv u1,iv u2,iv o3,iv o4,iv u5] (by rfl) (by rfl) hth.out (by kernel_rfl) (by simp [Value.oneCell']) ?_; rw [kitSet]; refine hK.out _ _ ?_ (fun hHeld2=>?_)
               ·exact hkp.out
               clear hK K hHeld hHeld2
               try simp only [Act.put,sI,sZ,sS]
               refine wpAnyH_done (by as_aux_lemma=>kernel_rfl) ?_ _; obtain ⟨L2,hL2⟩:∃ L,L=l.set r (cheapF cost ⟨nm,o1,o2,o3,o4,o5⟩):=⟨_,rfl⟩; have kb:=below_setCells hgs rfl (Array.toList #[sv nm,iv u1,iv u2,iv o3,iv o4,iv u5]) wc.drew (r * 6) kc.out.drew; have hset:=OwnR.set (i:=r) goodOff (hOc.out.below goodOff ((Below.refl _ wc).drew)) (by rw [← hn.out]; exact hrl) (x:=cheapF cost ⟨nm,o1,o2,o3,o4,o5⟩) (cs:=Array.toList #[sv nm,iv u1,iv u2,iv o3,iv o4,iv u5]) (by rw [hu1.out,hu2.out,hu5.out]; rfl); rw [← hL2] at hset; obtain ⟨W26,hW26⟩:∃ W,W=setCells wc.drew g (r * 6) (Array.toList #[sv nm,iv u1,iv u2,iv o3,iv o4,iv u5]):=⟨_,rfl⟩; rw [← hW26] at kb hset ⊢; have hcat3:=cat_set (by omega) (by omega) hcat.out ho.out (c:=cost); rw [← hL2] at hcat3
               have hll2:L2.length=l.length:=by rw [hL2,List.length_set]
               have h26:LIn L2 undo «do» rf (.slice (some ⟨g,0,none⟩) k gc) (.slice ua undo.length uc) (.slice da «do».length dc) (.slice ra rf.length rc) W26:=by
                have hh:=h11.out.below kb
                exact ⟨⟨by rw [hll2]; exact hh.pin.l1,fun x hx=>off_bounds hcat3 x hx (by
                 rw [hL2] at hx; rcases List.mem_or_eq_of_mem_set hx with hx | hx
                 ·exact (hh.pin.l2 x hx).1
                 ·rw [hx]; exact (hh.pin.l2 _ (List.mem_of_getElem? ho.out)).1),(hset.sl goodOff).mono goodOff fun _ _ _=>trivial,hh.pin.u1,hh.pin.u2,hh.pin.ur,hh.pin.d1,hh.pin.d2,hh.pin.dr,hh.pin.r1,hh.pin.r2,hh.pin.rr,hh.pin.tb⟩,hh.u,hh.d⟩
               have hfew3:Few45 L2 undo «do» rf:=⟨by rw [hll2]; exact hfew.out.l,hfew.out.u,hfew.out.d,hfew.out.r⟩
               have hmk:=makeL h26 hfew3 clock 0; rw [prep_cat hE.out.symm (Or.inr hcat3)] at hmk; replace hmk:=hid hmk
               have hL2n:L2≠[]:=fun e=>by
                have h1:=hn.out; rw [e] at hll2; rw [← h1] at hll2; exact hl0 hll2.symm
               have hcw:=hid (fun W (hW:Below W26.heap.size W26 W)=>cwrite_any L2 (fun _=>True) _ W (h26.below hW).pin.l1 (h26.below hW).pin.l2 (h26.below hW).pin.lr (hid (h26.below hW).pin.tb.t)); have hQ26:=hid (hQ11.out.below kb); have b26:=hid (b11.out.trans (kb.mono b11.out.size)); replace hcat3:=hid hcat3; replace hll2:=hid hll2; replace hL2:=hid hL2; clear hW26 x0 x1 x2 x3 x4 x5 y0 y1 y2 y3 y4 y5 uf ix hth hkp kb hset hgs kc hOc h11 hQ11 b11 hgB hg12 hfew3
               go_wp2_with fail
               refine hmk.out.mono ?_; rintro e w27 ⟨hb27,(⟨hng,-⟩ | ⟨-,q5,qa5,qc5,rb5,rd5,Rb5,Rd5,Cb5,Cd5,hM5,rfl,hQ5⟩)⟩
               ·exact absurd rfl hng
               obtain ⟨qst5,qre5,qco5,qun5⟩:=q5; have hM5':=hM5; rw [hL2.out] at hM5'; have hle:=made_cheap (by omega) (by omega) hcat.out ho.out hM.out hM5'; clear hM5'
               dsimp only at hQ5 hle ⊢
               have hb28:Below w27.heap.size w27 (w27.alloc (.cells #[.slice qa5 qst5.length qc5,.slice rb5 qre5.length rd5,iv qco5,.slice Rb5 (undo.length+«do».length) Rd5,.slice Cb5 (undo.length+«do».length) Cd5] 28 (0,0))):=(Below.refl _ w27).alloc (Nat.le_refl _) _; have k28:=hb27.trans (hb28.mono hb27.size); obtain ⟨W28,hW28⟩:∃ W,W=w27.alloc (.cells #[.slice qa5 qst5.length qc5,.slice rb5 qre5.length rd5,iv qco5,.slice Rb5 (undo.length+«do».length) Rd5,.slice Cb5 (undo.length+«do».length) Cd5] 28 (0,0)):=⟨_,rfl⟩; obtain ⟨B28,hB28⟩:∃ B,B=w27.heap.size:=⟨_,rfl⟩; rw [← hW28] at hQ5 hb28 k28; rw [← hB28] at hQ5; have hQ28:=hid (hQ26.out.below k28); have b28:=hid (b26.out.trans (k28.mono b26.out.size))
               have hcw28:=hid (fun W (hW:Below W28.heap.size W28 W)=>hcw.out W (k28.trans (hW.mono k28.size))); have e1:qst5.length≤15:=hM5.st; have e2:qre5.length≤10:=hM5.re; have e3:0≤qco5:=hM5.c0; have e4:qco5≤10485760:=hM5.c1; have f1:qst.length≤15:=hM.out.st; have f2:qre.length≤10:=hM.out.re; have f3:0≤qco:=hM.out.c0; have f4:qco≤10485760:=hM.out.c1; obtain ⟨V5,hV5⟩:∃ V,V=pWl qst5 qre5 qco5:=⟨_,rfl⟩; obtain ⟨V,hV⟩:∃ V,V=pWl qst qre qco:=⟨_,rfl⟩; rw [← hV5,← hV] at hle; have hw5:=hid (fun vl vu W (hW:Below W28.heap.size W28 W)=>weightM (vl:=vl) (vu:=vu) (hQ5.below hW) (by omega) (by omega) e3 (by omega))
               have hw:=hid (fun vl vu W (hW:Below W28.heap.size W28 W)=>weightM (vl:=vl) (vu:=vu) (hQ28.out.below hW) (by omega) (by omega) f3 (by omega)); rw [← hV5] at hw5; rw [← hV] at hw; have qle:decide (V5≤V)=true:=decide_eq_true hle; have k0:=And.intro (cells5 hQ28.out.blk) (cells5 hQ5.blk); replace hQ5:=hid hQ5; replace hM5:=hid hM5; replace hV:=hid hV; replace hV5:=hid hV5; replace hle:=hid hle; replace hW28:=hid hW28; replace hB28:=hid hB28; clear hb28 k28 hb27 hmk hQ26 b26 hcw e1 e2 e3 e4 f1 f2 f3 f4
               go_upto_region 28 with (fail)
               rw [← hW28.out,← hB28.out]; refine wp_region_held_drew (S:=fun w'=>(w'.cell? ⟨B4,0,none⟩=some (.slice qa qst.length qc)∧w'.cell? ⟨B4,1,none⟩=some (.slice rb qre.length rd)∧w'.cell? ⟨B4,2,none⟩=some (iv qco)∧w'.cell? ⟨B4,3,none⟩=some (.slice Rb (undo.length+«do».length) Rd)∧w'.cell? ⟨B4,4,none⟩=some (.slice Cb (undo.length+«do».length) Cd))∧w'.cell? ⟨B28,0,none⟩=some (.slice qa5 qst5.length qc5)∧w'.cell? ⟨B28,1,none⟩=some (.slice rb5 qre5.length rd5)∧w'.cell? ⟨B28,2,none⟩=some (iv qco5)∧w'.cell? ⟨B28,3,none⟩=some (.slice Rb5 (undo.length+«do».length) Rd5)∧w'.cell? ⟨B28,4,none⟩=some (.slice Cb5 (undo.length+«do».length) Cd5)) (by kernel_rfl) ?_ (fun hHeld=>?_)
               ·exact k0
               refine wTk (i:=0) (v:=?_) rfl ?hy ?_
               case hy =>
                intro w hSw
                (try dsimp only at hSw)
                go_simp
                all_goals with_reducible rfl
               try simp only [Act.put,sI,sZ,sS]
               refine wTk (i:=1) (v:=?_) rfl ?hy ?_
               case hy =>
                intro w hSw
                (try dsimp only at hSw)
                go_simp
                all_goals with_reducible rfl
               try simp only [Act.put,sI,sZ,sS]
               refine wTk (i:=2) (v:=?_) rfl ?hy ?_
               case hy =>
                intro w hSw
                (try dsimp only at hSw)
                go_simp
                all_goals with_reducible rfl
               try simp only [Act.put,sI,sZ,sS]
               refine wTk (i:=3) (v:=?_) rfl ?hy ?_
               case hy =>
                intro w hSw
                (try dsimp only at hSw)
                go_simp
                all_goals with_reducible rfl
               try simp only [Act.put,sI,sZ,sS]
               refine wTk (i:=4) (v:=?_) rfl ?hy ?_
               case hy =>
                intro w hSw
                (try dsimp only at hSw)
                go_simp
                all_goals with_reducible rfl
               try simp only [Act.put,sI,sZ,sS]
               refine wTk (i:=5) (v:=?_) rfl ?hy ?_
               case hy =>
                intro w hSw
                (try dsimp only at hSw)
                go_simp
                all_goals with_reducible rfl
               try simp only [Act.put,sI,sZ,sS]
               refine wTk (i:=6) (v:=?_) rfl ?hy ?_
               case hy =>
                intro w hSw
                (try dsimp only at hSw)
                go_simp
                all_goals with_reducible rfl
               try simp only [Act.put,sI,sZ,sS]
               refine wpAnyH_ready (rs:=[7]) (by as_aux_lemma=>kernel_rfl) (by simp) ?_; refine rdY rfl (fun K hK=>?_); go_simp
               go_at_call 13
               refine (hcw28.out _ (Below.refl _ _).drew).mono ?_; rintro e w8 ⟨ct,rfl,hct,-,hb8⟩; rcases ct with _ | ⟨c0,ct⟩
               ·exact absurd rfl (hct hcat3.out hL2n)
               have kb8:=(Below.refl _ W28).drew.trans hb8; have m0:=cells5 (hQ28.out.below kb8).blk; have n0:=cells5 (hQ5.out.below kb8).blk; replace hb8:=hid hb8; replace kb8:=hid kb8; clear hct; refine hK.out _ _ ?_ (fun hHeld2=>?_)
               ·exact ⟨m0,n0⟩
               clear hK K hHeld; have hHeld:=hHeld2; clear hHeld2
               try simp only [Act.put,sI,sZ,sS]
               refine wTk (i:=8) (v:=?_) rfl ?hy ?_
               case hy =>
                intro w hSw
                (try dsimp only at hSw)
                go_simp
                all_goals with_reducible rfl
               try simp only [Act.put,sI,sZ,sS]
               refine wTk (i:=9) (v:=?_) rfl ?hy ?_
               case hy =>
                intro w hSw
                (try dsimp only at hSw)
                go_simp
                all_goals with_reducible rfl
               try simp only [Act.put,sI,sZ,sS]
               refine wTk (i:=10) (v:=?_) rfl ?hy ?_
               case hy =>
                intro w hSw
                (try dsimp only at hSw)
                go_simp
                all_goals with_reducible rfl
               try simp only [Act.put,sI,sZ,sS]
               refine wTk (i:=11) (v:=?_) rfl ?hy ?_
               case hy =>
                intro w hSw
                (try dsimp only at hSw)
                go_simp
                all_goals with_reducible rfl
               try simp only [Act.put,sI,sZ,sS]
               refine wTk (i:=12) (v:=?_) rfl ?hy ?_
               case hy =>
                intro w hSw; obtain ⟨⟨s0,s1,s2,s3,s4⟩,v0,v1,v2,v3,v4⟩:=hSw; go_simp
                all_goals with_reducible rfl
               try simp only [Act.put,sI,sZ,sS]
               refine wTk (i:=13) (v:=?_) rfl ?hy ?_
               case hy =>
                intro w hSw
                (try dsimp only at hSw)
                go_simp
                all_goals with_reducible rfl
               try simp only [Act.put,sI,sZ,sS]
               refine wTk (i:=15) (v:=?_) rfl ?hy ?_
               case hy =>
                intro w hSw
                (try dsimp only at hSw)
                go_simp
                all_goals with_reducible rfl
               try simp only [Act.put,sI,sZ,sS]
               refine wTk (i:=16) (v:=?_) rfl ?hy ?_
               case hy =>
                intro w hSw; obtain ⟨⟨s0,s1,s2,s3,s4⟩,v0,v1,v2,v3,v4⟩:=hSw; go_simp
                all_goals with_reducible rfl
               try simp only [Act.put,sI,sZ,sS]
               refine wTk (i:=17) (v:=?_) rfl ?hy ?_
               case hy =>
                intro w hSw
                (try dsimp only at hSw)
                go_simp
                all_goals with_reducible rfl
               try simp only [Act.put,sI,sZ,sS]
               refine wpAnyH_ready (rs:=[14]) (by as_aux_lemma=>kernel_rfl) (by simp) ?_; refine rdY rfl (fun K hK=>?_); go_simp
               go_at_call 11
               refine (hw5.out _ _ _ kb8.out).mono ?_; rintro e w9 ⟨rfl,hb9⟩; have kb9:=kb8.out.trans (hb9.mono kb8.out.size); have m1:=cells5 (hQ28.out.below kb9).blk; have n1:=cells5 (hQ5.out.below kb9).blk; replace hb9:=hid hb9; replace kb9:=hid kb9; refine hK.out _ _ ?_ (fun hHeld2=>?_)
               ·exact ⟨m1,n1⟩
               clear hK K hHeld; have hHeld:=hHeld2; clear hHeld2
               try simp only [Act.put,sI,sZ,sS]
               refine wpAnyH_ready (rs:=[18]) (by as_aux_lemma=>kernel_rfl) (by simp) ?_; refine rdY rfl (fun K hK=>?_); go_simp
               go_at_call 11
               refine (hw.out _ _ _ kb9.out).mono ?_; rintro e w10 ⟨rfl,hb10⟩; have kb10:=kb9.out.trans (hb10.mono kb9.out.size); have m2:=cells5 (hQ28.out.below kb10).blk; have n2:=cells5 (hQ5.out.below kb10).blk; replace hb10:=hid hb10; replace kb10:=hid kb10; refine hK.out _ _ ?_ (fun hHeld2=>?_)
               ·exact ⟨m2,n2⟩
               clear hK K hHeld; have hHeld:=hHeld2; clear hHeld2
               try simp only [Act.put,sI,sZ,sS]
               refine wTk (i:=19) (v:=?_) rfl ?hy ?_
               case hy =>
                intro w hSw
                (try dsimp only at hSw)
                go_simp
                all_goals with_reducible rfl
               try simp only [Act.put,sI,sZ,sS]
               refine wTk (i:=20) (v:=?_) rfl ?hy ?_
               case hy =>
                intro w hSw
                (try dsimp only at hSw)
                go_simp
                all_goals with_reducible rfl
               try simp only [Act.put,sI,sZ,sS]
               refine wTk (i:=21) (v:=?_) rfl ?hy ?_
               case hy =>
                intro w hSw
                (try dsimp only at hSw)
                go_simp
                all_goals with_reducible rfl
               try simp only [Act.put,sI,sZ,sS]
               refine wpAnyH_done (by as_aux_lemma=>kernel_rfl) ?_ _
               go_wp2_with fail
               go_ret; exact ⟨rfl,b28.out.trans (kb10.out.mono b28.out.size)⟩
end Go.Proofs.YtdmgfnnpjoihfaaDoor
