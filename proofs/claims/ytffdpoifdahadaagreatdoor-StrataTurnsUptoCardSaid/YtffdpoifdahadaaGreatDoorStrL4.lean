/- strata, the law StrataTurns: the walk. -/
import Derived.Test.YtffdpoifdahadaaGreatDoorStrLp
import Derived.Test.YtffdpoifdahadaaGreatDoorStrPu
set_option linter.unusedVariables false
set_option linter.unusedSimpArgs false
namespace Go.Proofs.YtffdpoifdahadaaGreatDoor
open Go.RowKit
open Go.Lib (hid)
theorem kp_b {w w1:World} (hb:Below w.heap.size w w1) {p:Addr} {u:Value} (h:w.cell? p=some u):w1.cell? p=some u :=
 (hb.cell (p:=p) (World.block_lt_of_cell? w p h)).trans h
/-- the turned query while it is built -/
structure TM (w2:World) (tb:Nat) (S:Foot) (g:Lg) (av:Value) (l:List Rg) (v:Value) (w:World):Prop where
 blk:w.heap[tb]? = some (.cells (qcells v g.op g.nt g.rel av) 32 (0,0))
 row:OwnR 27 7 RgR (fun k=>S k∨tb < k) w l v
 ow:∀ k,v.ownBlock=some k→tb < k
 bel:Below tb w2 w
theorem TM.below {w2 w w':World} {tb:Nat} {S:Foot} {g:Lg} {av:Value} {l:List Rg} {v:Value} (h:TM w2 tb S g av l v w) (hb:Below w.heap.size w w'):TM w2 tb S g av l v w' :=
 ⟨(hb.block tb (lt_of_heap h.blk)).trans h.blk,h.row.below goodRg hb,h.ow,h.bel.trans (hb.mono (Nat.le_of_lt (lt_of_heap h.blk)))⟩
/-- a turned body while it is built -/
structure BTM (w5:World) (S:Foot) (l:List Lg) (v:Value) (w:World):Prop where
 row:OwnR 24 4 LgR (fun k=>S k∨w5.heap.size≤k) w l v
 ow:∀ k,v.ownBlock=some k→w5.heap.size≤k
 bel:Below w5.heap.size w5 w
theorem BTM.below {w5 w w':World} {S:Foot} {l:List Lg} {v:Value} (h:BTM w5 S l v w) (hb:Below w.heap.size w w'):BTM w5 S l v w' :=
 ⟨h.row.below goodLg hb,h.ow,h.bel.trans (hb.mono h.bel.size)⟩
theorem TM.push {w2 wr wy:World} {tb:Nat} {S:Foot} {g:Lg} {av:Value} {l:List Rg} {v:Value} {r:Rg} {ha:Option Addr} {hcc:Nat} {ba:Option Addr} {bc:Nat} (h:TM w2 tb S g av l v wr) (hS:∀ k,S k→k < tb) (hB:Below wr.heap.size wr wy) (h1:SlR 7 TgR (fun k=>S k∨wr.heap.size≤k) wy r.head.args (.slice ha r.head.args.length hcc)) (h2:SlR 4 LgR (fun k=>S k∨wr.heap.size≤k) wy r.body (.slice ba r.body.length bc)) (hl:l.length+1≤1048576) :
  ∃ a c w6,AppRun Tryz.prog 30 30 30 v (.slice (some ⟨wy.heap.size,0,none⟩) 1 1) (.slice a (l.length+1) c) (wy.alloc (.cells (rucells r.head.op r.head.nt r.head.rel (.slice ha r.head.args.length hcc) r.agg r.at_ (.slice ba r.body.length bc)) 27)) w6∧w6.heap[tb]? = some (.cells (qcells v g.op g.nt g.rel av) 32 (0,0))∧TM w2 tb S g av (l++[r]) (.slice a (l.length+1) c) (w6.setCell ⟨tb,0,none⟩ (.slice a (l.length+1) c)):=by
 have htl:tb < wr.heap.size:=lt_of_heap h.blk; have hby:Below wy.heap.size wy (wy.alloc (.cells (rucells r.head.op r.head.nt r.head.rel (.slice ha r.head.args.length hcc) r.agg r.at_ (.slice ba r.body.length bc)) 27)):=(Below.refl _ wy).alloc (Nat.le_refl _) _; have hk8:=heap_alloc_new' wy (.cells (rucells r.head.op r.head.nt r.head.rel (.slice ha r.head.args.length hcc) r.agg r.at_ (.slice ba r.body.length bc)) 27); obtain ⟨W8,hW8⟩:∃ W8,W8=wy.alloc (.cells (rucells r.head.op r.head.nt r.head.rel (.slice ha r.head.args.length hcc) r.agg r.at_ (.slice ba r.body.length bc)) 27):=⟨_,rfl⟩; rw [← hW8] at hby hk8 ⊢; have hB8:Below wr.heap.size wr W8:=hB.trans (hby.mono hB.size); have hs8:=hB8.size; have hrow:OwnR 27 7 RgR (fun k=>S k∨tb < k) W8 l v:=h.row.below goodRg (hB8)
 have hsl:SlR 7 RgR (fun k=>S k∨wr.heap.size≤k) W8 [r] (.slice (some ⟨wy.heap.size,0,none⟩) 1 1) :=
  SlR.of_block (E:=27) (fr:=(0,0)) (css:=[(rucells r.head.op r.head.nt r.head.rel (.slice ha r.head.args.length hcc) r.agg r.at_ (.slice ba r.body.length bc)).toList]) rfl (by intro cs hcs; simp at hcs; subst hcs; rfl) (by rw [hk8]; simp) (Or.inr hB.size) fun i x cs hx hc=>by
   rcases i with _ | i
   ·simp at hx hc; subst hx hc
    exact ⟨ha,hcc,ba,bc,rfl,h1.below goodTg hby,h2.below goodLg hby⟩
   ·simp at hx
 obtain ⟨a,c,w6,hrun,hown,hfr,hv⟩:=rgsPush hrow hsl (fun q hq=>Or.inr (by omega)) (fun q hq=>by
  rcases hq with hq | hq
  ·exact ⟨Or.inl hq,fun e=>by have:=h.ow q e; have:=hS q hq; omega⟩
  ·exact ⟨Or.inr (by omega),fun e=>by have:=h.row.lt e; omega⟩) (by simpa using hl)
 simp only [List.length_singleton] at hrun hown hv; have hblk:w6.heap[tb]? = some (.cells (qcells v g.op g.nt g.rel av) 32 (0,0)):=(hfr.block tb (by omega) (fun e=>by have:=h.ow tb e; omega)).trans ((hB8.block tb htl).trans h.blk); refine ⟨a,c,w6,hrun,hblk,⟨?_,?_,?_,?_⟩⟩
 ·have:=heap_setCell_same hblk (i:=0) (.slice a (l.length+1) c)
  simpa [qcells] using this
 ·exact hown.move goodRg fun k hk hs=>⟨hs,heap_setCell_other _ (by rcases hs with hs | hs; (have:=hS k hs; omega); omega)⟩
 ·intro k hk
  rcases hv with e | e
  ·exact h.ow k (e ▸ hk)
  ·rw [e] at hk; injection hk with hk; omega
 ·have b1:Below tb wr W8:=hB8.mono (Nat.le_of_lt htl)
  have b2:Below tb W8 w6:=hfr.to_below (by omega) (fun k hk e=>by have:=h.ow k e; omega); have b3:Below tb w6 (w6.setCell ⟨tb,0,none⟩ (.slice a (l.length+1) c)):=((Fr.refl (one tb) w6).setCell (p:=⟨tb,0,none⟩) (Or.inl rfl) _).to_below (by have:=lt_of_heap hblk; omega) (fun k hk e=>by unfold one at e; omega); exact ((h.bel.trans b1).trans b2).trans b3
theorem BTM.push {w5 w:World} {S:Foot} {l:List Lg} {v:Value} {x:Lg} {xa:Option Addr} {xc:Nat} (h:BTM w5 S l v w) (hS:∀ k,S k→k < w5.heap.size) (hx:SlR 7 TgR S w x.args (.slice xa x.args.length xc)) (hl:l.length+1≤1048576) :
  ∃ a c w6,AppRun Tryz.prog 25 25 25 v (.slice (some ⟨w.heap.size,0,none⟩) 1 1) (.slice a (l.length+1) c) (w.alloc (.cells (lcells x.op x.nt x.rel (.slice xa x.args.length xc)) 24)) w6∧BTM w5 S (l++[x]) (.slice a (l.length+1) c) w6:=by
 have hby:Below w.heap.size w (w.alloc (.cells (lcells x.op x.nt x.rel (.slice xa x.args.length xc)) 24)):=(Below.refl _ w).alloc (Nat.le_refl _) _; have hk8:=heap_alloc_new' w (.cells (lcells x.op x.nt x.rel (.slice xa x.args.length xc)) 24); obtain ⟨W8,hW8⟩:∃ W8,W8=w.alloc (.cells (lcells x.op x.nt x.rel (.slice xa x.args.length xc)) 24):=⟨_,rfl⟩; rw [← hW8] at hby hk8 ⊢; have h5:=h.bel.size; have hs8:=hby.size
 have hsl:SlR 4 LgR (fun k=>S k∨k=w.heap.size) W8 [x] (.slice (some ⟨w.heap.size,0,none⟩) 1 1) :=
  SlR.of_block (E:=24) (fr:=(0,0)) (css:=[(lcells x.op x.nt x.rel (.slice xa x.args.length xc)).toList]) rfl (by intro cs hcs; simp at hcs; subst hcs; rfl) (by rw [hk8]; simp) (Or.inr rfl) fun i y cs hy hc=>by
   rcases i with _ | i
   ·simp at hy hc; subst hy hc
    exact ⟨xa,xc,rfl,(hx.below goodTg hby).mono goodTg fun k _ hk=>Or.inl hk⟩
   ·simp at hy
 obtain ⟨a,c,w6,hrun,hown,hfr,hv⟩:=lgsPush (h.row.below goodLg hby) hsl (fun q hq=>Or.inr (by omega)) (fun q hq=>by
  rcases hq with hq | hq
  ·exact ⟨Or.inl hq,fun e=>by have:=h.ow q e; have:=hS q hq; omega⟩
  ·exact ⟨Or.inr (by omega),fun e=>by have:=h.row.lt e; omega⟩) (by simpa using hl)
 simp only [List.length_singleton] at hrun hown hv; refine ⟨a,c,w6,hrun,hown,?_,?_⟩
 ·intro k hk
  rcases hv with e | e
  ·exact h.ow k (e ▸ hk)
  ·rw [e] at hk; injection hk with hk; omega
 ·exact h.bel.trans ((hby.mono h5).trans (hfr.to_below (by omega) (fun k hk e=>by have:=h.ow k e; omega)))
theorem take_map_get {α β:Type} (f:α→β) (l:List α) {i:Nat} {x:α} (h:l[i]? = some x):(l.map f).take (i+1)=(l.map f).take i++[f x]:=by
 rw [List.take_add_one,List.getElem?_map,h]; rfl
theorem rot_at {α:Type} (d:α) (l:List α) (k:Nat) {i:Nat} {x:α} (hi:i < l.length) (hx:l[(i+k) % l.length]? = some x):(rotA d l k)[i]? = some x:=by
 unfold rotA; rw [List.getElem?_map,List.getElem?_range hi,Option.map_some,List.getD_eq_getElem?_getD,hx]; rfl
theorem rot_take {α:Type} (d:α) (l:List α) (k:Nat) {i:Nat} {x:α} (hi:i < l.length) (hx:l[(i+k) % l.length]? = some x):(rotA d l k).take (i+1)=(rotA d l k).take i++[x]:=by
 rw [List.take_add_one,rot_at d l k hi hx]; rfl
theorem turn_len (rs:List Rg) (n k:Nat):(turnF rs n k).length=rs.length:=by unfold turnF; rw [List.length_map,rot_len]
theorem turn_take (rs:List Rg) (n k:Nat) {i:Nat} {r:Rg} (hi:i < rs.length) (hx:rs[(i+n) % rs.length]? = some r):(turnF rs n k).take (i+1)=(turnF rs n k).take i++[turnR k r]:=by
 unfold turnF; exact take_map_get _ _ (rot_at _ _ _ hi hx)
set_option maxHeartbeats 40000000 in
set_option maxRecDepth 100000 in
theorem StrataTurns_walk (q:Qg) (ra:Option Addr) (rc:Nat) (aa:Option Addr) (ac:Nat) (S:Foot) (by_ lits_:Nat) (w:World) (hTab:Hid (Tab w)) (hq:QR q ra rc aa ac S w) (hM:QgM q) (hb8:by_ < 256) (hl8:lits_ < 256) :
  Calls Tryz.prog 4 #[.agg (qcells (.slice ra q.rules.length rc) q.goal.op q.goal.nt q.goal.rel (.slice aa q.goal.args.length ac)),.int .u8 by_,.int .u8 lits_] w fun e w'=>e=.returned (.bool true)∧Below w.heap.size w w':=by
 have hb0:Below w.heap.size w (w.alloc (.cells (qcells (.slice ra q.rules.length rc) q.goal.op q.goal.nt q.goal.rel (.slice aa q.goal.args.length ac)) 32)):=(Below.refl _ w).alloc (Nat.le_refl _) _; have hbn:=heap_alloc_new' w (.cells (qcells (.slice ra q.rules.length rc) q.goal.op q.goal.nt q.goal.rel (.slice aa q.goal.args.length ac)) 32); obtain ⟨W0,hW0⟩:∃ W0,W0=w.alloc (.cells (qcells (.slice ra q.rules.length rc) q.goal.op q.goal.nt q.goal.rel (.slice aa q.goal.args.length ac)) 32):=⟨_,rfl⟩; rw [← hW0] at hb0 hbn; have hwl:=lt_of_heap hbn; have hmove:=hid (fun (W:World) (hW:Below w.heap.size w W)=>hq.below hW); have hsm:=hid (small28_any W0 (((TabN.of hTab.out (Nat.le_refl w.heap.size)).below hb0).tab)); replace hW0:=hid hW0; replace hb0:=hid hb0; replace hbn:=hid hbn; replace hM:=hid hM; clear hq
 go_enter Tryz.func4,Tryz.ntmps4
 go_wp2_with fail
 rw [← hW0.out]
 with_reducible refine hsm.out.mono ?_
 rintro e w1 ⟨rfl,hb1⟩; have hB1:=hid (hb0.out.trans (hb1.mono hb0.out.size)); have hk1:=hid (below_keep hb1 hbn.out hwl); obtain ⟨v0,v1,v2,v3,v4,-⟩:=q_cells hk1.out; have hf:=hid (few28_any q ra rc aa ac S w1 (hmove.out w1 hB1.out) hM.out); clear hb1 hsm
 go_wp2_with fail
 with_reducible refine hf.out.mono ?_
 rintro e w2 ⟨hb2,b,rfl,hfew⟩; have hB2:=hid (hB1.out.trans (hb2.mono hB1.out.size)); have hk2:=hid (below_keep hb2 hk1.out (lt_of_heap hk1.out)); clear v0 v1 v2 v3 v4 hb2 hf
 cases b with
 | false =>
  go_wp2_with fail
  go_ret; exact ⟨rfl,hB2.out⟩
 | true =>
  replace hfew:=hid (hfew rfl); obtain ⟨v0,v1,v2,v3,v4,-⟩:=q_cells hk2.out; have hbt:Below w2.heap.size w2 (w2.alloc (.cells (qcells (.slice none 0 0) 0 false [] (.slice none 0 0)) 32)):=(Below.refl _ w2).alloc (Nat.le_refl _) _; have hkt:=heap_alloc_new' w2 (.cells (qcells (.slice none 0 0) 0 false [] (.slice none 0 0)) 32); obtain ⟨W3,hW3⟩:∃ W3,W3=w2.alloc (.cells (qcells (.slice none 0 0) 0 false [] (.slice none 0 0)) 32):=⟨_,rfl⟩; rw [← hW3] at hbt hkt; obtain ⟨tb,htb⟩:∃ tb,tb=w2.heap.size:=⟨_,rfl⟩; rw [← htb] at hkt; have hk3:=below_keep hbt hk2.out (lt_of_heap hk2.out); have hB3:=hid (hB2.out.trans (hbt.mono hB2.out.size))
  have htw:tb≠w.heap.size:=by have:=lt_of_heap hk2.out; omega
  have hG4:=hid (show TM w2 tb S q.goal (.slice aa q.goal.args.length ac) ((turnF q.rules by_ lits_).take 0) (.slice none 0 0) (setG W3 tb q.goal.op q.goal.nt q.goal.rel (.slice aa q.goal.args.length ac)) from ⟨setG_set hkt _ _ _ _,OwnR.nil _ _ _ _ _,(fun k hk=>by cases hk),((Fr.of_below hbt (fun _=>False)).setG (by omega) _ _ _ _).to_below (by omega) (fun _ _ h=>h)⟩); have hSt:=hid (show ∀ k,S k→k < tb from fun k hk=>by have:=(hmove.out w2 hB2.out).lo k hk; omega); have hwt:=hid (show w.heap.size≤tb from by have:=hB2.out.size; omega); have hQm:=hid (fun (W:World) (hW:Below tb w2 W)=>hmove.out W (hB2.out.trans (hW.mono hwt.out))); have hkm:=hid (fun (W:World) (hW:Below tb w2 W)=>below_keep hW hk2.out (by have:=lt_of_heap hk2.out; omega)); have hBm:=hid (fun (W:World) (hW:Below tb w2 W)=>hB2.out.trans (hW.mono hwt.out))
  replace hW3:=hid hW3; replace htb:=hid htb; clear hbt v0 v1 v2 v3 v4
  go_upto_region 5 with (fail)
  rw [← hW3.out,← htb.out]; obtain ⟨v0,v1,v2,v3,v4,-⟩:=q_cells hk3; obtain ⟨u0,u1,u2,u3,u4,uz⟩:=q_cells hkt; have z1:=uz 1; have z2:=uz 2; have z3:=uz 3; have z4:=uz 4; clear uz; have hn16:=hid hfew.out.1
  go_wp2_with fail
  go_loopg [9] q.rules.length (fun f v9 wr=>∃ (i:Nat) (a9:Option Addr) (c9:Nat),v9=iv i∧i+f=q.rules.length∧Hid (TM w2 tb S q.goal (.slice aa q.goal.args.length ac) ((turnF q.rules by_ lits_).take i) (.slice a9 i c9) wr))
  case atStart=>exact ⟨0,none,0,rfl,by omega,hG4⟩
  case round =>
   obtain ⟨i,a9,c9,rfl,hif,hT⟩:=hrel; clear hG4 v0 v1 v2 v3 v4 u0 u1 u2 u3 u4 z1 z2 z3 z4 hkt hk3 hW3; obtain ⟨w4,hw4⟩:∃ x,x=wr:=⟨_,rfl⟩; subst hw4; have htl:=hid (lt_of_heap hT.out.blk); obtain ⟨v0,v1,v2,v3,v4,-⟩:=q_cells (hkm.out w4 hT.out.bel); have hn16':=hn16.out; by_cases hlt:i < q.rules.length
   ·have q1:decide ((i:Int) < (q.rules.length:Int))=true:=decide_eq_true (by omega)
    have q3:IntKind.i64.wrap ((i:Int)+1)=((i+1:Nat):Int):=by rw [IntKind.wrap_i64]; omega
    have q4:IntKind.i64.wrap (by_:Int)=(by_:Int):=by rw [IntKind.wrap_i64]; omega
    have q5:IntKind.i64.wrap ((i:Int)+(by_:Int))=((i+by_:Nat):Int):=by rw [IntKind.wrap_i64]; omega
    obtain ⟨m,hm⟩:∃ m,m=(i+by_) % q.rules.length:=⟨_,rfl⟩
    have hml:m < q.rules.length:=by rw [hm]; exact Nat.mod_lt _ (by omega)
    have q6:((i:Int)+(by_:Int)) % (q.rules.length:Int)=(m:Int):=by rw [hm]; push_cast; rfl
    have q7:((i:Int)+(by_:Int)).tmod (q.rules.length:Int)=(m:Int):=by rw [Int.tmod_eq_emod_of_nonneg (by omega),q6]
    have q8:¬ q.rules=[]:=fun e=>by rw [e] at hlt; exact absurd hlt (by simp)
    obtain ⟨r,hr⟩:∃ r,q.rules[m]? = some r:=⟨_,List.getElem?_eq_getElem hml⟩; obtain ⟨g,o,cs,i1,-,hg,hc,hrt⟩:=(hQm.out w4 hT.out.bel).rl.at (P:=Tryz.prog) (t:=30) (by kernel_rfl) (fun _=>by kernel_rfl) hr; obtain ⟨ha,hcc,ba,bc,rfl,hA,hBd⟩:=hrt; have d0:=hc 0 _ rfl; have d1:=hc 1 _ rfl; have d2:=hc 2 _ rfl; have d3:=hc 3 _ rfl; have d4:=hc 4 _ rfl; have d5:=hc 5 _ rfl; have d6:=hc 6 _ rfl; rw [Nat.add_zero] at d0; clear hc; obtain ⟨T,hTe⟩:∃ T,T=w4.heap.size:=⟨_,rfl⟩; have hbl8:=hid (hfew.out.2.1 r (List.mem_of_getElem? hr)).1; have hb5:Below w4.heap.size w4 (w4.alloc (.cells (rucells r.head.op r.head.nt r.head.rel (.slice ha r.head.args.length hcc) r.agg r.at_ (.slice ba r.body.length bc)) 27)).drew:=((Below.refl _ w4).alloc (Nat.le_refl _) _).drew
    have hfin:=hid (show TM w2 tb S q.goal (.slice aa q.goal.args.length ac) ((turnF q.rules by_ lits_).take i) (.slice a9 i c9) (w4.alloc (.cells (rucells r.head.op r.head.nt r.head.rel (.slice ha r.head.args.length hcc) r.agg r.at_ (.slice ba r.body.length bc)) 27)).drew∧(w4.alloc (.cells (rucells r.head.op r.head.nt r.head.rel (.slice ha r.head.args.length hcc) r.agg r.at_ (.slice ba r.body.length bc)) 27)).drew.heap[T]? = some (.cells (rucells r.head.op r.head.nt r.head.rel (.slice ha r.head.args.length hcc) r.agg r.at_ (.slice ba r.body.length bc)) 27 (0,0))∧Below T w4 (w4.alloc (.cells (rucells r.head.op r.head.nt r.head.rel (.slice ha r.head.args.length hcc) r.agg r.at_ (.slice ba r.body.length bc)) 27)).drew from
     ⟨hT.out.below hb5,by rw [hTe]; exact heap_alloc_new' w4 _,by rw [hTe]; exact hb5⟩)
    have hg0:=World.block_lt_of_cell? w4 _ v0; have hA':=hid hA; have hBd':=hid hBd; have hr':=hid (show q.rules[(i+by_) % q.rules.length]? = some r from by rw [← hm]; exact hr); replace hTe:=hid hTe; replace hm:=hid hm; replace hr:=hid hr; clear hA hBd hb5
    go_upto_region 9 with (fail)
    go_cut [10] from 26 to 74 (fun v10 wy=>v10=pt T∧Hid (TM w2 tb S q.goal (.slice aa q.goal.args.length ac) ((turnF q.rules by_ lits_).take i) (.slice a9 i c9) wy)∧Hid (wy.heap[T]? = some (.cells (rucells r.head.op r.head.nt r.head.rel (.slice ha r.head.args.length hcc) r.agg r.at_ (.slice ba r.body.length bc)) 27 (0,0)))∧Hid (Below T w4 wy))
    case first =>
     go_region
     all_goals go_wp2_with fail
     all_goals go_meet
     all_goals exact ⟨by rw [hTe.out],hid hfin.out.1,hid hfin.out.2.1,hid hfin.out.2.2⟩
    case rest =>
     obtain ⟨rfl,hT5,hk5,hB5⟩:=hcut; clear hg0 hfin d0 d1 d2 d3 d4 d5 d6 i1 hg v0 v1 v2 v3 v4 q4 q5 q6 q7 q8; have hbl:=hbl8.out; obtain ⟨w5,hw5⟩:∃ x,x=wc:=⟨_,rfl⟩; subst hw5; obtain ⟨z0,z1,z2,z3,z4,z5,z6,-⟩:=ru_cells hk5.out; clear z0 z1 z2 z3 z4 z5; have hT5l:=hid (lt_of_heap hk5.out); have hS5:=hid (show ∀ k,S k→k < w5.heap.size from fun k hk=>by have:=hSt.out k hk; have:=lt_of_heap hT5.out.blk; omega); have hM0:=hid (show BTM w5 S ((rotA lit0 r.body lits_).take 0) (.slice none 0 0) w5 from ⟨OwnR.nil _ _ _ _ _,(fun k hk=>by cases hk),Below.refl _ _⟩)
     go_wp2_with fail
     go_loopg [11,12] r.body.length (fun f v11 v12 wx=>∃ (k:Nat) (a11:Option Addr) (c11:Nat),v11=.slice a11 k c11∧v12=iv k∧k+f=r.body.length∧Hid (BTM w5 S ((rotA lit0 r.body lits_).take k) (.slice a11 k c11) wx))
     case atStart=>exact ⟨0,none,0,rfl,rfl,by omega,hM0⟩
     case round =>
      obtain ⟨k,a11,c11,rfl,rfl,hkf,hM⟩:=hrel; clear hM0 z6; have hkr:=below_keep hM.out.bel hk5.out (lt_of_heap hk5.out); obtain ⟨z0,z1,z2,z3,z4,z5,z6,zf⟩:=ru_cells hkr; have hBr:=hid (hB5.out.trans (hM.out.bel.mono (Nat.le_of_lt hT5l.out))); have hkr':=hid hkr; clear hkr; by_cases hlk:k < r.body.length
      ·have q1':decide ((k:Int) < (r.body.length:Int))=true:=decide_eq_true (by omega)
       have q3':IntKind.i64.wrap ((k:Int)+1)=((k+1:Nat):Int):=by rw [IntKind.wrap_i64]; omega
       have q4':IntKind.i64.wrap (lits_:Int)=(lits_:Int):=by rw [IntKind.wrap_i64]; omega
       have q5':IntKind.i64.wrap ((k:Int)+(lits_:Int))=((k+lits_:Nat):Int):=by rw [IntKind.wrap_i64]; omega
       obtain ⟨m2,hm2⟩:∃ m,m=(k+lits_) % r.body.length:=⟨_,rfl⟩
       have hml2:m2 < r.body.length:=by rw [hm2]; exact Nat.mod_lt _ (by omega)
       have q6':((k:Int)+(lits_:Int)) % (r.body.length:Int)=(m2:Int):=by rw [hm2]; push_cast; rfl
       have q7':((k:Int)+(lits_:Int)).tmod (r.body.length:Int)=(m2:Int):=by rw [Int.tmod_eq_emod_of_nonneg (by omega),q6']
       have q8':¬ r.body=[]:=fun e=>by rw [e] at hlk; exact absurd hlk (by simp)
       obtain ⟨x,hx⟩:∃ x,r.body[m2]? = some x:=⟨_,List.getElem?_eq_getElem hml2⟩
       have hB4r:Below w4.heap.size w4 wr:=by rw [← hTe.out]; exact hBr.out
       obtain ⟨g2,o2,cs2,i2,-,hg2,hc2,hrt2⟩:=(hBd'.out.below goodLg hB4r).at (P:=Tryz.prog) (t:=25) (by kernel_rfl) (fun _=>by kernel_rfl) hx; obtain ⟨xa,xc,rfl,hX⟩:=hrt2; have e0:=hc2 0 _ rfl; have e1:=hc2 1 _ rfl; have e2:=hc2 2 _ rfl; have e3:=hc2 3 _ rfl; rw [Nat.add_zero] at e0; clear hc2; have hdr:Below wr.heap.size wr wr.drew:=(Below.refl _ wr).drew
       have hlk2:((rotA lit0 r.body lits_).take k).length=k:=by rw [List.length_take,rot_len]; omega
       obtain ⟨a2,c2,W6,hap,hM6⟩:=(hM.out.below hdr).push hS5.out (hX.below goodTg hdr) (by rw [hlk2]; omega); rw [hlk2] at hap hM6; rw [← rot_take lit0 r.body lits_ hlk (by rw [← hm2]; exact hx)] at hM6; have e0':wr.drew.cell? ⟨g2,o2,none⟩=some (iv x.op):=e0; have e1':wr.drew.cell? ⟨g2,o2+1,none⟩=some (.bool x.nt):=e1; have e2':wr.drew.cell? ⟨g2,o2+2,none⟩=some (sv x.rel):=e2; have e3':wr.drew.cell? ⟨g2,o2+3,none⟩=some (.slice xa x.args.length xc):=e3; have z6':wr.drew.cell? ⟨T,6,none⟩=some (.slice ba r.body.length bc):=z6; have hM7:=hid hM6; replace hx:=hid hx; replace hm2:=hid hm2; clear hM6 hX z0 z1 z2 z3 z4 z5 zf hB4r hdr hlk2
       go_wp2_with fail
       go_region_law (refine step_append_shut (by rfl) (.tmp 52) (.tmp 65) (by rfl) (by rfl) (by rfl) hap ?_)
       all_goals go_wp2_with fail
       all_goals go_roundg (r.body.length - (k+1))
       all_goals first | exact ⟨k+1,a2,c2,rfl,rfl,by omega,hM7⟩ | omega
      ·have q1':decide ((k:Int) < (r.body.length:Int))=false:=decide_eq_false (by omega)
       have hkl:k=r.body.length:=by omega
       subst hkl; have hfull:(rotA lit0 r.body lits_).take r.body.length=rotA lit0 r.body lits_:=List.take_of_length_le (by rw [rot_len]; omega); rw [hfull] at hM; have hrl:(turnR lits_ r).body.length=r.body.length:=rot_len _ _ _; have zf6:=zf 6; clear zf z0 z1 z2 z3 z4 z5; obtain ⟨wy,hwy⟩:∃ wy,wy=wr.setCell ⟨T,6,none⟩ (.slice a11 r.body.length c11):=⟨_,rfl⟩
       have hky:wy.heap[T]? = some (.cells (rucells r.head.op r.head.nt r.head.rel (.slice ha r.head.args.length hcc) r.agg r.at_ (.slice a11 r.body.length c11)) 27 (0,0)):=by
        rw [hwy]; have:=heap_setCell_same hkr'.out (i:=6) (.slice a11 r.body.length c11); simpa [rucells] using this
       have hoth:∀ k,k≠T→wy.heap[k]? = wr.heap[k]?:=fun k hk=>by rw [hwy]; exact heap_setCell_other _ hk
       have hBy:Below T w4 wy:=hBr.out.trans (by rw [hwy]; exact ((Fr.refl (one T) wr).setCell (p:=⟨T,6,none⟩) (Or.inl rfl) _).to_below (Nat.le_trans (Nat.le_of_lt hT5l.out) hM.out.bel.size) (fun k hk e=>by unfold one at e; omega))
       have hBy4:Below w4.heap.size w4 wy:=by rw [← hTe.out]; exact hBy
       have hTS:∀ k,S k→k≠T:=fun k hk=>by have:=hSt.out k hk; have:=htl.out; have:=hTe.out; omega
       have hA7:SlR 7 TgR (fun k=>S k∨w4.heap.size≤k) wy (turnR lits_ r).head.args (.slice ha (turnR lits_ r).head.args.length hcc):=(hA'.out.below goodTg hBy4).mono goodTg fun k _ hk=>Or.inl hk
       have hb7:SlR 4 LgR (fun k=>S k∨w4.heap.size≤k) wy (turnR lits_ r).body (.slice a11 (turnR lits_ r).body.length c11):=by
        rw [hrl]
        exact (hM.out.row.sl goodLg).move goodLg fun k hk hs=>⟨by
         rcases hs with hs | hs
         ·exact Or.inl hs
         ·right; have:=hT5l.out; have:=hTe.out; omega,hoth k (by
         rcases hs with hs | hs
         ·exact hTS k hs
         ·have:=hT5l.out; omega)⟩
       have hli:((turnF q.rules by_ lits_).take i).length=i:=by rw [List.length_take,turn_len]; omega
       obtain ⟨a7,c7,w6,hap,hk6,hT6⟩:=hT.out.push hSt.out hBy4 hA7 hb7 (by rw [hli]; omega); rw [hli,hrl] at hap; rw [hli,← turn_take q.rules by_ lits_ hlt hr'.out] at hT6; have hap2:=hid (show AppRun Tryz.prog 30 30 30 (.slice a9 i c9) (.slice (some ⟨wy.heap.size,0,none⟩) 1 1) (.slice a7 (i+1) c7) (wy.alloc (.cells (rucells r.head.op r.head.nt r.head.rel (.slice ha r.head.args.length hcc) r.agg r.at_ (.slice a11 r.body.length c11)) 27)) w6 from hap); obtain ⟨y0,y1,y2,y3,y4,y5,y6,-⟩:=ru_cells hky; obtain ⟨x0,x1,x2,x3,x4,xf⟩:=q_cells hk6; have xf0:=xf 0; have t0:wy.cell? ⟨tb,0,none⟩=some (.slice a9 i c9):=(q_cells ((hBy4.block tb htl.out).trans hT.out.blk)).1; have hT7:=hid hT6; replace hwy:=hid hwy; replace hky:=hid hky; replace hk6:=hid hk6
       clear hap hT6 xf x1 x2 x3 x4 hA7 hb7 hoth hTS hBy hBy4
       go_upto_region 16 with (fail)
       rw [← hwy.out]
       go_wp2_with (at_builtin; refine wpList_append_shut rfl (.tmp 70) (.tmp 72) rfl rfl rfl hap2.out ?_)
       go_roundg (q.rules.length - (i+1))
       case measure=>omega
       case rel=>exact ⟨i+1,a7,c7,rfl,by omega,hT7⟩
   ·have q1:decide ((i:Int) < (q.rules.length:Int))=false:=decide_eq_false (by omega)
    have hiq:i=q.rules.length:=by omega
    subst hiq; have hfull:(turnF q.rules by_ lits_).take q.rules.length=turnF q.rules by_ lits_:=List.take_of_length_le (by rw [turn_len]; omega); rw [hfull] at hT; obtain ⟨q2,hq2⟩:∃ q2:Qg,q2=⟨turnF q.rules by_ lits_,q.goal⟩:=⟨_,rfl⟩
    have hrl2:q2.rules.length=q.rules.length:=by rw [hq2]; exact turn_len _ _ _
    have hg2:q2.goal=q.goal:=by rw [hq2]
    have hsmq:=hfew.out.sm
    have hQ2:QR q2 a9 c9 aa ac (fun k=>k < w4.heap.size) w4:=by
     refine ⟨?_,?_,fun k hk=>hk⟩
     ·rw [hrl2,hq2]; exact (hT.out.row.sl goodRg).mono goodRg fun k hk _=>hk
     ·rw [hg2]; exact (hQm.out w4 hT.out.bel).go.mono goodTg fun k hk _=>hk
    have hsm2:Qsm q2:=⟨⟨fun t ht=>by
     rw [hq2] at ht; obtain ⟨r,hr,e1,-,hp⟩:=(turn_turned q.rules by_ lits_).2.of t ht; have hB:=hsmq.bd.1 r hr
     exact ⟨by rw [← e1]; exact hB.1,by rw [← hp.length_eq]; exact hB.2.1,fun x hx=>hB.2.2 x (hp.mem_iff.2 hx)⟩,by rw [hg2]; exact hsmq.bd.2⟩,by rw [hrl2]; exact hsmq.nr⟩
    have hTb:=hid (fun (W:World) (hW:Below tb w2 W)=>((TabN.of hTab.out (Nat.le_refl w.heap.size)).below (hBm.out W hW)).tab); have htc:=turns_check (ar:=arF) (g:=q.goal) (turn_turned q.rules by_ lits_); have hri2:=right_q q2 a9 c9 aa ac _ w4 hQ2.rl hQ2.go hQ2.lo (hTb.out w4 hT.out.bel) hsm2.bd; obtain ⟨b1,hb1⟩:∃ b,b=(textW q2).isSome:=⟨_,rfl⟩; obtain ⟨b2,hb2⟩:∃ b,b=(textW q).isSome:=⟨_,rfl⟩; rw [hg2,hrl2,← hb1] at hri2; replace hri2:=hid hri2; have hkt4:=hT.out.blk; have hTbel:=hid hT.out.bel; obtain ⟨u0,u1,u2,u3,u4,-⟩:=q_cells hkt4; replace hkt4:=hid hkt4; replace hQ2:=hid hQ2; replace hsm2:=hid hsm2; replace hsmq:=hid hsmq; replace htc:=hid htc; replace hb1:=hid hb1; replace hb2:=hid hb2; replace hq2:=hid hq2; replace hg2:=hid hg2; replace hrl2:=hid hrl2; clear hT hfull
    go_wp2_with fail
    with_reducible refine hri2.out.mono ?_
    rintro e w5 ⟨rfl,hb5⟩; have hk5:=hid (below_keep hb5 hkt4.out (lt_of_heap hkt4.out)); have hl4:=hid (show tb≤w4.heap.size from Nat.le_of_lt (lt_of_heap hkt4.out)); have hB5:=hid (hTbel.out.trans (hb5.mono hl4.out)); have hQ5:=hid (hQ2.out.below hb5); clear u0 u1 u2 u3 u4 v0 v1 v2 v3 v4 hri2 hb5
    cases b1 with
    | false =>
     go_wp2_with fail
     go_ret; exact ⟨rfl,hBm.out w5 hB5.out⟩
    | true =>
     have hri:=right_q q ra rc aa ac S w5 (hQm.out w5 hB5.out).rl (hQm.out w5 hB5.out).go (hQm.out w5 hB5.out).lo (hTb.out w5 hB5.out) hsmq.out.bd; rw [← hb2.out] at hri; replace hri:=hid hri; obtain ⟨v0,v1,v2,v3,v4,-⟩:=q_cells (hkm.out w5 hB5.out)
     go_wp2_with fail
     with_reducible refine hri.out.mono ?_
     rintro e w6 ⟨rfl,hb6⟩; have hk6:=hid (below_keep hb6 hk5.out (lt_of_heap hk5.out)); have hl5:=hid (show tb≤w5.heap.size from Nat.le_of_lt (lt_of_heap hk5.out)); have hB6:=hid (hB5.out.trans (hb6.mono hl5.out)); have hQ6:=hid (hQ5.out.below hb6); clear v0 v1 v2 v3 v4 hri hb6 hk5 hQ5
     cases b2 with
     | false =>
      go_wp2_with fail
      go_ret; exact ⟨rfl,hBm.out w6 hB6.out⟩
     | true =>
      have hch:=hid (check_any q ra rc aa ac S w6 (hQm.out w6 hB6.out) hsmq.out (hTb.out w6 hB6.out)); obtain ⟨v0,v1,v2,v3,v4,-⟩:=q_cells (hkm.out w6 hB6.out)
      go_wp2_with fail
      with_reducible refine hch.out.mono ?_
      rintro e w7 ⟨hb7,vL,rfl,hL⟩; rw [← hb2.out] at hL ⊢; have hk7:=hid (below_keep hb7 hk6.out (lt_of_heap hk6.out)); have hl6:=hid (show tb≤w6.heap.size from Nat.le_of_lt (lt_of_heap hk6.out)); have hB7:=hid (hB6.out.trans (hb7.mono hl6.out)); have hQ7:=hid (hQ6.out.below hb7); obtain ⟨R,hR⟩:∃ R,R=checkF arF q true:=⟨_,rfl⟩; rw [← hR] at hL ⊢; obtain ⟨X,L⟩:=R; obtain ⟨La,Lc,rfl,-⟩:=hL.slice; have hL7:=hid hL; replace hR:=hid hR; have hch2:=check_any q2 a9 c9 aa ac _ w7 hQ7.out hsm2.out (hTb.out w7 hB7.out); unfold qval at hch2; rw [hg2.out,hrl2.out] at hch2; replace hch2:=hid hch2; clear v0 v1 v2 v3 v4 hch hb7 hk6 hQ6 hL; obtain ⟨u0,u1,u2,u3,u4,-⟩:=q_cells hk7.out
      go_wp2_with fail
      with_reducible refine hch2.out.mono ?_
      rintro e w8 ⟨hb8',vL2,rfl,hL2⟩; rw [← hb1.out] at hL2 ⊢; have hk8:=hid (below_keep hb8' hk7.out (lt_of_heap hk7.out)); have hl7:=hid (show tb≤w7.heap.size from Nat.le_of_lt (lt_of_heap hk7.out)); have hB8:=hid (hB7.out.trans (hb8'.mono hl7.out)); have hQ8:=hid (hQ7.out.below hb8'); have hL8:=hid (hL7.out.below goodRowN hb8'); obtain ⟨R2,hR2⟩:∃ R,R=checkF arF q2 true:=⟨_,rfl⟩; rw [← hR2] at hL2 ⊢; obtain ⟨X2,L2⟩:=R2; obtain ⟨La2,Lc2,rfl,-⟩:=hL2.slice; have hM8:=hid hL2; have ht:=htc.out; rw [show (⟨turnF q.rules by_ lits_,q.goal⟩:Qg)=q2 from hq2.out.symm,show (⟨q.rules,q.goal⟩:Qg)=q from rfl,← hR2,← hR.out] at ht; obtain ⟨hX,hLen,hlv⟩:=ht; replace hX:X=X2:=hX; replace hLen:L.length=L2.length:=hLen; subst hX; have hcl:=check_len hR.out; have hcl2:=check_len hR2
      rw [hrl2.out] at hcl2; have hnr:=hsmq.out.nr; have hlv':=hid (fun (r:Rg) (hr:r∈q.rules)=>(show levelA q.rules L r.head.rel=levelA q2.rules L2 r.head.rel from by rw [hq2.out]; exact hlv _ (List.mem_map.2 ⟨r,hr,rfl⟩))); have hle1:=hid (fun (W:World) (hW:Below w8.heap.size w8 W) (rel:Nm)=>level28_any q ra rc aa ac S L La Lc _ rel W (hQm.out W (hB8.out.trans (hW.mono (Nat.le_of_lt (lt_of_heap hk8.out))))) hnr (hL8.out.below goodRowN hW) (by omega) (fun l hl=>by have:=hcl.2 l hl; omega))
      have hle2:=hid (fun (W:World) (hW:Below w8.heap.size w8 W) (rel:Nm)=>(show Calls Tryz.prog 15 #[.agg (qcells (.slice a9 q.rules.length c9) q.goal.op q.goal.nt q.goal.rel (.slice aa q.goal.args.length ac)),.slice La2 L2.length Lc2,sv rel] W fun e w'=>e=.returned (iv (levelA q2.rules L2 rel))∧Below W.heap.size W w' from by
       have h:=level28_any q2 a9 c9 aa ac _ L2 La2 Lc2 _ rel W (hQ8.out.below hW) (by rw [hrl2.out]; exact hnr) (hM8.out.below goodRowN hW) (by omega) (fun l hl=>by have:=hcl2.2 l hl; omega); unfold qval at h; rw [hg2.out,hrl2.out] at h
       exact h))
      rw [← hLen]; have hB0:=hid (Below.refl w8.heap.size w8); replace hR2:=hid hR2; replace hLen:=hid hLen; replace hcl:=hid hcl; replace hcl2:=hid hcl2; replace hlv:=hid hlv; clear u0 u1 u2 u3 u4 hch2 hb8' hk7 hQ7 hL2 hL7; obtain ⟨v0,v1,v2,v3,v4,-⟩:=q_cells (hkm.out w8 hB8.out)
      go_wp2_with fail
      go_loopg [17] q.rules.length (fun f v17 wr=>∃ (j:Nat),v17=iv j∧j+f=q.rules.length∧Hid (Below w8.heap.size w8 wr))
      case atStart=>exact ⟨0,rfl,by omega,hB0⟩
      case round =>
       obtain ⟨j,rfl,hjf,hBr⟩:=hrel; clear hB0 v0 v1 v2 v3 v4; have hB9:=hid (hB8.out.trans (hBr.out.mono (Nat.le_of_lt (lt_of_heap hk8.out)))); obtain ⟨v0,v1,v2,v3,v4,-⟩:=q_cells (hkm.out wr hB9.out); have hk8r:=below_keep hBr.out hk8.out (lt_of_heap hk8.out); obtain ⟨u0,u1,u2,u3,u4,-⟩:=q_cells hk8r; clear hk8r; by_cases hlj:j < q.rules.length
       ·have q1:decide ((j:Int) < (q.rules.length:Int))=true:=decide_eq_true (by omega)
        have q3:IntKind.i64.wrap ((j:Int)+1)=((j+1:Nat):Int):=by rw [IntKind.wrap_i64]; omega
        obtain ⟨r,hr⟩:∃ r,q.rules[j]? = some r:=⟨_,List.getElem?_eq_getElem hlj⟩; obtain ⟨g,o,cs,i1,-,hg,hc,hrt⟩:=(hQm.out wr hB9.out).rl.at (P:=Tryz.prog) (t:=30) (by kernel_rfl) (fun _=>by kernel_rfl) hr; obtain ⟨ha,hcc,ba,bc,rfl,-,-⟩:=hrt; have f2:=hc 2 _ rfl; obtain ⟨n1,hn1⟩:∃ n,n=levelA q.rules L r.head.rel:=⟨_,rfl⟩; have hBd:=hid (hBr.out.trans (((Below.refl _ wr).drew).mono hBr.out.size)); have hl1:=hle1.out wr.drew hBd.out r.head.rel; rw [← hn1] at hl1; replace hl1:=hid hl1
        have hl2:=hid (fun (W:World) (hW:Below w8.heap.size w8 W)=>(show Calls Tryz.prog 15 #[.agg (qcells (.slice a9 q.rules.length c9) q.goal.op q.goal.nt q.goal.rel (.slice aa q.goal.args.length ac)),.slice La2 L.length Lc2,sv r.head.rel] W fun e w'=>e=.returned (iv n1)∧Below W.heap.size W w' from by
         have h:=hle2.out W hW r.head.rel; rw [← hlv'.out r (List.mem_of_getElem? hr),← hn1,← hLen.out] at h
         exact h))
        have hne:(n1 != n1)=false:=by simp
        replace hr:=hid hr; replace hn1:=hid hn1; clear hc hg
        go_wp2_with fail
        refine wp_region_held_drew (S:=fun w'=>w'.cell? ⟨w.heap.size,0,none⟩=some (.slice ra q.rules.length rc)∧w'.cell? ⟨w.heap.size,1,none⟩=some (iv q.goal.op)∧w'.cell? ⟨w.heap.size,2,none⟩=some (.bool q.goal.nt)∧w'.cell? ⟨w.heap.size,3,none⟩=some (sv q.goal.rel)∧w'.cell? ⟨w.heap.size,4,none⟩=some (.slice aa q.goal.args.length ac)∧w'.cell? ⟨tb,0,none⟩=some (.slice a9 q.rules.length c9)∧w'.cell? ⟨tb,1,none⟩=some (iv q.goal.op)∧w'.cell? ⟨tb,2,none⟩=some (.bool q.goal.nt)∧w'.cell? ⟨tb,3,none⟩=some (sv q.goal.rel)∧w'.cell? ⟨tb,4,none⟩=some (.slice aa q.goal.args.length ac)∧w'.cell? ⟨g,o+2,none⟩=some (sv r.head.rel)) (by kernel_rfl) ?_ (fun hHeld=>?_)
        ·exact ⟨v0,v1,v2,v3,v4,u0,u1,u2,u3,u4,f2⟩
        refine wTk (i:=0) (v:=?_) rfl ?hy ?_
        case hy =>
         intro w hSw
         (try dsimp only at hSw)
         go_simp
         all_goals with_reducible rfl
        try simp only [Act.put,sI,sZ,sS]
        refine wTk (i:=1) (v:=?_) rfl ?hy ?_
        case hy =>
         intro w hSw
         (try dsimp only at hSw)
         go_simp
         all_goals with_reducible rfl
        try simp only [Act.put,sI,sZ,sS]
        refine wTk (i:=2) (v:=?_) rfl ?hy ?_
        case hy =>
         intro w hSw
         (try dsimp only at hSw)
         go_simp
         all_goals with_reducible rfl
        try simp only [Act.put,sI,sZ,sS]
        refine wTk (i:=3) (v:=?_) rfl ?hy ?_
        case hy =>
         intro w hSw
         (try dsimp only at hSw)
         go_simp
         all_goals with_reducible rfl
        try simp only [Act.put,sI,sZ,sS]
        refine wTk (i:=4) (v:=?_) rfl ?hy ?_
        case hy =>
         intro w hSw
         (try dsimp only at hSw)
         go_simp
         all_goals with_reducible rfl
        try simp only [Act.put,sI,sZ,sS]
        refine wTk (i:=5) (v:=?_) rfl ?hy ?_
        case hy =>
         intro w hSw
         (try dsimp only at hSw)
         go_simp
         all_goals with_reducible rfl
        try simp only [Act.put,sI,sZ,sS]
        refine wTk (i:=6) (v:=?_) rfl ?hy ?_
        case hy =>
         intro w hSw
         (try dsimp only at hSw)
         go_simp
         all_goals with_reducible rfl
        try simp only [Act.put,sI,sZ,sS]
        refine wTk (i:=7) (v:=?_) rfl ?hy ?_
        case hy =>
         intro w hSw
         (try dsimp only at hSw)
         go_simp
         all_goals with_reducible rfl
        try simp only [Act.put,sI,sZ,sS]
        refine wTk (i:=8) (v:=?_) rfl ?hy ?_
        case hy =>
         intro w hSw
         (try dsimp only at hSw)
         go_simp
         all_goals with_reducible rfl
        try simp only [Act.put,sI,sZ,sS]
        refine wTk (i:=10) (v:=?_) rfl ?hy ?_
        case hy =>
         intro w hSw
         (try dsimp only at hSw)
         go_simp
         all_goals with_reducible rfl
        try simp only [Act.put,sI,sZ,sS]
        refine wTk (i:=11) (v:=?_) rfl ?hy ?_
        case hy =>
         intro w hSw
         (try dsimp only at hSw)
         go_simp
         all_goals with_reducible rfl
        try simp only [Act.put,sI,sZ,sS]
        refine wTk (i:=12) (v:=?_) rfl ?hy ?_
        case hy =>
         intro w hSw
         (try dsimp only at hSw)
         go_simp
         all_goals with_reducible rfl
        try simp only [Act.put,sI,sZ,sS]
        refine wTk (i:=13) (v:=?_) rfl ?hy ?_
        case hy =>
         intro w hSw
         (try dsimp only at hSw)
         go_simp
         all_goals with_reducible rfl
        try simp only [Act.put,sI,sZ,sS]
        refine wTk (i:=14) (v:=?_) rfl ?hy ?_
        case hy =>
         intro w hSw
         (try dsimp only at hSw)
         go_simp
         all_goals with_reducible rfl
        try simp only [Act.put,sI,sZ,sS]
        refine wTk (i:=15) (v:=?_) rfl ?hy ?_
        case hy =>
         intro w hSw
         (try dsimp only at hSw)
         go_simp
         all_goals with_reducible rfl
        try simp only [Act.put,sI,sZ,sS]
        refine wTk (i:=16) (v:=?_) rfl ?hy ?_
        case hy =>
         intro w hSw
         (try dsimp only at hSw)
         go_simp
         all_goals with_reducible rfl
        try simp only [Act.put,sI,sZ,sS]
        refine wTk (i:=17) (v:=?_) rfl ?hy ?_
        case hy =>
         intro w hSw
         (try dsimp only at hSw)
         go_simp
         all_goals with_reducible rfl
        try simp only [Act.put,sI,sZ,sS]
        refine wTk (i:=18) (v:=?_) rfl ?hy ?_
        case hy =>
         intro w hSw
         (try dsimp only at hSw)
         go_simp
         all_goals with_reducible rfl
        try simp only [Act.put,sI,sZ,sS]
        refine wpAnyH_ready (rs:=[9]) (by as_aux_lemma=>kernel_rfl) (by simp) ?_; refine rdY rfl (fun K hK=>?_); go_simp
        go_at_call 15
        with_reducible refine hl1.out.mono ?_
        rintro e w9 ⟨rfl,hb9⟩; have kp:=kp_drew hb9; have hB10:=hid (hBd.out.trans (hb9.mono hBd.out.size)); replace hb9:=hid hb9; refine hK.out _ _ ?_ (fun hHeld2=>?_)
        ·exact ⟨kp _ _ v0,kp _ _ v1,kp _ _ v2,kp _ _ v3,kp _ _ v4,kp _ _ u0,kp _ _ u1,kp _ _ u2,kp _ _ u3,kp _ _ u4,kp _ _ f2⟩
        clear hK K hHeld; have hHeld:=hHeld2; clear hHeld2
        try simp only [Act.put,sI,sZ,sS]
        refine wpAnyH_ready (rs:=[19]) (by as_aux_lemma=>kernel_rfl) (by simp) ?_; refine rdY rfl (fun K hK=>?_); go_simp
        go_at_call 15
        with_reducible refine (hl2.out w9 hB10.out).mono ?_
        rintro e w10 ⟨rfl,hb10⟩; have hB11:=hid (hB10.out.trans (hb10.mono hB10.out.size)); replace hb10:=hid hb10; refine hK.out _ _ ?_ (fun hHeld2=>?_)
        ·exact ⟨kp_b hb10.out (kp _ _ v0),kp_b hb10.out (kp _ _ v1),kp_b hb10.out (kp _ _ v2),kp_b hb10.out (kp _ _ v3),kp_b hb10.out (kp _ _ v4),kp_b hb10.out (kp _ _ u0),kp_b hb10.out (kp _ _ u1),kp_b hb10.out (kp _ _ u2),kp_b hb10.out (kp _ _ u3),kp_b hb10.out (kp _ _ u4),kp_b hb10.out (kp _ _ f2)⟩
        clear hK K hHeld; have hHeld:=hHeld2; clear hHeld2
        try simp only [Act.put,sI,sZ,sS]
        refine wTk (i:=20) (v:=?_) rfl ?hy ?_
        case hy =>
         intro w hSw
         (try dsimp only at hSw)
         go_simp
         all_goals with_reducible rfl
        try simp only [Act.put,sI,sZ,sS]
        refine wpAnyH_done (by as_aux_lemma=>kernel_rfl) ?_ _
        go_wp2_with fail
        go_roundg (q.rules.length - (j+1))
        case measure=>omega
        case rel=>exact ⟨j+1,rfl,by omega,hB11⟩
       ·have q1:decide ((j:Int) < (q.rules.length:Int))=false:=decide_eq_false (by omega)
        go_wp2_with fail
        go_ret; exact ⟨rfl,hBm.out wr hB9.out⟩
end Go.Proofs.YtffdpoifdahadaaGreatDoor
