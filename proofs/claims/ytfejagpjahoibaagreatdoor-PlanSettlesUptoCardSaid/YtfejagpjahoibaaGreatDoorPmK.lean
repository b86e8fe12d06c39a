/- retroactlaw45.small, walked (2). -/
import Derived.Test.YtfejagpjahoibaaGreatDoorPmL
set_option linter.unusedVariables false
set_option linter.unusedSimpArgs false
namespace Go.Proofs.YtfejagpjahoibaaGreatDoor
open Go.RowKit
open Go.Lib (hid)
/-- where small's memory is laid -/
def smW45 (w:World):World :=
 ((((w.alloc (.cells (offCs off45).toArray 45 (0,0))).alloc (.cells (intL 1).toArray 47 (0,0))).alloc (.cells (outL u45 (w.heap.size+1)).toArray 37 (0,0))).alloc (.cells (intL 2).toArray 47 (0,0))).alloc (.cells (outL d45 (w.heap.size+1+1+1)).toArray 37 (0,0))
theorem smW45_below (w:World):Below w.heap.size w (smW45 w) :=
 ((((((Below.refl _ w).alloc (Nat.le_refl _) _).alloc (by simp) _).alloc (by simp <;> omega) _).alloc (by simp <;> omega) _).alloc (by simp <;> omega) _)
theorem alloc_at (w:World) (o:Obj) {b:Nat} {x:Obj} (h:w.heap[b]? = some x):(w.alloc o).heap[b]? = some x:=((Below.refl w.heap.size w).alloc (Nat.le_refl _) o).block b (lt_of_some h) |>.trans h
theorem alloc_nw (w:World) (o:Obj) {n:Nat} (h:w.heap.size=n):(w.alloc o).heap[n]? = some o:=by subst h; exact heap_alloc_new' w o
theorem smW45_ok (w:World):Sm45 w.heap.size (smW45 w):=by
 unfold smW45; refine ⟨?_,?_,?_,?_,?_⟩
 ·exact alloc_at _ _ (alloc_at _ _ (alloc_at _ _ (alloc_at _ _ (alloc_nw _ _ rfl))))
 ·exact alloc_at _ _ (alloc_at _ _ (alloc_at _ _ (alloc_nw _ _ (by simp))))
 ·exact alloc_at _ _ (alloc_at _ _ (alloc_nw _ _ (by simp)))
 ·exact alloc_at _ _ (alloc_nw _ _ (by simp))
 ·exact alloc_nw _ _ (by simp)
theorem out_idx0 (b:Nat) (kd:IntKind) (w:World):(Instr.indexAt 23 (.slice (some ⟨b,0,none⟩) 1 1) (.int kd 0)).run Tryz.prog w=.ok (.pointer (some ⟨b,0,none⟩)) w:=by
 have:=row_idx (P:=Tryz.prog) (t:=23) (sz:=5) (b:=b) (off:=0) (a:=some ⟨b,0,none⟩) (by kernel_rfl) (fun _=>by kernel_rfl) rfl 1 1 0 (by decide) kd w; simpa using this
set_option maxHeartbeats 40000000 in
set_option maxRecDepth 100000 in
theorem small_any (w:World) (ht:Hid (Tabs w)):Calls Tryz.prog 4 #[] w fun e w'=>e=.returned (.bool true)∧Below w.heap.size w w':=by
 obtain ⟨W0,hW0⟩:∃ W,W=smW45 w:=⟨_,rfl⟩; have b0:=smW45_below w; have h0:=smW45_ok w; rw [← hW0] at b0 h0; have t0:=ht.out.below b0; obtain ⟨R1,hR1⟩:∃ r,r=listN 2 (gN x45).rows:=⟨_,rfl⟩; obtain ⟨C1,hC1⟩:∃ r,r=listN 2 (gN x45).cols:=⟨_,rfl⟩; have hm1:=makeN (clock:=5) (turn:=0) (pin45 (by decide) (fun o ho=>List.mem_singleton.1 ho) h0.l (by decide) (fun o ho=>List.mem_singleton.1 ho) h0.u (by decide) (fun o ho=>List.mem_singleton.1 ho) h0.d (by decide) (fun s hs=>by cases hs) (SlR.nil 1 StrR _ W0 0) t0) (by decide) (fun o ho=>by rw [List.mem_singleton.1 ho]; exact intB 2 (by decide) (by decide)) prep45 plan45 (n1:=1) (n2:=0) (n3:=2) rfl rfl rfl hR1 hC1; replace b0:=hid b0; replace h0:=hid h0; replace t0:=hid t0; replace hm1:=hid hm1; clear ht
 go_enter Tryz.func4,Tryz.ntmps4
 go_upto_region 4 with (fail)
 change Code.wp _ _ _ _ (smW45 w); rw [← hW0]; replace hW0:=hid hW0
 go_wp2_with fail
 refine hm1.out.mono ?_; rintro e w1 ⟨sa1,sc1,ra1,rc1,Ra1,Rc1,Ca1,Cc1,rfl,hb1,hp1⟩; have a1:Below w1.heap.size w1 (w1.alloc (.cells #[.slice sa1 1 sc1,.slice ra1 0 rc1,iv 1,.slice Ra1 2 Rc1,.slice Ca1 2 Cc1] 31 (0,0))):=(Below.refl _ w1).alloc (Nat.le_refl _) _
 go_upto_region 5 with (fail)
 obtain ⟨B1,hB1⟩:∃ B,B=w1.heap.size:=⟨_,rfl⟩; obtain ⟨W1,hW1⟩:∃ W,W=w1.alloc (.cells #[.slice sa1 1 sc1,.slice ra1 0 rc1,iv 1,.slice Ra1 2 Rc1,.slice Ca1 2 Cc1] 31 (0,0)):=⟨_,rfl⟩; rw [← hW1] at hp1 a1; rw [← hB1] at hp1; rw [← hW1,← hB1]; have k1:Below W0.heap.size W0 W1:=hb1.trans (a1.mono hb1.size); have b1:=hid (b0.out.trans (k1.mono b0.out.size)); have h1:=h0.out.below k1; have t1:=t0.out.below k1; replace hp1:=hid hp1; have hk1:=hid (key_any 0 4 [97] [98] W1 (hid t1) (by decide) (by decide) (by decide)); replace h1:=hid h1; replace t1:=hid t1; replace hB1:=hid hB1; replace hW1:=hid hW1; clear hm1 h0 t0 b0 hb1 a1 k1 hW0
 go_wp2_with fail
 refine hk1.out.mono ?_; rintro e w2 ⟨rfl,hb2⟩; obtain ⟨K,hK⟩:∃ K,K=keyF 0 4 [97] [98]:=⟨_,rfl⟩; rw [← hK]; have a2:Below w2.heap.size w2 (w2.alloc (.cells #[sv K] 9 (0,0))):=(Below.refl _ w2).alloc (Nat.le_refl _) _; have rK:=heap_alloc_new' w2 (.cells #[sv K] 9 (0,0)); obtain ⟨W2,hW2⟩:∃ W,W=w2.alloc (.cells #[sv K] 9 (0,0)):=⟨_,rfl⟩; obtain ⟨B2,hB2⟩:∃ B,B=w2.heap.size:=⟨_,rfl⟩; rw [← hW2] at a2 rK; rw [← hB2] at rK; have k2:Below W1.heap.size W1 W2:=hb2.trans (a2.mono hb2.size); have b2:=hid (b1.out.trans (k2.mono b1.out.size)); have h2:=h1.out.below k2; have t2:=t1.out.below k2; have hp12:=hid (hp1.out.below k2)
 have hrf:SlR 1 StrR (fun _=>True) W2 [K] (.slice (some ⟨B2,0,none⟩) 1 1) :=
  SlR.of_block (css:=[[sv K]]) rfl (fun cs hc=>by rw [List.mem_singleton.1 hc]; rfl) (by simpa using rK) trivial (fun i x cs hx hc=>by
   match i,hx,hc with
   | 0,hx,hc=>simp at hx hc; subst hx hc; rfl
   | i+1,hx,_=>simp at hx)
 obtain ⟨R2,hR2⟩:∃ r,r=listN 2 (gN xq45).rows:=⟨_,rfl⟩; obtain ⟨C2,hC2⟩:∃ r,r=listN 2 (gN xq45).cols:=⟨_,rfl⟩; have hm2:=makeN (clock:=5) (turn:=0) (pin45 (by decide) (fun o ho=>List.mem_singleton.1 ho) h2.l (by decide) (fun o ho=>List.mem_singleton.1 ho) h2.u (by decide) (fun o ho=>List.mem_singleton.1 ho) h2.d (Nat.le_refl _) (fun s hs=>by rw [List.mem_singleton.1 hs,hK,keyF_len]; decide) hrf t2) (by decide) (fun o ho=>by rw [List.mem_singleton.1 ho]; exact intB 2 (by decide) (by decide)) prep45 (by rw [hK]; exact planq45) (n1:=2) (n2:=0) (n3:=2) (rows:=R2) (cols:=C2) rfl rfl rfl (by rw [hK]; exact hR2) (by rw [hK]; exact hC2); replace hm2:=hid hm2; replace h2:=hid h2; replace t2:=hid t2; replace hW2:=hid hW2; replace hB2:=hid hB2; replace hK:=hid hK; replace hR1:=hid hR1; replace hC1:=hid hC1
 replace hR2:=hid hR2; replace hC2:=hid hC2; clear hk1 hb2 a2 rK k2 hrf h1 t1 hp1 b1
 go_wp2_with fail
 rw [← hW2.out,← hB2.out]; refine hm2.out.mono ?_; rintro e w3 ⟨sa2,sc2,ra2,rc2,Ra2,Rc2,Ca2,Cc2,rfl,hb3,hp3⟩; have a3:Below w3.heap.size w3 (w3.alloc (.cells #[.slice sa2 2 sc2,.slice ra2 0 rc2,iv 3,.slice Ra2 2 Rc2,.slice Ca2 2 Cc2] 31 (0,0))):=(Below.refl _ w3).alloc (Nat.le_refl _) _
 go_upto_region 6 with (fail)
 obtain ⟨B3,hB3⟩:∃ B,B=w3.heap.size:=⟨_,rfl⟩; obtain ⟨W3,hW3⟩:∃ W,W=w3.alloc (.cells #[.slice sa2 2 sc2,.slice ra2 0 rc2,iv 3,.slice Ra2 2 Rc2,.slice Ca2 2 Cc2] 31 (0,0)):=⟨_,rfl⟩; rw [← hW3] at hp3 a3; rw [← hB3] at hp3; rw [← hW3,← hB3]; have k3:Below W2.heap.size W2 W3:=hb3.trans (a3.mono hb3.size); have b3:=hid (b2.out.trans (k3.mono b2.out.size)); have h3:=h2.out.below k3; have t3:=t2.out.below k3; have hp13:=hid (hp12.out.below k3); replace hp3:=hid hp3; obtain ⟨R3,hR3⟩:∃ r,r=listN 2 (gN xr45).rows:=⟨_,rfl⟩; obtain ⟨C3,hC3⟩:∃ r,r=listN 2 (gN xr45).cols:=⟨_,rfl⟩
 have hm3:=makeN (clock:=5) (turn:=0) (pin45 (by decide) (fun o ho=>by cases ho) (SlR.nil 6 OffR _ W3 0) (by decide) (fun o ho=>List.mem_singleton.1 ho) h3.u (by decide) (fun o ho=>List.mem_singleton.1 ho) h3.d (by decide) (fun s hs=>by cases hs) (SlR.nil 1 StrR _ W3 0) t3) (by decide) (fun o ho=>by rw [List.mem_singleton.1 ho]; exact intB 2 (by decide) (by decide)) prepn45 planr45 (n1:=0) (n2:=2) (n3:=2) rfl rfl rfl hR3 hC3; replace hm3:=hid hm3; replace h3:=hid h3; replace t3:=hid t3; replace hW3:=hid hW3; replace hB3:=hid hB3; replace hR3:=hid hR3; replace hC3:=hid hC3; clear hm2 hb3 a3 k3 h2 t2 b2 hp12
 go_wp2_with fail
 refine hm3.out.mono ?_; rintro e w4 ⟨sa3,sc3,ra3,rc3,Ra3,Rc3,Ca3,Cc3,rfl,hb4,hp4⟩; have a4:Below w4.heap.size w4 (w4.alloc (.cells #[.slice sa3 0 sc3,.slice ra3 2 rc3,iv 0,.slice Ra3 2 Rc3,.slice Ca3 2 Cc3] 31 (0,0))):=(Below.refl _ w4).alloc (Nat.le_refl _) _
 go_upto_region 7 with (fail)
 obtain ⟨B4,hB4⟩:∃ B,B=w4.heap.size:=⟨_,rfl⟩; obtain ⟨W4,hW4⟩:∃ W,W=w4.alloc (.cells #[.slice sa3 0 sc3,.slice ra3 2 rc3,iv 0,.slice Ra3 2 Rc3,.slice Ca3 2 Cc3] 31 (0,0)):=⟨_,rfl⟩; rw [← hW4] at hp4 a4; rw [← hB4] at hp4; rw [← hW4,← hB4]; have k4:Below W3.heap.size W3 W4:=hb4.trans (a4.mono hb4.size); have b4:=hid (b3.out.trans (k4.mono b3.out.size)); have h4:=h3.out.below k4; have t4:=t3.out.below k4; have hp14:=hid (hp13.out.below k4); have hp34:=hid (hp3.out.below k4); replace hp4:=hid hp4; replace h4:=hid h4; replace t4:=hid t4; replace hW4:=hid hW4; replace hB4:=hid hB4; clear hm3 hb4 a4 k4 h3 t3 b3 hp13 hp3; obtain ⟨y0,y1,y2,y3,y4⟩:=cells5 (a0:=sv [97]) (a1:=sv [112,97,121]) (a2:=.slice (some ⟨w.heap.size+1,0,none⟩) 1 1) (a3:=.bool false) (a4:=iv 0) h4.out.h2
 have ix:=fun kd W=>out_idx0 (w.heap.size+1+1) kd W
 obtain ⟨v5,w5,hap,hsl5,hb5⟩:=dup45 h4.out 23; replace hsl5:=hid hsl5; replace hb5:=hid hb5; replace hap:=hid hap; have h5:=h4.out.below hb5.out; have t5:=t4.out.below hb5.out; have hm5:=hid (makeE (clock:=5) (turn:=0) (pin45 (by decide) (fun o ho=>List.mem_singleton.1 ho) h5.l (by decide) (fun o ho=>by simp at ho; exact ho) hsl5.out (by decide) (fun o ho=>List.mem_singleton.1 ho) h5.d (by decide) (fun s hs=>by cases hs) (SlR.nil 1 StrR _ w5 0) t5) (by decide) (fun o ho=>by rw [List.mem_singleton.1 ho]; exact intB 2 (by decide) (by decide)) prepb45 (by decide)); have b5:=hid (b4.out.trans (hb5.out.mono b4.out.size)); have hp15:=hid (hp14.out.below hb5.out); have hp35:=hid (hp34.out.below hb5.out); have hp45:=hid (hp4.out.below hb5.out); replace h5:=hid h5; replace t5:=hid t5
 go_wp2_with (first | (at_builtin; refine wpList_append_shut rfl (.tmp 52) (.tmp 56) rfl rfl rfl hap.out ?_))
 refine hm5.out.mono ?_; rintro e w6 ⟨rfl,hb6⟩; have a6:Below w6.heap.size w6 (w6.alloc (.cells #[.slice none 0 0,.slice none 0 0,iv 0,.slice none 0 0,.slice none 0 0] 31 (0,0))):=(Below.refl _ w6).alloc (Nat.le_refl _) _; clear hm5 y0 y1 y2 y3 y4 ix hap hsl5 hb5 h4 t4 b4 hp14 hp34 hp4
 go_upto_region 8 with (fail)
 obtain ⟨W6,hW6⟩:∃ W,W=w6.alloc (.cells #[.slice none 0 0,.slice none 0 0,iv 0,.slice none 0 0,.slice none 0 0] 31 (0,0)):=⟨_,rfl⟩; obtain ⟨B6,hB6⟩:∃ B,B=w6.heap.size:=⟨_,rfl⟩; rw [← hW6] at a6; rw [← hW6,← hB6]; have k6:Below w5.heap.size w5 W6:=hb6.trans (a6.mono hb6.size); have rI:=heap_alloc_new' W6 (.cells #[iv (-1)] 3 (0,0)); have a7:Below W6.heap.size W6 (W6.alloc (.cells #[iv (-1)] 3 (0,0))):=(Below.refl _ W6).alloc (Nat.le_refl _) _; obtain ⟨W7,hW7⟩:∃ W,W=W6.alloc (.cells #[iv (-1)] 3 (0,0)):=⟨_,rfl⟩; obtain ⟨B7,hB7⟩:∃ B,B=W6.heap.size:=⟨_,rfl⟩; rw [← hW7] at rI a7; rw [← hB7] at rI; have k7:Below w5.heap.size w5 W7:=k6.trans (a7.mono k6.size); have h7:=h5.out.below k7; have t7:=t5.out.below k7
 have b7:=hid (b5.out.trans (k7.mono b5.out.size)); have hp17:=hid (hp15.out.below k7); have hp37:=hid (hp35.out.below k7); have hp47:=hid (hp45.out.below k7)
 have hpk:SlR 1 IntR (fun _=>True) W7 [-1] (.slice (some ⟨B7,0,none⟩) 1 1) :=
  SlR.of_block (css:=[[iv (-1)]]) rfl (fun cs hc=>by rw [List.mem_singleton.1 hc]; rfl) (by simpa using rI) trivial (fun i x cs hx hc=>by
   match i,hx,hc with
   | 0,hx,hc=>simp at hx hc; subst hx hc; rfl
   | i+1,hx,_=>simp at hx)
 have hwt:=weightT_any (fun _=>True) L45 [u45] [d45] 5 0 [] _ _ _ _ W7 (pin45 (by decide) (fun o ho=>List.mem_singleton.1 ho) h7.l (by decide) (fun o ho=>List.mem_singleton.1 ho) h7.u (by decide) (fun o ho=>List.mem_singleton.1 ho) h7.d (by decide) (fun s hs=>by cases hs) (SlR.nil 1 StrR _ W7 0) t7) [-1] _ _ hpk (by decide) (fun j hj=>by rw [List.mem_singleton.1 hj]; exact ⟨by decide,by decide⟩); rw [weight45] at hwt
 dsimp only at hwt
 replace hwt:=hid hwt; replace h7:=hid h7; replace t7:=hid t7; replace hW6:=hid hW6; replace hB6:=hid hB6; replace hW7:=hid hW7; replace hB7:=hid hB7; clear hb6 a6 k6 rI a7 k7 hpk h5 t5 b5 hp15 hp35 hp45
 go_wp2_with fail
 rw [← hW7.out,← hB7.out]; refine hwt.out.mono ?_; rintro e w8 ⟨rfl,hb8⟩; have h8:=hid (h7.out.below hb8); have t8:=hid (t7.out.below hb8); have b8:=hid (b7.out.trans (hb8.mono b7.out.size)); have hp1:=hp17.out.below hb8; have hp3:=hp37.out.below hb8; have hp4:=hp47.out.below hb8; clear hwt hb8 h7 t7 b7 hp17 hp37 hp47; obtain ⟨x0,x1,x2,x3,x4⟩:=cells5 hp1.blk; obtain ⟨y0,y1,y2,y3,y4⟩:=cells5 hp3.blk; obtain ⟨z0,z1,z2,z3,z4⟩:=cells5 hp4.blk; obtain ⟨g1,o1,cs1,ix1,-,-,hc1,hr1⟩:=hp1.s.at (i:=0) (P:=Tryz.prog) (t:=28) (by kernel_rfl) (fun _=>by kernel_rfl) rfl; replace ix1:∀ (kd:IntKind) (W:World),(Instr.indexAt 28 (.slice sa1 1 sc1) (.int kd 0)).run Tryz.prog W=.ok (.pointer (some ⟨g1,o1,none⟩)) W:=ix1; obtain ⟨a5,k5,rfl,v5'⟩:=hr1
 replace v5':ValsR (fun _=>True) w8 [intV 2] (.slice a5 1 k5):=v5'; have c1:=hc1 1 _ rfl; have c2:=hc1 2 _ rfl; have c3:=hc1 3 _ rfl; have c5:=hc1 5 _ rfl; replace c1:w8.cell? ⟨g1,o1+1,none⟩=some (iv 4):=c1; replace c2:w8.cell? ⟨g1,o1+2,none⟩=some (sv [97]):=c2; replace c3:w8.cell? ⟨g1,o1+3,none⟩=some (sv [98]):=c3; replace c5:w8.cell? ⟨g1,o1+5,none⟩=some (.slice a5 1 k5):=c5; obtain ⟨g2,o2,cs2,ix2,-,-,hc2,hr2⟩:=v5'.at (i:=0) (P:=Tryz.prog) (t:=35) (by kernel_rfl) (fun _=>by kernel_rfl) rfl; replace ix2:∀ (kd:IntKind) (W:World),(Instr.indexAt 35 (.slice a5 1 k5) (.int kd 0)).run Tryz.prog W=.ok (.pointer (some ⟨g2,o2,none⟩)) W:=ix2; obtain ⟨a6,k6,rfl,-⟩:=valR_open hr2; have d0:=hc2 0 _ rfl; have d1:=hc2 1 _ rfl; have d2:=hc2 2 _ rfl
 have d3:=hc2 3 _ rfl; have d4:=hc2 4 _ rfl; have d5:=hc2 5 _ rfl; rw [Nat.add_zero] at d0; replace d0:w8.cell? ⟨g2,o2,none⟩=some (iv 3):=d0; replace d1:w8.cell? ⟨g2,o2+1,none⟩=some (sv []):=d1; replace d2:w8.cell? ⟨g2,o2+2,none⟩=some (iv 2):=d2; replace d3:w8.cell? ⟨g2,o2+3,none⟩=some (iv 0):=d3; replace d4:w8.cell? ⟨g2,o2+4,none⟩=some (sv []):=d4; replace d5:w8.cell? ⟨g2,o2+5,none⟩=some (.slice a6 0 k6):=d5; have hsh:=hid (showI_any 2 (by decide) (by decide) a6 k6 w8 (hid t8.out.t)); clear hc1 hc2 hr2 v5'; replace hp1:=hid hp1; replace hp3:=hid hp3; replace hp4:=hid hp4
 go_wp2_with fail
 refine hsh.out.mono ?_; rintro e w9 ⟨rfl,hb9⟩; rw [show Lib.itoa 2=[50] from by decide +kernel]; have h9:=hid (h8.out.below hb9); have t9:=hid (t8.out.below hb9); have b9:=hid (b8.out.trans (hb9.mono b8.out.size)); have hq1:=hp1.out.below hb9; have hq3:=hp3.out.below hb9; have hq4:=hp4.out.below hb9; clear hsh hb9 h8 t8 b8 hp1 hp3 hp4 x0 x1 x2 x3 x4 y0 y1 y2 y3 y4 z0 z1 z2 z3 z4 ix1 ix2 c1 c2 c3 c5 d0 d1 d2 d3 d4 d5; obtain ⟨x0,x1,x2,x3,x4⟩:=cells5 hq1.blk; obtain ⟨y0,y1,y2,y3,y4⟩:=cells5 hq3.blk; obtain ⟨z0,z1,z2,z3,z4⟩:=cells5 hq4.blk; obtain ⟨g1,o1,cs1,ix1,-,-,hc1,hr1⟩:=hq3.s.at (i:=0) (P:=Tryz.prog) (t:=28) (by kernel_rfl) (fun _=>by kernel_rfl) rfl
 replace ix1:∀ (kd:IntKind) (W:World),(Instr.indexAt 28 (.slice sa2 2 sc2) (.int kd 0)).run Tryz.prog W=.ok (.pointer (some ⟨g1,o1,none⟩)) W:=ix1; obtain ⟨a5,k5,rfl,-⟩:=hr1; have c1:=hc1 1 _ rfl; replace c1:w9.cell? ⟨g1,o1+1,none⟩=some (iv 2):=c1; obtain ⟨g2,o2,cs2,ix2,-,-,hc2,hr2⟩:=hq3.s.at (i:=1) (P:=Tryz.prog) (t:=28) (by kernel_rfl) (fun _=>by kernel_rfl) rfl; replace ix2:∀ (kd:IntKind) (W:World),(Instr.indexAt 28 (.slice sa2 2 sc2) (.int kd 1)).run Tryz.prog W=.ok (.pointer (some ⟨g2,o2,none⟩)) W:=ix2; obtain ⟨a6,k6,rfl,-⟩:=hr2; have c2:=hc2 1 _ rfl; replace c2:w9.cell? ⟨g2,o2+1,none⟩=some (iv 1):=c2
 obtain ⟨g3,o3,cs3,ix3,-,-,hc3,hr3⟩:=hq4.r.at (i:=0) (P:=Tryz.prog) (t:=24) (by kernel_rfl) (fun _=>by kernel_rfl) rfl; replace ix3:∀ (kd:IntKind) (W:World),(Instr.indexAt 24 (.slice ra3 2 rc3) (.int kd 0)).run Tryz.prog W=.ok (.pointer (some ⟨g3,o3,none⟩)) W:=ix3; have e3:cs3=[sv [97]]:=hr3; subst e3; have c3:=hc3 0 _ rfl; rw [Nat.add_zero] at c3; replace c3:w9.cell? ⟨g3,o3,none⟩=some (sv [97]):=c3; obtain ⟨g4,o4,cs4,ix4,-,-,hc4,hr4⟩:=hq4.r.at (i:=1) (P:=Tryz.prog) (t:=24) (by kernel_rfl) (fun _=>by kernel_rfl) rfl; replace ix4:∀ (kd:IntKind) (W:World),(Instr.indexAt 24 (.slice ra3 2 rc3) (.int kd 1)).run Tryz.prog W=.ok (.pointer (some ⟨g4,o4,none⟩)) W:=ix4; have e4:cs4=[sv [98]]:=hr4; subst e4; have c4:=hc4 0 _ rfl; rw [Nat.add_zero] at c4
 replace c4:w9.cell? ⟨g4,o4,none⟩=some (sv [98]):=c4; replace hq1:=hid hq1; replace hq3:=hid hq3; replace hq4:=hid hq4; clear hc1 hc2 hc3 hc4 hr3 hr4
 go_upto_region 15 with (fail)
 have rB:=heap_alloc_new' w9 (.cells #[.slice sa1 1 sc1,.slice ra1 0 rc1,iv 1,.slice Ra1 2 Rc1,.slice Ca1 2 Cc1] 31 (0,0)); have aB:Below w9.heap.size w9 (w9.alloc (.cells #[.slice sa1 1 sc1,.slice ra1 0 rc1,iv 1,.slice Ra1 2 Rc1,.slice Ca1 2 Cc1] 31 (0,0))):=(Below.refl _ w9).alloc (Nat.le_refl _) _; obtain ⟨V9,hV9⟩:∃ W,W=w9.alloc (.cells #[.slice sa1 1 sc1,.slice ra1 0 rc1,iv 1,.slice Ra1 2 Rc1,.slice Ca1 2 Cc1] 31 (0,0)):=⟨_,rfl⟩; obtain ⟨B9,hB9⟩:∃ B,B=w9.heap.size:=⟨_,rfl⟩; rw [← hV9] at rB aB; rw [← hB9] at rB; rw [← hV9,← hB9]; have rS:=heap_setCell_same rB (i:=2) (iv 2); have aS:Below w9.heap.size w9 (V9.setCell ⟨B9,2,none⟩ (iv 2)):=below_set aB (by omega) _; obtain ⟨W10,hW10⟩:∃ W,W=V9.setCell ⟨B9,2,none⟩ (iv 2):=⟨_,rfl⟩; rw [← hW10] at rS aS
 have u2:=(cell_of (i:=2) rB).trans rfl
 have u3:=fun i=>free_of (i:=i) rB
 have hk1:=hq1.out.below aS; have hk3:=hq3.out.below aS; have h10:=h9.out.below aS; have t10:=t9.out.below aS; have hkb:PlnM B9 [cmdF 0 4 u45 d45] [] 2 R1 C1 (.slice sa1 1 sc1) (.slice ra1 0 rc1) (.slice Ra1 2 Rc1) (.slice Ca1 2 Cc1) W10:=⟨by simpa using rS,hk1.s,hk1.r,hk1.R,hk1.C⟩; have b10:=hid (b9.out.trans (aS.mono b9.out.size))
 have hpin:∀ W,Below W10.heap.size W10 W→PIn (fun _=>True) L45 [u45] [d45] [] (.slice (some ⟨w.heap.size,0,none⟩) 1 1) (.slice (some ⟨w.heap.size+1+1,0,none⟩) 1 1) (.slice (some ⟨w.heap.size+1+1+1+1,0,none⟩) 1 1) (.slice none 0 0) W:=fun W hW=>by
  have hh:=h10.below hW; exact pin45 (by decide) (fun o ho=>List.mem_singleton.1 ho) hh.l (by decide) (fun o ho=>List.mem_singleton.1 ho) hh.u (by decide) (fun o ho=>List.mem_singleton.1 ho) hh.d (by decide) (fun s hs=>by cases hs) (SlR.nil 1 StrR _ W 0) (t10.below hW)
 have hdv:∀ o∈[d45],ValsB o.args:=fun o ho=>by rw [List.mem_singleton.1 ho]; exact intB 2 (by decide) (by decide)
 have cv1:∀ c∈[cmdF 0 4 u45 d45],ValsB c.args:=fun c hc=>by rw [List.mem_singleton.1 hc]; exact cmd_vals _ _ _ _ (intB 2 (by decide) (by decide))
 have cv2:∀ c∈[cmdF 0 2 u45 out0,cmdF 0 1 out0 d45],ValsB c.args:=fun c hc=>by
  simp only [List.mem_cons,List.not_mem_nil,or_false] at hc; rcases hc with rfl | rfl
  ·exact cmd_vals _ _ _ _ valsB_nil
  ·exact cmd_vals _ _ _ _ (intB 2 (by decide) (by decide))
 have hY1:=hid (fun W (hW:Below W10.heap.size W10 W)=>checkY (clock:=5) (turn:=0) (hpin W hW) (by decide) hdv (hk1.below hW) (by decide) (by decide) cv1 (b:=true) ⟨fun _=>by rw [hR1.out,hC1.out]; exact made_checked prep45 (by decide) plan45,fun _=>rfl⟩); have hY2:=hid (fun W (hW:Below W10.heap.size W10 W)=>checkY (clock:=5) (turn:=0) (hpin W hW) (by decide) hdv (hk3.below hW) (by decide) (by decide) cv2 (b:=false) ⟨fun h=>(by cases h),fun h=>absurd h (checkq45 _ _)⟩); have hY3:=hid (fun W (hW:Below W10.heap.size W10 W)=>checkY (clock:=5) (turn:=0) (hpin W hW) (by decide) hdv (hkb.below hW) (by decide) (by decide) cv1 (b:=false) ⟨fun h=>(by cases h),fun h=>absurd h (checkb45 _ _)⟩); clear x0 x1 x2 x3 x4 y0 y1 y2 y3 y4 z0 z1 z2 z3 z4 ix1 ix2 ix3 ix4 c1 c2 c3 c4; obtain ⟨x0,x1,x2,x3,x4⟩:=cells5 hk1.blk
 obtain ⟨y0,y1,y2,y3,y4⟩:=cells5 hk3.blk; obtain ⟨z0,z1,z2,z3,z4⟩:=cells5 hkb.blk; have l1:=lt_of_heap hk1.blk; have l3:=lt_of_heap hk3.blk; have lb:=lt_of_heap hkb.blk; replace hk1:=hid hk1; replace hk3:=hid hk3; replace hkb:=hid hkb; replace hpin:=hid hpin; replace rB:=hid rB; replace aB:=hid aB; replace rS:=hid rS; replace aS:=hid aS; replace hV9:=hid hV9; replace hB9:=hid hB9; replace hW10:=hid hW10; replace h10:=hid h10; replace t10:=hid t10; replace cv1:=hid cv1; replace cv2:=hid cv2; replace hdv:=hid hdv; clear hq1 hq3 hq4 h9 t9 b9
 go_upto_region 16 with (fail)
 rw [← hW10.out]; clear u2 u3
 go_wp2_with fail
 refine (hY1.out W10 (Below.refl _ _)).mono ?_; rintro e w11 ⟨rfl,hb11⟩; obtain ⟨y0,y1,y2,y3,y4⟩:=cells5 (hk3.out.below hb11).blk; have m2:=(hkb.out.below hb11); have hb11':=hid hb11; replace m2:=hid m2; clear hb11 x0 x1 x2 x3 x4 z0 z1 z2 z3 z4
 go_wp2_with fail
 refine (hY2.out w11 hb11'.out).mono ?_; rintro e w12 ⟨rfl,hb12⟩; obtain ⟨z0,z1,z2,z3,z4⟩:=cells5 (m2.out.below hb12).blk; have hb12':=hid (hb11'.out.trans (hb12.mono hb11'.out.size)); clear hb12 y0 y1 y2 y3 y4
 go_wp2_with fail
 refine (hY3.out w12 hb12'.out).mono ?_; rintro e w13 ⟨rfl,hb13⟩; have hfin:=hid (b10.out.trans ((hb12'.out.trans (hb13.mono hb12'.out.size)).mono b10.out.size)); clear hb13 z0 z1 z2 z3 z4
 go_wp2_with fail
 go_ret; exact ⟨rfl,hfin.out⟩
end Go.Proofs.YtfejagpjahoibaaGreatDoor
