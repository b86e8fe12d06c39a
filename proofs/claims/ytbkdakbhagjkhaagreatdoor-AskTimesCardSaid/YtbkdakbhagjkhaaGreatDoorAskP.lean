/- ask: never. -/
import Derived.Test.YtbkdakbhagjkhaaGreatDoorAskPa
set_option linter.unusedVariables false
set_option linter.unusedSimpArgs false
namespace Go.Proofs.YtbkdakbhagjkhaaGreatDoor
open Go.RowKit
open Go.Lib (hid itoa)
def neverA (ts : List Tw) : Option Lt × PSt → Option (List Lt × List Ru) × PSt
 | (none,s)=>(none,s)
 | (some l,s)=>neverE ts l (sideP ts s)
theorem never_eq (ts : List Tw) (st : PSt) : neverP ts st = neverA ts (atomP ts st):=by
 unfold neverP; generalize atomP ts st = r; obtain ⟨o,s⟩:=r; cases o <;> rfl
set_option maxHeartbeats 8000000 in
set_option maxRecDepth 100000 in
theorem never_any (pb : Nat) (K : PK) (st : PSt) (w : World) (h : PM pb K st w) (hT : TabN pb w) (hN : NamesOk K) (hv : st.vars + 4 * (K.toks.length + 1) ≤ 4611686018427387904) (hv2 : st.rels + 4 * (K.toks.length + 1) ≤ 4611686018427387904) :
  Calls Tryz.prog 60 #[pt pb] w (PAux pb K w (neverP K.ts st)):=by
 obtain ⟨R,hR⟩ : ∃ R,R = neverP K.ts st:=⟨_,rfl⟩; rw [← hR]; rw [never_eq] at hR; replace hR:=hid hR; have hK0:=hid (Kp.start h); have hpl:=h.lt
 have htl : K.ts.length = K.toks.length:=by unfold PK.ts; rw [List.length_map]
 replace hN:=hid hN; replace hT:=hid hT; replace htl:=hid htl; have hat:=hid (atom_x pb K (st) w hK0.out.pm); have hkA1:=atomP_keep K.ts (st); have hokA1:=atomP_ok K.ts (fun i=>(hK0.out.pm.tok_ok i).2.2) (st); obtain ⟨ra1,hra1⟩ : ∃ ra,ra = atomP K.ts (st):=⟨_,rfl⟩; rw [← hra1] at hat hkA1 hokA1; replace hR:=hR.out; rw [← hra1] at hR; replace hR:=hid hR; replace hra1:=hid hra1; obtain ⟨ol1,s1⟩:=ra1; replace hkA1:=hid (show Keep (st) s1 from hkA1); replace hokA1:=hid (show ∀ l,ol1 = some l → (∀ t ∈ l.args,t.var.length ≤ 1048576) ∧ l.args.length + (st).nx < s1.nx from hokA1); obtain ⟨z1,hz1⟩ : ∃ z,ol1.isSome = z:=⟨_,rfl⟩
 replace hat:=hid (show Calls Tryz.prog 37 #[pt pb] w fun e w'=>∃ (op : Int) (nt : Bool) (rel : List UInt8) (a : Option Addr) (n c : Nat),e = .returned (.tuple #[.agg (lcells op nt rel (.slice a n c)),.bool z1]) ∧ (∀ l,ol1 = some l → op = l.op ∧ nt = l.nt ∧ rel = l.rel ∧ n = l.args.length ∧ OwnR 44 7 FlR (from_ (w).heap.size) w' l.args (.slice a l.args.length c)) ∧ PM pb K s1 w' ∧ Fr (one pb) w w' from by rw [← hz1]; exact hat.out); replace hz1:=hid hz1
 go_enter Tryz.func60,Tryz.ntmps60
 go_wp2_with fail
 with_reducible refine hat.out.mono ?_
 rintro e w1 ⟨op1,nt1,rel1,a1,n1,c1,rfl,hl1,hM1,hf1⟩; have hK1:=hid ((hK0.out.call hM1 hf1).alloc (.cells (lcells op1 nt1 rel1 (.slice a1 n1 c1)) 28)); have hT1:=hid ((hT.out.fr hf1).below ((Below.refl _ w1).alloc (Nat.le_refl _) (.cells (lcells op1 nt1 rel1 (.slice a1 n1 c1)) 28))); have hsz1:=hid hf1.size; clear hM1 hf1 hat; replace hl1:=hid hl1; clear hT h
 cases ol1 with
 | none =>
  have hz' : false = z1:=hz1.out; subst hz'; replace hR:=hid (show R = (none,s1) from hR.out)
  go_wp2_with fail
  refine bodyPost_ret (results_tmp3 Tryz.results60 _ _ _) rfl ⟨by rw [hR.out]; exact hK1.out.pm,hK1.out.fr,?_⟩; rw [hR.out]; rfl
 | some l =>
  have hz' : true = z1:=hz1.out; subst hz'; obtain ⟨rfl,rfl,rfl,rfl,hO⟩:=hl1.out l rfl; have hO1:=hid (hO.below goodFl ((Below.refl _ w1).alloc (Nat.le_refl _) (.cells (lcells l.op l.nt l.rel (.slice a1 l.args.length c1)) 28))); clear hO hl1; replace hR:=hid (show R = neverE K.ts l (sideP K.ts s1) from hR.out); have hsd:=hid (side_x pb K (s1) _ hK1.out.pm); have hkS2:=sideP_keep K.ts (s1); obtain ⟨rs2,hrs2⟩ : ∃ rs,rs = sideP K.ts (s1):=⟨_,rfl⟩; rw [← hrs2] at hsd hkS2; replace hR:=hR.out; rw [← hrs2] at hR; replace hR:=hid hR; replace hrs2:=hid hrs2; obtain ⟨os2,s2⟩:=rs2; replace hkS2:=hid (show Keep (s1) s2 from hkS2); obtain ⟨z2,hz2⟩ : ∃ z,os2.isSome = z:=⟨_,rfl⟩
  replace hsd:=hid (show Calls Tryz.prog 74 #[pt pb] _ fun e w'=>∃ (b : Bool) (x : Tm),e = .returned (.tuple #[.bool b,.agg (fcells x),.bool z2]) ∧ (∀ y,os2 = some y → y = (b,x)) ∧ PM pb K s2 w' ∧ Fr (one pb) _ w' from by rw [← hz2]; exact hsd.out); replace hz2:=hid hz2
  go_wp2_with fail
  with_reducible refine hsd.out.mono ?_
  rintro e w2 ⟨b,x,rfl,hy2,hM2,hf2⟩; have hK2:=hid ((hK1.out.call hM2 hf2).alloc (.cells (fcells x) 44)); have hT2:=hid ((hT1.out.fr hf2).below ((Below.refl _ w2).alloc (Nat.le_refl _) (.cells (fcells x) 44))); have hsz2:=hid hf2.size; replace hO1:=hid ((hO1.out.fr goodFl hf2 (fun q hq e=>by unfold one at e; unfold from_ at hq; omega)).below goodFl ((Below.refl _ w2).alloc (Nat.le_refl _) (.cells (fcells x) 44))); clear hM2 hf2 hsd; replace hy2:=hid hy2
  cases os2 with
  | none =>
   have hz' : false = z2:=hz2.out; subst hz'; replace hR:=hid (show R = (none,s2) from hR.out)
   go_wp2_with fail
   refine bodyPost_ret (results_tmp3 Tryz.results60 _ _ _) rfl ⟨by rw [hR.out]; exact hK2.out.pm,hK2.out.fr,?_⟩; rw [hR.out]; rfl
  | some y =>
   have hz' : true = z2:=hz2.out; subst hz'; have hyb:=hy2.out y rfl; subst hyb; replace hR:=hid (show R = (some (neverF (newVarP K.ts s2).1 (newVarP K.ts (newVarP K.ts s2).2).1 (newRelP K.ts (newVarP K.ts (newVarP K.ts s2).2).2).1 l b x),(newRelP K.ts (newVarP K.ts (newVarP K.ts s2).2).2).2) from hR.out); have hnv:=hid (newVar_any pb K (s2) _ hK2.out.pm hT2.out hN.out (by rw [hkS2.out.vars,hkA1.out.vars]; omega)); have hnvb3:=newVarP_vars K.ts (s2); obtain ⟨rv3,hrv3⟩ : ∃ rv,rv = newVarP K.ts (s2):=⟨_,rfl⟩; rw [← hrv3] at hnv hnvb3; replace hR:=hR.out; rw [← hrv3] at hR; replace hR:=hid hR; replace hrv3:=hid hrv3; obtain ⟨t3,s3⟩:=rv3; replace hnvb3:=hid (show s3.vars ≤ (s2).vars + (K.ts.length + 1) ∧ s3.rels = (s2).rels ∧ s3.nx = (s2).nx from hnvb3)
   replace hR:=hid (show R = (some (neverF t3 (newVarP K.ts s3).1 (newRelP K.ts (newVarP K.ts s3).2).1 l b x),(newRelP K.ts (newVarP K.ts s3).2).2) from hR.out)
   go_wp2_with fail
   with_reducible refine hnv.out.mono ?_
   rintro e w3 ⟨rfl,hM3,hf3⟩; have hK3:=hid ((hK2.out.call hM3 hf3).alloc (.cells (fcells t3) 44)); have hT3:=hid ((hT2.out.fr hf3).below ((Below.refl _ w3).alloc (Nat.le_refl _) (.cells (fcells t3) 44))); have hsz3:=hid hf3.size; replace hO1:=hid ((hO1.out.fr goodFl hf3 (fun q hq e=>by unfold one at e; unfold from_ at hq; omega)).below goodFl ((Below.refl _ w3).alloc (Nat.le_refl _) (.cells (fcells t3) 44))); clear hM3 hf3 hnv; have hnv:=hid (newVar_any pb K (s3) _ hK3.out.pm hT3.out hN.out (by have h1:=hnvb3.out.1; have h2:=htl.out; rw [hkS2.out.vars,hkA1.out.vars] at h1; omega)); have hnvb4:=newVarP_vars K.ts (s3); obtain ⟨rv4,hrv4⟩ : ∃ rv,rv = newVarP K.ts (s3):=⟨_,rfl⟩; rw [← hrv4] at hnv hnvb4; replace hR:=hR.out; rw [← hrv4] at hR; replace hR:=hid hR; replace hrv4:=hid hrv4
   obtain ⟨t4,s4⟩:=rv4; replace hnvb4:=hid (show s4.vars ≤ (s3).vars + (K.ts.length + 1) ∧ s4.rels = (s3).rels ∧ s4.nx = (s3).nx from hnvb4); replace hR:=hid (show R = (some (neverF t3 t4 (newRelP K.ts s4).1 l b x),(newRelP K.ts s4).2) from hR.out)
   go_wp2_with fail
   with_reducible refine hnv.out.mono ?_
   rintro e w4 ⟨rfl,hM4,hf4⟩; have hK4:=hid ((hK3.out.call hM4 hf4).alloc (.cells (fcells t4) 44)); have hT4:=hid ((hT3.out.fr hf4).below ((Below.refl _ w4).alloc (Nat.le_refl _) (.cells (fcells t4) 44))); have hsz4:=hid hf4.size; replace hO1:=hid ((hO1.out.fr goodFl hf4 (fun q hq e=>by unfold one at e; unfold from_ at hq; omega)).below goodFl ((Below.refl _ w4).alloc (Nat.le_refl _) (.cells (fcells t4) 44))); clear hM4 hf4 hnv; have hnr:=hid (newRel_any pb K (s4) _ hK4.out.pm hT4.out hN.out (by rw [hnvb4.out.2.1,hnvb3.out.2.1,hkS2.out.rels,hkA1.out.rels]; omega)); have hnrl:=freshRel_len K (s4) (by rw [hnvb4.out.2.1,hnvb3.out.2.1,hkS2.out.rels,hkA1.out.rels]; omega); obtain ⟨rv5,hrv5⟩ : ∃ rv,rv = newRelP K.ts (s4):=⟨_,rfl⟩; rw [← hrv5] at hnr hnrl; replace hR:=hR.out; rw [← hrv5] at hR; replace hR:=hid hR
   replace hrv5:=hid hrv5; obtain ⟨rl,s5⟩:=rv5; replace hR:=hid (show R = (some (neverF t3 t4 rl l b x),s5) from hR.out)
   go_wp2_with fail
   with_reducible refine hnr.out.mono ?_
   rintro e w5 ⟨rfl,hM5,hf5⟩; have hK5:=hid (hK4.out.call hM5 hf5); have hsz5:=hid hf5.size; replace hO1:=hid (hO1.out.fr goodFl hf5 (fun q hq e=>by unfold one at e; unfold from_ at hq; omega)); clear hM5 hf5 hnr; replace hnrl:=hid (show rl.length ≤ 1048576 from hnrl); have hb6 : Below w5.heap.size w5 (w5.alloc (.cells (tmRow [x]).toArray 44)):=(Below.refl _ w5).alloc (Nat.le_refl _) _; have hvar:=hid (hokA1.out l rfl).1
   have hal : l.args.length + 1 ≤ 1048576:=by have h1:=(hokA1.out l rfl).2; have h2:=hK1.out.pm.nx; have h3:=hK1.out.pm.len; omega
   obtain ⟨L,hL⟩ : ∃ L,L = withF rl l [x]:=⟨_,rfl⟩; have hwc:=hid (show Calls Tryz.prog 79 #[sv rl,.agg (lcells l.op l.nt l.rel (.slice a1 l.args.length c1)),.slice (some ⟨w5.heap.size,0,none⟩) 1 1] (w5.alloc (.cells (fcells x) 44)) (PL1 (w5.alloc (.cells (fcells x) 44)) L) from hL ▸ with_any rl l [x] _ _ _ (.slice (some ⟨w5.heap.size,0,none⟩) 1 1) _ ((hO1.out.below goodFl hb6).sl goodFl) ((own_tms (l:=[x]) (S:=fun _=>True) (heap_alloc_new' w5 (.cells (tmRow [x]).toArray 44)) (by show 1 ≤ maxLen; decide) trivial).sl goodFl) (by show 1 + _ ≤ _; omega) hvar.out); have rA5:=hK5.out.nth (i:=2) (b:=w2.heap.size) (o:=.cells (fcells x) 44 (0,0)) rfl
   have rL5:=hK5.out.nth (i:=3) (b:=w1.heap.size) (o:=.cells (lcells l.op l.nt l.rel (.slice a1 l.args.length c1)) 28 (0,0)) rfl; obtain ⟨v0,v1,v2,v3,v4,v5,v6,vz⟩:=tm_cells (rA5); clear vz; obtain ⟨u0,u1,u2,u3,uz⟩:=lt_cells (rL5); clear uz; replace hb6:=hid hb6; replace hL:=hid hL
   go_wp2_with fail
   with_reducible refine hwc.out.mono ?_
   intro e w6 hP; obtain ⟨aw,cw,rfl,hQw,hbw⟩:=PL1.open hP; clear hP hwc; have hb7:=(hb6.out.trans (hbw.mono hb6.out.size)); have hK6:=hid ((hK5.out.below hb7).alloc (.cells (lcells L.op true L.rel (.slice aw L.args.length cw)) 28)); have hO6:=hid ((hO1.out.below goodFl hb7).below goodFl ((Below.refl _ w6).alloc (Nat.le_refl _) (.cells (lcells L.op true L.rel (.slice aw L.args.length cw)) 28))); have hQ6:=hid (hQw.below goodFl ((Below.refl _ w6).alloc (Nat.le_refl _) (.cells (lcells L.op true L.rel (.slice aw L.args.length cw)) 28))); have hsz6:=hid (show w5.heap.size < w6.heap.size from Nat.lt_of_lt_of_le (by simp) hbw.size); clear hbw hb7 hQw hb6 v0 v1 v2 v3 v4 v5 v6 u0 u1 u2 u3
   go_upto_region 12 with (fail)
   generalize hW6 : w6.alloc (.cells (lcells L.op true L.rel (.slice aw L.args.length cw)) 28) = W6 at *; have hw6:=hid (show W6.heap.size = w6.heap.size + 1 from by rw [← hW6]; simp); clear hW6
   obtain ⟨NR0,hNR0⟩ : ∃ NR0 : World → Nat → RuD → Value → Value → Prop,NR0 = fun wx RB x hv bv=>NR W6 RB x hv bv wx ∧ x.ru = ⟨withF rl l [t3],0,0,[happensF t3,timedF t4 l,besideF b t4 t3]⟩:=⟨_,rfl⟩
   replace hNR0:=hid hNR0
   go_cut [13] (fun p wx=>∃ RB x hv bv,p = pt RB ∧ Hid (NR0 wx RB x hv bv))
   case first =>
    have hS0:=hid (RS.start W6); have rX:=hK6.out.nth (i:=1) (b:=w4.heap.size) (o:=.cells (fcells t4) 44 (0,0)) rfl; have rY:=hK6.out.nth (i:=2) (b:=w3.heap.size) (o:=.cells (fcells t3) 44 (0,0)) rfl; have rL:=hK6.out.nth (i:=4) (b:=w1.heap.size) (o:=.cells (lcells l.op l.nt l.rel (.slice a1 l.args.length c1)) 28 (0,0)) rfl; have hO6d:=hid (hO6.out.below goodFl ((Below.refl _ W6).drew)); clear hO6; have hO6:=hO6d; clear hO6d
    have hal1 : [t3].length + l.args.length ≤ 1048576:=by show 1 + _ ≤ _; omega
    have hal2 : l.args.length ≤ 1048575:=by omega
    have hS:=hS0; clear hS0; refine wp_region_held_drew (S:=fun w'=>Below W6.heap.size W6 w') (by kernel_rfl) ?_ (fun hHeld=>?_)
    ·exact (Below.refl _ W6).drew
    generalize W6.drew = wd at *; refine wTk (i:=0) (v:=?_) rfl ?hy ?_
    case hy =>
     intro w hSw
     skip
     go_simp
     all_goals with_reducible rfl
    try simp only [Act.put,sI,sZ,sS]
    refine wTk (i:=1) (v:=?_) rfl ?hy ?_
    case hy =>
     intro w hSw; obtain ⟨v0,v1,v2,v3,-⟩:=lt_cells (below_keep hSw rL (lt_of_heap rL)); go_simp
     all_goals with_reducible rfl
    try simp only [Act.put,sI,sZ,sS]
    refine wTk (i:=2) (v:=?_) rfl ?hy ?_
    case hy =>
     intro w hSw; obtain ⟨v0,v1,v2,v3,v4,v5,v6,-⟩:=tm_cells (below_keep hSw rY (lt_of_heap rY)); go_simp
     all_goals with_reducible rfl
    try simp only [Act.put,sI,sZ,sS]
    refine wTk (i:=5) (v:=?_) rfl ?hy ?_
    case hy =>
     intro w hSw; obtain ⟨v0,v1,v2,v3,v4,v5,v6,-⟩:=tm_cells (below_keep hSw rY (lt_of_heap rY)); go_simp
     all_goals with_reducible rfl
    try simp only [Act.put,sI,sZ,sS]
    refine wTk (i:=7) (v:=?_) rfl ?hy ?_
    case hy =>
     intro w hSw; obtain ⟨v0,v1,v2,v3,v4,v5,v6,-⟩:=tm_cells (below_keep hSw rX (lt_of_heap rX)); go_simp
     all_goals with_reducible rfl
    try simp only [Act.put,sI,sZ,sS]
    refine wTk (i:=8) (v:=?_) rfl ?hy ?_
    case hy =>
     intro w hSw; obtain ⟨v0,v1,v2,v3,-⟩:=lt_cells (below_keep hSw rL (lt_of_heap rL)); go_simp
     all_goals with_reducible rfl
    try simp only [Act.put,sI,sZ,sS]
    refine wTk (i:=10) (v:=?_) rfl ?hy ?_
    case hy =>
     intro w hSw
     skip
     go_simp
     all_goals with_reducible rfl
    try simp only [Act.put,sI,sZ,sS]
    refine wTk (i:=11) (v:=?_) rfl ?hy ?_
    case hy =>
     intro w hSw; obtain ⟨v0,v1,v2,v3,v4,v5,v6,-⟩:=tm_cells (below_keep hSw rX (lt_of_heap rX)); go_simp
     all_goals with_reducible rfl
    try simp only [Act.put,sI,sZ,sS]
    refine wTk (i:=12) (v:=?_) rfl ?hy ?_
    case hy =>
     intro w hSw; obtain ⟨v0,v1,v2,v3,v4,v5,v6,-⟩:=tm_cells (below_keep hSw rY (lt_of_heap rY)); go_simp
     all_goals with_reducible rfl
    try simp only [Act.put,sI,sZ,sS]
    clear rX rY rL; refine wpAnyH_ready (rs:=[3,16]) (by as_aux_lemma=>kernel_rfl) (by simp) ?_; refine rdC rfl (fun K hK=>?_) (rdC rfl (fun K hK=>?_) AllReadyH.nil)
    ·go_simp
     have hbz : Below wd.heap.size wd (wd.alloc (.cells #[sv t3.var,iv t3.val.kind,sv t3.val.t,iv t3.val.n,iv t3.val.m,sv t3.val.s,.slice none 0 0] 44)):=(Below.refl _ _).alloc (Nat.le_refl _) _; have hS':=hid (hS.out.grow hbz); clear hS; have hS:=hS'; clear hS'; have hO6':=hid (hO6.out.below goodFl hbz); clear hO6; have hO6:=hO6'; clear hO6'; have hTV:=hid (show OwnR 44 7 FlR (fun _=>True) (wd.alloc (.cells #[sv t3.var,iv t3.val.kind,sv t3.val.t,iv t3.val.n,iv t3.val.m,sv t3.val.s,.slice none 0 0] 44)) [t3] (.slice (some ⟨wd.heap.size,0,none⟩) 1 1) from own_tms (l:=[t3]) (heap_alloc_new' wd _) (by show 1 ≤ maxLen; decide) trivial); clear hbz; generalize wd.alloc (.cells #[sv t3.var,iv t3.val.kind,sv t3.val.t,iv t3.val.n,iv t3.val.m,sv t3.val.s,.slice none 0 0] 44) = u1 at *
     refine hK.out _ _ ?_ (fun hHeld2=>?_)
     ·exact hS.out.below
     clear hK K; clear hHeld; have hHeld:=hHeld2; clear hHeld2
     try simp only [Act.put,sI,sZ,sS]
     refine wpAnyH_ready (rs:=[4,16]) (by as_aux_lemma=>kernel_rfl) (by simp) ?_; refine rdC rfl (fun K hK=>?_) (rdC rfl (fun K hK=>?_) AllReadyH.nil)
     ·go_simp
      go_at_call 79
      with_reducible refine (with_any rl l [t3] _ _ _ (.slice (some ⟨wd.heap.size,0,none⟩) 1 1) _ (hO6.out.sl goodFl) (hTV.out.sl goodFl) hal1 hvar.out).mono ?_
      intro e u2 hP; obtain ⟨ya1,yc1,rfl,hQ,hbq⟩:=PL1.open hP; clear hP; have hS':=hid (hS.out.push hbq hQ); clear hS; have hS:=hS'; clear hS'; clear hTV; have hO6':=hid (hO6.out.below goodFl hbq); clear hO6; have hO6:=hO6'; clear hO6'; clear hbq hQ; refine hK.out _ _ ?_ (fun hHeld2=>?_)
      ·exact hS.out.below
      clear hK K; clear hHeld; have hHeld:=hHeld2; clear hHeld2
      try simp only [Act.put,sI,sZ,sS]
      refine wpAnyH_ready (rs:=[6,16]) (by as_aux_lemma=>kernel_rfl) (by simp) ?_; refine rdC rfl (fun K hK=>?_) (rdC rfl (fun K hK=>?_) AllReadyH.nil)
      ·go_simp
       go_at_call 80
       with_reducible refine (happens_f t3 _).mono ?_
       intro e u3 hP; obtain ⟨ya2,yc2,rfl,hQ,hbq⟩:=PL1.open hP; clear hP; have hS':=hid (hS.out.push hbq hQ); clear hS; have hS:=hS'; clear hS'; have hO6':=hid (hO6.out.below goodFl hbq); clear hO6; have hO6:=hO6'; clear hO6'; clear hbq hQ; refine hK.out _ _ ?_ (fun hHeld2=>?_)
       ·exact hS.out.below
       clear hK K; clear hHeld; have hHeld:=hHeld2; clear hHeld2
       try simp only [Act.put,sI,sZ,sS]
       refine wpAnyH_ready (rs:=[9,16]) (by as_aux_lemma=>kernel_rfl) (by simp) ?_; refine rdC rfl (fun K hK=>?_) (rdC rfl (fun K hK=>?_) AllReadyH.nil)
       ·go_simp
        go_at_call 76
        with_reducible refine (timed_any t4 l _ _ _ (hO6.out.sl goodFl) hal2).mono ?_
        intro e u4 hP; obtain ⟨ya3,yc3,rfl,hQ,hbq⟩:=PL1.open hP; clear hP; have hS':=hid (hS.out.push hbq hQ); clear hS; have hS:=hS'; clear hS'; have hO6':=hid (hO6.out.below goodFl hbq); clear hO6; have hO6:=hO6'; clear hO6'; clear hbq hQ; refine hK.out _ _ ?_ (fun hHeld2=>?_)
        ·exact hS.out.below
        clear hK K; clear hHeld; have hHeld:=hHeld2; clear hHeld2
        try simp only [Act.put,sI,sZ,sS]
        refine wpAnyH_ready (rs:=[13,16]) (by as_aux_lemma=>kernel_rfl) (by simp) ?_; refine rdC rfl (fun K hK=>?_) (rdC rfl (fun K hK=>?_) AllReadyH.nil)
        ·go_simp
         go_at_call 77
         with_reducible refine (beside_any b t4 t3 _).mono ?_
         intro e u5 hP; obtain ⟨ya4,yc4,rfl,hQ,hbq⟩:=PL1.open hP; clear hP; have hS':=hid (hS.out.push hbq hQ); clear hS; have hS:=hS'; clear hS'; have hO6':=hid (hO6.out.below goodFl hbq); clear hO6; have hO6:=hO6'; clear hO6'; clear hbq hQ; refine hK.out _ _ ?_ (fun hHeld2=>?_)
         ·exact hS.out.below
         clear hK K; clear hHeld; have hHeld:=hHeld2; clear hHeld2
         try simp only [Act.put,sI,sZ,sS]
         refine wpAnyH_ready (rs:=[14,16]) (by as_aux_lemma=>kernel_rfl) (by simp) ?_; refine rdC rfl (fun K hK=>?_) (rdC rfl (fun K hK=>?_) AllReadyH.nil)
         ·go_simp
          have hS':=hid (show RS2 W6 none (withF rl l [t3]) (.slice ya1 (withF rl l [t3]).args.length yc1) _ (.slice (some ⟨u5.heap.size,0,none⟩) 3 3) (u5.alloc (.cells #[iv (happensF t3).op,.bool (happensF t3).nt,sv (happensF t3).rel,.slice ya2 (happensF t3).args.length yc2,iv (timedF t4 l).op,.bool (timedF t4 l).nt,sv (timedF t4 l).rel,.slice ya3 (timedF t4 l).args.length yc3,iv (besideF b t4 t3).op,.bool (besideF b t4 t3).nt,sv (besideF b t4 t3).rel,.slice ya4 (besideF b t4 t3).args.length yc4] 28)) from RS.build (ps:=[(happensF t3,.slice ya2 (happensF t3).args.length yc2),(timedF t4 l,.slice ya3 (timedF t4 l).args.length yc3),(besideF b t4 t3,.slice ya4 (besideF b t4 t3).args.length yc4)]) hS.out (by show 3 ≤ maxLen; decide)); clear hS; have hS:=hS'; clear hS'; clear hO6
          generalize u5.alloc (.cells #[iv (happensF t3).op,.bool (happensF t3).nt,sv (happensF t3).rel,.slice ya2 (happensF t3).args.length yc2,iv (timedF t4 l).op,.bool (timedF t4 l).nt,sv (timedF t4 l).rel,.slice ya3 (timedF t4 l).args.length yc3,iv (besideF b t4 t3).op,.bool (besideF b t4 t3).nt,sv (besideF b t4 t3).rel,.slice ya4 (besideF b t4 t3).args.length yc4] 28) = u6 at *; refine hK.out _ _ ?_ (fun hHeld2=>?_)
          ·exact hS.out.below
          clear hK K; clear hHeld; have hHeld:=hHeld2; clear hHeld2
          try simp only [Act.put,sI,sZ,sS]
          refine wTk (i:=15) (v:=?_) rfl ?hy ?_
          case hy =>
           intro w hSw
           skip
           go_simp
           all_goals with_reducible rfl
          try simp only [Act.put,sI,sZ,sS]
          refine wpAnyH_ready (rs:=[16]) (by as_aux_lemma=>kernel_rfl) (by simp) ?_; refine rdY rfl (fun K hK=>?_); go_simp; have hbz : Below u6.heap.size u6 (u6.alloc (.cells #[.int .i64 0,.bool false,.string ⟨#[]⟩,.slice none 0 0,.int .i64 0,.int .i64 0,.slice none 0 0] 38)):=(Below.refl _ _).alloc (Nat.le_refl _) _; have hS':=hid (show RS2 _ (some u6.heap.size) _ _ _ _ (u6.alloc (.cells #[.int .i64 0,.bool false,.string ⟨#[]⟩,.slice none 0 0,.int .i64 0,.int .i64 0,.slice none 0 0] 38)) from hS.out.newRule); clear hS; have hS:=hS'; clear hS'; clear hbz; generalize u6.alloc (.cells #[.int .i64 0,.bool false,.string ⟨#[]⟩,.slice none 0 0,.int .i64 0,.int .i64 0,.slice none 0 0] 38) = u7 at *; refine hK.out _ _ ?_ (fun hHeld2=>?_)
          ·exact hS.out.below
          clear hK K; clear hHeld; have hHeld:=hHeld2; clear hHeld2
          try simp only [Act.put,sI,sZ,sS]
          have hge:=(hS.out.zr _ rfl).1; have hzr:=(hS.out.zr _ rfl).2; refine wpAnyH_ready (rs:=[17]) (by as_aux_lemma=>kernel_rfl) (by simp) ?_; refine rdY rfl (fun K hK=>?_); rw [if_pos (by rfl)]; refine wp_store_row 38 (.tmp 13) (.tmp 56) rfl u6.heap.size (rucells (withF rl l [t3]).op (withF rl l [t3]).nt (withF rl l [t3]).rel (.slice ya1 (withF rl l [t3]).args.length yc1) 0 0 (.slice (some ⟨u5.heap.size,0,none⟩) 3 3)) (by rfl) (by rfl) _ _ hzr (by kernel_rfl) (by rfl) (by simp [Value.oneCell']) ?_; refine hK.out _ _ ?_ (fun hHeld2=>?_)
          ·exact below_setRow' hHeld hge _
          clear hK K; clear hHeld; have hHeld:=hHeld2; clear hHeld2
          try simp only [Act.put,sI,sZ,sS]
          refine wpAnyH_done (by as_aux_lemma=>kernel_rfl) ?_ _
          go_wp2_with fail
          go_meet
          case rel=>exact ⟨_,_,_,_,rfl,hid (by rw [hNR0.out]; exact ⟨hS.out.store,rfl⟩)⟩
         ·go_simp
          have hbz : Below u5.heap.size u5 (u5.alloc (.cells #[.int .i64 0,.bool false,.string ⟨#[]⟩,.slice none 0 0,.int .i64 0,.int .i64 0,.slice none 0 0] 38)):=(Below.refl _ _).alloc (Nat.le_refl _) _; have hS':=hid (show RS _ (some u5.heap.size) _ (u5.alloc (.cells #[.int .i64 0,.bool false,.string ⟨#[]⟩,.slice none 0 0,.int .i64 0,.int .i64 0,.slice none 0 0] 38)) from hS.out.newRule); clear hS; have hS:=hS'; clear hS'; have hO6':=hid (hO6.out.below goodFl hbz); clear hO6; have hO6:=hO6'; clear hO6'; clear hbz; generalize u5.alloc (.cells #[.int .i64 0,.bool false,.string ⟨#[]⟩,.slice none 0 0,.int .i64 0,.int .i64 0,.slice none 0 0] 38) = u6 at *; refine hK.out _ _ ?_ (fun hHeld2=>?_)
          ·exact hS.out.below
          clear hK K; clear hHeld; have hHeld:=hHeld2; clear hHeld2
          try simp only [Act.put,sI,sZ,sS]
          refine wpAnyH_ready (rs:=[14]) (by as_aux_lemma=>kernel_rfl) (by simp) ?_; refine rdY rfl (fun K hK=>?_); go_simp
          have hS':=hid (show RS2 W6 (some u5.heap.size) (withF rl l [t3]) (.slice ya1 (withF rl l [t3]).args.length yc1) _ (.slice (some ⟨u6.heap.size,0,none⟩) 3 3) (u6.alloc (.cells #[iv (happensF t3).op,.bool (happensF t3).nt,sv (happensF t3).rel,.slice ya2 (happensF t3).args.length yc2,iv (timedF t4 l).op,.bool (timedF t4 l).nt,sv (timedF t4 l).rel,.slice ya3 (timedF t4 l).args.length yc3,iv (besideF b t4 t3).op,.bool (besideF b t4 t3).nt,sv (besideF b t4 t3).rel,.slice ya4 (besideF b t4 t3).args.length yc4] 28)) from RS.build (ps:=[(happensF t3,.slice ya2 (happensF t3).args.length yc2),(timedF t4 l,.slice ya3 (timedF t4 l).args.length yc3),(besideF b t4 t3,.slice ya4 (besideF b t4 t3).args.length yc4)]) hS.out (by show 3 ≤ maxLen; decide)); clear hS; have hS:=hS'; clear hS'; clear hO6
          generalize u6.alloc (.cells #[iv (happensF t3).op,.bool (happensF t3).nt,sv (happensF t3).rel,.slice ya2 (happensF t3).args.length yc2,iv (timedF t4 l).op,.bool (timedF t4 l).nt,sv (timedF t4 l).rel,.slice ya3 (timedF t4 l).args.length yc3,iv (besideF b t4 t3).op,.bool (besideF b t4 t3).nt,sv (besideF b t4 t3).rel,.slice ya4 (besideF b t4 t3).args.length yc4] 28) = u7 at *; refine hK.out _ _ ?_ (fun hHeld2=>?_)
          ·exact hS.out.below
          clear hK K; clear hHeld; have hHeld:=hHeld2; clear hHeld2
          try simp only [Act.put,sI,sZ,sS]
          refine wTk (i:=15) (v:=?_) rfl ?hy ?_
          case hy =>
           intro w hSw
           skip
           go_simp
           all_goals with_reducible rfl
          try simp only [Act.put,sI,sZ,sS]
          have hge:=(hS.out.zr _ rfl).1; have hzr:=(hS.out.zr _ rfl).2; refine wpAnyH_ready (rs:=[17]) (by as_aux_lemma=>kernel_rfl) (by simp) ?_; refine rdY rfl (fun K hK=>?_); rw [if_pos (by rfl)]; refine wp_store_row 38 (.tmp 13) (.tmp 56) rfl u5.heap.size (rucells (withF rl l [t3]).op (withF rl l [t3]).nt (withF rl l [t3]).rel (.slice ya1 (withF rl l [t3]).args.length yc1) 0 0 (.slice (some ⟨u6.heap.size,0,none⟩) 3 3)) (by rfl) (by rfl) _ _ hzr (by kernel_rfl) (by rfl) (by simp [Value.oneCell']) ?_; refine hK.out _ _ ?_ (fun hHeld2=>?_)
          ·exact below_setRow' hHeld hge _
          clear hK K; clear hHeld; have hHeld:=hHeld2; clear hHeld2
          try simp only [Act.put,sI,sZ,sS]
          refine wpAnyH_done (by as_aux_lemma=>kernel_rfl) ?_ _
          go_wp2_with fail
          go_meet
          case rel=>exact ⟨_,_,_,_,rfl,hid (by rw [hNR0.out]; exact ⟨hS.out.store,rfl⟩)⟩
        ·go_simp
         have hbz : Below u4.heap.size u4 (u4.alloc (.cells #[.int .i64 0,.bool false,.string ⟨#[]⟩,.slice none 0 0,.int .i64 0,.int .i64 0,.slice none 0 0] 38)):=(Below.refl _ _).alloc (Nat.le_refl _) _; have hS':=hid (show RS _ (some u4.heap.size) _ (u4.alloc (.cells #[.int .i64 0,.bool false,.string ⟨#[]⟩,.slice none 0 0,.int .i64 0,.int .i64 0,.slice none 0 0] 38)) from hS.out.newRule); clear hS; have hS:=hS'; clear hS'; have hO6':=hid (hO6.out.below goodFl hbz); clear hO6; have hO6:=hO6'; clear hO6'; clear hbz; generalize u4.alloc (.cells #[.int .i64 0,.bool false,.string ⟨#[]⟩,.slice none 0 0,.int .i64 0,.int .i64 0,.slice none 0 0] 38) = u5 at *; refine hK.out _ _ ?_ (fun hHeld2=>?_)
         ·exact hS.out.below
         clear hK K; clear hHeld; have hHeld:=hHeld2; clear hHeld2
         try simp only [Act.put,sI,sZ,sS]
         refine wpAnyH_ready (rs:=[13]) (by as_aux_lemma=>kernel_rfl) (by simp) ?_; refine rdY rfl (fun K hK=>?_); go_simp
         go_at_call 77
         with_reducible refine (beside_any b t4 t3 _).mono ?_
         intro e u6 hP; obtain ⟨ya4,yc4,rfl,hQ,hbq⟩:=PL1.open hP; clear hP; have hS':=hid (hS.out.push hbq hQ); clear hS; have hS:=hS'; clear hS'; have hO6':=hid (hO6.out.below goodFl hbq); clear hO6; have hO6:=hO6'; clear hO6'; clear hbq hQ; refine hK.out _ _ ?_ (fun hHeld2=>?_)
         ·exact hS.out.below
         clear hK K; clear hHeld; have hHeld:=hHeld2; clear hHeld2
         try simp only [Act.put,sI,sZ,sS]
         refine wpAnyH_ready (rs:=[14]) (by as_aux_lemma=>kernel_rfl) (by simp) ?_; refine rdY rfl (fun K hK=>?_); go_simp
         have hS':=hid (show RS2 W6 (some u4.heap.size) (withF rl l [t3]) (.slice ya1 (withF rl l [t3]).args.length yc1) _ (.slice (some ⟨u6.heap.size,0,none⟩) 3 3) (u6.alloc (.cells #[iv (happensF t3).op,.bool (happensF t3).nt,sv (happensF t3).rel,.slice ya2 (happensF t3).args.length yc2,iv (timedF t4 l).op,.bool (timedF t4 l).nt,sv (timedF t4 l).rel,.slice ya3 (timedF t4 l).args.length yc3,iv (besideF b t4 t3).op,.bool (besideF b t4 t3).nt,sv (besideF b t4 t3).rel,.slice ya4 (besideF b t4 t3).args.length yc4] 28)) from RS.build (ps:=[(happensF t3,.slice ya2 (happensF t3).args.length yc2),(timedF t4 l,.slice ya3 (timedF t4 l).args.length yc3),(besideF b t4 t3,.slice ya4 (besideF b t4 t3).args.length yc4)]) hS.out (by show 3 ≤ maxLen; decide)); clear hS; have hS:=hS'; clear hS'; clear hO6
         generalize u6.alloc (.cells #[iv (happensF t3).op,.bool (happensF t3).nt,sv (happensF t3).rel,.slice ya2 (happensF t3).args.length yc2,iv (timedF t4 l).op,.bool (timedF t4 l).nt,sv (timedF t4 l).rel,.slice ya3 (timedF t4 l).args.length yc3,iv (besideF b t4 t3).op,.bool (besideF b t4 t3).nt,sv (besideF b t4 t3).rel,.slice ya4 (besideF b t4 t3).args.length yc4] 28) = u7 at *; refine hK.out _ _ ?_ (fun hHeld2=>?_)
         ·exact hS.out.below
         clear hK K; clear hHeld; have hHeld:=hHeld2; clear hHeld2
         try simp only [Act.put,sI,sZ,sS]
         refine wTk (i:=15) (v:=?_) rfl ?hy ?_
         case hy =>
          intro w hSw
          skip
          go_simp
          all_goals with_reducible rfl
         try simp only [Act.put,sI,sZ,sS]
         have hge:=(hS.out.zr _ rfl).1; have hzr:=(hS.out.zr _ rfl).2; refine wpAnyH_ready (rs:=[17]) (by as_aux_lemma=>kernel_rfl) (by simp) ?_; refine rdY rfl (fun K hK=>?_); rw [if_pos (by rfl)]; refine wp_store_row 38 (.tmp 13) (.tmp 56) rfl u4.heap.size (rucells (withF rl l [t3]).op (withF rl l [t3]).nt (withF rl l [t3]).rel (.slice ya1 (withF rl l [t3]).args.length yc1) 0 0 (.slice (some ⟨u6.heap.size,0,none⟩) 3 3)) (by rfl) (by rfl) _ _ hzr (by kernel_rfl) (by rfl) (by simp [Value.oneCell']) ?_; refine hK.out _ _ ?_ (fun hHeld2=>?_)
         ·exact below_setRow' hHeld hge _
         clear hK K; clear hHeld; have hHeld:=hHeld2; clear hHeld2
         try simp only [Act.put,sI,sZ,sS]
         refine wpAnyH_done (by as_aux_lemma=>kernel_rfl) ?_ _
         go_wp2_with fail
         go_meet
         case rel=>exact ⟨_,_,_,_,rfl,hid (by rw [hNR0.out]; exact ⟨hS.out.store,rfl⟩)⟩
       ·go_simp
        have hbz : Below u3.heap.size u3 (u3.alloc (.cells #[.int .i64 0,.bool false,.string ⟨#[]⟩,.slice none 0 0,.int .i64 0,.int .i64 0,.slice none 0 0] 38)):=(Below.refl _ _).alloc (Nat.le_refl _) _; have hS':=hid (show RS _ (some u3.heap.size) _ (u3.alloc (.cells #[.int .i64 0,.bool false,.string ⟨#[]⟩,.slice none 0 0,.int .i64 0,.int .i64 0,.slice none 0 0] 38)) from hS.out.newRule); clear hS; have hS:=hS'; clear hS'; have hO6':=hid (hO6.out.below goodFl hbz); clear hO6; have hO6:=hO6'; clear hO6'; clear hbz; generalize u3.alloc (.cells #[.int .i64 0,.bool false,.string ⟨#[]⟩,.slice none 0 0,.int .i64 0,.int .i64 0,.slice none 0 0] 38) = u4 at *; refine hK.out _ _ ?_ (fun hHeld2=>?_)
        ·exact hS.out.below
        clear hK K; clear hHeld; have hHeld:=hHeld2; clear hHeld2
        try simp only [Act.put,sI,sZ,sS]
        refine wpAnyH_ready (rs:=[9]) (by as_aux_lemma=>kernel_rfl) (by simp) ?_; refine rdY rfl (fun K hK=>?_); go_simp
        go_at_call 76
        with_reducible refine (timed_any t4 l _ _ _ (hO6.out.sl goodFl) hal2).mono ?_
        intro e u5 hP; obtain ⟨ya3,yc3,rfl,hQ,hbq⟩:=PL1.open hP; clear hP; have hS':=hid (hS.out.push hbq hQ); clear hS; have hS:=hS'; clear hS'; have hO6':=hid (hO6.out.below goodFl hbq); clear hO6; have hO6:=hO6'; clear hO6'; clear hbq hQ; refine hK.out _ _ ?_ (fun hHeld2=>?_)
        ·exact hS.out.below
        clear hK K; clear hHeld; have hHeld:=hHeld2; clear hHeld2
        try simp only [Act.put,sI,sZ,sS]
        refine wpAnyH_ready (rs:=[13]) (by as_aux_lemma=>kernel_rfl) (by simp) ?_; refine rdY rfl (fun K hK=>?_); go_simp
        go_at_call 77
        with_reducible refine (beside_any b t4 t3 _).mono ?_
        intro e u6 hP; obtain ⟨ya4,yc4,rfl,hQ,hbq⟩:=PL1.open hP; clear hP; have hS':=hid (hS.out.push hbq hQ); clear hS; have hS:=hS'; clear hS'; have hO6':=hid (hO6.out.below goodFl hbq); clear hO6; have hO6:=hO6'; clear hO6'; clear hbq hQ; refine hK.out _ _ ?_ (fun hHeld2=>?_)
        ·exact hS.out.below
        clear hK K; clear hHeld; have hHeld:=hHeld2; clear hHeld2
        try simp only [Act.put,sI,sZ,sS]
        refine wpAnyH_ready (rs:=[14]) (by as_aux_lemma=>kernel_rfl) (by simp) ?_; refine rdY rfl (fun K hK=>?_); go_simp
        have hS':=hid (show RS2 W6 (some u3.heap.size) (withF rl l [t3]) (.slice ya1 (withF rl l [t3]).args.length yc1) _ (.slice (some ⟨u6.heap.size,0,none⟩) 3 3) (u6.alloc (.cells #[iv (happensF t3).op,.bool (happensF t3).nt,sv (happensF t3).rel,.slice ya2 (happensF t3).args.length yc2,iv (timedF t4 l).op,.bool (timedF t4 l).nt,sv (timedF t4 l).rel,.slice ya3 (timedF t4 l).args.length yc3,iv (besideF b t4 t3).op,.bool (besideF b t4 t3).nt,sv (besideF b t4 t3).rel,.slice ya4 (besideF b t4 t3).args.length yc4] 28)) from RS.build (ps:=[(happensF t3,.slice ya2 (happensF t3).args.length yc2),(timedF t4 l,.slice ya3 (timedF t4 l).args.length yc3),(besideF b t4 t3,.slice ya4 (besideF b t4 t3).args.length yc4)]) hS.out (by show 3 ≤ maxLen; decide)); clear hS; have hS:=hS'; clear hS'; clear hO6
        generalize u6.alloc (.cells #[iv (happensF t3).op,.bool (happensF t3).nt,sv (happensF t3).rel,.slice ya2 (happensF t3).args.length yc2,iv (timedF t4 l).op,.bool (timedF t4 l).nt,sv (timedF t4 l).rel,.slice ya3 (timedF t4 l).args.length yc3,iv (besideF b t4 t3).op,.bool (besideF b t4 t3).nt,sv (besideF b t4 t3).rel,.slice ya4 (besideF b t4 t3).args.length yc4] 28) = u7 at *; refine hK.out _ _ ?_ (fun hHeld2=>?_)
        ·exact hS.out.below
        clear hK K; clear hHeld; have hHeld:=hHeld2; clear hHeld2
        try simp only [Act.put,sI,sZ,sS]
        refine wTk (i:=15) (v:=?_) rfl ?hy ?_
        case hy =>
         intro w hSw
         skip
         go_simp
         all_goals with_reducible rfl
        try simp only [Act.put,sI,sZ,sS]
        have hge:=(hS.out.zr _ rfl).1; have hzr:=(hS.out.zr _ rfl).2; refine wpAnyH_ready (rs:=[17]) (by as_aux_lemma=>kernel_rfl) (by simp) ?_; refine rdY rfl (fun K hK=>?_); rw [if_pos (by rfl)]; refine wp_store_row 38 (.tmp 13) (.tmp 56) rfl u3.heap.size (rucells (withF rl l [t3]).op (withF rl l [t3]).nt (withF rl l [t3]).rel (.slice ya1 (withF rl l [t3]).args.length yc1) 0 0 (.slice (some ⟨u6.heap.size,0,none⟩) 3 3)) (by rfl) (by rfl) _ _ hzr (by kernel_rfl) (by rfl) (by simp [Value.oneCell']) ?_; refine hK.out _ _ ?_ (fun hHeld2=>?_)
        ·exact below_setRow' hHeld hge _
        clear hK K; clear hHeld; have hHeld:=hHeld2; clear hHeld2
        try simp only [Act.put,sI,sZ,sS]
        refine wpAnyH_done (by as_aux_lemma=>kernel_rfl) ?_ _
        go_wp2_with fail
        go_meet
        case rel=>exact ⟨_,_,_,_,rfl,hid (by rw [hNR0.out]; exact ⟨hS.out.store,rfl⟩)⟩
      ·go_simp
       have hbz : Below u2.heap.size u2 (u2.alloc (.cells #[.int .i64 0,.bool false,.string ⟨#[]⟩,.slice none 0 0,.int .i64 0,.int .i64 0,.slice none 0 0] 38)):=(Below.refl _ _).alloc (Nat.le_refl _) _; have hS':=hid (show RS _ (some u2.heap.size) _ (u2.alloc (.cells #[.int .i64 0,.bool false,.string ⟨#[]⟩,.slice none 0 0,.int .i64 0,.int .i64 0,.slice none 0 0] 38)) from hS.out.newRule); clear hS; have hS:=hS'; clear hS'; have hO6':=hid (hO6.out.below goodFl hbz); clear hO6; have hO6:=hO6'; clear hO6'; clear hbz; generalize u2.alloc (.cells #[.int .i64 0,.bool false,.string ⟨#[]⟩,.slice none 0 0,.int .i64 0,.int .i64 0,.slice none 0 0] 38) = u3 at *; refine hK.out _ _ ?_ (fun hHeld2=>?_)
       ·exact hS.out.below
       clear hK K; clear hHeld; have hHeld:=hHeld2; clear hHeld2
       try simp only [Act.put,sI,sZ,sS]
       refine wpAnyH_ready (rs:=[6]) (by as_aux_lemma=>kernel_rfl) (by simp) ?_; refine rdY rfl (fun K hK=>?_); go_simp
       go_at_call 80
       with_reducible refine (happens_f t3 _).mono ?_
       intro e u4 hP; obtain ⟨ya2,yc2,rfl,hQ,hbq⟩:=PL1.open hP; clear hP; have hS':=hid (hS.out.push hbq hQ); clear hS; have hS:=hS'; clear hS'; have hO6':=hid (hO6.out.below goodFl hbq); clear hO6; have hO6:=hO6'; clear hO6'; clear hbq hQ; refine hK.out _ _ ?_ (fun hHeld2=>?_)
       ·exact hS.out.below
       clear hK K; clear hHeld; have hHeld:=hHeld2; clear hHeld2
       try simp only [Act.put,sI,sZ,sS]
       refine wpAnyH_ready (rs:=[9]) (by as_aux_lemma=>kernel_rfl) (by simp) ?_; refine rdY rfl (fun K hK=>?_); go_simp
       go_at_call 76
       with_reducible refine (timed_any t4 l _ _ _ (hO6.out.sl goodFl) hal2).mono ?_
       intro e u5 hP; obtain ⟨ya3,yc3,rfl,hQ,hbq⟩:=PL1.open hP; clear hP; have hS':=hid (hS.out.push hbq hQ); clear hS; have hS:=hS'; clear hS'; have hO6':=hid (hO6.out.below goodFl hbq); clear hO6; have hO6:=hO6'; clear hO6'; clear hbq hQ; refine hK.out _ _ ?_ (fun hHeld2=>?_)
       ·exact hS.out.below
       clear hK K; clear hHeld; have hHeld:=hHeld2; clear hHeld2
       try simp only [Act.put,sI,sZ,sS]
       refine wpAnyH_ready (rs:=[13]) (by as_aux_lemma=>kernel_rfl) (by simp) ?_; refine rdY rfl (fun K hK=>?_); go_simp
       go_at_call 77
       with_reducible refine (beside_any b t4 t3 _).mono ?_
       intro e u6 hP; obtain ⟨ya4,yc4,rfl,hQ,hbq⟩:=PL1.open hP; clear hP; have hS':=hid (hS.out.push hbq hQ); clear hS; have hS:=hS'; clear hS'; have hO6':=hid (hO6.out.below goodFl hbq); clear hO6; have hO6:=hO6'; clear hO6'; clear hbq hQ; refine hK.out _ _ ?_ (fun hHeld2=>?_)
       ·exact hS.out.below
       clear hK K; clear hHeld; have hHeld:=hHeld2; clear hHeld2
       try simp only [Act.put,sI,sZ,sS]
       refine wpAnyH_ready (rs:=[14]) (by as_aux_lemma=>kernel_rfl) (by simp) ?_; refine rdY rfl (fun K hK=>?_); go_simp
       have hS':=hid (show RS2 W6 (some u2.heap.size) (withF rl l [t3]) (.slice ya1 (withF rl l [t3]).args.length yc1) _ (.slice (some ⟨u6.heap.size,0,none⟩) 3 3) (u6.alloc (.cells #[iv (happensF t3).op,.bool (happensF t3).nt,sv (happensF t3).rel,.slice ya2 (happensF t3).args.length yc2,iv (timedF t4 l).op,.bool (timedF t4 l).nt,sv (timedF t4 l).rel,.slice ya3 (timedF t4 l).args.length yc3,iv (besideF b t4 t3).op,.bool (besideF b t4 t3).nt,sv (besideF b t4 t3).rel,.slice ya4 (besideF b t4 t3).args.length yc4] 28)) from RS.build (ps:=[(happensF t3,.slice ya2 (happensF t3).args.length yc2),(timedF t4 l,.slice ya3 (timedF t4 l).args.length yc3),(besideF b t4 t3,.slice ya4 (besideF b t4 t3).args.length yc4)]) hS.out (by show 3 ≤ maxLen; decide)); clear hS; have hS:=hS'; clear hS'; clear hO6
       generalize u6.alloc (.cells #[iv (happensF t3).op,.bool (happensF t3).nt,sv (happensF t3).rel,.slice ya2 (happensF t3).args.length yc2,iv (timedF t4 l).op,.bool (timedF t4 l).nt,sv (timedF t4 l).rel,.slice ya3 (timedF t4 l).args.length yc3,iv (besideF b t4 t3).op,.bool (besideF b t4 t3).nt,sv (besideF b t4 t3).rel,.slice ya4 (besideF b t4 t3).args.length yc4] 28) = u7 at *; refine hK.out _ _ ?_ (fun hHeld2=>?_)
       ·exact hS.out.below
       clear hK K; clear hHeld; have hHeld:=hHeld2; clear hHeld2
       try simp only [Act.put,sI,sZ,sS]
       refine wTk (i:=15) (v:=?_) rfl ?hy ?_
       case hy =>
        intro w hSw
        skip
        go_simp
        all_goals with_reducible rfl
       try simp only [Act.put,sI,sZ,sS]
       have hge:=(hS.out.zr _ rfl).1; have hzr:=(hS.out.zr _ rfl).2; refine wpAnyH_ready (rs:=[17]) (by as_aux_lemma=>kernel_rfl) (by simp) ?_; refine rdY rfl (fun K hK=>?_); rw [if_pos (by rfl)]; refine wp_store_row 38 (.tmp 13) (.tmp 56) rfl u2.heap.size (rucells (withF rl l [t3]).op (withF rl l [t3]).nt (withF rl l [t3]).rel (.slice ya1 (withF rl l [t3]).args.length yc1) 0 0 (.slice (some ⟨u6.heap.size,0,none⟩) 3 3)) (by rfl) (by rfl) _ _ hzr (by kernel_rfl) (by rfl) (by simp [Value.oneCell']) ?_; refine hK.out _ _ ?_ (fun hHeld2=>?_)
       ·exact below_setRow' hHeld hge _
       clear hK K; clear hHeld; have hHeld:=hHeld2; clear hHeld2
       try simp only [Act.put,sI,sZ,sS]
       refine wpAnyH_done (by as_aux_lemma=>kernel_rfl) ?_ _
       go_wp2_with fail
       go_meet
       case rel=>exact ⟨_,_,_,_,rfl,hid (by rw [hNR0.out]; exact ⟨hS.out.store,rfl⟩)⟩
     ·go_simp
      have hbz : Below u1.heap.size u1 (u1.alloc (.cells #[.int .i64 0,.bool false,.string ⟨#[]⟩,.slice none 0 0,.int .i64 0,.int .i64 0,.slice none 0 0] 38)):=(Below.refl _ _).alloc (Nat.le_refl _) _; have hS':=hid (show RS _ (some u1.heap.size) _ (u1.alloc (.cells #[.int .i64 0,.bool false,.string ⟨#[]⟩,.slice none 0 0,.int .i64 0,.int .i64 0,.slice none 0 0] 38)) from hS.out.newRule); clear hS; have hS:=hS'; clear hS'; have hO6':=hid (hO6.out.below goodFl hbz); clear hO6; have hO6:=hO6'; clear hO6'; have hTV':=hid (hTV.out.below goodFl hbz); clear hTV; have hTV:=hTV'; clear hTV'; clear hbz; generalize u1.alloc (.cells #[.int .i64 0,.bool false,.string ⟨#[]⟩,.slice none 0 0,.int .i64 0,.int .i64 0,.slice none 0 0] 38) = u2 at *; refine hK.out _ _ ?_ (fun hHeld2=>?_)
      ·exact hS.out.below
      clear hK K; clear hHeld; have hHeld:=hHeld2; clear hHeld2
      try simp only [Act.put,sI,sZ,sS]
      refine wpAnyH_ready (rs:=[4]) (by as_aux_lemma=>kernel_rfl) (by simp) ?_; refine rdY rfl (fun K hK=>?_); go_simp
      go_at_call 79
      with_reducible refine (with_any rl l [t3] _ _ _ (.slice (some ⟨wd.heap.size,0,none⟩) 1 1) _ (hO6.out.sl goodFl) (hTV.out.sl goodFl) hal1 hvar.out).mono ?_
      intro e u3 hP; obtain ⟨ya1,yc1,rfl,hQ,hbq⟩:=PL1.open hP; clear hP; have hS':=hid (hS.out.push hbq hQ); clear hS; have hS:=hS'; clear hS'; clear hTV; have hO6':=hid (hO6.out.below goodFl hbq); clear hO6; have hO6:=hO6'; clear hO6'; clear hbq hQ; refine hK.out _ _ ?_ (fun hHeld2=>?_)
      ·exact hS.out.below
      clear hK K; clear hHeld; have hHeld:=hHeld2; clear hHeld2
      try simp only [Act.put,sI,sZ,sS]
      refine wpAnyH_ready (rs:=[6]) (by as_aux_lemma=>kernel_rfl) (by simp) ?_; refine rdY rfl (fun K hK=>?_); go_simp
      go_at_call 80
      with_reducible refine (happens_f t3 _).mono ?_
      intro e u4 hP; obtain ⟨ya2,yc2,rfl,hQ,hbq⟩:=PL1.open hP; clear hP; have hS':=hid (hS.out.push hbq hQ); clear hS; have hS:=hS'; clear hS'; have hO6':=hid (hO6.out.below goodFl hbq); clear hO6; have hO6:=hO6'; clear hO6'; clear hbq hQ; refine hK.out _ _ ?_ (fun hHeld2=>?_)
      ·exact hS.out.below
      clear hK K; clear hHeld; have hHeld:=hHeld2; clear hHeld2
      try simp only [Act.put,sI,sZ,sS]
      refine wpAnyH_ready (rs:=[9]) (by as_aux_lemma=>kernel_rfl) (by simp) ?_; refine rdY rfl (fun K hK=>?_); go_simp
      go_at_call 76
      with_reducible refine (timed_any t4 l _ _ _ (hO6.out.sl goodFl) hal2).mono ?_
      intro e u5 hP; obtain ⟨ya3,yc3,rfl,hQ,hbq⟩:=PL1.open hP; clear hP; have hS':=hid (hS.out.push hbq hQ); clear hS; have hS:=hS'; clear hS'; have hO6':=hid (hO6.out.below goodFl hbq); clear hO6; have hO6:=hO6'; clear hO6'; clear hbq hQ; refine hK.out _ _ ?_ (fun hHeld2=>?_)
      ·exact hS.out.below
      clear hK K; clear hHeld; have hHeld:=hHeld2; clear hHeld2
      try simp only [Act.put,sI,sZ,sS]
      refine wpAnyH_ready (rs:=[13]) (by as_aux_lemma=>kernel_rfl) (by simp) ?_; refine rdY rfl (fun K hK=>?_); go_simp
      go_at_call 77
      with_reducible refine (beside_any b t4 t3 _).mono ?_
      intro e u6 hP; obtain ⟨ya4,yc4,rfl,hQ,hbq⟩:=PL1.open hP; clear hP; have hS':=hid (hS.out.push hbq hQ); clear hS; have hS:=hS'; clear hS'; have hO6':=hid (hO6.out.below goodFl hbq); clear hO6; have hO6:=hO6'; clear hO6'; clear hbq hQ; refine hK.out _ _ ?_ (fun hHeld2=>?_)
      ·exact hS.out.below
      clear hK K; clear hHeld; have hHeld:=hHeld2; clear hHeld2
      try simp only [Act.put,sI,sZ,sS]
      refine wpAnyH_ready (rs:=[14]) (by as_aux_lemma=>kernel_rfl) (by simp) ?_; refine rdY rfl (fun K hK=>?_); go_simp
      have hS':=hid (show RS2 W6 (some u1.heap.size) (withF rl l [t3]) (.slice ya1 (withF rl l [t3]).args.length yc1) _ (.slice (some ⟨u6.heap.size,0,none⟩) 3 3) (u6.alloc (.cells #[iv (happensF t3).op,.bool (happensF t3).nt,sv (happensF t3).rel,.slice ya2 (happensF t3).args.length yc2,iv (timedF t4 l).op,.bool (timedF t4 l).nt,sv (timedF t4 l).rel,.slice ya3 (timedF t4 l).args.length yc3,iv (besideF b t4 t3).op,.bool (besideF b t4 t3).nt,sv (besideF b t4 t3).rel,.slice ya4 (besideF b t4 t3).args.length yc4] 28)) from RS.build (ps:=[(happensF t3,.slice ya2 (happensF t3).args.length yc2),(timedF t4 l,.slice ya3 (timedF t4 l).args.length yc3),(besideF b t4 t3,.slice ya4 (besideF b t4 t3).args.length yc4)]) hS.out (by show 3 ≤ maxLen; decide)); clear hS; have hS:=hS'; clear hS'; clear hO6
      generalize u6.alloc (.cells #[iv (happensF t3).op,.bool (happensF t3).nt,sv (happensF t3).rel,.slice ya2 (happensF t3).args.length yc2,iv (timedF t4 l).op,.bool (timedF t4 l).nt,sv (timedF t4 l).rel,.slice ya3 (timedF t4 l).args.length yc3,iv (besideF b t4 t3).op,.bool (besideF b t4 t3).nt,sv (besideF b t4 t3).rel,.slice ya4 (besideF b t4 t3).args.length yc4] 28) = u7 at *; refine hK.out _ _ ?_ (fun hHeld2=>?_)
      ·exact hS.out.below
      clear hK K; clear hHeld; have hHeld:=hHeld2; clear hHeld2
      try simp only [Act.put,sI,sZ,sS]
      refine wTk (i:=15) (v:=?_) rfl ?hy ?_
      case hy =>
       intro w hSw
       skip
       go_simp
       all_goals with_reducible rfl
      try simp only [Act.put,sI,sZ,sS]
      have hge:=(hS.out.zr _ rfl).1; have hzr:=(hS.out.zr _ rfl).2; refine wpAnyH_ready (rs:=[17]) (by as_aux_lemma=>kernel_rfl) (by simp) ?_; refine rdY rfl (fun K hK=>?_); rw [if_pos (by rfl)]; refine wp_store_row 38 (.tmp 13) (.tmp 56) rfl u1.heap.size (rucells (withF rl l [t3]).op (withF rl l [t3]).nt (withF rl l [t3]).rel (.slice ya1 (withF rl l [t3]).args.length yc1) 0 0 (.slice (some ⟨u6.heap.size,0,none⟩) 3 3)) (by rfl) (by rfl) _ _ hzr (by kernel_rfl) (by rfl) (by simp [Value.oneCell']) ?_; refine hK.out _ _ ?_ (fun hHeld2=>?_)
      ·exact below_setRow' hHeld hge _
      clear hK K; clear hHeld; have hHeld:=hHeld2; clear hHeld2
      try simp only [Act.put,sI,sZ,sS]
      refine wpAnyH_done (by as_aux_lemma=>kernel_rfl) ?_ _
      go_wp2_with fail
      go_meet
      case rel=>exact ⟨_,_,_,_,rfl,hid (by rw [hNR0.out]; exact ⟨hS.out.store,rfl⟩)⟩
    ·go_simp
     have hbz : Below wd.heap.size wd (wd.alloc (.cells #[.int .i64 0,.bool false,.string ⟨#[]⟩,.slice none 0 0,.int .i64 0,.int .i64 0,.slice none 0 0] 38)):=(Below.refl _ _).alloc (Nat.le_refl _) _; have hS':=hid (show RS _ (some wd.heap.size) _ (wd.alloc (.cells #[.int .i64 0,.bool false,.string ⟨#[]⟩,.slice none 0 0,.int .i64 0,.int .i64 0,.slice none 0 0] 38)) from hS.out.newRule); clear hS; have hS:=hS'; clear hS'; have hO6':=hid (hO6.out.below goodFl hbz); clear hO6; have hO6:=hO6'; clear hO6'; clear hbz; generalize wd.alloc (.cells #[.int .i64 0,.bool false,.string ⟨#[]⟩,.slice none 0 0,.int .i64 0,.int .i64 0,.slice none 0 0] 38) = u1 at *; refine hK.out _ _ ?_ (fun hHeld2=>?_)
     ·exact hS.out.below
     clear hK K; clear hHeld; have hHeld:=hHeld2; clear hHeld2
     try simp only [Act.put,sI,sZ,sS]
     refine wpAnyH_ready (rs:=[3]) (by as_aux_lemma=>kernel_rfl) (by simp) ?_; refine rdY rfl (fun K hK=>?_); go_simp; have hbz : Below u1.heap.size u1 (u1.alloc (.cells #[sv t3.var,iv t3.val.kind,sv t3.val.t,iv t3.val.n,iv t3.val.m,sv t3.val.s,.slice none 0 0] 44)):=(Below.refl _ _).alloc (Nat.le_refl _) _; have hS':=hid (hS.out.grow hbz); clear hS; have hS:=hS'; clear hS'; have hO6':=hid (hO6.out.below goodFl hbz); clear hO6; have hO6:=hO6'; clear hO6'; have hTV:=hid (show OwnR 44 7 FlR (fun _=>True) (u1.alloc (.cells #[sv t3.var,iv t3.val.kind,sv t3.val.t,iv t3.val.n,iv t3.val.m,sv t3.val.s,.slice none 0 0] 44)) [t3] (.slice (some ⟨u1.heap.size,0,none⟩) 1 1) from own_tms (l:=[t3]) (heap_alloc_new' u1 _) (by show 1 ≤ maxLen; decide) trivial); clear hbz
     generalize u1.alloc (.cells #[sv t3.var,iv t3.val.kind,sv t3.val.t,iv t3.val.n,iv t3.val.m,sv t3.val.s,.slice none 0 0] 44) = u2 at *; refine hK.out _ _ ?_ (fun hHeld2=>?_)
     ·exact hS.out.below
     clear hK K; clear hHeld; have hHeld:=hHeld2; clear hHeld2
     try simp only [Act.put,sI,sZ,sS]
     refine wpAnyH_ready (rs:=[4]) (by as_aux_lemma=>kernel_rfl) (by simp) ?_; refine rdY rfl (fun K hK=>?_); go_simp
     go_at_call 79
     with_reducible refine (with_any rl l [t3] _ _ _ (.slice (some ⟨u1.heap.size,0,none⟩) 1 1) _ (hO6.out.sl goodFl) (hTV.out.sl goodFl) hal1 hvar.out).mono ?_
     intro e u3 hP; obtain ⟨ya1,yc1,rfl,hQ,hbq⟩:=PL1.open hP; clear hP; have hS':=hid (hS.out.push hbq hQ); clear hS; have hS:=hS'; clear hS'; clear hTV; have hO6':=hid (hO6.out.below goodFl hbq); clear hO6; have hO6:=hO6'; clear hO6'; clear hbq hQ; refine hK.out _ _ ?_ (fun hHeld2=>?_)
     ·exact hS.out.below
     clear hK K; clear hHeld; have hHeld:=hHeld2; clear hHeld2
     try simp only [Act.put,sI,sZ,sS]
     refine wpAnyH_ready (rs:=[6]) (by as_aux_lemma=>kernel_rfl) (by simp) ?_; refine rdY rfl (fun K hK=>?_); go_simp
     go_at_call 80
     with_reducible refine (happens_f t3 _).mono ?_
     intro e u4 hP; obtain ⟨ya2,yc2,rfl,hQ,hbq⟩:=PL1.open hP; clear hP; have hS':=hid (hS.out.push hbq hQ); clear hS; have hS:=hS'; clear hS'; have hO6':=hid (hO6.out.below goodFl hbq); clear hO6; have hO6:=hO6'; clear hO6'; clear hbq hQ; refine hK.out _ _ ?_ (fun hHeld2=>?_)
     ·exact hS.out.below
     clear hK K; clear hHeld; have hHeld:=hHeld2; clear hHeld2
     try simp only [Act.put,sI,sZ,sS]
     refine wpAnyH_ready (rs:=[9]) (by as_aux_lemma=>kernel_rfl) (by simp) ?_; refine rdY rfl (fun K hK=>?_); go_simp
     go_at_call 76
     with_reducible refine (timed_any t4 l _ _ _ (hO6.out.sl goodFl) hal2).mono ?_
     intro e u5 hP; obtain ⟨ya3,yc3,rfl,hQ,hbq⟩:=PL1.open hP; clear hP; have hS':=hid (hS.out.push hbq hQ); clear hS; have hS:=hS'; clear hS'; have hO6':=hid (hO6.out.below goodFl hbq); clear hO6; have hO6:=hO6'; clear hO6'; clear hbq hQ; refine hK.out _ _ ?_ (fun hHeld2=>?_)
     ·exact hS.out.below
     clear hK K; clear hHeld; have hHeld:=hHeld2; clear hHeld2
     try simp only [Act.put,sI,sZ,sS]
     refine wpAnyH_ready (rs:=[13]) (by as_aux_lemma=>kernel_rfl) (by simp) ?_; refine rdY rfl (fun K hK=>?_); go_simp
     go_at_call 77
     with_reducible refine (beside_any b t4 t3 _).mono ?_
     intro e u6 hP; obtain ⟨ya4,yc4,rfl,hQ,hbq⟩:=PL1.open hP; clear hP; have hS':=hid (hS.out.push hbq hQ); clear hS; have hS:=hS'; clear hS'; have hO6':=hid (hO6.out.below goodFl hbq); clear hO6; have hO6:=hO6'; clear hO6'; clear hbq hQ; refine hK.out _ _ ?_ (fun hHeld2=>?_)
     ·exact hS.out.below
     clear hK K; clear hHeld; have hHeld:=hHeld2; clear hHeld2
     try simp only [Act.put,sI,sZ,sS]
     refine wpAnyH_ready (rs:=[14]) (by as_aux_lemma=>kernel_rfl) (by simp) ?_; refine rdY rfl (fun K hK=>?_); go_simp
     have hS':=hid (show RS2 W6 (some wd.heap.size) (withF rl l [t3]) (.slice ya1 (withF rl l [t3]).args.length yc1) _ (.slice (some ⟨u6.heap.size,0,none⟩) 3 3) (u6.alloc (.cells #[iv (happensF t3).op,.bool (happensF t3).nt,sv (happensF t3).rel,.slice ya2 (happensF t3).args.length yc2,iv (timedF t4 l).op,.bool (timedF t4 l).nt,sv (timedF t4 l).rel,.slice ya3 (timedF t4 l).args.length yc3,iv (besideF b t4 t3).op,.bool (besideF b t4 t3).nt,sv (besideF b t4 t3).rel,.slice ya4 (besideF b t4 t3).args.length yc4] 28)) from RS.build (ps:=[(happensF t3,.slice ya2 (happensF t3).args.length yc2),(timedF t4 l,.slice ya3 (timedF t4 l).args.length yc3),(besideF b t4 t3,.slice ya4 (besideF b t4 t3).args.length yc4)]) hS.out (by show 3 ≤ maxLen; decide)); clear hS; have hS:=hS'; clear hS'; clear hO6
     generalize u6.alloc (.cells #[iv (happensF t3).op,.bool (happensF t3).nt,sv (happensF t3).rel,.slice ya2 (happensF t3).args.length yc2,iv (timedF t4 l).op,.bool (timedF t4 l).nt,sv (timedF t4 l).rel,.slice ya3 (timedF t4 l).args.length yc3,iv (besideF b t4 t3).op,.bool (besideF b t4 t3).nt,sv (besideF b t4 t3).rel,.slice ya4 (besideF b t4 t3).args.length yc4] 28) = u7 at *; refine hK.out _ _ ?_ (fun hHeld2=>?_)
     ·exact hS.out.below
     clear hK K; clear hHeld; have hHeld:=hHeld2; clear hHeld2
     try simp only [Act.put,sI,sZ,sS]
     refine wTk (i:=15) (v:=?_) rfl ?hy ?_
     case hy =>
      intro w hSw
      skip
      go_simp
      all_goals with_reducible rfl
     try simp only [Act.put,sI,sZ,sS]
     have hge:=(hS.out.zr _ rfl).1; have hzr:=(hS.out.zr _ rfl).2; refine wpAnyH_ready (rs:=[17]) (by as_aux_lemma=>kernel_rfl) (by simp) ?_; refine rdY rfl (fun K hK=>?_); rw [if_pos (by rfl)]; refine wp_store_row 38 (.tmp 13) (.tmp 56) rfl wd.heap.size (rucells (withF rl l [t3]).op (withF rl l [t3]).nt (withF rl l [t3]).rel (.slice ya1 (withF rl l [t3]).args.length yc1) 0 0 (.slice (some ⟨u6.heap.size,0,none⟩) 3 3)) (by rfl) (by rfl) _ _ hzr (by kernel_rfl) (by rfl) (by simp [Value.oneCell']) ?_; refine hK.out _ _ ?_ (fun hHeld2=>?_)
     ·exact below_setRow' hHeld hge _
     clear hK K; clear hHeld; have hHeld:=hHeld2; clear hHeld2
     try simp only [Act.put,sI,sZ,sS]
     refine wpAnyH_done (by as_aux_lemma=>kernel_rfl) ?_ _
     go_wp2_with fail
     go_meet
     case rel=>exact ⟨_,_,_,_,rfl,hid (by rw [hNR0.out]; exact ⟨hS.out.store,rfl⟩)⟩
   case rest =>
    obtain ⟨RB,rx,hv',bv,rfl,hc⟩:=hcut
    obtain ⟨hNR,hru⟩ : NR W6 RB rx hv' bv wc ∧ rx.ru = ⟨withF rl l [t3],0,0,[happensF t3,timedF t4 l,besideF b t4 t3]⟩:=by have h9:=hc.out; rw [hNR0.out] at h9; exact h9
    have hW6s:=hid hK6.out.fr.size; have hKc:=hid (hK6.out.below hNR.below); have hQc:=hid (hQ6.out.below goodFl hNR.below); have rN:=hKc.out.nth (i:=0) (b:=w6.heap.size) (o:=.cells (lcells L.op true L.rel (.slice aw L.args.length cw)) 28 (0,0)) rfl; have hNRc:=hid hNR; clear hc hO6 hK6 hNR0; obtain ⟨xa,xc,ya,yc,rfl,rfl⟩:=hNR.slices; obtain ⟨O1,hO1⟩ : ∃ O1 : Obj,O1 = .cells #[iv L.op,.bool true,sv L.rel,.slice aw L.args.length cw] 28:=⟨_,rfl⟩; obtain ⟨RX,hRX⟩ : ∃ RX : RuD,RX = rx:=⟨_,rfl⟩; have hrow:=hNR.row; replace hru:=hid hru; clear hNR
    go_wp2_with fail
    refine wp_region_held_drew (S:=fun w'=>Below wc.heap.size wc w') (by kernel_rfl) ?_ (fun hHeld=>?_)
    ·exact (Below.refl _ wc).drew
    generalize wc.drew = wd at *; have hKd:=hid (hKc.out.below hHeld); refine wTk (i:=0) (v:=?_) rfl ?hy ?_
    case hy =>
     intro w hSw; obtain ⟨v0,v1,v2,v3,-⟩:=lt_cells (below_keep hSw rN (lt_of_heap rN)); go_simp
     all_goals with_reducible rfl
    try simp only [Act.put,sI,sZ,sS]
    refine wTk (i:=2) (v:=?_) rfl ?hy ?_
    case hy =>
     intro w hSw; obtain ⟨v0,v1,v2,v3,v4,v5,v6,-⟩:=ru_cells (below_keep hSw hrow (lt_of_heap hrow)); go_simp
     all_goals with_reducible rfl
    try simp only [Act.put,sI,sZ,sS]
    have hKx:=hid (show Kp pb K s5 w wc _ from hKc.out); have hW5s:=hid (show w.heap.size ≤ (w5.alloc (.cells (fcells x) 44)).heap.size from by have:=hK5.out.fr.size; simp; omega)
    have hND:=hid (show (idsL [(Value.ownBlock (.slice aw L.args.length cw),neg L)] ++ [rx].flatMap RuD.ids).Nodup from nodup_aux (B:=W6.heap.size) (by rw [idsL_eq]; cases Value.ownBlock (.slice aw L.args.length cw) <;> simp) (fun k hk=>by
     obtain ⟨y,hy,hyk⟩:=List.mem_filterMap.1 hk; simp at hy; subst hy
     exact hQ6.out.lt hyk) (fun k hk=>(ru_ids hNRc.out.ru k hk).1) hNRc.out.nd)
    clear rN hrow; refine wpAnyH_ready (rs:=[1,3]) (by as_aux_lemma=>kernel_rfl) (by simp) ?_; refine rdC rfl (fun K hK=>?_) (rdC rfl (fun K hK=>?_) AllReadyH.nil)
    ·go_simp
     have hbz : Below wd.heap.size wd (wd.alloc (.cells #[iv L.op,.bool true,sv L.rel,.slice aw L.args.length cw] 28)):=(Below.refl _ _).alloc (Nat.le_refl _) _; have hHz:=hHeld.alloc hHeld.size (.cells #[iv L.op,.bool true,sv L.rel,.slice aw L.args.length cw] 28); have hzge : w.heap.size ≤ wd.heap.size:=Nat.le_trans hKx.out.fr.size hHeld.size
     have hLr:=hid (show OwnR 28 4 LdR (from_ w.heap.size) (wd.alloc (.cells #[iv L.op,.bool true,sv L.rel,.slice aw L.args.length cw] 28)) (List.map (fun p : Lt × Value=>(p.2.ownBlock,p.1)) [(neg L,.slice aw L.args.length cw)]) (.slice (some ⟨wd.heap.size,0,none⟩) 1 1) from build_lits [(neg L,.slice aw L.args.length cw)] (heap_alloc_new' wd _) (by show 1 ≤ maxLen; decide) hzge (by
      intro p hp; simp only [List.mem_cons,List.not_mem_nil,or_false] at hp; rcases hp with rfl
      exact (hQc.out.below goodFl hHeld).move goodFl fun k hk hk2=>⟨⟨Nat.le_trans hW5s.out hk2,by omega⟩,(Below.heap_alloc _ _ _ hk)⟩))
     clear hzge; generalize wd.alloc (.cells #[iv L.op,.bool true,sv L.rel,.slice aw L.args.length cw] 28) = u1 at *; refine hK.out _ _ ?_ (fun hHeld2=>?_)
     ·exact hHz
     clear hK K; clear hHeld; have hHeld:=hHeld2; clear hHeld2
     try simp only [Act.put,sI,sZ,sS]
     clear hHz; refine wTk (i:=4) (v:=?_) rfl ?hy ?_
     case hy =>
      intro w hSw
      skip
      go_simp
      all_goals with_reducible rfl
     try simp only [Act.put,sI,sZ,sS]
     refine wpAnyH_ready (rs:=[3]) (by as_aux_lemma=>kernel_rfl) (by simp) ?_; refine rdY rfl (fun K hK=>?_); go_simp; have hbz : Below u1.heap.size u1 (u1.alloc (.cells #[iv rx.head.2.op,.bool rx.head.2.nt,sv rx.head.2.rel,.slice xa rx.head.2.args.length xc,iv rx.agg,iv rx.at_,.slice ya rx.body.length yc] 38)):=(Below.refl _ _).alloc (Nat.le_refl _) _; have hHz:=hHeld.alloc hHeld.size (.cells #[iv rx.head.2.op,.bool rx.head.2.nt,sv rx.head.2.rel,.slice xa rx.head.2.args.length xc,iv rx.agg,iv rx.at_,.slice ya rx.body.length yc] 38); have hzge : w.heap.size ≤ u1.heap.size:=Nat.le_trans hKx.out.fr.size hHeld.size
     have hRr:=hid (show OwnR 38 7 RuR (from_ w.heap.size) (u1.alloc (.cells #[iv rx.head.2.op,.bool rx.head.2.nt,sv rx.head.2.rel,.slice xa rx.head.2.args.length xc,iv rx.agg,iv rx.at_,.slice ya rx.body.length yc] 38)) [rx] (.slice (some ⟨u1.heap.size,0,none⟩) 1 1) from build_rule (goodRu.below hNRc.out.ru hHeld) (fun k hk hk2=>Nat.le_trans hW6s.out hk2.1) hzge); clear hzge; have hLr':=hid (hLr.out.below goodLd hbz); clear hLr; have hLr:=hLr'; clear hLr'; generalize u1.alloc (.cells #[iv rx.head.2.op,.bool rx.head.2.nt,sv rx.head.2.rel,.slice xa rx.head.2.args.length xc,iv rx.agg,iv rx.at_,.slice ya rx.body.length yc] 38) = u2 at *; refine hK.out _ _ ?_ (fun hHeld2=>?_)
     ·exact hHz
     clear hK K; clear hHeld; have hHeld:=hHeld2; clear hHeld2
     try simp only [Act.put,sI,sZ,sS]
     clear hHz; refine wTk (i:=5) (v:=?_) rfl ?hy ?_
     case hy =>
      intro w hSw
      skip
      go_simp
      all_goals with_reducible rfl
     try simp only [Act.put,sI,sZ,sS]
     refine wTk (i:=6) (v:=?_) rfl ?hy ?_
     case hy =>
      intro w hSw
      skip
      go_simp
      all_goals with_reducible rfl
     try simp only [Act.put,sI,sZ,sS]
     refine wpAnyH_done (by as_aux_lemma=>kernel_rfl) ?_ _; have hKe:=hid (hKx.out.below hHeld)
     go_wp2_with fail
     refine bodyPost_ret (results_tmp3 Tryz.results60 _ _ _) rfl ⟨by rw [hR.out]; exact hKe.out.pm,hKe.out.fr,?_⟩; rw [hR.out]; exact ⟨_,_,_,_,rfl,hLr.out,hRr.out,by rw [show neverF t3 t4 rl l b x = ([neg (withF rl l [x])],[⟨withF rl l [t3],0,0,[happensF t3,timedF t4 l,besideF b t4 t3]⟩]) from rfl,← hL.out]; rfl,by rw [show neverF t3 t4 rl l b x = ([neg (withF rl l [x])],[⟨withF rl l [t3],0,0,[happensF t3,timedF t4 l,besideF b t4 t3]⟩]) from rfl,← hru.out]; rfl,hND.out⟩
    ·go_simp
     have hbz : Below wd.heap.size wd (wd.alloc (.cells #[iv rx.head.2.op,.bool rx.head.2.nt,sv rx.head.2.rel,.slice xa rx.head.2.args.length xc,iv rx.agg,iv rx.at_,.slice ya rx.body.length yc] 38)):=(Below.refl _ _).alloc (Nat.le_refl _) _; have hHz:=hHeld.alloc hHeld.size (.cells #[iv rx.head.2.op,.bool rx.head.2.nt,sv rx.head.2.rel,.slice xa rx.head.2.args.length xc,iv rx.agg,iv rx.at_,.slice ya rx.body.length yc] 38); have hzge : w.heap.size ≤ wd.heap.size:=Nat.le_trans hKx.out.fr.size hHeld.size
     have hRr:=hid (show OwnR 38 7 RuR (from_ w.heap.size) (wd.alloc (.cells #[iv rx.head.2.op,.bool rx.head.2.nt,sv rx.head.2.rel,.slice xa rx.head.2.args.length xc,iv rx.agg,iv rx.at_,.slice ya rx.body.length yc] 38)) [rx] (.slice (some ⟨wd.heap.size,0,none⟩) 1 1) from build_rule (goodRu.below hNRc.out.ru hHeld) (fun k hk hk2=>Nat.le_trans hW6s.out hk2.1) hzge); clear hzge; generalize wd.alloc (.cells #[iv rx.head.2.op,.bool rx.head.2.nt,sv rx.head.2.rel,.slice xa rx.head.2.args.length xc,iv rx.agg,iv rx.at_,.slice ya rx.body.length yc] 38) = u1 at *; refine hK.out _ _ ?_ (fun hHeld2=>?_)
     ·exact hHz
     clear hK K; clear hHeld; have hHeld:=hHeld2; clear hHeld2
     try simp only [Act.put,sI,sZ,sS]
     clear hHz; refine wpAnyH_ready (rs:=[1]) (by as_aux_lemma=>kernel_rfl) (by simp) ?_; refine rdY rfl (fun K hK=>?_); go_simp; have hbz : Below u1.heap.size u1 (u1.alloc (.cells #[iv L.op,.bool true,sv L.rel,.slice aw L.args.length cw] 28)):=(Below.refl _ _).alloc (Nat.le_refl _) _; have hHz:=hHeld.alloc hHeld.size (.cells #[iv L.op,.bool true,sv L.rel,.slice aw L.args.length cw] 28); have hzge : w.heap.size ≤ u1.heap.size:=Nat.le_trans hKx.out.fr.size hHeld.size
     have hLr:=hid (show OwnR 28 4 LdR (from_ w.heap.size) (u1.alloc (.cells #[iv L.op,.bool true,sv L.rel,.slice aw L.args.length cw] 28)) (List.map (fun p : Lt × Value=>(p.2.ownBlock,p.1)) [(neg L,.slice aw L.args.length cw)]) (.slice (some ⟨u1.heap.size,0,none⟩) 1 1) from build_lits [(neg L,.slice aw L.args.length cw)] (heap_alloc_new' u1 _) (by show 1 ≤ maxLen; decide) hzge (by
      intro p hp; simp only [List.mem_cons,List.not_mem_nil,or_false] at hp; rcases hp with rfl
      exact (hQc.out.below goodFl hHeld).move goodFl fun k hk hk2=>⟨⟨Nat.le_trans hW5s.out hk2,by omega⟩,(Below.heap_alloc _ _ _ hk)⟩))
     clear hzge; have hRr':=hid (hRr.out.below goodRu hbz); clear hRr; have hRr:=hRr'; clear hRr'; generalize u1.alloc (.cells #[iv L.op,.bool true,sv L.rel,.slice aw L.args.length cw] 28) = u2 at *; refine hK.out _ _ ?_ (fun hHeld2=>?_)
     ·exact hHz
     clear hK K; clear hHeld; have hHeld:=hHeld2; clear hHeld2
     try simp only [Act.put,sI,sZ,sS]
     clear hHz; refine wTk (i:=4) (v:=?_) rfl ?hy ?_
     case hy =>
      intro w hSw
      skip
      go_simp
      all_goals with_reducible rfl
     try simp only [Act.put,sI,sZ,sS]
     refine wTk (i:=5) (v:=?_) rfl ?hy ?_
     case hy =>
      intro w hSw
      skip
      go_simp
      all_goals with_reducible rfl
     try simp only [Act.put,sI,sZ,sS]
     refine wTk (i:=6) (v:=?_) rfl ?hy ?_
     case hy =>
      intro w hSw
      skip
      go_simp
      all_goals with_reducible rfl
     try simp only [Act.put,sI,sZ,sS]
     refine wpAnyH_done (by as_aux_lemma=>kernel_rfl) ?_ _; have hKe:=hid (hKx.out.below hHeld)
     go_wp2_with fail
     refine bodyPost_ret (results_tmp3 Tryz.results60 _ _ _) rfl ⟨by rw [hR.out]; exact hKe.out.pm,hKe.out.fr,?_⟩; rw [hR.out]; exact ⟨_,_,_,_,rfl,hLr.out,hRr.out,by rw [show neverF t3 t4 rl l b x = ([neg (withF rl l [x])],[⟨withF rl l [t3],0,0,[happensF t3,timedF t4 l,besideF b t4 t3]⟩]) from rfl,← hL.out]; rfl,by rw [show neverF t3 t4 rl l b x = ([neg (withF rl l [x])],[⟨withF rl l [t3],0,0,[happensF t3,timedF t4 l,besideF b t4 t3]⟩]) from rfl,← hru.out]; rfl,hND.out⟩
end Go.Proofs.YtbkdakbhagjkhaaGreatDoor
