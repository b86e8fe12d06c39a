/- ask: since. -/
import Derived.Test.YtbkdakbhagjkhaaGreatDoorAskP
set_option linter.unusedVariables false
set_option linter.unusedSimpArgs false
namespace Go.Proofs.YtbkdakbhagjkhaaGreatDoor
open Go.RowKit
open Go.Lib (hid itoa)
def sinceA (ts : List Tw) : Option Lt × PSt → Option (List Lt × List Ru) × PSt
 | (none,s)=>(none,s)
 | (some l,s)=>if isP ts s 1 [110,111] then sinceM ts l (atomP ts (nextP s)) else (none,failP s)
theorem since_eq (ts : List Tw) (st : PSt) : sinceP ts st = sinceA ts (atomP ts st):=by
 unfold sinceP; generalize atomP ts st = r; obtain ⟨o,s⟩:=r; cases o <;> rfl
theorem nodup_aux2 {x : RuD} {B C : Nat} {xs : List (Option Nat × Lt)} (hn : (idsL xs).Nodup) (ha : ∀ k ∈ idsL xs,k < B ∨ C ≤ k) (hx : ∀ k ∈ x.ids,B ≤ k ∧ k < C) (hd : x.ids.Nodup) : (idsL xs ++ [x].flatMap RuD.ids).Nodup:=by
 rw [List.nodup_append]; refine ⟨hn,by simpa using hd,fun k hk j hj=>?_⟩; have h1:=ha k hk; have h2:=hx j (by simpa using hj); omega
theorem since_nd {ps : List (Lt × Value)} {p : Lt × Value} {C : Nat} (h1 : (ps.filterMap fun p=>p.2.ownBlock).Nodup) (h2 : ∀ q ∈ ps,∀ k,q.2.ownBlock = some k → C ≤ k) (h3 : ∀ k,p.2.ownBlock = some k → k < C) : (idsL ((ps ++ [p]).map fun p=>(p.2.ownBlock,p.1))).Nodup:=by
 rw [idsL_map,List.filterMap_append,List.nodup_append]; refine ⟨h1,by cases hv : p.2.ownBlock <;> simp [hv],fun a ha b hb=>?_⟩; obtain ⟨q,hq,hqa⟩:=List.mem_filterMap.1 ha; obtain ⟨q2,hq2,hqb⟩:=List.mem_filterMap.1 hb; simp at hq2; subst hq2; have:=h2 q hq a hqa; have:=h3 b hqb; omega
theorem since_or {ps : List (Lt × Value)} {p : Lt × Value} {B C : Nat} (h2 : ∀ q ∈ ps,∀ k,q.2.ownBlock = some k → C ≤ k) (h3 : ∀ k,p.2.ownBlock = some k → k < B) : ∀ k ∈ idsL ((ps ++ [p]).map fun p=>(p.2.ownBlock,p.1)),k < B ∨ C ≤ k:=by
 intro k hk; rw [idsL_map] at hk; obtain ⟨q,hq,hqk⟩:=List.mem_filterMap.1 hk; rcases List.mem_append.1 hq with hq | hq
 ·exact Or.inr (h2 q hq k hqk)
 ·simp at hq; subst hq; exact Or.inl (h3 k hqk)
theorem NR.ru_lt {W cur : World} {RB : Nat} {x : RuD} {hv bv : Value} (h : NR W RB x hv bv cur) : ∀ k ∈ x.ids,k < cur.heap.size:=by
 obtain ⟨v1,v2,e,h1,ho,h2,hb⟩:=h.ru; intro k hk; unfold RuD.ids at hk; rcases List.mem_append.1 hk with hk | hk
 ·rw [← h1] at hk; exact ho.lt (by simpa using hk)
 ·rcases List.mem_append.1 hk with hk | hk
  ·rw [← h2] at hk; exact hb.lt (by simpa using hk)
  ·obtain ⟨y,hy,hyk⟩:=List.mem_filterMap.1 hk
   obtain ⟨i,hi⟩:=List.mem_iff_getElem?.1 hy; obtain ⟨xs,g1,g2,g3⟩:=hb; obtain ⟨cs,h4,u,rfl,hu,hoo⟩:=g3 i y hi; exact hoo.lt (hu.trans hyk)
set_option maxHeartbeats 8000000 in
set_option maxRecDepth 100000 in
theorem since_any (pb : Nat) (K : PK) (st : PSt) (w : World) (h : PM pb K st w) (hT : TabN pb w) (hN : NamesOk K) (hv : st.vars + 4 * (K.toks.length + 1) ≤ 4611686018427387904) (hv2 : st.rels + 4 * (K.toks.length + 1) ≤ 4611686018427387904) :
  Calls Tryz.prog 61 #[pt pb] w (PAux pb K w (sinceP K.ts st)):=by
 obtain ⟨R,hR⟩ : ∃ R,R = sinceP K.ts st:=⟨_,rfl⟩; rw [← hR]; rw [since_eq] at hR; replace hR:=hid hR; have hK0:=hid (Kp.start h); have hpl:=h.lt
 have htl : K.ts.length = K.toks.length:=by unfold PK.ts; rw [List.length_map]
 replace hN:=hid hN; replace hT:=hid hT; replace htl:=hid htl; have hat:=hid (atom_x pb K (st) w hK0.out.pm); have hkA1:=atomP_keep K.ts (st); have hokA1:=atomP_ok K.ts (fun i=>(hK0.out.pm.tok_ok i).2.2) (st); obtain ⟨ra1,hra1⟩ : ∃ ra,ra = atomP K.ts (st):=⟨_,rfl⟩; rw [← hra1] at hat hkA1 hokA1; replace hR:=hR.out; rw [← hra1] at hR; replace hR:=hid hR; replace hra1:=hid hra1; obtain ⟨ol1,s1⟩:=ra1; replace hkA1:=hid (show Keep (st) s1 from hkA1); replace hokA1:=hid (show ∀ l,ol1 = some l → (∀ t ∈ l.args,t.var.length ≤ 1048576) ∧ l.args.length + (st).nx < s1.nx from hokA1); obtain ⟨z1,hz1⟩ : ∃ z,ol1.isSome = z:=⟨_,rfl⟩
 replace hat:=hid (show Calls Tryz.prog 37 #[pt pb] w fun e w'=>∃ (op : Int) (nt : Bool) (rel : List UInt8) (a : Option Addr) (n c : Nat),e = .returned (.tuple #[.agg (lcells op nt rel (.slice a n c)),.bool z1]) ∧ (∀ l,ol1 = some l → op = l.op ∧ nt = l.nt ∧ rel = l.rel ∧ n = l.args.length ∧ OwnR 44 7 FlR (from_ (w).heap.size) w' l.args (.slice a l.args.length c)) ∧ PM pb K s1 w' ∧ Fr (one pb) w w' from by rw [← hz1]; exact hat.out); replace hz1:=hid hz1
 go_enter Tryz.func61,Tryz.ntmps61
 go_wp2_with fail
 with_reducible refine hat.out.mono ?_
 rintro e w1 ⟨op1,nt1,rel1,a1,n1,c1,rfl,hl1,hM1,hf1⟩; have hK1:=hid ((hK0.out.call hM1 hf1).alloc (.cells (lcells op1 nt1 rel1 (.slice a1 n1 c1)) 28)); have hT1:=hid ((hT.out.fr hf1).below ((Below.refl _ w1).alloc (Nat.le_refl _) (.cells (lcells op1 nt1 rel1 (.slice a1 n1 c1)) 28))); have hsz1:=hid hf1.size; clear hM1 hf1 hat; replace hl1:=hid hl1; clear hT h
 cases ol1 with
 | none =>
  have hz' : false = z1:=hz1.out; subst hz'; replace hR:=hid (show R = (none,s1) from hR.out)
  go_wp2_with fail
  refine bodyPost_ret (results_tmp3 Tryz.results61 _ _ _) rfl ⟨by rw [hR.out]; exact hK1.out.pm,hK1.out.fr,?_⟩; rw [hR.out]; rfl
 | some l =>
  have hz' : true = z1:=hz1.out; subst hz'; obtain ⟨rfl,rfl,rfl,rfl,hO⟩:=hl1.out l rfl; have hO1:=hid (hO.below goodFl ((Below.refl _ w1).alloc (Nat.le_refl _) (.cells (lcells l.op l.nt l.rel (.slice a1 l.args.length c1)) 28))); clear hO hl1; obtain ⟨z21,hz21⟩ : ∃ z,isP K.ts (s1) 1 [110,111] = z:=⟨_,rfl⟩; have hmk21:=hid (pword_any pb K (s1) [110,111] _ hK1.out.pm)
  have hT21 : takeP K.ts (s1) 1 [110,111] = if z21 then (true,nextP (s1)) else (false,(s1)):=by unfold takeP; rw [hz21]
  rw [hT21] at hmk21; clear hT21; replace hz21:=hid hz21; replace hR:=hid (show R = if z21 = true then sinceM K.ts l (atomP K.ts (nextP s1)) else (none,failP s1) from by rw [← hz21.out]; exact hR.out)
  go_wp2_with fail
  with_reducible refine hmk21.out.mono ?_
  rintro e x1 ⟨rfl,hM21,hf21⟩; have hKx1:=hid (hK1.out.call hM21 hf21); have hTx1:=hid (hT1.out.fr hf21); replace hO1:=hid (hO1.out.fr goodFl hf21 (fun q hq e=>by unfold one at e; unfold from_ at hq; omega)); clear hmk21 hM21 hf21
  cases z21 with
  | false =>
   replace hR:=hid (show R = (none,failP s1) from hR.out); replace hKx1:=hid (show Kp pb K s1 w x1 _ from hKx1.out); have hfl:=hid (fail_any pb K _ x1 hKx1.out.pm)
   go_wp2_with fail
   with_reducible refine hfl.out.mono ?_
   rintro e w30 ⟨rfl,hM30,hf30⟩; have hKf:=hid (hKx1.out.call hM30 hf30); clear hM30 hf30 hfl
   go_wp2_with fail
   refine bodyPost_ret (results_tmp3 Tryz.results61 _ _ _) rfl ⟨by rw [hR.out]; exact hKf.out.pm,hKf.out.fr,?_⟩; rw [hR.out]; rfl
  | true =>
   replace hR:=hid (show R = sinceM K.ts l (atomP K.ts (nextP s1)) from hR.out); replace hKx1:=hid (show Kp pb K (nextP s1) w x1 _ from hKx1.out); have hat:=hid (atom_x pb K (nextP s1) x1 hKx1.out.pm); have hkA2:=atomP_keep K.ts (nextP s1); have hokA2:=atomP_ok K.ts (fun i=>(hKx1.out.pm.tok_ok i).2.2) (nextP s1); obtain ⟨ra2,hra2⟩ : ∃ ra,ra = atomP K.ts (nextP s1):=⟨_,rfl⟩; rw [← hra2] at hat hkA2 hokA2; replace hR:=hR.out; rw [← hra2] at hR; replace hR:=hid hR; replace hra2:=hid hra2; obtain ⟨ol2,s2⟩:=ra2; replace hkA2:=hid (show Keep (nextP s1) s2 from hkA2); replace hokA2:=hid (show ∀ l,ol2 = some l → (∀ t ∈ l.args,t.var.length ≤ 1048576) ∧ l.args.length + (nextP s1).nx < s2.nx from hokA2); obtain ⟨z2,hz2⟩ : ∃ z,ol2.isSome = z:=⟨_,rfl⟩
   replace hat:=hid (show Calls Tryz.prog 37 #[pt pb] x1 fun e w'=>∃ (op : Int) (nt : Bool) (rel : List UInt8) (a : Option Addr) (n c : Nat),e = .returned (.tuple #[.agg (lcells op nt rel (.slice a n c)),.bool z2]) ∧ (∀ l,ol2 = some l → op = l.op ∧ nt = l.nt ∧ rel = l.rel ∧ n = l.args.length ∧ OwnR 44 7 FlR (from_ (x1).heap.size) w' l.args (.slice a l.args.length c)) ∧ PM pb K s2 w' ∧ Fr (one pb) x1 w' from by rw [← hz2]; exact hat.out); replace hz2:=hid hz2
   go_wp2_with fail
   with_reducible refine hat.out.mono ?_
   rintro e w2 ⟨op2,nt2,rel2,a2,n2,c2,rfl,hl2,hM2,hf2⟩; have hK2:=hid ((hKx1.out.call hM2 hf2).alloc (.cells (lcells op2 nt2 rel2 (.slice a2 n2 c2)) 28)); have hT2:=hid ((hTx1.out.fr hf2).below ((Below.refl _ w2).alloc (Nat.le_refl _) (.cells (lcells op2 nt2 rel2 (.slice a2 n2 c2)) 28))); have hsz2:=hid hf2.size; replace hO1:=hid ((hO1.out.fr goodFl hf2 (fun q hq e=>by unfold one at e; unfold from_ at hq; omega)).below goodFl ((Below.refl _ w2).alloc (Nat.le_refl _) (.cells (lcells op2 nt2 rel2 (.slice a2 n2 c2)) 28))); clear hM2 hf2 hat; replace hl2:=hid hl2
   cases ol2 with
   | none =>
    have hz' : false = z2:=hz2.out; subst hz'; replace hR:=hid (show R = (none,s2) from hR.out)
    go_wp2_with fail
    refine bodyPost_ret (results_tmp3 Tryz.results61 _ _ _) rfl ⟨by rw [hR.out]; exact hK2.out.pm,hK2.out.fr,?_⟩; rw [hR.out]; rfl
   | some m =>
    have hz' : true = z2:=hz2.out; subst hz'; obtain ⟨rfl,rfl,rfl,rfl,hO⟩:=hl2.out m rfl; have hO2:=hid (hO.below goodFl ((Below.refl _ w2).alloc (Nat.le_refl _) (.cells (lcells m.op m.nt m.rel (.slice a2 m.args.length c2)) 28))); clear hO hl2; have hO2':=hid (hO2.out.mono goodFl (T:=from_ w.heap.size) (fun k _ hk=>Nat.le_trans hKx1.out.fr.size hk)); clear hO2; have hO2:=hO2'; clear hO2'; obtain ⟨z22,hz22⟩ : ∃ z,isP K.ts (s2) 1 [97,116] = z:=⟨_,rfl⟩; have hmk22:=hid (pword_any pb K (s2) [97,116] _ hK2.out.pm)
    have hT22 : takeP K.ts (s2) 1 [97,116] = if z22 then (true,nextP (s2)) else (false,(s2)):=by unfold takeP; rw [hz22]
    rw [hT22] at hmk22; clear hT22; replace hz22:=hid hz22; replace hR:=hid (show R = if z22 = true then sinceE K.ts l m (termP K.ts (nextP s2)) else (none,failP s2) from by rw [← hz22.out]; exact hR.out)
    go_wp2_with fail
    with_reducible refine hmk22.out.mono ?_
    rintro e x2 ⟨rfl,hM22,hf22⟩; have hKx2:=hid (hK2.out.call hM22 hf22); have hTx2:=hid (hT2.out.fr hf22); replace hO1:=hid (hO1.out.fr goodFl hf22 (fun q hq e=>by unfold one at e; unfold from_ at hq; omega)); replace hO2:=hid (hO2.out.fr goodFl hf22 (fun q hq e=>by unfold one at e; unfold from_ at hq; omega)); clear hmk22 hM22 hf22
    cases z22 with
    | false =>
     replace hR:=hid (show R = (none,failP s2) from hR.out); replace hKx2:=hid (show Kp pb K s2 w x2 _ from hKx2.out); have hfl:=hid (fail_any pb K _ x2 hKx2.out.pm)
     go_wp2_with fail
     with_reducible refine hfl.out.mono ?_
     rintro e w30 ⟨rfl,hM30,hf30⟩; have hKf:=hid (hKx2.out.call hM30 hf30); clear hM30 hf30 hfl
     go_wp2_with fail
     refine bodyPost_ret (results_tmp3 Tryz.results61 _ _ _) rfl ⟨by rw [hR.out]; exact hKf.out.pm,hKf.out.fr,?_⟩; rw [hR.out]; rfl
    | true =>
     replace hR:=hid (show R = sinceE K.ts l m (termP K.ts (nextP s2)) from hR.out); replace hKx2:=hid (show Kp pb K (nextP s2) w x2 _ from hKx2.out); have hkT:=termP_keep K.ts (nextP s2); obtain ⟨ro3,hro3⟩ : ∃ ro,ro = termP K.ts (nextP s2):=⟨_,rfl⟩; have hte:=hid (term_x pb K (nextP s2) x2 hKx2.out.pm); rw [← hro3] at hte; replace hR:=hR.out; rw [← hro3] at hR; replace hR:=hid hR; replace hro3:=hid hro3; obtain ⟨ot3,s3⟩:=ro3; replace hte:=hid (show Calls Tryz.prog 64 #[pt pb] x2 fun e w'=>∃ x : Tm,e = .returned (.tuple #[.agg (fcells x),.bool ot3.isSome]) ∧ (∀ t,ot3 = some t → t = x) ∧ PM pb K s3 w' ∧ Fr (one pb) x2 w' from hte.out); rw [← hro3.out] at hkT; replace hkT:=hid (show Keep (nextP s2) s3 from hkT); obtain ⟨z3,hz3⟩ : ∃ z,ot3.isSome = z:=⟨_,rfl⟩; rw [hz3] at hte
     replace hz3:=hid hz3
     go_wp2_with fail
     with_reducible refine hte.out.mono ?_
     rintro e w3 ⟨a,rfl,hx3,hM3,hf3⟩; have hK3:=hid ((hKx2.out.call hM3 hf3).alloc (.cells (fcells a) 44)); have hT3:=hid ((hTx2.out.fr hf3).below ((Below.refl _ w3).alloc (Nat.le_refl _) (.cells (fcells a) 44))); have hsz3:=hid hf3.size; replace hO1:=hid ((hO1.out.fr goodFl hf3 (fun q hq e=>by unfold one at e; unfold from_ at hq; omega)).below goodFl ((Below.refl _ w3).alloc (Nat.le_refl _) (.cells (fcells a) 44))); replace hO2:=hid ((hO2.out.fr goodFl hf3 (fun q hq e=>by unfold one at e; unfold from_ at hq; omega)).below goodFl ((Below.refl _ w3).alloc (Nat.le_refl _) (.cells (fcells a) 44))); replace hx3:=hid hx3; clear hte hM3 hf3
     cases ot3 with
     | none =>
      have hz' : false = z3:=hz3.out; subst hz'; replace hR:=hid (show R = (none,s3) from hR.out)
      go_wp2_with fail
      refine bodyPost_ret (results_tmp3 Tryz.results61 _ _ _) rfl ⟨by rw [hR.out]; exact hK3.out.pm,hK3.out.fr,?_⟩; rw [hR.out]; rfl
     | some a' =>
      have hz' : true = z3:=hz3.out; subst hz'; have hxa : a = a':=(hx3.out a' rfl).symm; subst hxa
      have hvs : s3.vars = st.vars:=by rw [hkT.out.vars]; show s2.vars = _; rw [hkA2.out.vars]; show s1.vars = _; rw [hkA1.out.vars]
      have hrs : s3.rels = st.rels:=by rw [hkT.out.rels]; show s2.rels = _; rw [hkA2.out.rels]; show s1.rels = _; rw [hkA1.out.rels]
      replace hvs:=hid hvs; replace hrs:=hid hrs; replace hR:=hid (show R = (some (sinceF (newVarP K.ts s3).1 (newVarP K.ts (newVarP K.ts s3).2).1 (newVarP K.ts (newVarP K.ts (newVarP K.ts s3).2).2).1 (newVarP K.ts (newVarP K.ts (newVarP K.ts (newVarP K.ts s3).2).2).2).1 (newRelP K.ts (newVarP K.ts (newVarP K.ts (newVarP K.ts (newVarP K.ts s3).2).2).2).2).1 l m a),(newRelP K.ts (newVarP K.ts (newVarP K.ts (newVarP K.ts (newVarP K.ts s3).2).2).2).2).2) from hR.out); have hnv:=hid (newVar_any pb K (s3) _ hK3.out.pm hT3.out hN.out (by rw [hvs.out]; omega)); have hnvb4:=newVarP_vars K.ts (s3); obtain ⟨rv4,hrv4⟩ : ∃ rv,rv = newVarP K.ts (s3):=⟨_,rfl⟩; rw [← hrv4] at hnv hnvb4; replace hR:=hR.out; rw [← hrv4] at hR; replace hR:=hid hR; replace hrv4:=hid hrv4; obtain ⟨t4,s4⟩:=rv4
      replace hnvb4:=hid (show s4.vars ≤ (s3).vars + (K.ts.length + 1) ∧ s4.rels = (s3).rels ∧ s4.nx = (s3).nx from hnvb4)
      go_wp2_with fail
      with_reducible refine hnv.out.mono ?_
      rintro e w4 ⟨rfl,hM4,hf4⟩; have hK4:=hid ((hK3.out.call hM4 hf4).alloc (.cells (fcells t4) 44)); have hT4:=hid ((hT3.out.fr hf4).below ((Below.refl _ w4).alloc (Nat.le_refl _) (.cells (fcells t4) 44))); have hsz4:=hid hf4.size; replace hO1:=hid ((hO1.out.fr goodFl hf4 (fun q hq e=>by unfold one at e; unfold from_ at hq; omega)).below goodFl ((Below.refl _ w4).alloc (Nat.le_refl _) (.cells (fcells t4) 44))); replace hO2:=hid ((hO2.out.fr goodFl hf4 (fun q hq e=>by unfold one at e; unfold from_ at hq; omega)).below goodFl ((Below.refl _ w4).alloc (Nat.le_refl _) (.cells (fcells t4) 44))); clear hM4 hf4 hnv
      replace hR:=hid (show R = (some (sinceF t4 (newVarP K.ts s4).1 (newVarP K.ts (newVarP K.ts s4).2).1 (newVarP K.ts (newVarP K.ts (newVarP K.ts s4).2).2).1 (newRelP K.ts (newVarP K.ts (newVarP K.ts (newVarP K.ts s4).2).2).2).1 l m a),(newRelP K.ts (newVarP K.ts (newVarP K.ts (newVarP K.ts s4).2).2).2).2) from hR.out); have hnv:=hid (newVar_any pb K (s4) _ hK4.out.pm hT4.out hN.out (by have h1:=hnvb4.out.1; have h2:=htl.out; rw [hvs.out] at h1; omega)); have hnvb5:=newVarP_vars K.ts (s4); obtain ⟨rv5,hrv5⟩ : ∃ rv,rv = newVarP K.ts (s4):=⟨_,rfl⟩; rw [← hrv5] at hnv hnvb5; replace hR:=hR.out; rw [← hrv5] at hR; replace hR:=hid hR; replace hrv5:=hid hrv5; obtain ⟨t5,s5⟩:=rv5; replace hnvb5:=hid (show s5.vars ≤ (s4).vars + (K.ts.length + 1) ∧ s5.rels = (s4).rels ∧ s5.nx = (s4).nx from hnvb5)
      go_wp2_with fail
      with_reducible refine hnv.out.mono ?_
      rintro e w5 ⟨rfl,hM5,hf5⟩; have hK5:=hid ((hK4.out.call hM5 hf5).alloc (.cells (fcells t5) 44)); have hT5:=hid ((hT4.out.fr hf5).below ((Below.refl _ w5).alloc (Nat.le_refl _) (.cells (fcells t5) 44))); have hsz5:=hid hf5.size; replace hO1:=hid ((hO1.out.fr goodFl hf5 (fun q hq e=>by unfold one at e; unfold from_ at hq; omega)).below goodFl ((Below.refl _ w5).alloc (Nat.le_refl _) (.cells (fcells t5) 44))); replace hO2:=hid ((hO2.out.fr goodFl hf5 (fun q hq e=>by unfold one at e; unfold from_ at hq; omega)).below goodFl ((Below.refl _ w5).alloc (Nat.le_refl _) (.cells (fcells t5) 44))); clear hM5 hf5 hnv
      replace hR:=hid (show R = (some (sinceF t4 t5 (newVarP K.ts s5).1 (newVarP K.ts (newVarP K.ts s5).2).1 (newRelP K.ts (newVarP K.ts (newVarP K.ts s5).2).2).1 l m a),(newRelP K.ts (newVarP K.ts (newVarP K.ts s5).2).2).2) from hR.out); have hnv:=hid (newVar_any pb K (s5) _ hK5.out.pm hT5.out hN.out (by have h1:=hnvb4.out.1; have h3:=hnvb5.out.1; have h2:=htl.out; rw [hvs.out] at h1; omega)); have hnvb6:=newVarP_vars K.ts (s5); obtain ⟨rv6,hrv6⟩ : ∃ rv,rv = newVarP K.ts (s5):=⟨_,rfl⟩; rw [← hrv6] at hnv hnvb6; replace hR:=hR.out; rw [← hrv6] at hR; replace hR:=hid hR; replace hrv6:=hid hrv6; obtain ⟨t6,s6⟩:=rv6; replace hnvb6:=hid (show s6.vars ≤ (s5).vars + (K.ts.length + 1) ∧ s6.rels = (s5).rels ∧ s6.nx = (s5).nx from hnvb6)
      go_wp2_with fail
      with_reducible refine hnv.out.mono ?_
      rintro e w6 ⟨rfl,hM6,hf6⟩; have hK6:=hid ((hK5.out.call hM6 hf6).alloc (.cells (fcells t6) 44)); have hT6:=hid ((hT5.out.fr hf6).below ((Below.refl _ w6).alloc (Nat.le_refl _) (.cells (fcells t6) 44))); have hsz6:=hid hf6.size; replace hO1:=hid ((hO1.out.fr goodFl hf6 (fun q hq e=>by unfold one at e; unfold from_ at hq; omega)).below goodFl ((Below.refl _ w6).alloc (Nat.le_refl _) (.cells (fcells t6) 44))); replace hO2:=hid ((hO2.out.fr goodFl hf6 (fun q hq e=>by unfold one at e; unfold from_ at hq; omega)).below goodFl ((Below.refl _ w6).alloc (Nat.le_refl _) (.cells (fcells t6) 44))); clear hM6 hf6 hnv; replace hR:=hid (show R = (some (sinceF t4 t5 t6 (newVarP K.ts s6).1 (newRelP K.ts (newVarP K.ts s6).2).1 l m a),(newRelP K.ts (newVarP K.ts s6).2).2) from hR.out)
      have hnv:=hid (newVar_any pb K (s6) _ hK6.out.pm hT6.out hN.out (by have h1:=hnvb4.out.1; have h3:=hnvb5.out.1; have h4:=hnvb6.out.1; have h2:=htl.out; rw [hvs.out] at h1; omega)); have hnvb7:=newVarP_vars K.ts (s6); obtain ⟨rv7,hrv7⟩ : ∃ rv,rv = newVarP K.ts (s6):=⟨_,rfl⟩; rw [← hrv7] at hnv hnvb7; replace hR:=hR.out; rw [← hrv7] at hR; replace hR:=hid hR; replace hrv7:=hid hrv7; obtain ⟨t7,s7⟩:=rv7; replace hnvb7:=hid (show s7.vars ≤ (s6).vars + (K.ts.length + 1) ∧ s7.rels = (s6).rels ∧ s7.nx = (s6).nx from hnvb7)
      go_wp2_with fail
      with_reducible refine hnv.out.mono ?_
      rintro e w7 ⟨rfl,hM7,hf7⟩; have hK7:=hid ((hK6.out.call hM7 hf7).alloc (.cells (fcells t7) 44)); have hT7:=hid ((hT6.out.fr hf7).below ((Below.refl _ w7).alloc (Nat.le_refl _) (.cells (fcells t7) 44))); have hsz7:=hid hf7.size; replace hO1:=hid ((hO1.out.fr goodFl hf7 (fun q hq e=>by unfold one at e; unfold from_ at hq; omega)).below goodFl ((Below.refl _ w7).alloc (Nat.le_refl _) (.cells (fcells t7) 44))); replace hO2:=hid ((hO2.out.fr goodFl hf7 (fun q hq e=>by unfold one at e; unfold from_ at hq; omega)).below goodFl ((Below.refl _ w7).alloc (Nat.le_refl _) (.cells (fcells t7) 44))); clear hM7 hf7 hnv; replace hR:=hid (show R = (some (sinceF t4 t5 t6 t7 (newRelP K.ts s7).1 l m a),(newRelP K.ts s7).2) from hR.out)
      have hnr:=hid (newRel_any pb K (s7) _ hK7.out.pm hT7.out hN.out (by rw [hnvb7.out.2.1,hnvb6.out.2.1,hnvb5.out.2.1,hnvb4.out.2.1,hrs.out]; omega)); have hnrl:=freshRel_len K (s7) (by rw [hnvb7.out.2.1,hnvb6.out.2.1,hnvb5.out.2.1,hnvb4.out.2.1,hrs.out]; omega); obtain ⟨rv8,hrv8⟩ : ∃ rv,rv = newRelP K.ts (s7):=⟨_,rfl⟩; rw [← hrv8] at hnr hnrl; replace hR:=hR.out; rw [← hrv8] at hR; replace hR:=hid hR; replace hrv8:=hid hrv8; obtain ⟨rl,s8⟩:=rv8; replace hR:=hid (show R = (some (sinceF t4 t5 t6 t7 rl l m a),s8) from hR.out)
      go_wp2_with fail
      with_reducible refine hnr.out.mono ?_
      rintro e w8 ⟨rfl,hM8,hf8⟩; have hK8:=hid (hK7.out.call hM8 hf8); have hsz8:=hid hf8.size; replace hO1:=hid (hO1.out.fr goodFl hf8 (fun q hq e=>by unfold one at e; unfold from_ at hq; omega)); replace hO2:=hid (hO2.out.fr goodFl hf8 (fun q hq e=>by unfold one at e; unfold from_ at hq; omega)); clear hM8 hf8 hnr; replace hnrl:=hid (show rl.length ≤ 1048576 from hnrl); have hvar:=hid (hokA2.out m rfl).1
      have hal : m.args.length + 2 ≤ 1048576:=by have h1:=(hokA2.out m rfl).2; have h2:=hK2.out.pm.nx; have h3:=hK2.out.pm.len; have h4:=(hokA1.out l rfl).2; have h5 : (nextP s1).nx = s1.nx + 1:=rfl; omega
      have hall : l.args.length ≤ 1048575:=by have h1:=(hokA1.out l rfl).2; have h2:=hK1.out.pm.nx; have h3:=hK1.out.pm.len; omega
      have rX8:=hK8.out.nth (i:=3) (b:=w4.heap.size) (o:=.cells (fcells t4) 44 (0,0)) rfl; have rA8:=hK8.out.nth (i:=4) (b:=w3.heap.size) (o:=.cells (fcells a) 44 (0,0)) rfl; have rM8:=hK8.out.nth (i:=5) (b:=w2.heap.size) (o:=.cells (lcells m.op m.nt m.rel (.slice a2 m.args.length c2)) 28 (0,0)) rfl; have hb9 : Below w8.heap.size w8 (w8.alloc (.cells #[sv t4.var,iv t4.val.kind,sv t4.val.t,iv t4.val.n,iv t4.val.m,sv t4.val.s,.slice none 0 0,sv a.var,iv a.val.kind,sv a.val.t,iv a.val.n,iv a.val.m,sv a.val.s,.slice none 0 0] 44)):=(Below.refl _ w8).alloc (Nat.le_refl _) _
      obtain ⟨W8,hW8⟩ : ∃ W8,W8 = w8.alloc (.cells #[sv t4.var,iv t4.val.kind,sv t4.val.t,iv t4.val.n,iv t4.val.m,sv t4.val.s,.slice none 0 0,sv a.var,iv a.val.kind,sv a.val.t,iv a.val.n,iv a.val.m,sv a.val.s,.slice none 0 0] 44):=⟨_,rfl⟩
      have hTV : OwnR 44 7 FlR (fun _=>True) W8 [t4,a] (.slice (some ⟨w8.heap.size,0,none⟩) 2 2):=by rw [hW8]; exact own_tms (l:=[t4,a]) (heap_alloc_new' w8 _) (by show 2 ≤ maxLen; decide) trivial
      rw [← hW8] at hb9; obtain ⟨L,hL⟩ : ∃ L,L = withF rl m [t4,a]:=⟨_,rfl⟩; have hwc:=hid (show Calls Tryz.prog 79 #[sv rl,.agg (lcells m.op m.nt m.rel (.slice a2 m.args.length c2)),.slice (some ⟨w8.heap.size,0,none⟩) 2 2] W8 (PL1 W8 L) from hL ▸ with_any rl m [t4,a] _ _ _ (.slice (some ⟨w8.heap.size,0,none⟩) 2 2) _ ((hO2.out.below goodFl hb9).sl goodFl) (hTV.sl goodFl) (by show 2 + _ ≤ _; omega) hvar.out); obtain ⟨v0,v1,v2,v3,v4,v5,v6,vz⟩:=tm_cells (rX8); clear vz; obtain ⟨g0,g1,g2,g3,g4,g5,g6,gz⟩:=tm_cells (rA8); clear gz; obtain ⟨k0,k1,k2,k3,kz⟩:=lt_cells (rM8); clear kz; replace hb9:=hid hb9; replace hL:=hid hL; have hW8s:=hid (show W8.heap.size = w8.heap.size + 1 from by rw [hW8]; simp); clear hTV
      go_wp2_with fail
      rw [← hW8]; replace hW8:=hid hW8
      with_reducible refine hwc.out.mono ?_
      intro e w9 hP; obtain ⟨aw,cw,rfl,hQw,hbw⟩:=PL1.open hP; clear hP hwc v0 v1 v2 v3 v4 v5 v6 g0 g1 g2 g3 g4 g5 g6 k0 k1 k2 k3; have hb10:=(hb9.out.trans (hbw.mono hb9.out.size)); have hK9:=hid ((hK8.out.below hb10).alloc (.cells (lcells L.op true L.rel (.slice aw L.args.length cw)) 28)); have hbA : Below w9.heap.size w9 (w9.alloc (.cells (lcells L.op true L.rel (.slice aw L.args.length cw)) 28)):=(Below.refl _ w9).alloc (Nat.le_refl _) _; have hO9:=hid ((hO2.out.below goodFl hb10).below goodFl hbA); have hP9:=hid ((hO1.out.below goodFl hb10).below goodFl hbA); have hQ9:=hid (hQw.below goodFl hbA); have hsz9:=hid (show w8.heap.size < w9.heap.size from by have:=hbw.size; have:=hW8s.out; omega); clear hbw hb10 hQw hb9 hbA hO1 hO2
      go_upto_region 21 with (fail)
      generalize hW9 : w9.alloc (.cells (lcells L.op true L.rel (.slice aw L.args.length cw)) 28) = W9 at *; clear hW9
      obtain ⟨NR0,hNR0⟩ : ∃ NR0 : World → Nat → RuD → Value → Value → Prop,NR0 = fun wx RB x hv bv=>NR W9 RB x hv bv wx ∧ x.ru = ⟨withF rl m [t5,t6],0,0,[timedF t7 m,happensF t5,happensF t6,compareF 3 t5 t7,compareF 4 t7 t6]⟩:=⟨_,rfl⟩
      replace hNR0:=hid hNR0
      go_cut [15] (fun p wx=>∃ RB x hv bv,p = pt RB ∧ Hid (NR0 wx RB x hv bv))
      case first =>
       have hS:=hid (RS.start W9); have rW:=hK9.out.nth (i:=1) (b:=w7.heap.size) (o:=.cells (fcells t7) 44 (0,0)) rfl; have rZ:=hK9.out.nth (i:=2) (b:=w6.heap.size) (o:=.cells (fcells t6) 44 (0,0)) rfl; have rY:=hK9.out.nth (i:=3) (b:=w5.heap.size) (o:=.cells (fcells t5) 44 (0,0)) rfl; have rM:=hK9.out.nth (i:=6) (b:=w2.heap.size) (o:=.cells (lcells m.op m.nt m.rel (.slice a2 m.args.length c2)) 28 (0,0)) rfl; have hO9d:=hid (hO9.out.below goodFl ((Below.refl _ W9).drew)); clear hO9; have hO9:=hO9d; clear hO9d
       have hal1 : [t5,t6].length + m.args.length ≤ 1048576:=by show 2 + _ ≤ _; omega
       have hal2 : m.args.length ≤ 1048575:=by omega
       refine wp_region_held_drew (S:=fun w'=>Below W9.heap.size W9 w') (by kernel_rfl) ?_ (fun hHeld=>?_)
       ·exact (Below.refl _ W9).drew
       generalize W9.drew = wd at *; refine wTk (i:=0) (v:=?_) rfl ?hy ?_
       case hy =>
        intro w hSw
        skip
        go_simp
        all_goals with_reducible rfl
       try simp only [Act.put,sI,sZ,sS]
       refine wTk (i:=1) (v:=?_) rfl ?hy ?_
       case hy =>
        intro w hSw; obtain ⟨v0,v1,v2,v3,-⟩:=lt_cells (below_keep hSw rM (lt_of_heap rM)); go_simp
        all_goals with_reducible rfl
       try simp only [Act.put,sI,sZ,sS]
       refine wTk (i:=2) (v:=?_) rfl ?hy ?_
       case hy =>
        intro w hSw; obtain ⟨v0,v1,v2,v3,v4,v5,v6,-⟩:=tm_cells (below_keep hSw rY (lt_of_heap rY)); go_simp
        all_goals with_reducible rfl
       try simp only [Act.put,sI,sZ,sS]
       refine wTk (i:=3) (v:=?_) rfl ?hy ?_
       case hy =>
        intro w hSw; obtain ⟨v0,v1,v2,v3,v4,v5,v6,-⟩:=tm_cells (below_keep hSw rZ (lt_of_heap rZ)); go_simp
        all_goals with_reducible rfl
       try simp only [Act.put,sI,sZ,sS]
       refine wTk (i:=6) (v:=?_) rfl ?hy ?_
       case hy =>
        intro w hSw; obtain ⟨v0,v1,v2,v3,v4,v5,v6,-⟩:=tm_cells (below_keep hSw rW (lt_of_heap rW)); go_simp
        all_goals with_reducible rfl
       try simp only [Act.put,sI,sZ,sS]
       refine wTk (i:=7) (v:=?_) rfl ?hy ?_
       case hy =>
        intro w hSw; obtain ⟨v0,v1,v2,v3,-⟩:=lt_cells (below_keep hSw rM (lt_of_heap rM)); go_simp
        all_goals with_reducible rfl
       try simp only [Act.put,sI,sZ,sS]
       refine wTk (i:=9) (v:=?_) rfl ?hy ?_
       case hy =>
        intro w hSw; obtain ⟨v0,v1,v2,v3,v4,v5,v6,-⟩:=tm_cells (below_keep hSw rY (lt_of_heap rY)); go_simp
        all_goals with_reducible rfl
       try simp only [Act.put,sI,sZ,sS]
       refine wTk (i:=11) (v:=?_) rfl ?hy ?_
       case hy =>
        intro w hSw; obtain ⟨v0,v1,v2,v3,v4,v5,v6,-⟩:=tm_cells (below_keep hSw rZ (lt_of_heap rZ)); go_simp
        all_goals with_reducible rfl
       try simp only [Act.put,sI,sZ,sS]
       refine wTk (i:=13) (v:=?_) rfl ?hy ?_
       case hy =>
        intro w hSw; obtain ⟨v0,v1,v2,v3,v4,v5,v6,-⟩:=tm_cells (below_keep hSw rY (lt_of_heap rY)); go_simp
        all_goals with_reducible rfl
       try simp only [Act.put,sI,sZ,sS]
       refine wTk (i:=14) (v:=?_) rfl ?hy ?_
       case hy =>
        intro w hSw; obtain ⟨v0,v1,v2,v3,v4,v5,v6,-⟩:=tm_cells (below_keep hSw rW (lt_of_heap rW)); go_simp
        all_goals with_reducible rfl
       try simp only [Act.put,sI,sZ,sS]
       refine wTk (i:=16) (v:=?_) rfl ?hy ?_
       case hy =>
        intro w hSw; obtain ⟨v0,v1,v2,v3,v4,v5,v6,-⟩:=tm_cells (below_keep hSw rW (lt_of_heap rW)); go_simp
        all_goals with_reducible rfl
       try simp only [Act.put,sI,sZ,sS]
       refine wTk (i:=17) (v:=?_) rfl ?hy ?_
       case hy =>
        intro w hSw; obtain ⟨v0,v1,v2,v3,v4,v5,v6,-⟩:=tm_cells (below_keep hSw rZ (lt_of_heap rZ)); go_simp
        all_goals with_reducible rfl
       try simp only [Act.put,sI,sZ,sS]
       clear rW rZ rY rM; refine wpAnyH_ready (rs:=[4,21]) (by as_aux_lemma=>kernel_rfl) (by simp) ?_; refine rdC rfl (fun K hK=>?_) (rdC rfl (fun K hK=>?_) AllReadyH.nil)
       ·go_simp
        have hbz : Below wd.heap.size wd (wd.alloc (.cells #[sv t5.var,iv t5.val.kind,sv t5.val.t,iv t5.val.n,iv t5.val.m,sv t5.val.s,.slice none 0 0,sv t6.var,iv t6.val.kind,sv t6.val.t,iv t6.val.n,iv t6.val.m,sv t6.val.s,.slice none 0 0] 44)):=(Below.refl _ _).alloc (Nat.le_refl _) _; have hS':=hid (hS.out.grow hbz); clear hS; have hS:=hS'; clear hS'; have hO9':=hid (hO9.out.below goodFl hbz); clear hO9; have hO9:=hO9'; clear hO9'
        have hTV:=hid (show OwnR 44 7 FlR (fun _=>True) (wd.alloc (.cells #[sv t5.var,iv t5.val.kind,sv t5.val.t,iv t5.val.n,iv t5.val.m,sv t5.val.s,.slice none 0 0,sv t6.var,iv t6.val.kind,sv t6.val.t,iv t6.val.n,iv t6.val.m,sv t6.val.s,.slice none 0 0] 44)) [t5,t6] (.slice (some ⟨wd.heap.size,0,none⟩) 2 2) from own_tms (l:=[t5,t6]) (heap_alloc_new' wd _) (by show 2 ≤ maxLen; decide) trivial); clear hbz; generalize wd.alloc (.cells #[sv t5.var,iv t5.val.kind,sv t5.val.t,iv t5.val.n,iv t5.val.m,sv t5.val.s,.slice none 0 0,sv t6.var,iv t6.val.kind,sv t6.val.t,iv t6.val.n,iv t6.val.m,sv t6.val.s,.slice none 0 0] 44) = u1 at *; refine hK.out _ _ ?_ (fun hHeld2=>?_)
        ·exact hS.out.below
        clear hK K; clear hHeld; have hHeld:=hHeld2; clear hHeld2
        try simp only [Act.put,sI,sZ,sS]
        refine wpAnyH_ready (rs:=[5,21]) (by as_aux_lemma=>kernel_rfl) (by simp) ?_; refine rdC rfl (fun K hK=>?_) (rdC rfl (fun K hK=>?_) AllReadyH.nil)
        ·go_simp
         go_at_call 79
         with_reducible refine (with_any rl m [t5,t6] _ _ _ (.slice (some ⟨wd.heap.size,0,none⟩) 2 2) _ (hO9.out.sl goodFl) (hTV.out.sl goodFl) hal1 hvar.out).mono ?_
         intro e u2 hP; obtain ⟨ya1,yc1,rfl,hQ,hbq⟩:=PL1.open hP; clear hP; have hS':=hid (hS.out.push hbq hQ); clear hS; have hS:=hS'; clear hS'; clear hTV; have hO9':=hid (hO9.out.below goodFl hbq); clear hO9; have hO9:=hO9'; clear hO9'; clear hbq hQ; refine hK.out _ _ ?_ (fun hHeld2=>?_)
         ·exact hS.out.below
         clear hK K; clear hHeld; have hHeld:=hHeld2; clear hHeld2
         try simp only [Act.put,sI,sZ,sS]
         refine wpAnyH_ready (rs:=[8,21]) (by as_aux_lemma=>kernel_rfl) (by simp) ?_; refine rdC rfl (fun K hK=>?_) (rdC rfl (fun K hK=>?_) AllReadyH.nil)
         ·go_simp
          go_at_call 76
          with_reducible refine (timed_any t7 m _ _ _ (hO9.out.sl goodFl) hal2).mono ?_
          intro e u3 hP; obtain ⟨ya2,yc2,rfl,hQ,hbq⟩:=PL1.open hP; clear hP; have hS':=hid (hS.out.push hbq hQ); clear hS; have hS:=hS'; clear hS'; have hO9':=hid (hO9.out.below goodFl hbq); clear hO9; have hO9:=hO9'; clear hO9'; clear hbq hQ; refine hK.out _ _ ?_ (fun hHeld2=>?_)
          ·exact hS.out.below
          clear hK K; clear hHeld; have hHeld:=hHeld2; clear hHeld2
          try simp only [Act.put,sI,sZ,sS]
          refine wpAnyH_ready (rs:=[10,21]) (by as_aux_lemma=>kernel_rfl) (by simp) ?_; refine rdC rfl (fun K hK=>?_) (rdC rfl (fun K hK=>?_) AllReadyH.nil)
          ·go_simp
           go_at_call 80
           with_reducible refine (happens_f t5 _).mono ?_
           intro e u4 hP; obtain ⟨ya3,yc3,rfl,hQ,hbq⟩:=PL1.open hP; clear hP; have hS':=hid (hS.out.push hbq hQ); clear hS; have hS:=hS'; clear hS'; have hO9':=hid (hO9.out.below goodFl hbq); clear hO9; have hO9:=hO9'; clear hO9'; clear hbq hQ; refine hK.out _ _ ?_ (fun hHeld2=>?_)
           ·exact hS.out.below
           clear hK K; clear hHeld; have hHeld:=hHeld2; clear hHeld2
           try simp only [Act.put,sI,sZ,sS]
           refine wpAnyH_ready (rs:=[12,21]) (by as_aux_lemma=>kernel_rfl) (by simp) ?_; refine rdC rfl (fun K hK=>?_) (rdC rfl (fun K hK=>?_) AllReadyH.nil)
           ·go_simp
            go_at_call 80
            with_reducible refine (happens_f t6 _).mono ?_
            intro e u5 hP; obtain ⟨ya4,yc4,rfl,hQ,hbq⟩:=PL1.open hP; clear hP; have hS':=hid (hS.out.push hbq hQ); clear hS; have hS:=hS'; clear hS'; have hO9':=hid (hO9.out.below goodFl hbq); clear hO9; have hO9:=hO9'; clear hO9'; clear hbq hQ; refine hK.out _ _ ?_ (fun hHeld2=>?_)
            ·exact hS.out.below
            clear hK K; clear hHeld; have hHeld:=hHeld2; clear hHeld2
            try simp only [Act.put,sI,sZ,sS]
            refine wpAnyH_ready (rs:=[15,21]) (by as_aux_lemma=>kernel_rfl) (by simp) ?_; refine rdC rfl (fun K hK=>?_) (rdC rfl (fun K hK=>?_) AllReadyH.nil)
            ·go_simp
             go_at_call 81
             with_reducible refine (compare_f 3 t5 t7 _).mono ?_
             intro e u6 hP; obtain ⟨ya5,yc5,rfl,hQ,hbq⟩:=PL1.open hP; clear hP; have hS':=hid (hS.out.push hbq hQ); clear hS; have hS:=hS'; clear hS'; have hO9':=hid (hO9.out.below goodFl hbq); clear hO9; have hO9:=hO9'; clear hO9'; clear hbq hQ; refine hK.out _ _ ?_ (fun hHeld2=>?_)
             ·exact hS.out.below
             clear hK K; clear hHeld; have hHeld:=hHeld2; clear hHeld2
             try simp only [Act.put,sI,sZ,sS]
             refine wpAnyH_ready (rs:=[18,21]) (by as_aux_lemma=>kernel_rfl) (by simp) ?_; refine rdC rfl (fun K hK=>?_) (rdC rfl (fun K hK=>?_) AllReadyH.nil)
             ·go_simp
              go_at_call 81
              with_reducible refine (compare_f 4 t7 t6 _).mono ?_
              intro e u7 hP; obtain ⟨ya6,yc6,rfl,hQ,hbq⟩:=PL1.open hP; clear hP; have hS':=hid (hS.out.push hbq hQ); clear hS; have hS:=hS'; clear hS'; have hO9':=hid (hO9.out.below goodFl hbq); clear hO9; have hO9:=hO9'; clear hO9'; clear hbq hQ; refine hK.out _ _ ?_ (fun hHeld2=>?_)
              ·exact hS.out.below
              clear hK K; clear hHeld; have hHeld:=hHeld2; clear hHeld2
              try simp only [Act.put,sI,sZ,sS]
              refine wpAnyH_ready (rs:=[19,21]) (by as_aux_lemma=>kernel_rfl) (by simp) ?_; refine rdC rfl (fun K hK=>?_) (rdC rfl (fun K hK=>?_) AllReadyH.nil)
              ·go_simp
               have hS':=hid (show RS2 W9 none (withF rl m [t5,t6]) (.slice ya1 (withF rl m [t5,t6]).args.length yc1) _ (.slice (some ⟨u7.heap.size,0,none⟩) 5 5) (u7.alloc (.cells #[iv (timedF t7 m).op,.bool (timedF t7 m).nt,sv (timedF t7 m).rel,.slice ya2 (timedF t7 m).args.length yc2,iv (happensF t5).op,.bool (happensF t5).nt,sv (happensF t5).rel,.slice ya3 (happensF t5).args.length yc3,iv (happensF t6).op,.bool (happensF t6).nt,sv (happensF t6).rel,.slice ya4 (happensF t6).args.length yc4,iv (compareF 3 t5 t7).op,.bool (compareF 3 t5 t7).nt,sv (compareF 3 t5 t7).rel,.slice ya5 (compareF 3 t5 t7).args.length yc5,iv (compareF 4 t7 t6).op,.bool (compareF 4 t7 t6).nt,sv (compareF 4 t7 t6).rel,.slice ya6 (compareF 4 t7 t6).args.length yc6] 28)) from RS.build (ps:=[(timedF t7 m,.slice ya2 (timedF t7 m).args.length yc2),(happensF t5,.slice ya3 (happensF t5).args.length yc3),(happensF t6,.slice ya4 (happensF t6).args.length yc4),(compareF 3 t5 t7,.slice ya5 (compareF 3 t5 t7).args.length yc5),(compareF 4 t7 t6,.slice ya6 (compareF 4 t7 t6).args.length yc6)]) hS.out (by show 5 ≤ maxLen; decide))
               clear hS; have hS:=hS'; clear hS'; clear hO9; generalize u7.alloc (.cells #[iv (timedF t7 m).op,.bool (timedF t7 m).nt,sv (timedF t7 m).rel,.slice ya2 (timedF t7 m).args.length yc2,iv (happensF t5).op,.bool (happensF t5).nt,sv (happensF t5).rel,.slice ya3 (happensF t5).args.length yc3,iv (happensF t6).op,.bool (happensF t6).nt,sv (happensF t6).rel,.slice ya4 (happensF t6).args.length yc4,iv (compareF 3 t5 t7).op,.bool (compareF 3 t5 t7).nt,sv (compareF 3 t5 t7).rel,.slice ya5 (compareF 3 t5 t7).args.length yc5,iv (compareF 4 t7 t6).op,.bool (compareF 4 t7 t6).nt,sv (compareF 4 t7 t6).rel,.slice ya6 (compareF 4 t7 t6).args.length yc6] 28) = u8 at *; refine hK.out _ _ ?_ (fun hHeld2=>?_)
               ·exact hS.out.below
               clear hK K; clear hHeld; have hHeld:=hHeld2; clear hHeld2
               try simp only [Act.put,sI,sZ,sS]
               refine wTk (i:=20) (v:=?_) rfl ?hy ?_
               case hy =>
                intro w hSw
                skip
                go_simp
                all_goals with_reducible rfl
               try simp only [Act.put,sI,sZ,sS]
               refine wpAnyH_ready (rs:=[21]) (by as_aux_lemma=>kernel_rfl) (by simp) ?_; refine rdY rfl (fun K hK=>?_); go_simp; have hbz : Below u8.heap.size u8 (u8.alloc (.cells #[.int .i64 0,.bool false,.string ⟨#[]⟩,.slice none 0 0,.int .i64 0,.int .i64 0,.slice none 0 0] 38)):=(Below.refl _ _).alloc (Nat.le_refl _) _; have hS':=hid (show RS2 _ (some u8.heap.size) _ _ _ _ (u8.alloc (.cells #[.int .i64 0,.bool false,.string ⟨#[]⟩,.slice none 0 0,.int .i64 0,.int .i64 0,.slice none 0 0] 38)) from hS.out.newRule); clear hS; have hS:=hS'; clear hS'; clear hbz; generalize u8.alloc (.cells #[.int .i64 0,.bool false,.string ⟨#[]⟩,.slice none 0 0,.int .i64 0,.int .i64 0,.slice none 0 0] 38) = u9 at *; refine hK.out _ _ ?_ (fun hHeld2=>?_)
               ·exact hS.out.below
               clear hK K; clear hHeld; have hHeld:=hHeld2; clear hHeld2
               try simp only [Act.put,sI,sZ,sS]
               have hge:=(hS.out.zr _ rfl).1; have hzr:=(hS.out.zr _ rfl).2; refine wpAnyH_ready (rs:=[22]) (by as_aux_lemma=>kernel_rfl) (by simp) ?_; refine rdY rfl (fun K hK=>?_); rw [if_pos (by rfl)]; refine wp_store_row 38 (.tmp 15) (.tmp 84) rfl u8.heap.size (rucells (withF rl m [t5,t6]).op (withF rl m [t5,t6]).nt (withF rl m [t5,t6]).rel (.slice ya1 (withF rl m [t5,t6]).args.length yc1) 0 0 (.slice (some ⟨u7.heap.size,0,none⟩) 5 5)) (by rfl) (by rfl) _ _ hzr (by kernel_rfl) (by rfl) (by simp [Value.oneCell']) ?_; refine hK.out _ _ ?_ (fun hHeld2=>?_)
               ·exact below_setRow' hHeld hge _
               clear hK K; clear hHeld; have hHeld:=hHeld2; clear hHeld2
               try simp only [Act.put,sI,sZ,sS]
               refine wpAnyH_done (by as_aux_lemma=>kernel_rfl) ?_ _
               go_wp2_with fail
               go_meet
               case rel=>exact ⟨_,_,_,_,rfl,hid (by rw [hNR0.out]; exact ⟨hS.out.store,rfl⟩)⟩
              ·go_simp
               have hbz : Below u7.heap.size u7 (u7.alloc (.cells #[.int .i64 0,.bool false,.string ⟨#[]⟩,.slice none 0 0,.int .i64 0,.int .i64 0,.slice none 0 0] 38)):=(Below.refl _ _).alloc (Nat.le_refl _) _; have hS':=hid (show RS _ (some u7.heap.size) _ (u7.alloc (.cells #[.int .i64 0,.bool false,.string ⟨#[]⟩,.slice none 0 0,.int .i64 0,.int .i64 0,.slice none 0 0] 38)) from hS.out.newRule); clear hS; have hS:=hS'; clear hS'; have hO9':=hid (hO9.out.below goodFl hbz); clear hO9; have hO9:=hO9'; clear hO9'; clear hbz; generalize u7.alloc (.cells #[.int .i64 0,.bool false,.string ⟨#[]⟩,.slice none 0 0,.int .i64 0,.int .i64 0,.slice none 0 0] 38) = u8 at *; refine hK.out _ _ ?_ (fun hHeld2=>?_)
               ·exact hS.out.below
               clear hK K; clear hHeld; have hHeld:=hHeld2; clear hHeld2
               try simp only [Act.put,sI,sZ,sS]
               refine wpAnyH_ready (rs:=[19]) (by as_aux_lemma=>kernel_rfl) (by simp) ?_; refine rdY rfl (fun K hK=>?_); go_simp
               have hS':=hid (show RS2 W9 (some u7.heap.size) (withF rl m [t5,t6]) (.slice ya1 (withF rl m [t5,t6]).args.length yc1) _ (.slice (some ⟨u8.heap.size,0,none⟩) 5 5) (u8.alloc (.cells #[iv (timedF t7 m).op,.bool (timedF t7 m).nt,sv (timedF t7 m).rel,.slice ya2 (timedF t7 m).args.length yc2,iv (happensF t5).op,.bool (happensF t5).nt,sv (happensF t5).rel,.slice ya3 (happensF t5).args.length yc3,iv (happensF t6).op,.bool (happensF t6).nt,sv (happensF t6).rel,.slice ya4 (happensF t6).args.length yc4,iv (compareF 3 t5 t7).op,.bool (compareF 3 t5 t7).nt,sv (compareF 3 t5 t7).rel,.slice ya5 (compareF 3 t5 t7).args.length yc5,iv (compareF 4 t7 t6).op,.bool (compareF 4 t7 t6).nt,sv (compareF 4 t7 t6).rel,.slice ya6 (compareF 4 t7 t6).args.length yc6] 28)) from RS.build (ps:=[(timedF t7 m,.slice ya2 (timedF t7 m).args.length yc2),(happensF t5,.slice ya3 (happensF t5).args.length yc3),(happensF t6,.slice ya4 (happensF t6).args.length yc4),(compareF 3 t5 t7,.slice ya5 (compareF 3 t5 t7).args.length yc5),(compareF 4 t7 t6,.slice ya6 (compareF 4 t7 t6).args.length yc6)]) hS.out (by show 5 ≤ maxLen; decide))
               clear hS; have hS:=hS'; clear hS'; clear hO9; generalize u8.alloc (.cells #[iv (timedF t7 m).op,.bool (timedF t7 m).nt,sv (timedF t7 m).rel,.slice ya2 (timedF t7 m).args.length yc2,iv (happensF t5).op,.bool (happensF t5).nt,sv (happensF t5).rel,.slice ya3 (happensF t5).args.length yc3,iv (happensF t6).op,.bool (happensF t6).nt,sv (happensF t6).rel,.slice ya4 (happensF t6).args.length yc4,iv (compareF 3 t5 t7).op,.bool (compareF 3 t5 t7).nt,sv (compareF 3 t5 t7).rel,.slice ya5 (compareF 3 t5 t7).args.length yc5,iv (compareF 4 t7 t6).op,.bool (compareF 4 t7 t6).nt,sv (compareF 4 t7 t6).rel,.slice ya6 (compareF 4 t7 t6).args.length yc6] 28) = u9 at *; refine hK.out _ _ ?_ (fun hHeld2=>?_)
               ·exact hS.out.below
               clear hK K; clear hHeld; have hHeld:=hHeld2; clear hHeld2
               try simp only [Act.put,sI,sZ,sS]
               refine wTk (i:=20) (v:=?_) rfl ?hy ?_
               case hy =>
                intro w hSw
                skip
                go_simp
                all_goals with_reducible rfl
               try simp only [Act.put,sI,sZ,sS]
               have hge:=(hS.out.zr _ rfl).1; have hzr:=(hS.out.zr _ rfl).2; refine wpAnyH_ready (rs:=[22]) (by as_aux_lemma=>kernel_rfl) (by simp) ?_; refine rdY rfl (fun K hK=>?_); rw [if_pos (by rfl)]; refine wp_store_row 38 (.tmp 15) (.tmp 84) rfl u7.heap.size (rucells (withF rl m [t5,t6]).op (withF rl m [t5,t6]).nt (withF rl m [t5,t6]).rel (.slice ya1 (withF rl m [t5,t6]).args.length yc1) 0 0 (.slice (some ⟨u8.heap.size,0,none⟩) 5 5)) (by rfl) (by rfl) _ _ hzr (by kernel_rfl) (by rfl) (by simp [Value.oneCell']) ?_; refine hK.out _ _ ?_ (fun hHeld2=>?_)
               ·exact below_setRow' hHeld hge _
               clear hK K; clear hHeld; have hHeld:=hHeld2; clear hHeld2
               try simp only [Act.put,sI,sZ,sS]
               refine wpAnyH_done (by as_aux_lemma=>kernel_rfl) ?_ _
               go_wp2_with fail
               go_meet
               case rel=>exact ⟨_,_,_,_,rfl,hid (by rw [hNR0.out]; exact ⟨hS.out.store,rfl⟩)⟩
             ·go_simp
              have hbz : Below u6.heap.size u6 (u6.alloc (.cells #[.int .i64 0,.bool false,.string ⟨#[]⟩,.slice none 0 0,.int .i64 0,.int .i64 0,.slice none 0 0] 38)):=(Below.refl _ _).alloc (Nat.le_refl _) _; have hS':=hid (show RS _ (some u6.heap.size) _ (u6.alloc (.cells #[.int .i64 0,.bool false,.string ⟨#[]⟩,.slice none 0 0,.int .i64 0,.int .i64 0,.slice none 0 0] 38)) from hS.out.newRule); clear hS; have hS:=hS'; clear hS'; have hO9':=hid (hO9.out.below goodFl hbz); clear hO9; have hO9:=hO9'; clear hO9'; clear hbz; generalize u6.alloc (.cells #[.int .i64 0,.bool false,.string ⟨#[]⟩,.slice none 0 0,.int .i64 0,.int .i64 0,.slice none 0 0] 38) = u7 at *; refine hK.out _ _ ?_ (fun hHeld2=>?_)
              ·exact hS.out.below
              clear hK K; clear hHeld; have hHeld:=hHeld2; clear hHeld2
              try simp only [Act.put,sI,sZ,sS]
              refine wpAnyH_ready (rs:=[18]) (by as_aux_lemma=>kernel_rfl) (by simp) ?_; refine rdY rfl (fun K hK=>?_); go_simp
              go_at_call 81
              with_reducible refine (compare_f 4 t7 t6 _).mono ?_
              intro e u8 hP; obtain ⟨ya6,yc6,rfl,hQ,hbq⟩:=PL1.open hP; clear hP; have hS':=hid (hS.out.push hbq hQ); clear hS; have hS:=hS'; clear hS'; have hO9':=hid (hO9.out.below goodFl hbq); clear hO9; have hO9:=hO9'; clear hO9'; clear hbq hQ; refine hK.out _ _ ?_ (fun hHeld2=>?_)
              ·exact hS.out.below
              clear hK K; clear hHeld; have hHeld:=hHeld2; clear hHeld2
              try simp only [Act.put,sI,sZ,sS]
              refine wpAnyH_ready (rs:=[19]) (by as_aux_lemma=>kernel_rfl) (by simp) ?_; refine rdY rfl (fun K hK=>?_); go_simp
              have hS':=hid (show RS2 W9 (some u6.heap.size) (withF rl m [t5,t6]) (.slice ya1 (withF rl m [t5,t6]).args.length yc1) _ (.slice (some ⟨u8.heap.size,0,none⟩) 5 5) (u8.alloc (.cells #[iv (timedF t7 m).op,.bool (timedF t7 m).nt,sv (timedF t7 m).rel,.slice ya2 (timedF t7 m).args.length yc2,iv (happensF t5).op,.bool (happensF t5).nt,sv (happensF t5).rel,.slice ya3 (happensF t5).args.length yc3,iv (happensF t6).op,.bool (happensF t6).nt,sv (happensF t6).rel,.slice ya4 (happensF t6).args.length yc4,iv (compareF 3 t5 t7).op,.bool (compareF 3 t5 t7).nt,sv (compareF 3 t5 t7).rel,.slice ya5 (compareF 3 t5 t7).args.length yc5,iv (compareF 4 t7 t6).op,.bool (compareF 4 t7 t6).nt,sv (compareF 4 t7 t6).rel,.slice ya6 (compareF 4 t7 t6).args.length yc6] 28)) from RS.build (ps:=[(timedF t7 m,.slice ya2 (timedF t7 m).args.length yc2),(happensF t5,.slice ya3 (happensF t5).args.length yc3),(happensF t6,.slice ya4 (happensF t6).args.length yc4),(compareF 3 t5 t7,.slice ya5 (compareF 3 t5 t7).args.length yc5),(compareF 4 t7 t6,.slice ya6 (compareF 4 t7 t6).args.length yc6)]) hS.out (by show 5 ≤ maxLen; decide))
              clear hS; have hS:=hS'; clear hS'; clear hO9; generalize u8.alloc (.cells #[iv (timedF t7 m).op,.bool (timedF t7 m).nt,sv (timedF t7 m).rel,.slice ya2 (timedF t7 m).args.length yc2,iv (happensF t5).op,.bool (happensF t5).nt,sv (happensF t5).rel,.slice ya3 (happensF t5).args.length yc3,iv (happensF t6).op,.bool (happensF t6).nt,sv (happensF t6).rel,.slice ya4 (happensF t6).args.length yc4,iv (compareF 3 t5 t7).op,.bool (compareF 3 t5 t7).nt,sv (compareF 3 t5 t7).rel,.slice ya5 (compareF 3 t5 t7).args.length yc5,iv (compareF 4 t7 t6).op,.bool (compareF 4 t7 t6).nt,sv (compareF 4 t7 t6).rel,.slice ya6 (compareF 4 t7 t6).args.length yc6] 28) = u9 at *; refine hK.out _ _ ?_ (fun hHeld2=>?_)
              ·exact hS.out.below
              clear hK K; clear hHeld; have hHeld:=hHeld2; clear hHeld2
              try simp only [Act.put,sI,sZ,sS]
              refine wTk (i:=20) (v:=?_) rfl ?hy ?_
              case hy =>
               intro w hSw
               skip
               go_simp
               all_goals with_reducible rfl
              try simp only [Act.put,sI,sZ,sS]
              have hge:=(hS.out.zr _ rfl).1; have hzr:=(hS.out.zr _ rfl).2; refine wpAnyH_ready (rs:=[22]) (by as_aux_lemma=>kernel_rfl) (by simp) ?_; refine rdY rfl (fun K hK=>?_); rw [if_pos (by rfl)]; refine wp_store_row 38 (.tmp 15) (.tmp 84) rfl u6.heap.size (rucells (withF rl m [t5,t6]).op (withF rl m [t5,t6]).nt (withF rl m [t5,t6]).rel (.slice ya1 (withF rl m [t5,t6]).args.length yc1) 0 0 (.slice (some ⟨u8.heap.size,0,none⟩) 5 5)) (by rfl) (by rfl) _ _ hzr (by kernel_rfl) (by rfl) (by simp [Value.oneCell']) ?_; refine hK.out _ _ ?_ (fun hHeld2=>?_)
              ·exact below_setRow' hHeld hge _
              clear hK K; clear hHeld; have hHeld:=hHeld2; clear hHeld2
              try simp only [Act.put,sI,sZ,sS]
              refine wpAnyH_done (by as_aux_lemma=>kernel_rfl) ?_ _
              go_wp2_with fail
              go_meet
              case rel=>exact ⟨_,_,_,_,rfl,hid (by rw [hNR0.out]; exact ⟨hS.out.store,rfl⟩)⟩
            ·go_simp
             have hbz : Below u5.heap.size u5 (u5.alloc (.cells #[.int .i64 0,.bool false,.string ⟨#[]⟩,.slice none 0 0,.int .i64 0,.int .i64 0,.slice none 0 0] 38)):=(Below.refl _ _).alloc (Nat.le_refl _) _; have hS':=hid (show RS _ (some u5.heap.size) _ (u5.alloc (.cells #[.int .i64 0,.bool false,.string ⟨#[]⟩,.slice none 0 0,.int .i64 0,.int .i64 0,.slice none 0 0] 38)) from hS.out.newRule); clear hS; have hS:=hS'; clear hS'; have hO9':=hid (hO9.out.below goodFl hbz); clear hO9; have hO9:=hO9'; clear hO9'; clear hbz; generalize u5.alloc (.cells #[.int .i64 0,.bool false,.string ⟨#[]⟩,.slice none 0 0,.int .i64 0,.int .i64 0,.slice none 0 0] 38) = u6 at *; refine hK.out _ _ ?_ (fun hHeld2=>?_)
             ·exact hS.out.below
             clear hK K; clear hHeld; have hHeld:=hHeld2; clear hHeld2
             try simp only [Act.put,sI,sZ,sS]
             refine wpAnyH_ready (rs:=[15]) (by as_aux_lemma=>kernel_rfl) (by simp) ?_; refine rdY rfl (fun K hK=>?_); go_simp
             go_at_call 81
             with_reducible refine (compare_f 3 t5 t7 _).mono ?_
             intro e u7 hP; obtain ⟨ya5,yc5,rfl,hQ,hbq⟩:=PL1.open hP; clear hP; have hS':=hid (hS.out.push hbq hQ); clear hS; have hS:=hS'; clear hS'; have hO9':=hid (hO9.out.below goodFl hbq); clear hO9; have hO9:=hO9'; clear hO9'; clear hbq hQ; refine hK.out _ _ ?_ (fun hHeld2=>?_)
             ·exact hS.out.below
             clear hK K; clear hHeld; have hHeld:=hHeld2; clear hHeld2
             try simp only [Act.put,sI,sZ,sS]
             refine wpAnyH_ready (rs:=[18]) (by as_aux_lemma=>kernel_rfl) (by simp) ?_; refine rdY rfl (fun K hK=>?_); go_simp
             go_at_call 81
             with_reducible refine (compare_f 4 t7 t6 _).mono ?_
             intro e u8 hP; obtain ⟨ya6,yc6,rfl,hQ,hbq⟩:=PL1.open hP; clear hP; have hS':=hid (hS.out.push hbq hQ); clear hS; have hS:=hS'; clear hS'; have hO9':=hid (hO9.out.below goodFl hbq); clear hO9; have hO9:=hO9'; clear hO9'; clear hbq hQ; refine hK.out _ _ ?_ (fun hHeld2=>?_)
             ·exact hS.out.below
             clear hK K; clear hHeld; have hHeld:=hHeld2; clear hHeld2
             try simp only [Act.put,sI,sZ,sS]
             refine wpAnyH_ready (rs:=[19]) (by as_aux_lemma=>kernel_rfl) (by simp) ?_; refine rdY rfl (fun K hK=>?_); go_simp
             have hS':=hid (show RS2 W9 (some u5.heap.size) (withF rl m [t5,t6]) (.slice ya1 (withF rl m [t5,t6]).args.length yc1) _ (.slice (some ⟨u8.heap.size,0,none⟩) 5 5) (u8.alloc (.cells #[iv (timedF t7 m).op,.bool (timedF t7 m).nt,sv (timedF t7 m).rel,.slice ya2 (timedF t7 m).args.length yc2,iv (happensF t5).op,.bool (happensF t5).nt,sv (happensF t5).rel,.slice ya3 (happensF t5).args.length yc3,iv (happensF t6).op,.bool (happensF t6).nt,sv (happensF t6).rel,.slice ya4 (happensF t6).args.length yc4,iv (compareF 3 t5 t7).op,.bool (compareF 3 t5 t7).nt,sv (compareF 3 t5 t7).rel,.slice ya5 (compareF 3 t5 t7).args.length yc5,iv (compareF 4 t7 t6).op,.bool (compareF 4 t7 t6).nt,sv (compareF 4 t7 t6).rel,.slice ya6 (compareF 4 t7 t6).args.length yc6] 28)) from RS.build (ps:=[(timedF t7 m,.slice ya2 (timedF t7 m).args.length yc2),(happensF t5,.slice ya3 (happensF t5).args.length yc3),(happensF t6,.slice ya4 (happensF t6).args.length yc4),(compareF 3 t5 t7,.slice ya5 (compareF 3 t5 t7).args.length yc5),(compareF 4 t7 t6,.slice ya6 (compareF 4 t7 t6).args.length yc6)]) hS.out (by show 5 ≤ maxLen; decide))
             clear hS; have hS:=hS'; clear hS'; clear hO9; generalize u8.alloc (.cells #[iv (timedF t7 m).op,.bool (timedF t7 m).nt,sv (timedF t7 m).rel,.slice ya2 (timedF t7 m).args.length yc2,iv (happensF t5).op,.bool (happensF t5).nt,sv (happensF t5).rel,.slice ya3 (happensF t5).args.length yc3,iv (happensF t6).op,.bool (happensF t6).nt,sv (happensF t6).rel,.slice ya4 (happensF t6).args.length yc4,iv (compareF 3 t5 t7).op,.bool (compareF 3 t5 t7).nt,sv (compareF 3 t5 t7).rel,.slice ya5 (compareF 3 t5 t7).args.length yc5,iv (compareF 4 t7 t6).op,.bool (compareF 4 t7 t6).nt,sv (compareF 4 t7 t6).rel,.slice ya6 (compareF 4 t7 t6).args.length yc6] 28) = u9 at *; refine hK.out _ _ ?_ (fun hHeld2=>?_)
             ·exact hS.out.below
             clear hK K; clear hHeld; have hHeld:=hHeld2; clear hHeld2
             try simp only [Act.put,sI,sZ,sS]
             refine wTk (i:=20) (v:=?_) rfl ?hy ?_
             case hy =>
              intro w hSw
              skip
              go_simp
              all_goals with_reducible rfl
             try simp only [Act.put,sI,sZ,sS]
             have hge:=(hS.out.zr _ rfl).1; have hzr:=(hS.out.zr _ rfl).2; refine wpAnyH_ready (rs:=[22]) (by as_aux_lemma=>kernel_rfl) (by simp) ?_; refine rdY rfl (fun K hK=>?_); rw [if_pos (by rfl)]; refine wp_store_row 38 (.tmp 15) (.tmp 84) rfl u5.heap.size (rucells (withF rl m [t5,t6]).op (withF rl m [t5,t6]).nt (withF rl m [t5,t6]).rel (.slice ya1 (withF rl m [t5,t6]).args.length yc1) 0 0 (.slice (some ⟨u8.heap.size,0,none⟩) 5 5)) (by rfl) (by rfl) _ _ hzr (by kernel_rfl) (by rfl) (by simp [Value.oneCell']) ?_; refine hK.out _ _ ?_ (fun hHeld2=>?_)
             ·exact below_setRow' hHeld hge _
             clear hK K; clear hHeld; have hHeld:=hHeld2; clear hHeld2
             try simp only [Act.put,sI,sZ,sS]
             refine wpAnyH_done (by as_aux_lemma=>kernel_rfl) ?_ _
             go_wp2_with fail
             go_meet
             case rel=>exact ⟨_,_,_,_,rfl,hid (by rw [hNR0.out]; exact ⟨hS.out.store,rfl⟩)⟩
           ·go_simp
            have hbz : Below u4.heap.size u4 (u4.alloc (.cells #[.int .i64 0,.bool false,.string ⟨#[]⟩,.slice none 0 0,.int .i64 0,.int .i64 0,.slice none 0 0] 38)):=(Below.refl _ _).alloc (Nat.le_refl _) _; have hS':=hid (show RS _ (some u4.heap.size) _ (u4.alloc (.cells #[.int .i64 0,.bool false,.string ⟨#[]⟩,.slice none 0 0,.int .i64 0,.int .i64 0,.slice none 0 0] 38)) from hS.out.newRule); clear hS; have hS:=hS'; clear hS'; have hO9':=hid (hO9.out.below goodFl hbz); clear hO9; have hO9:=hO9'; clear hO9'; clear hbz; generalize u4.alloc (.cells #[.int .i64 0,.bool false,.string ⟨#[]⟩,.slice none 0 0,.int .i64 0,.int .i64 0,.slice none 0 0] 38) = u5 at *; refine hK.out _ _ ?_ (fun hHeld2=>?_)
            ·exact hS.out.below
            clear hK K; clear hHeld; have hHeld:=hHeld2; clear hHeld2
            try simp only [Act.put,sI,sZ,sS]
            refine wpAnyH_ready (rs:=[12]) (by as_aux_lemma=>kernel_rfl) (by simp) ?_; refine rdY rfl (fun K hK=>?_); go_simp
            go_at_call 80
            with_reducible refine (happens_f t6 _).mono ?_
            intro e u6 hP; obtain ⟨ya4,yc4,rfl,hQ,hbq⟩:=PL1.open hP; clear hP; have hS':=hid (hS.out.push hbq hQ); clear hS; have hS:=hS'; clear hS'; have hO9':=hid (hO9.out.below goodFl hbq); clear hO9; have hO9:=hO9'; clear hO9'; clear hbq hQ; refine hK.out _ _ ?_ (fun hHeld2=>?_)
            ·exact hS.out.below
            clear hK K; clear hHeld; have hHeld:=hHeld2; clear hHeld2
            try simp only [Act.put,sI,sZ,sS]
            refine wpAnyH_ready (rs:=[15]) (by as_aux_lemma=>kernel_rfl) (by simp) ?_; refine rdY rfl (fun K hK=>?_); go_simp
            go_at_call 81
            with_reducible refine (compare_f 3 t5 t7 _).mono ?_
            intro e u7 hP; obtain ⟨ya5,yc5,rfl,hQ,hbq⟩:=PL1.open hP; clear hP; have hS':=hid (hS.out.push hbq hQ); clear hS; have hS:=hS'; clear hS'; have hO9':=hid (hO9.out.below goodFl hbq); clear hO9; have hO9:=hO9'; clear hO9'; clear hbq hQ; refine hK.out _ _ ?_ (fun hHeld2=>?_)
            ·exact hS.out.below
            clear hK K; clear hHeld; have hHeld:=hHeld2; clear hHeld2
            try simp only [Act.put,sI,sZ,sS]
            refine wpAnyH_ready (rs:=[18]) (by as_aux_lemma=>kernel_rfl) (by simp) ?_; refine rdY rfl (fun K hK=>?_); go_simp
            go_at_call 81
            with_reducible refine (compare_f 4 t7 t6 _).mono ?_
            intro e u8 hP; obtain ⟨ya6,yc6,rfl,hQ,hbq⟩:=PL1.open hP; clear hP; have hS':=hid (hS.out.push hbq hQ); clear hS; have hS:=hS'; clear hS'; have hO9':=hid (hO9.out.below goodFl hbq); clear hO9; have hO9:=hO9'; clear hO9'; clear hbq hQ; refine hK.out _ _ ?_ (fun hHeld2=>?_)
            ·exact hS.out.below
            clear hK K; clear hHeld; have hHeld:=hHeld2; clear hHeld2
            try simp only [Act.put,sI,sZ,sS]
            refine wpAnyH_ready (rs:=[19]) (by as_aux_lemma=>kernel_rfl) (by simp) ?_; refine rdY rfl (fun K hK=>?_); go_simp
            have hS':=hid (show RS2 W9 (some u4.heap.size) (withF rl m [t5,t6]) (.slice ya1 (withF rl m [t5,t6]).args.length yc1) _ (.slice (some ⟨u8.heap.size,0,none⟩) 5 5) (u8.alloc (.cells #[iv (timedF t7 m).op,.bool (timedF t7 m).nt,sv (timedF t7 m).rel,.slice ya2 (timedF t7 m).args.length yc2,iv (happensF t5).op,.bool (happensF t5).nt,sv (happensF t5).rel,.slice ya3 (happensF t5).args.length yc3,iv (happensF t6).op,.bool (happensF t6).nt,sv (happensF t6).rel,.slice ya4 (happensF t6).args.length yc4,iv (compareF 3 t5 t7).op,.bool (compareF 3 t5 t7).nt,sv (compareF 3 t5 t7).rel,.slice ya5 (compareF 3 t5 t7).args.length yc5,iv (compareF 4 t7 t6).op,.bool (compareF 4 t7 t6).nt,sv (compareF 4 t7 t6).rel,.slice ya6 (compareF 4 t7 t6).args.length yc6] 28)) from RS.build (ps:=[(timedF t7 m,.slice ya2 (timedF t7 m).args.length yc2),(happensF t5,.slice ya3 (happensF t5).args.length yc3),(happensF t6,.slice ya4 (happensF t6).args.length yc4),(compareF 3 t5 t7,.slice ya5 (compareF 3 t5 t7).args.length yc5),(compareF 4 t7 t6,.slice ya6 (compareF 4 t7 t6).args.length yc6)]) hS.out (by show 5 ≤ maxLen; decide))
            clear hS; have hS:=hS'; clear hS'; clear hO9; generalize u8.alloc (.cells #[iv (timedF t7 m).op,.bool (timedF t7 m).nt,sv (timedF t7 m).rel,.slice ya2 (timedF t7 m).args.length yc2,iv (happensF t5).op,.bool (happensF t5).nt,sv (happensF t5).rel,.slice ya3 (happensF t5).args.length yc3,iv (happensF t6).op,.bool (happensF t6).nt,sv (happensF t6).rel,.slice ya4 (happensF t6).args.length yc4,iv (compareF 3 t5 t7).op,.bool (compareF 3 t5 t7).nt,sv (compareF 3 t5 t7).rel,.slice ya5 (compareF 3 t5 t7).args.length yc5,iv (compareF 4 t7 t6).op,.bool (compareF 4 t7 t6).nt,sv (compareF 4 t7 t6).rel,.slice ya6 (compareF 4 t7 t6).args.length yc6] 28) = u9 at *; refine hK.out _ _ ?_ (fun hHeld2=>?_)
            ·exact hS.out.below
            clear hK K; clear hHeld; have hHeld:=hHeld2; clear hHeld2
            try simp only [Act.put,sI,sZ,sS]
            refine wTk (i:=20) (v:=?_) rfl ?hy ?_
            case hy =>
             intro w hSw
             skip
             go_simp
             all_goals with_reducible rfl
            try simp only [Act.put,sI,sZ,sS]
            have hge:=(hS.out.zr _ rfl).1; have hzr:=(hS.out.zr _ rfl).2; refine wpAnyH_ready (rs:=[22]) (by as_aux_lemma=>kernel_rfl) (by simp) ?_; refine rdY rfl (fun K hK=>?_); rw [if_pos (by rfl)]; refine wp_store_row 38 (.tmp 15) (.tmp 84) rfl u4.heap.size (rucells (withF rl m [t5,t6]).op (withF rl m [t5,t6]).nt (withF rl m [t5,t6]).rel (.slice ya1 (withF rl m [t5,t6]).args.length yc1) 0 0 (.slice (some ⟨u8.heap.size,0,none⟩) 5 5)) (by rfl) (by rfl) _ _ hzr (by kernel_rfl) (by rfl) (by simp [Value.oneCell']) ?_; refine hK.out _ _ ?_ (fun hHeld2=>?_)
            ·exact below_setRow' hHeld hge _
            clear hK K; clear hHeld; have hHeld:=hHeld2; clear hHeld2
            try simp only [Act.put,sI,sZ,sS]
            refine wpAnyH_done (by as_aux_lemma=>kernel_rfl) ?_ _
            go_wp2_with fail
            go_meet
            case rel=>exact ⟨_,_,_,_,rfl,hid (by rw [hNR0.out]; exact ⟨hS.out.store,rfl⟩)⟩
          ·go_simp
           have hbz : Below u3.heap.size u3 (u3.alloc (.cells #[.int .i64 0,.bool false,.string ⟨#[]⟩,.slice none 0 0,.int .i64 0,.int .i64 0,.slice none 0 0] 38)):=(Below.refl _ _).alloc (Nat.le_refl _) _; have hS':=hid (show RS _ (some u3.heap.size) _ (u3.alloc (.cells #[.int .i64 0,.bool false,.string ⟨#[]⟩,.slice none 0 0,.int .i64 0,.int .i64 0,.slice none 0 0] 38)) from hS.out.newRule); clear hS; have hS:=hS'; clear hS'; have hO9':=hid (hO9.out.below goodFl hbz); clear hO9; have hO9:=hO9'; clear hO9'; clear hbz; generalize u3.alloc (.cells #[.int .i64 0,.bool false,.string ⟨#[]⟩,.slice none 0 0,.int .i64 0,.int .i64 0,.slice none 0 0] 38) = u4 at *; refine hK.out _ _ ?_ (fun hHeld2=>?_)
           ·exact hS.out.below
           clear hK K; clear hHeld; have hHeld:=hHeld2; clear hHeld2
           try simp only [Act.put,sI,sZ,sS]
           refine wpAnyH_ready (rs:=[10]) (by as_aux_lemma=>kernel_rfl) (by simp) ?_; refine rdY rfl (fun K hK=>?_); go_simp
           go_at_call 80
           with_reducible refine (happens_f t5 _).mono ?_
           intro e u5 hP; obtain ⟨ya3,yc3,rfl,hQ,hbq⟩:=PL1.open hP; clear hP; have hS':=hid (hS.out.push hbq hQ); clear hS; have hS:=hS'; clear hS'; have hO9':=hid (hO9.out.below goodFl hbq); clear hO9; have hO9:=hO9'; clear hO9'; clear hbq hQ; refine hK.out _ _ ?_ (fun hHeld2=>?_)
           ·exact hS.out.below
           clear hK K; clear hHeld; have hHeld:=hHeld2; clear hHeld2
           try simp only [Act.put,sI,sZ,sS]
           refine wpAnyH_ready (rs:=[12]) (by as_aux_lemma=>kernel_rfl) (by simp) ?_; refine rdY rfl (fun K hK=>?_); go_simp
           go_at_call 80
           with_reducible refine (happens_f t6 _).mono ?_
           intro e u6 hP; obtain ⟨ya4,yc4,rfl,hQ,hbq⟩:=PL1.open hP; clear hP; have hS':=hid (hS.out.push hbq hQ); clear hS; have hS:=hS'; clear hS'; have hO9':=hid (hO9.out.below goodFl hbq); clear hO9; have hO9:=hO9'; clear hO9'; clear hbq hQ; refine hK.out _ _ ?_ (fun hHeld2=>?_)
           ·exact hS.out.below
           clear hK K; clear hHeld; have hHeld:=hHeld2; clear hHeld2
           try simp only [Act.put,sI,sZ,sS]
           refine wpAnyH_ready (rs:=[15]) (by as_aux_lemma=>kernel_rfl) (by simp) ?_; refine rdY rfl (fun K hK=>?_); go_simp
           go_at_call 81
           with_reducible refine (compare_f 3 t5 t7 _).mono ?_
           intro e u7 hP; obtain ⟨ya5,yc5,rfl,hQ,hbq⟩:=PL1.open hP; clear hP; have hS':=hid (hS.out.push hbq hQ); clear hS; have hS:=hS'; clear hS'; have hO9':=hid (hO9.out.below goodFl hbq); clear hO9; have hO9:=hO9'; clear hO9'; clear hbq hQ; refine hK.out _ _ ?_ (fun hHeld2=>?_)
           ·exact hS.out.below
           clear hK K; clear hHeld; have hHeld:=hHeld2; clear hHeld2
           try simp only [Act.put,sI,sZ,sS]
           refine wpAnyH_ready (rs:=[18]) (by as_aux_lemma=>kernel_rfl) (by simp) ?_; refine rdY rfl (fun K hK=>?_); go_simp
           go_at_call 81
           with_reducible refine (compare_f 4 t7 t6 _).mono ?_
           intro e u8 hP; obtain ⟨ya6,yc6,rfl,hQ,hbq⟩:=PL1.open hP; clear hP; have hS':=hid (hS.out.push hbq hQ); clear hS; have hS:=hS'; clear hS'; have hO9':=hid (hO9.out.below goodFl hbq); clear hO9; have hO9:=hO9'; clear hO9'; clear hbq hQ; refine hK.out _ _ ?_ (fun hHeld2=>?_)
           ·exact hS.out.below
           clear hK K; clear hHeld; have hHeld:=hHeld2; clear hHeld2
           try simp only [Act.put,sI,sZ,sS]
           refine wpAnyH_ready (rs:=[19]) (by as_aux_lemma=>kernel_rfl) (by simp) ?_; refine rdY rfl (fun K hK=>?_); go_simp
           have hS':=hid (show RS2 W9 (some u3.heap.size) (withF rl m [t5,t6]) (.slice ya1 (withF rl m [t5,t6]).args.length yc1) _ (.slice (some ⟨u8.heap.size,0,none⟩) 5 5) (u8.alloc (.cells #[iv (timedF t7 m).op,.bool (timedF t7 m).nt,sv (timedF t7 m).rel,.slice ya2 (timedF t7 m).args.length yc2,iv (happensF t5).op,.bool (happensF t5).nt,sv (happensF t5).rel,.slice ya3 (happensF t5).args.length yc3,iv (happensF t6).op,.bool (happensF t6).nt,sv (happensF t6).rel,.slice ya4 (happensF t6).args.length yc4,iv (compareF 3 t5 t7).op,.bool (compareF 3 t5 t7).nt,sv (compareF 3 t5 t7).rel,.slice ya5 (compareF 3 t5 t7).args.length yc5,iv (compareF 4 t7 t6).op,.bool (compareF 4 t7 t6).nt,sv (compareF 4 t7 t6).rel,.slice ya6 (compareF 4 t7 t6).args.length yc6] 28)) from RS.build (ps:=[(timedF t7 m,.slice ya2 (timedF t7 m).args.length yc2),(happensF t5,.slice ya3 (happensF t5).args.length yc3),(happensF t6,.slice ya4 (happensF t6).args.length yc4),(compareF 3 t5 t7,.slice ya5 (compareF 3 t5 t7).args.length yc5),(compareF 4 t7 t6,.slice ya6 (compareF 4 t7 t6).args.length yc6)]) hS.out (by show 5 ≤ maxLen; decide))
           clear hS; have hS:=hS'; clear hS'; clear hO9; generalize u8.alloc (.cells #[iv (timedF t7 m).op,.bool (timedF t7 m).nt,sv (timedF t7 m).rel,.slice ya2 (timedF t7 m).args.length yc2,iv (happensF t5).op,.bool (happensF t5).nt,sv (happensF t5).rel,.slice ya3 (happensF t5).args.length yc3,iv (happensF t6).op,.bool (happensF t6).nt,sv (happensF t6).rel,.slice ya4 (happensF t6).args.length yc4,iv (compareF 3 t5 t7).op,.bool (compareF 3 t5 t7).nt,sv (compareF 3 t5 t7).rel,.slice ya5 (compareF 3 t5 t7).args.length yc5,iv (compareF 4 t7 t6).op,.bool (compareF 4 t7 t6).nt,sv (compareF 4 t7 t6).rel,.slice ya6 (compareF 4 t7 t6).args.length yc6] 28) = u9 at *; refine hK.out _ _ ?_ (fun hHeld2=>?_)
           ·exact hS.out.below
           clear hK K; clear hHeld; have hHeld:=hHeld2; clear hHeld2
           try simp only [Act.put,sI,sZ,sS]
           refine wTk (i:=20) (v:=?_) rfl ?hy ?_
           case hy =>
            intro w hSw
            skip
            go_simp
            all_goals with_reducible rfl
           try simp only [Act.put,sI,sZ,sS]
           have hge:=(hS.out.zr _ rfl).1; have hzr:=(hS.out.zr _ rfl).2; refine wpAnyH_ready (rs:=[22]) (by as_aux_lemma=>kernel_rfl) (by simp) ?_; refine rdY rfl (fun K hK=>?_); rw [if_pos (by rfl)]; refine wp_store_row 38 (.tmp 15) (.tmp 84) rfl u3.heap.size (rucells (withF rl m [t5,t6]).op (withF rl m [t5,t6]).nt (withF rl m [t5,t6]).rel (.slice ya1 (withF rl m [t5,t6]).args.length yc1) 0 0 (.slice (some ⟨u8.heap.size,0,none⟩) 5 5)) (by rfl) (by rfl) _ _ hzr (by kernel_rfl) (by rfl) (by simp [Value.oneCell']) ?_; refine hK.out _ _ ?_ (fun hHeld2=>?_)
           ·exact below_setRow' hHeld hge _
           clear hK K; clear hHeld; have hHeld:=hHeld2; clear hHeld2
           try simp only [Act.put,sI,sZ,sS]
           refine wpAnyH_done (by as_aux_lemma=>kernel_rfl) ?_ _
           go_wp2_with fail
           go_meet
           case rel=>exact ⟨_,_,_,_,rfl,hid (by rw [hNR0.out]; exact ⟨hS.out.store,rfl⟩)⟩
         ·go_simp
          have hbz : Below u2.heap.size u2 (u2.alloc (.cells #[.int .i64 0,.bool false,.string ⟨#[]⟩,.slice none 0 0,.int .i64 0,.int .i64 0,.slice none 0 0] 38)):=(Below.refl _ _).alloc (Nat.le_refl _) _; have hS':=hid (show RS _ (some u2.heap.size) _ (u2.alloc (.cells #[.int .i64 0,.bool false,.string ⟨#[]⟩,.slice none 0 0,.int .i64 0,.int .i64 0,.slice none 0 0] 38)) from hS.out.newRule); clear hS; have hS:=hS'; clear hS'; have hO9':=hid (hO9.out.below goodFl hbz); clear hO9; have hO9:=hO9'; clear hO9'; clear hbz; generalize u2.alloc (.cells #[.int .i64 0,.bool false,.string ⟨#[]⟩,.slice none 0 0,.int .i64 0,.int .i64 0,.slice none 0 0] 38) = u3 at *; refine hK.out _ _ ?_ (fun hHeld2=>?_)
          ·exact hS.out.below
          clear hK K; clear hHeld; have hHeld:=hHeld2; clear hHeld2
          try simp only [Act.put,sI,sZ,sS]
          refine wpAnyH_ready (rs:=[8]) (by as_aux_lemma=>kernel_rfl) (by simp) ?_; refine rdY rfl (fun K hK=>?_); go_simp
          go_at_call 76
          with_reducible refine (timed_any t7 m _ _ _ (hO9.out.sl goodFl) hal2).mono ?_
          intro e u4 hP; obtain ⟨ya2,yc2,rfl,hQ,hbq⟩:=PL1.open hP; clear hP; have hS':=hid (hS.out.push hbq hQ); clear hS; have hS:=hS'; clear hS'; have hO9':=hid (hO9.out.below goodFl hbq); clear hO9; have hO9:=hO9'; clear hO9'; clear hbq hQ; refine hK.out _ _ ?_ (fun hHeld2=>?_)
          ·exact hS.out.below
          clear hK K; clear hHeld; have hHeld:=hHeld2; clear hHeld2
          try simp only [Act.put,sI,sZ,sS]
          refine wpAnyH_ready (rs:=[10]) (by as_aux_lemma=>kernel_rfl) (by simp) ?_; refine rdY rfl (fun K hK=>?_); go_simp
          go_at_call 80
          with_reducible refine (happens_f t5 _).mono ?_
          intro e u5 hP; obtain ⟨ya3,yc3,rfl,hQ,hbq⟩:=PL1.open hP; clear hP; have hS':=hid (hS.out.push hbq hQ); clear hS; have hS:=hS'; clear hS'; have hO9':=hid (hO9.out.below goodFl hbq); clear hO9; have hO9:=hO9'; clear hO9'; clear hbq hQ; refine hK.out _ _ ?_ (fun hHeld2=>?_)
          ·exact hS.out.below
          clear hK K; clear hHeld; have hHeld:=hHeld2; clear hHeld2
          try simp only [Act.put,sI,sZ,sS]
          refine wpAnyH_ready (rs:=[12]) (by as_aux_lemma=>kernel_rfl) (by simp) ?_; refine rdY rfl (fun K hK=>?_); go_simp
          go_at_call 80
          with_reducible refine (happens_f t6 _).mono ?_
          intro e u6 hP; obtain ⟨ya4,yc4,rfl,hQ,hbq⟩:=PL1.open hP; clear hP; have hS':=hid (hS.out.push hbq hQ); clear hS; have hS:=hS'; clear hS'; have hO9':=hid (hO9.out.below goodFl hbq); clear hO9; have hO9:=hO9'; clear hO9'; clear hbq hQ; refine hK.out _ _ ?_ (fun hHeld2=>?_)
          ·exact hS.out.below
          clear hK K; clear hHeld; have hHeld:=hHeld2; clear hHeld2
          try simp only [Act.put,sI,sZ,sS]
          refine wpAnyH_ready (rs:=[15]) (by as_aux_lemma=>kernel_rfl) (by simp) ?_; refine rdY rfl (fun K hK=>?_); go_simp
          go_at_call 81
          with_reducible refine (compare_f 3 t5 t7 _).mono ?_
          intro e u7 hP; obtain ⟨ya5,yc5,rfl,hQ,hbq⟩:=PL1.open hP; clear hP; have hS':=hid (hS.out.push hbq hQ); clear hS; have hS:=hS'; clear hS'; have hO9':=hid (hO9.out.below goodFl hbq); clear hO9; have hO9:=hO9'; clear hO9'; clear hbq hQ; refine hK.out _ _ ?_ (fun hHeld2=>?_)
          ·exact hS.out.below
          clear hK K; clear hHeld; have hHeld:=hHeld2; clear hHeld2
          try simp only [Act.put,sI,sZ,sS]
          refine wpAnyH_ready (rs:=[18]) (by as_aux_lemma=>kernel_rfl) (by simp) ?_; refine rdY rfl (fun K hK=>?_); go_simp
          go_at_call 81
          with_reducible refine (compare_f 4 t7 t6 _).mono ?_
          intro e u8 hP; obtain ⟨ya6,yc6,rfl,hQ,hbq⟩:=PL1.open hP; clear hP; have hS':=hid (hS.out.push hbq hQ); clear hS; have hS:=hS'; clear hS'; have hO9':=hid (hO9.out.below goodFl hbq); clear hO9; have hO9:=hO9'; clear hO9'; clear hbq hQ; refine hK.out _ _ ?_ (fun hHeld2=>?_)
          ·exact hS.out.below
          clear hK K; clear hHeld; have hHeld:=hHeld2; clear hHeld2
          try simp only [Act.put,sI,sZ,sS]
          refine wpAnyH_ready (rs:=[19]) (by as_aux_lemma=>kernel_rfl) (by simp) ?_; refine rdY rfl (fun K hK=>?_); go_simp
          have hS':=hid (show RS2 W9 (some u2.heap.size) (withF rl m [t5,t6]) (.slice ya1 (withF rl m [t5,t6]).args.length yc1) _ (.slice (some ⟨u8.heap.size,0,none⟩) 5 5) (u8.alloc (.cells #[iv (timedF t7 m).op,.bool (timedF t7 m).nt,sv (timedF t7 m).rel,.slice ya2 (timedF t7 m).args.length yc2,iv (happensF t5).op,.bool (happensF t5).nt,sv (happensF t5).rel,.slice ya3 (happensF t5).args.length yc3,iv (happensF t6).op,.bool (happensF t6).nt,sv (happensF t6).rel,.slice ya4 (happensF t6).args.length yc4,iv (compareF 3 t5 t7).op,.bool (compareF 3 t5 t7).nt,sv (compareF 3 t5 t7).rel,.slice ya5 (compareF 3 t5 t7).args.length yc5,iv (compareF 4 t7 t6).op,.bool (compareF 4 t7 t6).nt,sv (compareF 4 t7 t6).rel,.slice ya6 (compareF 4 t7 t6).args.length yc6] 28)) from RS.build (ps:=[(timedF t7 m,.slice ya2 (timedF t7 m).args.length yc2),(happensF t5,.slice ya3 (happensF t5).args.length yc3),(happensF t6,.slice ya4 (happensF t6).args.length yc4),(compareF 3 t5 t7,.slice ya5 (compareF 3 t5 t7).args.length yc5),(compareF 4 t7 t6,.slice ya6 (compareF 4 t7 t6).args.length yc6)]) hS.out (by show 5 ≤ maxLen; decide))
          clear hS; have hS:=hS'; clear hS'; clear hO9; generalize u8.alloc (.cells #[iv (timedF t7 m).op,.bool (timedF t7 m).nt,sv (timedF t7 m).rel,.slice ya2 (timedF t7 m).args.length yc2,iv (happensF t5).op,.bool (happensF t5).nt,sv (happensF t5).rel,.slice ya3 (happensF t5).args.length yc3,iv (happensF t6).op,.bool (happensF t6).nt,sv (happensF t6).rel,.slice ya4 (happensF t6).args.length yc4,iv (compareF 3 t5 t7).op,.bool (compareF 3 t5 t7).nt,sv (compareF 3 t5 t7).rel,.slice ya5 (compareF 3 t5 t7).args.length yc5,iv (compareF 4 t7 t6).op,.bool (compareF 4 t7 t6).nt,sv (compareF 4 t7 t6).rel,.slice ya6 (compareF 4 t7 t6).args.length yc6] 28) = u9 at *; refine hK.out _ _ ?_ (fun hHeld2=>?_)
          ·exact hS.out.below
          clear hK K; clear hHeld; have hHeld:=hHeld2; clear hHeld2
          try simp only [Act.put,sI,sZ,sS]
          refine wTk (i:=20) (v:=?_) rfl ?hy ?_
          case hy =>
           intro w hSw
           skip
           go_simp
           all_goals with_reducible rfl
          try simp only [Act.put,sI,sZ,sS]
          have hge:=(hS.out.zr _ rfl).1; have hzr:=(hS.out.zr _ rfl).2; refine wpAnyH_ready (rs:=[22]) (by as_aux_lemma=>kernel_rfl) (by simp) ?_; refine rdY rfl (fun K hK=>?_); rw [if_pos (by rfl)]; refine wp_store_row 38 (.tmp 15) (.tmp 84) rfl u2.heap.size (rucells (withF rl m [t5,t6]).op (withF rl m [t5,t6]).nt (withF rl m [t5,t6]).rel (.slice ya1 (withF rl m [t5,t6]).args.length yc1) 0 0 (.slice (some ⟨u8.heap.size,0,none⟩) 5 5)) (by rfl) (by rfl) _ _ hzr (by kernel_rfl) (by rfl) (by simp [Value.oneCell']) ?_; refine hK.out _ _ ?_ (fun hHeld2=>?_)
          ·exact below_setRow' hHeld hge _
          clear hK K; clear hHeld; have hHeld:=hHeld2; clear hHeld2
          try simp only [Act.put,sI,sZ,sS]
          refine wpAnyH_done (by as_aux_lemma=>kernel_rfl) ?_ _
          go_wp2_with fail
          go_meet
          case rel=>exact ⟨_,_,_,_,rfl,hid (by rw [hNR0.out]; exact ⟨hS.out.store,rfl⟩)⟩
        ·go_simp
         have hbz : Below u1.heap.size u1 (u1.alloc (.cells #[.int .i64 0,.bool false,.string ⟨#[]⟩,.slice none 0 0,.int .i64 0,.int .i64 0,.slice none 0 0] 38)):=(Below.refl _ _).alloc (Nat.le_refl _) _; have hS':=hid (show RS _ (some u1.heap.size) _ (u1.alloc (.cells #[.int .i64 0,.bool false,.string ⟨#[]⟩,.slice none 0 0,.int .i64 0,.int .i64 0,.slice none 0 0] 38)) from hS.out.newRule); clear hS; have hS:=hS'; clear hS'; have hO9':=hid (hO9.out.below goodFl hbz); clear hO9; have hO9:=hO9'; clear hO9'; have hTV':=hid (hTV.out.below goodFl hbz); clear hTV; have hTV:=hTV'; clear hTV'; clear hbz; generalize u1.alloc (.cells #[.int .i64 0,.bool false,.string ⟨#[]⟩,.slice none 0 0,.int .i64 0,.int .i64 0,.slice none 0 0] 38) = u2 at *; refine hK.out _ _ ?_ (fun hHeld2=>?_)
         ·exact hS.out.below
         clear hK K; clear hHeld; have hHeld:=hHeld2; clear hHeld2
         try simp only [Act.put,sI,sZ,sS]
         refine wpAnyH_ready (rs:=[5]) (by as_aux_lemma=>kernel_rfl) (by simp) ?_; refine rdY rfl (fun K hK=>?_); go_simp
         go_at_call 79
         with_reducible refine (with_any rl m [t5,t6] _ _ _ (.slice (some ⟨wd.heap.size,0,none⟩) 2 2) _ (hO9.out.sl goodFl) (hTV.out.sl goodFl) hal1 hvar.out).mono ?_
         intro e u3 hP; obtain ⟨ya1,yc1,rfl,hQ,hbq⟩:=PL1.open hP; clear hP; have hS':=hid (hS.out.push hbq hQ); clear hS; have hS:=hS'; clear hS'; clear hTV; have hO9':=hid (hO9.out.below goodFl hbq); clear hO9; have hO9:=hO9'; clear hO9'; clear hbq hQ; refine hK.out _ _ ?_ (fun hHeld2=>?_)
         ·exact hS.out.below
         clear hK K; clear hHeld; have hHeld:=hHeld2; clear hHeld2
         try simp only [Act.put,sI,sZ,sS]
         refine wpAnyH_ready (rs:=[8]) (by as_aux_lemma=>kernel_rfl) (by simp) ?_; refine rdY rfl (fun K hK=>?_); go_simp
         go_at_call 76
         with_reducible refine (timed_any t7 m _ _ _ (hO9.out.sl goodFl) hal2).mono ?_
         intro e u4 hP; obtain ⟨ya2,yc2,rfl,hQ,hbq⟩:=PL1.open hP; clear hP; have hS':=hid (hS.out.push hbq hQ); clear hS; have hS:=hS'; clear hS'; have hO9':=hid (hO9.out.below goodFl hbq); clear hO9; have hO9:=hO9'; clear hO9'; clear hbq hQ; refine hK.out _ _ ?_ (fun hHeld2=>?_)
         ·exact hS.out.below
         clear hK K; clear hHeld; have hHeld:=hHeld2; clear hHeld2
         try simp only [Act.put,sI,sZ,sS]
         refine wpAnyH_ready (rs:=[10]) (by as_aux_lemma=>kernel_rfl) (by simp) ?_; refine rdY rfl (fun K hK=>?_); go_simp
         go_at_call 80
         with_reducible refine (happens_f t5 _).mono ?_
         intro e u5 hP; obtain ⟨ya3,yc3,rfl,hQ,hbq⟩:=PL1.open hP; clear hP; have hS':=hid (hS.out.push hbq hQ); clear hS; have hS:=hS'; clear hS'; have hO9':=hid (hO9.out.below goodFl hbq); clear hO9; have hO9:=hO9'; clear hO9'; clear hbq hQ; refine hK.out _ _ ?_ (fun hHeld2=>?_)
         ·exact hS.out.below
         clear hK K; clear hHeld; have hHeld:=hHeld2; clear hHeld2
         try simp only [Act.put,sI,sZ,sS]
         refine wpAnyH_ready (rs:=[12]) (by as_aux_lemma=>kernel_rfl) (by simp) ?_; refine rdY rfl (fun K hK=>?_); go_simp
         go_at_call 80
         with_reducible refine (happens_f t6 _).mono ?_
         intro e u6 hP; obtain ⟨ya4,yc4,rfl,hQ,hbq⟩:=PL1.open hP; clear hP; have hS':=hid (hS.out.push hbq hQ); clear hS; have hS:=hS'; clear hS'; have hO9':=hid (hO9.out.below goodFl hbq); clear hO9; have hO9:=hO9'; clear hO9'; clear hbq hQ; refine hK.out _ _ ?_ (fun hHeld2=>?_)
         ·exact hS.out.below
         clear hK K; clear hHeld; have hHeld:=hHeld2; clear hHeld2
         try simp only [Act.put,sI,sZ,sS]
         refine wpAnyH_ready (rs:=[15]) (by as_aux_lemma=>kernel_rfl) (by simp) ?_; refine rdY rfl (fun K hK=>?_); go_simp
         go_at_call 81
         with_reducible refine (compare_f 3 t5 t7 _).mono ?_
         intro e u7 hP; obtain ⟨ya5,yc5,rfl,hQ,hbq⟩:=PL1.open hP; clear hP; have hS':=hid (hS.out.push hbq hQ); clear hS; have hS:=hS'; clear hS'; have hO9':=hid (hO9.out.below goodFl hbq); clear hO9; have hO9:=hO9'; clear hO9'; clear hbq hQ; refine hK.out _ _ ?_ (fun hHeld2=>?_)
         ·exact hS.out.below
         clear hK K; clear hHeld; have hHeld:=hHeld2; clear hHeld2
         try simp only [Act.put,sI,sZ,sS]
         refine wpAnyH_ready (rs:=[18]) (by as_aux_lemma=>kernel_rfl) (by simp) ?_; refine rdY rfl (fun K hK=>?_); go_simp
         go_at_call 81
         with_reducible refine (compare_f 4 t7 t6 _).mono ?_
         intro e u8 hP; obtain ⟨ya6,yc6,rfl,hQ,hbq⟩:=PL1.open hP; clear hP; have hS':=hid (hS.out.push hbq hQ); clear hS; have hS:=hS'; clear hS'; have hO9':=hid (hO9.out.below goodFl hbq); clear hO9; have hO9:=hO9'; clear hO9'; clear hbq hQ; refine hK.out _ _ ?_ (fun hHeld2=>?_)
         ·exact hS.out.below
         clear hK K; clear hHeld; have hHeld:=hHeld2; clear hHeld2
         try simp only [Act.put,sI,sZ,sS]
         refine wpAnyH_ready (rs:=[19]) (by as_aux_lemma=>kernel_rfl) (by simp) ?_; refine rdY rfl (fun K hK=>?_); go_simp
         have hS':=hid (show RS2 W9 (some u1.heap.size) (withF rl m [t5,t6]) (.slice ya1 (withF rl m [t5,t6]).args.length yc1) _ (.slice (some ⟨u8.heap.size,0,none⟩) 5 5) (u8.alloc (.cells #[iv (timedF t7 m).op,.bool (timedF t7 m).nt,sv (timedF t7 m).rel,.slice ya2 (timedF t7 m).args.length yc2,iv (happensF t5).op,.bool (happensF t5).nt,sv (happensF t5).rel,.slice ya3 (happensF t5).args.length yc3,iv (happensF t6).op,.bool (happensF t6).nt,sv (happensF t6).rel,.slice ya4 (happensF t6).args.length yc4,iv (compareF 3 t5 t7).op,.bool (compareF 3 t5 t7).nt,sv (compareF 3 t5 t7).rel,.slice ya5 (compareF 3 t5 t7).args.length yc5,iv (compareF 4 t7 t6).op,.bool (compareF 4 t7 t6).nt,sv (compareF 4 t7 t6).rel,.slice ya6 (compareF 4 t7 t6).args.length yc6] 28)) from RS.build (ps:=[(timedF t7 m,.slice ya2 (timedF t7 m).args.length yc2),(happensF t5,.slice ya3 (happensF t5).args.length yc3),(happensF t6,.slice ya4 (happensF t6).args.length yc4),(compareF 3 t5 t7,.slice ya5 (compareF 3 t5 t7).args.length yc5),(compareF 4 t7 t6,.slice ya6 (compareF 4 t7 t6).args.length yc6)]) hS.out (by show 5 ≤ maxLen; decide))
         clear hS; have hS:=hS'; clear hS'; clear hO9; generalize u8.alloc (.cells #[iv (timedF t7 m).op,.bool (timedF t7 m).nt,sv (timedF t7 m).rel,.slice ya2 (timedF t7 m).args.length yc2,iv (happensF t5).op,.bool (happensF t5).nt,sv (happensF t5).rel,.slice ya3 (happensF t5).args.length yc3,iv (happensF t6).op,.bool (happensF t6).nt,sv (happensF t6).rel,.slice ya4 (happensF t6).args.length yc4,iv (compareF 3 t5 t7).op,.bool (compareF 3 t5 t7).nt,sv (compareF 3 t5 t7).rel,.slice ya5 (compareF 3 t5 t7).args.length yc5,iv (compareF 4 t7 t6).op,.bool (compareF 4 t7 t6).nt,sv (compareF 4 t7 t6).rel,.slice ya6 (compareF 4 t7 t6).args.length yc6] 28) = u9 at *; refine hK.out _ _ ?_ (fun hHeld2=>?_)
         ·exact hS.out.below
         clear hK K; clear hHeld; have hHeld:=hHeld2; clear hHeld2
         try simp only [Act.put,sI,sZ,sS]
         refine wTk (i:=20) (v:=?_) rfl ?hy ?_
         case hy =>
          intro w hSw
          skip
          go_simp
          all_goals with_reducible rfl
         try simp only [Act.put,sI,sZ,sS]
         have hge:=(hS.out.zr _ rfl).1; have hzr:=(hS.out.zr _ rfl).2; refine wpAnyH_ready (rs:=[22]) (by as_aux_lemma=>kernel_rfl) (by simp) ?_; refine rdY rfl (fun K hK=>?_); rw [if_pos (by rfl)]; refine wp_store_row 38 (.tmp 15) (.tmp 84) rfl u1.heap.size (rucells (withF rl m [t5,t6]).op (withF rl m [t5,t6]).nt (withF rl m [t5,t6]).rel (.slice ya1 (withF rl m [t5,t6]).args.length yc1) 0 0 (.slice (some ⟨u8.heap.size,0,none⟩) 5 5)) (by rfl) (by rfl) _ _ hzr (by kernel_rfl) (by rfl) (by simp [Value.oneCell']) ?_; refine hK.out _ _ ?_ (fun hHeld2=>?_)
         ·exact below_setRow' hHeld hge _
         clear hK K; clear hHeld; have hHeld:=hHeld2; clear hHeld2
         try simp only [Act.put,sI,sZ,sS]
         refine wpAnyH_done (by as_aux_lemma=>kernel_rfl) ?_ _
         go_wp2_with fail
         go_meet
         case rel=>exact ⟨_,_,_,_,rfl,hid (by rw [hNR0.out]; exact ⟨hS.out.store,rfl⟩)⟩
       ·go_simp
        have hbz : Below wd.heap.size wd (wd.alloc (.cells #[.int .i64 0,.bool false,.string ⟨#[]⟩,.slice none 0 0,.int .i64 0,.int .i64 0,.slice none 0 0] 38)):=(Below.refl _ _).alloc (Nat.le_refl _) _; have hS':=hid (show RS _ (some wd.heap.size) _ (wd.alloc (.cells #[.int .i64 0,.bool false,.string ⟨#[]⟩,.slice none 0 0,.int .i64 0,.int .i64 0,.slice none 0 0] 38)) from hS.out.newRule); clear hS; have hS:=hS'; clear hS'; have hO9':=hid (hO9.out.below goodFl hbz); clear hO9; have hO9:=hO9'; clear hO9'; clear hbz; generalize wd.alloc (.cells #[.int .i64 0,.bool false,.string ⟨#[]⟩,.slice none 0 0,.int .i64 0,.int .i64 0,.slice none 0 0] 38) = u1 at *; refine hK.out _ _ ?_ (fun hHeld2=>?_)
        ·exact hS.out.below
        clear hK K; clear hHeld; have hHeld:=hHeld2; clear hHeld2
        try simp only [Act.put,sI,sZ,sS]
        refine wpAnyH_ready (rs:=[4]) (by as_aux_lemma=>kernel_rfl) (by simp) ?_; refine rdY rfl (fun K hK=>?_); go_simp; have hbz : Below u1.heap.size u1 (u1.alloc (.cells #[sv t5.var,iv t5.val.kind,sv t5.val.t,iv t5.val.n,iv t5.val.m,sv t5.val.s,.slice none 0 0,sv t6.var,iv t6.val.kind,sv t6.val.t,iv t6.val.n,iv t6.val.m,sv t6.val.s,.slice none 0 0] 44)):=(Below.refl _ _).alloc (Nat.le_refl _) _; have hS':=hid (hS.out.grow hbz); clear hS; have hS:=hS'; clear hS'; have hO9':=hid (hO9.out.below goodFl hbz); clear hO9; have hO9:=hO9'; clear hO9'
        have hTV:=hid (show OwnR 44 7 FlR (fun _=>True) (u1.alloc (.cells #[sv t5.var,iv t5.val.kind,sv t5.val.t,iv t5.val.n,iv t5.val.m,sv t5.val.s,.slice none 0 0,sv t6.var,iv t6.val.kind,sv t6.val.t,iv t6.val.n,iv t6.val.m,sv t6.val.s,.slice none 0 0] 44)) [t5,t6] (.slice (some ⟨u1.heap.size,0,none⟩) 2 2) from own_tms (l:=[t5,t6]) (heap_alloc_new' u1 _) (by show 2 ≤ maxLen; decide) trivial); clear hbz; generalize u1.alloc (.cells #[sv t5.var,iv t5.val.kind,sv t5.val.t,iv t5.val.n,iv t5.val.m,sv t5.val.s,.slice none 0 0,sv t6.var,iv t6.val.kind,sv t6.val.t,iv t6.val.n,iv t6.val.m,sv t6.val.s,.slice none 0 0] 44) = u2 at *; refine hK.out _ _ ?_ (fun hHeld2=>?_)
        ·exact hS.out.below
        clear hK K; clear hHeld; have hHeld:=hHeld2; clear hHeld2
        try simp only [Act.put,sI,sZ,sS]
        refine wpAnyH_ready (rs:=[5]) (by as_aux_lemma=>kernel_rfl) (by simp) ?_; refine rdY rfl (fun K hK=>?_); go_simp
        go_at_call 79
        with_reducible refine (with_any rl m [t5,t6] _ _ _ (.slice (some ⟨u1.heap.size,0,none⟩) 2 2) _ (hO9.out.sl goodFl) (hTV.out.sl goodFl) hal1 hvar.out).mono ?_
        intro e u3 hP; obtain ⟨ya1,yc1,rfl,hQ,hbq⟩:=PL1.open hP; clear hP; have hS':=hid (hS.out.push hbq hQ); clear hS; have hS:=hS'; clear hS'; clear hTV; have hO9':=hid (hO9.out.below goodFl hbq); clear hO9; have hO9:=hO9'; clear hO9'; clear hbq hQ; refine hK.out _ _ ?_ (fun hHeld2=>?_)
        ·exact hS.out.below
        clear hK K; clear hHeld; have hHeld:=hHeld2; clear hHeld2
        try simp only [Act.put,sI,sZ,sS]
        refine wpAnyH_ready (rs:=[8]) (by as_aux_lemma=>kernel_rfl) (by simp) ?_; refine rdY rfl (fun K hK=>?_); go_simp
        go_at_call 76
        with_reducible refine (timed_any t7 m _ _ _ (hO9.out.sl goodFl) hal2).mono ?_
        intro e u4 hP; obtain ⟨ya2,yc2,rfl,hQ,hbq⟩:=PL1.open hP; clear hP; have hS':=hid (hS.out.push hbq hQ); clear hS; have hS:=hS'; clear hS'; have hO9':=hid (hO9.out.below goodFl hbq); clear hO9; have hO9:=hO9'; clear hO9'; clear hbq hQ; refine hK.out _ _ ?_ (fun hHeld2=>?_)
        ·exact hS.out.below
        clear hK K; clear hHeld; have hHeld:=hHeld2; clear hHeld2
        try simp only [Act.put,sI,sZ,sS]
        refine wpAnyH_ready (rs:=[10]) (by as_aux_lemma=>kernel_rfl) (by simp) ?_; refine rdY rfl (fun K hK=>?_); go_simp
        go_at_call 80
        with_reducible refine (happens_f t5 _).mono ?_
        intro e u5 hP; obtain ⟨ya3,yc3,rfl,hQ,hbq⟩:=PL1.open hP; clear hP; have hS':=hid (hS.out.push hbq hQ); clear hS; have hS:=hS'; clear hS'; have hO9':=hid (hO9.out.below goodFl hbq); clear hO9; have hO9:=hO9'; clear hO9'; clear hbq hQ; refine hK.out _ _ ?_ (fun hHeld2=>?_)
        ·exact hS.out.below
        clear hK K; clear hHeld; have hHeld:=hHeld2; clear hHeld2
        try simp only [Act.put,sI,sZ,sS]
        refine wpAnyH_ready (rs:=[12]) (by as_aux_lemma=>kernel_rfl) (by simp) ?_; refine rdY rfl (fun K hK=>?_); go_simp
        go_at_call 80
        with_reducible refine (happens_f t6 _).mono ?_
        intro e u6 hP; obtain ⟨ya4,yc4,rfl,hQ,hbq⟩:=PL1.open hP; clear hP; have hS':=hid (hS.out.push hbq hQ); clear hS; have hS:=hS'; clear hS'; have hO9':=hid (hO9.out.below goodFl hbq); clear hO9; have hO9:=hO9'; clear hO9'; clear hbq hQ; refine hK.out _ _ ?_ (fun hHeld2=>?_)
        ·exact hS.out.below
        clear hK K; clear hHeld; have hHeld:=hHeld2; clear hHeld2
        try simp only [Act.put,sI,sZ,sS]
        refine wpAnyH_ready (rs:=[15]) (by as_aux_lemma=>kernel_rfl) (by simp) ?_; refine rdY rfl (fun K hK=>?_); go_simp
        go_at_call 81
        with_reducible refine (compare_f 3 t5 t7 _).mono ?_
        intro e u7 hP; obtain ⟨ya5,yc5,rfl,hQ,hbq⟩:=PL1.open hP; clear hP; have hS':=hid (hS.out.push hbq hQ); clear hS; have hS:=hS'; clear hS'; have hO9':=hid (hO9.out.below goodFl hbq); clear hO9; have hO9:=hO9'; clear hO9'; clear hbq hQ; refine hK.out _ _ ?_ (fun hHeld2=>?_)
        ·exact hS.out.below
        clear hK K; clear hHeld; have hHeld:=hHeld2; clear hHeld2
        try simp only [Act.put,sI,sZ,sS]
        refine wpAnyH_ready (rs:=[18]) (by as_aux_lemma=>kernel_rfl) (by simp) ?_; refine rdY rfl (fun K hK=>?_); go_simp
        go_at_call 81
        with_reducible refine (compare_f 4 t7 t6 _).mono ?_
        intro e u8 hP; obtain ⟨ya6,yc6,rfl,hQ,hbq⟩:=PL1.open hP; clear hP; have hS':=hid (hS.out.push hbq hQ); clear hS; have hS:=hS'; clear hS'; have hO9':=hid (hO9.out.below goodFl hbq); clear hO9; have hO9:=hO9'; clear hO9'; clear hbq hQ; refine hK.out _ _ ?_ (fun hHeld2=>?_)
        ·exact hS.out.below
        clear hK K; clear hHeld; have hHeld:=hHeld2; clear hHeld2
        try simp only [Act.put,sI,sZ,sS]
        refine wpAnyH_ready (rs:=[19]) (by as_aux_lemma=>kernel_rfl) (by simp) ?_; refine rdY rfl (fun K hK=>?_); go_simp
        have hS':=hid (show RS2 W9 (some wd.heap.size) (withF rl m [t5,t6]) (.slice ya1 (withF rl m [t5,t6]).args.length yc1) _ (.slice (some ⟨u8.heap.size,0,none⟩) 5 5) (u8.alloc (.cells #[iv (timedF t7 m).op,.bool (timedF t7 m).nt,sv (timedF t7 m).rel,.slice ya2 (timedF t7 m).args.length yc2,iv (happensF t5).op,.bool (happensF t5).nt,sv (happensF t5).rel,.slice ya3 (happensF t5).args.length yc3,iv (happensF t6).op,.bool (happensF t6).nt,sv (happensF t6).rel,.slice ya4 (happensF t6).args.length yc4,iv (compareF 3 t5 t7).op,.bool (compareF 3 t5 t7).nt,sv (compareF 3 t5 t7).rel,.slice ya5 (compareF 3 t5 t7).args.length yc5,iv (compareF 4 t7 t6).op,.bool (compareF 4 t7 t6).nt,sv (compareF 4 t7 t6).rel,.slice ya6 (compareF 4 t7 t6).args.length yc6] 28)) from RS.build (ps:=[(timedF t7 m,.slice ya2 (timedF t7 m).args.length yc2),(happensF t5,.slice ya3 (happensF t5).args.length yc3),(happensF t6,.slice ya4 (happensF t6).args.length yc4),(compareF 3 t5 t7,.slice ya5 (compareF 3 t5 t7).args.length yc5),(compareF 4 t7 t6,.slice ya6 (compareF 4 t7 t6).args.length yc6)]) hS.out (by show 5 ≤ maxLen; decide))
        clear hS; have hS:=hS'; clear hS'; clear hO9; generalize u8.alloc (.cells #[iv (timedF t7 m).op,.bool (timedF t7 m).nt,sv (timedF t7 m).rel,.slice ya2 (timedF t7 m).args.length yc2,iv (happensF t5).op,.bool (happensF t5).nt,sv (happensF t5).rel,.slice ya3 (happensF t5).args.length yc3,iv (happensF t6).op,.bool (happensF t6).nt,sv (happensF t6).rel,.slice ya4 (happensF t6).args.length yc4,iv (compareF 3 t5 t7).op,.bool (compareF 3 t5 t7).nt,sv (compareF 3 t5 t7).rel,.slice ya5 (compareF 3 t5 t7).args.length yc5,iv (compareF 4 t7 t6).op,.bool (compareF 4 t7 t6).nt,sv (compareF 4 t7 t6).rel,.slice ya6 (compareF 4 t7 t6).args.length yc6] 28) = u9 at *; refine hK.out _ _ ?_ (fun hHeld2=>?_)
        ·exact hS.out.below
        clear hK K; clear hHeld; have hHeld:=hHeld2; clear hHeld2
        try simp only [Act.put,sI,sZ,sS]
        refine wTk (i:=20) (v:=?_) rfl ?hy ?_
        case hy =>
         intro w hSw
         skip
         go_simp
         all_goals with_reducible rfl
        try simp only [Act.put,sI,sZ,sS]
        have hge:=(hS.out.zr _ rfl).1; have hzr:=(hS.out.zr _ rfl).2; refine wpAnyH_ready (rs:=[22]) (by as_aux_lemma=>kernel_rfl) (by simp) ?_; refine rdY rfl (fun K hK=>?_); rw [if_pos (by rfl)]; refine wp_store_row 38 (.tmp 15) (.tmp 84) rfl wd.heap.size (rucells (withF rl m [t5,t6]).op (withF rl m [t5,t6]).nt (withF rl m [t5,t6]).rel (.slice ya1 (withF rl m [t5,t6]).args.length yc1) 0 0 (.slice (some ⟨u8.heap.size,0,none⟩) 5 5)) (by rfl) (by rfl) _ _ hzr (by kernel_rfl) (by rfl) (by simp [Value.oneCell']) ?_; refine hK.out _ _ ?_ (fun hHeld2=>?_)
        ·exact below_setRow' hHeld hge _
        clear hK K; clear hHeld; have hHeld:=hHeld2; clear hHeld2
        try simp only [Act.put,sI,sZ,sS]
        refine wpAnyH_done (by as_aux_lemma=>kernel_rfl) ?_ _
        go_wp2_with fail
        go_meet
        case rel=>exact ⟨_,_,_,_,rfl,hid (by rw [hNR0.out]; exact ⟨hS.out.store,rfl⟩)⟩
      case rest =>
       obtain ⟨RB,rx,hv',bv,rfl,hc⟩:=hcut
       obtain ⟨hNR,hru⟩ : NR W9 RB rx hv' bv wc ∧ rx.ru = ⟨withF rl m [t5,t6],0,0,[timedF t7 m,happensF t5,happensF t6,compareF 3 t5 t7,compareF 4 t7 t6]⟩:=by have h9:=hc.out; rw [hNR0.out] at h9; exact h9
       have hW6s:=hid hK9.out.fr.size; have hW8s2:=hid (show w.heap.size ≤ W8.heap.size from by have:=hK8.out.fr.size; have:=hW8s.out; omega); have hW9c:=hid hNR.below.size; have hQ9l:=hid (show ∀ k,Value.ownBlock (.slice aw L.args.length cw) = some k → k < W9.heap.size from fun k hk=>hQ9.out.lt hk); have hKx:=hid (show Kp pb K s8 w wc _ from hK9.out.below hNR.below); have hQc:=hid (hQ9.out.below goodFl hNR.below); have hPc:=hid (hP9.out.below goodFl hNR.below); have rN:=hKx.out.nth (i:=0) (b:=w9.heap.size) (o:=.cells (lcells L.op true L.rel (.slice aw L.args.length cw)) 28 (0,0)) rfl; have rX:=hKx.out.nth (i:=4) (b:=w4.heap.size) (o:=.cells (fcells t4) 44 (0,0)) rfl; have rA:=hKx.out.nth (i:=5) (b:=w3.heap.size) (o:=.cells (fcells a) 44 (0,0)) rfl
       have rL:=hKx.out.nth (i:=7) (b:=w1.heap.size) (o:=.cells (lcells l.op l.nt l.rel (.slice a1 l.args.length c1)) 28 (0,0)) rfl; have hNRc:=hid hNR; clear hc hO9 hP9 hQ9 hK9 hNR0; obtain ⟨xa,xc,ya,yc,rfl,rfl⟩:=hNR.slices; have hrow:=hNR.row; replace hru:=hid hru; clear hNR; have hS:=hid (RS.start wc)
       go_wp2_with fail
       refine wp_region_held_drew (S:=fun w'=>Below wc.heap.size wc w') (by kernel_rfl) ?_ (fun hHeld=>?_)
       ·exact (Below.refl _ wc).drew
       generalize wc.drew = wd at *; have hPd:=hid (hPc.out.below goodFl hHeld); clear hPc; refine wTk (i:=0) (v:=?_) rfl ?hy ?_
       case hy =>
        intro w hSw; obtain ⟨v0,v1,v2,v3,v4,v5,v6,-⟩:=tm_cells (below_keep hSw rX (lt_of_heap rX)); go_simp
        all_goals with_reducible rfl
       try simp only [Act.put,sI,sZ,sS]
       refine wTk (i:=1) (v:=?_) rfl ?hy ?_
       case hy =>
        intro w hSw; obtain ⟨v0,v1,v2,v3,-⟩:=lt_cells (below_keep hSw rL (lt_of_heap rL)); go_simp
        all_goals with_reducible rfl
       try simp only [Act.put,sI,sZ,sS]
       refine wTk (i:=3) (v:=?_) rfl ?hy ?_
       case hy =>
        intro w hSw; obtain ⟨v0,v1,v2,v3,v4,v5,v6,-⟩:=tm_cells (below_keep hSw rX (lt_of_heap rX)); go_simp
        all_goals with_reducible rfl
       try simp only [Act.put,sI,sZ,sS]
       refine wTk (i:=4) (v:=?_) rfl ?hy ?_
       case hy =>
        intro w hSw; obtain ⟨v0,v1,v2,v3,v4,v5,v6,-⟩:=tm_cells (below_keep hSw rA (lt_of_heap rA)); go_simp
        all_goals with_reducible rfl
       try simp only [Act.put,sI,sZ,sS]
       refine wTk (i:=6) (v:=?_) rfl ?hy ?_
       case hy =>
        intro w hSw; obtain ⟨v0,v1,v2,v3,-⟩:=lt_cells (below_keep hSw rN (lt_of_heap rN)); go_simp
        all_goals with_reducible rfl
       try simp only [Act.put,sI,sZ,sS]
       refine wTk (i:=8) (v:=?_) rfl ?hy ?_
       case hy =>
        intro w hSw; obtain ⟨v0,v1,v2,v3,v4,v5,v6,-⟩:=ru_cells (below_keep hSw hrow (lt_of_heap hrow)); go_simp
        all_goals with_reducible rfl
       try simp only [Act.put,sI,sZ,sS]
       clear rN rX rA rL hrow; refine wpAnyH_ready (rs:=[2,9]) (by as_aux_lemma=>kernel_rfl) (by simp) ?_; refine rdC rfl (fun K hK=>?_) (rdC rfl (fun K hK=>?_) AllReadyH.nil)
       ·go_simp
        go_at_call 76
        with_reducible refine (timed_any t4 l _ _ _ (hPd.out.sl goodFl) hall).mono ?_
        intro e u1 hP; obtain ⟨ya0,yc0,rfl,hQ,hbq⟩:=PL1.open hP; clear hP; have hHz:=hHeld.trans (hbq.mono hHeld.size); have hS':=hid (hS.out.push hbq hQ); clear hS; have hS:=hS'; clear hS'; have hPd':=hid (hPd.out.below goodFl hbq); clear hPd; have hPd:=hPd'; clear hPd'; clear hbq hQ; refine hK.out _ _ ?_ (fun hHeld2=>?_)
        ·exact hHz
        clear hK K; clear hHeld; have hHeld:=hHeld2; clear hHeld2
        try simp only [Act.put,sI,sZ,sS]
        clear hHz; refine wpAnyH_ready (rs:=[5,9]) (by as_aux_lemma=>kernel_rfl) (by simp) ?_; refine rdC rfl (fun K hK=>?_) (rdC rfl (fun K hK=>?_) AllReadyH.nil)
        ·go_simp
         go_at_call 81
         with_reducible refine (compare_f 4 t4 a _).mono ?_
         intro e u2 hP; obtain ⟨ya1,yc1,rfl,hQ,hbq⟩:=PL1.open hP; clear hP; have hHz:=hHeld.trans (hbq.mono hHeld.size); have hS':=hid (hS.out.push hbq hQ); clear hS; have hS:=hS'; clear hS'; have hPd':=hid (hPd.out.below goodFl hbq); clear hPd; have hPd:=hPd'; clear hPd'; clear hbq hQ; refine hK.out _ _ ?_ (fun hHeld2=>?_)
         ·exact hHz
         clear hK K; clear hHeld; have hHeld:=hHeld2; clear hHeld2
         try simp only [Act.put,sI,sZ,sS]
         clear hHz; refine wpAnyH_ready (rs:=[7,9]) (by as_aux_lemma=>kernel_rfl) (by simp) ?_; refine rdC rfl (fun K hK=>?_) (rdC rfl (fun K hK=>?_) AllReadyH.nil)
         ·go_simp
          have hbz : Below u2.heap.size u2 (u2.alloc (.cells #[iv (timedF t4 l).op,.bool (timedF t4 l).nt,sv (timedF t4 l).rel,.slice ya0 (timedF t4 l).args.length yc0,iv (compareF 4 t4 a).op,.bool (compareF 4 t4 a).nt,sv (compareF 4 t4 a).rel,.slice ya1 (compareF 4 t4 a).args.length yc1,iv L.op,.bool true,sv L.rel,.slice aw L.args.length cw] 28)):=(Below.refl _ _).alloc (Nat.le_refl _) _; have hHz:=hHeld.alloc hHeld.size (.cells #[iv (timedF t4 l).op,.bool (timedF t4 l).nt,sv (timedF t4 l).rel,.slice ya0 (timedF t4 l).args.length yc0,iv (compareF 4 t4 a).op,.bool (compareF 4 t4 a).nt,sv (compareF 4 t4 a).rel,.slice ya1 (compareF 4 t4 a).args.length yc1,iv L.op,.bool true,sv L.rel,.slice aw L.args.length cw] 28)
          have hND:=hid (show (idsL (List.map (fun p : Lt × Value=>(p.2.ownBlock,p.1)) [(timedF t4 l,.slice ya0 (timedF t4 l).args.length yc0),(compareF 4 t4 a,.slice ya1 (compareF 4 t4 a).args.length yc1),(neg L,.slice aw L.args.length cw)]) ++ [rx].flatMap RuD.ids).Nodup from nodup_aux2 (B:=W9.heap.size) (C:=wc.heap.size) (since_nd (ps:=[(timedF t4 l,.slice ya0 (timedF t4 l).args.length yc0),(compareF 4 t4 a,.slice ya1 (compareF 4 t4 a).args.length yc1)]) (p:=(neg L,.slice aw L.args.length cw)) hS.out.nd (fun q hq k hk=>(own_ge (hS.out.own q hq) hk).1) (fun k hk=>Nat.lt_of_lt_of_le (hQ9l.out k hk) hW9c.out)) (fun k hk=>since_or (ps:=[(timedF t4 l,.slice ya0 (timedF t4 l).args.length yc0),(compareF 4 t4 a,.slice ya1 (compareF 4 t4 a).args.length yc1)]) (p:=(neg L,.slice aw L.args.length cw)) (fun q hq k hk=>(own_ge (hS.out.own q hq) hk).1) (fun k hk=>hQ9l.out k hk) k hk) (fun k hk=>⟨(ru_ids (ru_tight hNRc.out.ru) k hk).1.1,hNRc.out.ru_lt k hk⟩) hNRc.out.nd)
          have hzge : w.heap.size ≤ u2.heap.size:=Nat.le_trans hKx.out.fr.size hHeld.size
          have hLr:=hid (show OwnR 28 4 LdR (from_ w.heap.size) (u2.alloc (.cells #[iv (timedF t4 l).op,.bool (timedF t4 l).nt,sv (timedF t4 l).rel,.slice ya0 (timedF t4 l).args.length yc0,iv (compareF 4 t4 a).op,.bool (compareF 4 t4 a).nt,sv (compareF 4 t4 a).rel,.slice ya1 (compareF 4 t4 a).args.length yc1,iv L.op,.bool true,sv L.rel,.slice aw L.args.length cw] 28)) (List.map (fun p : Lt × Value=>(p.2.ownBlock,p.1)) [(timedF t4 l,.slice ya0 (timedF t4 l).args.length yc0),(compareF 4 t4 a,.slice ya1 (compareF 4 t4 a).args.length yc1),(neg L,.slice aw L.args.length cw)]) (.slice (some ⟨u2.heap.size,0,none⟩) 3 3) from build_lits [(timedF t4 l,.slice ya0 (timedF t4 l).args.length yc0),(compareF 4 t4 a,.slice ya1 (compareF 4 t4 a).args.length yc1),(neg L,.slice aw L.args.length cw)] (heap_alloc_new' u2 _) (by show 3 ≤ maxLen; decide) hzge (by
           intro p hp; simp only [List.mem_cons,List.not_mem_nil,or_false] at hp; rcases hp with rfl | rfl | rfl
           ·exact (hS.out.own _ (by simp)).move goodFl fun k hk hk2=>⟨⟨Nat.le_trans hKx.out.fr.size hk2.1,by omega⟩,Below.heap_alloc _ _ _ hk⟩
           ·exact (hS.out.own _ (by simp)).move goodFl fun k hk hk2=>⟨⟨Nat.le_trans hKx.out.fr.size hk2.1,by omega⟩,Below.heap_alloc _ _ _ hk⟩
           ·exact (hQc.out.below goodFl hHeld).move goodFl fun k hk hk2=>⟨⟨Nat.le_trans hW8s2.out hk2,by omega⟩,Below.heap_alloc _ _ _ hk⟩))
          clear hzge; have hS':=hid (hS.out.grow hbz); clear hS; have hS:=hS'; clear hS'; clear hPd; generalize u2.alloc (.cells #[iv (timedF t4 l).op,.bool (timedF t4 l).nt,sv (timedF t4 l).rel,.slice ya0 (timedF t4 l).args.length yc0,iv (compareF 4 t4 a).op,.bool (compareF 4 t4 a).nt,sv (compareF 4 t4 a).rel,.slice ya1 (compareF 4 t4 a).args.length yc1,iv L.op,.bool true,sv L.rel,.slice aw L.args.length cw] 28) = u3 at *; refine hK.out _ _ ?_ (fun hHeld2=>?_)
          ·exact hHz
          clear hK K; clear hHeld; have hHeld:=hHeld2; clear hHeld2
          try simp only [Act.put,sI,sZ,sS]
          clear hHz; refine wTk (i:=10) (v:=?_) rfl ?hy ?_
          case hy =>
           intro w hSw
           skip
           go_simp
           all_goals with_reducible rfl
          try simp only [Act.put,sI,sZ,sS]
          refine wpAnyH_ready (rs:=[9]) (by as_aux_lemma=>kernel_rfl) (by simp) ?_; refine rdY rfl (fun K hK=>?_); go_simp; have hbz : Below u3.heap.size u3 (u3.alloc (.cells #[iv rx.head.2.op,.bool rx.head.2.nt,sv rx.head.2.rel,.slice xa rx.head.2.args.length xc,iv rx.agg,iv rx.at_,.slice ya rx.body.length yc] 38)):=(Below.refl _ _).alloc (Nat.le_refl _) _; have hHz:=hHeld.alloc hHeld.size (.cells #[iv rx.head.2.op,.bool rx.head.2.nt,sv rx.head.2.rel,.slice xa rx.head.2.args.length xc,iv rx.agg,iv rx.at_,.slice ya rx.body.length yc] 38); have hzge : w.heap.size ≤ u3.heap.size:=Nat.le_trans hKx.out.fr.size hHeld.size
          have hRr:=hid (show OwnR 38 7 RuR (from_ w.heap.size) (u3.alloc (.cells #[iv rx.head.2.op,.bool rx.head.2.nt,sv rx.head.2.rel,.slice xa rx.head.2.args.length xc,iv rx.agg,iv rx.at_,.slice ya rx.body.length yc] 38)) [rx] (.slice (some ⟨u3.heap.size,0,none⟩) 1 1) from build_rule (goodRu.below hNRc.out.ru hHeld) (fun k hk hk2=>Nat.le_trans hW6s.out hk2.1) hzge); clear hzge; have hS':=hid (hS.out.grow hbz); clear hS; have hS:=hS'; clear hS'; have hLr':=hid (hLr.out.below goodLd hbz); clear hLr; have hLr:=hLr'; clear hLr'

          generalize u3.alloc (.cells #[iv rx.head.2.op,.bool rx.head.2.nt,sv rx.head.2.rel,.slice xa rx.head.2.args.length xc,iv rx.agg,iv rx.at_,.slice ya rx.body.length yc] 38) = u4 at *; refine hK.out _ _ ?_ (fun hHeld2=>?_)
          ·exact hHz
          clear hK K; clear hHeld; have hHeld:=hHeld2; clear hHeld2
          try simp only [Act.put,sI,sZ,sS]
          clear hHz; refine wTk (i:=11) (v:=?_) rfl ?hy ?_
          case hy =>
           intro w hSw
           skip
           go_simp
           all_goals with_reducible rfl
          try simp only [Act.put,sI,sZ,sS]
          refine wTk (i:=12) (v:=?_) rfl ?hy ?_
          case hy =>
           intro w hSw
           skip
           go_simp
           all_goals with_reducible rfl
          try simp only [Act.put,sI,sZ,sS]
          refine wpAnyH_done (by as_aux_lemma=>kernel_rfl) ?_ _; have hKe:=hid (hKx.out.below hHeld)
          go_wp2_with fail
          refine bodyPost_ret (results_tmp3 Tryz.results61 _ _ _) rfl ⟨by rw [hR.out]; exact hKe.out.pm,hKe.out.fr,?_⟩; rw [hR.out]; exact ⟨_,_,_,_,rfl,hLr.out,hRr.out,by rw [show (sinceF t4 t5 t6 t7 rl l m a).1 = [timedF t4 l,compareF 4 t4 a,neg (withF rl m [t4,a])] from rfl,← hL.out]; rfl,by rw [show (sinceF t4 t5 t6 t7 rl l m a).2 = [⟨withF rl m [t5,t6],0,0,[timedF t7 m,happensF t5,happensF t6,compareF 3 t5 t7,compareF 4 t7 t6]⟩] from rfl,← hru.out]; rfl,hND.out⟩
         ·go_simp
          have hbz : Below u2.heap.size u2 (u2.alloc (.cells #[iv rx.head.2.op,.bool rx.head.2.nt,sv rx.head.2.rel,.slice xa rx.head.2.args.length xc,iv rx.agg,iv rx.at_,.slice ya rx.body.length yc] 38)):=(Below.refl _ _).alloc (Nat.le_refl _) _; have hHz:=hHeld.alloc hHeld.size (.cells #[iv rx.head.2.op,.bool rx.head.2.nt,sv rx.head.2.rel,.slice xa rx.head.2.args.length xc,iv rx.agg,iv rx.at_,.slice ya rx.body.length yc] 38); have hzge : w.heap.size ≤ u2.heap.size:=Nat.le_trans hKx.out.fr.size hHeld.size
          have hRr:=hid (show OwnR 38 7 RuR (from_ w.heap.size) (u2.alloc (.cells #[iv rx.head.2.op,.bool rx.head.2.nt,sv rx.head.2.rel,.slice xa rx.head.2.args.length xc,iv rx.agg,iv rx.at_,.slice ya rx.body.length yc] 38)) [rx] (.slice (some ⟨u2.heap.size,0,none⟩) 1 1) from build_rule (goodRu.below hNRc.out.ru hHeld) (fun k hk hk2=>Nat.le_trans hW6s.out hk2.1) hzge); clear hzge; have hS':=hid (hS.out.grow hbz); clear hS; have hS:=hS'; clear hS'; have hPd':=hid (hPd.out.below goodFl hbz); clear hPd; have hPd:=hPd'; clear hPd'

          generalize u2.alloc (.cells #[iv rx.head.2.op,.bool rx.head.2.nt,sv rx.head.2.rel,.slice xa rx.head.2.args.length xc,iv rx.agg,iv rx.at_,.slice ya rx.body.length yc] 38) = u3 at *; refine hK.out _ _ ?_ (fun hHeld2=>?_)
          ·exact hHz
          clear hK K; clear hHeld; have hHeld:=hHeld2; clear hHeld2
          try simp only [Act.put,sI,sZ,sS]
          clear hHz; refine wpAnyH_ready (rs:=[7]) (by as_aux_lemma=>kernel_rfl) (by simp) ?_; refine rdY rfl (fun K hK=>?_); go_simp; have hbz : Below u3.heap.size u3 (u3.alloc (.cells #[iv (timedF t4 l).op,.bool (timedF t4 l).nt,sv (timedF t4 l).rel,.slice ya0 (timedF t4 l).args.length yc0,iv (compareF 4 t4 a).op,.bool (compareF 4 t4 a).nt,sv (compareF 4 t4 a).rel,.slice ya1 (compareF 4 t4 a).args.length yc1,iv L.op,.bool true,sv L.rel,.slice aw L.args.length cw] 28)):=(Below.refl _ _).alloc (Nat.le_refl _) _
          have hHz:=hHeld.alloc hHeld.size (.cells #[iv (timedF t4 l).op,.bool (timedF t4 l).nt,sv (timedF t4 l).rel,.slice ya0 (timedF t4 l).args.length yc0,iv (compareF 4 t4 a).op,.bool (compareF 4 t4 a).nt,sv (compareF 4 t4 a).rel,.slice ya1 (compareF 4 t4 a).args.length yc1,iv L.op,.bool true,sv L.rel,.slice aw L.args.length cw] 28)
          have hND:=hid (show (idsL (List.map (fun p : Lt × Value=>(p.2.ownBlock,p.1)) [(timedF t4 l,.slice ya0 (timedF t4 l).args.length yc0),(compareF 4 t4 a,.slice ya1 (compareF 4 t4 a).args.length yc1),(neg L,.slice aw L.args.length cw)]) ++ [rx].flatMap RuD.ids).Nodup from nodup_aux2 (B:=W9.heap.size) (C:=wc.heap.size) (since_nd (ps:=[(timedF t4 l,.slice ya0 (timedF t4 l).args.length yc0),(compareF 4 t4 a,.slice ya1 (compareF 4 t4 a).args.length yc1)]) (p:=(neg L,.slice aw L.args.length cw)) hS.out.nd (fun q hq k hk=>(own_ge (hS.out.own q hq) hk).1) (fun k hk=>Nat.lt_of_lt_of_le (hQ9l.out k hk) hW9c.out)) (fun k hk=>since_or (ps:=[(timedF t4 l,.slice ya0 (timedF t4 l).args.length yc0),(compareF 4 t4 a,.slice ya1 (compareF 4 t4 a).args.length yc1)]) (p:=(neg L,.slice aw L.args.length cw)) (fun q hq k hk=>(own_ge (hS.out.own q hq) hk).1) (fun k hk=>hQ9l.out k hk) k hk) (fun k hk=>⟨(ru_ids (ru_tight hNRc.out.ru) k hk).1.1,hNRc.out.ru_lt k hk⟩) hNRc.out.nd)
          have hzge : w.heap.size ≤ u3.heap.size:=Nat.le_trans hKx.out.fr.size hHeld.size
          have hLr:=hid (show OwnR 28 4 LdR (from_ w.heap.size) (u3.alloc (.cells #[iv (timedF t4 l).op,.bool (timedF t4 l).nt,sv (timedF t4 l).rel,.slice ya0 (timedF t4 l).args.length yc0,iv (compareF 4 t4 a).op,.bool (compareF 4 t4 a).nt,sv (compareF 4 t4 a).rel,.slice ya1 (compareF 4 t4 a).args.length yc1,iv L.op,.bool true,sv L.rel,.slice aw L.args.length cw] 28)) (List.map (fun p : Lt × Value=>(p.2.ownBlock,p.1)) [(timedF t4 l,.slice ya0 (timedF t4 l).args.length yc0),(compareF 4 t4 a,.slice ya1 (compareF 4 t4 a).args.length yc1),(neg L,.slice aw L.args.length cw)]) (.slice (some ⟨u3.heap.size,0,none⟩) 3 3) from build_lits [(timedF t4 l,.slice ya0 (timedF t4 l).args.length yc0),(compareF 4 t4 a,.slice ya1 (compareF 4 t4 a).args.length yc1),(neg L,.slice aw L.args.length cw)] (heap_alloc_new' u3 _) (by show 3 ≤ maxLen; decide) hzge (by
           intro p hp; simp only [List.mem_cons,List.not_mem_nil,or_false] at hp; rcases hp with rfl | rfl | rfl
           ·exact (hS.out.own _ (by simp)).move goodFl fun k hk hk2=>⟨⟨Nat.le_trans hKx.out.fr.size hk2.1,by omega⟩,Below.heap_alloc _ _ _ hk⟩
           ·exact (hS.out.own _ (by simp)).move goodFl fun k hk hk2=>⟨⟨Nat.le_trans hKx.out.fr.size hk2.1,by omega⟩,Below.heap_alloc _ _ _ hk⟩
           ·exact (hQc.out.below goodFl hHeld).move goodFl fun k hk hk2=>⟨⟨Nat.le_trans hW8s2.out hk2,by omega⟩,Below.heap_alloc _ _ _ hk⟩))
          clear hzge; have hS':=hid (hS.out.grow hbz); clear hS; have hS:=hS'; clear hS'; have hRr':=hid (hRr.out.below goodRu hbz); clear hRr; have hRr:=hRr'; clear hRr'; clear hPd; generalize u3.alloc (.cells #[iv (timedF t4 l).op,.bool (timedF t4 l).nt,sv (timedF t4 l).rel,.slice ya0 (timedF t4 l).args.length yc0,iv (compareF 4 t4 a).op,.bool (compareF 4 t4 a).nt,sv (compareF 4 t4 a).rel,.slice ya1 (compareF 4 t4 a).args.length yc1,iv L.op,.bool true,sv L.rel,.slice aw L.args.length cw] 28) = u4 at *; refine hK.out _ _ ?_ (fun hHeld2=>?_)
          ·exact hHz
          clear hK K; clear hHeld; have hHeld:=hHeld2; clear hHeld2
          try simp only [Act.put,sI,sZ,sS]
          clear hHz; refine wTk (i:=10) (v:=?_) rfl ?hy ?_
          case hy =>
           intro w hSw
           skip
           go_simp
           all_goals with_reducible rfl
          try simp only [Act.put,sI,sZ,sS]
          refine wTk (i:=11) (v:=?_) rfl ?hy ?_
          case hy =>
           intro w hSw
           skip
           go_simp
           all_goals with_reducible rfl
          try simp only [Act.put,sI,sZ,sS]
          refine wTk (i:=12) (v:=?_) rfl ?hy ?_
          case hy =>
           intro w hSw
           skip
           go_simp
           all_goals with_reducible rfl
          try simp only [Act.put,sI,sZ,sS]
          refine wpAnyH_done (by as_aux_lemma=>kernel_rfl) ?_ _; have hKe:=hid (hKx.out.below hHeld)
          go_wp2_with fail
          refine bodyPost_ret (results_tmp3 Tryz.results61 _ _ _) rfl ⟨by rw [hR.out]; exact hKe.out.pm,hKe.out.fr,?_⟩; rw [hR.out]; exact ⟨_,_,_,_,rfl,hLr.out,hRr.out,by rw [show (sinceF t4 t5 t6 t7 rl l m a).1 = [timedF t4 l,compareF 4 t4 a,neg (withF rl m [t4,a])] from rfl,← hL.out]; rfl,by rw [show (sinceF t4 t5 t6 t7 rl l m a).2 = [⟨withF rl m [t5,t6],0,0,[timedF t7 m,happensF t5,happensF t6,compareF 3 t5 t7,compareF 4 t7 t6]⟩] from rfl,← hru.out]; rfl,hND.out⟩
        ·go_simp
         have hbz : Below u1.heap.size u1 (u1.alloc (.cells #[iv rx.head.2.op,.bool rx.head.2.nt,sv rx.head.2.rel,.slice xa rx.head.2.args.length xc,iv rx.agg,iv rx.at_,.slice ya rx.body.length yc] 38)):=(Below.refl _ _).alloc (Nat.le_refl _) _; have hHz:=hHeld.alloc hHeld.size (.cells #[iv rx.head.2.op,.bool rx.head.2.nt,sv rx.head.2.rel,.slice xa rx.head.2.args.length xc,iv rx.agg,iv rx.at_,.slice ya rx.body.length yc] 38); have hzge : w.heap.size ≤ u1.heap.size:=Nat.le_trans hKx.out.fr.size hHeld.size
         have hRr:=hid (show OwnR 38 7 RuR (from_ w.heap.size) (u1.alloc (.cells #[iv rx.head.2.op,.bool rx.head.2.nt,sv rx.head.2.rel,.slice xa rx.head.2.args.length xc,iv rx.agg,iv rx.at_,.slice ya rx.body.length yc] 38)) [rx] (.slice (some ⟨u1.heap.size,0,none⟩) 1 1) from build_rule (goodRu.below hNRc.out.ru hHeld) (fun k hk hk2=>Nat.le_trans hW6s.out hk2.1) hzge); clear hzge; have hS':=hid (hS.out.grow hbz); clear hS; have hS:=hS'; clear hS'; have hPd':=hid (hPd.out.below goodFl hbz); clear hPd; have hPd:=hPd'; clear hPd'

         generalize u1.alloc (.cells #[iv rx.head.2.op,.bool rx.head.2.nt,sv rx.head.2.rel,.slice xa rx.head.2.args.length xc,iv rx.agg,iv rx.at_,.slice ya rx.body.length yc] 38) = u2 at *; refine hK.out _ _ ?_ (fun hHeld2=>?_)
         ·exact hHz
         clear hK K; clear hHeld; have hHeld:=hHeld2; clear hHeld2
         try simp only [Act.put,sI,sZ,sS]
         clear hHz; refine wpAnyH_ready (rs:=[5]) (by as_aux_lemma=>kernel_rfl) (by simp) ?_; refine rdY rfl (fun K hK=>?_); go_simp
         go_at_call 81
         with_reducible refine (compare_f 4 t4 a _).mono ?_
         intro e u3 hP; obtain ⟨ya1,yc1,rfl,hQ,hbq⟩:=PL1.open hP; clear hP; have hHz:=hHeld.trans (hbq.mono hHeld.size); have hS':=hid (hS.out.push hbq hQ); clear hS; have hS:=hS'; clear hS'; have hPd':=hid (hPd.out.below goodFl hbq); clear hPd; have hPd:=hPd'; clear hPd'; have hRr':=hid (hRr.out.below goodRu hbq); clear hRr; have hRr:=hRr'; clear hRr'; clear hbq hQ; refine hK.out _ _ ?_ (fun hHeld2=>?_)
         ·exact hHz
         clear hK K; clear hHeld; have hHeld:=hHeld2; clear hHeld2
         try simp only [Act.put,sI,sZ,sS]
         clear hHz; refine wpAnyH_ready (rs:=[7]) (by as_aux_lemma=>kernel_rfl) (by simp) ?_; refine rdY rfl (fun K hK=>?_); go_simp; have hbz : Below u3.heap.size u3 (u3.alloc (.cells #[iv (timedF t4 l).op,.bool (timedF t4 l).nt,sv (timedF t4 l).rel,.slice ya0 (timedF t4 l).args.length yc0,iv (compareF 4 t4 a).op,.bool (compareF 4 t4 a).nt,sv (compareF 4 t4 a).rel,.slice ya1 (compareF 4 t4 a).args.length yc1,iv L.op,.bool true,sv L.rel,.slice aw L.args.length cw] 28)):=(Below.refl _ _).alloc (Nat.le_refl _) _
         have hHz:=hHeld.alloc hHeld.size (.cells #[iv (timedF t4 l).op,.bool (timedF t4 l).nt,sv (timedF t4 l).rel,.slice ya0 (timedF t4 l).args.length yc0,iv (compareF 4 t4 a).op,.bool (compareF 4 t4 a).nt,sv (compareF 4 t4 a).rel,.slice ya1 (compareF 4 t4 a).args.length yc1,iv L.op,.bool true,sv L.rel,.slice aw L.args.length cw] 28)
         have hND:=hid (show (idsL (List.map (fun p : Lt × Value=>(p.2.ownBlock,p.1)) [(timedF t4 l,.slice ya0 (timedF t4 l).args.length yc0),(compareF 4 t4 a,.slice ya1 (compareF 4 t4 a).args.length yc1),(neg L,.slice aw L.args.length cw)]) ++ [rx].flatMap RuD.ids).Nodup from nodup_aux2 (B:=W9.heap.size) (C:=wc.heap.size) (since_nd (ps:=[(timedF t4 l,.slice ya0 (timedF t4 l).args.length yc0),(compareF 4 t4 a,.slice ya1 (compareF 4 t4 a).args.length yc1)]) (p:=(neg L,.slice aw L.args.length cw)) hS.out.nd (fun q hq k hk=>(own_ge (hS.out.own q hq) hk).1) (fun k hk=>Nat.lt_of_lt_of_le (hQ9l.out k hk) hW9c.out)) (fun k hk=>since_or (ps:=[(timedF t4 l,.slice ya0 (timedF t4 l).args.length yc0),(compareF 4 t4 a,.slice ya1 (compareF 4 t4 a).args.length yc1)]) (p:=(neg L,.slice aw L.args.length cw)) (fun q hq k hk=>(own_ge (hS.out.own q hq) hk).1) (fun k hk=>hQ9l.out k hk) k hk) (fun k hk=>⟨(ru_ids (ru_tight hNRc.out.ru) k hk).1.1,hNRc.out.ru_lt k hk⟩) hNRc.out.nd)
         have hzge : w.heap.size ≤ u3.heap.size:=Nat.le_trans hKx.out.fr.size hHeld.size
         have hLr:=hid (show OwnR 28 4 LdR (from_ w.heap.size) (u3.alloc (.cells #[iv (timedF t4 l).op,.bool (timedF t4 l).nt,sv (timedF t4 l).rel,.slice ya0 (timedF t4 l).args.length yc0,iv (compareF 4 t4 a).op,.bool (compareF 4 t4 a).nt,sv (compareF 4 t4 a).rel,.slice ya1 (compareF 4 t4 a).args.length yc1,iv L.op,.bool true,sv L.rel,.slice aw L.args.length cw] 28)) (List.map (fun p : Lt × Value=>(p.2.ownBlock,p.1)) [(timedF t4 l,.slice ya0 (timedF t4 l).args.length yc0),(compareF 4 t4 a,.slice ya1 (compareF 4 t4 a).args.length yc1),(neg L,.slice aw L.args.length cw)]) (.slice (some ⟨u3.heap.size,0,none⟩) 3 3) from build_lits [(timedF t4 l,.slice ya0 (timedF t4 l).args.length yc0),(compareF 4 t4 a,.slice ya1 (compareF 4 t4 a).args.length yc1),(neg L,.slice aw L.args.length cw)] (heap_alloc_new' u3 _) (by show 3 ≤ maxLen; decide) hzge (by
          intro p hp; simp only [List.mem_cons,List.not_mem_nil,or_false] at hp; rcases hp with rfl | rfl | rfl
          ·exact (hS.out.own _ (by simp)).move goodFl fun k hk hk2=>⟨⟨Nat.le_trans hKx.out.fr.size hk2.1,by omega⟩,Below.heap_alloc _ _ _ hk⟩
          ·exact (hS.out.own _ (by simp)).move goodFl fun k hk hk2=>⟨⟨Nat.le_trans hKx.out.fr.size hk2.1,by omega⟩,Below.heap_alloc _ _ _ hk⟩
          ·exact (hQc.out.below goodFl hHeld).move goodFl fun k hk hk2=>⟨⟨Nat.le_trans hW8s2.out hk2,by omega⟩,Below.heap_alloc _ _ _ hk⟩))
         clear hzge; have hS':=hid (hS.out.grow hbz); clear hS; have hS:=hS'; clear hS'; have hRr':=hid (hRr.out.below goodRu hbz); clear hRr; have hRr:=hRr'; clear hRr'; clear hPd; generalize u3.alloc (.cells #[iv (timedF t4 l).op,.bool (timedF t4 l).nt,sv (timedF t4 l).rel,.slice ya0 (timedF t4 l).args.length yc0,iv (compareF 4 t4 a).op,.bool (compareF 4 t4 a).nt,sv (compareF 4 t4 a).rel,.slice ya1 (compareF 4 t4 a).args.length yc1,iv L.op,.bool true,sv L.rel,.slice aw L.args.length cw] 28) = u4 at *; refine hK.out _ _ ?_ (fun hHeld2=>?_)
         ·exact hHz
         clear hK K; clear hHeld; have hHeld:=hHeld2; clear hHeld2
         try simp only [Act.put,sI,sZ,sS]
         clear hHz; refine wTk (i:=10) (v:=?_) rfl ?hy ?_
         case hy =>
          intro w hSw
          skip
          go_simp
          all_goals with_reducible rfl
         try simp only [Act.put,sI,sZ,sS]
         refine wTk (i:=11) (v:=?_) rfl ?hy ?_
         case hy =>
          intro w hSw
          skip
          go_simp
          all_goals with_reducible rfl
         try simp only [Act.put,sI,sZ,sS]
         refine wTk (i:=12) (v:=?_) rfl ?hy ?_
         case hy =>
          intro w hSw
          skip
          go_simp
          all_goals with_reducible rfl
         try simp only [Act.put,sI,sZ,sS]
         refine wpAnyH_done (by as_aux_lemma=>kernel_rfl) ?_ _; have hKe:=hid (hKx.out.below hHeld)
         go_wp2_with fail
         refine bodyPost_ret (results_tmp3 Tryz.results61 _ _ _) rfl ⟨by rw [hR.out]; exact hKe.out.pm,hKe.out.fr,?_⟩; rw [hR.out]; exact ⟨_,_,_,_,rfl,hLr.out,hRr.out,by rw [show (sinceF t4 t5 t6 t7 rl l m a).1 = [timedF t4 l,compareF 4 t4 a,neg (withF rl m [t4,a])] from rfl,← hL.out]; rfl,by rw [show (sinceF t4 t5 t6 t7 rl l m a).2 = [⟨withF rl m [t5,t6],0,0,[timedF t7 m,happensF t5,happensF t6,compareF 3 t5 t7,compareF 4 t7 t6]⟩] from rfl,← hru.out]; rfl,hND.out⟩
       ·go_simp
        have hbz : Below wd.heap.size wd (wd.alloc (.cells #[iv rx.head.2.op,.bool rx.head.2.nt,sv rx.head.2.rel,.slice xa rx.head.2.args.length xc,iv rx.agg,iv rx.at_,.slice ya rx.body.length yc] 38)):=(Below.refl _ _).alloc (Nat.le_refl _) _; have hHz:=hHeld.alloc hHeld.size (.cells #[iv rx.head.2.op,.bool rx.head.2.nt,sv rx.head.2.rel,.slice xa rx.head.2.args.length xc,iv rx.agg,iv rx.at_,.slice ya rx.body.length yc] 38); have hzge : w.heap.size ≤ wd.heap.size:=Nat.le_trans hKx.out.fr.size hHeld.size
        have hRr:=hid (show OwnR 38 7 RuR (from_ w.heap.size) (wd.alloc (.cells #[iv rx.head.2.op,.bool rx.head.2.nt,sv rx.head.2.rel,.slice xa rx.head.2.args.length xc,iv rx.agg,iv rx.at_,.slice ya rx.body.length yc] 38)) [rx] (.slice (some ⟨wd.heap.size,0,none⟩) 1 1) from build_rule (goodRu.below hNRc.out.ru hHeld) (fun k hk hk2=>Nat.le_trans hW6s.out hk2.1) hzge); clear hzge; have hS':=hid (hS.out.grow hbz); clear hS; have hS:=hS'; clear hS'; have hPd':=hid (hPd.out.below goodFl hbz); clear hPd; have hPd:=hPd'; clear hPd'

        generalize wd.alloc (.cells #[iv rx.head.2.op,.bool rx.head.2.nt,sv rx.head.2.rel,.slice xa rx.head.2.args.length xc,iv rx.agg,iv rx.at_,.slice ya rx.body.length yc] 38) = u1 at *; refine hK.out _ _ ?_ (fun hHeld2=>?_)
        ·exact hHz
        clear hK K; clear hHeld; have hHeld:=hHeld2; clear hHeld2
        try simp only [Act.put,sI,sZ,sS]
        clear hHz; refine wpAnyH_ready (rs:=[2]) (by as_aux_lemma=>kernel_rfl) (by simp) ?_; refine rdY rfl (fun K hK=>?_); go_simp
        go_at_call 76
        with_reducible refine (timed_any t4 l _ _ _ (hPd.out.sl goodFl) hall).mono ?_
        intro e u2 hP; obtain ⟨ya0,yc0,rfl,hQ,hbq⟩:=PL1.open hP; clear hP; have hHz:=hHeld.trans (hbq.mono hHeld.size); have hS':=hid (hS.out.push hbq hQ); clear hS; have hS:=hS'; clear hS'; have hPd':=hid (hPd.out.below goodFl hbq); clear hPd; have hPd:=hPd'; clear hPd'; have hRr':=hid (hRr.out.below goodRu hbq); clear hRr; have hRr:=hRr'; clear hRr'; clear hbq hQ; refine hK.out _ _ ?_ (fun hHeld2=>?_)
        ·exact hHz
        clear hK K; clear hHeld; have hHeld:=hHeld2; clear hHeld2
        try simp only [Act.put,sI,sZ,sS]
        clear hHz; refine wpAnyH_ready (rs:=[5]) (by as_aux_lemma=>kernel_rfl) (by simp) ?_; refine rdY rfl (fun K hK=>?_); go_simp
        go_at_call 81
        with_reducible refine (compare_f 4 t4 a _).mono ?_
        intro e u3 hP; obtain ⟨ya1,yc1,rfl,hQ,hbq⟩:=PL1.open hP; clear hP; have hHz:=hHeld.trans (hbq.mono hHeld.size); have hS':=hid (hS.out.push hbq hQ); clear hS; have hS:=hS'; clear hS'; have hPd':=hid (hPd.out.below goodFl hbq); clear hPd; have hPd:=hPd'; clear hPd'; have hRr':=hid (hRr.out.below goodRu hbq); clear hRr; have hRr:=hRr'; clear hRr'; clear hbq hQ; refine hK.out _ _ ?_ (fun hHeld2=>?_)
        ·exact hHz
        clear hK K; clear hHeld; have hHeld:=hHeld2; clear hHeld2
        try simp only [Act.put,sI,sZ,sS]
        clear hHz; refine wpAnyH_ready (rs:=[7]) (by as_aux_lemma=>kernel_rfl) (by simp) ?_; refine rdY rfl (fun K hK=>?_); go_simp; have hbz : Below u3.heap.size u3 (u3.alloc (.cells #[iv (timedF t4 l).op,.bool (timedF t4 l).nt,sv (timedF t4 l).rel,.slice ya0 (timedF t4 l).args.length yc0,iv (compareF 4 t4 a).op,.bool (compareF 4 t4 a).nt,sv (compareF 4 t4 a).rel,.slice ya1 (compareF 4 t4 a).args.length yc1,iv L.op,.bool true,sv L.rel,.slice aw L.args.length cw] 28)):=(Below.refl _ _).alloc (Nat.le_refl _) _
        have hHz:=hHeld.alloc hHeld.size (.cells #[iv (timedF t4 l).op,.bool (timedF t4 l).nt,sv (timedF t4 l).rel,.slice ya0 (timedF t4 l).args.length yc0,iv (compareF 4 t4 a).op,.bool (compareF 4 t4 a).nt,sv (compareF 4 t4 a).rel,.slice ya1 (compareF 4 t4 a).args.length yc1,iv L.op,.bool true,sv L.rel,.slice aw L.args.length cw] 28)
        have hND:=hid (show (idsL (List.map (fun p : Lt × Value=>(p.2.ownBlock,p.1)) [(timedF t4 l,.slice ya0 (timedF t4 l).args.length yc0),(compareF 4 t4 a,.slice ya1 (compareF 4 t4 a).args.length yc1),(neg L,.slice aw L.args.length cw)]) ++ [rx].flatMap RuD.ids).Nodup from nodup_aux2 (B:=W9.heap.size) (C:=wc.heap.size) (since_nd (ps:=[(timedF t4 l,.slice ya0 (timedF t4 l).args.length yc0),(compareF 4 t4 a,.slice ya1 (compareF 4 t4 a).args.length yc1)]) (p:=(neg L,.slice aw L.args.length cw)) hS.out.nd (fun q hq k hk=>(own_ge (hS.out.own q hq) hk).1) (fun k hk=>Nat.lt_of_lt_of_le (hQ9l.out k hk) hW9c.out)) (fun k hk=>since_or (ps:=[(timedF t4 l,.slice ya0 (timedF t4 l).args.length yc0),(compareF 4 t4 a,.slice ya1 (compareF 4 t4 a).args.length yc1)]) (p:=(neg L,.slice aw L.args.length cw)) (fun q hq k hk=>(own_ge (hS.out.own q hq) hk).1) (fun k hk=>hQ9l.out k hk) k hk) (fun k hk=>⟨(ru_ids (ru_tight hNRc.out.ru) k hk).1.1,hNRc.out.ru_lt k hk⟩) hNRc.out.nd)
        have hzge : w.heap.size ≤ u3.heap.size:=Nat.le_trans hKx.out.fr.size hHeld.size
        have hLr:=hid (show OwnR 28 4 LdR (from_ w.heap.size) (u3.alloc (.cells #[iv (timedF t4 l).op,.bool (timedF t4 l).nt,sv (timedF t4 l).rel,.slice ya0 (timedF t4 l).args.length yc0,iv (compareF 4 t4 a).op,.bool (compareF 4 t4 a).nt,sv (compareF 4 t4 a).rel,.slice ya1 (compareF 4 t4 a).args.length yc1,iv L.op,.bool true,sv L.rel,.slice aw L.args.length cw] 28)) (List.map (fun p : Lt × Value=>(p.2.ownBlock,p.1)) [(timedF t4 l,.slice ya0 (timedF t4 l).args.length yc0),(compareF 4 t4 a,.slice ya1 (compareF 4 t4 a).args.length yc1),(neg L,.slice aw L.args.length cw)]) (.slice (some ⟨u3.heap.size,0,none⟩) 3 3) from build_lits [(timedF t4 l,.slice ya0 (timedF t4 l).args.length yc0),(compareF 4 t4 a,.slice ya1 (compareF 4 t4 a).args.length yc1),(neg L,.slice aw L.args.length cw)] (heap_alloc_new' u3 _) (by show 3 ≤ maxLen; decide) hzge (by
         intro p hp; simp only [List.mem_cons,List.not_mem_nil,or_false] at hp; rcases hp with rfl | rfl | rfl
         ·exact (hS.out.own _ (by simp)).move goodFl fun k hk hk2=>⟨⟨Nat.le_trans hKx.out.fr.size hk2.1,by omega⟩,Below.heap_alloc _ _ _ hk⟩
         ·exact (hS.out.own _ (by simp)).move goodFl fun k hk hk2=>⟨⟨Nat.le_trans hKx.out.fr.size hk2.1,by omega⟩,Below.heap_alloc _ _ _ hk⟩
         ·exact (hQc.out.below goodFl hHeld).move goodFl fun k hk hk2=>⟨⟨Nat.le_trans hW8s2.out hk2,by omega⟩,Below.heap_alloc _ _ _ hk⟩))
        clear hzge; have hS':=hid (hS.out.grow hbz); clear hS; have hS:=hS'; clear hS'; have hRr':=hid (hRr.out.below goodRu hbz); clear hRr; have hRr:=hRr'; clear hRr'; clear hPd; generalize u3.alloc (.cells #[iv (timedF t4 l).op,.bool (timedF t4 l).nt,sv (timedF t4 l).rel,.slice ya0 (timedF t4 l).args.length yc0,iv (compareF 4 t4 a).op,.bool (compareF 4 t4 a).nt,sv (compareF 4 t4 a).rel,.slice ya1 (compareF 4 t4 a).args.length yc1,iv L.op,.bool true,sv L.rel,.slice aw L.args.length cw] 28) = u4 at *; refine hK.out _ _ ?_ (fun hHeld2=>?_)
        ·exact hHz
        clear hK K; clear hHeld; have hHeld:=hHeld2; clear hHeld2
        try simp only [Act.put,sI,sZ,sS]
        clear hHz; refine wTk (i:=10) (v:=?_) rfl ?hy ?_
        case hy =>
         intro w hSw
         skip
         go_simp
         all_goals with_reducible rfl
        try simp only [Act.put,sI,sZ,sS]
        refine wTk (i:=11) (v:=?_) rfl ?hy ?_
        case hy =>
         intro w hSw
         skip
         go_simp
         all_goals with_reducible rfl
        try simp only [Act.put,sI,sZ,sS]
        refine wTk (i:=12) (v:=?_) rfl ?hy ?_
        case hy =>
         intro w hSw
         skip
         go_simp
         all_goals with_reducible rfl
        try simp only [Act.put,sI,sZ,sS]
        refine wpAnyH_done (by as_aux_lemma=>kernel_rfl) ?_ _; have hKe:=hid (hKx.out.below hHeld)
        go_wp2_with fail
        refine bodyPost_ret (results_tmp3 Tryz.results61 _ _ _) rfl ⟨by rw [hR.out]; exact hKe.out.pm,hKe.out.fr,?_⟩; rw [hR.out]; exact ⟨_,_,_,_,rfl,hLr.out,hRr.out,by rw [show (sinceF t4 t5 t6 t7 rl l m a).1 = [timedF t4 l,compareF 4 t4 a,neg (withF rl m [t4,a])] from rfl,← hL.out]; rfl,by rw [show (sinceF t4 t5 t6 t7 rl l m a).2 = [⟨withF rl m [t5,t6],0,0,[timedF t7 m,happensF t5,happensF t6,compareF 3 t5 t7,compareF 4 t7 t6]⟩] from rfl,← hru.out]; rfl,hND.out⟩
end Go.Proofs.YtbkdakbhagjkhaaGreatDoor
