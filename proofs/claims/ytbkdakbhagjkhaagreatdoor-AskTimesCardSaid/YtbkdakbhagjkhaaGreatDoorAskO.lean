/- ask: once. -/
import Derived.Test.YtbkdakbhagjkhaaGreatDoorAskV
set_option linter.unusedVariables false
set_option linter.unusedSimpArgs false
namespace Go.Proofs.YtbkdakbhagjkhaaGreatDoor
open Go.RowKit
open Go.Lib (hid itoa)
/-- a call of atom, as it is used -/
theorem atom_x (pb : Nat) (K : PK) (st : PSt) (w : World) (h : PM pb K st w) :
  Calls Tryz.prog 37 #[pt pb] w fun e w'=>∃ (op : Int) (nt : Bool) (rel : List UInt8) (a : Option Addr) (n c : Nat),e = .returned (.tuple #[.agg (lcells op nt rel (.slice a n c)),.bool (atomP K.ts st).1.isSome]) ∧
   (∀ l,(atomP K.ts st).1 = some l → op = l.op ∧ nt = l.nt ∧ rel = l.rel ∧ n = l.args.length ∧ OwnR 44 7 FlR (from_ w.heap.size) w' l.args (.slice a l.args.length c)) ∧ PM pb K (atomP K.ts st).2 w' ∧ Fr (one pb) w w':=by
 refine (atom_any pb K st w h).mono ?_; rintro e w' ⟨h1,h2,h3⟩; generalize atomP K.ts st = r at *; obtain ⟨o,s⟩:=r
 cases o with
 | some l =>
  obtain ⟨a,c,rfl,ho⟩:=h3; exact ⟨_,_,_,a,_,c,rfl,fun l2 hl=>(by cases hl; exact ⟨rfl,rfl,rfl,rfl,ho⟩),h1,h2⟩
 | none =>
  obtain ⟨op,nt,rel,a,n,c,rfl⟩:=h3; exact ⟨op,nt,rel,a,n,c,rfl,(fun l2 hl=>by cases hl),h1,h2⟩
/-- a call of side, as it is used -/
theorem side_x (pb : Nat) (K : PK) (st : PSt) (w : World) (h : PM pb K st w) :
  Calls Tryz.prog 74 #[pt pb] w fun e w'=>∃ (b : Bool) (x : Tm),e = .returned (.tuple #[.bool b,.agg (fcells x),.bool (sideP K.ts st).1.isSome]) ∧ (∀ y,(sideP K.ts st).1 = some y → y = (b,x)) ∧ PM pb K (sideP K.ts st).2 w' ∧ Fr (one pb) w w':=by
 refine (side_any pb K st w h).mono ?_; rintro e w' ⟨h1,h2,h3⟩; generalize sideP K.ts st = r at *; obtain ⟨o,s⟩:=r
 cases o with
 | some x=>exact ⟨x.1,x.2,h3,(fun y hy=>by cases hy; rfl),h1,h2⟩
 | none =>
  obtain ⟨b,x,rfl⟩:=h3; exact ⟨b,x,rfl,(fun y hy=>by cases hy),h1,h2⟩
def onceA (ts : List Tw) : Option Lt × PSt → Option (List Lt) × PSt
 | (none,s)=>(none,s)
 | (some l,s)=>onceE ts l (sideP ts s)
theorem once_eq (ts : List Tw) (st : PSt) : onceP ts st = onceA ts (atomP ts st):=by
 unfold onceP; generalize atomP ts st = r; obtain ⟨o,s⟩:=r; cases o <;> rfl
abbrev ltRow (ps : List (Lt × Value)) : List Value:=ps.flatMap fun p=>(lcells p.1.op p.1.nt p.1.rel p.2).toList
theorem ltRow_len (ps : List (Lt × Value)) : (ltRow ps).length = ps.length * 4:=by
 induction ps with
 | nil=>rfl
 | cons p l ih=>show (List.flatMap _ (p :: l)).length = _; rw [List.flatMap_cons,List.length_append,List.length_cons]; show 4 + (ltRow l).length = (l.length + 1) * 4; rw [ih]; omega
theorem ltRow_at (ps : List (Lt × Value)) (i : Nat) (p : Lt × Value) (h : ps[i]? = some p) (j : Nat) (u : Value) (hu : (lcells p.1.op p.1.nt p.1.rel p.2).toList[j]? = some u) : (ltRow ps)[i * 4 + j]? = some u:=by
 induction ps generalizing i with
 | nil=>simp at h
 | cons s l ih =>
  have hj : j < 4:=(List.getElem?_eq_some_iff.1 hu).1; show (List.flatMap _ (s :: l))[i * 4 + j]? = _; rw [List.flatMap_cons]
  cases i with
  | zero=>simp at h; subst h; rw [List.getElem?_append_left (by show _ < 4; omega)]; simpa using hu
  | succ i =>
   rw [List.getElem?_append_right (by show 4 ≤ _; omega)]; show (ltRow l)[(i + 1) * 4 + j - 4]? = _; rw [show (i + 1) * 4 + j - 4 = i * 4 + j by omega]; exact ih i (by simpa using h)
/-- a row of literals made at once -/
theorem build_lits {S : Foot} {W : World} {b : Nat} (ps : List (Lt × Value)) (hb : W.heap[b]? = some (.cells (ltRow ps).toArray 28 (0,0))) (hl : ps.length ≤ maxLen) (hS : S b) (hp : ∀ p ∈ ps,OwnR 44 7 FlR (fun q=>S q ∧ q ≠ b) W p.1.args p.2) :
  OwnR 28 4 LdR S W (ps.map fun p=>(p.2.ownBlock,p.1)) (.slice (some ⟨b,0,none⟩) ps.length ps.length):=by
 refine own_build goodLd hb (by simp) (ltRow_len ps) hl hS fun i x hx=>?_
 rw [List.getElem?_map] at hx; rcases hi : ps[i]? with _ | p
 ·rw [hi] at hx; cases hx
 ·rw [hi] at hx
  cases hx; exact ⟨_,fun j u hu=>ltRow_at ps i p hi j u hu,p.2,rfl,rfl,hp p (List.mem_of_getElem? hi)⟩
/-- what once answers -/
def PLits (pb : Nat) (K : PK) (w : World) (r : Option (List Lt) × PSt) (e : Ending) (w' : World) : Prop :=
 PM pb K r.2 w' ∧ Fr (one pb) w w' ∧ match r.1 with
 | some ls=>∃ v xs,e = .returned (.tuple #[v,.bool true]) ∧ OwnR 28 4 LdR (from_ w.heap.size) w' xs v ∧ xs.map (·.2) = ls ∧ (idsL xs).Nodup
 | none=>e = .returned (.tuple #[.slice none 0 0,.bool false])
theorem own_ge {α : Type} {E : TypeId} {sz : Nat} {R : Rel α} {S : Foot} {w : World} {l : List α} {v : Value} (h : OwnR E sz R S w l v) {k : Nat} (hk : v.ownBlock = some k) : S k:=by
 obtain ⟨xs,h1,h2,h3⟩:=h; exact h2 k hk
/-- blocks made one behind the other -/
def Rise : Nat → List (Option Nat) → Nat → Prop
 | B,[],C=>B ≤ C
 | B,o :: l,C=>∃ M,B ≤ M ∧ (∀ k,o = some k → B ≤ k ∧ k < M) ∧ Rise M l C
theorem Rise.le : ∀ {l : List (Option Nat)} {B C : Nat},Rise B l C → B ≤ C
 | [],_,_,h=>h
 | o :: l,B,C,h=>by obtain ⟨M,h1,_,h3⟩:=h; exact Nat.le_trans h1 h3.le
theorem Rise.mem : ∀ {l : List (Option Nat)} {B C : Nat},Rise B l C → ∀ k ∈ l.filterMap id,B ≤ k ∧ k < C
 | [],_,_,_,k,hk=>by simp at hk
 | o :: l,B,C,h,k,hk=>by
  obtain ⟨M,h1,h2,h3⟩:=h; have hm:=h3.le
  cases o with
  | none =>
   have:=h3.mem k (by simpa using hk); omega
  | some q =>
   rcases List.mem_cons.1 (show k ∈ q :: l.filterMap id by simpa using hk) with rfl | hk
   ·have:=h2 k rfl; omega
   ·have:=h3.mem k hk; omega
theorem Rise.nodup : ∀ {l : List (Option Nat)} {B C : Nat},Rise B l C → (l.filterMap id).Nodup
 | [],_,_,_=>by simp
 | o :: l,B,C,h=>by
  obtain ⟨M,h1,h2,h3⟩:=h
  cases o with
  | none=>simpa using h3.nodup
  | some q =>
   show (q :: l.filterMap id).Nodup; refine List.nodup_cons.2 ⟨fun hm=>?_,h3.nodup⟩; have h4:=h3.mem q hm; have h5:=h2 q rfl; omega
theorem idsL_eq (l : List (Option Nat × Lt)) : idsL l = (l.map (·.1)).filterMap id:=by unfold idsL; rw [List.filterMap_map]; rfl
/-- an owned row made between two worlds -/
theorem own_between {α : Type} {E : TypeId} {sz : Nat} {R : Rel α} {B : Nat} {W : World} {l : List α} {v : Value} (h : OwnR E sz R (from_ B) W l v) : ∀ k,v.ownBlock = some k → B ≤ k ∧ k < W.heap.size:=fun k hk=>⟨own_ge h hk,h.lt hk⟩
theorem own_lift {B B0 z : Nat} {W W' : World} {l : List Tm} {v : Value} (h : OwnR 44 7 FlR (from_ B) W l v) (hb : Below W.heap.size W W') (hB : B0 ≤ B) (hz : W.heap.size ≤ z) : OwnR 44 7 FlR (fun q=>from_ B0 q ∧ q ≠ z) W' l v :=
 h.move goodFl fun k hk hk2=>⟨⟨Nat.le_trans hB hk2,by omega⟩,hb.block k hk⟩
set_option maxHeartbeats 4000000 in
set_option maxRecDepth 100000 in
theorem once_any (pb : Nat) (K : PK) (st : PSt) (w : World) (h : PM pb K st w) (hT : TabN pb w) (hN : NamesOk K) (hv : st.vars + K.toks.length + 1 ≤ 4611686018427387904) :
  Calls Tryz.prog 59 #[pt pb] w (PLits pb K w (onceP K.ts st)):=by
 obtain ⟨R,hR⟩ : ∃ R,R = onceP K.ts st:=⟨_,rfl⟩; rw [← hR]; have hK0:=hid (Kp.start h); have hpl:=h.lt; have hat:=hid (atom_x pb K st w h); have hkA:=atomP_keep K.ts st; have hokA:=atomP_ok K.ts (fun i=>(h.tok_ok i).2.2) st; obtain ⟨ra,hra⟩ : ∃ ra,ra = atomP K.ts st:=⟨_,rfl⟩; rw [← hra] at hat hkA hokA; replace hR:=hid (show R = onceA K.ts ra from by rw [hR,hra]; exact once_eq _ _); replace hra:=hid hra; obtain ⟨ol,s1⟩:=ra; replace hkA:=hid hkA; replace hokA:=hid hokA; replace hN:=hid hN; obtain ⟨z1,hz1⟩ : ∃ z,ol.isSome = z:=⟨_,rfl⟩
 replace hat:=hid (show Calls Tryz.prog 37 #[pt pb] w fun e w'=>∃ (op : Int) (nt : Bool) (rel : List UInt8) (a : Option Addr) (n c : Nat),e = .returned (.tuple #[.agg (lcells op nt rel (.slice a n c)),.bool z1]) ∧ (∀ l,ol = some l → op = l.op ∧ nt = l.nt ∧ rel = l.rel ∧ n = l.args.length ∧ OwnR 44 7 FlR (from_ w.heap.size) w' l.args (.slice a l.args.length c)) ∧ PM pb K s1 w' ∧ Fr (one pb) w w' from by rw [← hz1]; exact hat.out); replace hz1:=hid hz1
 go_enter Tryz.func59,Tryz.ntmps59
 go_wp2_with fail
 with_reducible refine hat.out.mono ?_
 rintro e w1 ⟨op,nt,rel,a1,n1,c1,rfl,hl,hM1,hf1⟩; have hK1:=hid ((hK0.out.call hM1 hf1).alloc (.cells (lcells op nt rel (.slice a1 n1 c1)) 28)); have hT1:=hid ((hT.fr hf1).below ((Below.refl _ w1).alloc (Nat.le_refl _) (.cells (lcells op nt rel (.slice a1 n1 c1)) 28))); have hf1':=hid hf1; clear hM1 hf1 hat hT h; replace hl:=hid hl
 cases ol with
 | none =>
  have hz' : false = z1:=hz1.out; subst hz'; replace hR:=hid (show R = (none,s1) from hR.out)
  go_wp2_with fail
  go_ret2
  refine ⟨by rw [hR.out]; exact hK1.out.pm,hK1.out.fr,?_⟩; rw [hR.out]; rfl
 | some l =>
  have hz' : true = z1:=hz1.out; subst hz'; obtain ⟨rfl,rfl,rfl,rfl,hO⟩:=hl.out l rfl; have hO1:=hid (hO.below goodFl ((Below.refl _ w1).alloc (Nat.le_refl _) (.cells (lcells l.op l.nt l.rel (.slice a1 l.args.length c1)) 28))); clear hO hl; obtain ⟨W1,hW1⟩ : ∃ W1,W1 = w1.alloc (.cells (lcells l.op l.nt l.rel (.slice a1 l.args.length c1)) 28):=⟨_,rfl⟩; rw [← hW1] at hK1 hT1 hO1; have hsd:=hid (side_x pb K s1 W1 hK1.out.pm); have hkS:=sideP_keep K.ts s1; obtain ⟨rs,hrs⟩ : ∃ rs,rs = sideP K.ts s1:=⟨_,rfl⟩; rw [← hrs] at hsd hkS; replace hR:=hid (show R = onceE K.ts l rs from by rw [hrs]; exact hR.out); replace hrs:=hid hrs; obtain ⟨os,s2⟩:=rs; obtain ⟨z2,hz2⟩ : ∃ z,os.isSome = z:=⟨_,rfl⟩
  replace hsd:=hid (show Calls Tryz.prog 74 #[pt pb] W1 fun e w'=>∃ (b : Bool) (x : Tm),e = .returned (.tuple #[.bool b,.agg (fcells x),.bool z2]) ∧ (∀ y,os = some y → y = (b,x)) ∧ PM pb K s2 w' ∧ Fr (one pb) W1 w' from by rw [← hz2]; exact hsd.out); replace hz2:=hid hz2; replace hkS:=hid hkS
  go_wp2_with fail
  rw [← hW1]
  with_reducible refine hsd.out.mono ?_
  rintro e w2 ⟨b,x,rfl,hy,hM2,hf2⟩; have hK2:=hid ((hK1.out.call hM2 hf2).alloc (.cells (fcells x) 44)); have hT2:=hid ((hT1.out.fr hf2).below ((Below.refl _ w2).alloc (Nat.le_refl _) (.cells (fcells x) 44))); have hO2:=hid ((hO1.out.fr goodFl hf2 (fun q hq e=>by unfold one at e; unfold from_ at hq; omega)).below goodFl ((Below.refl _ w2).alloc (Nat.le_refl _) (.cells (fcells x) 44))); clear hM2 hf2 hsd; replace hy:=hid hy; replace hW1:=hid hW1
  cases os with
  | none =>
   have hz' : false = z2:=hz2.out; subst hz'; replace hR:=hid (show R = (none,s2) from hR.out)
   go_wp2_with fail
   go_ret2
   refine ⟨by rw [hR.out]; exact hK2.out.pm,hK2.out.fr,?_⟩; rw [hR.out]; rfl
  | some y =>
   have hz' : true = z2:=hz2.out; subst hz'; have hyb:=hy.out y rfl; subst hyb; have hvs : s2.vars = st.vars:=hkS.out.vars.trans hkA.out.vars; have hnv:=hid (newVar_any pb K s2 _ hK2.out.pm hT2.out hN.out (by omega)); replace hR:=hid (show R = (some [timedF (newVarP K.ts s2).1 l,besideF b (newVarP K.ts s2).1 x],(newVarP K.ts s2).2) from hR.out); obtain ⟨rv,hrv⟩ : ∃ rv,rv = newVarP K.ts s2:=⟨_,rfl⟩; rw [← hrv] at hnv hR; replace hrv:=hid hrv; obtain ⟨t,s3⟩:=rv
   have hal : l.args.length ≤ 1048575:=by have h1:=hokA.out l rfl; have h2:=hK2.out.pm.nx; have h3:=hK2.out.pm.len; have h4:=hkS.out.nx; have h5 : l.args.length + st.nx < s1.nx:=h1.2; have h6 : s1.nx ≤ s2.nx:=h4; omega
   replace hvs:=hid hvs
   go_wp2_with fail
   with_reducible refine hnv.out.mono ?_
   rintro e w3 ⟨rfl,hM3,hf3⟩; have hK3:=hid ((hK2.out.call hM3 hf3).alloc (.cells (fcells t) 44)); have hO3:=hid ((hO2.out.fr goodFl hf3 (fun q hq e=>by unfold one at e; unfold from_ at hq; omega)).below goodFl ((Below.refl _ w3).alloc (Nat.le_refl _) (.cells (fcells t) 44))); clear hM3 hf3 hnv hO2 hO1 hK2 hK1 hT1 hT2
   go_wp2_with fail
   generalize hW3 : w3.alloc (.cells (fcells t) 44) = W3 at *; have rX:=hK3.out.nth (i:=0) (b:=w3.heap.size) (o:=.cells (fcells t) 44 (0,0)) rfl; have rA:=hK3.out.nth (i:=1) (b:=w2.heap.size) (o:=.cells (fcells x) 44 (0,0)) rfl; have rL:=hK3.out.nth (i:=2) (b:=w1.heap.size) (o:=.cells (lcells l.op l.nt l.rel (.slice a1 l.args.length c1)) 28 (0,0)) rfl; clear hW3; refine wp_region_held_drew (S:=fun w'=>Below W3.heap.size W3 w') (by kernel_rfl) ?_ (fun hHeld=>?_)
   ·exact (Below.refl _ W3).drew
   generalize W3.drew = wd at *; have hHd:=hHeld; refine wTk (i:=0) (v:=?_) rfl ?hy ?_
   case hy =>
    intro w hSw; obtain ⟨v0,v1,v2,v3,v4,v5,v6,-⟩:=tm_cells (below_keep hSw rX (lt_of_heap rX)); go_simp
    all_goals with_reducible rfl
   try simp only [Act.put,sI,sZ,sS]
   refine wTk (i:=1) (v:=?_) rfl ?hy ?_
   case hy =>
    intro w hSw; obtain ⟨v0,v1,v2,v3,-⟩:=lt_cells (below_keep hSw rL (lt_of_heap rL)); go_simp
    all_goals with_reducible rfl
   try simp only [Act.put,sI,sZ,sS]
   refine wTk (i:=3) (v:=?_) rfl ?hy ?_
   case hy =>
    intro w hSw
    skip
    go_simp
    all_goals with_reducible rfl
   try simp only [Act.put,sI,sZ,sS]
   refine wTk (i:=4) (v:=?_) rfl ?hy ?_
   case hy =>
    intro w hSw; obtain ⟨v0,v1,v2,v3,v4,v5,v6,-⟩:=tm_cells (below_keep hSw rX (lt_of_heap rX)); go_simp
    all_goals with_reducible rfl
   try simp only [Act.put,sI,sZ,sS]
   refine wTk (i:=5) (v:=?_) rfl ?hy ?_
   case hy =>
    intro w hSw; obtain ⟨v0,v1,v2,v3,v4,v5,v6,-⟩:=tm_cells (below_keep hSw rA (lt_of_heap rA)); go_simp
    all_goals with_reducible rfl
   try simp only [Act.put,sI,sZ,sS]
   refine wpAnyH_ready (rs:=[2]) (by as_aux_lemma=>kernel_rfl) (by simp) ?_; refine rdY rfl (fun K hK=>?_); go_simp
   go_at_call 76
   with_reducible refine (timed_any t l _ _ _ ((hO3.out.below goodFl hHeld).sl goodFl) hal).mono ?_
   intro e W4 hP; obtain ⟨ya4,yc4,rfl,hQ4,hb4⟩:=PL1.open hP; clear hP; have hH4:=hid (hHeld.trans (hb4.mono hHeld.size)); replace hQ4:=hid hQ4; refine hK.out _ _ ?_ (fun hHeld2=>?_)
   ·exact hH4.out
   clear hK K; clear hHeld; have hHeld:=hHeld2; clear hHeld2
   try simp only [Act.put,sI,sZ,sS]
   refine wpAnyH_ready (rs:=[6]) (by as_aux_lemma=>kernel_rfl) (by simp) ?_; refine rdY rfl (fun K hK=>?_); go_simp
   go_at_call 77
   with_reducible refine (beside_any b t x _).mono ?_
   intro e W5 hP; obtain ⟨ya5,yc5,rfl,hQ5,hb5⟩:=PL1.open hP; clear hP; have hH5:=hid (hHeld.trans (hb5.mono hHeld.size)); replace hQ5:=hid hQ5; refine hK.out _ _ ?_ (fun hHeld2=>?_)
   ·exact hH5.out
   clear hK K; clear hHeld; have hHeld:=hHeld2; clear hHeld2
   try simp only [Act.put,sI,sZ,sS]
   refine wpAnyH_ready (rs:=[7]) (by as_aux_lemma=>kernel_rfl) (by simp) ?_; refine rdY rfl (fun K hK=>?_); go_simp
   skip
   refine hK.out _ _ ?_ (fun hHeld2=>?_)
   ·exact hHeld.alloc hHeld.size _
   clear hK K; clear hHeld; have hHeld:=hHeld2; clear hHeld2
   try simp only [Act.put,sI,sZ,sS]
   refine wTk (i:=8) (v:=?_) rfl ?hy ?_
   case hy =>
    intro w hSw
    skip
    go_simp
    all_goals with_reducible rfl
   try simp only [Act.put,sI,sZ,sS]
   refine wTk (i:=9) (v:=?_) rfl ?hy ?_
   case hy =>
    intro w hSw
    skip
    go_simp
    all_goals with_reducible rfl
   try simp only [Act.put,sI,sZ,sS]
   refine wpAnyH_done (by as_aux_lemma=>kernel_rfl) ?_ _
   go_wp2_with fail
   go_ret2
   have hKz:=hK3.out.below hHeld; have hs3:=hK3.out.fr.size; have hb6 : Below W5.heap.size W5 (W5.alloc (.cells (ltRow [(timedF t l,.slice ya4 (timedF t l).args.length yc4),(besideF b t x,.slice ya5 (besideF b t x).args.length yc5)]).toArray 28)):=(Below.refl _ _).alloc (Nat.le_refl _) _; have hsd : W3.heap.size ≤ wd.heap.size:=hHd.size; refine ⟨by rw [hR.out]; exact hKz.pm,hKz.fr,?_⟩; rw [hR.out]; refine ⟨_,_,rfl,build_lits (S:=from_ w.heap.size) [(timedF t l,.slice ya4 (timedF t l).args.length yc4),(besideF b t x,.slice ya5 (besideF b t x).args.length yc5)] (heap_alloc_new' _ _) (by show 2 ≤ maxLen; decide) (Nat.le_trans hs3 hH5.out.size) (fun p hp=>?_),rfl,?_⟩
   ·simp only [List.mem_cons,List.not_mem_nil,or_false] at hp
    rcases hp with rfl | rfl
    ·exact own_lift hQ4.out (hb5.trans (hb6.mono hb5.size)) (by omega) hb5.size
    ·exact own_lift hQ5.out hb6 (by have:=hb4.size; omega) (Nat.le_refl _)
   ·rw [idsL_eq]
    exact Rise.nodup (B:=wd.heap.size) (C:=W5.heap.size) ⟨W4.heap.size,hb4.size,own_between hQ4.out,W5.heap.size,hb5.size,own_between hQ5.out,Nat.le_refl _⟩
end Go.Proofs.YtbkdakbhagjkhaaGreatDoor
