/- ask: literal. -/
import Derived.Test.YtbkdakbhagjkhaaGreatDoorAskTa
set_option linter.unusedVariables false
set_option linter.unusedSimpArgs false
namespace Go.Proofs.YtbkdakbhagjkhaaGreatDoor
open Go.RowKit
open Go.Lib (hid itoa)
theorem PM.base {pb : Nat} {K : PK} {s st : PSt} {w0 w w' : World} (h0 : PM pb K s w0) (hf : Fr (one pb) w0 w') (h : PM pb K st w) (hb : w'.heap[pb]? = w.heap[pb]?) : PM pb K st w' :=
 h0.fr hf (hb.trans h.blk) h.nx
/-- what the switch of literal leaves: the literals, the rules besides, whether it went well -/
def LitR (pb : Nat) (K : PK) (w : World) (r : Option (List Lt × List Ru) × PSt) (v1 v2 ok : Value) (w' : World) : Prop :=
 PM pb K r.2 w' ∧ Fr (one pb) w w' ∧ match r.1 with
 | some q=>∃ xs ys,ok = .bool true ∧ OwnR 28 4 LdR (from_ w.heap.size) w' xs v1 ∧ OwnR 38 7 RuR (from_ w.heap.size) w' ys v2 ∧ xs.map (·.2) = q.1 ∧ ys.map RuD.ru = q.2 ∧ (idsL xs ++ ys.flatMap RuD.ids).Nodup
 | none=>ok = .bool false
/-- what literal answers: made, with the literals and the rules -/
def PMade (pb : Nat) (K : PK) (w0 : World) (r0 : Ru) (rest : List Ru) (r : Option (List Lt × List Ru) × PSt) (e : Ending) (w' : World) : Prop :=
 PM pb K r.2 w' ∧ Fr (one pb) w0 w' ∧ match r.1 with
 | some q=>∃ v xs,e = .returned (.tuple #[v,.bool true]) ∧ OwnR 38 7 RuR (from_ w0.heap.size) w' xs v ∧ xs.map RuD.ru = ⟨r0.head,r0.agg,r0.at_,r0.body ++ q.1⟩ :: (rest ++ q.2) ∧ (xs.flatMap RuD.ids).Nodup
 | none=>e = .returned (.tuple #[.slice none 0 0,.bool false])
/-- a call of comparison, as it is used -/
theorem comparison_x (pb : Nat) (K : PK) (st : PSt) (w : World) (h : PM pb K st w) :
  Calls Tryz.prog 63 #[pt pb] w fun e w'=>∃ (op : Int) (nt : Bool) (rel : List UInt8) (a : Option Addr) (n c : Nat),e = .returned (.tuple #[.agg (lcells op nt rel (.slice a n c)),.bool (comparisonP K.ts st).1.isSome]) ∧
   (∀ l,(comparisonP K.ts st).1 = some l → op = l.op ∧ nt = l.nt ∧ rel = l.rel ∧ n = l.args.length ∧ OwnR 44 7 FlR (from_ w.heap.size) w' l.args (.slice a l.args.length c)) ∧ PM pb K (comparisonP K.ts st).2 w' ∧ Fr (one pb) w w':=by
 refine (comparison_any pb K st w h).mono ?_; rintro e w' ⟨h1,h2,h3⟩; generalize comparisonP K.ts st = r at *; obtain ⟨o,s⟩:=r
 cases o with
 | some l =>
  obtain ⟨a,c,rfl,ho⟩:=h3; exact ⟨_,_,_,a,_,c,rfl,fun l2 hl=>(by cases hl; exact ⟨rfl,rfl,rfl,rfl,ho⟩),h1,h2⟩
 | none =>
  obtain ⟨op,nt,rel,a,n,c,rfl⟩:=h3; exact ⟨op,nt,rel,a,n,c,rfl,(fun l2 hl=>by cases hl),h1,h2⟩
theorem literalP_len (ts : List Tw) (st : PSt) (q : List Lt × List Ru) (h : (literalP ts st).1 = some q) : q.1.length ≤ 3 ∧ q.2.length ≤ 1:=by
 have hE : ∀ (f : Lt → Lt) (r : Option Lt × PSt),(litE f r).1 = some q → q.1.length ≤ 3 ∧ q.2.length ≤ 1:=by
  intro f r h; obtain ⟨o,s⟩:=r
  cases o with
  | none=>cases h
  | some l=>cases h; exact ⟨by show 1 ≤ 3; decide,by show 0 ≤ 1; decide⟩
 unfold literalP at h; split at h
 ·exact hE _ _ h
 ·split at h
  ·unfold onceP at h
   generalize atomP ts (nextP st) = r at h; obtain ⟨o,s⟩:=r
   cases o with
   | none=>cases h
   | some l =>
    replace h : (litsE (onceE ts l (sideP ts s))).1 = some q:=h; generalize sideP ts s = r at h; obtain ⟨o,s⟩:=r
    cases o with
    | none=>cases h
    | some x=>cases h; exact ⟨by show 2 ≤ 3; decide,by show 0 ≤ 1; decide⟩
  ·split at h
   ·unfold neverP at h
    generalize atomP ts (nextP st) = r at h; obtain ⟨o,s⟩:=r
    cases o with
    | none=>cases h
    | some l =>
     replace h : (neverE ts l (sideP ts s)).1 = some q:=h; generalize sideP ts s = r at h; obtain ⟨o,s⟩:=r
     cases o with
     | none=>cases h
     | some x=>cases h; exact ⟨by show 1 ≤ 3; decide,by show 1 ≤ 1; decide⟩
   ·split at h
    ·unfold sinceP at h
     generalize atomP ts (nextP st) = r at h; obtain ⟨o,s⟩:=r
     cases o with
     | none=>cases h
     | some l =>
      replace h : (if isP ts s 1 [110,111] then sinceM ts l (atomP ts (nextP s)) else (none,failP s)).1 = some q:=h; split at h
      ·generalize atomP ts (nextP s) = r at h
       obtain ⟨o,s⟩:=r
       cases o with
       | none=>cases h
       | some m =>
        replace h : (if isP ts s 1 [97,116] then sinceE ts l m (termP ts (nextP s)) else (none,failP s)).1 = some q:=h; split at h
        ·generalize termP ts (nextP s) = r at h
         obtain ⟨o,s⟩:=r
         cases o with
         | none=>cases h
         | some x=>cases h; exact ⟨by show 3 ≤ 3; decide,by show 1 ≤ 1; decide⟩
        ·cases h
      ·cases h
    ·split at h
     ·exact hE _ _ h
     ·exact hE _ _ h
theorem LitR.lift {pb : Nat} {K : PK} {w x w' : World} {r : Option (List Lt × List Ru) × PSt} {v1 v2 ok : Value} (h : LitR pb K x r v1 v2 ok w') (hf : Fr (one pb) w x) : LitR pb K w r v1 v2 ok w':=by
 obtain ⟨h1,h2,h3⟩:=h; refine ⟨h1,hf.trans h2,?_⟩; obtain ⟨o,s⟩:=r
 cases o with
 | none=>exact h3
 | some q =>
  obtain ⟨xs,ys,e,g1,g2,g3⟩:=h3; exact ⟨xs,ys,e,g1.mono goodLd fun k _ hk=>Nat.le_trans hf.size hk,g2.mono goodRu fun k _ hk=>Nat.le_trans hf.size hk,g3⟩
theorem aux_lit {pb : Nat} {K : PK} {w w' : World} {r : Option (List Lt × List Ru) × PSt} {e : Ending} (h : PAux pb K w r e w') : ∃ v1 v2 ok,e = .returned (.tuple #[v1,v2,ok]) ∧ LitR pb K w r v1 v2 ok w':=by
 obtain ⟨h1,h2,h3⟩:=h; obtain ⟨o,s⟩:=r
 cases o with
 | none=>exact ⟨_,_,_,h3,h1,h2,rfl⟩
 | some q =>
  obtain ⟨v1,v2,xs,ys,rfl,g1,g2,g3,g4,g5⟩:=h3; exact ⟨v1,v2,_,rfl,h1,h2,xs,ys,rfl,g1,g2,g3,g4,g5⟩
theorem lits_lit {pb : Nat} {K : PK} {w w' : World} {r : Option (List Lt) × PSt} {e : Ending} (h : PLits pb K w r e w') : ∃ v1 ok,e = .returned (.tuple #[v1,ok]) ∧ LitR pb K w (litsE r) v1 (.slice none 0 0) ok w':=by
 obtain ⟨h1,h2,h3⟩:=h; obtain ⟨o,s⟩:=r
 cases o with
 | none=>exact ⟨_,_,h3,h1,h2,rfl⟩
 | some q =>
  obtain ⟨v1,xs,rfl,g1,g2,g3⟩:=h3; exact ⟨v1,_,rfl,h1,h2,xs,[],rfl,g1,OwnR.nil _ _ _ _ _,g2,rfl,by simpa using g3⟩
theorem once_x (pb : Nat) (K : PK) (st : PSt) (w : World) (h : PM pb K st w) (hT : TabN pb w) (hN : NamesOk K) (hv : st.vars + K.toks.length + 1 ≤ 4611686018427387904) :
  Calls Tryz.prog 59 #[pt pb] w fun e w'=>∃ v1 ok,e = .returned (.tuple #[v1,ok]) ∧ LitR pb K w (litsE (onceP K.ts st)) v1 (.slice none 0 0) ok w' :=
 (once_any pb K st w h hT hN hv).mono fun e w' h=>lits_lit h
theorem never_x (pb : Nat) (K : PK) (st : PSt) (w : World) (h : PM pb K st w) (hT : TabN pb w) (hN : NamesOk K) (hv : st.vars + 4 * (K.toks.length + 1) ≤ 4611686018427387904) (hv2 : st.rels + 4 * (K.toks.length + 1) ≤ 4611686018427387904) :
  Calls Tryz.prog 60 #[pt pb] w fun e w'=>∃ v1 v2 ok,e = .returned (.tuple #[v1,v2,ok]) ∧ LitR pb K w (neverP K.ts st) v1 v2 ok w' :=
 (never_any pb K st w h hT hN hv hv2).mono fun e w' h=>aux_lit h
theorem since_x (pb : Nat) (K : PK) (st : PSt) (w : World) (h : PM pb K st w) (hT : TabN pb w) (hN : NamesOk K) (hv : st.vars + 4 * (K.toks.length + 1) ≤ 4611686018427387904) (hv2 : st.rels + 4 * (K.toks.length + 1) ≤ 4611686018427387904) :
  Calls Tryz.prog 61 #[pt pb] w fun e w'=>∃ v1 v2 ok,e = .returned (.tuple #[v1,v2,ok]) ∧ LitR pb K w (sinceP K.ts st) v1 v2 ok w' :=
 (since_any pb K st w h hT hN hv hv2).mono fun e w' h=>aux_lit h
set_option maxHeartbeats 8000000 in
set_option maxRecDepth 100000 in
theorem literal_any (pb : Nat) (K : PK) (st : PSt) (w0 w : World) (h0 : ∃ s,PM pb K s w0) (hf0 : Fr (one pb) w0 w) (h : PM pb K st w) (hT : TabN pb w) (hN : NamesOk K) (hv : st.vars + 4 * (K.toks.length + 1) ≤ 4611686018427387904) (hv2 : st.rels + 4 * (K.toks.length + 1) ≤ 4611686018427387904)
  (r0 : RuD) (rest : List RuD) (mv : Value) (hm : OwnR 38 7 RuR (from_ w0.heap.size) w (r0 :: rest) mv) (hn : ((r0 :: rest).flatMap RuD.ids).Nodup) (hl1 : r0.body.length ≤ 500000) (hl2 : rest.length ≤ 500000) :
  Calls Tryz.prog 34 #[pt pb,mv] w (PMade pb K w0 r0.ru (rest.map RuD.ru) (literalP K.ts st)):=by
 obtain ⟨R,hR⟩ : ∃ R,R = literalP K.ts st:=⟨_,rfl⟩; rw [← hR]; replace hR:=hid hR; have hK0:=hid (Kp.start h); have hpl:=h.lt; replace hN:=hid hN; replace hT:=hid hT; have hp0:=hid (show Calls Tryz.prog 57 #[pt pb,.int .i64 0] w fun e w'=>e = .returned (.agg #[iv (tokK K st.nx).kind,sv (tokK K st.nx).text,iv (tokK K st.nx).n,iv (tokK K st.nx).pos]) ∧ Below w.heap.size w w' from peek_any pb K st 0 (by decide) w h); have htl:=(h.tok_ok st.nx).2.2; have htl2:=(h.tok_ok (st.nx + 1)).2.2; have htk:=tokK_w K st.nx; have htk2:=tokK_w K (st.nx + 1); obtain ⟨t,ht⟩ : ∃ t,t = tokK K st.nx:=⟨_,rfl⟩; obtain ⟨u,hu⟩ : ∃ u,u = tokK K (st.nx + 1):=⟨_,rfl⟩; rw [← ht] at hp0 htk; rw [← hu] at htk2; rw [← htk] at htl; rw [← htk2] at htl2; replace htl : t.text.length ≤ 1048576:=htl
 replace htl2 : u.text.length ≤ 1048576:=htl2; replace htk:=hid htk; replace htk2:=hid htk2; replace ht:=hid ht; obtain ⟨ma,mc,rfl,-⟩:=hm.slice
 go_enter Tryz.func34,Tryz.ntmps34
 go_wp2_with fail
 with_reducible refine hp0.out.mono ?_
 rintro e w1 ⟨rfl,hb1⟩; have hK1:=hid ((hK0.out.below hb1).alloc (.cells #[iv t.kind,sv t.text,iv t.n,iv t.pos] 51)); have hT1:=hid (hT.out.below (hb1.trans (((Below.refl _ w1).alloc (Nat.le_refl _) (.cells #[iv t.kind,sv t.text,iv t.n,iv t.pos] 51)).mono hb1.size))); have hp1:=hid (show Calls Tryz.prog 57 #[pt pb,.int .i64 1] (w1.alloc (.cells #[iv t.kind,sv t.text,iv t.n,iv t.pos] 51)) fun e w'=>e = .returned (.agg #[iv (tokK K (st.nx + 1)).kind,sv (tokK K (st.nx + 1)).text,iv (tokK K (st.nx + 1)).n,iv (tokK K (st.nx + 1)).pos]) ∧ Below (w1.alloc (.cells #[iv t.kind,sv t.text,iv t.n,iv t.pos] 51)).heap.size (w1.alloc (.cells #[iv t.kind,sv t.text,iv t.n,iv t.pos] 51)) w' from peek_any pb K st 1 (by decide) _ hK1.out.pm); rw [← hu] at hp1; replace hu:=hid hu
 clear hp0 hb1
 go_wp2_with fail
 with_reducible refine hp1.out.mono ?_
 rintro e w2 ⟨rfl,hb2⟩; have hK2:=hid ((hK1.out.below hb2).alloc (.cells #[iv u.kind,sv u.text,iv u.n,iv u.pos] 51)); have hT2:=hid (hT1.out.below (hb2.trans (((Below.refl _ w2).alloc (Nat.le_refl _) (.cells #[iv u.kind,sv u.text,iv u.n,iv u.pos] 51)).mono hb2.size))); clear hp1 hb2 hK1 hT1 hK0
 go_upto_block 0 with (fail)
 generalize hW3 : w2.alloc (.cells #[iv u.kind,sv u.text,iv u.n,iv u.pos] 51) = W3 at *; clear hW3; have hK3:=hid (Kp.start hK2.out.pm); have rT:=hK2.out.nth (i:=1) (b:=w1.heap.size) (o:=.cells #[iv t.kind,sv t.text,iv t.n,iv t.pos] 51 (0,0)) rfl; have rU:=hK2.out.nth (i:=0) (b:=w2.heap.size) (o:=.cells #[iv u.kind,sv u.text,iv u.n,iv u.pos] 51 (0,0)) rfl
 go_cut [6,7,8] (fun v1 v2 ok wx=>Hid (LitR pb K W3 R v1 v2 ok wx))
 case first =>
  obtain ⟨z1,hz1⟩ : ∃ z,isP K.ts (st) 1 [110,111,116] = z:=⟨_,rfl⟩; have hmk1:=hid (pword_any pb K (st) [110,111,116] W3 hK3.out.pm)
  have hT1 : takeP K.ts (st) 1 [110,111,116] = if z1 then (true,nextP (st)) else (false,(st)):=by unfold takeP; rw [hz1]
  rw [hT1] at hmk1; clear hT1; replace hz1:=hid hz1
  obtain ⟨R5,hR5⟩ : ∃ R5,R5 = if t.kind = 1 ∧ relF t.text = true ∧ u.kind = 4 ∧ u.text = [40] then litE id (atomP K.ts st) else litE id (comparisonP K.ts st):=⟨_,rfl⟩
  obtain ⟨R4,hR4⟩ : ∃ R4,R4 = if isP K.ts st 1 [115,105,110,99,101] = true then sinceP K.ts (nextP st) else R5:=⟨_,rfl⟩
  obtain ⟨R3,hR3⟩ : ∃ R3,R3 = if isP K.ts st 1 [110,101,118,101,114] = true then neverP K.ts (nextP st) else R4:=⟨_,rfl⟩
  obtain ⟨R2,hR2⟩ : ∃ R2,R2 = if isP K.ts st 1 [111,110,99,101] = true then litsE (onceP K.ts (nextP st)) else R3:=⟨_,rfl⟩
  replace hR:=hid (show R = if z1 = true then litE neg (atomP K.ts (nextP st)) else R2 from by
   have e1 : (tokP K.ts st.nx).kind = t.kind:=by rw [← htk.out]; rfl
   have e2 : (tokP K.ts st.nx).text = t.text:=by rw [← htk.out]; rfl
   have e3 : (tokP K.ts (st.nx + 1)).kind = u.kind:=by rw [← htk2.out]; rfl
   have e4 : (tokP K.ts (st.nx + 1)).text = u.text:=by rw [← htk2.out]; rfl
   rw [hR.out,← hz1.out,hR2,hR3,hR4,hR5,← e1,← e2,← e3,← e4]; rfl)
  replace hR2:=hid hR2; replace hR3:=hid hR3; replace hR4:=hid hR4; replace hR5:=hid hR5
  have hnT : ¬ w1.heap.size = pb:=by have:=hK2.out.geN (i:=1) (b:=w1.heap.size) (o:=.cells #[iv t.kind,sv t.text,iv t.n,iv t.pos] 51 (0,0)) rfl; omega
  have hnU : ¬ w2.heap.size = pb:=by have:=hK2.out.geN (i:=0) (b:=w2.heap.size) (o:=.cells #[iv u.kind,sv u.text,iv u.n,iv u.pos] 51 (0,0)) rfl; omega
  go_wp2_with fail
  with_reducible refine hmk1.out.mono ?_
  rintro e x1 ⟨rfl,hM1,hf1⟩; have hKx1:=hid (hK3.out.call hM1 hf1); have hTx1:=hid (hT2.out.fr hf1); clear hmk1 hM1 hf1
  cases z1 with
  | true =>
   replace hR:=hid (show R = litE neg (atomP K.ts (nextP st)) from hR.out); replace hKx1:=hid (show Kp pb K (nextP st) W3 x1 _ from hKx1.out); have hKa:=hid (hKx1.out.alloc (.cells #[.int .i64 0,.bool false,.string ⟨#[]⟩,.slice none 0 0] 28)); have hat:=hid (atom_x pb K (nextP st) _ hKa.out.pm); obtain ⟨ra,hra⟩ : ∃ ra,ra = atomP K.ts (nextP st):=⟨_,rfl⟩; rw [← hra] at hat; replace hR:=hR.out; rw [← hra] at hR; replace hR:=hid hR; replace hra:=hid hra; obtain ⟨ol,s5⟩:=ra; obtain ⟨zz,hzz⟩ : ∃ z,ol.isSome = z:=⟨_,rfl⟩
   replace hat:=hid (show Calls Tryz.prog 37 #[pt pb] (x1.alloc (.cells #[.int .i64 0,.bool false,.string ⟨#[]⟩,.slice none 0 0] 28)) fun e w'=>∃ (op : Int) (nt : Bool) (rel : List UInt8) (a : Option Addr) (n c : Nat),e = .returned (.tuple #[.agg (lcells op nt rel (.slice a n c)),.bool zz]) ∧ (∀ l,ol = some l → op = l.op ∧ nt = l.nt ∧ rel = l.rel ∧ n = l.args.length ∧ OwnR 44 7 FlR (from_ (x1.alloc (.cells #[.int .i64 0,.bool false,.string ⟨#[]⟩,.slice none 0 0] 28)).heap.size) w' l.args (.slice a l.args.length c)) ∧ PM pb K s5 w' ∧ Fr (one pb) (x1.alloc (.cells #[.int .i64 0,.bool false,.string ⟨#[]⟩,.slice none 0 0] 28)) w' from by rw [← hzz]; exact hat.out); replace hzz:=hid hzz
   go_wp2_with fail
   with_reducible refine hat.out.mono ?_
   rintro e w5 ⟨op5,nt5,rel5,a5,n5,c5,rfl,hl5,hM5,hf5⟩; have hKb:=hid (hKa.out.call hM5 hf5); have hsb:=hid (show x1.heap.size < w5.heap.size from Nat.lt_of_lt_of_le (by simp) hf5.size); clear hM5 hf5 hat hKa; replace hl5:=hid hl5; have r0:=hKb.out.nth (i:=0) (b:=x1.heap.size) (o:=.cells (lcells 0 false [] (.slice none 0 0)) 28 (0,0)) rfl; have r1:=lt_set r0 op5 nt5 rel5 (.slice a5 n5 c5)
   have r2 : ((setLt w5 x1.heap.size op5 nt5 rel5 (.slice a5 n5 c5)).setCell ⟨x1.heap.size,1,none⟩ (.bool true)).heap[x1.heap.size]? = some (.cells (lcells op5 true rel5 (.slice a5 n5 c5)) 28 (0,0)):=by
    have:=heap_setCell_same r1 (i:=1) (.bool true); simpa using this
   have hKc:=hid ((hKb.out.turn (hKb.out.geN (i:=0) rfl) (fr_one_setLt op5 nt5 rel5 (.slice a5 n5 c5)) r1).turn (hKb.out.geN (i:=0) rfl) ((Fr.refl (one x1.heap.size) _).setCell (p:=⟨x1.heap.size,1,none⟩) (Or.inl (show one x1.heap.size x1.heap.size from rfl)) (.bool true)) r2); have hoth:=hid (fun (k : Nat) (hk : k ≠ x1.heap.size)=>(show ((setLt w5 x1.heap.size op5 nt5 rel5 (.slice a5 n5 c5)).setCell ⟨x1.heap.size,1,none⟩ (.bool true)).heap[k]? = w5.heap[k]? from (heap_setCell_other _ hk).trans (lt_other hk))); obtain ⟨j0,j1,j2,j3,jz⟩:=lt_cells (r1); have jz0:=jz 0; have jz1:=jz 1; have jz2:=jz 2; have jz3:=jz 3; clear jz; obtain ⟨q0,q1,q2,q3,qz⟩:=lt_cells (r0); have qz0:=qz 0; have qz1:=qz 1; have qz2:=qz 2; have qz3:=qz 3; clear qz; obtain ⟨m0,m1,m2,m3,mz⟩:=lt_cells (r2); clear mz
   have hsz2:=hid (show ((setLt w5 x1.heap.size op5 nt5 rel5 (.slice a5 n5 c5)).setCell ⟨x1.heap.size,1,none⟩ (.bool true)).heap.size = w5.heap.size from by simp [World.setCell]); have hKz:=hid (hKc.out.alloc (.cells (lcells op5 true rel5 (.slice a5 n5 c5)) 28)); have hlb:=hid (show (((setLt w5 x1.heap.size op5 nt5 rel5 (.slice a5 n5 c5)).setCell ⟨x1.heap.size,1,none⟩ (.bool true)).alloc (.cells (lcells op5 true rel5 (.slice a5 n5 c5)) 28)).heap[w5.heap.size]? = some (.cells (lcells op5 true rel5 (.slice a5 n5 c5)) 28 (0,0)) from by rw [← hsz2.out]; exact heap_alloc_new' _ _); replace r0:=hid r0; replace r1:=hid r1; replace r2:=hid r2
   go_wp2_with fail
   go_meet
   case rel =>
    refine hid ⟨?_,?_,?_⟩
    ·rw [hR.out]; exact hKz.out.pm
    ·exact hKz.out.fr
    ·rw [hR.out]
     cases ol with
     | none=>show Value.bool zz = .bool false; rw [← hzz.out]; rfl
     | some l =>
      obtain ⟨rfl,rfl,rfl,rfl,hO⟩:=hl5.out l rfl; have hge:=hKb.out.geN (i:=0) (b:=x1.heap.size) (o:=.cells (lcells 0 false [] (.slice none 0 0)) 28 (0,0)) rfl; have hs2:=hsz2.out; have hsb':=hsb.out; refine ⟨[(Value.ownBlock (.slice a5 l.args.length c5),neg l)],[],by rw [← hzz.out]; rfl,build_lits [(neg l,.slice a5 l.args.length c5)] hlb.out (by show 1 ≤ maxLen; decide) (show W3.heap.size ≤ w5.heap.size by omega) (fun p hp=>?_),OwnR.nil _ _ _ _ _,rfl,rfl,?_⟩
      ·simp at hp; subst hp
       refine hO.move goodFl fun k hk hk2=>?_
       have hk3 : x1.heap.size < k:=by have h8 : (x1.alloc (.cells #[.int .i64 0,.bool false,.string ⟨#[]⟩,.slice none 0 0] 28)).heap.size = x1.heap.size + 1:=(by simp); unfold from_ at hk2; omega
       exact ⟨⟨show W3.heap.size ≤ k by omega,by omega⟩,(Below.heap_alloc _ _ _ (by rw [hs2]; exact hk)).trans (hoth.out k (by omega))⟩
      ·rw [idsL_eq]; cases Value.ownBlock (.slice a5 l.args.length c5) <;> simp
  | false =>
   replace hKx1:=hid (show Kp pb K st W3 x1 _ from hKx1.out); obtain ⟨z2,hz2⟩ : ∃ z,isP K.ts (st) 1 [111,110,99,101] = z:=⟨_,rfl⟩; have hmk2:=hid (pword_any pb K (st) [111,110,99,101] x1 hKx1.out.pm)
   have hT2 : takeP K.ts (st) 1 [111,110,99,101] = if z2 then (true,nextP (st)) else (false,(st)):=by unfold takeP; rw [hz2]
   rw [hT2] at hmk2; clear hT2; replace hz2:=hid hz2; replace hR:=hid (show R = if z2 = true then litsE (onceP K.ts (nextP st)) else R3 from by rw [← hz2.out,← hR2.out]; exact hR.out)
   go_wp2_with fail
   with_reducible refine hmk2.out.mono ?_
   rintro e x2 ⟨rfl,hM2,hf2⟩; have hKx2:=hid (hKx1.out.call hM2 hf2); have hTx2:=hid (hTx1.out.fr hf2); clear hmk2 hM2 hf2
   cases z2 with
   | true =>
    replace hR:=hid (show R = litsE (onceP K.ts (nextP st)) from hR.out); replace hKx2:=hid (show Kp pb K (nextP st) W3 x2 _ from hKx2.out); have hcl:=hid (once_x pb K (nextP st) x2 hKx2.out.pm hTx2.out hN.out (by show st.vars + _ + 1 ≤ _; omega))
    go_wp2_with fail
    with_reducible refine hcl.out.mono ?_
    rintro e wy ⟨v1,ok,rfl,hL⟩; clear hcl; replace hL:=hid hL
    go_wp2_with fail
    go_meet
    case rel=>exact hid (by rw [hR.out]; exact hL.out.lift hKx2.out.fr)
   | false =>
    replace hKx2:=hid (show Kp pb K st W3 x2 _ from hKx2.out); obtain ⟨z3,hz3⟩ : ∃ z,isP K.ts (st) 1 [110,101,118,101,114] = z:=⟨_,rfl⟩; have hmk3:=hid (pword_any pb K (st) [110,101,118,101,114] x2 hKx2.out.pm)
    have hT3 : takeP K.ts (st) 1 [110,101,118,101,114] = if z3 then (true,nextP (st)) else (false,(st)):=by unfold takeP; rw [hz3]
    rw [hT3] at hmk3; clear hT3; replace hz3:=hid hz3; replace hR:=hid (show R = if z3 = true then neverP K.ts (nextP st) else R4 from by rw [← hz3.out,← hR3.out]; exact hR.out)
    go_wp2_with fail
    with_reducible refine hmk3.out.mono ?_
    rintro e x3 ⟨rfl,hM3,hf3⟩; have hKx3:=hid (hKx2.out.call hM3 hf3); have hTx3:=hid (hTx2.out.fr hf3); clear hmk3 hM3 hf3
    cases z3 with
    | true =>
     replace hR:=hid (show R = neverP K.ts (nextP st) from hR.out); replace hKx3:=hid (show Kp pb K (nextP st) W3 x3 _ from hKx3.out); have hcl:=hid (never_x pb K (nextP st) x3 hKx3.out.pm hTx3.out hN.out hv hv2)
     go_wp2_with fail
     with_reducible refine hcl.out.mono ?_
     rintro e wy ⟨v1,v2,ok,rfl,hL⟩; clear hcl; replace hL:=hid hL
     go_wp2_with fail
     go_meet
     case rel=>exact hid (by rw [hR.out]; exact hL.out.lift hKx3.out.fr)
    | false =>
     replace hKx3:=hid (show Kp pb K st W3 x3 _ from hKx3.out); obtain ⟨z4,hz4⟩ : ∃ z,isP K.ts (st) 1 [115,105,110,99,101] = z:=⟨_,rfl⟩; have hmk4:=hid (pword_any pb K (st) [115,105,110,99,101] x3 hKx3.out.pm)
     have hT4 : takeP K.ts (st) 1 [115,105,110,99,101] = if z4 then (true,nextP (st)) else (false,(st)):=by unfold takeP; rw [hz4]
     rw [hT4] at hmk4; clear hT4; replace hz4:=hid hz4; replace hR:=hid (show R = if z4 = true then sinceP K.ts (nextP st) else R5 from by rw [← hz4.out,← hR4.out]; exact hR.out)
     go_wp2_with fail
     with_reducible refine hmk4.out.mono ?_
     rintro e x4 ⟨rfl,hM4,hf4⟩; have hKx4:=hid (hKx3.out.call hM4 hf4); have hTx4:=hid (hTx3.out.fr hf4); clear hmk4 hM4 hf4
     cases z4 with
     | true =>
      replace hR:=hid (show R = sinceP K.ts (nextP st) from hR.out); replace hKx4:=hid (show Kp pb K (nextP st) W3 x4 _ from hKx4.out); have hcl:=hid (since_x pb K (nextP st) x4 hKx4.out.pm hTx4.out hN.out hv hv2)
      go_wp2_with fail
      with_reducible refine hcl.out.mono ?_
      rintro e wy ⟨v1,v2,ok,rfl,hL⟩; clear hcl; replace hL:=hid hL
      go_wp2_with fail
      go_meet
      case rel=>exact hid (by rw [hR.out]; exact hL.out.lift hKx4.out.fr)
     | false =>
      replace hR:=hid (show R = if t.kind = 1 ∧ relF t.text = true ∧ u.kind = 4 ∧ u.text = [40] then litE id (atomP K.ts st) else litE id (comparisonP K.ts st) from by rw [← hR5.out]; exact hR.out); replace hKx4:=hid (show Kp pb K st W3 x4 _ from hKx4.out); have rT4:=(hKx4.out.fr.block _ (lt_of_heap rT) hnT).trans rT; have rU4:=(hKx4.out.fr.block _ (lt_of_heap rU) hnU).trans rU; obtain ⟨d0,d1,d2,d3⟩:=tk_row rT4; obtain ⟨f0,f1,f2,f3⟩:=tk_row rU4; by_cases hk : t.kind = 1
      ·have bk : (t.kind == 1) = true:=by simpa using hk
       have hrl:=hid (isRelation_any t.text x4 htl)
       cases hrf : relF t.text with
       | true =>
        rw [hrf] at hrl; by_cases hk4 : u.kind = 4
        ·have bk4 : (u.kind == 4) = true:=by simpa using hk4
         by_cases hut : u.text = [40]
         ·have but : (u.text == [40]) = true:=by simpa using hut
          replace hR:=hid (hR.out.trans (if_pos ⟨hk,hrf,hk4,hut⟩)); replace hk:=hid hk; replace hrf:=hid hrf; replace hk4:=hid hk4; replace hut:=hid hut
          go_wp2_with fail
          with_reducible refine hrl.out.mono ?_
          rintro e y4 ⟨rfl,hby⟩; have hKy:=hid (hKx4.out.below hby); obtain ⟨d0,d1,d2,d3⟩:=tk_row (below_keep hby rT4 (lt_of_heap rT4)); obtain ⟨f0,f1,f2,f3⟩:=tk_row (below_keep hby rU4 (lt_of_heap rU4))
          clear hrl hby
          have hKa:=hid (hKy.out.alloc (.cells #[.int .i64 0,.bool false,.string ⟨#[]⟩,.slice none 0 0] 28)); have hat:=hid (atom_x pb K (st) _ hKa.out.pm); obtain ⟨ra,hra⟩ : ∃ ra,ra = atomP K.ts (st):=⟨_,rfl⟩; rw [← hra] at hat; replace hR:=hR.out; rw [← hra] at hR; replace hR:=hid hR; replace hra:=hid hra; obtain ⟨ol,s5⟩:=ra; obtain ⟨zz,hzz⟩ : ∃ z,ol.isSome = z:=⟨_,rfl⟩
          replace hat:=hid (show Calls Tryz.prog 37 #[pt pb] (y4.alloc (.cells #[.int .i64 0,.bool false,.string ⟨#[]⟩,.slice none 0 0] 28)) fun e w'=>∃ (op : Int) (nt : Bool) (rel : List UInt8) (a : Option Addr) (n c : Nat),e = .returned (.tuple #[.agg (lcells op nt rel (.slice a n c)),.bool zz]) ∧ (∀ l,ol = some l → op = l.op ∧ nt = l.nt ∧ rel = l.rel ∧ n = l.args.length ∧ OwnR 44 7 FlR (from_ (y4.alloc (.cells #[.int .i64 0,.bool false,.string ⟨#[]⟩,.slice none 0 0] 28)).heap.size) w' l.args (.slice a l.args.length c)) ∧ PM pb K s5 w' ∧ Fr (one pb) (y4.alloc (.cells #[.int .i64 0,.bool false,.string ⟨#[]⟩,.slice none 0 0] 28)) w' from by rw [← hzz]; exact hat.out); replace hzz:=hid hzz
          go_wp2_with fail
          with_reducible refine hat.out.mono ?_
          rintro e w5 ⟨op5,nt5,rel5,a5,n5,c5,rfl,hl5,hM5,hf5⟩; have hKb:=hid (hKa.out.call hM5 hf5); have hsb:=hid (show y4.heap.size < w5.heap.size from Nat.lt_of_lt_of_le (by simp) hf5.size); clear hM5 hf5 hat hKa; replace hl5:=hid hl5; have r0:=hKb.out.nth (i:=0) (b:=y4.heap.size) (o:=.cells (lcells 0 false [] (.slice none 0 0)) 28 (0,0)) rfl; have r1:=lt_set r0 op5 nt5 rel5 (.slice a5 n5 c5); have r2:=r1; have hKc:=hid (hKb.out.turn (hKb.out.geN (i:=0) rfl) (fr_one_setLt op5 nt5 rel5 (.slice a5 n5 c5)) r1); have hoth:=hid (fun (k : Nat) (hk : k ≠ y4.heap.size)=>(show (setLt w5 y4.heap.size op5 nt5 rel5 (.slice a5 n5 c5)).heap[k]? = w5.heap[k]? from lt_other hk)); obtain ⟨q0,q1,q2,q3,qz⟩:=lt_cells (r0); have qz0:=qz 0; have qz1:=qz 1; have qz2:=qz 2; have qz3:=qz 3; clear qz
          obtain ⟨m0,m1,m2,m3,mz⟩:=lt_cells (r2); clear mz; have hsz2:=hid (show (setLt w5 y4.heap.size op5 nt5 rel5 (.slice a5 n5 c5)).heap.size = w5.heap.size from by simp [World.setCell]); have hKz:=hid (hKc.out.alloc (.cells (lcells op5 nt5 rel5 (.slice a5 n5 c5)) 28)); have hlb:=hid (show ((setLt w5 y4.heap.size op5 nt5 rel5 (.slice a5 n5 c5)).alloc (.cells (lcells op5 nt5 rel5 (.slice a5 n5 c5)) 28)).heap[w5.heap.size]? = some (.cells (lcells op5 nt5 rel5 (.slice a5 n5 c5)) 28 (0,0)) from by rw [← hsz2.out]; exact heap_alloc_new' _ _); replace r0:=hid r0; replace r1:=hid r1; replace r2:=hid r2
          go_wp2_with fail
          go_meet
          case rel =>
           refine hid ⟨?_,?_,?_⟩
           ·rw [hR.out]; exact hKz.out.pm
           ·exact hKz.out.fr
           ·rw [hR.out]
            cases ol with
            | none=>show Value.bool zz = .bool false; rw [← hzz.out]; rfl
            | some l =>
             obtain ⟨rfl,rfl,rfl,rfl,hO⟩:=hl5.out l rfl; have hge:=hKb.out.geN (i:=0) (b:=y4.heap.size) (o:=.cells (lcells 0 false [] (.slice none 0 0)) 28 (0,0)) rfl; have hs2:=hsz2.out; have hsb':=hsb.out; refine ⟨[(Value.ownBlock (.slice a5 l.args.length c5),id l)],[],by rw [← hzz.out]; rfl,build_lits [(id l,.slice a5 l.args.length c5)] hlb.out (by show 1 ≤ maxLen; decide) (show W3.heap.size ≤ w5.heap.size by omega) (fun p hp=>?_),OwnR.nil _ _ _ _ _,rfl,rfl,?_⟩
             ·simp at hp; subst hp
              refine hO.move goodFl fun k hk hk2=>?_
              have hk3 : y4.heap.size < k:=by have h8 : (y4.alloc (.cells #[.int .i64 0,.bool false,.string ⟨#[]⟩,.slice none 0 0] 28)).heap.size = y4.heap.size + 1:=(by simp); unfold from_ at hk2; omega
              exact ⟨⟨show W3.heap.size ≤ k by omega,by omega⟩,(Below.heap_alloc _ _ _ (by rw [hs2]; exact hk)).trans (hoth.out k (by omega))⟩
             ·rw [idsL_eq]; cases Value.ownBlock (.slice a5 l.args.length c5) <;> simp
         ·have but : (u.text == [40]) = false:=by simpa using hut
          replace hR:=hid (hR.out.trans (if_neg (fun e=>hut e.2.2.2))); replace hk:=hid hk; replace hrf:=hid hrf; replace hk4:=hid hk4; replace hut:=hid hut
          go_wp2_with fail
          with_reducible refine hrl.out.mono ?_
          rintro e y4 ⟨rfl,hby⟩; have hKy:=hid (hKx4.out.below hby); obtain ⟨d0,d1,d2,d3⟩:=tk_row (below_keep hby rT4 (lt_of_heap rT4)); obtain ⟨f0,f1,f2,f3⟩:=tk_row (below_keep hby rU4 (lt_of_heap rU4))
          clear hrl hby
          have hKa:=hid (hKy.out.alloc (.cells #[.int .i64 0,.bool false,.string ⟨#[]⟩,.slice none 0 0] 28)); have hat:=hid (comparison_x pb K (st) _ hKa.out.pm); obtain ⟨ra,hra⟩ : ∃ ra,ra = comparisonP K.ts (st):=⟨_,rfl⟩; rw [← hra] at hat; replace hR:=hR.out; rw [← hra] at hR; replace hR:=hid hR; replace hra:=hid hra; obtain ⟨ol,s6⟩:=ra; obtain ⟨zz,hzz⟩ : ∃ z,ol.isSome = z:=⟨_,rfl⟩
          replace hat:=hid (show Calls Tryz.prog 63 #[pt pb] (y4.alloc (.cells #[.int .i64 0,.bool false,.string ⟨#[]⟩,.slice none 0 0] 28)) fun e w'=>∃ (op : Int) (nt : Bool) (rel : List UInt8) (a : Option Addr) (n c : Nat),e = .returned (.tuple #[.agg (lcells op nt rel (.slice a n c)),.bool zz]) ∧ (∀ l,ol = some l → op = l.op ∧ nt = l.nt ∧ rel = l.rel ∧ n = l.args.length ∧ OwnR 44 7 FlR (from_ (y4.alloc (.cells #[.int .i64 0,.bool false,.string ⟨#[]⟩,.slice none 0 0] 28)).heap.size) w' l.args (.slice a l.args.length c)) ∧ PM pb K s6 w' ∧ Fr (one pb) (y4.alloc (.cells #[.int .i64 0,.bool false,.string ⟨#[]⟩,.slice none 0 0] 28)) w' from by rw [← hzz]; exact hat.out); replace hzz:=hid hzz
          go_wp2_with fail
          with_reducible refine hat.out.mono ?_
          rintro e w6 ⟨op6,nt6,rel6,a6,n6,c6,rfl,hl6,hM6,hf6⟩; have hKb:=hid (hKa.out.call hM6 hf6); have hsb:=hid (show y4.heap.size < w6.heap.size from Nat.lt_of_lt_of_le (by simp) hf6.size); clear hM6 hf6 hat hKa; replace hl6:=hid hl6; have r0:=hKb.out.nth (i:=0) (b:=y4.heap.size) (o:=.cells (lcells 0 false [] (.slice none 0 0)) 28 (0,0)) rfl; have r1:=lt_set r0 op6 nt6 rel6 (.slice a6 n6 c6); have r2:=r1; have hKc:=hid (hKb.out.turn (hKb.out.geN (i:=0) rfl) (fr_one_setLt op6 nt6 rel6 (.slice a6 n6 c6)) r1); have hoth:=hid (fun (k : Nat) (hk : k ≠ y4.heap.size)=>(show (setLt w6 y4.heap.size op6 nt6 rel6 (.slice a6 n6 c6)).heap[k]? = w6.heap[k]? from lt_other hk)); obtain ⟨q0,q1,q2,q3,qz⟩:=lt_cells (r0); have qz0:=qz 0; have qz1:=qz 1; have qz2:=qz 2; have qz3:=qz 3; clear qz
          obtain ⟨m0,m1,m2,m3,mz⟩:=lt_cells (r2); clear mz; have hsz2:=hid (show (setLt w6 y4.heap.size op6 nt6 rel6 (.slice a6 n6 c6)).heap.size = w6.heap.size from by simp [World.setCell]); have hKz:=hid (hKc.out.alloc (.cells (lcells op6 nt6 rel6 (.slice a6 n6 c6)) 28)); have hlb:=hid (show ((setLt w6 y4.heap.size op6 nt6 rel6 (.slice a6 n6 c6)).alloc (.cells (lcells op6 nt6 rel6 (.slice a6 n6 c6)) 28)).heap[w6.heap.size]? = some (.cells (lcells op6 nt6 rel6 (.slice a6 n6 c6)) 28 (0,0)) from by rw [← hsz2.out]; exact heap_alloc_new' _ _); replace r0:=hid r0; replace r1:=hid r1; replace r2:=hid r2
          go_wp2_with fail
          go_meet
          case rel =>
           refine hid ⟨?_,?_,?_⟩
           ·rw [hR.out]; exact hKz.out.pm
           ·exact hKz.out.fr
           ·rw [hR.out]
            cases ol with
            | none=>show Value.bool zz = .bool false; rw [← hzz.out]; rfl
            | some l =>
             obtain ⟨rfl,rfl,rfl,rfl,hO⟩:=hl6.out l rfl; have hge:=hKb.out.geN (i:=0) (b:=y4.heap.size) (o:=.cells (lcells 0 false [] (.slice none 0 0)) 28 (0,0)) rfl; have hs2:=hsz2.out; have hsb':=hsb.out; refine ⟨[(Value.ownBlock (.slice a6 l.args.length c6),id l)],[],by rw [← hzz.out]; rfl,build_lits [(id l,.slice a6 l.args.length c6)] hlb.out (by show 1 ≤ maxLen; decide) (show W3.heap.size ≤ w6.heap.size by omega) (fun p hp=>?_),OwnR.nil _ _ _ _ _,rfl,rfl,?_⟩
             ·simp at hp; subst hp
              refine hO.move goodFl fun k hk hk2=>?_
              have hk3 : y4.heap.size < k:=by have h8 : (y4.alloc (.cells #[.int .i64 0,.bool false,.string ⟨#[]⟩,.slice none 0 0] 28)).heap.size = y4.heap.size + 1:=(by simp); unfold from_ at hk2; omega
              exact ⟨⟨show W3.heap.size ≤ k by omega,by omega⟩,(Below.heap_alloc _ _ _ (by rw [hs2]; exact hk)).trans (hoth.out k (by omega))⟩
             ·rw [idsL_eq]; cases Value.ownBlock (.slice a6 l.args.length c6) <;> simp
        ·have bk4 : (u.kind == 4) = false:=by simpa using hk4
         replace hR:=hid (hR.out.trans (if_neg (fun e=>hk4 e.2.2.1))); replace hk:=hid hk; replace hrf:=hid hrf; replace hk4:=hid hk4
         go_wp2_with fail
         with_reducible refine hrl.out.mono ?_
         rintro e y4 ⟨rfl,hby⟩; have hKy:=hid (hKx4.out.below hby); obtain ⟨d0,d1,d2,d3⟩:=tk_row (below_keep hby rT4 (lt_of_heap rT4)); obtain ⟨f0,f1,f2,f3⟩:=tk_row (below_keep hby rU4 (lt_of_heap rU4))
         clear hrl hby
         have hKa:=hid (hKy.out.alloc (.cells #[.int .i64 0,.bool false,.string ⟨#[]⟩,.slice none 0 0] 28)); have hat:=hid (comparison_x pb K (st) _ hKa.out.pm); obtain ⟨ra,hra⟩ : ∃ ra,ra = comparisonP K.ts (st):=⟨_,rfl⟩; rw [← hra] at hat; replace hR:=hR.out; rw [← hra] at hR; replace hR:=hid hR; replace hra:=hid hra; obtain ⟨ol,s6⟩:=ra; obtain ⟨zz,hzz⟩ : ∃ z,ol.isSome = z:=⟨_,rfl⟩
         replace hat:=hid (show Calls Tryz.prog 63 #[pt pb] (y4.alloc (.cells #[.int .i64 0,.bool false,.string ⟨#[]⟩,.slice none 0 0] 28)) fun e w'=>∃ (op : Int) (nt : Bool) (rel : List UInt8) (a : Option Addr) (n c : Nat),e = .returned (.tuple #[.agg (lcells op nt rel (.slice a n c)),.bool zz]) ∧ (∀ l,ol = some l → op = l.op ∧ nt = l.nt ∧ rel = l.rel ∧ n = l.args.length ∧ OwnR 44 7 FlR (from_ (y4.alloc (.cells #[.int .i64 0,.bool false,.string ⟨#[]⟩,.slice none 0 0] 28)).heap.size) w' l.args (.slice a l.args.length c)) ∧ PM pb K s6 w' ∧ Fr (one pb) (y4.alloc (.cells #[.int .i64 0,.bool false,.string ⟨#[]⟩,.slice none 0 0] 28)) w' from by rw [← hzz]; exact hat.out); replace hzz:=hid hzz
         go_wp2_with fail
         with_reducible refine hat.out.mono ?_
         rintro e w6 ⟨op6,nt6,rel6,a6,n6,c6,rfl,hl6,hM6,hf6⟩; have hKb:=hid (hKa.out.call hM6 hf6); have hsb:=hid (show y4.heap.size < w6.heap.size from Nat.lt_of_lt_of_le (by simp) hf6.size); clear hM6 hf6 hat hKa; replace hl6:=hid hl6; have r0:=hKb.out.nth (i:=0) (b:=y4.heap.size) (o:=.cells (lcells 0 false [] (.slice none 0 0)) 28 (0,0)) rfl; have r1:=lt_set r0 op6 nt6 rel6 (.slice a6 n6 c6); have r2:=r1; have hKc:=hid (hKb.out.turn (hKb.out.geN (i:=0) rfl) (fr_one_setLt op6 nt6 rel6 (.slice a6 n6 c6)) r1); have hoth:=hid (fun (k : Nat) (hk : k ≠ y4.heap.size)=>(show (setLt w6 y4.heap.size op6 nt6 rel6 (.slice a6 n6 c6)).heap[k]? = w6.heap[k]? from lt_other hk)); obtain ⟨q0,q1,q2,q3,qz⟩:=lt_cells (r0); have qz0:=qz 0; have qz1:=qz 1; have qz2:=qz 2; have qz3:=qz 3; clear qz
         obtain ⟨m0,m1,m2,m3,mz⟩:=lt_cells (r2); clear mz; have hsz2:=hid (show (setLt w6 y4.heap.size op6 nt6 rel6 (.slice a6 n6 c6)).heap.size = w6.heap.size from by simp [World.setCell]); have hKz:=hid (hKc.out.alloc (.cells (lcells op6 nt6 rel6 (.slice a6 n6 c6)) 28)); have hlb:=hid (show ((setLt w6 y4.heap.size op6 nt6 rel6 (.slice a6 n6 c6)).alloc (.cells (lcells op6 nt6 rel6 (.slice a6 n6 c6)) 28)).heap[w6.heap.size]? = some (.cells (lcells op6 nt6 rel6 (.slice a6 n6 c6)) 28 (0,0)) from by rw [← hsz2.out]; exact heap_alloc_new' _ _); replace r0:=hid r0; replace r1:=hid r1; replace r2:=hid r2
         go_wp2_with fail
         go_meet
         case rel =>
          refine hid ⟨?_,?_,?_⟩
          ·rw [hR.out]; exact hKz.out.pm
          ·exact hKz.out.fr
          ·rw [hR.out]
           cases ol with
           | none=>show Value.bool zz = .bool false; rw [← hzz.out]; rfl
           | some l =>
            obtain ⟨rfl,rfl,rfl,rfl,hO⟩:=hl6.out l rfl; have hge:=hKb.out.geN (i:=0) (b:=y4.heap.size) (o:=.cells (lcells 0 false [] (.slice none 0 0)) 28 (0,0)) rfl; have hs2:=hsz2.out; have hsb':=hsb.out; refine ⟨[(Value.ownBlock (.slice a6 l.args.length c6),id l)],[],by rw [← hzz.out]; rfl,build_lits [(id l,.slice a6 l.args.length c6)] hlb.out (by show 1 ≤ maxLen; decide) (show W3.heap.size ≤ w6.heap.size by omega) (fun p hp=>?_),OwnR.nil _ _ _ _ _,rfl,rfl,?_⟩
            ·simp at hp; subst hp
             refine hO.move goodFl fun k hk hk2=>?_
             have hk3 : y4.heap.size < k:=by have h8 : (y4.alloc (.cells #[.int .i64 0,.bool false,.string ⟨#[]⟩,.slice none 0 0] 28)).heap.size = y4.heap.size + 1:=(by simp); unfold from_ at hk2; omega
             exact ⟨⟨show W3.heap.size ≤ k by omega,by omega⟩,(Below.heap_alloc _ _ _ (by rw [hs2]; exact hk)).trans (hoth.out k (by omega))⟩
            ·rw [idsL_eq]; cases Value.ownBlock (.slice a6 l.args.length c6) <;> simp
       | false =>
        rw [hrf] at hrl; replace hR:=hid (hR.out.trans (if_neg (fun e=>by rw [hrf] at e; exact absurd e.2.1 (by decide)))); replace hk:=hid hk; replace hrf:=hid hrf
        go_wp2_with fail
        with_reducible refine hrl.out.mono ?_
        rintro e y4 ⟨rfl,hby⟩; have hKy:=hid (hKx4.out.below hby); obtain ⟨d0,d1,d2,d3⟩:=tk_row (below_keep hby rT4 (lt_of_heap rT4)); obtain ⟨f0,f1,f2,f3⟩:=tk_row (below_keep hby rU4 (lt_of_heap rU4))
        clear hrl hby
        have hKa:=hid (hKy.out.alloc (.cells #[.int .i64 0,.bool false,.string ⟨#[]⟩,.slice none 0 0] 28)); have hat:=hid (comparison_x pb K (st) _ hKa.out.pm); obtain ⟨ra,hra⟩ : ∃ ra,ra = comparisonP K.ts (st):=⟨_,rfl⟩; rw [← hra] at hat; replace hR:=hR.out; rw [← hra] at hR; replace hR:=hid hR; replace hra:=hid hra; obtain ⟨ol,s6⟩:=ra; obtain ⟨zz,hzz⟩ : ∃ z,ol.isSome = z:=⟨_,rfl⟩
        replace hat:=hid (show Calls Tryz.prog 63 #[pt pb] (y4.alloc (.cells #[.int .i64 0,.bool false,.string ⟨#[]⟩,.slice none 0 0] 28)) fun e w'=>∃ (op : Int) (nt : Bool) (rel : List UInt8) (a : Option Addr) (n c : Nat),e = .returned (.tuple #[.agg (lcells op nt rel (.slice a n c)),.bool zz]) ∧ (∀ l,ol = some l → op = l.op ∧ nt = l.nt ∧ rel = l.rel ∧ n = l.args.length ∧ OwnR 44 7 FlR (from_ (y4.alloc (.cells #[.int .i64 0,.bool false,.string ⟨#[]⟩,.slice none 0 0] 28)).heap.size) w' l.args (.slice a l.args.length c)) ∧ PM pb K s6 w' ∧ Fr (one pb) (y4.alloc (.cells #[.int .i64 0,.bool false,.string ⟨#[]⟩,.slice none 0 0] 28)) w' from by rw [← hzz]; exact hat.out); replace hzz:=hid hzz
        go_wp2_with fail
        with_reducible refine hat.out.mono ?_
        rintro e w6 ⟨op6,nt6,rel6,a6,n6,c6,rfl,hl6,hM6,hf6⟩; have hKb:=hid (hKa.out.call hM6 hf6); have hsb:=hid (show y4.heap.size < w6.heap.size from Nat.lt_of_lt_of_le (by simp) hf6.size); clear hM6 hf6 hat hKa; replace hl6:=hid hl6; have r0:=hKb.out.nth (i:=0) (b:=y4.heap.size) (o:=.cells (lcells 0 false [] (.slice none 0 0)) 28 (0,0)) rfl; have r1:=lt_set r0 op6 nt6 rel6 (.slice a6 n6 c6); have r2:=r1; have hKc:=hid (hKb.out.turn (hKb.out.geN (i:=0) rfl) (fr_one_setLt op6 nt6 rel6 (.slice a6 n6 c6)) r1); have hoth:=hid (fun (k : Nat) (hk : k ≠ y4.heap.size)=>(show (setLt w6 y4.heap.size op6 nt6 rel6 (.slice a6 n6 c6)).heap[k]? = w6.heap[k]? from lt_other hk)); obtain ⟨q0,q1,q2,q3,qz⟩:=lt_cells (r0); have qz0:=qz 0; have qz1:=qz 1; have qz2:=qz 2; have qz3:=qz 3; clear qz
        obtain ⟨m0,m1,m2,m3,mz⟩:=lt_cells (r2); clear mz; have hsz2:=hid (show (setLt w6 y4.heap.size op6 nt6 rel6 (.slice a6 n6 c6)).heap.size = w6.heap.size from by simp [World.setCell]); have hKz:=hid (hKc.out.alloc (.cells (lcells op6 nt6 rel6 (.slice a6 n6 c6)) 28)); have hlb:=hid (show ((setLt w6 y4.heap.size op6 nt6 rel6 (.slice a6 n6 c6)).alloc (.cells (lcells op6 nt6 rel6 (.slice a6 n6 c6)) 28)).heap[w6.heap.size]? = some (.cells (lcells op6 nt6 rel6 (.slice a6 n6 c6)) 28 (0,0)) from by rw [← hsz2.out]; exact heap_alloc_new' _ _); replace r0:=hid r0; replace r1:=hid r1; replace r2:=hid r2
        go_wp2_with fail
        go_meet
        case rel =>
         refine hid ⟨?_,?_,?_⟩
         ·rw [hR.out]; exact hKz.out.pm
         ·exact hKz.out.fr
         ·rw [hR.out]
          cases ol with
          | none=>show Value.bool zz = .bool false; rw [← hzz.out]; rfl
          | some l =>
           obtain ⟨rfl,rfl,rfl,rfl,hO⟩:=hl6.out l rfl; have hge:=hKb.out.geN (i:=0) (b:=y4.heap.size) (o:=.cells (lcells 0 false [] (.slice none 0 0)) 28 (0,0)) rfl; have hs2:=hsz2.out; have hsb':=hsb.out; refine ⟨[(Value.ownBlock (.slice a6 l.args.length c6),id l)],[],by rw [← hzz.out]; rfl,build_lits [(id l,.slice a6 l.args.length c6)] hlb.out (by show 1 ≤ maxLen; decide) (show W3.heap.size ≤ w6.heap.size by omega) (fun p hp=>?_),OwnR.nil _ _ _ _ _,rfl,rfl,?_⟩
           ·simp at hp; subst hp
            refine hO.move goodFl fun k hk hk2=>?_
            have hk3 : y4.heap.size < k:=by have h8 : (y4.alloc (.cells #[.int .i64 0,.bool false,.string ⟨#[]⟩,.slice none 0 0] 28)).heap.size = y4.heap.size + 1:=(by simp); unfold from_ at hk2; omega
            exact ⟨⟨show W3.heap.size ≤ k by omega,by omega⟩,(Below.heap_alloc _ _ _ (by rw [hs2]; exact hk)).trans (hoth.out k (by omega))⟩
           ·rw [idsL_eq]; cases Value.ownBlock (.slice a6 l.args.length c6) <;> simp
      ·have bk : (t.kind == 1) = false:=by simpa using hk
       replace hR:=hid (hR.out.trans (if_neg (fun e=>hk e.1))); replace hk:=hid hk; have hKa:=hid (hKx4.out.alloc (.cells #[.int .i64 0,.bool false,.string ⟨#[]⟩,.slice none 0 0] 28)); have hat:=hid (comparison_x pb K (st) _ hKa.out.pm); obtain ⟨ra,hra⟩ : ∃ ra,ra = comparisonP K.ts (st):=⟨_,rfl⟩; rw [← hra] at hat; replace hR:=hR.out; rw [← hra] at hR; replace hR:=hid hR; replace hra:=hid hra; obtain ⟨ol,s6⟩:=ra; obtain ⟨zz,hzz⟩ : ∃ z,ol.isSome = z:=⟨_,rfl⟩
       replace hat:=hid (show Calls Tryz.prog 63 #[pt pb] (x4.alloc (.cells #[.int .i64 0,.bool false,.string ⟨#[]⟩,.slice none 0 0] 28)) fun e w'=>∃ (op : Int) (nt : Bool) (rel : List UInt8) (a : Option Addr) (n c : Nat),e = .returned (.tuple #[.agg (lcells op nt rel (.slice a n c)),.bool zz]) ∧ (∀ l,ol = some l → op = l.op ∧ nt = l.nt ∧ rel = l.rel ∧ n = l.args.length ∧ OwnR 44 7 FlR (from_ (x4.alloc (.cells #[.int .i64 0,.bool false,.string ⟨#[]⟩,.slice none 0 0] 28)).heap.size) w' l.args (.slice a l.args.length c)) ∧ PM pb K s6 w' ∧ Fr (one pb) (x4.alloc (.cells #[.int .i64 0,.bool false,.string ⟨#[]⟩,.slice none 0 0] 28)) w' from by rw [← hzz]; exact hat.out); replace hzz:=hid hzz
       go_wp2_with fail
       with_reducible refine hat.out.mono ?_
       rintro e w6 ⟨op6,nt6,rel6,a6,n6,c6,rfl,hl6,hM6,hf6⟩; have hKb:=hid (hKa.out.call hM6 hf6); have hsb:=hid (show x4.heap.size < w6.heap.size from Nat.lt_of_lt_of_le (by simp) hf6.size); clear hM6 hf6 hat hKa; replace hl6:=hid hl6; have r0:=hKb.out.nth (i:=0) (b:=x4.heap.size) (o:=.cells (lcells 0 false [] (.slice none 0 0)) 28 (0,0)) rfl; have r1:=lt_set r0 op6 nt6 rel6 (.slice a6 n6 c6); have r2:=r1; have hKc:=hid (hKb.out.turn (hKb.out.geN (i:=0) rfl) (fr_one_setLt op6 nt6 rel6 (.slice a6 n6 c6)) r1); have hoth:=hid (fun (k : Nat) (hk : k ≠ x4.heap.size)=>(show (setLt w6 x4.heap.size op6 nt6 rel6 (.slice a6 n6 c6)).heap[k]? = w6.heap[k]? from lt_other hk)); obtain ⟨q0,q1,q2,q3,qz⟩:=lt_cells (r0); have qz0:=qz 0; have qz1:=qz 1; have qz2:=qz 2; have qz3:=qz 3; clear qz
       obtain ⟨m0,m1,m2,m3,mz⟩:=lt_cells (r2); clear mz; have hsz2:=hid (show (setLt w6 x4.heap.size op6 nt6 rel6 (.slice a6 n6 c6)).heap.size = w6.heap.size from by simp [World.setCell]); have hKz:=hid (hKc.out.alloc (.cells (lcells op6 nt6 rel6 (.slice a6 n6 c6)) 28)); have hlb:=hid (show ((setLt w6 x4.heap.size op6 nt6 rel6 (.slice a6 n6 c6)).alloc (.cells (lcells op6 nt6 rel6 (.slice a6 n6 c6)) 28)).heap[w6.heap.size]? = some (.cells (lcells op6 nt6 rel6 (.slice a6 n6 c6)) 28 (0,0)) from by rw [← hsz2.out]; exact heap_alloc_new' _ _); replace r0:=hid r0; replace r1:=hid r1; replace r2:=hid r2
       go_wp2_with fail
       go_meet
       case rel =>
        refine hid ⟨?_,?_,?_⟩
        ·rw [hR.out]; exact hKz.out.pm
        ·exact hKz.out.fr
        ·rw [hR.out]
         cases ol with
         | none=>show Value.bool zz = .bool false; rw [← hzz.out]; rfl
         | some l =>
          obtain ⟨rfl,rfl,rfl,rfl,hO⟩:=hl6.out l rfl; have hge:=hKb.out.geN (i:=0) (b:=x4.heap.size) (o:=.cells (lcells 0 false [] (.slice none 0 0)) 28 (0,0)) rfl; have hs2:=hsz2.out; have hsb':=hsb.out; refine ⟨[(Value.ownBlock (.slice a6 l.args.length c6),id l)],[],by rw [← hzz.out]; rfl,build_lits [(id l,.slice a6 l.args.length c6)] hlb.out (by show 1 ≤ maxLen; decide) (show W3.heap.size ≤ w6.heap.size by omega) (fun p hp=>?_),OwnR.nil _ _ _ _ _,rfl,rfl,?_⟩
          ·simp at hp; subst hp
           refine hO.move goodFl fun k hk hk2=>?_
           have hk3 : x4.heap.size < k:=by have h8 : (x4.alloc (.cells #[.int .i64 0,.bool false,.string ⟨#[]⟩,.slice none 0 0] 28)).heap.size = x4.heap.size + 1:=(by simp); unfold from_ at hk2; omega
           exact ⟨⟨show W3.heap.size ≤ k by omega,by omega⟩,(Below.heap_alloc _ _ _ (by rw [hs2]; exact hk)).trans (hoth.out k (by omega))⟩
          ·rw [idsL_eq]; cases Value.ownBlock (.slice a6 l.args.length c6) <;> simp
 case rest =>
  obtain ⟨hP,hF,hres⟩:=hcut.out
  have hlen:=fun q (h : R.1 = some q)=>literalP_len K.ts st q (by rw [← hR.out]; exact h)
  obtain ⟨s0,hs0⟩:=h0; have hpw0:=hs0.lt; have hFw : Fr (one pb) w wc:=hK2.out.fr.trans hF; have hF0:=hid (hf0.trans hFw); obtain ⟨ro,s5⟩:=R; replace hR:=hid hR
  cases ro with
  | none =>
   replace hres : u8 = .bool false:=hres; subst hres; replace hP:=hid hP
   go_wp2_with fail
   go_ret2
   exact ⟨hP.out,hF0.out,rfl⟩
  | some q =>
   obtain ⟨xs,ys,e8,h1,h2,e1,e2,hd⟩:=hres; subst e8; obtain ⟨l1,l2⟩:=hlen q rfl
   have l3 : xs.length ≤ 3:=by rw [← e1] at l1; simpa using l1
   have l4 : ys.length ≤ 1:=by rw [← e2] at l2; simpa using l2
   have hw3:=hK2.out.fr.size; have hmc:=hm.fr goodRu hFw (fun q hq e=>by unfold from_ at hq; unfold one at e; omega)
   obtain ⟨g,mc',ab,cb,emv,c6,aA,cA,W5,run1,⟨ug,k6⟩,f6,a2,c2,W6,zs,run2,hO,hzm,hzn,hfz⟩:=made_push (N0:=W3.heap.size) hmc hn (fun k hk=>by
    rcases hk with hk | hk
    ·have:=(rules_lt hm k hk).2; omega
    ·have:=hm.lt hk; omega) (fun k hk=>by have:=hf0.size; unfold from_; omega) h1 h2 hd hF.size (by omega) (by simp; omega)
   injection emv with ema en emc; subst ema; subst emc; clear en
   have hidx : ∀ kd W,(Instr.indexAt 25 (.slice (some ⟨g,0,none⟩) (r0 :: rest).length mc) (.int kd 0)).run Tryz.prog W = .ok (.pointer (some ⟨g,0,none⟩)) W:=fun kd W=>by
    have:=row_idx (P:=Tryz.prog) (t:=25) (sz:=7) (a:=some ⟨g,0,none⟩) (b:=g) (off:=0) (by kernel_rfl) (fun _=>by kernel_rfl) rfl (r0 :: rest).length mc 0 (by simp) kd W; simpa using this
   obtain ⟨va1,vc1,rfl,-⟩:=h1.slice; obtain ⟨va2,vc2,rfl,-⟩:=h2.slice; have hF6:=hid (show Fr (one pb) w0 W6 from hF0.out.trans' hfz (fun _ x=>x) (fun k hk e=>by unfold from_ at e; omega)); have hP6:=hid (hs0.base hF6.out hP (hfz.block pb hP.lt (fun e=>by unfold from_ at e; omega))); replace hO:=hid hO; replace hzm:=hid hzm; replace hzn:=hid hzn; clear hP hF hFw h1 h2 hd hfz hmc
   go_wp2_with (first | (at_builtin; refine wpList_append_shut rfl (.tmp 94) (.tmp 95) rfl rfl rfl run1 ?_) | (at_builtin; refine wpList_append_shut rfl (.tmp 99) (.tmp 100) rfl rfl rfl run2 ?_))
   go_ret2
   refine ⟨hP6.out,hF6.out,_,zs,rfl,hO.out,?_,hzn.out⟩; rw [hzm.out,e1,e2]
end Go.Proofs.YtbkdakbhagjkhaaGreatDoor
