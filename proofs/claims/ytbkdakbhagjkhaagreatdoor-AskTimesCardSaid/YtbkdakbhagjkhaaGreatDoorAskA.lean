/- ask: the parser in memory; peek, offset, fail, take, mark, word, need. -/
import Derived.Test.YtbkdakbhagjkhaaGreatDoorLexW6
import Derived.Test.YtbkdakbhagjkhaaGreatDoorMapV
set_option linter.unusedVariables false
namespace Go.Proofs.YtbkdakbhagjkhaaGreatDoor
open Go.RowKit
open Go.Lib (hid)
/-- a token without its offset -/
structure Tw where
 kind : Int
 text : List UInt8
 n : Int
def tw (t : Tk) : Tw:=⟨t.kind,t.text,t.n⟩
/-- the parser's state: the next token, the generated variables and relations, the first error (its token) -/
structure PSt where
 nx : Nat
 vars : Nat
 rels : Nat
 err : Option (Int × Nat)
/-- what stays: the tokens, the source's size, the map of names -/
structure PK where
 toks : List Tk
 tv : Value
 size : Nat
 mb : Nat
 N : Nat
 f : Lit → Option Value
def PK.pos (K : PK) (i : Nat) : Int:=match K.toks[i]? with
 | some t=>t.pos
 | none=>K.size
def PK.ts (K : PK) : List Tw:=K.toks.map tw
def errN (st : PSt) : Int:=match st.err with
 | none=>0
 | some (e,_)=>e
def errP (K : PK) (st : PSt) : Int:=match st.err with
 | none=>0
 | some (_,i)=>K.pos i
abbrev mapv (b : Nat) : Value:=.map (some b)
abbrev pcells (K : PK) (st : PSt) : Array Value:=#[K.tv,iv st.nx,iv K.size,mapv K.mb,iv st.vars,iv st.rels,iv (errN st),iv (errP K st)]
structure PM (pb : Nat) (K : PK) (st : PSt) (w : World) : Prop where
 blk : w.heap[pb]? = some (.cells (pcells K st) 56 (0,0))
 tok : SlR 4 TkR (fun q=>q ≠ pb) w K.toks K.tv
 map : MapV Tryz.prog 9 K.mb K.N K.f w
 far : K.mb ≠ pb
 nx : st.nx ≤ K.toks.length
 len : K.toks.length ≤ 1048576
 ok : ∀ t ∈ K.toks,0 ≤ t.n ∧ t.n ≤ 9007199254740992 ∧ t.text.length ≤ 1048576
section
variable {pb : Nat} {K : PK} {st : PSt} {w w' : World}
theorem PM.lt (h : PM pb K st w) : pb < w.heap.size:=lt_of_some h.blk
theorem PM.below (h : PM pb K st w) (hb : Below w.heap.size w w') : PM pb K st w':=⟨below_keep hb h.blk h.lt,h.tok.below goodTk hb,h.map.below hb h.map.lt,h.far,h.nx,h.len,h.ok⟩
theorem PM.cell (h : PM pb K st w) {i : Nat} {v : Value} (hv : (pcells K st)[i]? = some v) : w.cell? ⟨pb,i,none⟩ = some v:=(cell_of h.blk).trans hv
theorem PM.free (h : PM pb K st w) (i : Nat) : w.frozen? ⟨pb,i,none⟩ = false:=free_of h.blk
theorem PM.slice (h : PM pb K st w) : ∃ a c,K.tv = .slice a K.toks.length c:=by obtain ⟨a,c,e,_⟩:=h.tok.slice; exact ⟨a,c,e⟩
/-- the state turned to another -/
theorem PM.turn (h : PM pb K st w) {st' : PSt} (hs : ∀ q,q ≠ pb → w'.heap[q]? = w.heap[q]?) (hb : w'.heap[pb]? = some (.cells (pcells K st') 56 (0,0))) (hn : st'.nx ≤ K.toks.length) : PM pb K st' w' :=
 ⟨hb,h.tok.move goodTk fun q _ hq=>⟨hq,hs q hq⟩,h.map.same (hs _ h.far),h.far,hn,h.len,h.ok⟩
theorem PM.setNx (h : PM pb K st w) (n : Nat) (hn : n ≤ K.toks.length) : PM pb K { st with nx:=n } (w.setCell ⟨pb,1,none⟩ (iv n)) :=
 h.turn (fun q hq=>heap_setCell_other _ hq) (heap_setCell_same h.blk _) hn
end
def tokP (ts : List Tw) (i : Nat) : Tw:=ts.getD i ⟨0,[],0⟩
def failP (st : PSt) : PSt:={ st with err:=some (2,st.nx) }
def nextP (st : PSt) : PSt:={ st with nx:=st.nx + 1 }
def isP (ts : List Tw) (st : PSt) (k : Int) (s : List UInt8) : Bool:=(tokP ts st.nx).kind == k && (tokP ts st.nx).text == s
def takeP (ts : List Tw) (st : PSt) (k : Int) (s : List UInt8) : Bool × PSt:=if isP ts st k s then (true,nextP st) else (false,st)
theorem tokP_lt {K : PK} {i : Nat} (h : (tokP K.ts i).kind ≠ 0) : i < K.toks.length:=by
 unfold tokP PK.ts at h; rcases Nat.lt_or_ge i K.toks.length with h2 | h2
 ·exact h2
 ·rw [List.getD_eq_getElem?_getD,List.getElem?_eq_none (by simpa using h2)] at h; exact absurd rfl h
theorem tokP_at {K : PK} {i : Nat} {t : Tk} (h : K.toks[i]? = some t) : tokP K.ts i = tw t:=by
 unfold tokP PK.ts; rw [List.getD_eq_getElem?_getD,List.getElem?_map,h]; rfl
theorem tokP_out {K : PK} {i : Nat} (h : K.toks.length ≤ i) : tokP K.ts i = ⟨0,[],0⟩:=by
 unfold tokP PK.ts; rw [List.getD_eq_getElem?_getD,List.getElem?_eq_none (by simpa using h)]; rfl
/-- the token at i as the parser sees it: with some offset -/
def tokK (K : PK) (i : Nat) : Tk:=K.toks.getD i tk0
theorem tokK_w (K : PK) (i : Nat) : tw (tokK K i) = tokP K.ts i:=by
 unfold tokK; rcases Nat.lt_or_ge i K.toks.length with h | h
 ·rw [tokP_at (List.getElem?_eq_getElem h),List.getD_eq_getElem?_getD,List.getElem?_eq_getElem h]; rfl
 ·rw [tokP_out h,List.getD_eq_getElem?_getD,List.getElem?_eq_none h]; rfl
theorem PM.tok_ok {pb : Nat} {K : PK} {st : PSt} {w : World} (h : PM pb K st w) (i : Nat) : 0 ≤ (tokP K.ts i).n ∧ (tokP K.ts i).n ≤ 9007199254740992 ∧ (tokP K.ts i).text.length ≤ 1048576:=by
 rcases Nat.lt_or_ge i K.toks.length with h2 | h2
 ·rw [tokP_at (List.getElem?_eq_getElem h2)]
  exact h.ok _ (List.getElem_mem h2)
 ·rw [tokP_out h2]; exact ⟨Int.le_refl _,by decide,by simp⟩
set_option maxHeartbeats 1000000 in
set_option maxRecDepth 100000 in
theorem peek_any (pb : Nat) (K : PK) (st : PSt) (d : Nat) (hd : d ≤ 1) (w : World) (h : PM pb K st w) :
  Calls Tryz.prog 57 #[pt pb,iv d] w fun e w'=>e = .returned (tkv (tokK K (st.nx + d))) ∧ Below w.heap.size w w':=by
 obtain ⟨a,c,htv⟩:=h.slice; have hn:=h.nx; have hl:=h.len; have hp:=h.lt; have c1 : w.cell? ⟨pb,1,none⟩ = some (iv st.nx):=h.cell (i:=1) rfl
 have c0 : w.cell? ⟨pb,0,none⟩ = some (.slice a K.toks.length c):=by rw [← htv]; exact h.cell (i:=0) rfl
 have hT:=hid h.tok; rw [htv] at hT
 have e1 : IntKind.i64.wrap ((st.nx : Int) + (d : Int)) = ((st.nx + d : Nat) : Int):=by rw [IntKind.wrap_i64]; omega
 obtain ⟨i,hi⟩ : ∃ i,i = st.nx + d:=⟨_,rfl⟩; rw [← hi] at e1 ⊢; replace hi:=hid hi
 have hne : ¬ pb = w.heap.size:=by omega
 have hne' : ¬ w.heap.size = pb:=by omega
 clear h; by_cases hlt : i < K.toks.length
 ·have q1 : decide ((i : Int) < (K.toks.length : Int)) = true:=decide_eq_true (by omega)
  obtain ⟨t,ht⟩ : ∃ t,K.toks[i]? = some t:=⟨_,List.getElem?_eq_getElem hlt⟩
  have htk : tokK K i = t:=by unfold tokK; rw [List.getD_eq_getElem?_getD,ht]; rfl
  rw [htk]; obtain ⟨g,o,cs,hidx,-,hg,hc,hr⟩:=hT.out.at (P:=Tryz.prog) (t:=47) (by kernel_rfl) (fun _=>by kernel_rfl) ht; have hr' : cs = tkc t:=hr; subst hr'; have d0:=hc 0 _ rfl; have d1:=hc 1 _ rfl; have d2:=hc 2 _ rfl; have d3:=hc 3 _ rfl; rw [Nat.add_zero] at d0
  have hge : ¬ g = w.heap.size:=by omega
  have hge' : ¬ w.heap.size = g:=by omega
  clear hT hc hr ht htk
  go_enter Tryz.func57,Tryz.ntmps57
  go_wp2_with fail
  refine bodyPost_ret (v:=tkv t) (results_cell_row (by rfl) _ _ w.heap.size 51 #[iv t.kind,sv t.text,iv t.n,iv t.pos] (0,0) _ (by rfl) (heap_alloc_new' w _) Tryz.underlying51 rfl (by kernel_rfl)) rfl ⟨rfl,(Below.refl _ w).alloc (Nat.le_refl _) _⟩
 ·have q1 : decide ((i : Int) < (K.toks.length : Int)) = false:=decide_eq_false (by omega)
  have htk : tokK K i = tk0:=by unfold tokK; rw [List.getD_eq_getElem?_getD,List.getElem?_eq_none (by omega)]; rfl
  rw [htk]; clear hT htk
  go_enter Tryz.func57,Tryz.ntmps57
  go_wp2_with fail
  refine bodyPost_ret (v:=tkv tk0) (results_cell_row (by rfl) _ _ w.heap.size 51 #[iv tk0.kind,sv tk0.text,iv tk0.n,iv tk0.pos] (0,0) _ (by rfl) (heap_alloc_new' w _) Tryz.underlying51 rfl (by kernel_rfl)) rfl ⟨rfl,(Below.refl _ w).alloc (Nat.le_refl _) _⟩
set_option maxHeartbeats 1000000 in
set_option maxRecDepth 100000 in
theorem offset_any (pb : Nat) (K : PK) (st : PSt) (w : World) (h : PM pb K st w) :
  Calls Tryz.prog 32 #[pt pb] w fun e w'=>e = .returned (iv (K.pos st.nx)) ∧ Below w.heap.size w w':=by
 obtain ⟨a,c,htv⟩:=h.slice; have hn:=h.nx; have hl:=h.len; have c1 : w.cell? ⟨pb,1,none⟩ = some (iv st.nx):=h.cell (i:=1) rfl; have c2 : w.cell? ⟨pb,2,none⟩ = some (iv K.size):=h.cell (i:=2) rfl
 have c0 : w.cell? ⟨pb,0,none⟩ = some (.slice a K.toks.length c):=by rw [← htv]; exact h.cell (i:=0) rfl
 have hT:=hid h.tok; rw [htv] at hT; obtain ⟨i,hi⟩ : ∃ i,i = st.nx:=⟨_,rfl⟩; rw [← hi] at c1 hn ⊢; replace hi:=hid hi; have hB:=hid (fun n=>below_drewM (Below.refl w.heap.size w) n); clear h; by_cases hlt : i < K.toks.length
 ·have q1 : decide ((i : Int) < (K.toks.length : Int)) = true:=decide_eq_true (by omega)
  obtain ⟨t,ht⟩ : ∃ t,K.toks[i]? = some t:=⟨_,List.getElem?_eq_getElem hlt⟩
  have hp : K.pos i = t.pos:=by unfold PK.pos; rw [ht]
  rw [hp]; obtain ⟨g,o,cs,hidx,-,hg,hc,hr⟩:=hT.out.at (P:=Tryz.prog) (t:=47) (by kernel_rfl) (fun _=>by kernel_rfl) ht; have hr' : cs = tkc t:=hr; subst hr'; have d3:=hc 3 _ rfl; clear hT hc hr ht hp
  go_enter Tryz.func32,Tryz.ntmps32
  go_wp2_with fail
  go_quiet (fail)
  go_wp2_with fail
  go_quiet (fail)
  go_wp2_with fail
  go_ret; exact ⟨rfl,by first | exact hB.out _ | exact below_drewM (hB.out _) _⟩
 ·have q1 : decide ((i : Int) < (K.toks.length : Int)) = false:=decide_eq_false (by omega)
  have hp : K.pos i = K.size:=by unfold PK.pos; rw [List.getElem?_eq_none (by omega)]
  rw [hp]; clear hT hp
  go_enter Tryz.func32,Tryz.ntmps32
  go_wp2_with fail
  go_quiet (fail)
  go_wp2_with fail
  go_ret; exact ⟨rfl,hB.out _⟩
/-- a parser's call that answers with a truth value -/
def PBool (pb : Nat) (K : PK) (w : World) (r : Bool × PSt) (e : Ending) (w' : World) : Prop:=e = .returned (.bool r.1) ∧ PM pb K r.2 w' ∧ Fr (one pb) w w'
set_option maxHeartbeats 1000000 in
set_option maxRecDepth 100000 in
theorem fail_any (pb : Nat) (K : PK) (st : PSt) (w : World) (h : PM pb K st w) :
  Calls Tryz.prog 38 #[pt pb] w (PBool pb K w (false,failP st)):=by
 have ho:=hid (offset_any pb K st w h); have hh:=hid h; obtain ⟨z,hz⟩ : ∃ z,z = K.pos st.nx:=⟨_,rfl⟩; rw [← hz] at ho; replace hz:=hid hz; clear h
 go_enter Tryz.func38,Tryz.ntmps38
 go_wp2_with fail
 with_reducible refine ho.out.mono ?_
 rintro e w1 ⟨rfl,hb⟩; have h1:=hid (hh.out.below hb); have c6 : w1.cell? ⟨pb,6,none⟩ = some (iv (errN st)):=h1.out.cell (i:=6) rfl; have c7 : w1.cell? ⟨pb,7,none⟩ = some (iv (errP K st)):=h1.out.cell (i:=7) rfl; have f6:=h1.out.free 6; have f7:=h1.out.free 7; have hfr:=hid (Fr.of_below hb (one pb)); clear hb
 go_wp2_with fail
 go_ret; refine ⟨rfl,h1.out.turn (fun q hq=>(heap_setCell_other _ hq).trans (heap_setCell_other _ hq)) ?_ h1.out.nx,(hfr.out.setCell (p:=⟨pb,6,none⟩) (Or.inl (show one pb pb from rfl)) _).setCell (p:=⟨pb,7,none⟩) (Or.inl (show one pb pb from rfl)) _⟩; have a0:=heap_setCell_same h1.out.blk (i:=6) (iv 2); have a1:=heap_setCell_same a0 (i:=7) (iv z); rw [hz.out] at a1; rw [hz.out]; exact a1
theorem PBool.of_below {pb : Nat} {K : PK} {w w1 w' : World} {r : Bool × PSt} {e : Ending} (hb : Below w.heap.size w w1) (h : PBool pb K w1 r e w') : PBool pb K w r e w':=⟨h.1,h.2.1,(Fr.of_below hb (one pb)).trans h.2.2⟩
theorem tk_row {w : World} {b : Nat} {t : Tk} (h : w.heap[b]? = some (.cells #[iv t.kind,sv t.text,iv t.n,iv t.pos] 51 (0,0))) : w.cell? ⟨b,0,none⟩ = some (iv t.kind) ∧ w.cell? ⟨b,1,none⟩ = some (sv t.text) ∧ w.cell? ⟨b,2,none⟩ = some (iv t.n) ∧ w.cell? ⟨b,3,none⟩ = some (iv t.pos) :=
 ⟨(cell_of (i:=0) h).trans rfl,(cell_of (i:=1) h).trans rfl,(cell_of (i:=2) h).trans rfl,(cell_of (i:=3) h).trans rfl⟩
set_option maxHeartbeats 1000000 in
set_option maxRecDepth 100000 in
theorem take_any (pb : Nat) (K : PK) (st : PSt) (k : Int) (hk : k ≠ 0) (s : List UInt8) (w : World) (h : PM pb K st w) :
  Calls Tryz.prog 54 #[pt pb,iv k,sv s] w (PBool pb K w (takeP K.ts st k s)):=by
 have hp0:=hid (show Calls Tryz.prog 57 #[pt pb,.int .i64 0] w fun e w'=>e = .returned (.agg #[iv (tokK K st.nx).kind,sv (tokK K st.nx).text,iv (tokK K st.nx).n,iv (tokK K st.nx).pos]) ∧ Below w.heap.size w w' from peek_any pb K st 0 (by decide) w h); have hh:=hid h; have hw:=tokK_w K st.nx; have hlt:=tokP_lt (K:=K) (i:=st.nx); have hn:=h.nx; have hl:=h.len; obtain ⟨t,ht⟩ : ∃ t,t = tokK K st.nx:=⟨_,rfl⟩; rw [← ht] at hp0 hw
 have hP : ∀ b,isP K.ts st k s = b → Hid (isP K.ts st k s = b):=fun _ h=>hid h
 have his : isP K.ts st k s = (t.kind == k && t.text == s):=by unfold isP; rw [← hw]; rfl
 have hkn : t.kind = k → st.nx < K.toks.length:=fun e=>hlt (by rw [← hw]; show t.kind ≠ 0; rw [e]; exact hk)
 clear h hw hlt; replace ht:=hid ht; replace his:=hid his; replace hkn:=hid hkn; by_cases h1 : t.kind = k
 ·have b1 : (t.kind == k) = true:=by simpa using h1
  by_cases h2 : t.text = s
  ·have b2 : (t.text == s) = true:=by simpa using h2
   have hR : Hid (takeP K.ts st k s = (true,nextP st)):=hid (by unfold takeP; rw [his.out,b1,b2]; rfl); have hnl:=hkn.out h1
   have e1 : IntKind.i64.wrap ((st.nx : Int) + 1) = ((st.nx + 1 : Nat) : Int):=by rw [IntKind.wrap_i64]; omega
   replace h1:=hid h1; replace h2:=hid h2; clear hP
   go_enter Tryz.func54,Tryz.ntmps54
   go_wp2_with fail
   with_reducible refine hp0.out.mono ?_
   rintro e w1 ⟨rfl,hb⟩; have hM:=hid ((hh.out.below hb).below ((Below.refl w1.heap.size w1).alloc (Nat.le_refl _) (.cells #[iv t.kind,sv t.text,iv t.n,iv t.pos] 51))); have hfr:=hid ((Fr.of_below hb (one pb)).alloc (.cells #[iv t.kind,sv t.text,iv t.n,iv t.pos] 51)); have c1:=hM.out.cell (i:=1) (v:=iv st.nx) rfl; have f1:=hM.out.free 1; have hr:=heap_alloc_new' w1 (.cells #[iv t.kind,sv t.text,iv t.n,iv t.pos] 51); obtain ⟨d0,d1,d2,d3⟩:=tk_row hr; clear hb hr
   go_wp2_with fail
   go_ret; exact ⟨by rw [hR.out]; rfl,by rw [hR.out]; exact hM.out.setNx (st.nx + 1) hnl,hfr.out.setCell (p:=⟨pb,1,none⟩) (Or.inl (show one pb pb from rfl)) _⟩
  ·have b2 : (t.text == s) = false:=by simpa using h2
   have hR : Hid (takeP K.ts st k s = (false,st)):=hid (by unfold takeP; rw [his.out,b1,b2]; rfl); replace h1:=hid h1; replace h2:=hid h2; clear hP
   go_enter Tryz.func54,Tryz.ntmps54
   go_wp2_with fail
   with_reducible refine hp0.out.mono ?_
   rintro e w1 ⟨rfl,hb⟩; have hM:=hid ((hh.out.below hb).below ((Below.refl w1.heap.size w1).alloc (Nat.le_refl _) (.cells #[iv t.kind,sv t.text,iv t.n,iv t.pos] 51))); have hfr:=hid ((Fr.of_below hb (one pb)).alloc (.cells #[iv t.kind,sv t.text,iv t.n,iv t.pos] 51)); clear hb
   go_wp2_with fail
   go_ret; exact ⟨by rw [hR.out]; rfl,by rw [hR.out]; exact hM.out,hfr.out⟩
 ·have b1 : (t.kind == k) = false:=by simpa using h1
  have hR : Hid (takeP K.ts st k s = (false,st)):=hid (by unfold takeP; rw [his.out,b1]; rfl); replace h1:=hid h1; clear hP
  go_enter Tryz.func54,Tryz.ntmps54
  go_wp2_with fail
  with_reducible refine hp0.out.mono ?_
  rintro e w1 ⟨rfl,hb⟩; have hM:=hid ((hh.out.below hb).below ((Below.refl w1.heap.size w1).alloc (Nat.le_refl _) (.cells #[iv t.kind,sv t.text,iv t.n,iv t.pos] 51))); have hfr:=hid ((Fr.of_below hb (one pb)).alloc (.cells #[iv t.kind,sv t.text,iv t.n,iv t.pos] 51)); clear hb
  go_wp2_with fail
  go_ret; exact ⟨by rw [hR.out]; rfl,by rw [hR.out]; exact hM.out,hfr.out⟩
theorem pmark_any (pb : Nat) (K : PK) (st : PSt) (s : List UInt8) (w : World) (h : PM pb K st w) :
  Calls Tryz.prog 31 #[pt pb,sv s] w (PBool pb K w (takeP K.ts st 4 s)):=by
 have hc:=hid (take_any pb K st 4 (by decide) s w h); generalize takeP K.ts st 4 s = r at *; clear h
 go_enter Tryz.func31,Tryz.ntmps31
 go_wp2_with fail
 with_reducible refine hc.out.mono ?_
 rintro e w1 ⟨rfl,h1,h2⟩
 go_wp2_with fail
 go_ret; exact ⟨rfl,h1,h2⟩
theorem pword_any (pb : Nat) (K : PK) (st : PSt) (s : List UInt8) (w : World) (h : PM pb K st w) :
  Calls Tryz.prog 58 #[pt pb,sv s] w (PBool pb K w (takeP K.ts st 1 s)):=by
 have hc:=hid (take_any pb K st 1 (by decide) s w h); generalize takeP K.ts st 1 s = r at *; clear h
 go_enter Tryz.func58,Tryz.ntmps58
 go_wp2_with fail
 with_reducible refine hc.out.mono ?_
 rintro e w1 ⟨rfl,h1,h2⟩
 go_wp2_with fail
 go_ret; exact ⟨rfl,h1,h2⟩
def needP (ts : List Tw) (st : PSt) (s : List UInt8) : Bool × PSt:=if isP ts st 4 s then (true,nextP st) else (false,failP st)
theorem need_any (pb : Nat) (K : PK) (st : PSt) (s : List UInt8) (w : World) (h : PM pb K st w) :
  Calls Tryz.prog 35 #[pt pb,sv s] w (PBool pb K w (needP K.ts st s)):=by
 have hc:=hid (pmark_any pb K st s w h); obtain ⟨z,hz⟩ : ∃ z,isP K.ts st 4 s = z:=⟨_,rfl⟩
 have hN : needP K.ts st s = if z then (true,nextP st) else (false,failP st):=by unfold needP; rw [hz]
 have hT : takeP K.ts st 4 s = if z then (true,nextP st) else (false,st):=by unfold takeP; rw [hz]
 rw [hT] at hc; rw [hN]; clear hT hN hz h
 cases z with
 | true =>
  go_enter Tryz.func35,Tryz.ntmps35
  go_wp2_with fail
  with_reducible refine hc.out.mono ?_
  rintro e w1 ⟨rfl,h1,h2⟩; replace h1:=hid h1; replace h2:=hid h2
  go_wp2_with fail
  go_ret; exact ⟨rfl,h1.out,h2.out⟩
 | false =>
  go_enter Tryz.func35,Tryz.ntmps35
  go_wp2_with fail
  with_reducible refine hc.out.mono ?_
  rintro e w1 ⟨rfl,h1,h2⟩; have hf:=hid (fail_any pb K st w1 h1); replace h1:=hid h1; replace h2:=hid h2
  go_wp2_with fail
  with_reducible refine hf.out.mono ?_
  rintro e w2 ⟨rfl,h3,h4⟩; replace h3:=hid h3; have h5:=hid (h2.out.trans h4); clear h4 h2 hf
  go_wp2_with fail
  go_ret; exact ⟨rfl,h3.out,h5.out⟩
end Go.Proofs.YtbkdakbhagjkhaaGreatDoor
