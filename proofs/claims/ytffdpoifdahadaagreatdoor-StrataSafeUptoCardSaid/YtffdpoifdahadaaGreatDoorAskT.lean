/- AskT: AskN, AskR, AskV, AskO, AskPa, AskP, AskS, AskTa, AskT, in one text. -/
import Derived.Test.YtffdpoifdahadaaGreatDoorAskL
set_option linter.unusedVariables false
set_option linter.unusedSimpArgs false
namespace Go.Proofs.YtffdpoifdahadaaGreatDoor
open Go.RowKit
open Go.Lib (hid itoa)
/-- what a function of the parser has made so far: rows at blocks of its own; w: the world at its start -/
structure Kp (pb:Nat) (K:PK) (st:PSt) (w W:World) (rows:List (Nat × Obj)):Prop where
 base:∃ s,PM pb K s w
 pm:PM pb K st W
 fr:Fr (one pb) w W
 row:∀ r∈rows,W.heap[r.1]? = some r.2
 ge:∀ r∈rows,w.heap.size≤r.1
section
variable {pb:Nat} {K:PK} {st st':PSt} {w W W':World} {rows:List (Nat × Obj)}
theorem Kp.start (h:PM pb K st w):Kp pb K st w w []:=⟨⟨st,h⟩,h,Fr.refl _ _,fun r h=>by simp at h,fun r h=>by simp at h⟩
theorem Kp.pb_lt (h:Kp pb K st w W rows):pb < w.heap.size:=by obtain ⟨s,hs⟩:=h.base; exact hs.lt
theorem Kp.call (h:Kp pb K st w W rows) (hp:PM pb K st' W') (hf:Fr (one pb) W W'):Kp pb K st' w W' rows :=
 ⟨h.base,hp,h.fr.trans hf,fun r hr=>(hf.block _ (lt_of_heap (h.row r hr)) (fun e=>by have h1:=h.pb_lt; have h2:=h.ge r hr; unfold one at e; omega)).trans (h.row r hr),h.ge⟩
theorem Kp.below (h:Kp pb K st w W rows) (hb:Below W.heap.size W W'):Kp pb K st w W' rows:=h.call (h.pm.below hb) (Fr.of_below hb _)
theorem Kp.alloc (h:Kp pb K st w W rows) (o:Obj):Kp pb K st w (W.alloc o) ((W.heap.size,o)::rows):=by
 have hk:=h.below ((Below.refl _ W).alloc (Nat.le_refl _) o); exact ⟨hk.base,hk.pm,hk.fr,fun r hr=>by rcases List.mem_cons.1 hr with rfl | hr; exact heap_alloc_new' _ _; exact hk.row r hr,fun r hr=>by rcases List.mem_cons.1 hr with rfl | hr; exact h.fr.size; exact h.ge r hr⟩
theorem Kp.drew (h:Kp pb K st w W rows):Kp pb K st w W.drew rows:=h.below ((Below.refl _ _).drew)
theorem Kp.nth (h:Kp pb K st w W rows) {i b:Nat} {o:Obj} (hi:rows[i]? = some (b,o)):W.heap[b]? = some o:=h.row (b,o) (List.mem_of_getElem? hi)
theorem Kp.geN (h:Kp pb K st w W rows) {i b:Nat} {o:Obj} (hi:rows[i]? = some (b,o)):w.heap.size≤b:=h.ge (b,o) (List.mem_of_getElem? hi)
theorem Kp.sub (h:Kp pb K st w W rows) {rows':List (Nat × Obj)} (hs:∀ r∈rows',r∈rows):Kp pb K st w W rows':=⟨h.base,h.pm,h.fr,fun r hr=>h.row r (hs r hr),fun r hr=>h.ge r (hs r hr)⟩
/-- memory turned at a block of the function's own -/
theorem Kp.turn (h:Kp pb K st w W rows) {b:Nat} {o:Obj} (hb:w.heap.size≤b) (hf:Fr (one b) W W') (ho:W'.heap[b]? = some o):Kp pb K st w W' ((b,o)::rows.filter fun r=>r.1 != b):=by
 obtain ⟨s,hs⟩:=h.base; have hF:Fr (one pb) w W':=h.fr.trans' hf (fun _ x=>x) (fun k hk e=>by unfold one at e; omega); refine ⟨h.base,hs.fr hF ((hf.block pb h.pm.lt (fun e=>by have:=hs.lt; unfold one at e; omega)).trans h.pm.blk) h.pm.nx,hF,fun r hr=>?_,fun r hr=>?_⟩
 ·rcases List.mem_cons.1 hr with rfl | hr
  ·exact ho
  ·obtain ⟨h1,h2⟩:=List.mem_filter.1 hr
   exact (hf.block _ (lt_of_heap (h.row r h1)) (fun e=>by unfold one at e; simp [e] at h2)).trans (h.row r h1)
 ·rcases List.mem_cons.1 hr with rfl | hr
  ·exact hb
  ·exact h.ge r (List.mem_filter.1 hr).1
end
theorem fr_one_setTm {w:World} {R:Nat} (t:Tm):Fr (one R) w (setTm w R t) :=
 (((((((Fr.refl (one R) w).setCell (p:=⟨R,0,none⟩) (Or.inl (show one R R from rfl)) _).setCell (p:=⟨R,1,none⟩) (Or.inl (show one R R from rfl)) _).setCell (p:=⟨R,2,none⟩) (Or.inl (show one R R from rfl)) _).setCell (p:=⟨R,3,none⟩) (Or.inl (show one R R from rfl)) _).setCell (p:=⟨R,4,none⟩) (Or.inl (show one R R from rfl)) _).setCell (p:=⟨R,5,none⟩) (Or.inl (show one R R from rfl)) _).setCell (p:=⟨R,6,none⟩) (Or.inl (show one R R from rfl)) _
theorem fr_one_setLt {w:World} {R:Nat} (op:Int) (nt:Bool) (rel:List UInt8) (v:Value):Fr (one R) w (setLt w R op nt rel v) :=
 ((((Fr.refl (one R) w).setCell (p:=⟨R,0,none⟩) (Or.inl (show one R R from rfl)) _).setCell (p:=⟨R,1,none⟩) (Or.inl (show one R R from rfl)) _).setCell (p:=⟨R,2,none⟩) (Or.inl (show one R R from rfl)) _).setCell (p:=⟨R,3,none⟩) (Or.inl (show one R R from rfl)) _
/-- the operators in memory -/
abbrev opcells (o:Int × Bool):Array Value:=#[iv o.1,.bool o.2]
noncomputable def opsV:Lit→Option Value:=fun kl=>match kl with
 | .string s=>(opsF s).map fun o=>.agg (opcells o)
 | _=>none
theorem opsV_ok (kl:Lit) (hk:WideAt.IsKeyLit kl):opsV kl=putF (putF (putF (putF (putF (putF (fun _=>none) (.string [61]) (.agg (opcells (1,false)))) (.string [33,61]) (.agg (opcells (2,false)))) (.string [60]) (.agg (opcells (3,false)))) (.string [60,61]) (.agg (opcells (4,false)))) (.string [62]) (.agg (opcells (3,true)))) (.string [62,61]) (.agg (opcells (4,true))) kl:=by
 unfold opsV putF
 cases kl with
 | string s =>
  unfold opsF; by_cases h1:s=[61]
  ·subst h1; simp
  by_cases h2:s=[33,61]
  ·subst h2; simp
  by_cases h3:s=[60]
  ·subst h3; simp
  by_cases h4:s=[60,61]
  ·subst h4; simp
  by_cases h5:s=[62]
  ·subst h5; simp
  by_cases h6:s=[62,61]
  ·subst h6; simp
  simp [h1,h2,h3,h4,h5,h6]
 | _=>simp
theorem Kp.finLt {pb:Nat} {K:PK} {st:PSt} {w W:World} {rows:List (Nat × Obj)} (h:Kp pb K st w W rows) {o0:Int} {n0:Bool} {r0:List UInt8} {v0:Value} (hr:W.heap[w.heap.size]? = some (.cells (lcells o0 n0 r0 v0) 24 (0,0))) (op:Int) (nt:Bool) (rel:List UInt8) (v:Value) :
  PM pb K st (setLt W w.heap.size op nt rel v)∧Fr (one pb) w (setLt W w.heap.size op nt rel v)∧(setLt W w.heap.size op nt rel v).heap[w.heap.size]? = some (.cells (lcells op nt rel v) 24 (0,0)):=by
 have h1:=lt_set hr op nt rel v; have h2:=h.turn (Nat.le_refl _) (fr_one_setLt op nt rel v) h1; exact ⟨h2.pm,h2.fr,h1⟩
def cmp2 (ts:List Tw) (a:Tm) (s1:PSt):Option (Int × Bool)→Option Lt × PSt
 | none=>(none,failP s1)
 | some o=>cmpE ts o.1 o.2 a (termP ts (nextP s1))
def cmp1 (ts:List Tw):Option Tm × PSt→Option Lt × PSt
 | (none,s)=>(none,s)
 | (some a,s1)=>if (tokP ts s1.nx).kind=4 then cmp2 ts a s1 (opsF (tokP ts s1.nx).text) else (none,failP s1)
theorem comparison_eq (ts:List Tw) (st:PSt):comparisonP ts st=cmp1 ts (termP ts st):=by
 unfold comparisonP; generalize termP ts st=r; obtain ⟨o,s⟩:=r
 cases o with
 | none=>rfl
 | some a =>
  show _=if (tokP ts s.nx).kind=4 then cmp2 ts a s (opsF (tokP ts s.nx).text) else (none,failP s)
  by_cases h:(tokP ts s.nx).kind=4
  ·rw [if_pos h]
   simp only [h,if_true]; cases opsF (tokP ts s.nx).text <;> rfl
  ·rw [if_neg h]; simp only [h,if_false]
theorem ops_look {mb:Nat} {w:World} (h:MapV Tryz.prog 9 mb 6 opsV w) (s:List UInt8) (hs:s.length≤1048576) :
  (Instr.lookup 186 (.map (some mb)) (sv s) true).run Tryz.prog w=.ok (.tuple #[.agg (opcells ((opsF s).getD (0,false))),.bool (opsF s).isSome]) w:=by
 have:=h.look_ok (Maps.string_keyed Tryz.underlying9) (t:=186) (e:=185) Tryz.underlying186 (z:=.agg (opcells (0,false))) (by kernel_rfl) (keyLitA s hs) trivial; rw [this]; show (Result.ok (Value.tuple #[((opsF s).map fun o=>Value.agg (opcells o)).getD (.agg (opcells (0,false))),.bool ((opsF s).map fun o=>Value.agg (opcells o)).isSome]) w:Result Value)=_; cases opsF s <;> rfl
set_option maxHeartbeats 4000000 in
set_option maxRecDepth 100000 in
theorem comparison_any (pb:Nat) (K:PK) (st:PSt) (w:World) (h:PM pb K st w) :
  Calls Tryz.prog 96 #[pt pb] w (PLit pb K w (comparisonP K.ts st)):=by
 rw [comparison_eq]; obtain ⟨R,hR⟩:∃ R,R=cmp1 K.ts (termP K.ts st):=⟨_,rfl⟩; rw [← hR]; replace hR:=hid hR; have hh:=hid h; have hpl:=h.lt; have hK0:=(Kp.start h).alloc (.cells #[.int .i64 0,.bool false,.string ⟨#[]⟩,.slice none 0 0] 24); obtain ⟨W0,hW0⟩:∃ W0,W0=w.alloc (.cells #[.int .i64 0,.bool false,.string ⟨#[]⟩,.slice none 0 0] 24):=⟨_,rfl⟩; rw [← hW0] at hK0
 have hs0:W0.heap.size=w.heap.size+1:=by rw [hW0]; simp
 obtain ⟨V0,hV0⟩:∃ V0,V0=W0.alloc (.map #[] 0):=⟨_,rfl⟩; have hm0:=MapV.made (P:=Tryz.prog) (k:=9) W0; rw [← hV0] at hm0; obtain ⟨V1,hu1,hm1,hg1⟩:=hm0.put (Maps.string_keyed Tryz.underlying9) (t:=186) (e:=185) Tryz.underlying186 (by decide) (keyLitA [61] (by decide)) trivial (.agg (opcells (1,false))); obtain ⟨V2,hu2,hm2,hg2⟩:=hm1.put (Maps.string_keyed Tryz.underlying9) (t:=186) (e:=185) Tryz.underlying186 (by decide) (keyLitA [33,61] (by decide)) trivial (.agg (opcells (2,false)))
 obtain ⟨V3,hu3,hm3,hg3⟩:=hm2.put (Maps.string_keyed Tryz.underlying9) (t:=186) (e:=185) Tryz.underlying186 (by decide) (keyLitA [60] (by decide)) trivial (.agg (opcells (3,false))); obtain ⟨V4,hu4,hm4,hg4⟩:=hm3.put (Maps.string_keyed Tryz.underlying9) (t:=186) (e:=185) Tryz.underlying186 (by decide) (keyLitA [60,61] (by decide)) trivial (.agg (opcells (4,false))); obtain ⟨V5,hu5,hm5,hg5⟩:=hm4.put (Maps.string_keyed Tryz.underlying9) (t:=186) (e:=185) Tryz.underlying186 (by decide) (keyLitA [62] (by decide)) trivial (.agg (opcells (3,true)))
 obtain ⟨V6,hu6,hm6,hg6⟩:=hm5.put (Maps.string_keyed Tryz.underlying9) (t:=186) (e:=185) Tryz.underlying186 (by decide) (keyLitA [62,61] (by decide)) trivial (.agg (opcells (4,true)))
 have hbM:Below W0.heap.size W0 V6:=by
  have y0:Below W0.heap.size W0 V0:=by rw [hV0]; exact (Below.refl W0.heap.size W0).alloc (Nat.le_refl _) (.map #[] 0)
  have y1:=y0.trans (grown_below hg1 (Nat.le_refl _) y0.size); have y2:=y1.trans (grown_below hg2 (Nat.le_refl _) y1.size); have y3:=y2.trans (grown_below hg3 (Nat.le_refl _) y2.size); have y4:=y3.trans (grown_below hg4 (Nat.le_refl _) y3.size); have y5:=y4.trans (grown_below hg5 (Nat.le_refl _) y4.size); have y6:=y5.trans (grown_below hg6 (Nat.le_refl _) y5.size); exact y6
 have hK1:=hid (hK0.below hbM); have hmap:=hid (hm6.congr opsV_ok)
 have hmk:(Instr.makeMap 186 none).run Tryz.prog (w.alloc (.cells #[.int .i64 0,.bool false,.string ⟨#[]⟩,.slice none 0 0] 24))=.ok (.map (some W0.heap.size)) V0:=by rw [hV0,hW0]; exact run_makeMap _ _
 obtain ⟨mb,hmb⟩:∃ mb,mb=W0.heap.size:=⟨_,rfl⟩; rw [← hmb] at hmk hu1 hu2 hu3 hu4 hu5 hu6 hmap
 have hmp:¬ mb=pb:=by omega
 obtain ⟨ro1,hro1⟩:∃ ro,ro=termP K.ts (st):=⟨_,rfl⟩; have hte:=hid (term_x pb K (st) V6 hK1.out.pm); rw [← hro1] at hte; replace hR:=hR.out; rw [← hro1] at hR; replace hR:=hid hR; replace hro1:=hid hro1; obtain ⟨ot1,s1⟩:=ro1; replace hte:=hid (show Calls Tryz.prog 98 #[pt pb] V6 fun e w'=>∃ x:Tm,e=.returned (.tuple #[.agg (fcells x),.bool ot1.isSome])∧(∀ t,ot1=some t→t=x)∧PM pb K s1 w'∧Fr (one pb) V6 w' from hte.out); replace hmb:=hid hmb; replace hs0:=hid hs0; clear h hK0 hm0 hm1 hm2 hm3 hm4 hm5 hm6 hg1 hg2 hg3 hg4 hg5 hg6 hbM hV0
 go_enter Tryz.func96,Tryz.ntmps96
 replace hW0:=hid hW0
 go_wp2_with fail
 clear hmk hu1 hu2 hu3 hu4 hu5 hu6
 with_reducible refine hte.out.mono ?_
 rintro e w1 ⟨x,rfl,hx,hM1,hf1⟩; have hKa:=hid ((hK1.out.call hM1 hf1).alloc (.cells (fcells x) 63)); have hma:=hid ((hmap.out.fr hf1 hmp).alloc (.cells (fcells x) 63)); replace hx:=hid hx; have hl1:=hf1.size; have hLA0:=hid (show w.heap.size < w1.heap.size from Nat.lt_of_lt_of_le (lt_of_heap (hK1.out.nth (i:=0) rfl)) hl1); clear hte hM1 hf1 hK1 hmap
 cases ot1 with
 | none =>
  replace hR:=hid (show R=(none,s1) from hR.out); obtain ⟨q0,q1,q2,q3,fz⟩:=lt_cells (hKa.out.nth (i:=1) rfl); have fz0:=fz 0; have fz1:=fz 1; have fz2:=fz 2; have fz3:=fz 3; clear fz
  go_wp2_with fail
  obtain ⟨hp,hf,hr⟩:=hKa.out.finLt (hKa.out.nth (i:=1) rfl) 0 false [] (.slice none 0 0); refine bodyPost_ret (v:=.tuple #[.agg (lcells 0 false [] (.slice none 0 0)),.bool false]) (results_lit (by rfl) _ _ w.heap.size 0 false [] (.slice none 0 0) false (by rfl) (by rfl) hr) rfl ⟨by rw [hR.out]; exact hp,hf,?_⟩; rw [hR.out]; exact ⟨0,false,[],none,0,0,rfl⟩
 | some a =>
  have hxa:=hx.out a rfl; subst hxa; have htl:=(hKa.out.pm.tok_ok s1.nx).2.2; have htk:=tokK_w K s1.nx; have htlt:=tokP_lt (K:=K) (i:=s1.nx); obtain ⟨t,ht⟩:∃ t,t=tokK K s1.nx:=⟨_,rfl⟩; have hpk:=hid (show Calls Tryz.prog 90 #[pt pb,.int .i64 0] (w1.alloc (.cells (fcells a) 63)) fun e w'=>e=.returned (.agg #[iv (tokK K s1.nx).kind,sv (tokK K s1.nx).text,iv (tokK K s1.nx).n,iv (tokK K s1.nx).pos])∧Below (w1.alloc (.cells (fcells a) 63)).heap.size (w1.alloc (.cells (fcells a) 63)) w' from peek_any pb K s1 0 (by decide) _ hKa.out.pm); rw [← ht] at hpk htk; rw [← htk] at htl htlt; replace htlt:=hid (show t.kind≠0→s1.nx < K.toks.length from htlt); replace htl:t.text.length≤1048576:=htl
  replace hR:=hid (show R=if t.kind=4 then cmp2 K.ts a s1 (opsF t.text) else (none,failP s1) from by rw [show t.kind=(tokP K.ts s1.nx).kind from by rw [← htk]; rfl,show t.text=(tokP K.ts s1.nx).text from by rw [← htk]; rfl]; exact hR.out); replace htk:=hid htk; replace ht:=hid ht; obtain ⟨oo,hoo⟩:∃ oo,oo=opsF t.text:=⟨_,rfl⟩; rw [← hoo] at hR; obtain ⟨⟨op,sw⟩,ho⟩:∃ o:Int × Bool,o=oo.getD (0,false):=⟨_,rfl⟩; obtain ⟨fd,hfd⟩:∃ fd,fd=oo.isSome:=⟨_,rfl⟩
  go_wp2_with fail
  with_reducible refine hpk.out.mono ?_
  rintro e w2 ⟨rfl,hb2⟩; have hKt:=(hKa.out.below hb2).alloc (.cells #[iv t.kind,sv t.text,iv t.n,iv t.pos] 95); have hmt:=(hma.out.below hb2 hma.out.lt).alloc (.cells #[iv t.kind,sv t.text,iv t.n,iv t.pos] 95); have hlk:=ops_look hmt t.text htl; rw [← hoo,← ho,← hfd] at hlk; have hKo0:=hKt.alloc (.cells (opcells (op,sw)) 185); rw [show (w2.alloc (.cells #[iv t.kind,sv t.text,iv t.n,iv t.pos] 95)).heap.size=w2.heap.size+1 from by simp] at hKo0; have hKo:=hid hKo0; have hs2:=hid (show w1.heap.size < w2.heap.size from Nat.lt_of_lt_of_le (by simp) hb2.size); obtain ⟨d0,d1,d2,d3⟩:=tk_row (hKo0.nth (i:=1) rfl); obtain ⟨y0,y1,-,-⟩:=tk_row (hKt.nth (i:=0) rfl); have p0:=(cell_of (i:=0) (hKo0.nth (i:=0) rfl)).trans rfl
  have p1:=(cell_of (i:=1) (hKo0.nth (i:=0) rfl)).trans rfl
  have ntt:¬ w2.heap.size+1=w2.heap.size:=by omega
  clear hKo0 hKt hb2 hpk hma hmt hKa; replace hoo:=hid hoo; replace ho:=hid ho; replace hfd:=hid hfd; by_cases hk4:t.kind=4
  ·have bk:(t.kind != 4)=false:=by rw [hk4]; rfl
   have hnl:=htlt.out (by rw [hk4]; decide); replace hR:=hid (hR.out.trans (if_pos hk4)); replace hk4:=hid hk4
   cases oo with
   | none =>
    replace hR:=hid (show R=(none,failP s1) from hR.out); have hfd':fd=false:=hfd.out; subst hfd'; have hfl:=hid (fail_any pb K _ _ hKo.out.pm)
    go_wp2_with fail
    with_reducible refine hfl.out.mono ?_
    rintro e w3 ⟨rfl,hM3,hf3⟩; have hKf:=hid (hKo.out.call hM3 hf3); clear hM3 hf3 hfl; obtain ⟨q0,q1,q2,q3,fz⟩:=lt_cells (hKf.out.nth (i:=3) rfl); have fz0:=fz 0; have fz1:=fz 1; have fz2:=fz 2; have fz3:=fz 3; clear fz
    go_wp2_with fail
    obtain ⟨hp,hf,hr⟩:=hKf.out.finLt (hKf.out.nth (i:=3) rfl) 0 false [] (.slice none 0 0); refine bodyPost_ret (v:=.tuple #[.agg (lcells 0 false [] (.slice none 0 0)),.bool false]) (results_lit (by rfl) _ _ w.heap.size 0 false [] (.slice none 0 0) false (by rfl) (by rfl) hr) rfl ⟨by rw [hR.out]; exact hp,hf,?_⟩; rw [hR.out]; exact ⟨0,false,[],none,0,0,rfl⟩
   | some oq =>
    have ho':(op,sw)=oq:=ho.out; subst ho'; have hfd':fd=true:=hfd.out; subst hfd'; replace hR:=hid (show R=cmpE K.ts op sw a (termP K.ts (nextP s1)) from hR.out); obtain ⟨m,hm⟩:∃ m,m=s1.nx+1:=⟨_,rfl⟩; have hlen:=hKo.out.pm.len
    have e1:IntKind.i64.wrap ((s1.nx:Int)+1)=(m:Int):=by rw [IntKind.wrap_i64]; omega
    have c1:=hKo.out.pm.cell (i:=1) (v:=iv s1.nx) rfl; have f1:=hKo.out.pm.free 1; have hK4:=hid (show Kp pb K (nextP s1) w (((w2.alloc (.cells #[iv t.kind,sv t.text,iv t.n,iv t.pos] 95)).alloc (.cells (opcells (op,sw)) 185)).setCell ⟨pb,1,none⟩ (iv (m:Int))) _ from hKo.out.call (st':=nextP s1) (by rw [hm]; exact hKo.out.pm.setNx (s1.nx+1) (by omega)) ((Fr.refl (one pb) _).setCell (p:=⟨pb,1,none⟩) (Or.inl (show one pb pb from rfl)) _)); replace hm:=hid hm; obtain ⟨ro5,hro5⟩:∃ ro,ro=termP K.ts (nextP s1):=⟨_,rfl⟩; have hte:=hid (term_x pb K (nextP s1) _ hK4.out.pm); rw [← hro5] at hte; replace hR:=hR.out; rw [← hro5] at hR; replace hR:=hid hR; replace hro5:=hid hro5; obtain ⟨ot5,s5⟩:=ro5
    replace hte:=hid (show Calls Tryz.prog 98 #[pt pb] _ fun e w'=>∃ x:Tm,e=.returned (.tuple #[.agg (fcells x),.bool ot5.isSome])∧(∀ t,ot5=some t→t=x)∧PM pb K s5 w'∧Fr (one pb) _ w' from hte.out)
    go_wp2_with fail
    clear hlk y0 y1
    with_reducible refine hte.out.mono ?_
    rintro e w5 ⟨b,rfl,hx5,hM5,hf5⟩; have hK5:=hid ((hK4.out.call hM5 hf5).alloc (.cells (fcells b) 63)); have hl5:=hf5.size; replace hx5:=hid hx5; clear hte hM5 hf5; have hBA:=hid (show w1.heap.size < w5.heap.size from by have:=hs2.out; have h9:=hl5; simp [World.setCell] at h9; omega); clear hK4 hKo c1 f1
    cases ot5 with
    | none =>
     replace hR:=hid (show R=(none,s5) from hR.out); obtain ⟨q0,q1,q2,q3,fz⟩:=lt_cells (hK5.out.nth (i:=4) rfl); have fz0:=fz 0; have fz1:=fz 1; have fz2:=fz 2; have fz3:=fz 3; clear fz
     go_wp2_with fail
     obtain ⟨hp,hf,hr⟩:=hK5.out.finLt (hK5.out.nth (i:=4) rfl) 0 false [] (.slice none 0 0); refine bodyPost_ret (v:=.tuple #[.agg (lcells 0 false [] (.slice none 0 0)),.bool false]) (results_lit (by rfl) _ _ w.heap.size 0 false [] (.slice none 0 0) false (by rfl) (by rfl) hr) rfl ⟨by rw [hR.out]; exact hp,hf,?_⟩; rw [hR.out]; exact ⟨0,false,[],none,0,0,rfl⟩
    | some b0 =>
     have hxb:b=b0:=(hx5.out b0 rfl).symm; subst hxb; have hLA:=hid (show w.heap.size < w1.heap.size from hLA0.out); have hBo:=hid (show w2.heap.size+1 < w5.heap.size from by have h9:=hl5; simp [World.setCell] at h9; omega); have oz0:=(cell_of (i:=0) (hK5.out.nth (i:=1) rfl)).trans rfl; by_cases hop:op=1
     ·subst hop
      obtain ⟨z43,hz43⟩:∃ z,isP K.ts (s5) 4 [43]=z:=⟨_,rfl⟩; have hmk43:=hid (pmark_any pb K (s5) [43] _ hK5.out.pm)
      have hT43:takeP K.ts (s5) 4 [43]=if z43 then (true,nextP (s5)) else (false,(s5)):=by unfold takeP; rw [hz43]
      rw [hT43] at hmk43; clear hT43; replace hz43:=hid hz43; replace hR:=hid (show R=if z43=true then addE false a b (termP K.ts (nextP s5)) else if isP K.ts s5 4 [45]=true then addE true a b (termP K.ts (nextP s5)) else (some (if sw then compareF 1 b a else compareF 1 a b),s5) from by rw [hR.out,← hz43.out]; show (if (1:Int)=1∧_ then _ else if (1:Int)=1∧_ then _ else _)=_; simp only [true_and])
      go_wp2_with fail
      with_reducible refine hmk43.out.mono ?_
      rintro e w6 ⟨rfl,hM43,hf43⟩; have hKw6:=hid (hK5.out.call hM43 hf43); clear hmk43 hM43 hf43
      cases z43 with
      | true =>
       replace hR:=hid (show R=addE false a b (termP K.ts (nextP s5)) from hR.out); replace hKw6:=hid (show Kp pb K (nextP s5) w w6 _ from hKw6.out); obtain ⟨ro7,hro7⟩:∃ ro,ro=termP K.ts (nextP s5):=⟨_,rfl⟩; have hte:=hid (term_x pb K (nextP s5) w6 hKw6.out.pm); rw [← hro7] at hte; replace hR:=hR.out; rw [← hro7] at hR; replace hR:=hid hR; replace hro7:=hid hro7; obtain ⟨ot7,s7⟩:=ro7; replace hte:=hid (show Calls Tryz.prog 98 #[pt pb] w6 fun e w'=>∃ x:Tm,e=.returned (.tuple #[.agg (fcells x),.bool ot7.isSome])∧(∀ t,ot7=some t→t=x)∧PM pb K s7 w'∧Fr (one pb) w6 w' from hte.out)
       go_wp2_with fail
       with_reducible refine hte.out.mono ?_
       rintro e w7 ⟨c,rfl,hx7,hM7,hf7⟩; have hK7:=hid ((hKw6.out.call hM7 hf7).alloc (.cells (fcells c) 63)); have hl7:=hf7.size; replace hx7:=hid hx7; clear hte hM7 hf7; have hCB:=hid (show w5.heap.size < w7.heap.size from Nat.lt_of_lt_of_le (lt_of_heap (hKw6.out.nth (i:=0) rfl)) hl7)
       cases ot7 with
       | none =>
        replace hR:=hid (show R=(none,s7) from hR.out); obtain ⟨q0,q1,q2,q3,fz⟩:=lt_cells (hK7.out.nth (i:=5) rfl); have fz0:=fz 0; have fz1:=fz 1; have fz2:=fz 2; have fz3:=fz 3; clear fz
        go_wp2_with fail
        obtain ⟨hp,hf,hr⟩:=hK7.out.finLt (hK7.out.nth (i:=5) rfl) 0 false [] (.slice none 0 0); refine bodyPost_ret (v:=.tuple #[.agg (lcells 0 false [] (.slice none 0 0)),.bool false]) (results_lit (by rfl) _ _ w.heap.size 0 false [] (.slice none 0 0) false (by rfl) (by rfl) hr) rfl ⟨by rw [hR.out]; exact hp,hf,?_⟩; rw [hR.out]; exact ⟨0,false,[],none,0,0,rfl⟩
       | some c0 =>
        have hxc:c=c0:=(hx7.out c0 rfl).symm; subst hxc; replace hR:=hid (show R=(some ⟨5,false,[],[a,b,c]⟩,s7) from hR.out)
        have nBA:¬ w5.heap.size=w1.heap.size:=by have:=hBA.out; omega
        have nAB:¬ w1.heap.size=w5.heap.size:=by have:=hBA.out; omega
        have nLA:¬ w.heap.size=w1.heap.size:=by have:=hLA.out; omega
        have nLB:¬ w.heap.size=w5.heap.size:=by have:=hBA.out; have:=hLA.out; omega
        have nCA:¬ w7.heap.size=w1.heap.size:=by have:=hBA.out; have:=hCB.out; omega
        have nAC:¬ w1.heap.size=w7.heap.size:=by omega
        have nCB:¬ w7.heap.size=w5.heap.size:=by have:=hCB.out; omega
        have nBC:¬ w5.heap.size=w7.heap.size:=by omega
        obtain ⟨a0,a1,a2,a3,a4,a5,a6,az⟩:=tm_cells (hK7.out.nth (i:=4) rfl); have az0:=az 0; have az1:=az 1; have az2:=az 2; have az3:=az 3; have az4:=az 4; have az5:=az 5; have az6:=az 6; clear az; obtain ⟨b0,b1,b2,b3,b4,b5,b6,bz⟩:=tm_cells (hK7.out.nth (i:=1) rfl); have bz0:=bz 0; have bz1:=bz 1; have bz2:=bz 2; have bz3:=bz 3; have bz4:=bz 4; have bz5:=bz 5; have bz6:=bz 6; clear bz; obtain ⟨c0,c1,c2,c3,c4,c5,c6,cz⟩:=tm_cells (hK7.out.nth (i:=0) rfl); have cz0:=cz 0; have cz1:=cz 1; have cz2:=cz 2; have cz3:=cz 3; have cz4:=cz 4; have cz5:=cz 5; have cz6:=cz 6; clear cz; have hsz7:=hK7.out.fr.size
        have hKz:=hid (hK7.out.alloc (.cells #[sv a.var,iv a.val.kind,sv a.val.t,iv a.val.n,iv a.val.m,sv a.val.s,.slice none 0 0,sv b.var,iv b.val.kind,sv b.val.t,iv b.val.n,iv b.val.m,sv b.val.s,.slice none 0 0,sv c.var,iv c.val.kind,sv c.val.t,iv c.val.n,iv c.val.m,sv c.val.s,.slice none 0 0] 63)); have hLz:=hKz.out.nth (i:=6) (b:=w.heap.size) (o:=.cells (lcells 0 false [] (.slice none 0 0)) 24 (0,0)) rfl; obtain ⟨q0,q1,q2,q3,fz⟩:=lt_cells (hLz); have fz0:=fz 0; have fz1:=fz 1; have fz2:=fz 2; have fz3:=fz 3; clear fz; obtain ⟨bz,hbz⟩:∃ bz,bz=w7.heap.size+1:=⟨_,rfl⟩
        have hrz:=hid (show ((w7.alloc (.cells (fcells c) 63)).alloc (.cells #[sv a.var,iv a.val.kind,sv a.val.t,iv a.val.n,iv a.val.m,sv a.val.s,.slice none 0 0,sv b.var,iv b.val.kind,sv b.val.t,iv b.val.n,iv b.val.m,sv b.val.s,.slice none 0 0,sv c.var,iv c.val.kind,sv c.val.t,iv c.val.n,iv c.val.m,sv c.val.s,.slice none 0 0] 63)).heap[bz]? = some (.cells (tmRow [a,b,c]).toArray 63 (0,0)) from by
         rw [hbz,show w7.heap.size+1=(w7.alloc (.cells (fcells c) 63)).heap.size from by simp [World.setCell]]
         exact heap_alloc_new' _ _)
        replace hLz:=hid hLz; replace hbz:=hid hbz
        go_wp2_with fail
        rw [show w7.heap.size+1=bz from hbz.out.symm]; obtain ⟨hp,hf,hr⟩:=hKz.out.finLt hLz.out 5 false [] (.slice (some ⟨bz,0,none⟩) 3 3); refine bodyPost_ret (v:=.tuple #[.agg (lcells 5 false [] (.slice (some ⟨bz,0,none⟩) 3 3)),.bool true]) (results_lit (by rfl) _ _ w.heap.size 5 false [] (.slice (some ⟨bz,0,none⟩) 3 3) true (by rfl) (by rfl) hr) rfl ⟨by rw [hR.out]; exact hp,hf,?_⟩; rw [hR.out]; have hbz':=hbz.out; exact ⟨_,_,rfl,own_tms (l:=[a,b,c]) ((lt_other (by have:=hLA.out; have:=hBA.out; have:=hCB.out; omega)).trans hrz.out) (by show 3≤maxLen; decide) (by unfold from_; have:=hLA.out; have:=hBA.out; have:=hCB.out; omega)⟩
      | false =>
       replace hKw6:=hid (show Kp pb K s5 w w6 _ from hKw6.out); obtain ⟨z45,hz45⟩:∃ z,isP K.ts (s5) 4 [45]=z:=⟨_,rfl⟩; have hmk45:=hid (pmark_any pb K (s5) [45] w6 hKw6.out.pm)
       have hT45:takeP K.ts (s5) 4 [45]=if z45 then (true,nextP (s5)) else (false,(s5)):=by unfold takeP; rw [hz45]
       rw [hT45] at hmk45; clear hT45; replace hz45:=hid hz45; replace hR:=hid (show R=if z45=true then addE true a b (termP K.ts (nextP s5)) else (some (if sw then compareF 1 b a else compareF 1 a b),s5) from by rw [← hz45.out]; exact hR.out)
       go_wp2_with fail
       with_reducible refine hmk45.out.mono ?_
       rintro e w8 ⟨rfl,hM45,hf45⟩; have hKw8:=hid (hKw6.out.call hM45 hf45); clear hmk45 hM45 hf45
       cases z45 with
       | true =>
        replace hR:=hid (show R=addE true a b (termP K.ts (nextP s5)) from hR.out); replace hKw8:=hid (show Kp pb K (nextP s5) w w8 _ from hKw8.out); obtain ⟨ro7,hro7⟩:∃ ro,ro=termP K.ts (nextP s5):=⟨_,rfl⟩; have hte:=hid (term_x pb K (nextP s5) w8 hKw8.out.pm); rw [← hro7] at hte; replace hR:=hR.out; rw [← hro7] at hR; replace hR:=hid hR; replace hro7:=hid hro7; obtain ⟨ot7,s7⟩:=ro7; replace hte:=hid (show Calls Tryz.prog 98 #[pt pb] w8 fun e w'=>∃ x:Tm,e=.returned (.tuple #[.agg (fcells x),.bool ot7.isSome])∧(∀ t,ot7=some t→t=x)∧PM pb K s7 w'∧Fr (one pb) w8 w' from hte.out)
        go_wp2_with fail
        with_reducible refine hte.out.mono ?_
        rintro e w7 ⟨c,rfl,hx7,hM7,hf7⟩; have hK7:=hid ((hKw8.out.call hM7 hf7).alloc (.cells (fcells c) 63)); have hl7:=hf7.size; replace hx7:=hid hx7; clear hte hM7 hf7; have hCB:=hid (show w5.heap.size < w7.heap.size from Nat.lt_of_lt_of_le (lt_of_heap (hKw8.out.nth (i:=0) rfl)) hl7)
        cases ot7 with
        | none =>
         replace hR:=hid (show R=(none,s7) from hR.out); obtain ⟨q0,q1,q2,q3,fz⟩:=lt_cells (hK7.out.nth (i:=5) rfl); have fz0:=fz 0; have fz1:=fz 1; have fz2:=fz 2; have fz3:=fz 3; clear fz
         go_wp2_with fail
         obtain ⟨hp,hf,hr⟩:=hK7.out.finLt (hK7.out.nth (i:=5) rfl) 0 false [] (.slice none 0 0); refine bodyPost_ret (v:=.tuple #[.agg (lcells 0 false [] (.slice none 0 0)),.bool false]) (results_lit (by rfl) _ _ w.heap.size 0 false [] (.slice none 0 0) false (by rfl) (by rfl) hr) rfl ⟨by rw [hR.out]; exact hp,hf,?_⟩; rw [hR.out]; exact ⟨0,false,[],none,0,0,rfl⟩
        | some c0 =>
         have hxc:c=c0:=(hx7.out c0 rfl).symm; subst hxc; replace hR:=hid (show R=(some ⟨5,false,[],[b,a,c]⟩,s7) from hR.out)
         have nBA:¬ w5.heap.size=w1.heap.size:=by have:=hBA.out; omega
         have nAB:¬ w1.heap.size=w5.heap.size:=by have:=hBA.out; omega
         have nLA:¬ w.heap.size=w1.heap.size:=by have:=hLA.out; omega
         have nLB:¬ w.heap.size=w5.heap.size:=by have:=hBA.out; have:=hLA.out; omega
         have nCA:¬ w7.heap.size=w1.heap.size:=by have:=hBA.out; have:=hCB.out; omega
         have nAC:¬ w1.heap.size=w7.heap.size:=by omega
         have nCB:¬ w7.heap.size=w5.heap.size:=by have:=hCB.out; omega
         have nBC:¬ w5.heap.size=w7.heap.size:=by omega
         obtain ⟨a0,a1,a2,a3,a4,a5,a6,az⟩:=tm_cells (hK7.out.nth (i:=4) rfl); have az0:=az 0; have az1:=az 1; have az2:=az 2; have az3:=az 3; have az4:=az 4; have az5:=az 5; have az6:=az 6; clear az; obtain ⟨b0,b1,b2,b3,b4,b5,b6,bz⟩:=tm_cells (hK7.out.nth (i:=1) rfl); have bz0:=bz 0; have bz1:=bz 1; have bz2:=bz 2; have bz3:=bz 3; have bz4:=bz 4; have bz5:=bz 5; have bz6:=bz 6; clear bz; obtain ⟨c0,c1,c2,c3,c4,c5,c6,cz⟩:=tm_cells (hK7.out.nth (i:=0) rfl); have cz0:=cz 0; have cz1:=cz 1; have cz2:=cz 2; have cz3:=cz 3; have cz4:=cz 4; have cz5:=cz 5; have cz6:=cz 6; clear cz; have hsz7:=hK7.out.fr.size; have hA1:=tm_set (hK7.out.nth (i:=4) rfl) b; have hB1:=tm_set ((tm_other (t:=b) nBA).trans (hK7.out.nth (i:=1) rfl)) a; have hA2:=(tm_other (t:=a) nAB).trans hA1
         have hL2:=(tm_other (t:=a) nLB).trans ((tm_other (t:=b) nLA).trans (hK7.out.nth (i:=5) rfl)); have hK2:=hid (((hK7.out.sub (rows':=[]) (fun r hr=>by simp at hr)).turn (hK7.out.geN (i:=4) rfl) (fr_one_setTm b) hA1).turn (hK7.out.geN (i:=1) rfl) (fr_one_setTm a) hB1); have hC2:=(tm_other (t:=a) nCB).trans ((tm_other (t:=b) nCA).trans (hK7.out.nth (i:=0) rfl)); have hKz:=hid (hK2.out.alloc (.cells #[sv b.var,iv b.val.kind,sv b.val.t,iv b.val.n,iv b.val.m,sv b.val.s,.slice none 0 0,sv a.var,iv a.val.kind,sv a.val.t,iv a.val.n,iv a.val.m,sv a.val.s,.slice none 0 0,sv c.var,iv c.val.kind,sv c.val.t,iv c.val.n,iv c.val.m,sv c.val.s,.slice none 0 0] 63))
         have hLz:=(Below.heap_alloc _ (.cells #[sv b.var,iv b.val.kind,sv b.val.t,iv b.val.n,iv b.val.m,sv b.val.s,.slice none 0 0,sv a.var,iv a.val.kind,sv a.val.t,iv a.val.n,iv a.val.m,sv a.val.s,.slice none 0 0,sv c.var,iv c.val.kind,sv c.val.t,iv c.val.n,iv c.val.m,sv c.val.s,.slice none 0 0] 63) _ (lt_of_heap hL2)).trans hL2; obtain ⟨k0,k1,k2,k3,k4,k5,k6,kz⟩:=tm_cells (hA2); clear kz; obtain ⟨l0,l1,l2,l3,l4,l5,l6,lz⟩:=tm_cells (hB1); clear lz; obtain ⟨m0,m1,m2,m3,m4,m5,m6,mz⟩:=tm_cells (hC2); clear mz; obtain ⟨q0,q1,q2,q3,fz⟩:=lt_cells (hLz); have fz0:=fz 0; have fz1:=fz 1; have fz2:=fz 2; have fz3:=fz 3; clear fz; obtain ⟨bz,hbz⟩:∃ bz,bz=w7.heap.size+1:=⟨_,rfl⟩
         have hrz:=hid (show ((setTm (setTm (w7.alloc (.cells (fcells c) 63)) w1.heap.size b) w5.heap.size a).alloc (.cells #[sv b.var,iv b.val.kind,sv b.val.t,iv b.val.n,iv b.val.m,sv b.val.s,.slice none 0 0,sv a.var,iv a.val.kind,sv a.val.t,iv a.val.n,iv a.val.m,sv a.val.s,.slice none 0 0,sv c.var,iv c.val.kind,sv c.val.t,iv c.val.n,iv c.val.m,sv c.val.s,.slice none 0 0] 63)).heap[bz]? = some (.cells (tmRow [b,a,c]).toArray 63 (0,0)) from by
          rw [hbz,show w7.heap.size+1=(setTm (setTm (w7.alloc (.cells (fcells c) 63)) w1.heap.size b) w5.heap.size a).heap.size from by simp [World.setCell]]
          exact heap_alloc_new' _ _)
         replace hLz:=hid hLz; replace hbz:=hid hbz
         go_wp2_with fail
         rw [show w7.heap.size+1=bz from hbz.out.symm]; obtain ⟨hp,hf,hr⟩:=hKz.out.finLt hLz.out 5 false [] (.slice (some ⟨bz,0,none⟩) 3 3); refine bodyPost_ret (v:=.tuple #[.agg (lcells 5 false [] (.slice (some ⟨bz,0,none⟩) 3 3)),.bool true]) (results_lit (by rfl) _ _ w.heap.size 5 false [] (.slice (some ⟨bz,0,none⟩) 3 3) true (by rfl) (by rfl) hr) rfl ⟨by rw [hR.out]; exact hp,hf,?_⟩; rw [hR.out]; have hbz':=hbz.out; exact ⟨_,_,rfl,own_tms (l:=[b,a,c]) ((lt_other (by have:=hLA.out; have:=hBA.out; have:=hCB.out; omega)).trans hrz.out) (by show 3≤maxLen; decide) (by unfold from_; have:=hLA.out; have:=hBA.out; have:=hCB.out; omega)⟩
       | false =>
        replace hR:=hid (show R=(some (if sw then compareF 1 b a else compareF 1 a b),s5) from hR.out); replace hKw8:=hid (show Kp pb K s5 w w8 _ from hKw8.out)
        have nBA:¬ w5.heap.size=w1.heap.size:=by have:=hBA.out; omega
        have nAB:¬ w1.heap.size=w5.heap.size:=by have:=hBA.out; omega
        have nLA:¬ w.heap.size=w1.heap.size:=by have:=hLA.out; omega
        have nLB:¬ w.heap.size=w5.heap.size:=by have:=hBA.out; have:=hLA.out; omega
        obtain ⟨a0,a1,a2,a3,a4,a5,a6,az⟩:=tm_cells (hKw8.out.nth (i:=3) rfl); have az0:=az 0; have az1:=az 1; have az2:=az 2; have az3:=az 3; have az4:=az 4; have az5:=az 5; have az6:=az 6; clear az; obtain ⟨b0,b1,b2,b3,b4,b5,b6,bz⟩:=tm_cells (hKw8.out.nth (i:=0) rfl); have bz0:=bz 0; have bz1:=bz 1; have bz2:=bz 2; have bz3:=bz 3; have bz4:=bz 4; have bz5:=bz 5; have bz6:=bz 6; clear bz; have o0:w8.cell? ⟨w2.heap.size+1,0,none⟩=some (iv 1):=(cell_of (i:=0) (hKw8.out.nth (i:=1) rfl)).trans rfl; have o1:w8.cell? ⟨w2.heap.size+1,1,none⟩=some (.bool sw):=(cell_of (i:=1) (hKw8.out.nth (i:=1) rfl)).trans rfl
        cases sw with
        | true =>
         replace hR:=hid (show R=(some (compareF 1 b a),s5) from hR.out); have hA1:=tm_set (hKw8.out.nth (i:=3) rfl) b; have hB1:=tm_set ((tm_other (t:=b) nBA).trans (hKw8.out.nth (i:=0) rfl)) a; have hA2:=(tm_other (t:=a) nAB).trans hA1; have hL2:=(tm_other (t:=a) nLB).trans ((tm_other (t:=b) nLA).trans (hKw8.out.nth (i:=4) rfl)); have hK2:=hid (((hKw8.out.sub (rows':=[]) (fun r hr=>by simp at hr)).turn (hKw8.out.geN (i:=3) rfl) (fr_one_setTm b) hA1).turn (hKw8.out.geN (i:=0) rfl) (fr_one_setTm a) hB1); obtain ⟨k0,k1,k2,k3,k4,k5,k6,kz⟩:=tm_cells (hA2); clear kz; obtain ⟨l0,l1,l2,l3,l4,l5,l6,lz⟩:=tm_cells (hB1); clear lz; have hcm:=hid (compare_any 1 b a (setTm (setTm w8 w1.heap.size b) w5.heap.size a))
         have hoo2:(setTm (setTm w8 w1.heap.size b) w5.heap.size a).heap[w2.heap.size+1]? = some (.cells (opcells (1,true)) 185 (0,0)):=(tm_other (t:=a) (show ¬ w2.heap.size+1=w5.heap.size from by have:=hBo.out; omega)).trans ((tm_other (t:=b) (show ¬ w2.heap.size+1=w1.heap.size from by have:=hs2.out; omega)).trans (hKw8.out.nth (i:=1) rfl)); have oo0:(setTm (setTm w8 w1.heap.size b) w5.heap.size a).cell? ⟨w2.heap.size+1,0,none⟩=some (iv 1):=(cell_of (i:=0) hoo2).trans rfl; replace hoo2:=hid hoo2; replace hA1:=hid hA1; replace hB1:=hid hB1; replace hA2:=hid hA2; replace hL2:=hid hL2
         go_wp2_with fail
         with_reducible refine hcm.out.mono ?_
         intro e w9 hP; obtain ⟨a',c',rfl,hO,hb⟩:=PL1.open hP; clear hP hcm; have hK9:=hid (hK2.out.below hb); have hL9:Hid (w9.heap[w.heap.size]? = some (.cells (lcells 0 false [] (.slice none 0 0)) 24 (0,0))):=hid (below_keep hb hL2.out (lt_of_heap hL2.out)); have hs9:=hK2.out.fr.size; replace hO:=hid hO; clear hb; obtain ⟨q0,q1,q2,q3,fz⟩:=lt_cells (hL9.out); have fz0:=fz 0; have fz1:=fz 1; have fz2:=fz 2; have fz3:=fz 3; clear fz
         go_wp2_with fail
         obtain ⟨hp,hf,hr⟩:=hK9.out.finLt hL9.out 1 false [] (.slice a' 2 c'); refine bodyPost_ret (v:=.tuple #[.agg (lcells 1 false [] (.slice a' 2 c')),.bool true]) (results_lit (by rfl) _ _ w.heap.size 1 false [] (.slice a' 2 c') true (by rfl) (by rfl) hr) rfl ⟨by rw [hR.out]; exact hp,hf,?_⟩; rw [hR.out]; exact ⟨a',c',rfl,hO.out.move goodFl fun k hk hk2=>⟨Nat.le_trans hs9 hk2,lt_other (fun e=>by have hLW:=lt_of_heap hL2.out; unfold from_ at hk2; omega)⟩⟩
        | false =>
         replace hR:=hid (show R=(some (compareF 1 a b),s5) from hR.out); have hcm:=hid (compare_any 1 a b w8); have hL2:=hid (hKw8.out.nth (i:=4) (b:=w.heap.size) (o:=.cells (lcells 0 false [] (.slice none 0 0)) 24 (0,0)) rfl)
         go_wp2_with fail
         with_reducible refine hcm.out.mono ?_
         intro e w9 hP; obtain ⟨a',c',rfl,hO,hb⟩:=PL1.open hP; clear hP hcm; have hK9:=hid (hKw8.out.below hb); have hL9:Hid (w9.heap[w.heap.size]? = some (.cells (lcells 0 false [] (.slice none 0 0)) 24 (0,0))):=hid (below_keep hb hL2.out (lt_of_heap hL2.out)); have hs9:=hKw8.out.fr.size; replace hO:=hid hO; clear hb; obtain ⟨q0,q1,q2,q3,fz⟩:=lt_cells (hL9.out); have fz0:=fz 0; have fz1:=fz 1; have fz2:=fz 2; have fz3:=fz 3; clear fz
         go_wp2_with fail
         obtain ⟨hp,hf,hr⟩:=hK9.out.finLt hL9.out 1 false [] (.slice a' 2 c'); refine bodyPost_ret (v:=.tuple #[.agg (lcells 1 false [] (.slice a' 2 c')),.bool true]) (results_lit (by rfl) _ _ w.heap.size 1 false [] (.slice a' 2 c') true (by rfl) (by rfl) hr) rfl ⟨by rw [hR.out]; exact hp,hf,?_⟩; rw [hR.out]; exact ⟨a',c',rfl,hO.out.move goodFl fun k hk hk2=>⟨Nat.le_trans hs9 hk2,lt_other (fun e=>by have hLW:=lt_of_heap hL2.out; unfold from_ at hk2; omega)⟩⟩
     ·have b13:(op == 1)=false:=by simpa using hop
      replace hR:=hid (show R=(some (if sw then compareF op b a else compareF op a b),s5) from by rw [hR.out]; show (if op=1∧_ then _ else if op=1∧_ then _ else _)=_; rw [if_neg (fun e=>hop e.1),if_neg (fun e=>hop e.1)]); replace hop:=hid hop
      have nBA:¬ w5.heap.size=w1.heap.size:=by have:=hBA.out; omega
      have nAB:¬ w1.heap.size=w5.heap.size:=by have:=hBA.out; omega
      have nLA:¬ w.heap.size=w1.heap.size:=by have:=hLA.out; omega
      have nLB:¬ w.heap.size=w5.heap.size:=by have:=hBA.out; have:=hLA.out; omega
      obtain ⟨a0,a1,a2,a3,a4,a5,a6,az⟩:=tm_cells (hK5.out.nth (i:=3) rfl); have az0:=az 0; have az1:=az 1; have az2:=az 2; have az3:=az 3; have az4:=az 4; have az5:=az 5; have az6:=az 6; clear az; obtain ⟨b0,b1,b2,b3,b4,b5,b6,bz⟩:=tm_cells (hK5.out.nth (i:=0) rfl); have bz0:=bz 0; have bz1:=bz 1; have bz2:=bz 2; have bz3:=bz 3; have bz4:=bz 4; have bz5:=bz 5; have bz6:=bz 6; clear bz; have o0:(w5.alloc (.cells (fcells b) 63)).cell? ⟨w2.heap.size+1,0,none⟩=some (iv op):=(cell_of (i:=0) (hK5.out.nth (i:=1) rfl)).trans rfl; have o1:(w5.alloc (.cells (fcells b) 63)).cell? ⟨w2.heap.size+1,1,none⟩=some (.bool sw):=(cell_of (i:=1) (hK5.out.nth (i:=1) rfl)).trans rfl
      cases sw with
      | true =>
       replace hR:=hid (show R=(some (compareF op b a),s5) from hR.out); have hA1:=tm_set (hK5.out.nth (i:=3) rfl) b; have hB1:=tm_set ((tm_other (t:=b) nBA).trans (hK5.out.nth (i:=0) rfl)) a; have hA2:=(tm_other (t:=a) nAB).trans hA1; have hL2:=(tm_other (t:=a) nLB).trans ((tm_other (t:=b) nLA).trans (hK5.out.nth (i:=4) rfl)); have hK2:=hid (((hK5.out.sub (rows':=[]) (fun r hr=>by simp at hr)).turn (hK5.out.geN (i:=3) rfl) (fr_one_setTm b) hA1).turn (hK5.out.geN (i:=0) rfl) (fr_one_setTm a) hB1); obtain ⟨k0,k1,k2,k3,k4,k5,k6,kz⟩:=tm_cells (hA2); clear kz; obtain ⟨l0,l1,l2,l3,l4,l5,l6,lz⟩:=tm_cells (hB1); clear lz; have hcm:=hid (compare_any op b a (setTm (setTm (w5.alloc (.cells (fcells b) 63)) w1.heap.size b) w5.heap.size a))
       have hoo2:(setTm (setTm (w5.alloc (.cells (fcells b) 63)) w1.heap.size b) w5.heap.size a).heap[w2.heap.size+1]? = some (.cells (opcells (op,true)) 185 (0,0)):=(tm_other (t:=a) (show ¬ w2.heap.size+1=w5.heap.size from by have:=hBo.out; omega)).trans ((tm_other (t:=b) (show ¬ w2.heap.size+1=w1.heap.size from by have:=hs2.out; omega)).trans (hK5.out.nth (i:=1) rfl)); have oo0:(setTm (setTm (w5.alloc (.cells (fcells b) 63)) w1.heap.size b) w5.heap.size a).cell? ⟨w2.heap.size+1,0,none⟩=some (iv op):=(cell_of (i:=0) hoo2).trans rfl; replace hoo2:=hid hoo2; replace hA1:=hid hA1; replace hB1:=hid hB1; replace hA2:=hid hA2; replace hL2:=hid hL2
       go_wp2_with fail
       with_reducible refine hcm.out.mono ?_
       intro e w9 hP; obtain ⟨a',c',rfl,hO,hb⟩:=PL1.open hP; clear hP hcm; have hK9:=hid (hK2.out.below hb); have hL9:Hid (w9.heap[w.heap.size]? = some (.cells (lcells 0 false [] (.slice none 0 0)) 24 (0,0))):=hid (below_keep hb hL2.out (lt_of_heap hL2.out)); have hs9:=hK2.out.fr.size; replace hO:=hid hO; clear hb; obtain ⟨q0,q1,q2,q3,fz⟩:=lt_cells (hL9.out); have fz0:=fz 0; have fz1:=fz 1; have fz2:=fz 2; have fz3:=fz 3; clear fz
       go_wp2_with fail
       obtain ⟨hp,hf,hr⟩:=hK9.out.finLt hL9.out op false [] (.slice a' 2 c'); refine bodyPost_ret (v:=.tuple #[.agg (lcells op false [] (.slice a' 2 c')),.bool true]) (results_lit (by rfl) _ _ w.heap.size op false [] (.slice a' 2 c') true (by rfl) (by rfl) hr) rfl ⟨by rw [hR.out]; exact hp,hf,?_⟩; rw [hR.out]; exact ⟨a',c',rfl,hO.out.move goodFl fun k hk hk2=>⟨Nat.le_trans hs9 hk2,lt_other (fun e=>by have hLW:=lt_of_heap hL2.out; unfold from_ at hk2; omega)⟩⟩
      | false =>
       replace hR:=hid (show R=(some (compareF op a b),s5) from hR.out); have hcm:=hid (compare_any op a b (w5.alloc (.cells (fcells b) 63))); have hL2:=hid (hK5.out.nth (i:=4) (b:=w.heap.size) (o:=.cells (lcells 0 false [] (.slice none 0 0)) 24 (0,0)) rfl)
       go_wp2_with fail
       with_reducible refine hcm.out.mono ?_
       intro e w9 hP; obtain ⟨a',c',rfl,hO,hb⟩:=PL1.open hP; clear hP hcm; have hK9:=hid (hK5.out.below hb); have hL9:Hid (w9.heap[w.heap.size]? = some (.cells (lcells 0 false [] (.slice none 0 0)) 24 (0,0))):=hid (below_keep hb hL2.out (lt_of_heap hL2.out)); have hs9:=hK5.out.fr.size; replace hO:=hid hO; clear hb; obtain ⟨q0,q1,q2,q3,fz⟩:=lt_cells (hL9.out); have fz0:=fz 0; have fz1:=fz 1; have fz2:=fz 2; have fz3:=fz 3; clear fz
       go_wp2_with fail
       obtain ⟨hp,hf,hr⟩:=hK9.out.finLt hL9.out op false [] (.slice a' 2 c'); refine bodyPost_ret (v:=.tuple #[.agg (lcells op false [] (.slice a' 2 c')),.bool true]) (results_lit (by rfl) _ _ w.heap.size op false [] (.slice a' 2 c') true (by rfl) (by rfl) hr) rfl ⟨by rw [hR.out]; exact hp,hf,?_⟩; rw [hR.out]; exact ⟨a',c',rfl,hO.out.move goodFl fun k hk hk2=>⟨Nat.le_trans hs9 hk2,lt_other (fun e=>by have hLW:=lt_of_heap hL2.out; unfold from_ at hk2; omega)⟩⟩
  ·have bk:(t.kind != 4)=true:=by simpa using hk4
   replace hR:=hid (hR.out.trans (if_neg hk4)); replace hk4:=hid hk4; have hfl:=hid (fail_any pb K _ _ hKo.out.pm)
   go_wp2_with fail
   with_reducible refine hfl.out.mono ?_
   rintro e w3 ⟨rfl,hM3,hf3⟩; have hKf:=hid (hKo.out.call hM3 hf3); clear hM3 hf3 hfl; obtain ⟨q0,q1,q2,q3,fz⟩:=lt_cells (hKf.out.nth (i:=3) rfl); have fz0:=fz 0; have fz1:=fz 1; have fz2:=fz 2; have fz3:=fz 3; clear fz
   go_wp2_with fail
   obtain ⟨hp,hf,hr⟩:=hKf.out.finLt (hKf.out.nth (i:=3) rfl) 0 false [] (.slice none 0 0); refine bodyPost_ret (v:=.tuple #[.agg (lcells 0 false [] (.slice none 0 0)),.bool false]) (results_lit (by rfl) _ _ w.heap.size 0 false [] (.slice none 0 0) false (by rfl) (by rfl) hr) rfl ⟨by rw [hR.out]; exact hp,hf,?_⟩; rw [hR.out]; exact ⟨0,false,[],none,0,0,rfl⟩
end Go.Proofs.YtffdpoifdahadaaGreatDoor
namespace Go.Proofs.YtffdpoifdahadaaGreatDoor
open Go.RowKit
open Go.Lib (hid itoa)
/-- a literal in memory; its first part: the block of its arguments -/
def LdR:Rel (Option Nat × Lt):=fun S w x cs=>∃ v,cs=(lcells x.2.op x.2.nt x.2.rel v).toList∧v.ownBlock=x.1∧OwnR 63 7 FlR S w x.2.args v
theorem own_one {α:Type} {E:TypeId} {sz:Nat} {R:Rel α} {S:Foot} {w:World} {l:List α} {v:Value} (h:OwnR E sz R S w l v):v.oneCell'=true:=by
 obtain ⟨a,c,rfl,-⟩:=h.slice; rfl
theorem goodLd:Good 4 LdR:=by
 refine ⟨fun h=>by obtain ⟨v,rfl,-⟩:=h; rfl,fun h u hu=>?_,fun h hm=>?_⟩
 ·obtain ⟨v,rfl,-,ho⟩:=h
  simp at hu; rcases hu with rfl | rfl | rfl | rfl
  ·rfl
  ·rfl
  ·rfl
  ·exact own_one ho
 ·obtain ⟨v,rfl,h1,ho⟩:=h
  exact ⟨v,rfl,h1,ho.move goodFl hm⟩
/-- the blocks of literals -/
def idsL (l:List (Option Nat × Lt)):List Nat:=l.filterMap (·.1)
theorem fl_tight {S:Foot} {w:World} {l:List Tm} {v:Value} (h:OwnR 63 7 FlR S w l v):OwnR 63 7 FlR (fun q=>S q∧v.ownBlock=some q) w l v:=by
 obtain ⟨xs,h1,h2,h3⟩:=h; exact ⟨xs,h1,fun k hk=>⟨h2 k hk,hk⟩,fun i x hx=>by obtain ⟨cs,h4,h5⟩:=h3 i x hx; exact ⟨cs,h4,h5⟩⟩
theorem ld_tight {S:Foot} {w:World} {x:Option Nat × Lt} {cs:List Value} (h:LdR S w x cs):LdR (fun q=>S q∧x.1=some q) w x cs:=by
 obtain ⟨v,rfl,h1,ho⟩:=h; exact ⟨v,rfl,h1,h1 ▸ fl_tight ho⟩
theorem mem_idsL {l:List (Option Nat × Lt)} {i:Nat} {x:Option Nat × Lt} {q:Nat} (hi:l[i]? = some x) (hq:x.1=some q):q∈idsL l:=List.mem_filterMap.2 ⟨x,List.mem_of_getElem? hi,hq⟩
/-- a row of literals keeps to its own block and its literals' -/
theorem lds_tight {S:Foot} {w:World} {l:List (Option Nat × Lt)} {v:Value} (h:OwnR 24 4 LdR S w l v):OwnR 24 4 LdR (fun q=>S q∧(v.ownBlock=some q∨q∈idsL l)) w l v:=by
 obtain ⟨xs,h1,h2,h3⟩:=h; refine ⟨xs,h1,fun k hk=>⟨h2 k hk,Or.inl hk⟩,fun i x hx=>?_⟩; obtain ⟨cs,h4,h5⟩:=h3 i x hx; exact ⟨cs,h4,goodLd.mono (ld_tight h5) fun k _ hk=>⟨⟨hk.1.1,Or.inr (mem_idsL hx hk.2)⟩,hk.1.2⟩⟩
/-- a rule in memory, with its blocks -/
structure RuD where
 head:Option Nat × Lt
 agg:Int
 at_:Int
 bb:Option Nat
 body:List (Option Nat × Lt)
def RuD.ru (r:RuD):Ru:=⟨r.head.2,r.agg,r.at_,r.body.map (·.2)⟩
def RuD.ids (r:RuD):List Nat:=r.head.1.toList++(r.bb.toList++idsL r.body)
abbrev rucells (op:Int) (nt:Bool) (rel:List UInt8) (hv:Value) (agg at_:Int) (bv:Value):Array Value:=#[iv op,.bool nt,sv rel,hv,iv agg,iv at_,bv]
def RuR:Rel RuD:=fun S w x cs=>∃ hv bv,cs=(rucells x.head.2.op x.head.2.nt x.head.2.rel hv x.agg x.at_ bv).toList∧hv.ownBlock=x.head.1∧OwnR 63 7 FlR S w x.head.2.args hv∧bv.ownBlock=x.bb∧OwnR 24 4 LdR S w x.body bv
theorem goodRu:Good 7 RuR:=by
 refine ⟨fun h=>by obtain ⟨v,b,rfl,-⟩:=h; rfl,fun h u hu=>?_,fun h hm=>?_⟩
 ·obtain ⟨v,b,rfl,-,ho,-,hb⟩:=h
  simp at hu; rcases hu with rfl | rfl | rfl | rfl | rfl | rfl | rfl
  ·rfl
  ·rfl
  ·rfl
  ·exact own_one ho
  ·rfl
  ·rfl
  ·exact own_one hb
 ·obtain ⟨v,b,rfl,h1,ho,h2,hb⟩:=h
  exact ⟨v,b,rfl,h1,ho.move goodFl hm,h2,hb.move goodLd hm⟩
theorem ru_tight {S:Foot} {w:World} {x:RuD} {cs:List Value} (h:RuR S w x cs):RuR (fun q=>S q∧q∈x.ids) w x cs:=by
 obtain ⟨v,b,rfl,h1,ho,h2,hb⟩:=h; refine ⟨v,b,rfl,h1,(fl_tight ho).mono goodFl fun k _ hk=>⟨hk.1,?_⟩,h2,(lds_tight hb).mono goodLd fun k _ hk=>⟨hk.1,?_⟩⟩
 ·unfold RuD.ids; rw [← h1,hk.2]; simp
 ·unfold RuD.ids
  rcases hk.2 with e | e
  ·rw [← h2,e]; simp
  ·simp [e]
theorem infoLit:(Tryz.prog.info? 24).map (fun i=>(i.zero,i.size,i.bytes))=some (some (.agg (lcells 0 false [] (.slice none 0 0))),4,56):=by kernel_rfl
theorem infoRule:(Tryz.prog.info? 27).map (fun i=>(i.zero,i.size,i.bytes))=some (some (.agg (rucells 0 false [] (.slice none 0 0) 0 0 (.slice none 0 0))),7,96):=by kernel_rfl
/-- a row made at once -/
theorem own_build {α:Type} {E:TypeId} {sz:Nat} {R:Rel α} {S:Foot} {w:World} {b n:Nat} {l:List α} {xs:List Value} (hR:Good sz R) (h:w.heap[b]? = some (.cells xs.toArray E (0,0))) (hn:l.length=n) (hx:xs.length=n * sz) (hl:n≤maxLen) (hS:S b)
  (he:∀ i x,l[i]? = some x→∃ cs,(∀ j u,cs[j]? = some u→xs[i * sz+j]? = some u)∧R (fun q=>S q∧q≠b) w x cs):OwnR E sz R S w l (.slice (some ⟨b,0,none⟩) n n):=by
 subst hn; refine ⟨xs,⟨hx,Or.inr ⟨b,l.length,_,rfl,Nat.zero_le _,h,Nat.le_refl _,hl,by simp; omega,by rw [← hx]; simp⟩⟩,fun k hk=>by simp [Value.ownBlock] at hk; exact hk ▸ hS,fun i x hx=>?_⟩; obtain ⟨cs,h1,h2⟩:=he i x hx; exact ⟨cs,h1,hR.mono h2 fun k _ hk=>⟨hk.1,fun e=>hk.2 (by simp [Value.ownBlock] at e; exact e.symm)⟩⟩
/-- a row as the source of an append -/
theorem sl_row {α:Type} {sz:Nat} {R:Rel α} {S:Foot} {w:World} {l:List α} {v:Value} (hR:Good sz R) (hsz:0 < sz) (h:SlR sz R S w l v) :
  ∃ news,Row w.heap.size w sz v l.length news∧(∀ u∈news,u.oneCell'=true)∧∀ i x,l[i]? = some x→∃ cs,(∀ j u,cs[j]? = some u→news[i * sz+j]? = some u)∧R S w x cs:=by
 obtain ⟨a,cap,b,off,cs,rfl,hc,hn,hcell,hx⟩:=h
 have hlen:∀ i,i < l.length→(cs i).length=sz:=fun i hi=>hR.len (hx i _ (List.getElem?_eq_getElem hi))
 refine ⟨(List.range l.length).flatMap cs,?_⟩
 have hgen:∀ n,n≤l.length→((List.range n).flatMap cs).length=n * sz∧∀ i,i < n→∀ j u,(cs i)[j]? = some u→((List.range n).flatMap cs)[i * sz+j]? = some u:=by
  intro n
  induction n with
  | zero=>intro _; exact ⟨by simp,fun i hi=>absurd hi (by omega)⟩
  | succ n ih =>
   intro hle; obtain ⟨h1,h2⟩:=ih (by omega)
   have e:(List.range (n+1)).flatMap cs=(List.range n).flatMap cs++cs n:=by rw [List.range_succ,List.flatMap_append]; simp
   rw [e]; refine ⟨by rw [List.length_append,h1,hlen n (by omega),Nat.succ_mul],fun i hi j u hu=>?_⟩; by_cases hin:i < n
   ·have:=h2 i hin j u hu
    rw [List.getElem?_append_left (List.getElem?_eq_some_iff.1 this).1]; exact this
   ·have:i=n:=by omega
    subst this; rw [List.getElem?_append_right (by omega),h1,Nat.add_sub_cancel_left]; exact hu
 obtain ⟨h1,h2⟩:=hgen l.length (Nat.le_refl _); refine ⟨⟨a,cap,b,off,rfl,h1,fun h0=>⟨(hn h0).1,(hn h0).2.2⟩,fun j hj=>?_⟩,fun u hu=>?_,fun i x hi=>?_⟩
 ·rw [h1] at hj
  have hi:j / sz < l.length:=Nat.div_lt_of_lt_mul (by rw [Nat.mul_comm]; exact hj)
  have hm:j % sz < (cs (j / sz)).length:=by rw [hlen _ hi]; exact Nat.mod_lt _ hsz
  have e1:=h2 (j / sz) hi (j % sz) _ (List.getElem?_eq_getElem hm); have e2:=hcell (j / sz) hi (j % sz) _ (List.getElem?_eq_getElem hm)
  have e3:j / sz * sz+j % sz=j:=by rw [Nat.mul_comm]; exact Nat.div_add_mod j sz
  rw [e3] at e1; rw [show off+j / sz * sz+j % sz=off+j by omega] at e2; rw [e2]; have e4:=(List.getElem?_eq_some_iff.1 e1).2; exact congrArg some e4.symm
 ·obtain ⟨i,hi,hu⟩:=List.mem_flatMap.1 hu
  exact hR.one (hx i _ (List.getElem?_eq_getElem (List.mem_range.1 hi))) u hu
 ·exact ⟨cs i,h2 i (List.getElem?_eq_some_iff.1 hi).1,hx i x hi⟩
end Go.Proofs.YtffdpoifdahadaaGreatDoor
namespace Go.Proofs.YtffdpoifdahadaaGreatDoor
open Go.RowKit
open Go.Lib (hid itoa)
/-- the generated names as they were; no token back -/
structure Keep (a b:PSt):Prop where
 vars:b.vars=a.vars
 rels:b.rels=a.rels
 nx:a.nx≤b.nx
theorem Keep.refl (a:PSt):Keep a a:=⟨rfl,rfl,Nat.le_refl _⟩
theorem Keep.trans {a b c:PSt} (h:Keep a b) (k:Keep b c):Keep a c:=⟨k.vars.trans h.vars,k.rels.trans h.rels,Nat.le_trans h.nx k.nx⟩
theorem keep_fail (a:PSt):Keep a (failP a):=⟨rfl,rfl,Nat.le_refl _⟩
theorem keep_next (a:PSt):Keep a (nextP a):=⟨rfl,rfl,Nat.le_succ _⟩
theorem varP_keep (ts:List Tw) (st:PSt):Keep st (varP ts st).2:=by
 unfold varP; split
 ·exact keep_next _
 ·exact keep_fail _
theorem termP_keep (ts:List Tw) (st:PSt):Keep st (termP ts st).2:=by
 unfold termP; split
 ·exact keep_next _
 ·split
  ·exact keep_next _
  ·split
   ·split
    ·exact (keep_next _).trans (keep_next _)
    ·exact (keep_next _).trans (keep_fail _)
   ·exact varP_keep _ _
theorem argP_keep (ts:List Tw) (st:PSt):Keep st (argP ts st).2:=by
 unfold argP; split
 ·exact keep_next _
 ·exact termP_keep _ _
theorem argsP_keep (ts:List Tw):∀ (f:Nat) (st:PSt) (acc:List Tm),Keep st (argsP ts f st acc).2
 | 0,st,_=>Keep.refl _
 | f+1,st,acc=>by
  unfold argsP; have h:=argP_keep ts st; generalize argP ts st=r at *; obtain ⟨o,s⟩:=r
  cases o with
  | none=>exact h
  | some t =>
   show Keep st (if isP ts s 4 [44]=true then argsP ts f (nextP s) (acc++[t]) else (some (acc++[t]),s)).2; split
   ·exact (h.trans (keep_next _)).trans (argsP_keep ts f _ _)
   ·exact h
theorem newVarP_vars (ts:List Tw) (st:PSt):(newVarP ts st).2.vars≤st.vars+(ts.length+1)∧(newVarP ts st).2.rels=st.rels∧(newVarP ts st).2.nx=st.nx:=⟨(freshP_le _ _ _ _).1,rfl,rfl⟩
theorem newRelP_rels (ts:List Tw) (st:PSt):(newRelP ts st).2.rels≤st.rels+(ts.length+1)∧(newRelP ts st).2.vars=st.vars∧(newRelP ts st).2.nx=st.nx:=⟨(freshP_le _ _ _ _).1,rfl,rfl⟩
end Go.Proofs.YtffdpoifdahadaaGreatDoor
set_option linter.unusedSimpArgs false
namespace Go.Proofs.YtffdpoifdahadaaGreatDoor
open Go.RowKit
open Go.Lib (hid itoa)
/-- a call of atom, as it is used -/
theorem atom_x (pb:Nat) (K:PK) (st:PSt) (w:World) (h:PM pb K st w) :
  Calls Tryz.prog 63 #[pt pb] w fun e w'=>∃ (op:Int) (nt:Bool) (rel:List UInt8) (a:Option Addr) (n c:Nat),e=.returned (.tuple #[.agg (lcells op nt rel (.slice a n c)),.bool (atomP K.ts st).1.isSome]) ∧
   (∀ l,(atomP K.ts st).1=some l→op=l.op∧nt=l.nt∧rel=l.rel∧n=l.args.length∧OwnR 63 7 FlR (from_ w.heap.size) w' l.args (.slice a l.args.length c))∧PM pb K (atomP K.ts st).2 w'∧Fr (one pb) w w':=by
 refine (atom_any pb K st w h).mono ?_; rintro e w' ⟨h1,h2,h3⟩; generalize atomP K.ts st=r at *; obtain ⟨o,s⟩:=r
 cases o with
 | some l =>
  obtain ⟨a,c,rfl,ho⟩:=h3; exact ⟨_,_,_,a,_,c,rfl,fun l2 hl=>(by cases hl; exact ⟨rfl,rfl,rfl,rfl,ho⟩),h1,h2⟩
 | none =>
  obtain ⟨op,nt,rel,a,n,c,rfl⟩:=h3; exact ⟨op,nt,rel,a,n,c,rfl,(fun l2 hl=>by cases hl),h1,h2⟩
abbrev ltRow (ps:List (Lt × Value)):List Value:=ps.flatMap fun p=>(lcells p.1.op p.1.nt p.1.rel p.2).toList
theorem ltRow_len (ps:List (Lt × Value)):(ltRow ps).length=ps.length * 4:=by
 induction ps with
 | nil=>rfl
 | cons p l ih=>show (List.flatMap _ (p::l)).length=_; rw [List.flatMap_cons,List.length_append,List.length_cons]; show 4+(ltRow l).length=(l.length+1) * 4; rw [ih]; omega
theorem ltRow_at (ps:List (Lt × Value)) (i:Nat) (p:Lt × Value) (h:ps[i]? = some p) (j:Nat) (u:Value) (hu:(lcells p.1.op p.1.nt p.1.rel p.2).toList[j]? = some u):(ltRow ps)[i * 4+j]? = some u:=by
 induction ps generalizing i with
 | nil=>simp at h
 | cons s l ih =>
  have hj:j < 4:=(List.getElem?_eq_some_iff.1 hu).1; show (List.flatMap _ (s::l))[i * 4+j]? = _; rw [List.flatMap_cons]
  cases i with
  | zero=>simp at h; subst h; rw [List.getElem?_append_left (by show _ < 4; omega)]; simpa using hu
  | succ i =>
   rw [List.getElem?_append_right (by show 4≤_; omega)]; show (ltRow l)[(i+1) * 4+j - 4]? = _; rw [show (i+1) * 4+j - 4=i * 4+j by omega]; exact ih i (by simpa using h)
/-- a row of literals made at once -/
theorem build_lits {S:Foot} {W:World} {b:Nat} (ps:List (Lt × Value)) (hb:W.heap[b]? = some (.cells (ltRow ps).toArray 24 (0,0))) (hl:ps.length≤maxLen) (hS:S b) (hp:∀ p∈ps,OwnR 63 7 FlR (fun q=>S q∧q≠b) W p.1.args p.2) :
  OwnR 24 4 LdR S W (ps.map fun p=>(p.2.ownBlock,p.1)) (.slice (some ⟨b,0,none⟩) ps.length ps.length):=by
 refine own_build goodLd hb (by simp) (ltRow_len ps) hl hS fun i x hx=>?_
 rw [List.getElem?_map] at hx; rcases hi:ps[i]? with _ | p
 ·rw [hi] at hx; cases hx
 ·rw [hi] at hx
  cases hx; exact ⟨_,fun j u hu=>ltRow_at ps i p hi j u hu,p.2,rfl,rfl,hp p (List.mem_of_getElem? hi)⟩
theorem own_ge {α:Type} {E:TypeId} {sz:Nat} {R:Rel α} {S:Foot} {w:World} {l:List α} {v:Value} (h:OwnR E sz R S w l v) {k:Nat} (hk:v.ownBlock=some k):S k:=by
 obtain ⟨xs,h1,h2,h3⟩:=h; exact h2 k hk
/-- blocks made one behind the other -/
def Rise:Nat→List (Option Nat)→Nat→Prop
 | B,[],C=>B≤C
 | B,o::l,C=>∃ M,B≤M∧(∀ k,o=some k→B≤k∧k < M)∧Rise M l C
theorem Rise.le:∀ {l:List (Option Nat)} {B C:Nat},Rise B l C→B≤C
 | [],_,_,h=>h
 | o::l,B,C,h=>by obtain ⟨M,h1,_,h3⟩:=h; exact Nat.le_trans h1 h3.le
theorem Rise.mem:∀ {l:List (Option Nat)} {B C:Nat},Rise B l C→∀ k∈l.filterMap id,B≤k∧k < C
 | [],_,_,_,k,hk=>by simp at hk
 | o::l,B,C,h,k,hk=>by
  obtain ⟨M,h1,h2,h3⟩:=h; have hm:=h3.le
  cases o with
  | none =>
   have:=h3.mem k (by simpa using hk); omega
  | some q =>
   rcases List.mem_cons.1 (show k∈q::l.filterMap id by simpa using hk) with rfl | hk
   ·have:=h2 k rfl; omega
   ·have:=h3.mem k hk; omega
theorem idsL_eq (l:List (Option Nat × Lt)):idsL l=(l.map (·.1)).filterMap id:=by unfold idsL; rw [List.filterMap_map]; rfl
end Go.Proofs.YtffdpoifdahadaaGreatDoor
namespace Go.Proofs.YtffdpoifdahadaaGreatDoor
open Go.RowKit
open Go.Lib (hid itoa)
abbrev zrule:Array Value:=rucells 0 false [] (.slice none 0 0) 0 0 (.slice none 0 0)
/-- the region's memory: W its start, rb the rule's block (if it is there), rows: what was made -/
structure RS (W:World) (rb:Option Nat) (rows:List (Lt × Value)) (cur:World):Prop where
 below:Below W.heap.size W cur
 own:∀ p∈rows,OwnR 63 7 FlR (fun q=>W.heap.size≤q∧rb≠some q) cur p.1.args p.2
 nd:(rows.filterMap fun p=>p.2.ownBlock).Nodup
 zr:∀ b,rb=some b→W.heap.size≤b∧cur.heap[b]? = some (.cells zrule 27 (0,0))
section
variable {W cur cur':World} {rb:Option Nat} {rows:List (Lt × Value)}
theorem RS.start (W:World):RS W none [] W.drew:=⟨(Below.refl _ _).drew,fun p hp=>by simp at hp,by simp,fun b h=>by cases h⟩
theorem RS.grow (h:RS W rb rows cur) (hb:Below cur.heap.size cur cur'):RS W rb rows cur' :=
 ⟨h.below.trans (hb.mono h.below.size),fun p hp=>(h.own p hp).below goodFl hb,h.nd,fun b hr=>⟨(h.zr b hr).1,below_keep hb (h.zr b hr).2 (lt_of_heap (h.zr b hr).2)⟩⟩
theorem RS.push (h:RS W rb rows cur) {l:Lt} {v:Value} (hb:Below cur.heap.size cur cur') (ho:OwnR 63 7 FlR (from_ cur.heap.size) cur' l.args v):RS W rb (rows++[(l,v)]) cur':=by
 have hs:=h.below.size; refine ⟨(h.grow hb).below,fun p hp=>?_,?_,(h.grow hb).zr⟩
 ·rcases List.mem_append.1 hp with hp | hp
  ·exact (h.grow hb).own p hp
  ·simp at hp; subst hp
   refine ho.mono goodFl fun k hk hk2=>⟨Nat.le_trans hs hk2,fun e=>?_⟩
   have:=lt_of_heap (h.zr k e).2; unfold from_ at hk2; omega
 ·rw [List.filterMap_append,List.nodup_append]
  refine ⟨h.nd,by cases hv:v.ownBlock <;> simp [hv],fun a ha b hb2=>?_⟩; obtain ⟨p,hp,hpa⟩:=List.mem_filterMap.1 ha; obtain ⟨p2,hp2,hpb⟩:=List.mem_filterMap.1 hb2; simp at hp2; subst hp2; have h1:=(h.own p hp).lt hpa; have h2:=own_ge ho hpb; unfold from_ at h2; omega
end
/-- head and body are made -/
structure RS2 (W:World) (rb:Option Nat) (l0:Lt) (v0:Value) (xs:List (Option Nat × Lt)) (bv:Value) (cur:World):Prop where
 below:Below W.heap.size W cur
 hd:OwnR 63 7 FlR (fun q=>W.heap.size≤q∧rb≠some q) cur l0.args v0
 bd:OwnR 24 4 LdR (fun q=>W.heap.size≤q∧rb≠some q) cur xs bv
 nd:(v0.ownBlock.toList++(bv.ownBlock.toList++idsL xs)).Nodup
 zr:∀ b,rb=some b→W.heap.size≤b∧cur.heap[b]? = some (.cells zrule 27 (0,0))
section
variable {W cur cur':World} {rb:Option Nat} {ps:List (Lt × Value)} {l0:Lt} {v0 bv:Value} {xs:List (Option Nat × Lt)}
theorem RS2.grow (h:RS2 W rb l0 v0 xs bv cur) (hb:Below cur.heap.size cur cur'):RS2 W rb l0 v0 xs bv cur' :=
 ⟨h.below.trans (hb.mono h.below.size),h.hd.below goodFl hb,h.bd.below goodLd hb,h.nd,fun b hr=>⟨(h.zr b hr).1,below_keep hb (h.zr b hr).2 (lt_of_heap (h.zr b hr).2)⟩⟩
/-- a new rule in a block of its own -/
structure NR (W:World) (RB:Nat) (x:RuD) (hv bv:Value) (cur:World):Prop where
 below:Below W.heap.size W cur
 ge:W.heap.size≤RB
 row:cur.heap[RB]? = some (.cells (rucells x.head.2.op x.head.2.nt x.head.2.rel hv x.agg x.at_ bv) 27 (0,0))
 ru:RuR (fun q=>W.heap.size≤q∧q≠RB) cur x (rucells x.head.2.op x.head.2.nt x.head.2.rel hv x.agg x.at_ bv).toList
 nd:x.ids.Nodup
theorem below_setRow' {B:Nat} {w w':World} (h:Below B w w') {g:Nat} (hg:B≤g) (cs:Array Value):Below B w (w'.setRow g cs) :=
 ⟨h.os,h.tape,h.output,by simpa [World.setRow] using h.size,fun k hk=>(setRow_far (by omega) cs).trans (h.block k hk)⟩
theorem NR.grow {RB:Nat} {x:RuD} {hv:Value} (h:NR W RB x hv bv cur) (hb:Below cur.heap.size cur cur'):NR W RB x hv bv cur' :=
 ⟨h.below.trans (hb.mono h.below.size),h.ge,below_keep hb h.row (lt_of_heap h.row),goodRu.below h.ru hb,h.nd⟩
end
theorem NR.slices {W cur:World} {RB:Nat} {x:RuD} {hv bv:Value} (h:NR W RB x hv bv cur):∃ a c a2 c2,hv=.slice a x.head.2.args.length c∧bv=.slice a2 x.body.length c2:=by
 obtain ⟨v1,v2,e,-,ho,-,hb⟩:=h.ru; obtain ⟨a,c,hs,-⟩:=ho.slice; obtain ⟨a2,c2,hs2,-⟩:=hb.slice
 have e1:hv=v1:=by have:=congrArg (fun l:List Value=>l[3]?) e; simpa using this
 have e2:bv=v2:=by have:=congrArg (fun l:List Value=>l[6]?) e; simpa using this
 exact ⟨a,c,a2,c2,e1.trans hs,e2.trans hs2⟩
theorem ru_cells {rb:Nat} {w:World} {op:Int} {nt:Bool} {rel:List UInt8} {hv bv:Value} {agg at_:Int} (h:w.heap[rb]? = some (.cells (rucells op nt rel hv agg at_ bv) 27 (0,0))):w.cell? ⟨rb,0,none⟩=some (iv op)∧w.cell? ⟨rb,1,none⟩=some (.bool nt)∧w.cell? ⟨rb,2,none⟩=some (sv rel)∧w.cell? ⟨rb,3,none⟩=some hv∧w.cell? ⟨rb,4,none⟩=some (iv agg)∧w.cell? ⟨rb,5,none⟩=some (iv at_)∧w.cell? ⟨rb,6,none⟩=some bv∧∀ i,w.frozen? ⟨rb,i,none⟩=false :=
 ⟨(cell_of h).trans rfl,(cell_of h).trans rfl,(cell_of h).trans rfl,(cell_of h).trans rfl,(cell_of h).trans rfl,(cell_of h).trans rfl,(cell_of h).trans rfl,fun i=>free_of h⟩
theorem lds_ids {S:Foot} {w:World} {l:List (Option Nat × Lt)} {v:Value} (h:OwnR 24 4 LdR S w l v):∀ k∈idsL l,S k:=by
 intro k hk; obtain ⟨x,hx,hxk⟩:=List.mem_filterMap.1 hk; obtain ⟨i,hi⟩:=List.mem_iff_getElem?.1 hx; obtain ⟨xs,h1,h2,h3⟩:=h; obtain ⟨cs,h4,h5⟩:=h3 i x hi; obtain ⟨u,rfl,hu,ho⟩:=h5; exact (own_ge ho (hu.trans hxk)).1
theorem ru_ids {S:Foot} {w:World} {x:RuD} {cs:List Value} (h:RuR S w x cs):∀ k∈x.ids,S k:=by
 obtain ⟨hv,bv,rfl,h1,ho,h2,hb⟩:=h; intro k hk; unfold RuD.ids at hk; rcases List.mem_append.1 hk with hk | hk
 ·rw [← h1] at hk
  exact own_ge ho (by simpa using hk)
 ·rcases List.mem_append.1 hk with hk | hk
  ·rw [← h2] at hk
   exact own_ge hb (by simpa using hk)
  ·exact lds_ids hb k hk
end Go.Proofs.YtffdpoifdahadaaGreatDoor
set_option linter.unusedSimpArgs false
namespace Go.Proofs.YtffdpoifdahadaaGreatDoor
open Go.RowKit
open Go.Lib (hid itoa)
end Go.Proofs.YtffdpoifdahadaaGreatDoor
set_option linter.unusedSimpArgs false
namespace Go.Proofs.YtffdpoifdahadaaGreatDoor
open Go.RowKit
open Go.Lib (hid itoa)
end Go.Proofs.YtffdpoifdahadaaGreatDoor
namespace Go.Proofs.YtffdpoifdahadaaGreatDoor
open Go.RowKit
open Go.Lib (hid itoa)
/-- several elements behind an owned row, with what turned -/
theorem OwnR.appendM {α:Type} {P:Program} {E t ty:TypeId} {sz bytes:Nat} {R:Rel α} {i:TypeInfo} {z:Value} (hR:Good sz R) (ht:P.underlying t=some (.slice E)) (hi:P.info? E=some i) (hz:i.zero=some z) (hsize:i.size=sz) (hby:i.bytes=bytes) (hzs:z.cells.size=sz) (hsz:0 < sz)
  {S:Foot} {w:World} {l m:List α} {v:Value} (h:OwnR E sz R S w l v) {B:Nat} {vs:Value} {news:List Value} (hr:Row B w sz vs m.length news) (hone:∀ u∈news,u.oneCell'=true)
  (hx:∀ n y,m[n]? = some y→∃ cs,(∀ j u,cs[j]? = some u→news[n * sz+j]? = some u)∧R (fun k=>S k∧v.ownBlock≠some k) w y cs) (h63:l.length+m.length≤maxLen) (hbytes:(l.length+m.length) * bytes≤140737488355328) (hS:∀ k,w.heap.size≤k→S k) :
  ∃ v' w',AppRun P t t ty v vs v' w w'∧OwnR E sz R S w' (l++m) v'∧Fr (fun k=>v.ownBlock=some k) w w'∧(v'.ownBlock=v.ownBlock∨v'.ownBlock=some w.heap.size):=by
 obtain ⟨xs,h1,h2,h3⟩:=h; obtain ⟨v',w',hrun,hown,hg,hv⟩:=append_row w 0 t ty E i z sz bytes ht hi hz hsize hby hzs hsz v l.length xs h1 B vs m.length news hr hone h63 hbytes (Nat.zero_le _)
 have hkeep:∀ {y:α} {ds:List Value},R (fun k=>S k∧v.ownBlock≠some k) w y ds→R (fun k=>S k∧v'.ownBlock≠some k) w' y ds:=by
  intro y ds hy
  refine hR.move hy fun k hk hu=>⟨⟨hu.1,?_⟩,hg.block k hk (fun e=>hu.2 e.symm)⟩
  rcases hv with hv | hv
  ·rw [hv]; exact hu.2
  ·rw [hv]; intro e; injection e with e; omega
 refine ⟨v',w',⟨hrun⟩,⟨xs++news,by rw [List.length_append]; exact hown,fun k hk=>?_,fun i y hy=>?_⟩,⟨hg.os,hg.tape,hg.output,hg.size,fun k hk hs=>hg.block k hk (fun e=>hs e.symm)⟩,hv⟩
 ·rcases hv with hv | hv
  ·exact h2 k (hv ▸ hk)
  ·rw [hv] at hk; injection hk with hk; subst hk; exact hS _ (Nat.le_refl _)
 ·by_cases hil:i < l.length
  ·rw [List.getElem?_append_left hil] at hy
   obtain ⟨ds,h4,h5⟩:=h3 i y hy; refine ⟨ds,fun j u hu=>?_,hkeep h5⟩; have:=h4 j u hu; rw [List.getElem?_append_left (List.getElem?_eq_some_iff.1 this).1]; exact this
  ·rw [List.getElem?_append_right (by omega)] at hy
   obtain ⟨ds,h4,h5⟩:=hx _ y hy; refine ⟨ds,fun j u hu=>?_,hkeep h5⟩; have hxl:=h1.1
   have hm:i * sz=l.length * sz+(i - l.length) * sz:=by rw [← Nat.add_mul]; congr 1; omega
   rw [List.getElem?_append_right (by omega),show i * sz+j - xs.length=(i - l.length) * sz+j by omega]; exact h4 j u hu
/-- literals behind a body -/
theorem litsPush {S S2:Foot} {w:World} {l m:List (Option Nat × Lt)} {v vs:Value} (h:OwnR 24 4 LdR S w l v) (hm:OwnR 24 4 LdR S2 w m vs) (hS:∀ q,w.heap.size≤q→S q) (hS2:∀ q,S2 q→S q∧v.ownBlock≠some q) (hl:l.length+m.length≤1048576) :
  ∃ a c w',AppRun Tryz.prog 25 25 25 v vs (.slice a (l.length+m.length) c) w w'∧OwnR 24 4 LdR S w' (l++m) (.slice a (l.length+m.length) c)∧Fr (fun k=>v.ownBlock=some k) w w'∧((Value.slice a (l.length+m.length) c).ownBlock=v.ownBlock∨(Value.slice a (l.length+m.length) c).ownBlock=some w.heap.size):=by
 obtain ⟨i0,hi,hz0,hz1,hz2⟩:=info_parts infoLit; obtain ⟨news,g1,g2,g3⟩:=sl_row goodLd (by decide) (hm.sl goodLd); obtain ⟨v',w',h1,h2,h3,h4⟩:=OwnR.appendM (t:=25) (ty:=25) goodLd (by kernel_rfl) hi hz0 hz1 hz2 rfl (by decide) h g1 g2 (fun n y hy=>by obtain ⟨cs,k1,k2⟩:=g3 n y hy; exact ⟨cs,k1,goodLd.mono k2 fun k _ hk=>hS2 k hk⟩) (by unfold maxLen; omega) (by omega) hS; obtain ⟨a,c,rfl,-,-⟩:=h2.slice; rw [List.length_append] at h1 h2 h4; exact ⟨a,c,w',h1,h2,h3,h4⟩
/-- rules behind rules -/
theorem rulesPush {S S2:Foot} {w:World} {l m:List RuD} {v vs:Value} (h:OwnR 27 7 RuR S w l v) (hm:OwnR 27 7 RuR S2 w m vs) (hS:∀ q,w.heap.size≤q→S q) (hS2:∀ q,S2 q→S q∧v.ownBlock≠some q) (hl:l.length+m.length≤1048576) :
  ∃ a c w',AppRun Tryz.prog 30 30 30 v vs (.slice a (l.length+m.length) c) w w'∧OwnR 27 7 RuR S w' (l++m) (.slice a (l.length+m.length) c)∧Fr (fun k=>v.ownBlock=some k) w w'∧((Value.slice a (l.length+m.length) c).ownBlock=v.ownBlock∨(Value.slice a (l.length+m.length) c).ownBlock=some w.heap.size):=by
 obtain ⟨i0,hi,hz0,hz1,hz2⟩:=info_parts infoRule; obtain ⟨news,g1,g2,g3⟩:=sl_row goodRu (by decide) (hm.sl goodRu); obtain ⟨v',w',h1,h2,h3,h4⟩:=OwnR.appendM (t:=30) (ty:=30) goodRu (by kernel_rfl) hi hz0 hz1 hz2 rfl (by decide) h g1 g2 (fun n y hy=>by obtain ⟨cs,k1,k2⟩:=g3 n y hy; exact ⟨cs,k1,goodRu.mono k2 fun k _ hk=>hS2 k hk⟩) (by unfold maxLen; omega) (by omega) hS; obtain ⟨a,c,rfl,-,-⟩:=h2.slice; rw [List.length_append] at h1 h2 h4; exact ⟨a,c,w',h1,h2,h3,h4⟩
/-- made[0]'s body is another -/
theorem made_turn {S:Foot} {w W:World} {r0:RuD} {rest:List RuD} {g n mc:Nat} (h:OwnR 27 7 RuR S w (r0::rest) (.slice (some ⟨g,0,none⟩) n mc)) (hn:((r0::rest).flatMap RuD.ids).Nodup) (hf:Fr (fun q=>r0.bb=some q) w W) (body:List (Option Nat × Lt)) (bv:Value)
  (hb:OwnR 24 4 LdR (fun q=>S q∧q≠g) W body bv) :
  OwnR 27 7 RuR S (W.setCell ⟨g,6,none⟩ bv) (⟨r0.head,r0.agg,r0.at_,bv.ownBlock,body⟩::rest) (.slice (some ⟨g,0,none⟩) n mc):=by
 obtain ⟨xs,h1,h2,h3⟩:=h; obtain ⟨a0,c0,e,_,_⟩:=owns_form h1; simp only [Value.slice.injEq] at e; obtain ⟨-,rfl,-⟩:=e; have hob:(Value.slice (some ⟨g,0,none⟩) (r0::rest).length mc).ownBlock=some g:=rfl
 have hown:∀ k,k≠g→(W.setCell ⟨g,6,none⟩ bv).heap[k]? = W.heap[k]?:=fun k hk=>heap_setCell_other _ hk
 obtain ⟨cs0,k1,k2⟩:=h3 0 r0 rfl; obtain ⟨hv,bv0,rfl,e1,ho,e2,hbd⟩:=k2
 have hbg:r0.bb≠some g:=by
  intro e; have:=own_ge hbd (e2.trans e); exact this.2 hob
 have h1':W.ownsRow 0 27 7 (.slice (some ⟨g,0,none⟩) (r0::rest).length mc) (r0::rest).length xs:=owns_move h1 (fun k hk=>hf.block k (h1.lt k hk).2 (fun e=>hbg (by rw [e]; exact hk.symm ▸ hob ▸ rfl))) (fun _ _=>Nat.zero_le _); have h2':=(h1'.stored 6 bv).1; refine ⟨xs.set 6 bv,h2',h2,fun i x hx=>?_⟩
 have hmem:∀ {y:RuD},y∈r0::rest→∀ k,k∈y.ids→True:=fun _ _ _=>trivial
 match i,hx with
 | 0,hx =>
  injection hx with hx; subst hx; refine ⟨(rucells r0.head.2.op r0.head.2.nt r0.head.2.rel hv r0.agg r0.at_ bv).toList,fun j u hu=>?_,hv,bv,rfl,e1,?_,rfl,?_⟩
  ·have hj:j < 7:=(List.getElem?_eq_some_iff.1 hu).1
   rw [Nat.zero_mul,Nat.zero_add]; have hxl:=h1.1; by_cases e6:j=6
   ·subst e6
    rw [List.getElem?_set_self (by rw [hxl]; simp only [List.length_cons]; omega)]; simpa using hu
   ·rw [List.getElem?_set_ne (fun e=>e6 e.symm)]
    have:=k1 j u (by
     match j,hj,e6,hu with
     | 0,_,_,hu=>simpa using hu
     | 1,_,_,hu=>simpa using hu
     | 2,_,_,hu=>simpa using hu
     | 3,_,_,hu=>simpa using hu
     | 4,_,_,hu=>simpa using hu
     | 5,_,_,hu=>simpa using hu
     | j+6,hj,e6,_=>exact absurd (show j+6=6 by omega) e6)
    rw [Nat.zero_mul,Nat.zero_add] at this; exact this
  ·refine (fl_tight ho).move goodFl fun k hk hk2=>⟨hk2.1,?_⟩
   have hkg:k≠g:=fun e=>hk2.1.2 (by rw [e]; rfl)
   refine (hown k hkg).trans (hf.block k hk fun eb=>?_); rw [List.flatMap_cons,List.nodup_append] at hn; have hn1:=hn.1; unfold RuD.ids at hn1; rw [List.nodup_append] at hn1; exact hn1.2.2 k (by rw [← e1,hk2.2]; simp) k (by rw [eb]; simp) rfl
  ·refine hb.move goodLd fun k hk hk2=>⟨⟨hk2.1,fun e=>hk2.2 (by injection e with e; exact e.symm)⟩,hown k hk2.2⟩
 | i+1,hx =>
  obtain ⟨cs,h4,h5⟩:=h3 (i+1) x hx; refine ⟨cs,fun j u hu=>?_,goodRu.move (ru_tight h5) fun k hk hk2=>⟨hk2.1,?_⟩⟩
  ·have:=h4 j u hu
   rw [List.getElem?_set_ne (by omega)]; exact this
  ·have hkg:k≠g:=fun e=>hk2.1.2 (by rw [e]; rfl)
   refine (hown k hkg).trans (hf.block k hk fun eb=>?_); rw [List.flatMap_cons,List.nodup_append] at hn; refine hn.2.2 k ?_ k (List.mem_flatMap.2 ⟨x,List.mem_of_getElem? (show rest[i]? = some x from hx),hk2.2⟩) rfl; unfold RuD.ids; rw [eb]; simp
theorem nodup_six {A B C D E F O:List Nat} {N0 N1:Nat} (hn:(A++(B++C)++E).Nodup) (hlt:∀ k∈A++(B++C)++E,k < N0) (hxy:(D++F).Nodup) (hge:∀ k∈D++F,N0≤k∧k < N1) (hO:O=B∨O=[N1]) (hN:N0≤N1):(A++(O++(C++D))++(E++F)).Nodup:=by
 simp only [List.nodup_append,List.mem_append] at hn hxy ⊢; obtain ⟨⟨hA,⟨hB,hC,hBC⟩,hABC⟩,hE,hABCE⟩:=hn; obtain ⟨hD,hF,hDF⟩:=hxy
 have lA:∀ k∈A,k < N0:=fun k hk=>hlt k (by simp [hk])
 have lB:∀ k∈B,k < N0:=fun k hk=>hlt k (by simp [hk])
 have lC:∀ k∈C,k < N0:=fun k hk=>hlt k (by simp [hk])
 have lE:∀ k∈E,k < N0:=fun k hk=>hlt k (by simp [hk])
 have lD:∀ k∈D,N0≤k∧k < N1:=fun k hk=>hge k (by simp [hk])
 have lF:∀ k∈F,N0≤k∧k < N1:=fun k hk=>hge k (by simp [hk])
 have lO:∀ k∈O,k∈B∨k=N1:=fun k hk=>by rcases hO with rfl | rfl; exact Or.inl hk; exact Or.inr (by simpa using hk)
 have hOn:O.Nodup:=by rcases hO with rfl | rfl; exact hB; simp
 refine ⟨⟨hA,⟨hOn,⟨hC,hD,?_⟩,?_⟩,?_⟩,⟨hE,hF,?_⟩,?_⟩
 ·intro a ha b hb; have:=lC a ha; have:=lD b hb; omega
 ·intro a ha b hb
  rcases lO a ha with h1 | h1
  ·rcases hb with hb | hb
   ·exact hBC a h1 b hb
   ·have:=lB a h1; have:=lD b hb; omega
  ·rcases hb with hb | hb
   ·have:=lC b hb; omega
   ·have:=lD b hb; omega
 ·intro a ha b hb
  rcases hb with hb | hb | hb
  ·rcases lO b hb with h1 | h1
   ·exact hABC a ha b (Or.inl h1)
   ·have:=lA a ha; omega
  ·exact hABC a ha b (Or.inr hb)
  ·have:=lA a ha; have:=lD b hb; omega
 ·intro a ha b hb; have:=lE a ha; have:=lF b hb; omega
 ·intro a ha b hb
  rcases ha with ha | ha | ha | ha
  ·rcases hb with hb | hb
   ·exact hABCE a (Or.inl ha) b hb
   ·have:=lA a ha; have:=lF b hb; omega
  ·rcases lO a ha with h1 | h1
   ·rcases hb with hb | hb
    ·exact hABCE a (Or.inr (Or.inl h1)) b hb
    ·have:=lB a h1; have:=lF b hb; omega
   ·rcases hb with hb | hb
    ·have:=lE b hb; omega
    ·have:=lF b hb; omega
  ·rcases hb with hb | hb
   ·exact hABCE a (Or.inr (Or.inr ha)) b hb
   ·have:=lC a ha; have:=lF b hb; omega
  ·rcases hb with hb | hb
   ·have:=lD a ha; have:=lE b hb; omega
   ·exact hDF a ha b hb
theorem ids_step {r0:RuD} {rest ys:List RuD} {xs:List (Option Nat × Lt)} {o:Option Nat} {N0 N1:Nat} (hn:((r0::rest).flatMap RuD.ids).Nodup) (hlt:∀ k∈(r0::rest).flatMap RuD.ids,k < N0) (hxy:(idsL xs++ys.flatMap RuD.ids).Nodup) (hge:∀ k∈idsL xs++ys.flatMap RuD.ids,N0≤k∧k < N1) (ho:o=r0.bb∨o=some N1) (hN:N0≤N1) :
  (((⟨r0.head,r0.agg,r0.at_,o,r0.body++xs⟩:RuD)::(rest++ys)).flatMap RuD.ids).Nodup:=by
 rw [List.flatMap_cons,List.flatMap_append]; rw [List.flatMap_cons] at hn hlt; have e:idsL (r0.body++xs)=idsL r0.body++idsL xs:=List.filterMap_append; show (r0.head.1.toList++(o.toList++idsL (r0.body++xs))++(rest.flatMap RuD.ids++ys.flatMap RuD.ids)).Nodup; rw [e]; exact nodup_six (B:=r0.bb.toList) hn hlt hxy hge (by rcases ho with rfl | rfl; exact Or.inl rfl; exact Or.inr rfl) hN
/-- blocks of an owned row of rules are there -/
theorem rules_lt {S:Foot} {w:World} {l:List RuD} {v:Value} (h:OwnR 27 7 RuR S w l v):∀ k∈l.flatMap RuD.ids,S k∧k < w.heap.size:=by
 intro k hk; obtain ⟨x,hx,hxk⟩:=List.mem_flatMap.1 hk; obtain ⟨i,hi⟩:=List.mem_iff_getElem?.1 hx; obtain ⟨xs,h1,h2,h3⟩:=h; obtain ⟨cs,h4,h5⟩:=h3 i x hi; refine ⟨(ru_ids h5 k hxk).1,?_⟩; obtain ⟨v1,v2,e,g1,ho,g2,hb⟩:=h5; unfold RuD.ids at hxk; rcases List.mem_append.1 hxk with hk | hk
 ·rw [← g1] at hk; exact ho.lt (by simpa using hk)
 ·rcases List.mem_append.1 hk with hk | hk
  ·rw [← g2] at hk; exact hb.lt (by simpa using hk)
  ·obtain ⟨y,hy,hyk⟩:=List.mem_filterMap.1 hk
   obtain ⟨i,hi⟩:=List.mem_iff_getElem?.1 hy; obtain ⟨xs,q1,q2,q3⟩:=hb; obtain ⟨cs,q4,u,rfl,hu,hoo⟩:=q3 i y hi; exact hoo.lt (hu.trans hyk)
theorem lits_lt {S:Foot} {w:World} {l:List (Option Nat × Lt)} {v:Value} (h:OwnR 24 4 LdR S w l v):∀ k∈idsL l,S k∧k < w.heap.size:=by
 intro k hk; refine ⟨lds_ids h k hk,?_⟩; obtain ⟨y,hy,hyk⟩:=List.mem_filterMap.1 hk; obtain ⟨i,hi⟩:=List.mem_iff_getElem?.1 hy; obtain ⟨xs,q1,q2,q3⟩:=h; obtain ⟨cs,q4,u,rfl,hu,hoo⟩:=q3 i y hi; exact hoo.lt (hu.trans hyk)
/-- literal's end: literals behind made[0]'s body, rules behind made -/
theorem made_push {S:Foot} {w:World} {N0:Nat} {r0:RuD} {rest ys:List RuD} {xs:List (Option Nat × Lt)} {mv v1 v2:Value} (hm:OwnR 27 7 RuR S w (r0::rest) mv) (hn:((r0::rest).flatMap RuD.ids).Nodup) (hN0:∀ k,k∈(r0::rest).flatMap RuD.ids∨mv.ownBlock=some k→k < N0) (hS:∀ k,N0≤k→S k)
  (h1:OwnR 24 4 LdR (from_ N0) w xs v1) (h2:OwnR 27 7 RuR (from_ N0) w ys v2) (hd:(idsL xs++ys.flatMap RuD.ids).Nodup) (hsz:N0≤w.heap.size) (hl1:r0.body.length+xs.length≤1048576) (hl2:(r0::rest).length+ys.length≤1048576) :
  ∃ g mc ab cb,mv=.slice (some ⟨g,0,none⟩) (r0::rest).length mc∧w.cell? ⟨g,6,none⟩=some (.slice ab r0.body.length cb) ∧
  ∃ a c W,AppRun Tryz.prog 25 25 25 (.slice ab r0.body.length cb) v1 (.slice a (r0.body.length+xs.length) c) w W∧(∃ u,W.cell? ⟨g,6,none⟩=some u)∧W.frozen? ⟨g,6,none⟩=false ∧
  ∃ a2 c2 W2 zs,AppRun Tryz.prog 30 30 30 mv v2 (.slice a2 ((r0::rest).length+ys.length) c2) (W.setCell ⟨g,6,none⟩ (.slice a (r0.body.length+xs.length) c)) W2 ∧
   OwnR 27 7 RuR S W2 zs (.slice a2 ((r0::rest).length+ys.length) c2)∧zs.map RuD.ru=⟨r0.ru.head,r0.ru.agg,r0.ru.at_,r0.ru.body++xs.map (·.2)⟩::(rest.map RuD.ru++ys.map RuD.ru)∧(zs.flatMap RuD.ids).Nodup∧Fr S w W2:=by
 have hm0:=hm; obtain ⟨xs0,o1,o2,o3⟩:=hm; rcases o1.2 with ⟨rfl,h0⟩ | ⟨g,cap,cur,rfl,_,hg,hnc,_,_,_⟩
 ·simp at h0
 ·have hob:(Value.slice (some ⟨g,0,none⟩) (r0::rest).length cap).ownBlock=some g:=rfl
  obtain ⟨cs,k1,hv,bv,rfl,e1,ho,e2,hbd⟩:=o3 0 r0 rfl; obtain ⟨ab,cb,rfl,-,-⟩:=hbd.slice; have hgl:=lt_of_heap hg; have hgN:g < N0:=hN0 g (Or.inr rfl)
  have hbbN:∀ q,(Value.slice ab r0.body.length cb).ownBlock=some q→q < N0:=fun q hq=>hN0 q (Or.inl (by
   rw [List.flatMap_cons]; refine List.mem_append.2 (Or.inl ?_); unfold RuD.ids
   rw [← e2,hq]; simp))
  have hbg:∀ q,(Value.slice ab r0.body.length cb).ownBlock=some q→q≠g:=fun q hq e=>(own_ge hbd hq).2 (by rw [e]; rfl)
  have hbd':OwnR 24 4 LdR (fun k=>S k∧k≠g) w r0.body (.slice ab r0.body.length cb):=hbd.mono goodLd fun k _ hk=>⟨hk.1,fun e=>hk.2 (by rw [e]; rfl)⟩
  have c6:w.cell? ⟨g,6,none⟩=some (.slice ab r0.body.length cb):=by
   have hlen:6 < (r0::rest).length * 7:=by simp only [List.length_cons]; omega
   rw [o1.cellAt 6 hlen]; have:=k1 6 _ rfl; rw [Nat.zero_mul,Nat.zero_add] at this; exact this
  obtain ⟨a,c,W,run1,hO,hF,hvv⟩:=litsPush hbd' h1 (fun q hq=>⟨hS q (by omega),by omega⟩) (fun q hq=>⟨⟨hS q hq,by unfold from_ at hq; omega⟩,fun e=>by have:=hbbN q e; unfold from_ at hq; omega⟩) hl1; have hgW:W.heap[g]? = some (.cells cur 27 (0,0)):=(hF.block g hgl (fun e=>hbg g e rfl)).trans hg; have ht:=made_turn hm0 hn (by rw [← e2]; exact hF) (r0.body++xs) (.slice a (r0.body.length+xs.length) c) hO
  have hsz2:w.heap.size≤(W.setCell ⟨g,6,none⟩ (.slice a (r0.body.length+xs.length) c)).heap.size:=by simpa [World.setCell] using hF.size
  have h2':OwnR 27 7 RuR (from_ N0) (W.setCell ⟨g,6,none⟩ (.slice a (r0.body.length+xs.length) c)) ys v2:=h2.move goodRu fun k hk hk2=>⟨hk2,(heap_setCell_other _ (by unfold from_ at hk2; omega)).trans (hF.block k hk (fun e=>by have:=hbbN k e; unfold from_ at hk2; omega))⟩
  obtain ⟨a2,c2,W2,run2,hO2,hF2,-⟩:=rulesPush ht h2' (fun q hq=>hS q (by omega)) (fun q hq=>⟨hS q hq,fun e=>by have:=hob.symm.trans e; injection this with e2; unfold from_ at hq; omega⟩) hl2; have hFs:Fr S w (W.setCell ⟨g,6,none⟩ (.slice a (r0.body.length+xs.length) c)):=(hF.mono (fun k hk e=>(own_ge hbd e).1)).setCell (p:=⟨g,6,none⟩) (Or.inl (o2 g rfl)) _; refine ⟨g,cap,ab,cb,rfl,c6,a,c,W,run1,?_,free_of hgW,a2,c2,W2,_,run2,hO2,?_,?_,hFs.trans (hF2.mono (fun k hk e=>by rw [hob] at e; injection e with e; rw [← e]; exact o2 g rfl))⟩
  ·have h7:=(owns_move (w':=W) (base':=0) o1 (fun k hk=>by rw [hob] at hk; injection hk with hk; subst hk; exact hF.block _ hgl (fun e=>hbg _ e rfl)) (fun _ _=>Nat.zero_le _))
   have hlen:6 < (r0::rest).length * 7:=by simp only [List.length_cons]; omega
   rw [h7.cellAt 6 hlen]; exact ⟨_,List.getElem?_eq_getElem (by rw [h7.1]; exact hlen)⟩
  ·show (⟨r0.head.2,r0.agg,r0.at_,(r0.body++xs).map (·.2)⟩:Ru)::(rest++ys).map RuD.ru=_
   rw [List.map_append,List.map_append]; rfl
  ·refine ids_step (N0:=N0) (N1:=w.heap.size) hn (fun k hk=>hN0 k (Or.inl hk)) hd (fun k hk=>?_) ?_ hsz
   ·rcases List.mem_append.1 hk with hk | hk
    ·exact lits_lt h1 k hk
    ·exact rules_lt h2 k hk
   ·rcases hvv with h | h
    ·exact Or.inl (h.trans e2)
    ·exact Or.inr h
end Go.Proofs.YtffdpoifdahadaaGreatDoor
set_option linter.unusedSimpArgs false
namespace Go.Proofs.YtffdpoifdahadaaGreatDoor
open Go.RowKit
open Go.Lib (hid itoa)
theorem PM.base {pb:Nat} {K:PK} {s st:PSt} {w0 w w':World} (h0:PM pb K s w0) (hf:Fr (one pb) w0 w') (h:PM pb K st w) (hb:w'.heap[pb]? = w.heap[pb]?):PM pb K st w' :=
 h0.fr hf (hb.trans h.blk) h.nx
/-- what the switch of literal leaves: the literals, the rules besides, whether it went well -/
def LitR (pb:Nat) (K:PK) (w:World) (r:Option (List Lt × List Ru) × PSt) (v1 v2 ok:Value) (w':World):Prop :=
 PM pb K r.2 w'∧Fr (one pb) w w'∧match r.1 with
 | some q=>∃ xs ys,ok=.bool true∧OwnR 24 4 LdR (from_ w.heap.size) w' xs v1∧OwnR 27 7 RuR (from_ w.heap.size) w' ys v2∧xs.map (·.2)=q.1∧ys.map RuD.ru=q.2∧(idsL xs++ys.flatMap RuD.ids).Nodup
 | none=>ok=.bool false
/-- what literal answers: made, with the literals and the rules -/
def PMade (pb:Nat) (K:PK) (w0:World) (r0:Ru) (rest:List Ru) (r:Option (List Lt × List Ru) × PSt) (e:Ending) (w':World):Prop :=
 PM pb K r.2 w'∧Fr (one pb) w0 w'∧match r.1 with
 | some q=>∃ v xs,e=.returned (.tuple #[v,.bool true])∧OwnR 27 7 RuR (from_ w0.heap.size) w' xs v∧xs.map RuD.ru=⟨r0.head,r0.agg,r0.at_,r0.body++q.1⟩::(rest++q.2)∧(xs.flatMap RuD.ids).Nodup
 | none=>e=.returned (.tuple #[.slice none 0 0,.bool false])
/-- a call of comparison, as it is used -/
theorem comparison_x (pb:Nat) (K:PK) (st:PSt) (w:World) (h:PM pb K st w) :
  Calls Tryz.prog 96 #[pt pb] w fun e w'=>∃ (op:Int) (nt:Bool) (rel:List UInt8) (a:Option Addr) (n c:Nat),e=.returned (.tuple #[.agg (lcells op nt rel (.slice a n c)),.bool (comparisonP K.ts st).1.isSome]) ∧
   (∀ l,(comparisonP K.ts st).1=some l→op=l.op∧nt=l.nt∧rel=l.rel∧n=l.args.length∧OwnR 63 7 FlR (from_ w.heap.size) w' l.args (.slice a l.args.length c))∧PM pb K (comparisonP K.ts st).2 w'∧Fr (one pb) w w':=by
 refine (comparison_any pb K st w h).mono ?_; rintro e w' ⟨h1,h2,h3⟩; generalize comparisonP K.ts st=r at *; obtain ⟨o,s⟩:=r
 cases o with
 | some l =>
  obtain ⟨a,c,rfl,ho⟩:=h3; exact ⟨_,_,_,a,_,c,rfl,fun l2 hl=>(by cases hl; exact ⟨rfl,rfl,rfl,rfl,ho⟩),h1,h2⟩
 | none =>
  obtain ⟨op,nt,rel,a,n,c,rfl⟩:=h3; exact ⟨op,nt,rel,a,n,c,rfl,(fun l2 hl=>by cases hl),h1,h2⟩
theorem literalP_len (ts:List Tw) (st:PSt) (q:List Lt × List Ru) (h:(literalP ts st).1=some q):q.1.length≤3∧q.2.length≤1:=by
 have hE:∀ (f:Lt→Lt) (r:Option Lt × PSt),(litE f r).1=some q→q.1.length≤3∧q.2.length≤1:=by
  intro f r h; obtain ⟨o,s⟩:=r
  cases o with
  | none=>cases h
  | some l=>cases h; exact ⟨by show 1≤3; decide,by show 0≤1; decide⟩
 unfold literalP at h; split at h
 ·exact hE _ _ h
 ·split at h
  ·unfold onceP at h
   generalize atomP ts (nextP st)=r at h; obtain ⟨o,s⟩:=r
   cases o with
   | none=>cases h
   | some l =>
    replace h:(litsE (onceE ts l (sideP ts s))).1=some q:=h; generalize sideP ts s=r at h; obtain ⟨o,s⟩:=r
    cases o with
    | none=>cases h
    | some x=>cases h; exact ⟨by show 2≤3; decide,by show 0≤1; decide⟩
  ·split at h
   ·unfold neverP at h
    generalize atomP ts (nextP st)=r at h; obtain ⟨o,s⟩:=r
    cases o with
    | none=>cases h
    | some l =>
     replace h:(neverE ts l (sideP ts s)).1=some q:=h; generalize sideP ts s=r at h; obtain ⟨o,s⟩:=r
     cases o with
     | none=>cases h
     | some x=>cases h; exact ⟨by show 1≤3; decide,by show 1≤1; decide⟩
   ·split at h
    ·unfold sinceP at h
     generalize atomP ts (nextP st)=r at h; obtain ⟨o,s⟩:=r
     cases o with
     | none=>cases h
     | some l =>
      replace h:(if isP ts s 1 [110,111] then sinceM ts l (atomP ts (nextP s)) else (none,failP s)).1=some q:=h; split at h
      ·generalize atomP ts (nextP s)=r at h
       obtain ⟨o,s⟩:=r
       cases o with
       | none=>cases h
       | some m =>
        replace h:(if isP ts s 1 [97,116] then sinceE ts l m (termP ts (nextP s)) else (none,failP s)).1=some q:=h; split at h
        ·generalize termP ts (nextP s)=r at h
         obtain ⟨o,s⟩:=r
         cases o with
         | none=>cases h
         | some x=>cases h; exact ⟨by show 3≤3; decide,by show 1≤1; decide⟩
        ·cases h
      ·cases h
    ·split at h
     ·exact hE _ _ h
     ·exact hE _ _ h
theorem LitR.lift {pb:Nat} {K:PK} {w x w':World} {r:Option (List Lt × List Ru) × PSt} {v1 v2 ok:Value} (h:LitR pb K x r v1 v2 ok w') (hf:Fr (one pb) w x):LitR pb K w r v1 v2 ok w':=by
 obtain ⟨h1,h2,h3⟩:=h; refine ⟨h1,hf.trans h2,?_⟩; obtain ⟨o,s⟩:=r
 cases o with
 | none=>exact h3
 | some q =>
  obtain ⟨xs,ys,e,g1,g2,g3⟩:=h3; exact ⟨xs,ys,e,g1.mono goodLd fun k _ hk=>Nat.le_trans hf.size hk,g2.mono goodRu fun k _ hk=>Nat.le_trans hf.size hk,g3⟩
set_option maxHeartbeats 8000000 in
set_option maxRecDepth 100000 in
theorem literal_any (pb:Nat) (K:PK) (st:PSt) (w0 w:World) (h0:∃ s,PM pb K s w0) (hf0:Fr (one pb) w0 w) (h:PM pb K st w) (hT:TabN pb w) (hN:NamesOk K) (hv:st.vars+4 * (K.toks.length+1)≤4611686018427387904) (hv2:st.rels+4 * (K.toks.length+1)≤4611686018427387904)
  (r0:RuD) (rest:List RuD) (mv:Value) (hm:OwnR 27 7 RuR (from_ w0.heap.size) w (r0::rest) mv) (hn:((r0::rest).flatMap RuD.ids).Nodup) (hl1:r0.body.length≤500000) (hl2:rest.length≤500000) :
  Calls Tryz.prog 60 #[pt pb,mv] w (PMade pb K w0 r0.ru (rest.map RuD.ru) (literalP K.ts st)):=by
 obtain ⟨R,hR⟩:∃ R,R=literalP K.ts st:=⟨_,rfl⟩; rw [← hR]; replace hR:=hid hR; have hK0:=hid (Kp.start h); have hpl:=h.lt; replace hN:=hid hN; replace hT:=hid hT; have hp0:=hid (show Calls Tryz.prog 90 #[pt pb,.int .i64 0] w fun e w'=>e=.returned (.agg #[iv (tokK K st.nx).kind,sv (tokK K st.nx).text,iv (tokK K st.nx).n,iv (tokK K st.nx).pos])∧Below w.heap.size w w' from peek_any pb K st 0 (by decide) w h); have htl:=(h.tok_ok st.nx).2.2; have htl2:=(h.tok_ok (st.nx+1)).2.2; have htk:=tokK_w K st.nx; have htk2:=tokK_w K (st.nx+1); obtain ⟨t,ht⟩:∃ t,t=tokK K st.nx:=⟨_,rfl⟩; obtain ⟨u,hu⟩:∃ u,u=tokK K (st.nx+1):=⟨_,rfl⟩; rw [← ht] at hp0 htk; rw [← hu] at htk2; rw [← htk] at htl; rw [← htk2] at htl2; replace htl:t.text.length≤1048576:=htl
 replace htl2:u.text.length≤1048576:=htl2; replace htk:=hid htk; replace htk2:=hid htk2; replace ht:=hid ht; obtain ⟨ma,mc,rfl,-⟩:=hm.slice
 go_enter Tryz.func60,Tryz.ntmps60
 go_wp2_with fail
 with_reducible refine hp0.out.mono ?_
 rintro e w1 ⟨rfl,hb1⟩; have hK1:=hid ((hK0.out.below hb1).alloc (.cells #[iv t.kind,sv t.text,iv t.n,iv t.pos] 95)); have hT1:=hid (hT.out.below (hb1.trans (((Below.refl _ w1).alloc (Nat.le_refl _) (.cells #[iv t.kind,sv t.text,iv t.n,iv t.pos] 95)).mono hb1.size))); have hp1:=hid (show Calls Tryz.prog 90 #[pt pb,.int .i64 1] (w1.alloc (.cells #[iv t.kind,sv t.text,iv t.n,iv t.pos] 95)) fun e w'=>e=.returned (.agg #[iv (tokK K (st.nx+1)).kind,sv (tokK K (st.nx+1)).text,iv (tokK K (st.nx+1)).n,iv (tokK K (st.nx+1)).pos])∧Below (w1.alloc (.cells #[iv t.kind,sv t.text,iv t.n,iv t.pos] 95)).heap.size (w1.alloc (.cells #[iv t.kind,sv t.text,iv t.n,iv t.pos] 95)) w' from peek_any pb K st 1 (by decide) _ hK1.out.pm); rw [← hu] at hp1; replace hu:=hid hu
 clear hp0 hb1
 go_wp2_with fail
 with_reducible refine hp1.out.mono ?_
 rintro e w2 ⟨rfl,hb2⟩; have hK2:=hid ((hK1.out.below hb2).alloc (.cells #[iv u.kind,sv u.text,iv u.n,iv u.pos] 95)); have hT2:=hid (hT1.out.below (hb2.trans (((Below.refl _ w2).alloc (Nat.le_refl _) (.cells #[iv u.kind,sv u.text,iv u.n,iv u.pos] 95)).mono hb2.size))); clear hp1 hb2 hK1 hT1 hK0
 go_upto_block 0 with (fail)
 generalize hW3:w2.alloc (.cells #[iv u.kind,sv u.text,iv u.n,iv u.pos] 95)=W3 at *; clear hW3; have hK3:=hid (Kp.start hK2.out.pm); have rT:=hK2.out.nth (i:=1) (b:=w1.heap.size) (o:=.cells #[iv t.kind,sv t.text,iv t.n,iv t.pos] 95 (0,0)) rfl; have rU:=hK2.out.nth (i:=0) (b:=w2.heap.size) (o:=.cells #[iv u.kind,sv u.text,iv u.n,iv u.pos] 95 (0,0)) rfl
 go_cut [6,7,8] (fun v1 v2 ok wx=>Hid (LitR pb K W3 R v1 v2 ok wx))
 case first =>
  obtain ⟨z1,hz1⟩:∃ z,isP K.ts (st) 1 [110,111,116]=z:=⟨_,rfl⟩; have hmk1:=hid (pword_any pb K (st) [110,111,116] W3 hK3.out.pm)
  have hT1:takeP K.ts (st) 1 [110,111,116]=if z1 then (true,nextP (st)) else (false,(st)):=by unfold takeP; rw [hz1]
  rw [hT1] at hmk1; clear hT1; replace hz1:=hid hz1
  obtain ⟨R5,hR5⟩:∃ R5,R5=if t.kind=1∧relF t.text=true∧u.kind=4∧u.text=[40] then litE id (atomP K.ts st) else litE id (comparisonP K.ts st):=⟨_,rfl⟩
  obtain ⟨R4,hR4⟩:∃ R4,R4=if isP K.ts st 1 [115,105,110,99,101]=true then sinceP K.ts (nextP st) else R5:=⟨_,rfl⟩
  obtain ⟨R3,hR3⟩:∃ R3,R3=if isP K.ts st 1 [110,101,118,101,114]=true then neverP K.ts (nextP st) else R4:=⟨_,rfl⟩
  obtain ⟨R2,hR2⟩:∃ R2,R2=if isP K.ts st 1 [111,110,99,101]=true then litsE (onceP K.ts (nextP st)) else R3:=⟨_,rfl⟩
  replace hR:=hid (show R=if z1=true then litE neg (atomP K.ts (nextP st)) else R2 from by
   have e1:(tokP K.ts st.nx).kind=t.kind:=by rw [← htk.out]; rfl
   have e2:(tokP K.ts st.nx).text=t.text:=by rw [← htk.out]; rfl
   have e3:(tokP K.ts (st.nx+1)).kind=u.kind:=by rw [← htk2.out]; rfl
   have e4:(tokP K.ts (st.nx+1)).text=u.text:=by rw [← htk2.out]; rfl
   rw [hR.out,← hz1.out,hR2,hR3,hR4,hR5,← e1,← e2,← e3,← e4]; rfl)
  replace hR2:=hid hR2; replace hR3:=hid hR3; replace hR4:=hid hR4; replace hR5:=hid hR5
  have hnT:¬ w1.heap.size=pb:=by have:=hK2.out.geN (i:=1) (b:=w1.heap.size) (o:=.cells #[iv t.kind,sv t.text,iv t.n,iv t.pos] 95 (0,0)) rfl; omega
  have hnU:¬ w2.heap.size=pb:=by have:=hK2.out.geN (i:=0) (b:=w2.heap.size) (o:=.cells #[iv u.kind,sv u.text,iv u.n,iv u.pos] 95 (0,0)) rfl; omega
  go_wp2_with fail
  with_reducible refine hmk1.out.mono ?_
  rintro e x1 ⟨rfl,hM1,hf1⟩; have hKx1:=hid (hK3.out.call hM1 hf1); have hTx1:=hid (hT2.out.fr hf1); clear hmk1 hM1 hf1
  cases z1 with
  | true =>
   replace hR:=hid (show R=litE neg (atomP K.ts (nextP st)) from hR.out); replace hKx1:=hid (show Kp pb K (nextP st) W3 x1 _ from hKx1.out); have hKa:=hid (hKx1.out.alloc (.cells #[.int .i64 0,.bool false,.string ⟨#[]⟩,.slice none 0 0] 24)); have hat:=hid (atom_x pb K (nextP st) _ hKa.out.pm); obtain ⟨ra,hra⟩:∃ ra,ra=atomP K.ts (nextP st):=⟨_,rfl⟩; rw [← hra] at hat; replace hR:=hR.out; rw [← hra] at hR; replace hR:=hid hR; replace hra:=hid hra; obtain ⟨ol,s5⟩:=ra; obtain ⟨zz,hzz⟩:∃ z,ol.isSome=z:=⟨_,rfl⟩
   replace hat:=hid (show Calls Tryz.prog 63 #[pt pb] (x1.alloc (.cells #[.int .i64 0,.bool false,.string ⟨#[]⟩,.slice none 0 0] 24)) fun e w'=>∃ (op:Int) (nt:Bool) (rel:List UInt8) (a:Option Addr) (n c:Nat),e=.returned (.tuple #[.agg (lcells op nt rel (.slice a n c)),.bool zz])∧(∀ l,ol=some l→op=l.op∧nt=l.nt∧rel=l.rel∧n=l.args.length∧OwnR 63 7 FlR (from_ (x1.alloc (.cells #[.int .i64 0,.bool false,.string ⟨#[]⟩,.slice none 0 0] 24)).heap.size) w' l.args (.slice a l.args.length c))∧PM pb K s5 w'∧Fr (one pb) (x1.alloc (.cells #[.int .i64 0,.bool false,.string ⟨#[]⟩,.slice none 0 0] 24)) w' from by rw [← hzz]; exact hat.out); replace hzz:=hid hzz
   go_wp2_with fail
   with_reducible refine hat.out.mono ?_
   rintro e w5 ⟨op5,nt5,rel5,a5,n5,c5,rfl,hl5,hM5,hf5⟩; have hKb:=hid (hKa.out.call hM5 hf5); have hsb:=hid (show x1.heap.size < w5.heap.size from Nat.lt_of_lt_of_le (by simp) hf5.size); clear hM5 hf5 hat hKa; replace hl5:=hid hl5; have r0:=hKb.out.nth (i:=0) (b:=x1.heap.size) (o:=.cells (lcells 0 false [] (.slice none 0 0)) 24 (0,0)) rfl; have r1:=lt_set r0 op5 nt5 rel5 (.slice a5 n5 c5)
   have r2:((setLt w5 x1.heap.size op5 nt5 rel5 (.slice a5 n5 c5)).setCell ⟨x1.heap.size,1,none⟩ (.bool true)).heap[x1.heap.size]? = some (.cells (lcells op5 true rel5 (.slice a5 n5 c5)) 24 (0,0)):=by
    have:=heap_setCell_same r1 (i:=1) (.bool true); simpa using this
   have hKc:=hid ((hKb.out.turn (hKb.out.geN (i:=0) rfl) (fr_one_setLt op5 nt5 rel5 (.slice a5 n5 c5)) r1).turn (hKb.out.geN (i:=0) rfl) ((Fr.refl (one x1.heap.size) _).setCell (p:=⟨x1.heap.size,1,none⟩) (Or.inl (show one x1.heap.size x1.heap.size from rfl)) (.bool true)) r2); have hoth:=hid (fun (k:Nat) (hk:k≠x1.heap.size)=>(show ((setLt w5 x1.heap.size op5 nt5 rel5 (.slice a5 n5 c5)).setCell ⟨x1.heap.size,1,none⟩ (.bool true)).heap[k]? = w5.heap[k]? from (heap_setCell_other _ hk).trans (lt_other hk))); obtain ⟨j0,j1,j2,j3,jz⟩:=lt_cells (r1); have jz0:=jz 0; have jz1:=jz 1; have jz2:=jz 2; have jz3:=jz 3; clear jz; obtain ⟨q0,q1,q2,q3,qz⟩:=lt_cells (r0); have qz0:=qz 0; have qz1:=qz 1; have qz2:=qz 2; have qz3:=qz 3; clear qz; obtain ⟨m0,m1,m2,m3,mz⟩:=lt_cells (r2); clear mz
   have hsz2:=hid (show ((setLt w5 x1.heap.size op5 nt5 rel5 (.slice a5 n5 c5)).setCell ⟨x1.heap.size,1,none⟩ (.bool true)).heap.size=w5.heap.size from by simp [World.setCell]); have hKz:=hid (hKc.out.alloc (.cells (lcells op5 true rel5 (.slice a5 n5 c5)) 24)); have hlb:=hid (show (((setLt w5 x1.heap.size op5 nt5 rel5 (.slice a5 n5 c5)).setCell ⟨x1.heap.size,1,none⟩ (.bool true)).alloc (.cells (lcells op5 true rel5 (.slice a5 n5 c5)) 24)).heap[w5.heap.size]? = some (.cells (lcells op5 true rel5 (.slice a5 n5 c5)) 24 (0,0)) from by rw [← hsz2.out]; exact heap_alloc_new' _ _); replace r0:=hid r0; replace r1:=hid r1; replace r2:=hid r2
   go_wp2_with fail
   go_meet
   case rel =>
    refine hid ⟨?_,?_,?_⟩
    ·rw [hR.out]; exact hKz.out.pm
    ·exact hKz.out.fr
    ·rw [hR.out]
     cases ol with
     | none=>show Value.bool zz=.bool false; rw [← hzz.out]; rfl
     | some l =>
      obtain ⟨rfl,rfl,rfl,rfl,hO⟩:=hl5.out l rfl; have hge:=hKb.out.geN (i:=0) (b:=x1.heap.size) (o:=.cells (lcells 0 false [] (.slice none 0 0)) 24 (0,0)) rfl; have hs2:=hsz2.out; have hsb':=hsb.out; refine ⟨[(Value.ownBlock (.slice a5 l.args.length c5),neg l)],[],by rw [← hzz.out]; rfl,build_lits [(neg l,.slice a5 l.args.length c5)] hlb.out (by show 1≤maxLen; decide) (show W3.heap.size≤w5.heap.size by omega) (fun p hp=>?_),OwnR.nil _ _ _ _ _,rfl,rfl,?_⟩
      ·simp at hp; subst hp
       refine hO.move goodFl fun k hk hk2=>?_
       have hk3:x1.heap.size < k:=by have h8:(x1.alloc (.cells #[.int .i64 0,.bool false,.string ⟨#[]⟩,.slice none 0 0] 24)).heap.size=x1.heap.size+1:=(by simp); unfold from_ at hk2; omega
       exact ⟨⟨show W3.heap.size≤k by omega,by omega⟩,(Below.heap_alloc _ _ _ (by rw [hs2]; exact hk)).trans (hoth.out k (by omega))⟩
      ·rw [idsL_eq]; cases Value.ownBlock (.slice a5 l.args.length c5) <;> simp
  | false =>
   replace hKx1:=hid (show Kp pb K st W3 x1 _ from hKx1.out); obtain ⟨z2,hz2⟩:∃ z,isP K.ts (st) 1 [111,110,99,101]=z:=⟨_,rfl⟩; have hmk2:=hid (pword_any pb K (st) [111,110,99,101] x1 hKx1.out.pm)
   have hT2:takeP K.ts (st) 1 [111,110,99,101]=if z2 then (true,nextP (st)) else (false,(st)):=by unfold takeP; rw [hz2]
   rw [hT2] at hmk2; clear hT2; replace hz2:=hid hz2; replace hR:=hid (show R=if z2=true then litsE (onceP K.ts (nextP st)) else R3 from by rw [← hz2.out,← hR2.out]; exact hR.out)
   go_wp2_with fail
   with_reducible refine hmk2.out.mono ?_
   rintro e x2 ⟨rfl,hM2,hf2⟩; have hKx2:=hid (hKx1.out.call hM2 hf2); have hTx2:=hid (hTx1.out.fr hf2); clear hmk2 hM2 hf2
   cases z2 with
   | true=>exact absurd (hz2.out.symm.trans (noTw_at hN.out st).1) (by decide)
   | false =>
    replace hKx2:=hid (show Kp pb K st W3 x2 _ from hKx2.out); obtain ⟨z3,hz3⟩:∃ z,isP K.ts (st) 1 [110,101,118,101,114]=z:=⟨_,rfl⟩; have hmk3:=hid (pword_any pb K (st) [110,101,118,101,114] x2 hKx2.out.pm)
    have hT3:takeP K.ts (st) 1 [110,101,118,101,114]=if z3 then (true,nextP (st)) else (false,(st)):=by unfold takeP; rw [hz3]
    rw [hT3] at hmk3; clear hT3; replace hz3:=hid hz3; replace hR:=hid (show R=if z3=true then neverP K.ts (nextP st) else R4 from by rw [← hz3.out,← hR3.out]; exact hR.out)
    go_wp2_with fail
    with_reducible refine hmk3.out.mono ?_
    rintro e x3 ⟨rfl,hM3,hf3⟩; have hKx3:=hid (hKx2.out.call hM3 hf3); have hTx3:=hid (hTx2.out.fr hf3); clear hmk3 hM3 hf3
    cases z3 with
    | true=>exact absurd (hz3.out.symm.trans (noTw_at hN.out st).2.1) (by decide)
    | false =>
     replace hKx3:=hid (show Kp pb K st W3 x3 _ from hKx3.out); obtain ⟨z4,hz4⟩:∃ z,isP K.ts (st) 1 [115,105,110,99,101]=z:=⟨_,rfl⟩; have hmk4:=hid (pword_any pb K (st) [115,105,110,99,101] x3 hKx3.out.pm)
     have hT4:takeP K.ts (st) 1 [115,105,110,99,101]=if z4 then (true,nextP (st)) else (false,(st)):=by unfold takeP; rw [hz4]
     rw [hT4] at hmk4; clear hT4; replace hz4:=hid hz4; replace hR:=hid (show R=if z4=true then sinceP K.ts (nextP st) else R5 from by rw [← hz4.out,← hR4.out]; exact hR.out)
     go_wp2_with fail
     with_reducible refine hmk4.out.mono ?_
     rintro e x4 ⟨rfl,hM4,hf4⟩; have hKx4:=hid (hKx3.out.call hM4 hf4); have hTx4:=hid (hTx3.out.fr hf4); clear hmk4 hM4 hf4
     cases z4 with
     | true=>exact absurd (hz4.out.symm.trans (noTw_at hN.out st).2.2) (by decide)
     | false =>
      replace hR:=hid (show R=if t.kind=1∧relF t.text=true∧u.kind=4∧u.text=[40] then litE id (atomP K.ts st) else litE id (comparisonP K.ts st) from by rw [← hR5.out]; exact hR.out); replace hKx4:=hid (show Kp pb K st W3 x4 _ from hKx4.out); have rT4:=(hKx4.out.fr.block _ (lt_of_heap rT) hnT).trans rT; have rU4:=(hKx4.out.fr.block _ (lt_of_heap rU) hnU).trans rU; obtain ⟨d0,d1,d2,d3⟩:=tk_row rT4; obtain ⟨f0,f1,f2,f3⟩:=tk_row rU4; by_cases hk:t.kind=1
      ·have bk:(t.kind == 1)=true:=by simpa using hk
       have hrl:=hid (isRelation_any t.text x4 htl)
       cases hrf:relF t.text with
       | true =>
        rw [hrf] at hrl; by_cases hk4:u.kind=4
        ·have bk4:(u.kind == 4)=true:=by simpa using hk4
         by_cases hut:u.text=[40]
         ·have but:(u.text == [40])=true:=by simpa using hut
          replace hR:=hid (hR.out.trans (if_pos ⟨hk,hrf,hk4,hut⟩)); replace hk:=hid hk; replace hrf:=hid hrf; replace hk4:=hid hk4; replace hut:=hid hut
          go_wp2_with fail
          with_reducible refine hrl.out.mono ?_
          rintro e y4 ⟨rfl,hby⟩; have hKy:=hid (hKx4.out.below hby); obtain ⟨d0,d1,d2,d3⟩:=tk_row (below_keep hby rT4 (lt_of_heap rT4)); obtain ⟨f0,f1,f2,f3⟩:=tk_row (below_keep hby rU4 (lt_of_heap rU4))
          clear hrl hby
          have hKa:=hid (hKy.out.alloc (.cells #[.int .i64 0,.bool false,.string ⟨#[]⟩,.slice none 0 0] 24)); have hat:=hid (atom_x pb K (st) _ hKa.out.pm); obtain ⟨ra,hra⟩:∃ ra,ra=atomP K.ts (st):=⟨_,rfl⟩; rw [← hra] at hat; replace hR:=hR.out; rw [← hra] at hR; replace hR:=hid hR; replace hra:=hid hra; obtain ⟨ol,s5⟩:=ra; obtain ⟨zz,hzz⟩:∃ z,ol.isSome=z:=⟨_,rfl⟩
          replace hat:=hid (show Calls Tryz.prog 63 #[pt pb] (y4.alloc (.cells #[.int .i64 0,.bool false,.string ⟨#[]⟩,.slice none 0 0] 24)) fun e w'=>∃ (op:Int) (nt:Bool) (rel:List UInt8) (a:Option Addr) (n c:Nat),e=.returned (.tuple #[.agg (lcells op nt rel (.slice a n c)),.bool zz])∧(∀ l,ol=some l→op=l.op∧nt=l.nt∧rel=l.rel∧n=l.args.length∧OwnR 63 7 FlR (from_ (y4.alloc (.cells #[.int .i64 0,.bool false,.string ⟨#[]⟩,.slice none 0 0] 24)).heap.size) w' l.args (.slice a l.args.length c))∧PM pb K s5 w'∧Fr (one pb) (y4.alloc (.cells #[.int .i64 0,.bool false,.string ⟨#[]⟩,.slice none 0 0] 24)) w' from by rw [← hzz]; exact hat.out); replace hzz:=hid hzz
          go_wp2_with fail
          with_reducible refine hat.out.mono ?_
          rintro e w5 ⟨op5,nt5,rel5,a5,n5,c5,rfl,hl5,hM5,hf5⟩; have hKb:=hid (hKa.out.call hM5 hf5); have hsb:=hid (show y4.heap.size < w5.heap.size from Nat.lt_of_lt_of_le (by simp) hf5.size); clear hM5 hf5 hat hKa; replace hl5:=hid hl5; have r0:=hKb.out.nth (i:=0) (b:=y4.heap.size) (o:=.cells (lcells 0 false [] (.slice none 0 0)) 24 (0,0)) rfl; have r1:=lt_set r0 op5 nt5 rel5 (.slice a5 n5 c5); have r2:=r1; have hKc:=hid (hKb.out.turn (hKb.out.geN (i:=0) rfl) (fr_one_setLt op5 nt5 rel5 (.slice a5 n5 c5)) r1); have hoth:=hid (fun (k:Nat) (hk:k≠y4.heap.size)=>(show (setLt w5 y4.heap.size op5 nt5 rel5 (.slice a5 n5 c5)).heap[k]? = w5.heap[k]? from lt_other hk)); obtain ⟨q0,q1,q2,q3,qz⟩:=lt_cells (r0); have qz0:=qz 0; have qz1:=qz 1; have qz2:=qz 2; have qz3:=qz 3; clear qz
          obtain ⟨m0,m1,m2,m3,mz⟩:=lt_cells (r2); clear mz; have hsz2:=hid (show (setLt w5 y4.heap.size op5 nt5 rel5 (.slice a5 n5 c5)).heap.size=w5.heap.size from by simp [World.setCell]); have hKz:=hid (hKc.out.alloc (.cells (lcells op5 nt5 rel5 (.slice a5 n5 c5)) 24)); have hlb:=hid (show ((setLt w5 y4.heap.size op5 nt5 rel5 (.slice a5 n5 c5)).alloc (.cells (lcells op5 nt5 rel5 (.slice a5 n5 c5)) 24)).heap[w5.heap.size]? = some (.cells (lcells op5 nt5 rel5 (.slice a5 n5 c5)) 24 (0,0)) from by rw [← hsz2.out]; exact heap_alloc_new' _ _); replace r0:=hid r0; replace r1:=hid r1; replace r2:=hid r2
          go_wp2_with fail
          go_meet
          case rel =>
           refine hid ⟨?_,?_,?_⟩
           ·rw [hR.out]; exact hKz.out.pm
           ·exact hKz.out.fr
           ·rw [hR.out]
            cases ol with
            | none=>show Value.bool zz=.bool false; rw [← hzz.out]; rfl
            | some l =>
             obtain ⟨rfl,rfl,rfl,rfl,hO⟩:=hl5.out l rfl; have hge:=hKb.out.geN (i:=0) (b:=y4.heap.size) (o:=.cells (lcells 0 false [] (.slice none 0 0)) 24 (0,0)) rfl; have hs2:=hsz2.out; have hsb':=hsb.out; refine ⟨[(Value.ownBlock (.slice a5 l.args.length c5),id l)],[],by rw [← hzz.out]; rfl,build_lits [(id l,.slice a5 l.args.length c5)] hlb.out (by show 1≤maxLen; decide) (show W3.heap.size≤w5.heap.size by omega) (fun p hp=>?_),OwnR.nil _ _ _ _ _,rfl,rfl,?_⟩
             ·simp at hp; subst hp
              refine hO.move goodFl fun k hk hk2=>?_
              have hk3:y4.heap.size < k:=by have h8:(y4.alloc (.cells #[.int .i64 0,.bool false,.string ⟨#[]⟩,.slice none 0 0] 24)).heap.size=y4.heap.size+1:=(by simp); unfold from_ at hk2; omega
              exact ⟨⟨show W3.heap.size≤k by omega,by omega⟩,(Below.heap_alloc _ _ _ (by rw [hs2]; exact hk)).trans (hoth.out k (by omega))⟩
             ·rw [idsL_eq]; cases Value.ownBlock (.slice a5 l.args.length c5) <;> simp
         ·have but:(u.text == [40])=false:=by simpa using hut
          replace hR:=hid (hR.out.trans (if_neg (fun e=>hut e.2.2.2))); replace hk:=hid hk; replace hrf:=hid hrf; replace hk4:=hid hk4; replace hut:=hid hut
          go_wp2_with fail
          with_reducible refine hrl.out.mono ?_
          rintro e y4 ⟨rfl,hby⟩; have hKy:=hid (hKx4.out.below hby); obtain ⟨d0,d1,d2,d3⟩:=tk_row (below_keep hby rT4 (lt_of_heap rT4)); obtain ⟨f0,f1,f2,f3⟩:=tk_row (below_keep hby rU4 (lt_of_heap rU4))
          clear hrl hby
          have hKa:=hid (hKy.out.alloc (.cells #[.int .i64 0,.bool false,.string ⟨#[]⟩,.slice none 0 0] 24)); have hat:=hid (comparison_x pb K (st) _ hKa.out.pm); obtain ⟨ra,hra⟩:∃ ra,ra=comparisonP K.ts (st):=⟨_,rfl⟩; rw [← hra] at hat; replace hR:=hR.out; rw [← hra] at hR; replace hR:=hid hR; replace hra:=hid hra; obtain ⟨ol,s6⟩:=ra; obtain ⟨zz,hzz⟩:∃ z,ol.isSome=z:=⟨_,rfl⟩
          replace hat:=hid (show Calls Tryz.prog 96 #[pt pb] (y4.alloc (.cells #[.int .i64 0,.bool false,.string ⟨#[]⟩,.slice none 0 0] 24)) fun e w'=>∃ (op:Int) (nt:Bool) (rel:List UInt8) (a:Option Addr) (n c:Nat),e=.returned (.tuple #[.agg (lcells op nt rel (.slice a n c)),.bool zz])∧(∀ l,ol=some l→op=l.op∧nt=l.nt∧rel=l.rel∧n=l.args.length∧OwnR 63 7 FlR (from_ (y4.alloc (.cells #[.int .i64 0,.bool false,.string ⟨#[]⟩,.slice none 0 0] 24)).heap.size) w' l.args (.slice a l.args.length c))∧PM pb K s6 w'∧Fr (one pb) (y4.alloc (.cells #[.int .i64 0,.bool false,.string ⟨#[]⟩,.slice none 0 0] 24)) w' from by rw [← hzz]; exact hat.out); replace hzz:=hid hzz
          go_wp2_with fail
          with_reducible refine hat.out.mono ?_
          rintro e w6 ⟨op6,nt6,rel6,a6,n6,c6,rfl,hl6,hM6,hf6⟩; have hKb:=hid (hKa.out.call hM6 hf6); have hsb:=hid (show y4.heap.size < w6.heap.size from Nat.lt_of_lt_of_le (by simp) hf6.size); clear hM6 hf6 hat hKa; replace hl6:=hid hl6; have r0:=hKb.out.nth (i:=0) (b:=y4.heap.size) (o:=.cells (lcells 0 false [] (.slice none 0 0)) 24 (0,0)) rfl; have r1:=lt_set r0 op6 nt6 rel6 (.slice a6 n6 c6); have r2:=r1; have hKc:=hid (hKb.out.turn (hKb.out.geN (i:=0) rfl) (fr_one_setLt op6 nt6 rel6 (.slice a6 n6 c6)) r1); have hoth:=hid (fun (k:Nat) (hk:k≠y4.heap.size)=>(show (setLt w6 y4.heap.size op6 nt6 rel6 (.slice a6 n6 c6)).heap[k]? = w6.heap[k]? from lt_other hk)); obtain ⟨q0,q1,q2,q3,qz⟩:=lt_cells (r0); have qz0:=qz 0; have qz1:=qz 1; have qz2:=qz 2; have qz3:=qz 3; clear qz
          obtain ⟨m0,m1,m2,m3,mz⟩:=lt_cells (r2); clear mz; have hsz2:=hid (show (setLt w6 y4.heap.size op6 nt6 rel6 (.slice a6 n6 c6)).heap.size=w6.heap.size from by simp [World.setCell]); have hKz:=hid (hKc.out.alloc (.cells (lcells op6 nt6 rel6 (.slice a6 n6 c6)) 24)); have hlb:=hid (show ((setLt w6 y4.heap.size op6 nt6 rel6 (.slice a6 n6 c6)).alloc (.cells (lcells op6 nt6 rel6 (.slice a6 n6 c6)) 24)).heap[w6.heap.size]? = some (.cells (lcells op6 nt6 rel6 (.slice a6 n6 c6)) 24 (0,0)) from by rw [← hsz2.out]; exact heap_alloc_new' _ _); replace r0:=hid r0; replace r1:=hid r1; replace r2:=hid r2
          go_wp2_with fail
          go_meet
          case rel =>
           refine hid ⟨?_,?_,?_⟩
           ·rw [hR.out]; exact hKz.out.pm
           ·exact hKz.out.fr
           ·rw [hR.out]
            cases ol with
            | none=>show Value.bool zz=.bool false; rw [← hzz.out]; rfl
            | some l =>
             obtain ⟨rfl,rfl,rfl,rfl,hO⟩:=hl6.out l rfl; have hge:=hKb.out.geN (i:=0) (b:=y4.heap.size) (o:=.cells (lcells 0 false [] (.slice none 0 0)) 24 (0,0)) rfl; have hs2:=hsz2.out; have hsb':=hsb.out; refine ⟨[(Value.ownBlock (.slice a6 l.args.length c6),id l)],[],by rw [← hzz.out]; rfl,build_lits [(id l,.slice a6 l.args.length c6)] hlb.out (by show 1≤maxLen; decide) (show W3.heap.size≤w6.heap.size by omega) (fun p hp=>?_),OwnR.nil _ _ _ _ _,rfl,rfl,?_⟩
             ·simp at hp; subst hp
              refine hO.move goodFl fun k hk hk2=>?_
              have hk3:y4.heap.size < k:=by have h8:(y4.alloc (.cells #[.int .i64 0,.bool false,.string ⟨#[]⟩,.slice none 0 0] 24)).heap.size=y4.heap.size+1:=(by simp); unfold from_ at hk2; omega
              exact ⟨⟨show W3.heap.size≤k by omega,by omega⟩,(Below.heap_alloc _ _ _ (by rw [hs2]; exact hk)).trans (hoth.out k (by omega))⟩
             ·rw [idsL_eq]; cases Value.ownBlock (.slice a6 l.args.length c6) <;> simp
        ·have bk4:(u.kind == 4)=false:=by simpa using hk4
         replace hR:=hid (hR.out.trans (if_neg (fun e=>hk4 e.2.2.1))); replace hk:=hid hk; replace hrf:=hid hrf; replace hk4:=hid hk4
         go_wp2_with fail
         with_reducible refine hrl.out.mono ?_
         rintro e y4 ⟨rfl,hby⟩; have hKy:=hid (hKx4.out.below hby); obtain ⟨d0,d1,d2,d3⟩:=tk_row (below_keep hby rT4 (lt_of_heap rT4)); obtain ⟨f0,f1,f2,f3⟩:=tk_row (below_keep hby rU4 (lt_of_heap rU4))
         clear hrl hby
         have hKa:=hid (hKy.out.alloc (.cells #[.int .i64 0,.bool false,.string ⟨#[]⟩,.slice none 0 0] 24)); have hat:=hid (comparison_x pb K (st) _ hKa.out.pm); obtain ⟨ra,hra⟩:∃ ra,ra=comparisonP K.ts (st):=⟨_,rfl⟩; rw [← hra] at hat; replace hR:=hR.out; rw [← hra] at hR; replace hR:=hid hR; replace hra:=hid hra; obtain ⟨ol,s6⟩:=ra; obtain ⟨zz,hzz⟩:∃ z,ol.isSome=z:=⟨_,rfl⟩
         replace hat:=hid (show Calls Tryz.prog 96 #[pt pb] (y4.alloc (.cells #[.int .i64 0,.bool false,.string ⟨#[]⟩,.slice none 0 0] 24)) fun e w'=>∃ (op:Int) (nt:Bool) (rel:List UInt8) (a:Option Addr) (n c:Nat),e=.returned (.tuple #[.agg (lcells op nt rel (.slice a n c)),.bool zz])∧(∀ l,ol=some l→op=l.op∧nt=l.nt∧rel=l.rel∧n=l.args.length∧OwnR 63 7 FlR (from_ (y4.alloc (.cells #[.int .i64 0,.bool false,.string ⟨#[]⟩,.slice none 0 0] 24)).heap.size) w' l.args (.slice a l.args.length c))∧PM pb K s6 w'∧Fr (one pb) (y4.alloc (.cells #[.int .i64 0,.bool false,.string ⟨#[]⟩,.slice none 0 0] 24)) w' from by rw [← hzz]; exact hat.out); replace hzz:=hid hzz
         go_wp2_with fail
         with_reducible refine hat.out.mono ?_
         rintro e w6 ⟨op6,nt6,rel6,a6,n6,c6,rfl,hl6,hM6,hf6⟩; have hKb:=hid (hKa.out.call hM6 hf6); have hsb:=hid (show y4.heap.size < w6.heap.size from Nat.lt_of_lt_of_le (by simp) hf6.size); clear hM6 hf6 hat hKa; replace hl6:=hid hl6; have r0:=hKb.out.nth (i:=0) (b:=y4.heap.size) (o:=.cells (lcells 0 false [] (.slice none 0 0)) 24 (0,0)) rfl; have r1:=lt_set r0 op6 nt6 rel6 (.slice a6 n6 c6); have r2:=r1; have hKc:=hid (hKb.out.turn (hKb.out.geN (i:=0) rfl) (fr_one_setLt op6 nt6 rel6 (.slice a6 n6 c6)) r1); have hoth:=hid (fun (k:Nat) (hk:k≠y4.heap.size)=>(show (setLt w6 y4.heap.size op6 nt6 rel6 (.slice a6 n6 c6)).heap[k]? = w6.heap[k]? from lt_other hk)); obtain ⟨q0,q1,q2,q3,qz⟩:=lt_cells (r0); have qz0:=qz 0; have qz1:=qz 1; have qz2:=qz 2; have qz3:=qz 3; clear qz
         obtain ⟨m0,m1,m2,m3,mz⟩:=lt_cells (r2); clear mz; have hsz2:=hid (show (setLt w6 y4.heap.size op6 nt6 rel6 (.slice a6 n6 c6)).heap.size=w6.heap.size from by simp [World.setCell]); have hKz:=hid (hKc.out.alloc (.cells (lcells op6 nt6 rel6 (.slice a6 n6 c6)) 24)); have hlb:=hid (show ((setLt w6 y4.heap.size op6 nt6 rel6 (.slice a6 n6 c6)).alloc (.cells (lcells op6 nt6 rel6 (.slice a6 n6 c6)) 24)).heap[w6.heap.size]? = some (.cells (lcells op6 nt6 rel6 (.slice a6 n6 c6)) 24 (0,0)) from by rw [← hsz2.out]; exact heap_alloc_new' _ _); replace r0:=hid r0; replace r1:=hid r1; replace r2:=hid r2
         go_wp2_with fail
         go_meet
         case rel =>
          refine hid ⟨?_,?_,?_⟩
          ·rw [hR.out]; exact hKz.out.pm
          ·exact hKz.out.fr
          ·rw [hR.out]
           cases ol with
           | none=>show Value.bool zz=.bool false; rw [← hzz.out]; rfl
           | some l =>
            obtain ⟨rfl,rfl,rfl,rfl,hO⟩:=hl6.out l rfl; have hge:=hKb.out.geN (i:=0) (b:=y4.heap.size) (o:=.cells (lcells 0 false [] (.slice none 0 0)) 24 (0,0)) rfl; have hs2:=hsz2.out; have hsb':=hsb.out; refine ⟨[(Value.ownBlock (.slice a6 l.args.length c6),id l)],[],by rw [← hzz.out]; rfl,build_lits [(id l,.slice a6 l.args.length c6)] hlb.out (by show 1≤maxLen; decide) (show W3.heap.size≤w6.heap.size by omega) (fun p hp=>?_),OwnR.nil _ _ _ _ _,rfl,rfl,?_⟩
            ·simp at hp; subst hp
             refine hO.move goodFl fun k hk hk2=>?_
             have hk3:y4.heap.size < k:=by have h8:(y4.alloc (.cells #[.int .i64 0,.bool false,.string ⟨#[]⟩,.slice none 0 0] 24)).heap.size=y4.heap.size+1:=(by simp); unfold from_ at hk2; omega
             exact ⟨⟨show W3.heap.size≤k by omega,by omega⟩,(Below.heap_alloc _ _ _ (by rw [hs2]; exact hk)).trans (hoth.out k (by omega))⟩
            ·rw [idsL_eq]; cases Value.ownBlock (.slice a6 l.args.length c6) <;> simp
       | false =>
        rw [hrf] at hrl; replace hR:=hid (hR.out.trans (if_neg (fun e=>by rw [hrf] at e; exact absurd e.2.1 (by decide)))); replace hk:=hid hk; replace hrf:=hid hrf
        go_wp2_with fail
        with_reducible refine hrl.out.mono ?_
        rintro e y4 ⟨rfl,hby⟩; have hKy:=hid (hKx4.out.below hby); obtain ⟨d0,d1,d2,d3⟩:=tk_row (below_keep hby rT4 (lt_of_heap rT4)); obtain ⟨f0,f1,f2,f3⟩:=tk_row (below_keep hby rU4 (lt_of_heap rU4))
        clear hrl hby
        have hKa:=hid (hKy.out.alloc (.cells #[.int .i64 0,.bool false,.string ⟨#[]⟩,.slice none 0 0] 24)); have hat:=hid (comparison_x pb K (st) _ hKa.out.pm); obtain ⟨ra,hra⟩:∃ ra,ra=comparisonP K.ts (st):=⟨_,rfl⟩; rw [← hra] at hat; replace hR:=hR.out; rw [← hra] at hR; replace hR:=hid hR; replace hra:=hid hra; obtain ⟨ol,s6⟩:=ra; obtain ⟨zz,hzz⟩:∃ z,ol.isSome=z:=⟨_,rfl⟩
        replace hat:=hid (show Calls Tryz.prog 96 #[pt pb] (y4.alloc (.cells #[.int .i64 0,.bool false,.string ⟨#[]⟩,.slice none 0 0] 24)) fun e w'=>∃ (op:Int) (nt:Bool) (rel:List UInt8) (a:Option Addr) (n c:Nat),e=.returned (.tuple #[.agg (lcells op nt rel (.slice a n c)),.bool zz])∧(∀ l,ol=some l→op=l.op∧nt=l.nt∧rel=l.rel∧n=l.args.length∧OwnR 63 7 FlR (from_ (y4.alloc (.cells #[.int .i64 0,.bool false,.string ⟨#[]⟩,.slice none 0 0] 24)).heap.size) w' l.args (.slice a l.args.length c))∧PM pb K s6 w'∧Fr (one pb) (y4.alloc (.cells #[.int .i64 0,.bool false,.string ⟨#[]⟩,.slice none 0 0] 24)) w' from by rw [← hzz]; exact hat.out); replace hzz:=hid hzz
        go_wp2_with fail
        with_reducible refine hat.out.mono ?_
        rintro e w6 ⟨op6,nt6,rel6,a6,n6,c6,rfl,hl6,hM6,hf6⟩; have hKb:=hid (hKa.out.call hM6 hf6); have hsb:=hid (show y4.heap.size < w6.heap.size from Nat.lt_of_lt_of_le (by simp) hf6.size); clear hM6 hf6 hat hKa; replace hl6:=hid hl6; have r0:=hKb.out.nth (i:=0) (b:=y4.heap.size) (o:=.cells (lcells 0 false [] (.slice none 0 0)) 24 (0,0)) rfl; have r1:=lt_set r0 op6 nt6 rel6 (.slice a6 n6 c6); have r2:=r1; have hKc:=hid (hKb.out.turn (hKb.out.geN (i:=0) rfl) (fr_one_setLt op6 nt6 rel6 (.slice a6 n6 c6)) r1); have hoth:=hid (fun (k:Nat) (hk:k≠y4.heap.size)=>(show (setLt w6 y4.heap.size op6 nt6 rel6 (.slice a6 n6 c6)).heap[k]? = w6.heap[k]? from lt_other hk)); obtain ⟨q0,q1,q2,q3,qz⟩:=lt_cells (r0); have qz0:=qz 0; have qz1:=qz 1; have qz2:=qz 2; have qz3:=qz 3; clear qz
        obtain ⟨m0,m1,m2,m3,mz⟩:=lt_cells (r2); clear mz; have hsz2:=hid (show (setLt w6 y4.heap.size op6 nt6 rel6 (.slice a6 n6 c6)).heap.size=w6.heap.size from by simp [World.setCell]); have hKz:=hid (hKc.out.alloc (.cells (lcells op6 nt6 rel6 (.slice a6 n6 c6)) 24)); have hlb:=hid (show ((setLt w6 y4.heap.size op6 nt6 rel6 (.slice a6 n6 c6)).alloc (.cells (lcells op6 nt6 rel6 (.slice a6 n6 c6)) 24)).heap[w6.heap.size]? = some (.cells (lcells op6 nt6 rel6 (.slice a6 n6 c6)) 24 (0,0)) from by rw [← hsz2.out]; exact heap_alloc_new' _ _); replace r0:=hid r0; replace r1:=hid r1; replace r2:=hid r2
        go_wp2_with fail
        go_meet
        case rel =>
         refine hid ⟨?_,?_,?_⟩
         ·rw [hR.out]; exact hKz.out.pm
         ·exact hKz.out.fr
         ·rw [hR.out]
          cases ol with
          | none=>show Value.bool zz=.bool false; rw [← hzz.out]; rfl
          | some l =>
           obtain ⟨rfl,rfl,rfl,rfl,hO⟩:=hl6.out l rfl; have hge:=hKb.out.geN (i:=0) (b:=y4.heap.size) (o:=.cells (lcells 0 false [] (.slice none 0 0)) 24 (0,0)) rfl; have hs2:=hsz2.out; have hsb':=hsb.out; refine ⟨[(Value.ownBlock (.slice a6 l.args.length c6),id l)],[],by rw [← hzz.out]; rfl,build_lits [(id l,.slice a6 l.args.length c6)] hlb.out (by show 1≤maxLen; decide) (show W3.heap.size≤w6.heap.size by omega) (fun p hp=>?_),OwnR.nil _ _ _ _ _,rfl,rfl,?_⟩
           ·simp at hp; subst hp
            refine hO.move goodFl fun k hk hk2=>?_
            have hk3:y4.heap.size < k:=by have h8:(y4.alloc (.cells #[.int .i64 0,.bool false,.string ⟨#[]⟩,.slice none 0 0] 24)).heap.size=y4.heap.size+1:=(by simp); unfold from_ at hk2; omega
            exact ⟨⟨show W3.heap.size≤k by omega,by omega⟩,(Below.heap_alloc _ _ _ (by rw [hs2]; exact hk)).trans (hoth.out k (by omega))⟩
           ·rw [idsL_eq]; cases Value.ownBlock (.slice a6 l.args.length c6) <;> simp
      ·have bk:(t.kind == 1)=false:=by simpa using hk
       replace hR:=hid (hR.out.trans (if_neg (fun e=>hk e.1))); replace hk:=hid hk; have hKa:=hid (hKx4.out.alloc (.cells #[.int .i64 0,.bool false,.string ⟨#[]⟩,.slice none 0 0] 24)); have hat:=hid (comparison_x pb K (st) _ hKa.out.pm); obtain ⟨ra,hra⟩:∃ ra,ra=comparisonP K.ts (st):=⟨_,rfl⟩; rw [← hra] at hat; replace hR:=hR.out; rw [← hra] at hR; replace hR:=hid hR; replace hra:=hid hra; obtain ⟨ol,s6⟩:=ra; obtain ⟨zz,hzz⟩:∃ z,ol.isSome=z:=⟨_,rfl⟩
       replace hat:=hid (show Calls Tryz.prog 96 #[pt pb] (x4.alloc (.cells #[.int .i64 0,.bool false,.string ⟨#[]⟩,.slice none 0 0] 24)) fun e w'=>∃ (op:Int) (nt:Bool) (rel:List UInt8) (a:Option Addr) (n c:Nat),e=.returned (.tuple #[.agg (lcells op nt rel (.slice a n c)),.bool zz])∧(∀ l,ol=some l→op=l.op∧nt=l.nt∧rel=l.rel∧n=l.args.length∧OwnR 63 7 FlR (from_ (x4.alloc (.cells #[.int .i64 0,.bool false,.string ⟨#[]⟩,.slice none 0 0] 24)).heap.size) w' l.args (.slice a l.args.length c))∧PM pb K s6 w'∧Fr (one pb) (x4.alloc (.cells #[.int .i64 0,.bool false,.string ⟨#[]⟩,.slice none 0 0] 24)) w' from by rw [← hzz]; exact hat.out); replace hzz:=hid hzz
       go_wp2_with fail
       with_reducible refine hat.out.mono ?_
       rintro e w6 ⟨op6,nt6,rel6,a6,n6,c6,rfl,hl6,hM6,hf6⟩; have hKb:=hid (hKa.out.call hM6 hf6); have hsb:=hid (show x4.heap.size < w6.heap.size from Nat.lt_of_lt_of_le (by simp) hf6.size); clear hM6 hf6 hat hKa; replace hl6:=hid hl6; have r0:=hKb.out.nth (i:=0) (b:=x4.heap.size) (o:=.cells (lcells 0 false [] (.slice none 0 0)) 24 (0,0)) rfl; have r1:=lt_set r0 op6 nt6 rel6 (.slice a6 n6 c6); have r2:=r1; have hKc:=hid (hKb.out.turn (hKb.out.geN (i:=0) rfl) (fr_one_setLt op6 nt6 rel6 (.slice a6 n6 c6)) r1); have hoth:=hid (fun (k:Nat) (hk:k≠x4.heap.size)=>(show (setLt w6 x4.heap.size op6 nt6 rel6 (.slice a6 n6 c6)).heap[k]? = w6.heap[k]? from lt_other hk)); obtain ⟨q0,q1,q2,q3,qz⟩:=lt_cells (r0); have qz0:=qz 0; have qz1:=qz 1; have qz2:=qz 2; have qz3:=qz 3; clear qz
       obtain ⟨m0,m1,m2,m3,mz⟩:=lt_cells (r2); clear mz; have hsz2:=hid (show (setLt w6 x4.heap.size op6 nt6 rel6 (.slice a6 n6 c6)).heap.size=w6.heap.size from by simp [World.setCell]); have hKz:=hid (hKc.out.alloc (.cells (lcells op6 nt6 rel6 (.slice a6 n6 c6)) 24)); have hlb:=hid (show ((setLt w6 x4.heap.size op6 nt6 rel6 (.slice a6 n6 c6)).alloc (.cells (lcells op6 nt6 rel6 (.slice a6 n6 c6)) 24)).heap[w6.heap.size]? = some (.cells (lcells op6 nt6 rel6 (.slice a6 n6 c6)) 24 (0,0)) from by rw [← hsz2.out]; exact heap_alloc_new' _ _); replace r0:=hid r0; replace r1:=hid r1; replace r2:=hid r2
       go_wp2_with fail
       go_meet
       case rel =>
        refine hid ⟨?_,?_,?_⟩
        ·rw [hR.out]; exact hKz.out.pm
        ·exact hKz.out.fr
        ·rw [hR.out]
         cases ol with
         | none=>show Value.bool zz=.bool false; rw [← hzz.out]; rfl
         | some l =>
          obtain ⟨rfl,rfl,rfl,rfl,hO⟩:=hl6.out l rfl; have hge:=hKb.out.geN (i:=0) (b:=x4.heap.size) (o:=.cells (lcells 0 false [] (.slice none 0 0)) 24 (0,0)) rfl; have hs2:=hsz2.out; have hsb':=hsb.out; refine ⟨[(Value.ownBlock (.slice a6 l.args.length c6),id l)],[],by rw [← hzz.out]; rfl,build_lits [(id l,.slice a6 l.args.length c6)] hlb.out (by show 1≤maxLen; decide) (show W3.heap.size≤w6.heap.size by omega) (fun p hp=>?_),OwnR.nil _ _ _ _ _,rfl,rfl,?_⟩
          ·simp at hp; subst hp
           refine hO.move goodFl fun k hk hk2=>?_
           have hk3:x4.heap.size < k:=by have h8:(x4.alloc (.cells #[.int .i64 0,.bool false,.string ⟨#[]⟩,.slice none 0 0] 24)).heap.size=x4.heap.size+1:=(by simp); unfold from_ at hk2; omega
           exact ⟨⟨show W3.heap.size≤k by omega,by omega⟩,(Below.heap_alloc _ _ _ (by rw [hs2]; exact hk)).trans (hoth.out k (by omega))⟩
          ·rw [idsL_eq]; cases Value.ownBlock (.slice a6 l.args.length c6) <;> simp
 case rest =>
  obtain ⟨hP,hF,hres⟩:=hcut.out
  have hlen:=fun q (h:R.1=some q)=>literalP_len K.ts st q (by rw [← hR.out]; exact h)
  obtain ⟨s0,hs0⟩:=h0; have hpw0:=hs0.lt; have hFw:Fr (one pb) w wc:=hK2.out.fr.trans hF; have hF0:=hid (hf0.trans hFw); obtain ⟨ro,s5⟩:=R; replace hR:=hid hR
  cases ro with
  | none =>
   replace hres:u8=.bool false:=hres; subst hres; replace hP:=hid hP
   go_wp2_with fail
   go_ret2
   exact ⟨hP.out,hF0.out,rfl⟩
  | some q =>
   obtain ⟨xs,ys,e8,h1,h2,e1,e2,hd⟩:=hres; subst e8; obtain ⟨l1,l2⟩:=hlen q rfl
   have l3:xs.length≤3:=by rw [← e1] at l1; simpa using l1
   have l4:ys.length≤1:=by rw [← e2] at l2; simpa using l2
   have hw3:=hK2.out.fr.size; have hmc:=hm.fr goodRu hFw (fun q hq e=>by unfold from_ at hq; unfold one at e; omega)
   obtain ⟨g,mc',ab,cb,emv,c6,aA,cA,W5,run1,⟨ug,k6⟩,f6,a2,c2,W6,zs,run2,hO,hzm,hzn,hfz⟩:=made_push (N0:=W3.heap.size) hmc hn (fun k hk=>by
    rcases hk with hk | hk
    ·have:=(rules_lt hm k hk).2; omega
    ·have:=hm.lt hk; omega) (fun k hk=>by have:=hf0.size; unfold from_; omega) h1 h2 hd hF.size (by omega) (by simp; omega)
   injection emv with ema en emc; subst ema; subst emc; clear en
   have hidx:∀ kd W,(Instr.indexAt 30 (.slice (some ⟨g,0,none⟩) (r0::rest).length mc) (.int kd 0)).run Tryz.prog W=.ok (.pointer (some ⟨g,0,none⟩)) W:=fun kd W=>by
    have:=row_idx (P:=Tryz.prog) (t:=30) (sz:=7) (a:=some ⟨g,0,none⟩) (b:=g) (off:=0) (by kernel_rfl) (fun _=>by kernel_rfl) rfl (r0::rest).length mc 0 (by simp) kd W; simpa using this
   obtain ⟨va1,vc1,rfl,-⟩:=h1.slice; obtain ⟨va2,vc2,rfl,-⟩:=h2.slice; have hF6:=hid (show Fr (one pb) w0 W6 from hF0.out.trans' hfz (fun _ x=>x) (fun k hk e=>by unfold from_ at e; omega)); have hP6:=hid (hs0.base hF6.out hP (hfz.block pb hP.lt (fun e=>by unfold from_ at e; omega))); replace hO:=hid hO; replace hzm:=hid hzm; replace hzn:=hid hzn; clear hP hF hFw h1 h2 hd hfz hmc
   go_wp2_with (first | (at_builtin; refine wpList_append_shut rfl (.tmp 94) (.tmp 95) rfl rfl rfl run1 ?_) | (at_builtin; refine wpList_append_shut rfl (.tmp 99) (.tmp 100) rfl rfl rfl run2 ?_))
   go_ret2
   refine ⟨hP6.out,hF6.out,_,zs,rfl,hO.out,?_,hzn.out⟩; rw [hzm.out,e1,e2]
end Go.Proofs.YtffdpoifdahadaaGreatDoor
