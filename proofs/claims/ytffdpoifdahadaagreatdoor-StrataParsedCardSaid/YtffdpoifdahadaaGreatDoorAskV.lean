/- AskV: AskN, AskR, AskV, in one text. -/
import Derived.Test.YtffdpoifdahadaaGreatDoorAskL
set_option linter.unusedVariables false
set_option linter.unusedSimpArgs false
set_option maxHeartbeats 40000000
set_option maxRecDepth 100000
namespace Go.Proofs.YtffdpoifdahadaaGreatDoor
open Go.RowKit
open Go.Lib (hid itoa)
structure Kp (pb:Nat) (K:PK) (st:PSt) (w W:World) (rows:List (Nat × Obj)):Prop where
 base:∃ s,PM pb K s w
 pm:PM pb K st W
 fr:Fr (one pb) w W
 row:∀ r∈rows,W.heap[r.1]? = some r.2
 ge:∀ r∈rows,w.heap.size<=r.1
section
variable {pb:Nat} {K:PK} {st st':PSt} {w W W':World} {rows:List (Nat × Obj)}
theorem Kp.start (h:PM pb K st w):Kp pb K st w w []:=⟨⟨st,h⟩,h,Fr.refl _ _,fun r h=>by simp at h,fun r h=>by simp at h⟩
theorem Kp.pb_lt (h:Kp pb K st w W rows):pb < w.heap.size:=by obtain ⟨s,hs⟩:=h.base; exact hs.lt
theorem Kp.call (h:Kp pb K st w W rows) (hp:PM pb K st' W') (hf:Fr (one pb) W W'):Kp pb K st' w W' rows :=
 ⟨h.base,hp,h.fr.trans hf,fun r hr=>(hf.block _ (ae (h.row r hr)) (fun e=>by have h1:=h.pb_lt; have h2:=h.ge r hr; unfold one at e; omega)).trans (h.row r hr),h.ge⟩
theorem Kp.below (h:Kp pb K st w W rows) (hb:Below W.heap.size W W'):Kp pb K st w W' rows:=h.call (h.pm.below hb) (Fr.of_below hb _)
theorem Kp.alloc (h:Kp pb K st w W rows) (o:Obj):Kp pb K st w (W.alloc o) ((W.heap.size,o)::rows):=by
 have hk:=h.below ((zN _ W).alloc (zM _) o); exact ⟨hk.base,hk.pm,hk.fr,fun r hr=>by rcases List.mem_cons.1 hr with rfl | hr; exact af _ _; exact hk.row r hr,fun r hr=>by rcases List.mem_cons.1 hr with rfl | hr; exact h.fr.size; exact h.ge r hr⟩
theorem Kp.drew (h:Kp pb K st w W rows):Kp pb K st w W.drew rows:=h.below ((zN _ _).drew)
theorem Kp.nth (h:Kp pb K st w W rows) {i b:Nat} {o:Obj} (hi:rows[i]? = some (b,o)):W.heap[b]? = some o:=h.row (b,o) (zU hi)
theorem Kp.geN (h:Kp pb K st w W rows) {i b:Nat} {o:Obj} (hi:rows[i]? = some (b,o)):w.heap.size<=b:=h.ge (b,o) (zU hi)
theorem Kp.sub (h:Kp pb K st w W rows) {rows':List (Nat × Obj)} (hs:∀ r∈rows',r∈rows):Kp pb K st w W rows':=⟨h.base,h.pm,h.fr,fun r hr=>h.row r (hs r hr),fun r hr=>h.ge r (hs r hr)⟩
theorem Kp.turn (h:Kp pb K st w W rows) {b:Nat} {o:Obj} (hb:w.heap.size<=b) (hf:Fr (one b) W W') (ho:W'.heap[b]? = some o):Kp pb K st w W' ((b,o)::rows.filter fun r=>r.1 != b):=by
 obtain ⟨s,hs⟩:=h.base; have hF:Fr (one pb) w W':=h.fr.trans' hf (fun _ x=>x) (fun k hk e=>by unfold one at e; omega); refine ⟨h.base,hs.fr hF ((hf.block pb h.pm.lt (fun e=>by have:=hs.lt; unfold one at e; omega)).trans h.pm.blk) h.pm.nx,hF,fun r hr=>?_,fun r hr=>?_⟩
 ·rcases List.mem_cons.1 hr with rfl | hr
  ·exact ho
  ·obtain ⟨h1,h2⟩:=List.mem_filter.1 hr
   exact (hf.block _ (ae (h.row r h1)) (fun e=>by unfold one at e; simp [e] at h2)).trans (h.row r h1)
 ·rcases List.mem_cons.1 hr with rfl | hr
  ·exact hb
  ·exact h.ge r (List.mem_filter.1 hr).1
end
theorem dZ {w:World} {R:Nat} (t:Tm):Fr (one R) w (setTm w R t) :=
 (((((((Fr.refl (one R) w).setCell (p:=⟨R,0,none⟩) (Or.inl (show one R R from rfl)) _).setCell (p:=⟨R,1,none⟩) (Or.inl (show one R R from rfl)) _).setCell (p:=⟨R,2,none⟩) (Or.inl (show one R R from rfl)) _).setCell (p:=⟨R,3,none⟩) (Or.inl (show one R R from rfl)) _).setCell (p:=⟨R,4,none⟩) (Or.inl (show one R R from rfl)) _).setCell (p:=⟨R,5,none⟩) (Or.inl (show one R R from rfl)) _).setCell (p:=⟨R,6,none⟩) (Or.inl (show one R R from rfl)) _
theorem dp {w:World} {R:Nat} (op:Int) (nt:Bool) (rel:List UInt8) (v:Value):Fr (one R) w (setLt w R op nt rel v) :=
 ((((Fr.refl (one R) w).setCell (p:=⟨R,0,none⟩) (Or.inl (show one R R from rfl)) _).setCell (p:=⟨R,1,none⟩) (Or.inl (show one R R from rfl)) _).setCell (p:=⟨R,2,none⟩) (Or.inl (show one R R from rfl)) _).setCell (p:=⟨R,3,none⟩) (Or.inl (show one R R from rfl)) _
abbrev ck (o:Int × Bool):Array Value:=#[iv o.1,.bool o.2]
noncomputable def opsV:Lit->Option Value:=fun kl=>match kl with
 | .string s=>(ir s).map fun o=>.agg (ck o)
 | _=>none
theorem x_ (kl:Lit) (hk:WideAt.IsKeyLit kl):opsV kl=putF (putF (putF (putF (putF (putF (fun _=>none) (.string [61]) (.agg (ck (1,false)))) (.string [33,61]) (.agg (ck (2,false)))) (.string [60]) (.agg (ck (3,false)))) (.string [60,61]) (.agg (ck (4,false)))) (.string [62]) (.agg (ck (3,true)))) (.string [62,61]) (.agg (ck (4,true))) kl:=by
 unfold opsV putF
 cases kl with
 | string s =>
  unfold ir; by_cases h1:s=[61]
  ·subst h1; simp
  by_cases h2:s=[33,61]
  ·subst h2; simp
  by_cases h3:s=[60]
  ·subst h3; simp
  by_cases h4:s=[60,61]
  ·subst h4; simp
  by_cases h5:s=[62]
  ·subst h5; simp
  by_cases h6:s=[62,61]
  ·subst h6; simp
  simp [h1,h2,h3,h4,h5,h6]
 | _=>simp
theorem Kp.finLt {pb:Nat} {K:PK} {st:PSt} {w W:World} {rows:List (Nat × Obj)} (h:Kp pb K st w W rows) {o0:Int} {n0:Bool} {r0:List UInt8} {v0:Value} (hr:W.heap[w.heap.size]? = some (.cells (ap o0 n0 r0 v0) 24 (0,0))) (op:Int) (nt:Bool) (rel:List UInt8) (v:Value) :
  PM pb K st (setLt W w.heap.size op nt rel v)/\Fr (one pb) w (setLt W w.heap.size op nt rel v)/\(setLt W w.heap.size op nt rel v).heap[w.heap.size]? = some (.cells (ap op nt rel v) 24 (0,0)):=by
 have h1:=e_ hr op nt rel v; have h2:=h.turn (zM _) (dp op nt rel v) h1; exact ⟨h2.pm,h2.fr,h1⟩
def zF (ts:List Tw) (a:Tm) (s1:PSt):Option (Int × Bool)->Option Lt × PSt
 | none=>(none,bf s1)
 | some o=>lh ts o.1 o.2 a (aT ts (am s1))
def cmp1 (ts:List Tw):Option Tm × PSt->Option Lt × PSt
 | (none,s)=>(none,s)
 | (some a,s1)=>if (br ts s1.nx).kind=4 then zF ts a s1 (ir (br ts s1.nx).text) else (none,bf s1)
theorem nf (ts:List Tw) (st:PSt):aV ts st=cmp1 ts (aT ts st):=by
 unfold aV; generalize aT ts st=r; obtain ⟨o,s⟩:=r
 cases o with
 | none=>rfl
 | some a =>
  show _=if (br ts s.nx).kind=4 then zF ts a s (ir (br ts s.nx).text) else (none,bf s)
  by_cases h:(br ts s.nx).kind=4
  ·rw [if_pos h]
   simp only [h,if_true]; cases ir (br ts s.nx).text <;> rfl
  ·rw [if_neg h]; simp only [h,if_false]
theorem vW {mb:Nat} {w:World} (h:bR Tryz.prog 9 mb 6 opsV w) (s:List UInt8) (hs:s.length<=1048576) :
  (Instr.lookup 186 (.map (some mb)) (sv s) true).run Tryz.prog w=.ok (.tuple #[.agg (ck ((ir s).getD (0,false))),.bool (ir s).isSome]) w:=by
 have:=h.look_ok (Maps.string_keyed Tryz.underlying9) (t:=186) (e:=185) Tryz.underlying186 (z:=.agg (ck (0,false))) (by kernel_rfl) (dX s hs) trivial; rw [this]; show (Result.ok (Value.tuple #[((ir s).map fun o=>Value.agg (ck o)).getD (.agg (ck (0,false))),.bool ((ir s).map fun o=>Value.agg (ck o)).isSome]) w:Result Value)=_; cases ir s <;> rfl
theorem mP (pb:Nat) (K:PK) (st:PSt) (w:World) (h:PM pb K st w) :
  Calls Tryz.prog 96 #[pt pb] w (PLit pb K w (aV K.ts st)):=by
 rw [nf]; obtain ⟨R,hR⟩:∃ R,R=cmp1 K.ts (aT K.ts st):=⟨_,rfl⟩; rw [← hR]; replace hR:=hid hR; have hh:=hid h; have hpl:=h.lt; have hK0:=(Kp.start h).alloc (.cells #[.int .i64 0,.bool false,.string ⟨#[]⟩,.slice none 0 0] 24); obtain ⟨W0,hW0⟩:∃ W0,W0=w.alloc (.cells #[.int .i64 0,.bool false,.string ⟨#[]⟩,.slice none 0 0] 24):=⟨_,rfl⟩; rw [← hW0] at hK0
 have hs0:W0.heap.size=w.heap.size+1:=by rw [hW0]; simp
 obtain ⟨V0,hV0⟩:∃ V0,V0=W0.alloc (.map #[] 0):=⟨_,rfl⟩; have hm0:=bR.made (P:=Tryz.prog) (k:=9) W0; rw [← hV0] at hm0; obtain ⟨V1,hu1,hm1,hg1⟩:=hm0.put (Maps.string_keyed Tryz.underlying9) (t:=186) (e:=185) Tryz.underlying186 (by decide) (dX [61] (by decide)) trivial (.agg (ck (1,false))); obtain ⟨V2,hu2,hm2,hg2⟩:=hm1.put (Maps.string_keyed Tryz.underlying9) (t:=186) (e:=185) Tryz.underlying186 (by decide) (dX [33,61] (by decide)) trivial (.agg (ck (2,false)))
 obtain ⟨V3,hu3,hm3,hg3⟩:=hm2.put (Maps.string_keyed Tryz.underlying9) (t:=186) (e:=185) Tryz.underlying186 (by decide) (dX [60] (by decide)) trivial (.agg (ck (3,false))); obtain ⟨V4,hu4,hm4,hg4⟩:=hm3.put (Maps.string_keyed Tryz.underlying9) (t:=186) (e:=185) Tryz.underlying186 (by decide) (dX [60,61] (by decide)) trivial (.agg (ck (4,false))); obtain ⟨V5,hu5,hm5,hg5⟩:=hm4.put (Maps.string_keyed Tryz.underlying9) (t:=186) (e:=185) Tryz.underlying186 (by decide) (dX [62] (by decide)) trivial (.agg (ck (3,true)))
 obtain ⟨V6,hu6,hm6,hg6⟩:=hm5.put (Maps.string_keyed Tryz.underlying9) (t:=186) (e:=185) Tryz.underlying186 (by decide) (dX [62,61] (by decide)) trivial (.agg (ck (4,true)))
 have hbM:Below W0.heap.size W0 V6:=by
  have y0:Below W0.heap.size W0 V0:=by rw [hV0]; exact (zN W0.heap.size W0).alloc (zM _) (.map #[] 0)
  have y1:=y0.trans (dk hg1 (zM _) y0.size); have y2:=y1.trans (dk hg2 (zM _) y1.size); have y3:=y2.trans (dk hg3 (zM _) y2.size); have y4:=y3.trans (dk hg4 (zM _) y3.size); have y5:=y4.trans (dk hg5 (zM _) y4.size); have y6:=y5.trans (dk hg6 (zM _) y5.size); exact y6
 have hK1:=hid (hK0.below hbM); have hmap:=hid (hm6.congr x_)
 have hmk:(Instr.makeMap 186 none).run Tryz.prog (w.alloc (.cells #[.int .i64 0,.bool false,.string ⟨#[]⟩,.slice none 0 0] 24))=.ok (.map (some W0.heap.size)) V0:=by rw [hV0,hW0]; exact run_makeMap _ _
 obtain ⟨mb,hmb⟩:∃ mb,mb=W0.heap.size:=⟨_,rfl⟩; rw [← hmb] at hmk hu1 hu2 hu3 hu4 hu5 hu6 hmap
 have hmp:¬ mb=pb:=by omega
 obtain ⟨ro1,hro1⟩:∃ ro,ro=aT K.ts (st):=⟨_,rfl⟩; have hte:=hid (jl pb K (st) V6 hK1.out.pm); rw [← hro1] at hte; replace hR:=hR.out; rw [← hro1] at hR; replace hR:=hid hR; replace hro1:=hid hro1; obtain ⟨ot1,s1⟩:=ro1; replace hte:=hid (show Calls Tryz.prog 98 #[pt pb] V6 fun e w'=>∃ x:Tm,e=.returned (.tuple #[.agg (aB x),.bool ot1.isSome])/\(∀ t,ot1=some t->t=x)/\PM pb K s1 w'/\Fr (one pb) V6 w' from hte.out); replace hmb:=hid hmb; replace hs0:=hid hs0; clear h hK0 hm0 hm1 hm2 hm3 hm4 hm5 hm6 hg1 hg2 hg3 hg4 hg5 hg6 hbM hV0
 go_enter Tryz.func96,Tryz.ntmps96
 replace hW0:=hid hW0
 go_wp2_with fail
 clear hmk hu1 hu2 hu3 hu4 hu5 hu6
 with_reducible refine hte.out.mono ?_
 rintro e w1 ⟨x,rfl,hx,hM1,hf1⟩; have hKa:=hid ((hK1.out.call hM1 hf1).alloc (.cells (aB x) 63)); have hma:=hid ((hmap.out.fr hf1 hmp).alloc (.cells (aB x) 63)); replace hx:=hid hx; have hl1:=hf1.size; have hLA0:=hid (show w.heap.size < w1.heap.size from zS (ae (hK1.out.nth (i:=0) rfl)) hl1); clear hte hM1 hf1 hK1 hmap
 cases ot1 with
 | none =>
  replace hR:=hid (show R=(none,s1) from hR.out); obtain ⟨q0,q1,q2,q3,fz⟩:=aK (hKa.out.nth (i:=1) rfl); have fz0:=fz 0; have fz1:=fz 1; have fz2:=fz 2; have fz3:=fz 3; clear fz
  go_wp2_with fail
  obtain ⟨hp,hf,hr⟩:=hKa.out.finLt (hKa.out.nth (i:=1) rfl) 0 false [] (.slice none 0 0); refine bodyPost_ret (v:=.tuple #[.agg (ap 0 false [] (.slice none 0 0)),.bool false]) (bw (by rfl) _ _ w.heap.size 0 false [] (.slice none 0 0) false (by rfl) (by rfl) hr) rfl ⟨by rw [hR.out]; exact hp,hf,?_⟩; rw [hR.out]; exact ⟨0,false,[],none,0,0,rfl⟩
 | some a =>
  have hxa:=hx.out a rfl; subst hxa; have htl:=(hKa.out.pm.tok_ok s1.nx).2.2; have htk:=iy K s1.nx; have htlt:=iV (K:=K) (i:=s1.nx); obtain ⟨t,ht⟩:∃ t,t=cV K s1.nx:=⟨_,rfl⟩; have hpk:=hid (show Calls Tryz.prog 90 #[pt pb,.int .i64 0] (w1.alloc (.cells (aB a) 63)) fun e w'=>e=.returned (.agg #[iv (cV K s1.nx).kind,sv (cV K s1.nx).text,iv (cV K s1.nx).n,iv (cV K s1.nx).pos])/\Below (w1.alloc (.cells (aB a) 63)).heap.size (w1.alloc (.cells (aB a) 63)) w' from fo pb K s1 0 (by decide) _ hKa.out.pm); rw [← ht] at hpk htk; rw [← htk] at htl htlt; replace htlt:=hid (show t.kind≠0->s1.nx < K.toks.length from htlt); replace htl:t.text.length<=1048576:=htl
  replace hR:=hid (show R=if t.kind=4 then zF K.ts a s1 (ir t.text) else (none,bf s1) from by rw [show t.kind=(br K.ts s1.nx).kind from by rw [← htk]; rfl,show t.text=(br K.ts s1.nx).text from by rw [← htk]; rfl]; exact hR.out); replace htk:=hid htk; replace ht:=hid ht; obtain ⟨oo,hoo⟩:∃ oo,oo=ir t.text:=⟨_,rfl⟩; rw [← hoo] at hR; obtain ⟨⟨op,sw⟩,ho⟩:∃ o:Int × Bool,o=oo.getD (0,false):=⟨_,rfl⟩; obtain ⟨fd,hfd⟩:∃ fd,fd=oo.isSome:=⟨_,rfl⟩
  go_wp2_with fail
  with_reducible refine hpk.out.mono ?_
  rintro e w2 ⟨rfl,hb2⟩; have hKt:=(hKa.out.below hb2).alloc (.cells #[iv t.kind,sv t.text,iv t.n,iv t.pos] 95); have hmt:=(hma.out.below hb2 hma.out.lt).alloc (.cells #[iv t.kind,sv t.text,iv t.n,iv t.pos] 95); have hlk:=vW hmt t.text htl; rw [← hoo,← ho,← hfd] at hlk; have hKo0:=hKt.alloc (.cells (ck (op,sw)) 185); rw [show (w2.alloc (.cells #[iv t.kind,sv t.text,iv t.n,iv t.pos] 95)).heap.size=w2.heap.size+1 from by simp] at hKo0; have hKo:=hid hKo0; have hs2:=hid (show w1.heap.size < w2.heap.size from zS (by simp) hb2.size); obtain ⟨d0,d1,d2,d3⟩:=bY (hKo0.nth (i:=1) rfl); obtain ⟨y0,y1,-,-⟩:=bY (hKt.nth (i:=0) rfl); have p0:=(aj (i:=0) (hKo0.nth (i:=0) rfl)).trans rfl
  have p1:=(aj (i:=1) (hKo0.nth (i:=0) rfl)).trans rfl
  have ntt:¬ w2.heap.size+1=w2.heap.size:=by omega
  clear hKo0 hKt hb2 hpk hma hmt hKa; replace hoo:=hid hoo; replace ho:=hid ho; replace hfd:=hid hfd; by_cases hk4:t.kind=4
  ·have bk:(t.kind != 4)=false:=by rw [hk4]; rfl
   have hnl:=htlt.out (by rw [hk4]; decide); replace hR:=hid (hR.out.trans (if_pos hk4)); replace hk4:=hid hk4
   cases oo with
   | none =>
    replace hR:=hid (show R=(none,bf s1) from hR.out); have hfd':fd=false:=hfd.out; subst hfd'; have hfl:=hid (dw pb K _ _ hKo.out.pm);go_wp2_with fail;(with_reducible refine hfl.out.mono ?_);rintro e w3 ⟨rfl,hM3,hf3⟩; have hKf:=hid (hKo.out.call hM3 hf3); clear hM3 hf3 hfl; obtain ⟨q0,q1,q2,q3,fz⟩:=aK (hKf.out.nth (i:=3) rfl); have fz0:=fz 0; have fz1:=fz 1; have fz2:=fz 2; have fz3:=fz 3; clear fz;go_wp2_with fail;obtain ⟨hp,hf,hr⟩:=hKf.out.finLt (hKf.out.nth (i:=3) rfl) 0 false [] (.slice none 0 0); refine bodyPost_ret (v:=.tuple #[.agg (ap 0 false [] (.slice none 0 0)),.bool false]) (bw (by rfl) _ _ w.heap.size 0 false [] (.slice none 0 0) false (by rfl) (by rfl) hr) rfl ⟨by rw [hR.out]; exact hp,hf,?_⟩; rw [hR.out]; exact ⟨0,false,[],none,0,0,rfl⟩
   | some oq =>
    have ho':(op,sw)=oq:=ho.out; subst ho'; have hfd':fd=true:=hfd.out; subst hfd'; replace hR:=hid (show R=lh K.ts op sw a (aT K.ts (am s1)) from hR.out); obtain ⟨m,hm⟩:∃ m,m=s1.nx+1:=⟨_,rfl⟩; have hlen:=hKo.out.pm.len;(have e1:IntKind.i64.wrap ((s1.nx:Int)+1)=(m:Int):=by rw [zX]; omega);have c1:=hKo.out.pm.cell (i:=1) (v:=iv s1.nx) rfl; have f1:=hKo.out.pm.free 1; have hK4:=hid (show Kp pb K (am s1) w (((w2.alloc (.cells #[iv t.kind,sv t.text,iv t.n,iv t.pos] 95)).alloc (.cells (ck (op,sw)) 185)).setCell ⟨pb,1,none⟩ (iv (m:Int))) _ from hKo.out.call (st':=am s1) (by rw [hm]; exact hKo.out.pm.setNx (s1.nx+1) (by omega)) ((Fr.refl (one pb) _).setCell (p:=⟨pb,1,none⟩) (Or.inl (show one pb pb from rfl)) _)); replace hm:=hid hm; obtain ⟨ro5,hro5⟩:∃ ro,ro=aT K.ts (am s1):=⟨_,rfl⟩; have hte:=hid (jl pb K (am s1) _ hK4.out.pm); rw [← hro5] at hte; replace hR:=hR.out; rw [← hro5] at hR; replace hR:=hid hR; replace hro5:=hid hro5; obtain ⟨ot5,s5⟩:=ro5;replace hte:=hid (show Calls Tryz.prog 98 #[pt pb] _ fun e w'=>∃ x:Tm,e=.returned (.tuple #[.agg (aB x),.bool ot5.isSome])/\(∀ t,ot5=some t->t=x)/\PM pb K s5 w'/\Fr (one pb) _ w' from hte.out);go_wp2_with fail;clear hlk y0 y1;(with_reducible refine hte.out.mono ?_);rintro e w5 ⟨b,rfl,hx5,hM5,hf5⟩; have hK5:=hid ((hK4.out.call hM5 hf5).alloc (.cells (aB b) 63)); have hl5:=hf5.size; replace hx5:=hid hx5; clear hte hM5 hf5; have hBA:=hid (show w1.heap.size < w5.heap.size from by have:=hs2.out; have h9:=hl5; simp [World.setCell] at h9; omega); clear hK4 hKo c1 f1
    cases ot5 with
    | none =>
     replace hR:=hid (show R=(none,s5) from hR.out); obtain ⟨q0,q1,q2,q3,fz⟩:=aK (hK5.out.nth (i:=4) rfl); have fz0:=fz 0; have fz1:=fz 1; have fz2:=fz 2; have fz3:=fz 3; clear fz;go_wp2_with fail;obtain ⟨hp,hf,hr⟩:=hK5.out.finLt (hK5.out.nth (i:=4) rfl) 0 false [] (.slice none 0 0); refine bodyPost_ret (v:=.tuple #[.agg (ap 0 false [] (.slice none 0 0)),.bool false]) (bw (by rfl) _ _ w.heap.size 0 false [] (.slice none 0 0) false (by rfl) (by rfl) hr) rfl ⟨by rw [hR.out]; exact hp,hf,?_⟩; rw [hR.out]; exact ⟨0,false,[],none,0,0,rfl⟩
    | some b0 =>
     have hxb:b=b0:=(hx5.out b0 rfl).symm; subst hxb; have hLA:=hid (show w.heap.size < w1.heap.size from hLA0.out); have hBo:=hid (show w2.heap.size+1 < w5.heap.size from by have h9:=hl5; simp [World.setCell] at h9; omega); have oz0:=(aj (i:=0) (hK5.out.nth (i:=1) rfl)).trans rfl; by_cases hop:op=1
     ·subst hop
      obtain ⟨z43,hz43⟩:∃ z,isP K.ts (s5) 4 [43]=z:=⟨_,rfl⟩; have hmk43:=hid (cM pb K (s5) [43] _ hK5.out.pm);(have hT43:bu K.ts (s5) 4 [43]=if z43 then (true,am (s5)) else (false,(s5)):=by unfold bu; rw [hz43]);rw [hT43] at hmk43; clear hT43; replace hz43:=hid hz43; replace hR:=hid (show R=if z43=true then ki false a b (aT K.ts (am s5)) else if isP K.ts s5 4 [45]=true then ki true a b (aT K.ts (am s5)) else (some (if sw then aE 1 b a else aE 1 a b),s5) from by rw [hR.out,← hz43.out]; show (if (1:Int)=1/\_ then _ else if (1:Int)=1/\_ then _ else _)=_; simp only [true_and]);go_wp2_with fail;(with_reducible refine hmk43.out.mono ?_);rintro e w6 ⟨rfl,hM43,hf43⟩; have hKw6:=hid (hK5.out.call hM43 hf43); clear hmk43 hM43 hf43
      cases z43 with
      | true =>
       replace hR:=hid (show R=ki false a b (aT K.ts (am s5)) from hR.out); replace hKw6:=hid (show Kp pb K (am s5) w w6 _ from hKw6.out); obtain ⟨ro7,hro7⟩:∃ ro,ro=aT K.ts (am s5):=⟨_,rfl⟩; have hte:=hid (jl pb K (am s5) w6 hKw6.out.pm); rw [← hro7] at hte; replace hR:=hR.out; rw [← hro7] at hR; replace hR:=hid hR; replace hro7:=hid hro7; obtain ⟨ot7,s7⟩:=ro7; replace hte:=hid (show Calls Tryz.prog 98 #[pt pb] w6 fun e w'=>∃ x:Tm,e=.returned (.tuple #[.agg (aB x),.bool ot7.isSome])/\(∀ t,ot7=some t->t=x)/\PM pb K s7 w'/\Fr (one pb) w6 w' from hte.out);go_wp2_with fail;(with_reducible refine hte.out.mono ?_);rintro e w7 ⟨c,rfl,hx7,hM7,hf7⟩; have hK7:=hid ((hKw6.out.call hM7 hf7).alloc (.cells (aB c) 63)); have hl7:=hf7.size; replace hx7:=hid hx7; clear hte hM7 hf7; have hCB:=hid (show w5.heap.size < w7.heap.size from zS (ae (hKw6.out.nth (i:=0) rfl)) hl7)
       cases ot7 with
       | none =>
        replace hR:=hid (show R=(none,s7) from hR.out); obtain ⟨q0,q1,q2,q3,fz⟩:=aK (hK7.out.nth (i:=5) rfl); have fz0:=fz 0; have fz1:=fz 1; have fz2:=fz 2; have fz3:=fz 3; clear fz;go_wp2_with fail;obtain ⟨hp,hf,hr⟩:=hK7.out.finLt (hK7.out.nth (i:=5) rfl) 0 false [] (.slice none 0 0); refine bodyPost_ret (v:=.tuple #[.agg (ap 0 false [] (.slice none 0 0)),.bool false]) (bw (by rfl) _ _ w.heap.size 0 false [] (.slice none 0 0) false (by rfl) (by rfl) hr) rfl ⟨by rw [hR.out]; exact hp,hf,?_⟩; rw [hR.out]; exact ⟨0,false,[],none,0,0,rfl⟩
       | some c0 =>
        have hxc:c=c0:=(hx7.out c0 rfl).symm; subst hxc; replace hR:=hid (show R=(some ⟨5,false,[],[a,b,c]⟩,s7) from hR.out);(have nBA:¬ w5.heap.size=w1.heap.size:=by have:=hBA.out; omega);(have nAB:¬ w1.heap.size=w5.heap.size:=by have:=hBA.out; omega);(have nLA:¬ w.heap.size=w1.heap.size:=by have:=hLA.out; omega);(have nLB:¬ w.heap.size=w5.heap.size:=by have:=hBA.out; have:=hLA.out; omega);(have nCA:¬ w7.heap.size=w1.heap.size:=by have:=hBA.out; have:=hCB.out; omega);(have nAC:¬ w1.heap.size=w7.heap.size:=by omega);(have nCB:¬ w7.heap.size=w5.heap.size:=by have:=hCB.out; omega);(have nBC:¬ w5.heap.size=w7.heap.size:=by omega);obtain ⟨a0,a1,a2,a3,a4,a5,a6,az⟩:=aH (hK7.out.nth (i:=4) rfl); have az0:=az 0; have az1:=az 1; have az2:=az 2; have az3:=az 3; have az4:=az 4; have az5:=az 5; have az6:=az 6; clear az; obtain ⟨b0,b1,b2,b3,b4,b5,b6,bz⟩:=aH (hK7.out.nth (i:=1) rfl); have bz0:=bz 0; have bz1:=bz 1; have bz2:=bz 2; have bz3:=bz 3; have bz4:=bz 4; have bz5:=bz 5; have bz6:=bz 6; clear bz; obtain ⟨c0,c1,c2,c3,c4,c5,c6,cz⟩:=aH (hK7.out.nth (i:=0) rfl); have cz0:=cz 0; have cz1:=cz 1; have cz2:=cz 2; have cz3:=cz 3; have cz4:=cz 4; have cz5:=cz 5; have cz6:=cz 6; clear cz; have hsz7:=hK7.out.fr.size;have hKz:=hid (hK7.out.alloc (.cells #[sv a.var,iv a.val.kind,sv a.val.t,iv a.val.n,iv a.val.m,sv a.val.s,.slice none 0 0,sv b.var,iv b.val.kind,sv b.val.t,iv b.val.n,iv b.val.m,sv b.val.s,.slice none 0 0,sv c.var,iv c.val.kind,sv c.val.t,iv c.val.n,iv c.val.m,sv c.val.s,.slice none 0 0] 63)); have hLz:=hKz.out.nth (i:=6) (b:=w.heap.size) (o:=.cells (ap 0 false [] (.slice none 0 0)) 24 (0,0)) rfl; obtain ⟨q0,q1,q2,q3,fz⟩:=aK (hLz); have fz0:=fz 0; have fz1:=fz 1; have fz2:=fz 2; have fz3:=fz 3; clear fz; obtain ⟨bz,hbz⟩:∃ bz,bz=w7.heap.size+1:=⟨_,rfl⟩
        have hrz:=hid (show ((w7.alloc (.cells (aB c) 63)).alloc (.cells #[sv a.var,iv a.val.kind,sv a.val.t,iv a.val.n,iv a.val.m,sv a.val.s,.slice none 0 0,sv b.var,iv b.val.kind,sv b.val.t,iv b.val.n,iv b.val.m,sv b.val.s,.slice none 0 0,sv c.var,iv c.val.kind,sv c.val.t,iv c.val.n,iv c.val.m,sv c.val.s,.slice none 0 0] 63)).heap[bz]? = some (.cells (fB [a,b,c]).toArray 63 (0,0)) from by
         rw [hbz,show w7.heap.size+1=(w7.alloc (.cells (aB c) 63)).heap.size from by simp [World.setCell]]
         exact af _ _)
        replace hLz:=hid hLz; replace hbz:=hid hbz;go_wp2_with fail;rw [show w7.heap.size+1=bz from hbz.out.symm]; obtain ⟨hp,hf,hr⟩:=hKz.out.finLt hLz.out 5 false [] (.slice (some ⟨bz,0,none⟩) 3 3); refine bodyPost_ret (v:=.tuple #[.agg (ap 5 false [] (.slice (some ⟨bz,0,none⟩) 3 3)),.bool true]) (bw (by rfl) _ _ w.heap.size 5 false [] (.slice (some ⟨bz,0,none⟩) 3 3) true (by rfl) (by rfl) hr) rfl ⟨by rw [hR.out]; exact hp,hf,?_⟩; rw [hR.out]; have hbz':=hbz.out; exact ⟨_,_,rfl,fg (l:=[a,b,c]) ((bU (by have:=hLA.out; have:=hBA.out; have:=hCB.out; omega)).trans hrz.out) (by show 3<=maxLen; decide) (by unfold aF; have:=hLA.out; have:=hBA.out; have:=hCB.out; omega)⟩
      | false =>
       replace hKw6:=hid (show Kp pb K s5 w w6 _ from hKw6.out); obtain ⟨z45,hz45⟩:∃ z,isP K.ts (s5) 4 [45]=z:=⟨_,rfl⟩; have hmk45:=hid (cM pb K (s5) [45] w6 hKw6.out.pm);(have hT45:bu K.ts (s5) 4 [45]=if z45 then (true,am (s5)) else (false,(s5)):=by unfold bu; rw [hz45]);rw [hT45] at hmk45; clear hT45; replace hz45:=hid hz45; replace hR:=hid (show R=if z45=true then ki true a b (aT K.ts (am s5)) else (some (if sw then aE 1 b a else aE 1 a b),s5) from by rw [← hz45.out]; exact hR.out);go_wp2_with fail;(with_reducible refine hmk45.out.mono ?_);rintro e w8 ⟨rfl,hM45,hf45⟩; have hKw8:=hid (hKw6.out.call hM45 hf45); clear hmk45 hM45 hf45
       cases z45 with
       | true =>
        replace hR:=hid (show R=ki true a b (aT K.ts (am s5)) from hR.out); replace hKw8:=hid (show Kp pb K (am s5) w w8 _ from hKw8.out); obtain ⟨ro7,hro7⟩:∃ ro,ro=aT K.ts (am s5):=⟨_,rfl⟩; have hte:=hid (jl pb K (am s5) w8 hKw8.out.pm); rw [← hro7] at hte; replace hR:=hR.out; rw [← hro7] at hR; replace hR:=hid hR; replace hro7:=hid hro7; obtain ⟨ot7,s7⟩:=ro7; replace hte:=hid (show Calls Tryz.prog 98 #[pt pb] w8 fun e w'=>∃ x:Tm,e=.returned (.tuple #[.agg (aB x),.bool ot7.isSome])/\(∀ t,ot7=some t->t=x)/\PM pb K s7 w'/\Fr (one pb) w8 w' from hte.out);go_wp2_with fail;(with_reducible refine hte.out.mono ?_);rintro e w7 ⟨c,rfl,hx7,hM7,hf7⟩; have hK7:=hid ((hKw8.out.call hM7 hf7).alloc (.cells (aB c) 63)); have hl7:=hf7.size; replace hx7:=hid hx7; clear hte hM7 hf7; have hCB:=hid (show w5.heap.size < w7.heap.size from zS (ae (hKw8.out.nth (i:=0) rfl)) hl7)
        cases ot7 with
        | none =>
         replace hR:=hid (show R=(none,s7) from hR.out); obtain ⟨q0,q1,q2,q3,fz⟩:=aK (hK7.out.nth (i:=5) rfl); have fz0:=fz 0; have fz1:=fz 1; have fz2:=fz 2; have fz3:=fz 3; clear fz;go_wp2_with fail;obtain ⟨hp,hf,hr⟩:=hK7.out.finLt (hK7.out.nth (i:=5) rfl) 0 false [] (.slice none 0 0); refine bodyPost_ret (v:=.tuple #[.agg (ap 0 false [] (.slice none 0 0)),.bool false]) (bw (by rfl) _ _ w.heap.size 0 false [] (.slice none 0 0) false (by rfl) (by rfl) hr) rfl ⟨by rw [hR.out]; exact hp,hf,?_⟩; rw [hR.out]; exact ⟨0,false,[],none,0,0,rfl⟩
        | some c0 =>
         have hxc:c=c0:=(hx7.out c0 rfl).symm; subst hxc; replace hR:=hid (show R=(some ⟨5,false,[],[b,a,c]⟩,s7) from hR.out);(have nBA:¬ w5.heap.size=w1.heap.size:=by have:=hBA.out; omega);(have nAB:¬ w1.heap.size=w5.heap.size:=by have:=hBA.out; omega);(have nLA:¬ w.heap.size=w1.heap.size:=by have:=hLA.out; omega);(have nLB:¬ w.heap.size=w5.heap.size:=by have:=hBA.out; have:=hLA.out; omega);(have nCA:¬ w7.heap.size=w1.heap.size:=by have:=hBA.out; have:=hCB.out; omega);(have nAC:¬ w1.heap.size=w7.heap.size:=by omega);(have nCB:¬ w7.heap.size=w5.heap.size:=by have:=hCB.out; omega);(have nBC:¬ w5.heap.size=w7.heap.size:=by omega);obtain ⟨a0,a1,a2,a3,a4,a5,a6,az⟩:=aH (hK7.out.nth (i:=4) rfl); have az0:=az 0; have az1:=az 1; have az2:=az 2; have az3:=az 3; have az4:=az 4; have az5:=az 5; have az6:=az 6; clear az; obtain ⟨b0,b1,b2,b3,b4,b5,b6,bz⟩:=aH (hK7.out.nth (i:=1) rfl); have bz0:=bz 0; have bz1:=bz 1; have bz2:=bz 2; have bz3:=bz 3; have bz4:=bz 4; have bz5:=bz 5; have bz6:=bz 6; clear bz; obtain ⟨c0,c1,c2,c3,c4,c5,c6,cz⟩:=aH (hK7.out.nth (i:=0) rfl); have cz0:=cz 0; have cz1:=cz 1; have cz2:=cz 2; have cz3:=cz 3; have cz4:=cz 4; have cz5:=cz 5; have cz6:=cz 6; clear cz; have hsz7:=hK7.out.fr.size; have hA1:=cK (hK7.out.nth (i:=4) rfl) b; have hB1:=cK ((a_ (t:=b) nBA).trans (hK7.out.nth (i:=1) rfl)) a; have hA2:=(a_ (t:=a) nAB).trans hA1;have hL2:=(a_ (t:=a) nLB).trans ((a_ (t:=b) nLA).trans (hK7.out.nth (i:=5) rfl)); have hK2:=hid (((hK7.out.sub (rows':=[]) (fun r hr=>by simp at hr)).turn (hK7.out.geN (i:=4) rfl) (dZ b) hA1).turn (hK7.out.geN (i:=1) rfl) (dZ a) hB1); have hC2:=(a_ (t:=a) nCB).trans ((a_ (t:=b) nCA).trans (hK7.out.nth (i:=0) rfl)); have hKz:=hid (hK2.out.alloc (.cells #[sv b.var,iv b.val.kind,sv b.val.t,iv b.val.n,iv b.val.m,sv b.val.s,.slice none 0 0,sv a.var,iv a.val.kind,sv a.val.t,iv a.val.n,iv a.val.m,sv a.val.s,.slice none 0 0,sv c.var,iv c.val.kind,sv c.val.t,iv c.val.n,iv c.val.m,sv c.val.s,.slice none 0 0] 63));have hLz:=(z7 _ (.cells #[sv b.var,iv b.val.kind,sv b.val.t,iv b.val.n,iv b.val.m,sv b.val.s,.slice none 0 0,sv a.var,iv a.val.kind,sv a.val.t,iv a.val.n,iv a.val.m,sv a.val.s,.slice none 0 0,sv c.var,iv c.val.kind,sv c.val.t,iv c.val.n,iv c.val.m,sv c.val.s,.slice none 0 0] 63) _ (ae hL2)).trans hL2; obtain ⟨k0,k1,k2,k3,k4,k5,k6,kz⟩:=aH (hA2); clear kz; obtain ⟨l0,l1,l2,l3,l4,l5,l6,lz⟩:=aH (hB1); clear lz; obtain ⟨m0,m1,m2,m3,m4,m5,m6,mz⟩:=aH (hC2); clear mz; obtain ⟨q0,q1,q2,q3,fz⟩:=aK (hLz); have fz0:=fz 0; have fz1:=fz 1; have fz2:=fz 2; have fz3:=fz 3; clear fz; obtain ⟨bz,hbz⟩:∃ bz,bz=w7.heap.size+1:=⟨_,rfl⟩
         have hrz:=hid (show ((setTm (setTm (w7.alloc (.cells (aB c) 63)) w1.heap.size b) w5.heap.size a).alloc (.cells #[sv b.var,iv b.val.kind,sv b.val.t,iv b.val.n,iv b.val.m,sv b.val.s,.slice none 0 0,sv a.var,iv a.val.kind,sv a.val.t,iv a.val.n,iv a.val.m,sv a.val.s,.slice none 0 0,sv c.var,iv c.val.kind,sv c.val.t,iv c.val.n,iv c.val.m,sv c.val.s,.slice none 0 0] 63)).heap[bz]? = some (.cells (fB [b,a,c]).toArray 63 (0,0)) from by
          rw [hbz,show w7.heap.size+1=(setTm (setTm (w7.alloc (.cells (aB c) 63)) w1.heap.size b) w5.heap.size a).heap.size from by simp [World.setCell]]
          exact af _ _)
         replace hLz:=hid hLz; replace hbz:=hid hbz;go_wp2_with fail;rw [show w7.heap.size+1=bz from hbz.out.symm]; obtain ⟨hp,hf,hr⟩:=hKz.out.finLt hLz.out 5 false [] (.slice (some ⟨bz,0,none⟩) 3 3); refine bodyPost_ret (v:=.tuple #[.agg (ap 5 false [] (.slice (some ⟨bz,0,none⟩) 3 3)),.bool true]) (bw (by rfl) _ _ w.heap.size 5 false [] (.slice (some ⟨bz,0,none⟩) 3 3) true (by rfl) (by rfl) hr) rfl ⟨by rw [hR.out]; exact hp,hf,?_⟩; rw [hR.out]; have hbz':=hbz.out; exact ⟨_,_,rfl,fg (l:=[b,a,c]) ((bU (by have:=hLA.out; have:=hBA.out; have:=hCB.out; omega)).trans hrz.out) (by show 3<=maxLen; decide) (by unfold aF; have:=hLA.out; have:=hBA.out; have:=hCB.out; omega)⟩
       | false =>
        replace hR:=hid (show R=(some (if sw then aE 1 b a else aE 1 a b),s5) from hR.out); replace hKw8:=hid (show Kp pb K s5 w w8 _ from hKw8.out);(have nBA:¬ w5.heap.size=w1.heap.size:=by have:=hBA.out; omega);(have nAB:¬ w1.heap.size=w5.heap.size:=by have:=hBA.out; omega);(have nLA:¬ w.heap.size=w1.heap.size:=by have:=hLA.out; omega);(have nLB:¬ w.heap.size=w5.heap.size:=by have:=hBA.out; have:=hLA.out; omega);obtain ⟨a0,a1,a2,a3,a4,a5,a6,az⟩:=aH (hKw8.out.nth (i:=3) rfl); have az0:=az 0; have az1:=az 1; have az2:=az 2; have az3:=az 3; have az4:=az 4; have az5:=az 5; have az6:=az 6; clear az; obtain ⟨b0,b1,b2,b3,b4,b5,b6,bz⟩:=aH (hKw8.out.nth (i:=0) rfl); have bz0:=bz 0; have bz1:=bz 1; have bz2:=bz 2; have bz3:=bz 3; have bz4:=bz 4; have bz5:=bz 5; have bz6:=bz 6; clear bz; have o0:w8.cell? ⟨w2.heap.size+1,0,none⟩=some (iv 1):=(aj (i:=0) (hKw8.out.nth (i:=1) rfl)).trans rfl; have o1:w8.cell? ⟨w2.heap.size+1,1,none⟩=some (.bool sw):=(aj (i:=1) (hKw8.out.nth (i:=1) rfl)).trans rfl
        cases sw with
        | true =>
         replace hR:=hid (show R=(some (aE 1 b a),s5) from hR.out); have hA1:=cK (hKw8.out.nth (i:=3) rfl) b; have hB1:=cK ((a_ (t:=b) nBA).trans (hKw8.out.nth (i:=0) rfl)) a; have hA2:=(a_ (t:=a) nAB).trans hA1; have hL2:=(a_ (t:=a) nLB).trans ((a_ (t:=b) nLA).trans (hKw8.out.nth (i:=4) rfl)); have hK2:=hid (((hKw8.out.sub (rows':=[]) (fun r hr=>by simp at hr)).turn (hKw8.out.geN (i:=3) rfl) (dZ b) hA1).turn (hKw8.out.geN (i:=0) rfl) (dZ a) hB1); obtain ⟨k0,k1,k2,k3,k4,k5,k6,kz⟩:=aH (hA2); clear kz; obtain ⟨l0,l1,l2,l3,l4,l5,l6,lz⟩:=aH (hB1); clear lz; have hcm:=hid (dT 1 b a (setTm (setTm w8 w1.heap.size b) w5.heap.size a));have hoo2:(setTm (setTm w8 w1.heap.size b) w5.heap.size a).heap[w2.heap.size+1]? = some (.cells (ck (1,true)) 185 (0,0)):=(a_ (t:=a) (show ¬ w2.heap.size+1=w5.heap.size from by have:=hBo.out; omega)).trans ((a_ (t:=b) (show ¬ w2.heap.size+1=w1.heap.size from by have:=hs2.out; omega)).trans (hKw8.out.nth (i:=1) rfl)); have oo0:(setTm (setTm w8 w1.heap.size b) w5.heap.size a).cell? ⟨w2.heap.size+1,0,none⟩=some (iv 1):=(aj (i:=0) hoo2).trans rfl; replace hoo2:=hid hoo2; replace hA1:=hid hA1; replace hB1:=hid hB1; replace hA2:=hid hA2; replace hL2:=hid hL2;go_wp2_with fail;(with_reducible refine hcm.out.mono ?_);intro e w9 hP; obtain ⟨a',c',rfl,hO,hb⟩:=PL1.open hP; clear hP hcm; have hK9:=hid (hK2.out.below hb); have hL9:Hid (w9.heap[w.heap.size]? = some (.cells (ap 0 false [] (.slice none 0 0)) 24 (0,0))):=hid (an hb hL2.out (ae hL2.out)); have hs9:=hK2.out.fr.size; replace hO:=hid hO; clear hb; obtain ⟨q0,q1,q2,q3,fz⟩:=aK (hL9.out); have fz0:=fz 0; have fz1:=fz 1; have fz2:=fz 2; have fz3:=fz 3; clear fz;go_wp2_with fail;obtain ⟨hp,hf,hr⟩:=hK9.out.finLt hL9.out 1 false [] (.slice a' 2 c'); refine bodyPost_ret (v:=.tuple #[.agg (ap 1 false [] (.slice a' 2 c')),.bool true]) (bw (by rfl) _ _ w.heap.size 1 false [] (.slice a' 2 c') true (by rfl) (by rfl) hr) rfl ⟨by rw [hR.out]; exact hp,hf,?_⟩; rw [hR.out]; exact ⟨a',c',rfl,hO.out.move aD fun k hk hk2=>⟨zV hs9 hk2,bU (fun e=>by have hLW:=ae hL2.out; unfold aF at hk2; omega)⟩⟩
        | false =>
         replace hR:=hid (show R=(some (aE 1 a b),s5) from hR.out); have hcm:=hid (dT 1 a b w8); have hL2:=hid (hKw8.out.nth (i:=4) (b:=w.heap.size) (o:=.cells (ap 0 false [] (.slice none 0 0)) 24 (0,0)) rfl);go_wp2_with fail;(with_reducible refine hcm.out.mono ?_);intro e w9 hP; obtain ⟨a',c',rfl,hO,hb⟩:=PL1.open hP; clear hP hcm; have hK9:=hid (hKw8.out.below hb); have hL9:Hid (w9.heap[w.heap.size]? = some (.cells (ap 0 false [] (.slice none 0 0)) 24 (0,0))):=hid (an hb hL2.out (ae hL2.out)); have hs9:=hKw8.out.fr.size; replace hO:=hid hO; clear hb; obtain ⟨q0,q1,q2,q3,fz⟩:=aK (hL9.out); have fz0:=fz 0; have fz1:=fz 1; have fz2:=fz 2; have fz3:=fz 3; clear fz;go_wp2_with fail;obtain ⟨hp,hf,hr⟩:=hK9.out.finLt hL9.out 1 false [] (.slice a' 2 c'); refine bodyPost_ret (v:=.tuple #[.agg (ap 1 false [] (.slice a' 2 c')),.bool true]) (bw (by rfl) _ _ w.heap.size 1 false [] (.slice a' 2 c') true (by rfl) (by rfl) hr) rfl ⟨by rw [hR.out]; exact hp,hf,?_⟩; rw [hR.out]; exact ⟨a',c',rfl,hO.out.move aD fun k hk hk2=>⟨zV hs9 hk2,bU (fun e=>by have hLW:=ae hL2.out; unfold aF at hk2; omega)⟩⟩
     ·have b13:(op == 1)=false:=by simpa using hop
      replace hR:=hid (show R=(some (if sw then aE op b a else aE op a b),s5) from by rw [hR.out]; show (if op=1/\_ then _ else if op=1/\_ then _ else _)=_; rw [if_neg (fun e=>hop e.1),if_neg (fun e=>hop e.1)]); replace hop:=hid hop;(have nBA:¬ w5.heap.size=w1.heap.size:=by have:=hBA.out; omega);(have nAB:¬ w1.heap.size=w5.heap.size:=by have:=hBA.out; omega);(have nLA:¬ w.heap.size=w1.heap.size:=by have:=hLA.out; omega);(have nLB:¬ w.heap.size=w5.heap.size:=by have:=hBA.out; have:=hLA.out; omega);obtain ⟨a0,a1,a2,a3,a4,a5,a6,az⟩:=aH (hK5.out.nth (i:=3) rfl); have az0:=az 0; have az1:=az 1; have az2:=az 2; have az3:=az 3; have az4:=az 4; have az5:=az 5; have az6:=az 6; clear az; obtain ⟨b0,b1,b2,b3,b4,b5,b6,bz⟩:=aH (hK5.out.nth (i:=0) rfl); have bz0:=bz 0; have bz1:=bz 1; have bz2:=bz 2; have bz3:=bz 3; have bz4:=bz 4; have bz5:=bz 5; have bz6:=bz 6; clear bz; have o0:(w5.alloc (.cells (aB b) 63)).cell? ⟨w2.heap.size+1,0,none⟩=some (iv op):=(aj (i:=0) (hK5.out.nth (i:=1) rfl)).trans rfl; have o1:(w5.alloc (.cells (aB b) 63)).cell? ⟨w2.heap.size+1,1,none⟩=some (.bool sw):=(aj (i:=1) (hK5.out.nth (i:=1) rfl)).trans rfl
      cases sw with
      | true =>
       replace hR:=hid (show R=(some (aE op b a),s5) from hR.out); have hA1:=cK (hK5.out.nth (i:=3) rfl) b; have hB1:=cK ((a_ (t:=b) nBA).trans (hK5.out.nth (i:=0) rfl)) a; have hA2:=(a_ (t:=a) nAB).trans hA1; have hL2:=(a_ (t:=a) nLB).trans ((a_ (t:=b) nLA).trans (hK5.out.nth (i:=4) rfl)); have hK2:=hid (((hK5.out.sub (rows':=[]) (fun r hr=>by simp at hr)).turn (hK5.out.geN (i:=3) rfl) (dZ b) hA1).turn (hK5.out.geN (i:=0) rfl) (dZ a) hB1); obtain ⟨k0,k1,k2,k3,k4,k5,k6,kz⟩:=aH (hA2); clear kz; obtain ⟨l0,l1,l2,l3,l4,l5,l6,lz⟩:=aH (hB1); clear lz; have hcm:=hid (dT op b a (setTm (setTm (w5.alloc (.cells (aB b) 63)) w1.heap.size b) w5.heap.size a));have hoo2:(setTm (setTm (w5.alloc (.cells (aB b) 63)) w1.heap.size b) w5.heap.size a).heap[w2.heap.size+1]? = some (.cells (ck (op,true)) 185 (0,0)):=(a_ (t:=a) (show ¬ w2.heap.size+1=w5.heap.size from by have:=hBo.out; omega)).trans ((a_ (t:=b) (show ¬ w2.heap.size+1=w1.heap.size from by have:=hs2.out; omega)).trans (hK5.out.nth (i:=1) rfl)); have oo0:(setTm (setTm (w5.alloc (.cells (aB b) 63)) w1.heap.size b) w5.heap.size a).cell? ⟨w2.heap.size+1,0,none⟩=some (iv op):=(aj (i:=0) hoo2).trans rfl; replace hoo2:=hid hoo2; replace hA1:=hid hA1; replace hB1:=hid hB1; replace hA2:=hid hA2; replace hL2:=hid hL2;go_wp2_with fail;(with_reducible refine hcm.out.mono ?_);intro e w9 hP; obtain ⟨a',c',rfl,hO,hb⟩:=PL1.open hP; clear hP hcm; have hK9:=hid (hK2.out.below hb); have hL9:Hid (w9.heap[w.heap.size]? = some (.cells (ap 0 false [] (.slice none 0 0)) 24 (0,0))):=hid (an hb hL2.out (ae hL2.out)); have hs9:=hK2.out.fr.size; replace hO:=hid hO; clear hb; obtain ⟨q0,q1,q2,q3,fz⟩:=aK (hL9.out); have fz0:=fz 0; have fz1:=fz 1; have fz2:=fz 2; have fz3:=fz 3; clear fz;go_wp2_with fail;obtain ⟨hp,hf,hr⟩:=hK9.out.finLt hL9.out op false [] (.slice a' 2 c'); refine bodyPost_ret (v:=.tuple #[.agg (ap op false [] (.slice a' 2 c')),.bool true]) (bw (by rfl) _ _ w.heap.size op false [] (.slice a' 2 c') true (by rfl) (by rfl) hr) rfl ⟨by rw [hR.out]; exact hp,hf,?_⟩; rw [hR.out]; exact ⟨a',c',rfl,hO.out.move aD fun k hk hk2=>⟨zV hs9 hk2,bU (fun e=>by have hLW:=ae hL2.out; unfold aF at hk2; omega)⟩⟩
      | false =>
       replace hR:=hid (show R=(some (aE op a b),s5) from hR.out); have hcm:=hid (dT op a b (w5.alloc (.cells (aB b) 63))); have hL2:=hid (hK5.out.nth (i:=4) (b:=w.heap.size) (o:=.cells (ap 0 false [] (.slice none 0 0)) 24 (0,0)) rfl);go_wp2_with fail;(with_reducible refine hcm.out.mono ?_);intro e w9 hP; obtain ⟨a',c',rfl,hO,hb⟩:=PL1.open hP; clear hP hcm; have hK9:=hid (hK5.out.below hb); have hL9:Hid (w9.heap[w.heap.size]? = some (.cells (ap 0 false [] (.slice none 0 0)) 24 (0,0))):=hid (an hb hL2.out (ae hL2.out)); have hs9:=hK5.out.fr.size; replace hO:=hid hO; clear hb; obtain ⟨q0,q1,q2,q3,fz⟩:=aK (hL9.out); have fz0:=fz 0; have fz1:=fz 1; have fz2:=fz 2; have fz3:=fz 3; clear fz;go_wp2_with fail;obtain ⟨hp,hf,hr⟩:=hK9.out.finLt hL9.out op false [] (.slice a' 2 c'); refine bodyPost_ret (v:=.tuple #[.agg (ap op false [] (.slice a' 2 c')),.bool true]) (bw (by rfl) _ _ w.heap.size op false [] (.slice a' 2 c') true (by rfl) (by rfl) hr) rfl ⟨by rw [hR.out]; exact hp,hf,?_⟩; rw [hR.out]; exact ⟨a',c',rfl,hO.out.move aD fun k hk hk2=>⟨zV hs9 hk2,bU (fun e=>by have hLW:=ae hL2.out; unfold aF at hk2; omega)⟩⟩
  ·have bk:(t.kind != 4)=true:=by simpa using hk4
   replace hR:=hid (hR.out.trans (if_neg hk4)); replace hk4:=hid hk4; have hfl:=hid (dw pb K _ _ hKo.out.pm)
   go_wp2_with fail
   with_reducible refine hfl.out.mono ?_
   rintro e w3 ⟨rfl,hM3,hf3⟩; have hKf:=hid (hKo.out.call hM3 hf3); clear hM3 hf3 hfl; obtain ⟨q0,q1,q2,q3,fz⟩:=aK (hKf.out.nth (i:=3) rfl); have fz0:=fz 0; have fz1:=fz 1; have fz2:=fz 2; have fz3:=fz 3; clear fz
   go_wp2_with fail
   obtain ⟨hp,hf,hr⟩:=hKf.out.finLt (hKf.out.nth (i:=3) rfl) 0 false [] (.slice none 0 0); refine bodyPost_ret (v:=.tuple #[.agg (ap 0 false [] (.slice none 0 0)),.bool false]) (bw (by rfl) _ _ w.heap.size 0 false [] (.slice none 0 0) false (by rfl) (by rfl) hr) rfl ⟨by rw [hR.out]; exact hp,hf,?_⟩; rw [hR.out]; exact ⟨0,false,[],none,0,0,rfl⟩
end Go.Proofs.YtffdpoifdahadaaGreatDoor
namespace Go.Proofs.YtffdpoifdahadaaGreatDoor
open Go.RowKit
open Go.Lib (hid itoa)
def LdR:Rel (Option Nat × Lt):=fun S w x cs=>∃ v,cs=(ap x.2.op x.2.nt x.2.rel v).toList/\v.ownBlock=x.1/\aO 63 7 FlR S w x.2.args v
theorem oI {α:Type} {E:TypeId} {sz:Nat} {R:Rel α} {S:aP} {w:World} {l:List α} {v:Value} (h:aO E sz R S w l v):v.oneCell'=true:=by
 obtain ⟨a,c,rfl,-⟩:=h.slice; rfl
theorem df:dA 4 LdR:=by
 refine ⟨fun h=>by obtain ⟨v,rfl,-⟩:=h; rfl,fun h u hu=>?_,fun h hm=>?_⟩
 ·obtain ⟨v,rfl,-,ho⟩:=h
  simp at hu; rcases hu with rfl | rfl | rfl | rfl
  ·rfl
  ·rfl
  ·rfl
  ·exact oI ho
 ·obtain ⟨v,rfl,h1,ho⟩:=h
  exact ⟨v,rfl,h1,ho.move aD hm⟩
def ct (l:List (Option Nat × Lt)):List Nat:=l.filterMap (·.1)
theorem ka {S:aP} {w:World} {l:List Tm} {v:Value} (h:aO 63 7 FlR S w l v):aO 63 7 FlR (fun q=>S q/\v.ownBlock=some q) w l v:=by
 obtain ⟨xs,h1,h2,h3⟩:=h; exact ⟨xs,h1,fun k hk=>⟨h2 k hk,hk⟩,fun i x hx=>by obtain ⟨cs,h4,h5⟩:=h3 i x hx; exact ⟨cs,h4,h5⟩⟩
theorem p9 {S:aP} {w:World} {x:Option Nat × Lt} {cs:List Value} (h:LdR S w x cs):LdR (fun q=>S q/\x.1=some q) w x cs:=by
 obtain ⟨v,rfl,h1,ho⟩:=h; exact ⟨v,rfl,h1,h1 ▸ ka ho⟩
theorem pU {l:List (Option Nat × Lt)} {i:Nat} {x:Option Nat × Lt} {q:Nat} (hi:l[i]? = some x) (hq:x.1=some q):q∈ct l:=List.mem_filterMap.2 ⟨x,zU hi,hq⟩
theorem n7 {S:aP} {w:World} {l:List (Option Nat × Lt)} {v:Value} (h:aO 24 4 LdR S w l v):aO 24 4 LdR (fun q=>S q/\(v.ownBlock=some q\/q∈ct l)) w l v:=by
 obtain ⟨xs,h1,h2,h3⟩:=h; refine ⟨xs,h1,fun k hk=>⟨h2 k hk,Or.inl hk⟩,fun i x hx=>?_⟩; obtain ⟨cs,h4,h5⟩:=h3 i x hx; exact ⟨cs,h4,df.mono (p9 h5) fun k _ hk=>⟨⟨hk.1.1,Or.inr (pU hx hk.2)⟩,hk.1.2⟩⟩
structure RuD where
 head:Option Nat × Lt
 agg:Int
 at_:Int
 bb:Option Nat
 body:List (Option Nat × Lt)
def RuD.ru (r:RuD):Ru:=⟨r.head.2,r.agg,r.at_,r.body.map (·.2)⟩
def RuD.ids (r:RuD):List Nat:=r.head.1.toList++(r.bb.toList++ct r.body)
abbrev aM (op:Int) (nt:Bool) (rel:List UInt8) (hv:Value) (agg at_:Int) (bv:Value):Array Value:=#[iv op,.bool nt,sv rel,hv,iv agg,iv at_,bv]
def RuR:Rel RuD:=fun S w x cs=>∃ hv bv,cs=(aM x.head.2.op x.head.2.nt x.head.2.rel hv x.agg x.at_ bv).toList/\hv.ownBlock=x.head.1/\aO 63 7 FlR S w x.head.2.args hv/\bv.ownBlock=x.bb/\aO 24 4 LdR S w x.body bv
theorem bS:dA 7 RuR:=by
 refine ⟨fun h=>by obtain ⟨v,b,rfl,-⟩:=h; rfl,fun h u hu=>?_,fun h hm=>?_⟩
 ·obtain ⟨v,b,rfl,-,ho,-,hb⟩:=h
  simp at hu; rcases hu with rfl | rfl | rfl | rfl | rfl | rfl | rfl
  ·rfl
  ·rfl
  ·rfl
  ·exact oI ho
  ·rfl
  ·rfl
  ·exact oI hb
 ·obtain ⟨v,b,rfl,h1,ho,h2,hb⟩:=h
  exact ⟨v,b,rfl,h1,ho.move aD hm,h2,hb.move df hm⟩
theorem lY {S:aP} {w:World} {x:RuD} {cs:List Value} (h:RuR S w x cs):RuR (fun q=>S q/\q∈x.ids) w x cs:=by
 obtain ⟨v,b,rfl,h1,ho,h2,hb⟩:=h; refine ⟨v,b,rfl,h1,(ka ho).mono aD fun k _ hk=>⟨hk.1,?_⟩,h2,(n7 hb).mono df fun k _ hk=>⟨hk.1,?_⟩⟩
 ·unfold RuD.ids; rw [← h1,hk.2]; simp
 ·unfold RuD.ids
  rcases hk.2 with e | e
  ·rw [← h2,e]; simp
  ·simp [e]
theorem yt:(Tryz.prog.info? 24).map (fun i=>(i.zero,i.size,i.bytes))=some (some (.agg (ap 0 false [] (.slice none 0 0))),4,56):=by kernel_rfl
theorem wS:(Tryz.prog.info? 27).map (fun i=>(i.zero,i.size,i.bytes))=some (some (.agg (aM 0 false [] (.slice none 0 0) 0 0 (.slice none 0 0))),7,96):=by kernel_rfl
theorem iZ {α:Type} {E:TypeId} {sz:Nat} {R:Rel α} {S:aP} {w:World} {b n:Nat} {l:List α} {xs:List Value} (hR:dA sz R) (h:w.heap[b]? = some (.cells xs.toArray E (0,0))) (hn:l.length=n) (hx:xs.length=n * sz) (hl:n<=maxLen) (hS:S b)
  (he:∀ i x,l[i]? = some x->∃ cs,(∀ j u,cs[j]? = some u->xs[i * sz+j]? = some u)/\R (fun q=>S q/\q≠b) w x cs):aO E sz R S w l (.slice (some ⟨b,0,none⟩) n n):=by
 subst hn; refine ⟨xs,⟨hx,Or.inr ⟨b,l.length,_,rfl,zW _,h,zM _,hl,by simp; omega,by rw [← hx]; simp⟩⟩,fun k hk=>by simp [Value.ownBlock] at hk; exact hk ▸ hS,fun i x hx=>?_⟩; obtain ⟨cs,h1,h2⟩:=he i x hx; exact ⟨cs,h1,hR.mono h2 fun k _ hk=>⟨hk.1,fun e=>hk.2 (by simp [Value.ownBlock] at e; exact e.symm)⟩⟩
theorem vu {α:Type} {sz:Nat} {R:Rel α} {S:aP} {w:World} {l:List α} {v:Value} (hR:dA sz R) (hsz:0 < sz) (h:SlR sz R S w l v) :
  ∃ news,Row w.heap.size w sz v l.length news/\(∀ u∈news,u.oneCell'=true)/\∀ i x,l[i]? = some x->∃ cs,(∀ j u,cs[j]? = some u->news[i * sz+j]? = some u)/\R S w x cs:=by
 obtain ⟨a,cap,b,off,cs,rfl,hc,hn,hcell,hx⟩:=h
 have hlen:∀ i,i < l.length->(cs i).length=sz:=fun i hi=>hR.len (hx i _ (zR hi))
 refine ⟨(List.range l.length).flatMap cs,?_⟩
 have hgen:∀ n,n<=l.length->((List.range n).flatMap cs).length=n * sz/\∀ i,i < n->∀ j u,(cs i)[j]? = some u->((List.range n).flatMap cs)[i * sz+j]? = some u:=by
  intro n
  induction n with
  | zero=>intro _; exact ⟨by simp,fun i hi=>absurd hi (by omega)⟩
  | succ n ih =>
   intro hle; obtain ⟨h1,h2⟩:=ih (by omega)
   have e:(List.range (n+1)).flatMap cs=(List.range n).flatMap cs++cs n:=by rw [List.range_succ,List.flatMap_append]; simp
   rw [e]; refine ⟨by rw [zQ,h1,hlen n (by omega),Nat.succ_mul],fun i hi j u hu=>?_⟩; by_cases hin:i < n
   ·have:=h2 i hin j u hu
    rw [Aa (List.getElem?_eq_some_iff.1 this).1]; exact this
   ·have:i=n:=by omega
    subst this; rw [Ab (by omega),h1,Nat.add_sub_cancel_left]; exact hu
 obtain ⟨h1,h2⟩:=hgen l.length (zM _); refine ⟨⟨a,cap,b,off,rfl,h1,fun h0=>⟨(hn h0).1,(hn h0).2.2⟩,fun j hj=>?_⟩,fun u hu=>?_,fun i x hi=>?_⟩
 ·rw [h1] at hj
  have hi:j / sz < l.length:=Nat.div_lt_of_lt_mul (by rw [Nat.mul_comm]; exact hj)
  have hm:j % sz < (cs (j / sz)).length:=by rw [hlen _ hi]; exact Nat.mod_lt _ hsz
  have e1:=h2 (j / sz) hi (j % sz) _ (zR hm); have e2:=hcell (j / sz) hi (j % sz) _ (zR hm)
  have e3:j / sz * sz+j % sz=j:=by rw [Nat.mul_comm]; exact Nat.div_add_mod j sz
  rw [e3] at e1; rw [show off+j / sz * sz+j % sz=off+j by omega] at e2; rw [e2]; have e4:=(List.getElem?_eq_some_iff.1 e1).2; exact congrArg some e4.symm
 ·obtain ⟨i,hi,hu⟩:=List.mem_flatMap.1 hu
  exact hR.one (hx i _ (zR (List.mem_range.1 hi))) u hu
 ·exact ⟨cs i,h2 i (List.getElem?_eq_some_iff.1 hi).1,hx i x hi⟩
end Go.Proofs.YtffdpoifdahadaaGreatDoor
namespace Go.Proofs.YtffdpoifdahadaaGreatDoor
open Go.RowKit
open Go.Lib (hid itoa)
structure fN (a b:PSt):Prop where
 vars:b.vars=a.vars
 rels:b.rels=a.rels
 nx:a.nx<=b.nx
theorem fN.refl (a:PSt):fN a a:=⟨rfl,rfl,zM _⟩
theorem fN.trans {a b c:PSt} (h:fN a b) (k:fN b c):fN a c:=⟨k.vars.trans h.vars,k.rels.trans h.rels,zV h.nx k.nx⟩
theorem fQ (a:PSt):fN a (bf a):=⟨rfl,rfl,zM _⟩
theorem cF (a:PSt):fN a (am a):=⟨rfl,rfl,Nat.le_succ _⟩
theorem rJ (ts:List Tw) (st:PSt) (s:List UInt8):fN st (aW ts st s).2:=by
 unfold aW; split
 ·exact cF _
 ·exact fQ _
theorem tX (ts:List Tw) (st:PSt):fN st (bN ts st).2:=by
 unfold bN; split
 ·exact (cF _).trans (rJ _ _ _)
 ·exact fQ _
theorem tC (ts:List Tw) (st:PSt):fN st (eH ts st).2:=by
 unfold eH; split
 ·exact cF _
 ·exact fQ _
theorem gR (ts:List Tw) (st:PSt):fN st (aT ts st).2:=by
 unfold aT; split
 ·exact cF _
 ·split
  ·exact cF _
  ·split
   ·split
    ·exact (cF _).trans (cF _)
    ·exact (cF _).trans (fQ _)
   ·exact tC _ _
theorem uQ (ts:List Tw) (st:PSt):fN st (fM ts st).2:=by
 unfold fM; split
 ·exact cF _
 ·exact gR _ _
theorem jA (ts:List Tw):∀ (f:Nat) (st:PSt) (acc:List Tm),fN st (bW ts f st acc).2
 | 0,st,_=>fN.refl _
 | f+1,st,acc=>by
  unfold bW; have h:=uQ ts st; generalize fM ts st=r at *; obtain ⟨o,s⟩:=r
  cases o with
  | none=>exact h
  | some t =>
   show fN st (if isP ts s 4 [44]=true then bW ts f (am s) (acc++[t]) else (some (acc++[t]),s)).2; split
   ·exact (h.trans (cF _)).trans (jA ts f _ _)
   ·exact h
theorem ig (ts:List Tw) (st:PSt):fN st (aY ts st).2:=by
 unfold aY; have h:=tX ts st; split
 ·split
  ·exact h.trans (cF _)
  ·have h2:=jA ts (ts.length+1) (bN ts st).2 []
   generalize bW ts (ts.length+1) (bN ts st).2 []=r at *; obtain ⟨o,s⟩:=r
   cases o with
   | none=>exact h.trans h2
   | some al =>
    show fN st (if isP ts s 4 [41]=true then (some (⟨0,false,(bN ts st).1.1,al⟩:Lt),am s) else (none,bf s)).2; split
    ·exact (h.trans h2).trans (cF _)
    ·exact (h.trans h2).trans (fQ _)
 ·exact h
theorem lT (ts:List Tw) (st:PSt):fN st (cW ts st).2:=by
 unfold cW; split
 ·exact (cF _).trans (gR _ _)
 ·split
  ·exact (cF _).trans (gR _ _)
  ·exact fQ _
theorem bL (ts:List Tw) (st:PSt):(aq ts st).2.vars<=st.vars+(ts.length+1)/\(aq ts st).2.rels=st.rels/\(aq ts st).2.nx=st.nx:=⟨(i8 _ _ _ _).1,rfl,rfl⟩
theorem g9 (ts:List Tw) (st:PSt):(bg ts st).2.rels<=st.rels+(ts.length+1)/\(bg ts st).2.vars=st.vars/\(bg ts st).2.nx=st.nx:=⟨(i8 _ _ _ _).1,rfl,rfl⟩
theorem qP (ts:List Tw) (hts:∀ i,(br ts i).text.length<=1048576):∀ (f:Nat) (st:PSt) (acc:List Tm),(∀ t∈acc,t.var.length<=1048576)->∀ al,(bW ts f st acc).1=some al->(∀ t∈al,t.var.length<=1048576)/\al.length+st.nx<=acc.length+(bW ts f st acc).2.nx
 | 0,st,acc,_,al,h=>by cases h
 | f+1,st,acc,ha,al,h=>by
  unfold bW at h ⊢; have hnx:=tl ts st
  have hv:∀ t,(fM ts st).1=some t->t.var.length<=1048576:=by
   intro t ht; unfold fM aT eH at ht; split at ht
   ·cases ht; decide
   ·split at ht
    ·cases ht; exact zW _
    ·split at ht
     ·cases ht; exact zW _
     ·split at ht
      ·split at ht
       ·cases ht; exact zW _
       ·cases ht
      ·split at ht
       ·cases ht; exact hts _
       ·cases ht
  generalize fM ts st=r at *; obtain ⟨o,s⟩:=r
  cases o with
  | none=>cases h
  | some t =>
   have hlt:st.nx < s.nx:=hnx rfl
   have hacc:∀ u∈acc++[t],u.var.length<=1048576:=by
    intro u hu; rcases List.mem_append.1 hu with hu | hu
    ·exact ha u hu
    ·simp at hu; subst hu; exact hv _ rfl
   replace h:(if isP ts s 4 [44]=true then bW ts f (am s) (acc++[t]) else (some (acc++[t]),s)).1=some al:=h; show _/\_<=_+(if isP ts s 4 [44]=true then bW ts f (am s) (acc++[t]) else (some (acc++[t]),s)).2.nx; by_cases hc:isP ts s 4 [44]=true
   ·rw [if_pos hc] at h ⊢
    obtain ⟨h1,h2⟩:=qP ts hts f (am s) (acc++[t]) hacc al h; refine ⟨h1,?_⟩; have:(am s).nx=s.nx+1:=rfl; simp at h2; omega
   ·rw [if_neg hc] at h ⊢
    cases h; exact ⟨hacc,by simp; omega⟩
theorem kh (ts:List Tw) (hts:∀ i,(br ts i).text.length<=1048576) (st:PSt) (l:Lt) (h:(aY ts st).1=some l):(∀ t∈l.args,t.var.length<=1048576)/\l.args.length+st.nx < (aY ts st).2.nx:=by
 unfold aY at h ⊢; by_cases h0:(bN ts st).1.2=true
 ·rw [if_pos h0] at h ⊢
  have hr:st.nx+1 < (bN ts st).2.nx:=by
   unfold bN at h0 ⊢; split at h0
   ·rename_i hc
    rw [if_pos hc]; rw [iF _ _ _ h0]; show st.nx+1 < st.nx+1+1; omega
   ·cases h0
  by_cases h1:isP ts (bN ts st).2 4 [41]=true
  ·rw [if_pos h1] at h ⊢
   cases h; refine ⟨fun t ht=>by simp at ht,?_⟩; show 0+st.nx < (bN ts st).2.nx+1; omega
  ·rw [if_neg h1] at h ⊢
   have h2:=qP ts hts (ts.length+1) (bN ts st).2 [] (fun t ht=>by simp at ht); generalize bW ts (ts.length+1) (bN ts st).2 []=r at *; obtain ⟨o,s⟩:=r
   cases o with
   | none=>cases h
   | some al =>
    obtain ⟨h3,h4⟩:=h2 al rfl; replace h:(if isP ts s 4 [41]=true then (some (⟨0,false,(bN ts st).1.1,al⟩:Lt),am s) else (none,bf s)).1=some l:=h; show _/\_ < (if isP ts s 4 [41]=true then (some (⟨0,false,(bN ts st).1.1,al⟩:Lt),am s) else (none,bf s)).2.nx; by_cases hc:isP ts s 4 [41]=true
    ·rw [if_pos hc] at h ⊢
     cases h; refine ⟨h3,?_⟩; show al.length+st.nx < s.nx+1; simp only [z_] at h4; have:({ nx:=s.nx,vars:=s.vars,rels:=s.rels,err:=s.err }:PSt).nx=s.nx:=rfl; omega
    ·rw [if_neg hc] at h; cases h
 ·rw [if_neg h0] at h; cases h
end Go.Proofs.YtffdpoifdahadaaGreatDoor
