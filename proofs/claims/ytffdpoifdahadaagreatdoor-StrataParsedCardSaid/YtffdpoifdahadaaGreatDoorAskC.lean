/- ask: terms and literals as data; relation, variable, term. -/
import Derived.Test.YtffdpoifdahadaaGreatDoorApiV
set_option linter.unusedVariables false
set_option maxHeartbeats 40000000
set_option maxRecDepth 100000
namespace Go.Proofs.YtffdpoifdahadaaGreatDoor
open Go.RowKit
open Go.Lib (hid)
structure Tm where
 var:List UInt8
 val:Val
def tm0:Tm:=⟨[],⟨0,[],0,0,[],[]⟩⟩
def bh (s:List UInt8):Tm:=⟨s,⟨0,[],0,0,[],[]⟩⟩
def dv (n:Int):Tm:=⟨[],⟨3,[],n,0,[],[]⟩⟩
def eI (s:List UInt8):Tm:=⟨[],⟨4,[],0,0,s,[]⟩⟩
def bN (ts:List Tw) (st:PSt):(List UInt8 × Bool) × PSt :=
 if (br ts st.nx).kind=1/\dz (br ts st.nx).text=true then (((br ts st.nx).text,(aW ts (am st) [40]).1),(aW ts (am st) [40]).2) else (([],false),bf st)
def eH (ts:List Tw) (st:PSt):Option Tm × PSt :=
 if (br ts st.nx).kind=1/\et (br ts st.nx).text=true then (some (bh (br ts st.nx).text),am st) else (none,bf st)
def aT (ts:List Tw) (st:PSt):Option Tm × PSt :=
 if (br ts st.nx).kind=2 then (some (dv (br ts st.nx).n),am st)
 else if (br ts st.nx).kind=3 then (some (eI (br ts st.nx).text),am st)
 else if isP ts st 4 [45] then
  if (br ts (st.nx+1)).kind=2 then (some (dv (-(br ts (st.nx+1)).n)),am (am st)) else (none,bf (am st))
 else eH ts st
abbrev aB (t:Tm):Array Value:=#[sv t.var,iv t.val.kind,sv t.val.t,iv t.val.n,iv t.val.m,sv t.val.s,.slice none 0 0]
def POpt {α:Type} (pb:Nat) (K:PK) (w:World) (f:α->Value) (z:Value) (r:Option α × PSt) (e:Ending) (w':World):Prop :=
 e=.returned (.tuple #[(match r.1 with | some x=>f x | none=>z),.bool r.1.isSome])/\PM pb K r.2 w'/\Fr (one pb) w w'
theorem dl {fn:Func} {p u:Tmp} (h:fn.results=#[.cell p 63,.tmp u]) (tmps:Array Value) (w:World) (R:Nat) (t:Tm) (x:Bool) (hp:tmps.getD p undef=.pointer (some ⟨R,0,none⟩)) (hu:tmps.getD u undef=.bool x) (hR:w.heap[R]? = some (.cells (aB t) 63 (0,0))) :
  (results fn tmps).run Tryz.prog w=.ok (.tuple #[.agg (aB t),.bool x]) w:=by
 rw [results_cell_tmp h,hp,hu]; simp only [asAddr,Sem.run_pure,Result.andThen_ok]; rw [run_loadVar_row w R 63 63 _ (0,0) _ hR Tryz.underlying63 rfl (by kernel_rfl)]; rfl
structure yI (pb:Nat) (K:PK) (st:PSt) (w:World) (t:Tk):Prop where
 peek:Calls Tryz.prog 90 #[pt pb,.int .i64 0] (w.alloc (.cells #[.string ⟨#[]⟩,.int .i64 0,.string ⟨#[]⟩,.int .i64 0,.int .i64 0,.string ⟨#[]⟩,.slice none 0 0] 63)) fun e w'=>e=.returned (.agg #[iv t.kind,sv t.text,iv t.n,iv t.pos])/\Below (w.heap.size+1) (w.alloc (.cells #[.string ⟨#[]⟩,.int .i64 0,.string ⟨#[]⟩,.int .i64 0,.int .i64 0,.string ⟨#[]⟩,.slice none 0 0] 63)) w'
 pm:PM pb K st (w.alloc (.cells #[.string ⟨#[]⟩,.int .i64 0,.string ⟨#[]⟩,.int .i64 0,.int .i64 0,.string ⟨#[]⟩,.slice none 0 0] 63))
 row:(w.alloc (.cells #[.string ⟨#[]⟩,.int .i64 0,.string ⟨#[]⟩,.int .i64 0,.int .i64 0,.string ⟨#[]⟩,.slice none 0 0] 63)).heap[w.heap.size]? = some (.cells (aB tm0) 63 (0,0))
 tok:tw t=br K.ts st.nx
 kn:t.kind≠0->st.nx < K.toks.length
 ok:0<=t.n/\t.n<=9007199254740992/\t.text.length<=1048576
theorem yI.of {pb:Nat} {K:PK} {st:PSt} {w:World} (h:PM pb K st w):yI pb K st w (cV K st.nx):=by
 have hM:=h.below ((zN w.heap.size w).alloc (zM _) (.cells #[.string ⟨#[]⟩,.int .i64 0,.string ⟨#[]⟩,.int .i64 0,.int .i64 0,.string ⟨#[]⟩,.slice none 0 0] 63)); have hw:=iy K st.nx; refine ⟨?_,hM,af _ _,hw,fun e=>iV (by rw [← hw]; exact e),by have:=h.tok_ok st.nx; rw [← hw] at this; exact this⟩; have:=fo pb K st 0 (by decide) _ hM
 have e:(w.alloc (.cells #[.string ⟨#[]⟩,.int .i64 0,.string ⟨#[]⟩,.int .i64 0,.int .i64 0,.string ⟨#[]⟩,.slice none 0 0] 63)).heap.size=w.heap.size+1:=by simp
 rw [e] at this; exact this
theorem PM.fr {pb:Nat} {K:PK} {st st':PSt} {w w':World} (h:PM pb K st w) (hf:Fr (one pb) w w') (hb:w'.heap[pb]? = some (.cells (oF K st') 93 (0,0))) (hn:st'.nx<=K.toks.length):PM pb K st' w' :=
 ⟨hb,h.tok.move cY fun q hq hs=>⟨hs,hf.block q hq hs⟩,h.map.same (hf.block _ h.map.lt h.far),h.far,hn,h.len,h.ok⟩
abbrev setTm (w:World) (R:Nat) (t:Tm):World:=((((((w.setCell ⟨R,0,none⟩ (sv t.var)).setCell ⟨R,1,none⟩ (iv t.val.kind)).setCell ⟨R,2,none⟩ (sv t.val.t)).setCell ⟨R,3,none⟩ (iv t.val.n)).setCell ⟨R,4,none⟩ (iv t.val.m)).setCell ⟨R,5,none⟩ (sv t.val.s)).setCell ⟨R,6,none⟩ (.slice none 0 0)
theorem a_ {w:World} {R k:Nat} {t:Tm} (h:k≠R):(setTm w R t).heap[k]? = w.heap[k]? :=
 (ak _ h).trans <| (ak _ h).trans <| (ak _ h).trans <| (ak _ h).trans <| (ak _ h).trans <| (ak _ h).trans (ak _ h)
theorem cK {w:World} {R:Nat} {t0:Tm} (h:w.heap[R]? = some (.cells (aB t0) 63 (0,0))) (t:Tm):(setTm w R t).heap[R]? = some (.cells (aB t) 63 (0,0)):=by
 have a0:=aC h (i:=0) (sv t.var); have a1:=aC a0 (i:=1) (iv t.val.kind); have a2:=aC a1 (i:=2) (sv t.val.t); have a3:=aC a2 (i:=3) (iv t.val.n); have a4:=aC a3 (i:=4) (iv t.val.m); have a5:=aC a4 (i:=5) (sv t.val.s); have a6:=aC a5 (i:=6) (.slice none 0 0); simpa using a6
theorem Fr.setTm {S:Nat->Prop} {a w:World} (h:Fr S a w) {R:Nat} (hR:a.heap.size<=R) (t:Tm):Fr S a (setTm w R t) :=
 ((((((h.setCell (p:=⟨R,0,none⟩) (Or.inr hR) _).setCell (p:=⟨R,1,none⟩) (Or.inr hR) _).setCell (p:=⟨R,2,none⟩) (Or.inr hR) _).setCell (p:=⟨R,3,none⟩) (Or.inr hR) _).setCell (p:=⟨R,4,none⟩) (Or.inr hR) _).setCell (p:=⟨R,5,none⟩) (Or.inr hR) _).setCell (p:=⟨R,6,none⟩) (Or.inr hR) _
theorem ie {pb:Nat} {K:PK} {st st':PSt} {w W:World} (h0:PM pb K st w) (h:PM pb K st' W) (hf:Fr (one pb) w W) (t:Tm):PM pb K st' (setTm W w.heap.size t)/\Fr (one pb) w (setTm W w.heap.size t):=by
 have hlt:=h0.lt; have hf2:=hf.setTm (zM w.heap.size) t; exact ⟨h0.fr hf2 ((a_ (by omega)).trans h.blk) h.nx,hf2⟩
theorem aH {w:World} {R:Nat} {t:Tm} (h:w.heap[R]? = some (.cells (aB t) 63 (0,0))):w.cell? ⟨R,0,none⟩=some (sv t.var)/\w.cell? ⟨R,1,none⟩=some (iv t.val.kind)/\w.cell? ⟨R,2,none⟩=some (sv t.val.t)/\w.cell? ⟨R,3,none⟩=some (iv t.val.n)/\w.cell? ⟨R,4,none⟩=some (iv t.val.m)/\w.cell? ⟨R,5,none⟩=some (sv t.val.s)/\w.cell? ⟨R,6,none⟩=some (.slice none 0 0)/\∀ i,w.frozen? ⟨R,i,none⟩=false :=
 ⟨(aj h).trans rfl,(aj h).trans rfl,(aj h).trans rfl,(aj h).trans rfl,(aj h).trans rfl,(aj h).trans rfl,(aj h).trans rfl,fun i=>bX h⟩
theorem jI (pb:Nat) (K:PK) (st:PSt) (w:World) (h:PM pb K st w) :
  Calls Tryz.prog 112 #[pt pb] w (POpt pb K w (fun t=>.agg (aB t)) (.agg (aB tm0)) (eH K.ts st)):=by
 have hH:=hid (yI.of h); have hh:=hid h; have hn:=h.nx; have hl:=h.len; have hpl:=h.lt
 have hne:¬ pb=w.heap.size:=by omega
 have hne2:¬ w.heap.size=pb:=by omega
 obtain ⟨R,hR⟩:∃ R,R=eH K.ts st:=⟨_,rfl⟩; rw [← hR]; unfold eH at hR; rw [← hH.out.tok] at hR; obtain ⟨t,ht⟩:∃ t,t=cV K st.nx:=⟨_,rfl⟩; rw [← ht] at hH hR
 replace hR:R=if t.kind=1/\et t.text=true then (some (bh t.text),am st) else (none,bf st):=hR
 have htl:t.text.length<=1048576:=hH.out.ok.2.2; clear h; replace ht:=hid ht; by_cases h1:t.kind=1
 ·have b1:(t.kind != 1)=false:=by rw [h1]; rfl
  have hv:=hid (fun w=>fZ t.text w htl); obtain ⟨z,hz⟩:∃ z,et t.text=z:=⟨_,rfl⟩; rw [hz] at hR hv; replace hz:=hid hz; have hnl:=hH.out.kn (by rw [h1]; decide)
  have e1:IntKind.i64.wrap ((st.nx:Int)+1)=((st.nx+1:Nat):Int):=by rw [zX]; omega
  cases z with
  | true =>
   replace hR:=hid (hR.trans (if_pos ⟨h1,rfl⟩)); replace h1:=hid h1
   go_enter Tryz.func112,Tryz.ntmps112
   go_wp2_with fail
   with_reducible refine hH.out.peek.mono ?_
   rintro e w1 ⟨rfl,hb⟩
   have hb':Below (w.alloc (.cells #[.string ⟨#[]⟩,.int .i64 0,.string ⟨#[]⟩,.int .i64 0,.int .i64 0,.string ⟨#[]⟩,.slice none 0 0] 63)).heap.size (w.alloc (.cells #[.string ⟨#[]⟩,.int .i64 0,.string ⟨#[]⟩,.int .i64 0,.int .i64 0,.string ⟨#[]⟩,.slice none 0 0] 63)) w1:=by simpa using hb
   have hM:=hid ((hH.out.pm.below hb').below ((zN w1.heap.size w1).alloc (zM _) (.cells #[iv t.kind,sv t.text,iv t.n,iv t.pos] 95))); have hrow:=hid ((z7 w1 (.cells #[iv t.kind,sv t.text,iv t.n,iv t.pos] 95) _ (zS (by simp) hb'.size)).trans (an hb' hH.out.row (by simp))); have hfr:=hid ((((Fr.refl (one pb) w).alloc (.cells #[.string ⟨#[]⟩,.int .i64 0,.string ⟨#[]⟩,.int .i64 0,.int .i64 0,.string ⟨#[]⟩,.slice none 0 0] 63)).trans (Fr.of_below hb' (one pb))).alloc (.cells #[iv t.kind,sv t.text,iv t.n,iv t.pos] 95)); have hlt1:w.heap.size < w1.heap.size:=zS (by simp) hb'.size; have hr:=af w1 (.cells #[iv t.kind,sv t.text,iv t.n,iv t.pos] 95); obtain ⟨d0,d1,d2,d3⟩:=bY hr
   have hbk:=hid (show w1.heap.size < (w1.alloc (.cells #[iv t.kind,sv t.text,iv t.n,iv t.pos] 95)).heap.size by simp)
   have hne3:¬ w1.heap.size=pb:=by omega
   have hne4:¬ w1.heap.size=w.heap.size:=by omega
   have hne5:¬ w.heap.size=w1.heap.size:=by omega
   have hne6:¬ pb=w1.heap.size:=by omega
   replace hr:=hid hr; clear hb hb'
   go_wp2_with fail
   with_reducible refine (hv.out _).mono ?_
   rintro e w2 ⟨rfl,hb⟩; have hM2:=hid (hM.out.below hb); have hrow2:=an hb hrow.out (by simp; omega); have hfr2:=hid (hfr.out.trans (Fr.of_below hb (one pb))); obtain ⟨g0,g1,g2,g3⟩:=bY (an hb hr.out hbk.out); have c1:=hM2.out.cell (i:=1) (v:=iv st.nx) rfl; have f1:=hM2.out.free 1; obtain ⟨q0,q1,q2,q3,q4,q5,q6,fz⟩:=aH hrow2; have fz0:=fz 0; have fz1:=fz 1; have fz2:=fz 2; have fz3:=fz 3; have fz4:=fz 4; have fz5:=fz 5; have fz6:=fz 6; clear fz; clear hb; replace hrow2:=hid hrow2
   go_wp2_with fail
   have hM3:=hM2.out.setNx (st.nx+1) hnl; have hf3:=hfr2.out.setCell (p:=⟨pb,1,none⟩) (Or.inl (show one pb pb from rfl)) (iv ((st.nx+1:Nat):Int)); have hrow3:(w2.setCell ⟨pb,1,none⟩ (iv ((st.nx+1:Nat):Int))).heap[w.heap.size]? = some (.cells (aB tm0) 63 (0,0)):=(ak _ hne2).trans hrow2.out; obtain ⟨hPM,hFF⟩:=ie hh.out hM3 hf3 (bh t.text); refine bodyPost_ret (v:=.tuple #[.agg (aB (bh t.text)),.bool true]) (dl (by rfl) _ _ w.heap.size (bh t.text) true (by rfl) (by rfl) (cK hrow3 (bh t.text))) rfl ⟨by rw [hR.out]; rfl,by rw [hR.out]; exact hPM,hFF⟩
  | false =>
   replace hR:=hid (hR.trans (if_neg (fun e=>by cases e.2))); replace h1:=hid h1
   go_enter Tryz.func112,Tryz.ntmps112
   go_wp2_with fail
   with_reducible refine hH.out.peek.mono ?_
   rintro e w1 ⟨rfl,hb⟩
   have hb':Below (w.alloc (.cells #[.string ⟨#[]⟩,.int .i64 0,.string ⟨#[]⟩,.int .i64 0,.int .i64 0,.string ⟨#[]⟩,.slice none 0 0] 63)).heap.size (w.alloc (.cells #[.string ⟨#[]⟩,.int .i64 0,.string ⟨#[]⟩,.int .i64 0,.int .i64 0,.string ⟨#[]⟩,.slice none 0 0] 63)) w1:=by simpa using hb
   have hM:=hid ((hH.out.pm.below hb').below ((zN w1.heap.size w1).alloc (zM _) (.cells #[iv t.kind,sv t.text,iv t.n,iv t.pos] 95))); have hrow:=hid ((z7 w1 (.cells #[iv t.kind,sv t.text,iv t.n,iv t.pos] 95) _ (zS (by simp) hb'.size)).trans (an hb' hH.out.row (by simp))); have hfr:=hid ((((Fr.refl (one pb) w).alloc (.cells #[.string ⟨#[]⟩,.int .i64 0,.string ⟨#[]⟩,.int .i64 0,.int .i64 0,.string ⟨#[]⟩,.slice none 0 0] 63)).trans (Fr.of_below hb' (one pb))).alloc (.cells #[iv t.kind,sv t.text,iv t.n,iv t.pos] 95)); have hlt1:w.heap.size < w1.heap.size:=zS (by simp) hb'.size; have hr:=af w1 (.cells #[iv t.kind,sv t.text,iv t.n,iv t.pos] 95); obtain ⟨d0,d1,d2,d3⟩:=bY hr
   have hbk:=hid (show w1.heap.size < (w1.alloc (.cells #[iv t.kind,sv t.text,iv t.n,iv t.pos] 95)).heap.size by simp)
   have hne3:¬ w1.heap.size=pb:=by omega
   have hne4:¬ w1.heap.size=w.heap.size:=by omega
   have hne5:¬ w.heap.size=w1.heap.size:=by omega
   have hne6:¬ pb=w1.heap.size:=by omega
   replace hr:=hid hr; clear hb hb'
   go_wp2_with fail
   with_reducible refine (hv.out _).mono ?_
   rintro e w2 ⟨rfl,hb⟩; have hM2:=hid (hM.out.below hb); have hrow2:=hid (an hb hrow.out (by simp; omega)); have hfr2:=hid (hfr.out.trans (Fr.of_below hb (one pb))); have hlt2:w.heap.size < w2.heap.size:=zS (by simp; omega) hb.size; have hfl:=hid (dw pb K st w2 hM2.out); clear hb
   go_wp2_with fail
   with_reducible refine hfl.out.mono ?_
   rintro e w3 ⟨rfl,hM3,hf3⟩; have hrow3:=(hf3.block _ hlt2 hne2).trans hrow2.out; have hf4:=hid (hfr2.out.trans hf3); replace hM3:=hid hM3; clear hf3; obtain ⟨q0,q1,q2,q3,q4,q5,q6,fz⟩:=aH hrow3; have fz0:=fz 0; have fz1:=fz 1; have fz2:=fz 2; have fz3:=fz 3; have fz4:=fz 4; have fz5:=fz 5; have fz6:=fz 6; clear fz; replace hrow3:=hid hrow3
   go_wp2_with fail
   obtain ⟨hPM,hFF⟩:=ie hh.out hM3.out hf4.out tm0; refine bodyPost_ret (v:=.tuple #[.agg (aB tm0),.bool false]) (dl (by rfl) _ _ w.heap.size tm0 false (by rfl) (by rfl) (cK hrow3.out tm0)) rfl ⟨by rw [hR.out]; rfl,by rw [hR.out]; exact hPM,hFF⟩
 ·have b1:(t.kind != 1)=true:=bne_iff_ne.2 h1
  replace hR:=hid (hR.trans (if_neg (fun e=>h1 e.1))); replace h1:=hid h1
  go_enter Tryz.func112,Tryz.ntmps112
  go_wp2_with fail
  with_reducible refine hH.out.peek.mono ?_
  rintro e w1 ⟨rfl,hb⟩
  have hb':Below (w.alloc (.cells #[.string ⟨#[]⟩,.int .i64 0,.string ⟨#[]⟩,.int .i64 0,.int .i64 0,.string ⟨#[]⟩,.slice none 0 0] 63)).heap.size (w.alloc (.cells #[.string ⟨#[]⟩,.int .i64 0,.string ⟨#[]⟩,.int .i64 0,.int .i64 0,.string ⟨#[]⟩,.slice none 0 0] 63)) w1:=by simpa using hb
  have hM:=hid ((hH.out.pm.below hb').below ((zN w1.heap.size w1).alloc (zM _) (.cells #[iv t.kind,sv t.text,iv t.n,iv t.pos] 95))); have hrow:=hid ((z7 w1 (.cells #[iv t.kind,sv t.text,iv t.n,iv t.pos] 95) _ (zS (by simp) hb'.size)).trans (an hb' hH.out.row (by simp))); have hfr:=hid ((((Fr.refl (one pb) w).alloc (.cells #[.string ⟨#[]⟩,.int .i64 0,.string ⟨#[]⟩,.int .i64 0,.int .i64 0,.string ⟨#[]⟩,.slice none 0 0] 63)).trans (Fr.of_below hb' (one pb))).alloc (.cells #[iv t.kind,sv t.text,iv t.n,iv t.pos] 95)); have hlt1:w.heap.size < w1.heap.size:=zS (by simp) hb'.size; have hr:=af w1 (.cells #[iv t.kind,sv t.text,iv t.n,iv t.pos] 95); obtain ⟨d0,d1,d2,d3⟩:=bY hr
  have hbk:=hid (show w1.heap.size < (w1.alloc (.cells #[iv t.kind,sv t.text,iv t.n,iv t.pos] 95)).heap.size by simp)
  have hne3:¬ w1.heap.size=pb:=by omega
  have hne4:¬ w1.heap.size=w.heap.size:=by omega
  have hne5:¬ w.heap.size=w1.heap.size:=by omega
  have hne6:¬ pb=w1.heap.size:=by omega
  replace hr:=hid hr; clear hb hb'; have hfl:=hid (dw pb K st _ hM.out)
  go_wp2_with fail
  with_reducible refine hfl.out.mono ?_
  rintro e w3 ⟨rfl,hM3,hf3⟩; have hrow3:=(hf3.block _ (by simp; omega) hne2).trans hrow.out; have hf4:=hid (hfr.out.trans hf3); replace hM3:=hid hM3; clear hf3; obtain ⟨q0,q1,q2,q3,q4,q5,q6,fz⟩:=aH hrow3; have fz0:=fz 0; have fz1:=fz 1; have fz2:=fz 2; have fz3:=fz 3; have fz4:=fz 4; have fz5:=fz 5; have fz6:=fz 6; clear fz; replace hrow3:=hid hrow3
  go_wp2_with fail
  obtain ⟨hPM,hFF⟩:=ie hh.out hM3.out hf4.out tm0; refine bodyPost_ret (v:=.tuple #[.agg (aB tm0),.bool false]) (dl (by rfl) _ _ w.heap.size tm0 false (by rfl) (by rfl) (cK hrow3.out tm0)) rfl ⟨by rw [hR.out]; rfl,by rw [hR.out]; exact hPM,hFF⟩
end Go.Proofs.YtffdpoifdahadaaGreatDoor
