/- ask: relation, term. -/
import Derived.Test.YtffdpoifdahadaaGreatDoorAskC
import Derived.Deep.RegionHeld3
set_option linter.unusedVariables false
set_option maxHeartbeats 40000000
set_option maxRecDepth 100000
namespace Go.Proofs.YtffdpoifdahadaaGreatDoor
open Go.RowKit
open Go.Lib (hid)
section
variable {P:Program} {ops:Array Oper} {Q:Exit->Act->World->Prop} {md:Region.Mode} {S:World->Prop} {i:Nat} {fuel:Nat} {listed:Array Bool} {a:Act} {w:World} {x1:Option Tmp} {x2:Op} {x3:TypeId} {x4:String} {x5:Array Edge} {x6:Option (Nat × Bool)}
theorem wTk {v:Value} (hi:ops[i]? = some ⟨x1,x2,x3,x4,x5,x6⟩) (hy:∀ w,S w->(execOp a.eval ⟨x1,x2,x3,x4,x5,x6⟩).run P w=.ok (.value v) w) (h:wpAnyH P md ops Q S fuel (listed.setIfInBounds i true) (a.put x1 v) w)
  (hw:Region.wanted ⟨x1,x2,x3,x4,x5,x6⟩ (yielded ops a.tmps)=true:=by rfl) (hS:S w:=by assumption) (hQ:∀ c a w,Q (.panic c) (a.put x1 v) w->Q (.panic c) a w:=by exact fun _ _ _ h=>h)
  (hs:Region.noSelect ops=true:=by as_aux_lemma=>kernel_rfl) (hf:Region.free md ops listed i=true:=by as_aux_lemma=>kernel_rfl) (hr:(Region.ready md ops listed).contains i=true:=by as_aux_lemma=>kernel_rfl):wpAnyH P md ops Q S (fuel+1) listed a w :=
 wpAnyH_take hi hs hf hr hQ (Or.inl ⟨hw,hy⟩) hS h
theorem rdC {rs:List Nat} (ho:ops[i]? = some ⟨x1,x2,x3,x4,x5,x6⟩) (h:∀ (K':Act->World->Prop),Shut (∀ (a:Act) (w:World),S w->(S w->wpAnyH P md ops Q S fuel (listed.setIfInBounds i true) a w)->K' a w)->if Region.wanted ⟨x1,x2,x3,x4,x5,x6⟩ (yielded ops a.tmps)=true then Oper.wp P ⟨x1,x2,x3,x4,x5,x6⟩ a w K' Q else K' (a.put x1 undef) w)
  (hs:AllReadyH P md ops Q S fuel listed a w rs):AllReadyH P md ops Q S fuel listed a w (i::rs):=AllReadyH.cons ho h hs
theorem rdY (ho:ops[i]? = some ⟨x1,x2,x3,x4,x5,x6⟩) (h:∀ (K':Act->World->Prop),Shut (∀ (a:Act) (w:World),S w->(S w->wpAnyH P md ops Q S fuel (listed.setIfInBounds i true) a w)->K' a w)->if Region.wanted ⟨x1,x2,x3,x4,x5,x6⟩ (yielded ops a.tmps)=true then Oper.wp P ⟨x1,x2,x3,x4,x5,x6⟩ a w K' Q else K' (a.put x1 undef) w) :
  AllReadyH P md ops Q S fuel listed a w [i]:=AllReadyH.cons ho h AllReadyH.nil
end
theorem sI {α:Type} (l:List α) (i:Nat) (a:α):l.toArray.setIfInBounds i a=(l.set i a).toArray:=List.setIfInBounds_toArray ..
theorem sZ {α:Type} {x:α} {xs:List α} {a:α}:(x::xs).set 0 a=a::xs:=List.set_cons_zero
theorem sS {α:Type} {x:α} {xs:List α} {i:Nat} {a:α}:(x::xs).set (i+1) a=x::xs.set i a:=List.set_cons_succ
theorem PM.drew {pb:Nat} {K:PK} {st:PSt} {w:World} (h:PM pb K st w):PM pb K st w.drew:=h.below ((zN _ w).drew)
theorem Fr.cell {S:Nat->Prop} {w w':World} (h:Fr S w w') {b i:Nat} (hb:b < w.heap.size) (hs:¬ S b):w'.cell? ⟨b,i,none⟩=w.cell? ⟨b,i,none⟩:=Af (h.block b hb hs)
theorem jT (pb:Nat) (K:PK) (st:PSt) (w:World) (h:PM pb K st w) :
  Calls Tryz.prog 88 #[pt pb] w fun e w'=>e=.returned (.tuple #[sv (bN K.ts st).1.1,.bool (bN K.ts st).1.2])/\PM pb K (bN K.ts st).2 w'/\Fr (one pb) w w':=by
 have hp0:=hid (show Calls Tryz.prog 90 #[pt pb,.int .i64 0] w fun e w'=>e=.returned (.agg #[iv (cV K st.nx).kind,sv (cV K st.nx).text,iv (cV K st.nx).n,iv (cV K st.nx).pos])/\Below w.heap.size w w' from fo pb K st 0 (by decide) w h); have hw:=iy K st.nx; have hkn0:=iV (K:=K) (i:=st.nx); have hok:=h.tok_ok st.nx; rw [← hw] at hok hkn0; have hh:=hid h; have hn:=h.nx; have hl:=h.len; have hpl:=h.lt; obtain ⟨R,hR⟩:∃ R,R=bN K.ts st:=⟨_,rfl⟩; rw [← hR]; unfold bN at hR; rw [← hw] at hR; obtain ⟨t,ht⟩:∃ t,t=cV K st.nx:=⟨_,rfl⟩; rw [← ht] at hp0 hR hok hkn0
 replace hR:R=if t.kind=1/\dz t.text=true then ((t.text,(aW K.ts (am st) [40]).1),(aW K.ts (am st) [40]).2) else (([],false),bf st):=hR
 have htl:t.text.length<=1048576:=hok.2.2; have hkn:t.kind≠0->st.nx < K.toks.length:=hkn0; clear h hw hok hkn0; replace ht:=hid ht; by_cases h1:t.kind=1
 ·have b1:(t.kind != 1)=false:=by rw [h1]; rfl
  have hv:=hid (fun w=>dO t.text w htl); obtain ⟨z,hz⟩:∃ z,dz t.text=z:=⟨_,rfl⟩; rw [hz] at hR hv; replace hz:=hid hz; have hnl:=hkn (by rw [h1]; decide)
  have e1:IntKind.i64.wrap ((st.nx:Int)+1)=((st.nx+1:Nat):Int):=by rw [zX]; omega
  cases z with
  | true =>
   replace hR:=hR.trans (if_pos ⟨h1,rfl⟩); obtain ⟨nb,hnb⟩:∃ nb,nb=aW K.ts (am st) [40]:=⟨_,rfl⟩; rw [← hnb] at hR; replace hnb:=hid hnb; replace hR:=hid hR; replace h1:=hid h1
   go_enter Tryz.func88,Tryz.ntmps88
   go_wp2_with fail
   with_reducible refine hp0.out.mono ?_
   rintro e w1 ⟨rfl,hb⟩; have hM:=hid ((hh.out.below hb).below ((zN w1.heap.size w1).alloc (zM _) (.cells #[iv t.kind,sv t.text,iv t.n,iv t.pos] 95))); have hfr:=hid ((Fr.of_below hb (one pb)).alloc (.cells #[iv t.kind,sv t.text,iv t.n,iv t.pos] 95)); have hr:=af w1 (.cells #[iv t.kind,sv t.text,iv t.n,iv t.pos] 95); obtain ⟨d0,d1,d2,d3⟩:=bY hr; have hbk:=hid (show w1.heap.size < (w1.alloc (.cells #[iv t.kind,sv t.text,iv t.n,iv t.pos] 95)).heap.size by simp); have hwl:=hb.size
   have hne6:¬ pb=w1.heap.size:=by omega
   have hne7:¬ w1.heap.size=pb:=by omega
   replace hr:=hid hr; clear hb
   go_wp2_with fail
   with_reducible refine (hv.out _).mono ?_
   rintro e w2 ⟨rfl,hb⟩; have hM2:=hid (hM.out.below hb); have hfr2:=hid (hfr.out.trans (Fr.of_below hb (one pb))); have hr2:=hid (an hb hr.out hbk.out); have hbk2:=hid (zS hbk.out hb.size); have c1:=hM2.out.cell (i:=1) (v:=iv st.nx) rfl; have f1:=hM2.out.free 1; have hM3:PM pb K (am st) (w2.setCell ⟨pb,1,none⟩ (.int .i64 ((st.nx:Int)+1))).drew:=(hM2.out.setNx (st.nx+1) hnl).drew; have hneed:=hid (gH pb K (am st) [40] _ hM3); rw [← hnb.out] at hneed; have hf3:=hid ((hfr2.out.setCell (p:=⟨pb,1,none⟩) (Or.inl (show one pb pb from rfl)) (iv ((st.nx+1:Nat):Int))).drew); have hr3:(w2.setCell ⟨pb,1,none⟩ (iv ((st.nx+1:Nat):Int))).drew.heap[w1.heap.size]? = some (.cells #[iv t.kind,sv t.text,iv t.n,iv t.pos] 95):=(ak _ hne7).trans hr2.out
   have k1:=(bY hr3).2.1; have hsz3:w1.heap.size < (w2.setCell ⟨pb,1,none⟩ (iv ((st.nx+1:Nat):Int))).drew.heap.size:=ae hr3; obtain ⟨g0,g1,g2,g3⟩:=bY hr2.out; clear hb hM3 hr3
   go_wp2_with fail
   refine wp_region_held_drew (S:=fun w'=>w'.cell? ⟨w1.heap.size,1,none⟩=some (sv t.text)) (by kernel_rfl) ?_ (fun hHeld=>?_)
   ·exact k1
   refine wTk (i:=0) (v:=?_) rfl ?hy ?_
   case hy =>
    intro w hSw
    (try dsimp only at hSw)
    go_simp
    all_goals with_reducible rfl
   try simp only [Act.put,sI,sZ,sS]
   refine wTk (i:=1) (v:=?_) rfl ?hy ?_
   case hy =>
    intro w hSw
    (try dsimp only at hSw)
    go_simp
    all_goals with_reducible rfl
   try simp only [Act.put,sI,sZ,sS]
   refine wTk (i:=2) (v:=?_) rfl ?hy ?_
   case hy =>
    intro w hSw
    (try dsimp only at hSw)
    go_simp
    all_goals with_reducible rfl
   try simp only [Act.put,sI,sZ,sS]
   refine wpAnyH_ready (rs:=[3]) (by as_aux_lemma=>kernel_rfl) (by simp) ?_; refine rdY rfl (fun K hK=>?_); go_simp
   go_at_call 61
   refine hneed.out.mono ?_; rintro e w4 ⟨rfl,hM4,hf4⟩; have k2:w4.cell? ⟨w1.heap.size,1,none⟩=some (sv t.text):=(hf4.cell hsz3 hne7).trans k1; refine hK.out _ _ ?_ (fun hHeld2=>?_)
   ·exact k2
   clear hK K hHeld; have hHeld:=hHeld2; clear hHeld2
   try simp only [Act.put,sI,sZ,sS]
   refine wTk (i:=4) (v:=?_) rfl ?hy ?_
   case hy =>
    intro w hSw
    (try dsimp only at hSw)
    go_simp
    all_goals with_reducible rfl
   try simp only [Act.put,sI,sZ,sS]
   refine wTk (i:=5) (v:=?_) rfl ?hy ?_
   case hy =>
    intro w hSw
    (try dsimp only at hSw)
    go_simp
    all_goals with_reducible rfl
   try simp only [Act.put,sI,sZ,sS]
   refine wpAnyH_done (by as_aux_lemma=>kernel_rfl) ?_ _
   go_wp2_with fail
   go_ret2
   exact ⟨by rw [hR.out]; rfl,by rw [hR.out]; exact hM4,hf3.out.trans hf4⟩
  | false =>
   replace hR:=hid (hR.trans (if_neg (fun e=>by cases e.2))); replace h1:=hid h1
   go_enter Tryz.func88,Tryz.ntmps88
   go_wp2_with fail
   with_reducible refine hp0.out.mono ?_
   rintro e w1 ⟨rfl,hb⟩; have hM:=hid ((hh.out.below hb).below ((zN w1.heap.size w1).alloc (zM _) (.cells #[iv t.kind,sv t.text,iv t.n,iv t.pos] 95))); have hfr:=hid ((Fr.of_below hb (one pb)).alloc (.cells #[iv t.kind,sv t.text,iv t.n,iv t.pos] 95)); have hr:=af w1 (.cells #[iv t.kind,sv t.text,iv t.n,iv t.pos] 95); obtain ⟨d0,d1,d2,d3⟩:=bY hr; clear hb hr
   go_wp2_with fail
   with_reducible refine (hv.out _).mono ?_
   rintro e w2 ⟨rfl,hb⟩; have hfl:=hid (dw pb K st w2 (hM.out.below hb)); have hfr2:=hid (hfr.out.trans (Fr.of_below hb (one pb))); clear hb
   go_wp2_with fail
   with_reducible refine hfl.out.mono ?_
   rintro e w3 ⟨rfl,hM3,hf3⟩; have hf4:=hid (hfr2.out.trans hf3); replace hM3:=hid hM3; clear hf3
   go_wp2_with fail
   go_ret2
   exact ⟨by rw [hR.out]; rfl,by rw [hR.out]; exact hM3.out,hf4.out⟩
 ·have b1:(t.kind != 1)=true:=bne_iff_ne.2 h1
  replace hR:=hid (hR.trans (if_neg (fun e=>h1 e.1))); replace h1:=hid h1
  go_enter Tryz.func88,Tryz.ntmps88
  go_wp2_with fail
  with_reducible refine hp0.out.mono ?_
  rintro e w1 ⟨rfl,hb⟩; have hM:=hid ((hh.out.below hb).below ((zN w1.heap.size w1).alloc (zM _) (.cells #[iv t.kind,sv t.text,iv t.n,iv t.pos] 95))); have hfr:=hid ((Fr.of_below hb (one pb)).alloc (.cells #[iv t.kind,sv t.text,iv t.n,iv t.pos] 95)); have hfl:=hid (dw pb K st _ hM.out); clear hb
  go_wp2_with fail
  with_reducible refine hfl.out.mono ?_
  rintro e w3 ⟨rfl,hM3,hf3⟩; have hf4:=hid (hfr.out.trans hf3); replace hM3:=hid hM3; clear hf3
  go_wp2_with fail
  go_ret2
  exact ⟨by rw [hR.out]; rfl,by rw [hR.out]; exact hM3.out,hf4.out⟩
theorem lP (pb:Nat) (K:PK) (st:PSt) (w:World) (h:PM pb K st w) :
  Calls Tryz.prog 98 #[pt pb] w (POpt pb K w (fun t=>.agg (aB t)) (.agg (aB tm0)) (aT K.ts st)):=by
 have hH:=hid (yI.of h); have hh:=hid h; have hn:=h.nx; have hl:=h.len; have hpl:=h.lt
 have hne:¬ pb=w.heap.size:=by omega
 have hne2:¬ w.heap.size=pb:=by omega
 obtain ⟨R,hR⟩:∃ R,R=aT K.ts st:=⟨_,rfl⟩; rw [← hR]; unfold aT at hR; rw [← hH.out.tok] at hR; obtain ⟨t,ht⟩:∃ t,t=cV K st.nx:=⟨_,rfl⟩; rw [← ht] at hH hR; obtain ⟨s1,hs1⟩:∃ z,isP K.ts st 4 [45]=z:=⟨_,rfl⟩; rw [hs1] at hR; obtain ⟨u,hu⟩:∃ u,u=br K.ts (st.nx+1):=⟨_,rfl⟩; obtain ⟨vp,hvp⟩:∃ vp,vp=eH K.ts st:=⟨_,rfl⟩; rw [← hu,← hvp] at hR
 replace hR:R=if t.kind=2 then (some (dv t.n),am st) else if t.kind=3 then (some (eI t.text),am st) else if s1=true then (if u.kind=2 then (some (dv (-u.n)),am (am st)) else (none,bf (am st))) else vp:=hR
 replace hu:=hid hu; replace hvp:=hid hvp; replace hs1:=hid hs1; clear h; replace ht:=hid ht
 have e1:IntKind.i64.wrap ((st.nx:Int)+1)=((st.nx+1:Nat):Int):=by rw [zX]; omega
 by_cases h2:t.kind=2
 ·have b2:(t.kind == 2)=true:=by rw [h2]; rfl
  have hnl:=hH.out.kn (by rw [h2]; decide); replace hR:=hid (hR.trans (if_pos h2)); replace h2:=hid h2
  go_enter Tryz.func98,Tryz.ntmps98
  go_wp2_with fail
  with_reducible refine hH.out.peek.mono ?_
  rintro e w1 ⟨rfl,hb⟩
  have hb':Below (w.alloc (.cells #[.string ⟨#[]⟩,.int .i64 0,.string ⟨#[]⟩,.int .i64 0,.int .i64 0,.string ⟨#[]⟩,.slice none 0 0] 63)).heap.size (w.alloc (.cells #[.string ⟨#[]⟩,.int .i64 0,.string ⟨#[]⟩,.int .i64 0,.int .i64 0,.string ⟨#[]⟩,.slice none 0 0] 63)) w1:=by simpa using hb
  have hM:=hid ((hH.out.pm.below hb').below ((zN w1.heap.size w1).alloc (zM _) (.cells #[iv t.kind,sv t.text,iv t.n,iv t.pos] 95))); have hrow:=hid ((z7 w1 (.cells #[iv t.kind,sv t.text,iv t.n,iv t.pos] 95) _ (zS (by simp) hb'.size)).trans (an hb' hH.out.row (by simp))); have hfr:=hid ((((Fr.refl (one pb) w).alloc (.cells #[.string ⟨#[]⟩,.int .i64 0,.string ⟨#[]⟩,.int .i64 0,.int .i64 0,.string ⟨#[]⟩,.slice none 0 0] 63)).trans (Fr.of_below hb' (one pb))).alloc (.cells #[iv t.kind,sv t.text,iv t.n,iv t.pos] 95)); have hlt1:w.heap.size < w1.heap.size:=zS (by simp) hb'.size; have hr:=af w1 (.cells #[iv t.kind,sv t.text,iv t.n,iv t.pos] 95); obtain ⟨d0,d1,d2,d3⟩:=bY hr
  have hbk:=hid (show w1.heap.size < (w1.alloc (.cells #[iv t.kind,sv t.text,iv t.n,iv t.pos] 95)).heap.size by simp)
  have hne3:¬ w1.heap.size=pb:=by omega
  have hne4:¬ w1.heap.size=w.heap.size:=by omega
  have hne5:¬ w.heap.size=w1.heap.size:=by omega
  have hne6:¬ pb=w1.heap.size:=by omega
  replace hr:=hid hr; clear hb hb'; obtain ⟨q0,q1,q2,q3,q4,q5,q6,fz⟩:=aH hrow.out; have fz0:=fz 0; have fz1:=fz 1; have fz2:=fz 2; have fz3:=fz 3; have fz4:=fz 4; have fz5:=fz 5; have fz6:=fz 6; clear fz; have c1:=hM.out.cell (i:=1) (v:=iv st.nx) rfl; have f1:=hM.out.free 1
  go_wp2_with fail
  have hMn:=hM.out.setNx (st.nx+1) hnl; have hFn:=hfr.out.setCell (p:=⟨pb,1,none⟩) (Or.inl (show one pb pb from rfl)) (iv ((st.nx+1:Nat):Int)); have hRn:((w1.alloc (.cells #[iv t.kind,sv t.text,iv t.n,iv t.pos] 95)).setCell ⟨pb,1,none⟩ (iv ((st.nx+1:Nat):Int))).heap[w.heap.size]? = some (.cells (aB tm0) 63 (0,0)):=(ak _ hne2).trans hrow.out; obtain ⟨hPM,hFF⟩:=ie hh.out hMn hFn (dv t.n); refine bodyPost_ret (v:=.tuple #[.agg (aB (dv t.n)),.bool true]) (dl (by rfl) _ _ w.heap.size (dv t.n) true (by rfl) (by rfl) (cK hRn (dv t.n))) rfl ⟨by rw [hR.out]; rfl,by rw [hR.out]; exact hPM,hFF⟩
 have b2:(t.kind == 2)=false:=beq_eq_false_iff_ne.2 h2; replace hR:=hR.trans (if_neg h2); replace h2:=hid h2; by_cases h3:t.kind=3
 ·have b3:(t.kind == 3)=true:=by rw [h3]; rfl
  have hnl:=hH.out.kn (by rw [h3]; decide); replace hR:=hid (hR.trans (if_pos h3)); replace h3:=hid h3
  go_enter Tryz.func98,Tryz.ntmps98
  go_wp2_with fail
  with_reducible refine hH.out.peek.mono ?_
  rintro e w1 ⟨rfl,hb⟩
  have hb':Below (w.alloc (.cells #[.string ⟨#[]⟩,.int .i64 0,.string ⟨#[]⟩,.int .i64 0,.int .i64 0,.string ⟨#[]⟩,.slice none 0 0] 63)).heap.size (w.alloc (.cells #[.string ⟨#[]⟩,.int .i64 0,.string ⟨#[]⟩,.int .i64 0,.int .i64 0,.string ⟨#[]⟩,.slice none 0 0] 63)) w1:=by simpa using hb
  have hM:=hid ((hH.out.pm.below hb').below ((zN w1.heap.size w1).alloc (zM _) (.cells #[iv t.kind,sv t.text,iv t.n,iv t.pos] 95))); have hrow:=hid ((z7 w1 (.cells #[iv t.kind,sv t.text,iv t.n,iv t.pos] 95) _ (zS (by simp) hb'.size)).trans (an hb' hH.out.row (by simp))); have hfr:=hid ((((Fr.refl (one pb) w).alloc (.cells #[.string ⟨#[]⟩,.int .i64 0,.string ⟨#[]⟩,.int .i64 0,.int .i64 0,.string ⟨#[]⟩,.slice none 0 0] 63)).trans (Fr.of_below hb' (one pb))).alloc (.cells #[iv t.kind,sv t.text,iv t.n,iv t.pos] 95)); have hlt1:w.heap.size < w1.heap.size:=zS (by simp) hb'.size; have hr:=af w1 (.cells #[iv t.kind,sv t.text,iv t.n,iv t.pos] 95); obtain ⟨d0,d1,d2,d3⟩:=bY hr
  have hbk:=hid (show w1.heap.size < (w1.alloc (.cells #[iv t.kind,sv t.text,iv t.n,iv t.pos] 95)).heap.size by simp)
  have hne3:¬ w1.heap.size=pb:=by omega
  have hne4:¬ w1.heap.size=w.heap.size:=by omega
  have hne5:¬ w.heap.size=w1.heap.size:=by omega
  have hne6:¬ pb=w1.heap.size:=by omega
  replace hr:=hid hr; clear hb hb'; obtain ⟨q0,q1,q2,q3,q4,q5,q6,fz⟩:=aH hrow.out; have fz0:=fz 0; have fz1:=fz 1; have fz2:=fz 2; have fz3:=fz 3; have fz4:=fz 4; have fz5:=fz 5; have fz6:=fz 6; clear fz; have c1:=hM.out.cell (i:=1) (v:=iv st.nx) rfl; have f1:=hM.out.free 1
  go_wp2_with fail
  have hMn:=hM.out.setNx (st.nx+1) hnl; have hFn:=hfr.out.setCell (p:=⟨pb,1,none⟩) (Or.inl (show one pb pb from rfl)) (iv ((st.nx+1:Nat):Int)); have hRn:((w1.alloc (.cells #[iv t.kind,sv t.text,iv t.n,iv t.pos] 95)).setCell ⟨pb,1,none⟩ (iv ((st.nx+1:Nat):Int))).heap[w.heap.size]? = some (.cells (aB tm0) 63 (0,0)):=(ak _ hne2).trans hrow.out; obtain ⟨hPM,hFF⟩:=ie hh.out hMn hFn (eI t.text); refine bodyPost_ret (v:=.tuple #[.agg (aB (eI t.text)),.bool true]) (dl (by rfl) _ _ w.heap.size (eI t.text) true (by rfl) (by rfl) (cK hRn (eI t.text))) rfl ⟨by rw [hR.out]; rfl,by rw [hR.out]; exact hPM,hFF⟩
 have b3:(t.kind == 3)=false:=beq_eq_false_iff_ne.2 h3; replace hR:=hR.trans (if_neg h3); replace h3:=hid h3
 go_enter Tryz.func98,Tryz.ntmps98
 go_wp2_with fail
 with_reducible refine hH.out.peek.mono ?_
 rintro e w1 ⟨rfl,hb⟩
 have hb':Below (w.alloc (.cells #[.string ⟨#[]⟩,.int .i64 0,.string ⟨#[]⟩,.int .i64 0,.int .i64 0,.string ⟨#[]⟩,.slice none 0 0] 63)).heap.size (w.alloc (.cells #[.string ⟨#[]⟩,.int .i64 0,.string ⟨#[]⟩,.int .i64 0,.int .i64 0,.string ⟨#[]⟩,.slice none 0 0] 63)) w1:=by simpa using hb
 have hM:=hid ((hH.out.pm.below hb').below ((zN w1.heap.size w1).alloc (zM _) (.cells #[iv t.kind,sv t.text,iv t.n,iv t.pos] 95))); have hrow:=hid ((z7 w1 (.cells #[iv t.kind,sv t.text,iv t.n,iv t.pos] 95) _ (zS (by simp) hb'.size)).trans (an hb' hH.out.row (by simp))); have hfr:=hid ((((Fr.refl (one pb) w).alloc (.cells #[.string ⟨#[]⟩,.int .i64 0,.string ⟨#[]⟩,.int .i64 0,.int .i64 0,.string ⟨#[]⟩,.slice none 0 0] 63)).trans (Fr.of_below hb' (one pb))).alloc (.cells #[iv t.kind,sv t.text,iv t.n,iv t.pos] 95)); have hlt1:w.heap.size < w1.heap.size:=zS (by simp) hb'.size; have hr:=af w1 (.cells #[iv t.kind,sv t.text,iv t.n,iv t.pos] 95); obtain ⟨d0,d1,d2,d3⟩:=bY hr
 have hbk:=hid (show w1.heap.size < (w1.alloc (.cells #[iv t.kind,sv t.text,iv t.n,iv t.pos] 95)).heap.size by simp)
 have hne3:¬ w1.heap.size=pb:=by omega
 have hne4:¬ w1.heap.size=w.heap.size:=by omega
 have hne5:¬ w.heap.size=w1.heap.size:=by omega
 have hne6:¬ pb=w1.heap.size:=by omega
 replace hr:=hid hr; clear hb hb'; have hmk:=hid (cM pb K st [45] _ hM.out)
 have hT:bu K.ts st 4 [45]=if s1 then (true,am st) else (false,st):=by unfold bu; rw [hs1.out]
 rw [hT] at hmk; clear hT
 go_wp2_with fail
 with_reducible refine hmk.out.mono ?_
 rintro e w2 ⟨rfl,hM2,hf2⟩
 have hlt2:w.heap.size < (w1.alloc (.cells #[iv t.kind,sv t.text,iv t.n,iv t.pos] 95)).heap.size:=by simp; omega
 have hrow2:=hid ((hf2.block _ hlt2 hne2).trans hrow.out); have hlt3:w.heap.size < w2.heap.size:=zS hlt2 hf2.size; have hfr2:=hid (hfr.out.trans hf2); clear hf2 d0 d1 d2 d3
 cases s1 with
 | false =>
  replace hM2:=hid (show PM pb K st w2 from hM2); replace hR:=hid (hR.trans (if_neg (by decide))); have hva:=hid (jI pb K st w2 hM2.out); rw [← hvp.out] at hva; obtain ⟨vo,vs⟩:=vp
  go_wp2_with fail
  with_reducible refine hva.out.mono ?_
  rintro e w3 ⟨rfl,hM3,hf3⟩; have hrow3:=(hf3.block _ hlt3 hne2).trans hrow2.out; have hf4:=hid (hfr2.out.trans hf3); replace hM3:=hid hM3; clear hf3 hva; obtain ⟨q0,q1,q2,q3,q4,q5,q6,fz⟩:=aH hrow3; have fz0:=fz 0; have fz1:=fz 1; have fz2:=fz 2; have fz3:=fz 3; have fz4:=fz 4; have fz5:=fz 5; have fz6:=fz 6; clear fz; replace hrow3:=hid hrow3
  cases vo with
  | none =>
   go_wp2_with fail
   obtain ⟨hPM,hFF⟩:=ie hh.out hM3.out hf4.out tm0; refine bodyPost_ret (v:=.tuple #[.agg (aB tm0),.bool false]) (dl (by rfl) _ _ w.heap.size tm0 false (by rfl) (by rfl) (cK hrow3.out tm0)) rfl ⟨by rw [hR.out]; rfl,by rw [hR.out]; exact hPM,hFF⟩
  | some tv =>
   go_wp2_with fail
   obtain ⟨hPM,hFF⟩:=ie hh.out hM3.out hf4.out tv; refine bodyPost_ret (v:=.tuple #[.agg (aB tv),.bool true]) (dl (by rfl) _ _ w.heap.size tv true (by rfl) (by rfl) (cK hrow3.out tv)) rfl ⟨by rw [hR.out]; rfl,by rw [hR.out]; exact hPM,hFF⟩
 | true =>
  replace hM2:=hid (show PM pb K (am st) w2 from hM2); replace hR:=hR.trans (if_pos rfl); have hn2:st.nx+1<=K.toks.length:=hM2.out.nx; have hp2:=hid (show Calls Tryz.prog 90 #[pt pb,.int .i64 0] w2 fun e w'=>e=.returned (.agg #[iv (cV K (st.nx+1)).kind,sv (cV K (st.nx+1)).text,iv (cV K (st.nx+1)).n,iv (cV K (st.nx+1)).pos])/\Below w2.heap.size w2 w' from fo pb K (am st) 0 (by decide) w2 hM2.out); have hw2:=iy K (st.nx+1); have hkn2:=iV (K:=K) (i:=st.nx+1); have hok2:=hM2.out.tok_ok (st.nx+1); rw [← hw2] at hkn2 hok2; have hu2:u=tw (cV K (st.nx+1)):=hu.out.trans hw2.symm; obtain ⟨t2,ht2⟩:∃ t,t=cV K (st.nx+1):=⟨_,rfl⟩; rw [← ht2] at hp2 hkn2 hok2 hu2; rw [hu2] at hR
  replace hR:R=if t2.kind=2 then (some (dv (-t2.n)),am (am st)) else (none,bf (am st)):=hR
  have hkn3:t2.kind≠0->st.nx+1 < K.toks.length:=hkn2; have hok3:0<=t2.n/\t2.n<=9007199254740992:=⟨hok2.1,hok2.2.1⟩; clear hw2 hkn2 hok2 hu2; replace ht2:=hid ht2
  go_wp2_with fail
  with_reducible refine hp2.out.mono ?_
  rintro e w3 ⟨rfl,hb⟩; have hba:=(zN w3.heap.size w3).alloc (zM _) (.cells #[iv t2.kind,sv t2.text,iv t2.n,iv t2.pos] 95); have hM3:=hid ((hM2.out.below hb).below hba); have hrow3a:=hid (an hb hrow2.out hlt3); have hM3a:=hid (hM2.out.below hb); have hf3a:=hid (hfr2.out.trans (Fr.of_below hb (one pb))); have hrow3:=an hba hrow3a.out (zS hlt3 hb.size); have hf3:=hid (hfr2.out.trans ((Fr.of_below hb (one pb)).alloc (.cells #[iv t2.kind,sv t2.text,iv t2.n,iv t2.pos] 95))); have hlt4:w.heap.size < w3.heap.size:=zS hlt3 hb.size
  have hlt5:pb < w3.heap.size:=by omega
  have hr:=af w3 (.cells #[iv t2.kind,sv t2.text,iv t2.n,iv t2.pos] 95); obtain ⟨d0,d1,d2,d3⟩:=bY hr
  have hne8:¬ w3.heap.size=pb:=by omega
  have hne9:¬ w3.heap.size=w.heap.size:=by omega
  have hne10:¬ w.heap.size=w3.heap.size:=by omega
  have hne11:¬ pb=w3.heap.size:=by omega
  clear hb hba hr hp2; by_cases h5:t2.kind=2
  ·have b5:(t2.kind != 2)=false:=by rw [h5]; rfl
   have hnl:=hkn3 (by rw [h5]; decide); replace hR:=hid (hR.trans (if_pos h5)); replace h5:=hid h5
   have e2:IntKind.i64.wrap (((st.nx+1:Nat):Int)+1)=((st.nx+1+1:Nat):Int):=by rw [zX]; omega
   have e2':IntKind.i64.wrap ((st.nx:Int)+1+1)=((st.nx+1+1:Nat):Int):=by rw [zX]; omega
   have e3:IntKind.i64.wrap (-t2.n) = -t2.n:=by rw [zX]; omega
   obtain ⟨p0,p1,p2,p3,p4,p5,p6,pz⟩:=aH hrow3a.out; have pz0:=pz 0; have pz1:=pz 1; have pz2:=pz 2; have pz3:=pz 3; have pz4:=pz 4; have pz5:=pz 5; have pz6:=pz 6; clear pz; have cc1:=hM3a.out.cell (i:=1) (v:=iv ((st.nx+1:Nat):Int)) rfl; have ff1:=hM3a.out.free 1; obtain ⟨q0,q1,q2,q3,q4,q5,q6,fz⟩:=aH hrow3; have fz0:=fz 0; have fz1:=fz 1; have fz2:=fz 2; have fz3:=fz 3; have fz4:=fz 4; have fz5:=fz 5; have fz6:=fz 6; clear fz; replace hrow3:=hid hrow3; have c1:=hM3.out.cell (i:=1) (v:=iv ((st.nx+1:Nat):Int)) rfl; have f1:=hM3.out.free 1
   go_wp2_with fail
   have hMn:=hM3a.out.setNx (st.nx+1+1) hnl; have hFn:=hf3a.out.setCell (p:=⟨pb,1,none⟩) (Or.inl (show one pb pb from rfl)) (iv ((st.nx+1+1:Nat):Int)); have hRn:(w3.setCell ⟨pb,1,none⟩ (iv ((st.nx+1+1:Nat):Int))).heap[w.heap.size]? = some (.cells (aB tm0) 63 (0,0)):=(ak _ hne2).trans hrow3a.out
   have eS:iv ((st.nx+1+1:Nat):Int)=.int .i64 ((st.nx:Int)+1+1):=by push_cast; rfl
   rw [eS] at hMn hFn hRn; obtain ⟨hPM,hFF⟩:=ie hh.out hMn hFn (dv (-t2.n)); have hrowF:=cK hRn (dv (-t2.n)); generalize hWW:setTm (w3.setCell ⟨pb,1,none⟩ (.int .i64 ((st.nx:Int)+1+1))) w.heap.size (dv (-t2.n))=WW at hPM hFF hrowF; have hWW2:=hWW.symm; have hba2:=(zN WW.heap.size WW).alloc (zM _) (.cells #[iv t2.kind,sv t2.text,iv t2.n,iv t2.pos] 95); have hPM2:=hPM.below hba2; have hrowF2:=an hba2 hrowF (ae hrowF); have hFF2:=hFF.alloc (.cells #[iv t2.kind,sv t2.text,iv t2.n,iv t2.pos] 95); rw [hWW2] at hPM2 hrowF2 hFF2; refine bodyPost_ret (v:=.tuple #[.agg (aB (dv (-t2.n))),.bool true]) (dl (by rfl) _ _ w.heap.size (dv (-t2.n)) true (by rfl) (by rfl) hrowF2) rfl ⟨by rw [hR.out]; rfl,by rw [hR.out]; exact hPM2,hFF2⟩
  ·have b5:(t2.kind != 2)=true:=bne_iff_ne.2 h5
   replace hR:=hid (hR.trans (if_neg h5)); replace h5:=hid h5; have hfl:=hid (dw pb K (am st) _ hM3.out); replace hrow3:=hid hrow3
   go_wp2_with fail
   with_reducible refine hfl.out.mono ?_
   rintro e w4 ⟨rfl,hM4,hf4⟩; have hrow4:=(hf4.block _ (by simp; omega) hne2).trans hrow3.out; have hf5:=hid (hf3.out.trans hf4); replace hM4:=hid hM4; clear hf4; obtain ⟨q0,q1,q2,q3,q4,q5,q6,fz⟩:=aH hrow4; have fz0:=fz 0; have fz1:=fz 1; have fz2:=fz 2; have fz3:=fz 3; have fz4:=fz 4; have fz5:=fz 5; have fz6:=fz 6; clear fz; replace hrow4:=hid hrow4
   go_wp2_with fail
   obtain ⟨hPM,hFF⟩:=ie hh.out hM4.out hf5.out tm0; refine bodyPost_ret (v:=.tuple #[.agg (aB tm0),.bool false]) (dl (by rfl) _ _ w.heap.size tm0 false (by rfl) (by rfl) (cK hrow4.out tm0)) rfl ⟨by rw [hR.out]; rfl,by rw [hR.out]; exact hPM,hFF⟩
end Go.Proofs.YtffdpoifdahadaaGreatDoor
