/- ask: rows of terms; atom. -/
import Derived.Test.YtffdpoifdahadaaGreatDoorAskD
import Derived.Test.YtffdpoifdahadaaGreatDoorLexW6
set_option linter.unusedVariables false
set_option maxHeartbeats 40000000
set_option maxRecDepth 100000
namespace Go.Proofs.YtffdpoifdahadaaGreatDoor
open Go.RowKit
open Go.Lib (hid)
def FlR:Rel Tm:=fun _ _ t cs=>cs=(aB t).toList
theorem aD:dA 7 FlR:=⟨fun h=>by rw [h]; rfl,fun h=>by rw [h]; intro u hu; simp at hu; rcases hu with rfl | rfl | rfl | rfl | rfl | rfl | rfl <;> rfl,fun h _=>h⟩
theorem wQ:(Tryz.prog.info? 63).map (fun i=>(i.zero,i.size,i.bytes))=some (some (.agg (aB tm0)),7,96):=by kernel_rfl
theorem re {S:aP} {w:World} {l:List Tm} {v:Value} (t:Tm) (h:aO 63 7 FlR S w l v) (hS:∀ q,w.heap.size<=q->S q) (hl:l.length<=1048576) :
  ∃ a c w',cH Tryz.prog 22 22 22 v (.slice (some ⟨w.heap.size,0,none⟩) 1 1) (.slice a (l.length+1) c) (w.alloc (.cells (aB t) 63)) w'/\aO 63 7 FlR S w' (l++[t]) (.slice a (l.length+1) c)/\Fr S w w':=by
 obtain ⟨i0,hi,hz0,hz1,hz2⟩:=info_parts wQ; have hb:Below w.heap.size w (w.alloc (.cells (aB t) 63)):=(zN _ _).alloc (zM _) _; obtain ⟨v',w',h1,h2,h3⟩:=aO.append1 (t:=22) (ty:=22) (x:=t) aD (by kernel_rfl) hi hz0 hz1 hz2 rfl (by decide) (h.below aD hb) (jS (cs:=(aB t).toList) (af w (.cells (aB t) 63)) rfl) rfl (by unfold maxLen; omega) (by omega) (fun q hq=>hS q (by simp at hq; omega)); obtain ⟨a,c,rfl,-,-⟩:=h2.slice; rw [zQ] at h1 h2; exact ⟨a,c,w',h1,h2,(Fr.of_below hb S).trans h3⟩
structure Lt where
 op:Int
 nt:Bool
 rel:List UInt8
 args:List Tm
def fM (ts:List Tw) (st:PSt):Option Tm × PSt:=if isP ts st 4 [95] then (some (bh [95]),am st) else aT ts st
def bW (ts:List Tw):Nat->PSt->List Tm->Option (List Tm) × PSt
 | 0,st,_=>(none,st)
 | f+1,st,acc=>match fM ts st with
  | (none,s1)=>(none,s1)
  | (some t,s1)=>if isP ts s1 4 [44] then bW ts f (am s1) (acc++[t]) else (some (acc++[t]),s1)
def aY (ts:List Tw) (st:PSt):Option Lt × PSt :=
 if (bN ts st).1.2 then
  if isP ts (bN ts st).2 4 [41] then (some ⟨0,false,(bN ts st).1.1,[]⟩,am (bN ts st).2)
  else match bW ts (ts.length+1) (bN ts st).2 [] with
   | (none,s2)=>(none,s2)
   | (some al,s2)=>if isP ts s2 4 [41] then (some ⟨0,false,(bN ts st).1.1,al⟩,am s2) else (none,bf s2)
 else (none,(bN ts st).2)
theorem jO (ts:List Tw) (st:PSt):(aT ts st).1.isSome=true->st.nx < (aT ts st).2.nx:=by
 unfold aT eH; split
 ·intro _; show st.nx < st.nx+1; omega
 ·split
  ·intro _; show st.nx < st.nx+1; omega
  ·split
   ·split
    ·intro _; show st.nx < st.nx+1+1; omega
    ·intro h; cases h
   ·split
    ·intro _; show st.nx < st.nx+1; omega
    ·intro h; cases h
theorem tl (ts:List Tw) (st:PSt):(fM ts st).1.isSome=true->st.nx < (fM ts st).2.nx:=by
 unfold fM; split
 ·intro _; show st.nx < st.nx+1; omega
 ·exact jO ts st
abbrev ap (op:Int) (nt:Bool) (rel:List UInt8) (v:Value):Array Value:=#[iv op,.bool nt,sv rel,v]
structure AM (pb LB R T:Nat) (K:PK) (st:PSt) (rel:List UInt8) (al:List Tm) (w0 w:World):Prop where
 base:∃ st0,PM pb K st0 w0
 pm:PM pb K st w
 fr:Fr (one pb) w0 w
 res:w.heap[R]? = some (.cells (ap 0 false [] (.slice none 0 0)) 24 (0,0))
 lit:∃ a c,w.heap[LB]? = some (.cells (ap 0 false rel (.slice a al.length c)) 24 (0,0))/\aO 63 7 FlR (fun q=>LB < q/\q≠T) w al (.slice a al.length c)
 h0:w0.heap.size<=R
 h1:pb < R
 h2:R < LB
section
variable {pb LB R T:Nat} {K:PK} {st st':PSt} {rel:List UInt8} {al:List Tm} {w0 w w':World}
theorem AM.lt (h:AM pb LB R T K st rel al w0 w):LB < w.heap.size:=by obtain ⟨a,c,h1,_⟩:=h.lit; exact ae h1
theorem AM.call (h:AM pb LB R T K st rel al w0 w) (hp:PM pb K st' w') (hf:Fr (one pb) w w'):AM pb LB R T K st' rel al w0 w':=by
 have hl:=h.lt; have e1:=h.h1; have e2:=h.h2; obtain ⟨a,c,h3,h4⟩:=h.lit; exact ⟨h.base,hp,h.fr.trans hf,(hf.block _ (by omega) (by unfold one; omega)).trans h.res,⟨a,c,(hf.block _ hl (by unfold one; omega)).trans h3,h4.fr aD hf (fun q hq e=>by unfold one at e; omega)⟩,h.h0,e1,e2⟩
theorem AM.alloc (h:AM pb LB R T K st rel al w0 w) (o:Obj):AM pb LB R T K st rel al w0 (w.alloc o) :=
 h.call (h.pm.below ((zN _ w).alloc (zM _) o)) (Fr.alloc (Fr.refl _ w) o)
theorem AM.tag (h:AM pb LB R T K st rel al w0 w) (o:Obj):AM pb LB R w.heap.size K st rel al w0 (w.alloc o):=by
 have h':=h.alloc o; obtain ⟨a,c,h3,h4⟩:=h.lit; have hl:=h.lt; refine ⟨h'.base,h'.pm,h'.fr,h'.res,⟨a,c,(z7 _ _ _ hl).trans h3,h4.move aD fun k hk hk2=>⟨⟨hk2.1,by omega⟩,z7 _ _ _ hk⟩⟩,h'.h0,h'.h1,h'.h2⟩
theorem AM.drew (h:AM pb LB R T K st rel al w0 w):AM pb LB R T K st rel al w0 w.drew:=h.call (h.pm.below ((zN _ w).drew)) (Fr.of_below ((zN _ w).drew) (one pb))
theorem AM.setTm (h:AM pb LB R T K st rel al w0 w) (hT:LB < T) (t:Tm):AM pb LB R T K st rel al w0 (setTm w T t):=by
 have e0:=h.h0; have e1:=h.h1; have e2:=h.h2; obtain ⟨a,c,h3,h4⟩:=h.lit; obtain ⟨st0,hb⟩:=h.base; have hF:=h.fr.setTm (R:=T) (by omega) t; exact ⟨h.base,hb.fr hF ((a_ (by omega)).trans h.pm.blk) h.pm.nx,hF,(a_ (by omega)).trans h.res,⟨a,c,(a_ (by omega)).trans h3,h4.move aD fun k hk hk2=>⟨hk2,a_ hk2.2⟩⟩,e0,e1,e2⟩
theorem AM.push (h:AM pb LB R T K st rel al w0 w) (hT:T < w.heap.size) (t:Tm) (hl:al.length<=1048576) :
  ∃ a0 c0,w.cell? ⟨LB,3,none⟩=some (.slice a0 al.length c0)/\∃ a c W,cH Tryz.prog 22 22 22 (.slice a0 al.length c0) (.slice (some ⟨w.heap.size,0,none⟩) 1 1) (.slice a (al.length+1) c) (w.alloc (.cells (aB t) 63)) W/\W.frozen? ⟨LB,3,none⟩=false/\(∃ v,W.cell? ⟨LB,3,none⟩=some v)/\AM pb LB R 0 K st rel (al++[t]) w0 (W.setCell ⟨LB,3,none⟩ (.slice a (al.length+1) c)):=by
 have e0:=h.h0; have e1:=h.h1; have e2:=h.h2; have hlt:=h.lt; obtain ⟨a0,c0,h3,h4⟩:=h.lit; obtain ⟨st0,hb⟩:=h.base; obtain ⟨a,c,W,g1,g2,g3⟩:=re t h4 (fun q hq=>⟨by omega,by omega⟩) hl; have hLB:W.heap[LB]? = some (.cells (ap 0 false rel (.slice a0 al.length c0)) 24 (0,0)):=(g3.block LB hlt (fun e=>absurd e.1 (Nat.lt_irrefl _))).trans h3; have hF:Fr (one pb) w0 W:=h.fr.trans' g3 (fun _ x=>x) (fun i hi e=>absurd e.1 (by omega)); have hF2:=hF.setCell (p:=⟨LB,3,none⟩) (Or.inr (show w0.heap.size<=LB by omega)) (.slice a (al.length+1) c)
 have hother:∀ k,k≠LB->(W.setCell ⟨LB,3,none⟩ (.slice a (al.length+1) c)).heap[k]? = W.heap[k]?:=fun k hk=>ak _ hk
 refine ⟨a0,c0,(aj h3).trans rfl,a,c,W,g1,bX hLB,⟨_,(aj hLB).trans rfl⟩,h.base,hb.fr hF2 ((hother _ (by omega)).trans ((g3.block pb h.pm.lt (fun e=>absurd e.1 (by omega))).trans h.pm.blk)) h.pm.nx,hF2,(hother _ (by omega)).trans ((g3.block R (by omega) (fun e=>absurd e.1 (by omega))).trans h.res),⟨a,c,?_,?_⟩,e0,e1,e2⟩
 ·have:=aC hLB (i:=3) (.slice a (al.length+1) c)
  rw [zQ]; simpa using this
 ·rw [zQ]
  exact g2.move aD fun k hk hk2=>⟨⟨hk2.1,by omega⟩,hother k (by omega)⟩
end
def yR (ts:List Tw) (rel:List UInt8):Option (List Tm) × PSt->Option Lt × PSt
 | (none,s2)=>(none,s2)
 | (some al,s2)=>if isP ts s2 4 [41]=true then (some ⟨0,false,rel,al⟩,am s2) else (none,bf s2)
def PLit (pb:Nat) (K:PK) (w:World) (r:Option Lt × PSt) (e:Ending) (w':World):Prop :=
 PM pb K r.2 w'/\Fr (one pb) w w'/\match r.1 with
 | some l=>∃ a c,e=.returned (.tuple #[.agg (ap l.op l.nt l.rel (.slice a l.args.length c)),.bool true])/\aO 63 7 FlR (aF w.heap.size) w' l.args (.slice a l.args.length c)
 | none=>∃ op nt rel a n c,e=.returned (.tuple #[.agg (ap op nt rel (.slice a n c)),.bool false])
theorem bw {fn:Func} {p u:Tmp} (h:fn.results=#[.cell p 24,.tmp u]) (tmps:Array Value) (w:World) (R:Nat) (op:Int) (nt:Bool) (rel:List UInt8) (v:Value) (x:Bool) (hp:tmps.getD p undef=.pointer (some ⟨R,0,none⟩)) (hu:tmps.getD u undef=.bool x) (hR:w.heap[R]? = some (.cells (ap op nt rel v) 24 (0,0))) :
  (results fn tmps).run Tryz.prog w=.ok (.tuple #[.agg (ap op nt rel v),.bool x]) w:=by
 rw [results_cell_tmp h,hp,hu]; simp only [asAddr,Sem.run_pure,Result.andThen_ok]; rw [run_loadVar_row w R 24 24 _ (0,0) _ hR Tryz.underlying24 rfl (by kernel_rfl)]; rfl
abbrev setLt (w:World) (R:Nat) (op:Int) (nt:Bool) (rel:List UInt8) (v:Value):World:=(((w.setCell ⟨R,0,none⟩ (iv op)).setCell ⟨R,1,none⟩ (.bool nt)).setCell ⟨R,2,none⟩ (sv rel)).setCell ⟨R,3,none⟩ v
theorem bU {w:World} {R k:Nat} {op:Int} {nt:Bool} {rel:List UInt8} {v:Value} (h:k≠R):(setLt w R op nt rel v).heap[k]? = w.heap[k]? :=
 (ak _ h).trans <| (ak _ h).trans <| (ak _ h).trans (ak _ h)
theorem e_ {w:World} {R:Nat} {o0:Int} {n0:Bool} {r0:List UInt8} {v0:Value} (h:w.heap[R]? = some (.cells (ap o0 n0 r0 v0) 24 (0,0))) (op:Int) (nt:Bool) (rel:List UInt8) (v:Value):(setLt w R op nt rel v).heap[R]? = some (.cells (ap op nt rel v) 24 (0,0)):=by
 have a0:=aC h (i:=0) (iv op); have a1:=aC a0 (i:=1) (.bool nt); have a2:=aC a1 (i:=2) (sv rel); have a3:=aC a2 (i:=3) v; simpa using a3
theorem Fr.setLt {S:Nat->Prop} {a w:World} (h:Fr S a w) {R:Nat} (hR:a.heap.size<=R) (op:Int) (nt:Bool) (rel:List UInt8) (v:Value):Fr S a (setLt w R op nt rel v) :=
 (((h.setCell (p:=⟨R,0,none⟩) (Or.inr hR) _).setCell (p:=⟨R,1,none⟩) (Or.inr hR) _).setCell (p:=⟨R,2,none⟩) (Or.inr hR) _).setCell (p:=⟨R,3,none⟩) (Or.inr hR) _
theorem AM.fin {pb LB R T:Nat} {K:PK} {st:PSt} {rel:List UInt8} {al:List Tm} {w0 w:World} (h:AM pb LB R T K st rel al w0 w) (op:Int) (nt:Bool) (r:List UInt8) (v:Value) :
  PM pb K st (setLt w R op nt r v)/\Fr (one pb) w0 (setLt w R op nt r v)/\(setLt w R op nt r v).heap[R]? = some (.cells (ap op nt r v) 24 (0,0))/\∀ l u,aO 63 7 FlR (fun q=>LB < q/\q≠T) w l u->aO 63 7 FlR (aF w0.heap.size) (setLt w R op nt r v) l u:=by
 have e1:=h.h1; have e2:=h.h2; have hR:=h.h0; obtain ⟨st0,hw⟩:=h.base; have hF:=h.fr.setLt hR op nt r v; refine ⟨hw.fr hF ((bU (by omega)).trans h.pm.blk) h.pm.nx,hF,e_ h.res op nt r v,?_⟩; intro l u ho
 exact ho.move aD fun k hk hk2=>⟨by unfold aF; omega,bU (by omega)⟩
theorem aK {w:World} {R:Nat} {op:Int} {nt:Bool} {rel:List UInt8} {v:Value} (h:w.heap[R]? = some (.cells (ap op nt rel v) 24 (0,0))):w.cell? ⟨R,0,none⟩=some (iv op)/\w.cell? ⟨R,1,none⟩=some (.bool nt)/\w.cell? ⟨R,2,none⟩=some (sv rel)/\w.cell? ⟨R,3,none⟩=some v/\∀ i,w.frozen? ⟨R,i,none⟩=false :=
 ⟨(aj h).trans rfl,(aj h).trans rfl,(aj h).trans rfl,(aj h).trans rfl,fun i=>bX h⟩
theorem xo (pb:Nat) (K:PK) (st:PSt) (w:World) (h:PM pb K st w) :
  Calls Tryz.prog 63 #[pt pb] w (PLit pb K w (aY K.ts st)):=by
 obtain ⟨R,hR⟩:∃ R,R=aY K.ts st:=⟨_,rfl⟩; rw [← hR]; unfold aY at hR; have hh:=hid h; have hpl:=h.lt; have hbA:=(zN w.heap.size w).alloc (zM _) (.cells #[.int .i64 0,.bool false,.string ⟨#[]⟩,.slice none 0 0] 24); have hMA:=h.below hbA; have hrel:=hid (jT pb K st _ hMA); obtain ⟨rp,hrp⟩:∃ rp,rp=bN K.ts st:=⟨_,rfl⟩; rw [← hrp] at hR hrel; replace hrp:=hid hrp; obtain ⟨⟨rel,rok⟩,st1⟩:=rp; replace hR:=hid hR; have hrA:=hid (af w (.cells #[.int .i64 0,.bool false,.string ⟨#[]⟩,.slice none 0 0] 24)); have hfA:=hid (Fr.of_below hbA (one pb))
 have hszA:(w.alloc (.cells #[.int .i64 0,.bool false,.string ⟨#[]⟩,.slice none 0 0] 24)).heap.size=w.heap.size+1:=by simp
 have hne:¬ pb=w.heap.size:=by omega
 have hne2:¬ w.heap.size=pb:=by omega
 clear h hbA hMA
 go_enter Tryz.func63,Tryz.ntmps63
 go_wp2_with fail
 with_reducible refine hrel.out.mono ?_
 rintro e w1 ⟨rfl,hM1,hf1⟩; have hr1:=(hf1.block w.heap.size (by simp) hne2).trans hrA.out; have hfr1:=hid (hfA.out.trans hf1); have hl1:w.heap.size < w1.heap.size:=zS (by simp) hf1.size; clear hf1 hrel hrA hfA
 cases rok with
 | false =>
  replace hM1:=hid (show PM pb K st1 w1 from hM1); replace hR:=hid (show R=(none,st1) from hR.out); obtain ⟨q0,q1,q2,q3,fz⟩:=aK hr1; have fz0:=fz 0; have fz1:=fz 1; have fz2:=fz 2; have fz3:=fz 3; clear fz; replace hr1:=hid hr1
  go_wp2_with fail
  have hfF:=hfr1.out.setLt (zM w.heap.size) 0 false [] (.slice none 0 0); have hpF:=hh.out.fr hfF ((bU hne).trans hM1.out.blk) hM1.out.nx; refine bodyPost_ret (v:=.tuple #[.agg (ap 0 false [] (.slice none 0 0)),.bool false]) (bw (by rfl) _ _ w.heap.size 0 false [] (.slice none 0 0) false (by rfl) (by rfl) (e_ hr1.out 0 false [] (.slice none 0 0))) rfl ⟨by rw [hR.out]; exact hpF,hfF,?_⟩; rw [hR.out]; exact ⟨0,false,[],none,0,0,rfl⟩
 | true =>
  replace hM1:=hid (show PM pb K st1 w1 from hM1); obtain ⟨z,hz⟩:∃ z,isP K.ts st1 4 [41]=z:=⟨_,rfl⟩; have hbB:=(zN w1.heap.size w1).alloc (zM _) (.cells (ap 0 false rel (.slice none 0 0)) 24); have hMB:=hM1.out.below hbB; have hmk:=hid (cM pb K st1 [41] _ hMB)
  have hT:bu K.ts st1 4 [41]=if z then (true,am st1) else (false,st1):=by unfold bu; rw [hz]
  rw [hT] at hmk
  have hR':=hid (show R=if z=true then (some ⟨0,false,rel,[]⟩,am st1) else match bW K.ts (K.ts.length+1) st1 [] with
   | (none,s2)=>(none,s2)
   | (some al,s2)=>if isP K.ts s2 4 [41]=true then (some ⟨0,false,rel,al⟩,am s2) else (none,bf s2) from by rw [← hz]; exact hR.out)
  clear hR hT
  have hAM:=hid (show AM pb w1.heap.size w.heap.size 0 K st1 rel [] w (w1.alloc (.cells (ap 0 false rel (.slice none 0 0)) 24)) from
   ⟨⟨st,hh.out⟩,hMB,hfr1.out.alloc _,(z7 _ _ _ hl1).trans hr1,⟨none,0,af _ _,aO.nil _ _ _ _ _⟩,zM _,hpl,hl1⟩)
  have hlB:w1.heap.size < (w1.alloc (.cells (ap 0 false rel (.slice none 0 0)) 24)).heap.size:=by simp
  have hne5:¬ w1.heap.size=pb:=by omega
  have hne6:¬ w1.heap.size=w.heap.size:=by omega
  have hne7:¬ w.heap.size=w1.heap.size:=by omega
  replace hz:=hid hz; replace hr1:=hid hr1; clear hbB hMB
  go_wp2_with fail
  with_reducible refine hmk.out.mono ?_
  rintro e w2 ⟨rfl,hM2,hf2⟩; have hA2:=hid (hAM.out.call hM2 hf2); clear hmk hAM hM2 hf2
  cases z with
  | true =>
   replace hR':=hid (hR'.out.trans (if_pos rfl)); obtain ⟨a0,c0,hlit,hown⟩:=hA2.out.lit; obtain ⟨l0,l1,l2,l3,-⟩:=aK hlit; obtain ⟨q0,q1,q2,q3,fz⟩:=aK hA2.out.res; have fz0:=fz 0; have fz1:=fz 1; have fz2:=fz 2; have fz3:=fz 3; clear fz; replace hown:=hid hown; replace hlit:=hid hlit
   go_wp2_with fail
   obtain ⟨hp,hf,hr,ho⟩:=hA2.out.fin 0 false rel (.slice a0 0 c0); refine bodyPost_ret (v:=.tuple #[.agg (ap 0 false rel (.slice a0 0 c0)),.bool true]) (bw (by rfl) _ _ w.heap.size 0 false rel (.slice a0 0 c0) true (by rfl) (by rfl) hr) rfl ⟨by rw [hR'.out]; exact hp,hf,?_⟩; rw [hR'.out]; exact ⟨a0,c0,rfl,ho _ _ hown.out⟩
  | false =>
   obtain ⟨RES,hRES⟩:∃ RES,RES=bW K.ts (K.ts.length+1) st1 []:=⟨_,rfl⟩; replace hR':=hid (show R=yR K.ts rel RES from hR'.out.trans (by subst hRES; rfl)); have hnx1:=hM1.out.nx; have hlen:=hM1.out.len
   have htl:K.ts.length=K.toks.length:=by unfold PK.ts; rw [zY]
   replace hRES:=hid hRES; clear hM1 hfr1
   go_wp2_with fail
   go_loopg [7] (K.toks.length+1 - st1.nx) (fun g v wr=>∃ (m:Bool) (f:Nat) (st2:PSt) (al:List Tm),v=.bool m/\st2.nx+g=K.toks.length+1/\K.toks.length < f+st2.nx/\al.length<=st2.nx/\Hid ((if m then bW K.ts f st2 al else (some al,st2))=RES)/\Hid (AM pb w1.heap.size w.heap.size 0 K st2 rel al w wr))
   case atStart =>
    exact ⟨true,K.ts.length+1,st1,[],rfl,by omega,by omega,zW _,hid hRES.out.symm,hA2⟩
   case round =>
    obtain ⟨m,f,st2,al,rfl,hg,hfu,hal,hE,hA⟩:=hrel; clear hA2
    cases m with
    | false =>
     replace hE:=hid (show (some al,st2)=RES from hE.out); have hR2:=hid (show R=yR K.ts rel (some al,st2) from hR'.out.trans (by rw [← hE.out])); obtain ⟨ax,cx,hlit,hown⟩:=hA.out.lit; obtain ⟨l0,l1,l2,l3,-⟩:=aK hlit; have hAd:=hid (hA.out.drew); have hneed:=hid (gH pb K st2 [41] _ hAd.out.pm); obtain ⟨nb,hnb⟩:∃ nb,nb=aW K.ts st2 [41]:=⟨_,rfl⟩; rw [← hnb] at hneed; replace hnb:=hid hnb; have hlitd:=hid (show wr.drew.heap[w1.heap.size]? = some (.cells (ap 0 false rel (.slice ax al.length cx)) 24 (0,0)) from hlit); replace hlit:=hid hlit; replace hown:=hid (show aO 63 7 FlR (fun q=>w1.heap.size < q/\q≠0) wr.drew al (.slice ax al.length cx) from hown.below aD ((zN _ wr).drew));go_wp2_with fail;refine wp_region_held_drew (S:=fun w'=>w'.cell? ⟨w1.heap.size,0,none⟩=some (iv 0)/\w'.cell? ⟨w1.heap.size,1,none⟩=some (.bool false)/\w'.cell? ⟨w1.heap.size,2,none⟩=some (sv rel)/\w'.cell? ⟨w1.heap.size,3,none⟩=some (.slice ax al.length cx)) (by kernel_rfl) ?_ (fun hHeld=>?_)
     ·exact ⟨l0,l1,l2,l3⟩
     refine wTk (i:=0) (v:=?_) rfl ?hy ?_
     case hy =>
      intro w hSw; obtain ⟨e0,e1,e2,e3⟩:=hSw; go_simp
      all_goals with_reducible rfl
     (try simp only [Act.put,sI,sZ,sS]);refine wTk (i:=1) (v:=?_) rfl ?hy ?_
     case hy =>
      intro w hSw
      skip
      go_simp
      all_goals with_reducible rfl
     (try simp only [Act.put,sI,sZ,sS]);refine wpAnyH_ready (rs:=[2]) (by as_aux_lemma=>kernel_rfl) (by simp) ?_; refine rdY rfl (fun K hK=>?_); go_simp;go_at_call 61;(with_reducible refine hneed.out.mono ?_);rintro e w4 ⟨rfl,hM4,hf4⟩; have hA4:=hid (hAd.out.call hM4 hf4); have hown4:=hid (hown.out.fr aD hf4 (fun q hq e=>by unfold one at e; have:=hA4.out.h1; have:=hA4.out.h2; omega)); obtain ⟨q0,q1,q2,q3,gz⟩:=aK hA4.out.res; have gz0:=gz 0; have gz1:=gz 1; have gz2:=gz 2; have gz3:=gz 3; have hlit4:=(hf4.block w1.heap.size hAd.out.lt (fun e=>by unfold one at e; have:=hA4.out.h1; have:=hA4.out.h2; omega)).trans hlitd.out; obtain ⟨y0,y1,y2,y3,-⟩:=aK hlit4; obtain ⟨x0,x1,x2,x3,-⟩:=aK ((bU (op:=0) (nt:=false) (rel:=rel) (v:=.slice ax al.length cx) (R:=w.heap.size) hne6).trans hlit4); clear gz hneed hM4 hf4 hlit4; refine hK.out _ _ ?_ (fun hHeld2=>?_)
     ·exact ⟨y0,y1,y2,y3⟩
     clear hK K hHeld; have hHeld:=hHeld2; clear hHeld2;(try simp only [Act.put,sI,sZ,sS]);refine wpAnyH_ready (rs:=[3]) (by as_aux_lemma=>kernel_rfl) (by simp) ?_; refine rdY rfl (fun K hK=>?_); go_simp
     skip
     refine hK.out _ _ ?_ (fun hHeld2=>?_)
     ·exact ⟨x0,x1,x2,x3⟩
     clear hK K hHeld; have hHeld:=hHeld2; clear hHeld2;(try simp only [Act.put,sI,sZ,sS]);refine wTk (i:=4) (v:=?_) rfl ?hy ?_
     case hy =>
      intro w hSw
      skip
      go_simp
      all_goals with_reducible rfl
     (try simp only [Act.put,sI,sZ,sS]);refine wpAnyH_done (by as_aux_lemma=>kernel_rfl) ?_ _;go_wp2_with fail;obtain ⟨hp,hf,hr,ho⟩:=hA4.out.fin 0 false rel (.slice ax al.length cx)
     cases hz2:isP K.ts st2 4 [41] with
     | true =>
      have hnv:nb=(true,am st2):=hnb.out.trans (by unfold aW; rw [if_pos hz2]); have hRv:R=(some ⟨0,false,rel,al⟩,am st2):=hR2.out.trans ((if_pos hz2:(if isP K.ts st2 4 [41]=true then (some (⟨0,false,rel,al⟩:Lt),am st2) else (none,bf st2))=_)); subst hnv; refine bodyPost_ret (v:=.tuple #[.agg (ap 0 false rel (.slice ax al.length cx)),.bool true]) (bw (by rfl) _ _ w.heap.size 0 false rel (.slice ax al.length cx) true (by rfl) (by rfl) hr) rfl ⟨by rw [hRv]; exact hp,hf,?_⟩; rw [hRv]; exact ⟨ax,cx,rfl,ho _ _ hown4.out⟩
     | false =>
      have hnv:nb=(false,bf st2):=hnb.out.trans (by unfold aW; rw [if_neg (by rw [hz2]; decide)]); have hRv:R=(none,bf st2):=hR2.out.trans ((if_neg (by rw [hz2]; decide):(if isP K.ts st2 4 [41]=true then (some (⟨0,false,rel,al⟩:Lt),am st2) else (none,bf st2))=_)); subst hnv; refine bodyPost_ret (v:=.tuple #[.agg (ap 0 false rel (.slice ax al.length cx)),.bool false]) (bw (by rfl) _ _ w.heap.size 0 false rel (.slice ax al.length cx) false (by rfl) (by rfl) hr) rfl ⟨by rw [hRv]; exact hp,hf,?_⟩; rw [hRv]; exact ⟨0,false,rel,ax,al.length,cx,rfl⟩
    | true =>
     have hn2:=hA.out.pm.nx; obtain ⟨f,rfl⟩:∃ f',f=f'+1:=⟨f - 1,by omega⟩; replace hE:=hid (show bW K.ts (f+1) st2 al=RES from hE.out); have hplr:=hA.out.lt; have hAt:=hid (hA.out.tag (.cells #[sv [95],.int .i64 0,.string ⟨#[]⟩,.int .i64 0,.int .i64 0,.string ⟨#[]⟩,.slice none 0 0] 63)); have hmk:=hid (cM pb K st2 [95] _ hAt.out.pm); obtain ⟨y,hy⟩:∃ y,isP K.ts st2 4 [95]=y:=⟨_,rfl⟩;(have hTy:bu K.ts st2 4 [95]=if y then (true,am st2) else (false,st2):=by unfold bu; rw [hy]);rw [hTy] at hmk; replace hy:=hid hy; have hrT:=hid (af wr (.cells #[sv [95],.int .i64 0,.string ⟨#[]⟩,.int .i64 0,.int .i64 0,.string ⟨#[]⟩,.slice none 0 0] 63)); clear hTy;go_wp2_with fail;(with_reducible refine hmk.out.mono ?_);rintro e w2 ⟨rfl,hM2,hf2⟩; clear hmk; have hA2:=hid (hAt.out.call hM2 hf2);(have hlT:wr.heap.size < (wr.alloc (.cells #[sv [95],.int .i64 0,.string ⟨#[]⟩,.int .i64 0,.int .i64 0,.string ⟨#[]⟩,.slice none 0 0] 63)).heap.size:=by simp);(have hpn:¬ wr.heap.size=pb:=by have:=hA.out.pm.lt; omega);have hrT2:=hid ((hf2.block wr.heap.size hlT (fun e=>by unfold one at e; omega)).trans hrT.out); clear hrT hAt hM2 hf2
     cases y with
     | true =>
      replace hE:=hid (show (if isP K.ts (am st2) 4 [44] then bW K.ts f (am (am st2)) (al++[bh [95]]) else (some (al++[bh [95]]),am st2))=RES from by rw [← hE.out,bW]; unfold fM; rw [if_pos hy.out]); have hn3:(am st2).nx<=K.toks.length:=hA2.out.pm.nx; have hn4:st2.nx < (am st2).nx:=Ag _; replace hA2:=hid (show AM pb w1.heap.size w.heap.size wr.heap.size K (am st2) rel al w w2 from hA2.out); replace hrT2:=hid (show w2.heap[wr.heap.size]? = some (.cells (aB (bh [95])) 63 (0,0)) from hrT2.out); obtain ⟨ax,cx,k0,ay,cy,W5,hap,k1,⟨kv,k2⟩,hA5⟩:=hA2.out.push (aL hrT2.out) (bh [95]) (by omega); obtain ⟨d0,d1,d2,d3,d4,d5,d6,-⟩:=aH hrT2.out; replace hA5:=hid hA5
      go_wp2_with (first | (at_builtin; refine aU rfl (.tmp 38) (.tmp 40) rfl rfl rfl hap ?_))
      have hmk2:=hid (cM pb K (am st2) [44] _ hA5.out.pm); obtain ⟨x,hx⟩:∃ x,isP K.ts (am st2) 4 [44]=x:=⟨_,rfl⟩;(have hTx:bu K.ts (am st2) 4 [44]=if x then (true,am (am st2)) else (false,(am st2)):=by unfold bu; rw [hx]);rw [hTx] at hmk2; replace hE:=hid (show (if x=true then bW K.ts f (am (am st2)) (al++[(bh [95])]) else (some (al++[(bh [95])]),(am st2)))=RES from by rw [← hx]; exact hE.out); replace hx:=hid hx; clear hTx;(with_reducible refine hmk2.out.mono ?_);rintro e w7 ⟨rfl,hM7,hf7⟩; have hA7:=hid (hA5.out.call hM7 hf7); have hn7:=hM7.nx; clear hmk2 hM7 hf7
      cases x with
      | true =>
       replace hE:=hid (show bW K.ts f (am (am st2)) (al++[(bh [95])])=RES from hE.out); replace hA7:=hid (show AM pb w1.heap.size w.heap.size 0 K (am (am st2)) rel (al++[(bh [95])]) w w7 from hA7.out); have hn8:(am (am st2)).nx=((am st2)).nx+1:=rfl; replace hn7:(am (am st2)).nx<=K.toks.length:=hn7;go_wp2_with fail
       go_roundg (K.toks.length+1 - (am (am st2)).nx)
       case measure=>omega
       case rel=>exact ⟨true,f,am (am st2),al++[(bh [95])],rfl,by omega,by omega,by rw [zQ]; simp only [zT,z_]; omega,hE,hA7⟩
      | false =>
       replace hE:=hid (show (some (al++[(bh [95])]),(am st2))=RES from hE.out); replace hA7:=hid (show AM pb w1.heap.size w.heap.size 0 K (am st2) rel (al++[(bh [95])]) w w7 from hA7.out);go_wp2_with fail
       go_roundg (K.toks.length+1 - ((am st2)).nx)
       case measure=>omega
       case rel=>exact ⟨false,f,(am st2),al++[(bh [95])],rfl,by omega,by omega,by rw [zQ]; simp only [zT,z_]; omega,hE,hA7⟩
     | false =>
      have hA2':=hid (show AM pb w1.heap.size w.heap.size wr.heap.size K st2 rel al w w2 from hA2.out); have hcall:=hid (lP pb K st2 w2 hA2'.out.pm); have hnx:=jO K.ts st2
      replace hE:=hid (show (match aT K.ts st2 with
       | (none,s1)=>(none,s1)
       | (some t,s1)=>if isP K.ts s1 4 [44] then bW K.ts f (am s1) (al++[t]) else (some (al++[t]),s1))=RES from by rw [← hE.out,bW]; unfold fM; rw [if_neg (by rw [hy.out]; decide)])
      generalize aT K.ts st2=ro at *; obtain ⟨ot,st3⟩:=ro; have hlT2:=hid (aL hrT2.out);go_wp2_with fail;(with_reducible refine hcall.out.mono ?_);rintro e w3 ⟨rfl,hM3,hf3⟩; have hA3:=hid (hA2'.out.call hM3 hf3); have hrT3:=hid ((hf3.block wr.heap.size hlT2.out (fun e=>by unfold one at e; omega)).trans hrT2.out); clear hcall hA2 hA2' hrT2 hM3 hf3 hlT2; replace hrT3:=hid (show w3.heap[wr.heap.size]? = some (.cells (aB (bh [95])) 63 (0,0)) from hrT3.out); obtain ⟨z0,z1,z2,z3,z4,z5,z6,fz⟩:=aH hrT3.out; have fz0:=fz 0; have fz1:=fz 1; have fz2:=fz 2; have fz3:=fz 3; have fz4:=fz 4; have fz5:=fz 5; have fz6:=fz 6; clear fz
      cases ot with
      | none =>
       replace hE:=hid (show (none,st3)=RES from hE.out); replace hA3:=hid (hA3.out.setTm (by omega) tm0); replace hA3:=hid (show AM pb w1.heap.size w.heap.size wr.heap.size K st3 rel al w (setTm w3 wr.heap.size tm0) from hA3.out); obtain ⟨q0,q1,q2,q3,gz⟩:=aK hA3.out.res; have gz0:=gz 0; have gz1:=gz 1; have gz2:=gz 2; have gz3:=gz 3; clear gz;go_wp2_with fail;obtain ⟨hp,hf,hr,-⟩:=hA3.out.fin 0 false [] (.slice none 0 0); refine bodyPost_ret (v:=.tuple #[.agg (ap 0 false [] (.slice none 0 0)),.bool false]) (bw (by rfl) _ _ w.heap.size 0 false [] (.slice none 0 0) false (by rfl) (by rfl) hr) rfl ⟨by rw [hR'.out,← hE.out]; exact hp,hf,?_⟩; rw [hR'.out,← hE.out]; exact ⟨0,false,[],none,0,0,rfl⟩
      | some t =>
       replace hE:=hid (show (if isP K.ts st3 4 [44] then bW K.ts f (am st3) (al++[t]) else (some (al++[t]),st3))=RES from hE.out); replace hA3:=hid (hA3.out.setTm (by omega) t); replace hA3:=hid (show AM pb w1.heap.size w.heap.size wr.heap.size K st3 rel al w (setTm w3 wr.heap.size t) from hA3.out); have hrT4:=hid (cK hrT3.out t); have hn3:st3.nx<=K.toks.length:=hA3.out.pm.nx; have hn4:st2.nx < st3.nx:=hnx rfl; obtain ⟨ax,cx,k0,ay,cy,W5,hap,k1,⟨kv,k2⟩,hA5⟩:=hA3.out.push (aL hrT4.out) t (by omega); obtain ⟨d0,d1,d2,d3,d4,d5,d6,-⟩:=aH hrT4.out; replace hA5:=hid hA5;(have hsz:(setTm w3 wr.heap.size t).heap.size=w3.heap.size:=by simp [setTm]);rw [hsz] at hap; clear hsz
       go_wp2_with (first | (at_builtin; refine aU rfl (.tmp 38) (.tmp 40) rfl rfl rfl hap ?_))
       have hmk2:=hid (cM pb K st3 [44] _ hA5.out.pm); obtain ⟨x,hx⟩:∃ x,isP K.ts st3 4 [44]=x:=⟨_,rfl⟩;(have hTx:bu K.ts st3 4 [44]=if x then (true,am st3) else (false,st3):=by unfold bu; rw [hx]);rw [hTx] at hmk2; replace hE:=hid (show (if x=true then bW K.ts f (am st3) (al++[t]) else (some (al++[t]),st3))=RES from by rw [← hx]; exact hE.out); replace hx:=hid hx; clear hTx;(with_reducible refine hmk2.out.mono ?_);rintro e w7 ⟨rfl,hM7,hf7⟩; have hA7:=hid (hA5.out.call hM7 hf7); have hn7:=hM7.nx; clear hmk2 hM7 hf7
       cases x with
       | true =>
        replace hE:=hid (show bW K.ts f (am st3) (al++[t])=RES from hE.out); replace hA7:=hid (show AM pb w1.heap.size w.heap.size 0 K (am st3) rel (al++[t]) w w7 from hA7.out); have hn8:(am st3).nx=(st3).nx+1:=rfl; replace hn7:(am st3).nx<=K.toks.length:=hn7;go_wp2_with fail
        go_roundg (K.toks.length+1 - (am st3).nx)
        case measure=>omega
        case rel=>exact ⟨true,f,am st3,al++[t],rfl,by omega,by omega,by rw [zQ]; simp only [zT,z_]; omega,hE,hA7⟩
       | false =>
        replace hE:=hid (show (some (al++[t]),st3)=RES from hE.out); replace hA7:=hid (show AM pb w1.heap.size w.heap.size 0 K st3 rel (al++[t]) w w7 from hA7.out);go_wp2_with fail
        go_roundg (K.toks.length+1 - (st3).nx)
        case measure=>omega
        case rel=>exact ⟨false,f,st3,al++[t],rfl,by omega,by omega,by rw [zQ]; simp only [zT,z_]; omega,hE,hA7⟩
end Go.Proofs.YtffdpoifdahadaaGreatDoor
