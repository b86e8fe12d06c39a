/- StrWe: StrWd, StrWe, in one text. -/
import Derived.Test.YtffdpoifdahadaaGreatDoorStrWb
import Derived.Test.YtffdpoifdahadaaGreatDoorStrI
import Derived.Test.YtffdpoifdahadaaGreatDoorStrWc
import Derived.Test.YtffdpoifdahadaaGreatDoorStrW7
set_option linter.unusedVariables false
set_option linter.unusedSimpArgs false
set_option maxHeartbeats 40000000
set_option maxRecDepth 100000
namespace Go.Proofs.YtffdpoifdahadaaGreatDoor
open Go.RowKit
open Go.Lib (hid)
theorem qg:(Tryz.prog.info? 9).map (fun i=>(i.zero,i.size,i.bytes))=some (some (.string .empty),1,16):=by kernel_rfl
theorem i4 {t e:TypeId} {z:Value} {bytes:Nat} (hu:Tryz.prog.underlying t=some (.slice e)) (hinfo:(Tryz.prog.info? e).map (fun i=>(i.zero,i.size,i.bytes))=some (some z,1,bytes)) (hz1:z.cells.size=1) (hby:bytes<=64)
  {w:World} {v:Value} {xs:List Value} {n:Nat} (h:w.ownsRow 0 e 1 v n xs) (y:Value) (hy:y.oneCell'=true) (hn:n<=2000000000000) :
  ∃ (v':Value) (w2:World),cH Tryz.prog t t t v (.slice (some ⟨w.heap.size,0,none⟩) 1 1) v' (w.alloc (.cells #[y] e)) w2/\w2.ownsRow 0 e 1 v' (n+1) (xs++[y])/\(∀ k,v'.ownBlock=some k->v.ownBlock=some k\/w.heap.size<=k)/\Fr (fun k=>v.ownBlock=some k) w w2:=by
 obtain ⟨i0,hi,hz0,hz1',hz2⟩:=info_parts hinfo; have hown:=World.ownsRow.alloc h (.cells #[y] e)
 obtain ⟨v',w2,hrun,hown',hgrow,-,hor⟩:=run_append_own_at (P:=Tryz.prog) (w.alloc (.cells #[y] e)) 0 t t e i0 z 1 bytes hu hi hz0 hz1' hz2 hz1 (by decide) v n xs hown ⟨w.heap.size,0,none⟩ 1 1 [y] rfl (nU _ _ _) (m8 hy) (by unfold maxLen; omega) (by
  have:(n+1) * bytes<=2000000000001 * 64:=Nat.mul_le_mul (by omega) hby
  omega) (zW _)
 refine ⟨v',w2,⟨hrun⟩,hown',fun k hk=>?_,((Fr.refl _ w).alloc _).grown hgrow fun k hk=>Or.inl hk⟩; rcases hor with e | e
 ·exact Or.inl (e ▸ hk)
 ·rw [hk] at e; injection e with e
  subst e
  right; simp
abbrev SO (w:World) (l:List (List UInt8)) (v:Value):Prop:=w.ownsRow 0 9 1 v l.length (l.map sv)
def ii (x:Lg) (k:Nat):List (List UInt8):=(((x.args.take k).filter fk).map Tg.var).foldl jd []
theorem uV {x:Lg} {k:Nat} {t:Tg} (h:x.args[k]? = some t):ii x (k+1)=(tvL t).foldl jd (ii x k):=by
 unfold ii; rw [g_ _ _ _ h,List.foldl_append]
theorem qV (x:Lg) (k:Nat) (h:x.args.length<=k):ii x k=kL x:=by
 unfold ii; rw [List.take_of_length_le h]; rfl
theorem xt (l:List (List UInt8)):∀ acc,(l.foldl jd acc).length<=acc.length+l.length:=by
 induction l with
 | nil=>intro acc; exact zM _
 | cons a l ih =>
  intro acc; rw [List.foldl_cons]; refine zV (ih _) ?_; unfold jd; split
  ·simp only [zT]; omega
  ·simp only [zQ,zT,z_]; omega
theorem qU (x:Lg) (k:Nat):(ii x k).length<=k:=by
 unfold ii; refine zV (xt _ _) ?_; simp only [z_,zY]; have:=List.length_filter_le fk (x.args.take k); rw [Ah] at this; omega
structure VM (w0:World) (mb:Nat) (acc:List (List UInt8)) (v:Value) (N:Nat) (w:World):Prop where
 map:bR Tryz.prog 9 mb N (iP acc) w
 row:SO w acc v
 ge:∀ k,v.ownBlock=some k->w0.heap.size<=k
 mge:w0.heap.size<=mb
 bel:Below w0.heap.size w0 w
theorem VM.below {w0 w w':World} {mb N:Nat} {acc:List (List UInt8)} {v:Value} (h:VM w0 mb acc v N w) (hb:Below w.heap.size w w'):VM w0 mb acc v N w' :=
 ⟨h.map.below hb h.map.lt,aJ h.row (fun k hk=>hb.block k (h.row.lt k hk).2) fun _ _=>zW _,h.ge,h.mge,h.bel.trans (hb.mono h.bel.size)⟩
theorem VM.rowne {w0 w:World} {mb N:Nat} {acc:List (List UInt8)} {v:Value} (h:VM w0 mb acc v N w):v.ownBlock≠some mb:=fun e=>by
 obtain ⟨c,hc⟩:=cE h.row e; obtain ⟨es,cl,hm⟩:=h.map.obj; rw [hc] at hm; cases hm
theorem VM.put {w0 w:World} {mb N:Nat} {acc:List (List UInt8)} {v:Value} (h:VM w0 mb acc v N w) (s:List UInt8) (hs:s.length<=1048576) (hN:N<=2000000000000) :
  ∃ w1,(Instr.mapUpdate 67 (.map (some mb)) (sv s) (.bool true)).run Tryz.prog w=.ok () w1/\bR Tryz.prog 9 mb (N+1) (iP (acc++[s])) w1/\SO w1 acc v/\Below w0.heap.size w0 w1/\(∀ k o,w.heap[k]? = some o->k≠mb->w1.heap[k]? = some o)/\w.heap.size<=w1.heap.size:=by
 obtain ⟨w1,hput,hmv,hg⟩:=h.map.put (Maps.string_keyed Tryz.underlying9) (t:=67) (e:=4) Tryz.underlying67 (by unfold maxLen; omega) (bH s hs) trivial (.bool true); refine ⟨w1,hput,hmv.congr fun kl _=>?_,aJ h.row (fun k hk=>hg.block k (h.row.lt k hk).2 fun e=>h.rowne (by rw [hk,e])) (fun _ _=>zW _),h.bel.trans (bj (W:=w) hg h.mge h.bel.size),fun k o hk hne=>(hg.block k (aL hk) (fun e=>hne (by injection e))).trans hk,hg.size⟩; unfold putF
 cases kl with
 | string x =>
  by_cases e:x=s
  ·subst e; simp [iP]
  ·by_cases e2:x∈acc
   ·simp [iP,e,e2]
   ·simp [iP,e,e2]
 | _=>simp [iP]
theorem va (x:Lg) (xa:Option Addr) (xc:Nat) (S:aP) (w:World) (h:SlR 7 TgR S w x.args (.slice xa x.args.length xc)) (hS:∀ k,S k->k < w.heap.size) (hl:x.args.length<=1048576) (hv:∀ t∈x.args,t.var.length<=1048576) :
  Calls Tryz.prog 12 #[.agg (ap x.op x.nt x.rel (.slice xa x.args.length xc))] w fun e w'=>∃ v,e=.returned v/\SO w' (kL x) v/\(∀ k,v.ownBlock=some k->w.heap.size<=k)/\Below w.heap.size w w':=by
 have hb0:Below w.heap.size w (w.alloc (.cells (ap x.op x.nt x.rel (.slice xa x.args.length xc)) 24)):=(zN _ w).alloc (zM _) _; have hbn:=af w (.cells (ap x.op x.nt x.rel (.slice xa x.args.length xc)) 24); obtain ⟨w0,hw0⟩:∃ w0,w0=w.alloc (.cells (ap x.op x.nt x.rel (.slice xa x.args.length xc)) 24):=⟨_,rfl⟩; rw [← hw0] at hb0 hbn; have b3:w0.cell? ⟨w.heap.size,3,none⟩=some (.slice xa x.args.length xc):=(aj hbn).trans rfl; have hV0:=hid (show VM w w0.heap.size [] (.slice none 0 0) 0 (w0.alloc (.map #[] 0)) from ⟨(bR.made w0).congr fun kl _=>(by cases kl <;> simp [iP]),⟨rfl,Or.inl ⟨rfl,rfl⟩⟩,fun k hk=>(by cases hk),hb0.size,hb0.trans (((zN _ w0).alloc (zM _) _).mono hb0.size)⟩)
 have b3':(w0.alloc (.map #[] 0)).cell? ⟨w.heap.size,3,none⟩=some (.slice xa x.args.length xc):=(((zN w0.heap.size w0).alloc (zM _) (.map #[] 0)).cell (p:=⟨w.heap.size,3,none⟩) (Aj w0 _ b3)).trans b3; have hmm:=@run_makeMap Tryz.prog; replace hw0:=hid hw0; replace hbn:=hid hbn; replace hb0:=hid hb0; replace h:=hid h; replace hv:=hid hv
 go_enter Tryz.func12,Tryz.ntmps12
 go_upto_region 2 with (fail)
 rw [← hw0.out]
 go_wp2_with fail
 go_loopg [3,11] x.args.length (fun f v3 v11 wr=>∃ (k:Nat) (v:Value) (N:Nat),v3=v/\v11=iv k/\k+f=x.args.length/\N<=k/\Hid (VM w w0.heap.size (ii x k) v N wr))
 case atStart=>exact ⟨0,_,0,rfl,rfl,by omega,zM _,hV0⟩
 case round =>
  obtain ⟨k,v,N,rfl,rfl,hkf,hN,hV⟩:=hrel; clear hV0 b3 b3'; by_cases hlt:k < x.args.length
  ·have q1:decide ((k:Int) < (x.args.length:Int))=true:=zP (by omega)
   have q3:IntKind.i64.wrap ((k:Int)+1)=((k+1:Nat):Int):=by rw [zX]; omega
   obtain ⟨t,ht⟩:∃ t,x.args[k]? = some t:=⟨_,zR hlt⟩; have htv:=hv.out t (zU ht); obtain ⟨g2,o2,cs2,hidx2,-,hg2,hc2,hrt2⟩:=(h.out.below bZ hV.out.bel).at (P:=Tryz.prog) (t:=22) (by kernel_rfl) (fun _=>by kernel_rfl) ht; have hacc:=uV ht; obtain ⟨var,kind,vt,n0,m0,vs,ln⟩:=t; obtain ⟨ta,tc,hrt2⟩:=hrt2; subst hrt2; have d0:wr.cell? ⟨g2,o2+0,none⟩=some (sv var):=hc2 0 _ rfl; have d1:wr.cell? ⟨g2,o2+1,none⟩=some (iv kind):=hc2 1 _ rfl; have d2:wr.cell? ⟨g2,o2+2,none⟩=some (sv vt):=hc2 2 _ rfl; have d3:wr.cell? ⟨g2,o2+3,none⟩=some (iv n0):=hc2 3 _ rfl; have d4:wr.cell? ⟨g2,o2+4,none⟩=some (iv m0):=hc2 4 _ rfl; have d5:wr.cell? ⟨g2,o2+5,none⟩=some (sv vs):=hc2 5 _ rfl
   have d6:wr.cell? ⟨g2,o2+6,none⟩=some (.slice ta ln tc):=hc2 6 _ rfl; rw [Nat.add_zero] at d0; have hb3:Below wr.heap.size wr (wr.alloc (.cells #[sv var,iv kind,sv vt,iv n0,iv m0,sv vs,.slice ta ln tc] 63)):=(zN _ _).alloc (zM _) _; have hbt:=af wr (.cells #[sv var,iv kind,sv vt,iv n0,iv m0,sv vs,.slice ta ln tc] 63); obtain ⟨W3,hW3⟩:∃ W3,W3=wr.alloc (.cells #[sv var,iv kind,sv vt,iv n0,iv m0,sv vs,.slice ta ln tc] 63):=⟨_,rfl⟩; rw [← hW3] at hb3 hbt; have hV3:=hV.out.below hb3; have f0:W3.cell? ⟨wr.heap.size,0,none⟩=some (sv var):=(aj hbt).trans rfl; have f1:W3.cell? ⟨wr.heap.size,1,none⟩=some (iv kind):=(aj hbt).trans rfl; have f2:W3.cell? ⟨wr.heap.size,2,none⟩=some (sv vt):=(aj hbt).trans rfl
   have f3:W3.cell? ⟨wr.heap.size,3,none⟩=some (iv n0):=(aj hbt).trans rfl; have f4:W3.cell? ⟨wr.heap.size,4,none⟩=some (iv m0):=(aj hbt).trans rfl; have f5:W3.cell? ⟨wr.heap.size,5,none⟩=some (sv vs):=(aj hbt).trans rfl; have f6:W3.cell? ⟨wr.heap.size,6,none⟩=some (.slice ta ln tc):=(aj hbt).trans rfl
   have hbw:∀ W,Calls Tryz.prog 30 #[.agg #[sv var,iv kind,sv vt,iv n0,iv m0,sv vs,.slice ta ln tc]] W fun e w'=>e=.returned (.bool (eT var))/\Below W.heap.size W w':=fun W=>jG ⟨var,kind,vt,n0,m0,vs,ln⟩ ta tc W htv
   obtain ⟨mo,hmo⟩:∃ mo,W3.heap[w0.heap.size]? = some mo:=⟨_,hV3.map.obj.choose_spec.choose_spec⟩
   have hlk:∀ W:World,W.heap[w0.heap.size]? = some mo->(Instr.lookup 67 (.map (some w0.heap.size)) (sv var) false).run Tryz.prog W=.ok (.bool (decide (var∈ii x k))) W:=fun W hW=>by
    have:=(hV3.map.same (hW.trans hmo.symm)).look (Maps.string_keyed Tryz.underlying9) (t:=67) (e:=4) Tryz.underlying67 (z:=.bool false) (by kernel_rfl) (bH var htv) trivial; rw [this]; show (Result.ok ((if var∈ii x k then some (Value.bool true) else none).getD (.bool false)) W:Result Value)=_; by_cases e:var∈ii x k
    ·rw [if_pos e,zP e]; rfl
    ·rw [if_neg e,zO e]; rfl
   have hskip:(tvL ⟨var,kind,vt,n0,m0,vs,ln⟩=[]\/var∈ii x k)->ii x (k+1)=ii x k:=fun e=>by
    rw [hacc]; rcases e with e | e
    ·rw [e]; rfl
    ·unfold tvL
     split
     ·show jd _ _=_
      unfold jd; rw [if_pos e]
     ·rfl
   have hVs:=hid (fun (W:World) (hW:Below W3.heap.size W3 W)=>hV3.below hW); replace hskip:=hid hskip; replace hW3:=hid hW3; replace hbw:=hid hbw; replace hbt:=hid hbt; replace hV3:=hid hV3; have hmol:=aL hmo; clear hc2 hb3; rcases var with _ | ⟨vc,vr⟩
   ·have he:=hskip.out (Or.inl rfl)
    rw [← he] at hVs; replace he:=hid he; clear hlk hmo;go_wp2_with fail;rw [← hW3.out]
    go_roundg (x.args.length - (k+1))
    case measure=>omega
    case rel=>exact ⟨k+1,u3,N,rfl,rfl,by omega,Nat.le_succ_of_le hN,hid (hVs.out _ (zN _ _))⟩
   by_cases h1:vc::vr∈ii x k
   ·have he:=hskip.out (Or.inr h1)
    rw [← he] at hVs; have hl1:=hlk W3 hmo; rw [zP h1,hW3.out] at hl1; replace he:=hid he; replace h1:=hid h1; clear hlk hmo;go_wp2_with fail;rw [← hW3.out];go_wp2_with fail
    go_roundg (x.args.length - (k+1))
    case measure=>omega
    case rel=>exact ⟨k+1,u3,N,rfl,rfl,by omega,Nat.le_succ_of_le hN,hid (hVs.out _ (zN _ _))⟩
   ·have hl1:=hlk W3 hmo
    rw [zO h1,hW3.out] at hl1; obtain ⟨wf,hwf⟩:∃ b,b=eT (vc::vr):=⟨_,rfl⟩; rw [← hwf] at hbw; replace hwf:=hid hwf; have h1':=hid h1; clear hlk hmo h1;go_wp2_with fail;rw [← hW3.out];go_wp2_with fail;(with_reducible refine (hbw.out _).mono ?_);rintro e w4 ⟨rfl,hb4⟩; have hV4:=hVs.out _ hb4; have hk4:=an hb4 hbt.out (ae hbt.out); have g0:w4.cell? ⟨wr.heap.size,0,none⟩=some (sv (vc::vr)):=(aj hk4).trans rfl; replace hk4:=hid hk4; clear f0 f1 f2 f3 f4 f5 f6 hb4 hbw d0 d1 d2 d3 d4 d5 d6 hidx2 hg2 hl1 hVs
    cases wf with
    | true =>
     have he:=hskip.out (Or.inl (by unfold tvL fk; rw [← hwf.out]; simp)); rw [← he] at hV4; replace he:=hid he; replace hV4:=hid hV4;go_wp2_with fail
     go_roundg (x.args.length - (k+1))
     case measure=>omega
     case rel=>exact ⟨k+1,u3,N,rfl,rfl,by omega,Nat.le_succ_of_le hN,hV4⟩
    | false =>
     have htl:tvL ⟨vc::vr,kind,vt,n0,m0,vs,ln⟩=[vc::vr]:=by unfold tvL fk; rw [← hwf.out]; simp
     have ha2:ii x (k+1)=ii x k++[vc::vr]:=by
      rw [hacc,htl]; show jd _ _=_; unfold jd; rw [if_neg h1'.out]
     obtain ⟨w5,hput,hm5,hr5,hb5,hk5,hs5⟩:=hV4.put (vc::vr) htv (by omega); have hmT:w0.heap.size≠wr.heap.size:=Nat.ne_of_lt hV.out.map.lt; have hT5:=hk5 _ _ hk4.out (fun e=>hmT e.symm); have g05:w5.cell? ⟨wr.heap.size,0,none⟩=some (sv (vc::vr)):=(aj hT5).trans rfl;(have hlen:(ii x k).length<=2000000000000:=by have:=qU x k; omega);obtain ⟨v',w6,hap,hr6,hge6,hF6⟩:=i4 (t:=36) (by kernel_rfl) qg rfl (by decide) hr5 (sv (vc::vr)) rfl hlen
     have hV6:=hid (show VM w w0.heap.size (ii x (k+1)) v' (N+1) w6 from by
      rw [ha2]; refine ⟨hm5.same (hF6.block _ hm5.lt fun e=>?_),?_,fun q hq=>(hge6 q hq).elim (hV4.ge q) fun e=>zV hb5.size e,hV4.mge,hb5.trans (hF6.to_below hb5.size fun q hq e=>Nat.not_lt.2 (hV4.ge q e) hq)⟩
      ·exact hV4.rowne e
      ·show w6.ownsRow 0 _ 1 v' _ _
       rw [zQ,List.map_append]; exact hr6)
     replace ha2:=hid ha2; replace htl:=hid htl; replace hm5:=hid hm5; replace hr5:=hid hr5; replace hb5:=hid hb5; replace hV4:=hid hV4; replace hr6:=hid hr6; replace hF6:=hid hF6; replace hap:=hid hap; clear hk5 hT5 hge6 hacc hskip hlen;go_wp2_with (at_builtin; refine aU rfl (.tmp 31) (.tmp 34) rfl rfl rfl hap.out ?_)
     go_roundg (x.args.length - (k+1))
     case measure=>omega
     case rel=>exact ⟨k+1,v',N+1,rfl,rfl,by omega,Nat.succ_le_succ hN,hV6⟩
  ·have q1:decide ((k:Int) < (x.args.length:Int))=false:=zO (by omega)
   have hV1:=hV.out; rw [qV x k (by omega)] at hV1; replace hV1:=hid hV1
   go_wp2_with fail
   go_ret; exact ⟨_,rfl,hV1.out.row,hV1.out.ge,hV1.out.bel⟩
end Go.Proofs.YtffdpoifdahadaaGreatDoor
namespace Go.Proofs.YtffdpoifdahadaaGreatDoor
open Go.RowKit
open Go.Lib (hid)
section
variable {G G':aP} {K:BK} {lits:List Lg} {S:aP} {bd:List (List UInt8)} {tk:List Nat} {hp:List Int} {hv:Value} {NB NU:Nat} {w w':World}
theorem BI.move (h:BI G K lits S bd tk hp hv NB NU w) (hs:w.heap.size<=w'.heap.size) (hk:∀ k,k < w.heap.size->G k\/S k->w'.heap[k]? = w.heap[k]?)
  (h1:∀ k,k < w.heap.size->G k->G' k) (h2:∀ k,w'.heap.size<=k->G' k) (h3:∀ k,G' k->G k):BI G' K lits S bd tk hp hv NB NU w':=by
 obtain ⟨op,ls,hM,hr⟩:=h.ex; exact ⟨op,ls,hM.move hs hk h1 h2 h3,hr⟩
theorem BI.noPick (h:BI G K lits S bd tk [] hv NB NU w):l_ lits bd tk=none:=by
 obtain ⟨op,ls,hM,hH,h1,h2,h3⟩:=h.ex
 exact rr hH fun i hi=>by rw [h3.2 i hi,h2 i hi]
theorem BI.hslice (h:BI G K lits S bd tk hp hv NB NU w):(∃ a c,hv=.slice a hp.length c)/\hp.length<=lits.length/\w.heap[K.B]? = some (.cells (K.cells lits.length hv) 74 (0,0)):=by
 obtain ⟨op,ls,hM,hH,h1,h2,h3⟩:=h.ex; obtain ⟨a,c,e,-,-⟩:=bp hM.heap; exact ⟨⟨a,c,e⟩,hH.small,hM.blk⟩
theorem BI.bnd (h:BI G K lits S bd tk hp hv NB NU w):bR Tryz.prog 9 K.mb NB (iP bd) w:=by
 obtain ⟨op,ls,hM,hr⟩:=h.ex; exact hM.bound
theorem BI.popped (h:BI G K lits S bd tk hp hv NB NU w) (h0:hp≠[]) (hs:lits.length<=1048576):∃ i,l_ lits bd tk=some i/\i < lits.length/\i ∉ tk /\
  Calls Tryz.prog 28 #[.iface 78 (.pointer (some ⟨K.B,5,none⟩))] w fun e w'=>e=.returned (.iface 3 (iv i))/\∃ hp' hv',BI G K lits S bd (tk++[i]) hp' hv' NB NU w'/\Fr G w w':=by
 obtain ⟨op,ls,hM,hH,h1,h2,h3⟩:=h.ex; obtain ⟨i,hP⟩:=hH.pop h0; have hsm:=hH.small; have hl0:0 < hp.length:=List.length_pos_iff.2 h0; refine ⟨i,vQ hP fun j hj=>by rw [h3.2 j hj,h2 j hj],hP.lt,hP.new,?_⟩; obtain ⟨g,c,rfl,hc,hg,-,-⟩:=fi hM.heap hl0
 have hgB:g≠K.B:=fun e=>by
  obtain ⟨cu,hcu⟩:=cE hM.heap (k:=g) rfl; exact cS hcu hM.blk (by simp [tyO]) e
 refine (qi K.B _ _ _ _ _ g c hp w hM.blk hM.heap hgB hl0 (by omega)).mono ?_; rintro e w' ⟨rfl,hB',hI',hF'⟩
 have hlen:((fx hp).take (hp.length - 1)).length=hp.length - 1:=by
  rw [Ah,(vP hH.heap h0).2.1.length_eq]; omega
 have hor:(Value.slice (some ⟨g,0,none⟩) (hp.length - 1:Nat) c).ownBlock=(Value.slice (some ⟨g,0,none⟩) hp.length c).ownBlock\/∃ k,(Value.slice (some ⟨g,0,none⟩) (hp.length - 1:Nat) c).ownBlock=some k/\w.heap.size<=k:=Or.inl rfl; obtain ⟨hM',hF2⟩:=hM.setHeap (hv':=.slice (some ⟨g,0,none⟩) (hp.length - 1:Nat) c) (hp':=(fx hp).take (hp.length - 1)) hB' hI' hor (hF'.mono fun k _ e=>e.elim Or.inl fun e=>Or.inr (by rw [e]; rfl)); exact ⟨by rw [hP.last],_,_,⟨op,ls,hM',hP.next,h1,h2,h3⟩,hF2⟩
end
def qY (r:Rg) (w:World) (e:Ending) (w':World):Prop :=
 Below w.heap.size w w'/\match ey r.head r.body with
  | none=>e=.returned (.tuple #[.slice none 0 0,.bool false])
  | some l=>∃ v,e=.returned (.tuple #[v,.bool true])/\IO w' (bQ l) v/\∀ k,v.ownBlock=some k->w.heap.size<=k
theorem qY.none {r:Rg} {w w':World} (hb:Below w.heap.size w w') (h:ey r.head r.body=none):qY r w (.returned (.tuple #[.slice none 0 0,.bool false])) w':=⟨hb,by rw [h]⟩
theorem qY.some {r:Rg} {w w':World} (hb:Below w.heap.size w w') {l:List Nat} (h:ey r.head r.body=some l) {v:Value} (h1:IO w' (bQ l) v) (h2:∀ k,v.ownBlock=some k->w.heap.size<=k):qY r w (.returned (.tuple #[v,.bool true])) w':=⟨hb,by rw [h]; exact ⟨v,rfl,h1,h2⟩⟩
structure OSt (w W0:World) (K:BK) (body:List Lg) (S:aP) (R:List Nat × List (List UInt8)) (f:Nat) (bd:List (List UInt8)) (tk:List Nat) (vo:Value) (G:aP) (hp:List Int) (hv:Value) (NB NU:Nat) (wr:World):Prop where
 bi:BI G K body S bd tk hp hv NB NU wr
 row:IO wr (bQ tk) vo
 ge:∀ k,vo.ownBlock=some k->W0.heap.size<=k
 out:∀ k,vo.ownBlock=some k->¬ G k
 gge:∀ k,G k->W0.heap.size<=k
 run:eL body f bd tk=R
 len:tk.length+f=body.length
 bel:Below W0.heap.size W0 wr
theorem lR {r:Rg} {bd:List (List UInt8)}:((el r.head).all fun v=>decide (v∈bd))=true ↔ ∀ v∈kL r.head,v∈bd:=by
 rw [List.all_eq_true]; exact ⟨fun h v hv=>by simpa using h v (lK.1 hv),fun h v hv=>by simpa using h v (lK.2 hv)⟩
theorem so_at {w:World} {l:List (List UInt8)} {a:Option Addr} {c i:Nat} {x:List UInt8} (h:SO w l (.slice a l.length c)) (hi:l[i]? = some x):∃ g,(∀ kd W,(Instr.indexAt 36 (.slice a l.length c) (.int kd i)).run Tryz.prog W=.ok (.pointer (some ⟨g,i,none⟩)) W)/\w.cell? ⟨g,i,none⟩=some (sv x):=by
 have hlt:=(List.getElem?_eq_some_iff.1 hi).1; rcases h.2 with ⟨e,h0⟩ | ⟨g,cap,cur,e,-⟩
 ·omega
 ·simp only [Value.slice.injEq] at e
  obtain ⟨rfl,-,rfl⟩:=e; exact ⟨g,gZ hlt (by kernel_rfl) (fun _=>by kernel_rfl),(ej h (by rw [Ai,hi]; rfl)).1⟩
theorem pK {r:Rg} {R:List Nat × List (List UInt8)} (hR:R=eL r.body r.body.length [] []) (h:R.1.length < r.body.length):ey r.head r.body=none:=by
 unfold ey; rw [← hR,if_pos h]
theorem rE {r:Rg} {R:List Nat × List (List UInt8)} (hR:R=eL r.body r.body.length [] []) {v:List UInt8} (hv:v∈kL r.head) (hn:v ∉ R.2):ey r.head r.body=none:=by
 unfold ey; rw [← hR]; split
 ·rfl
 ·rw [if_neg]
  intro e; exact hn (lR.1 e v hv)
theorem rF {r:Rg} {R:List Nat × List (List UInt8)} (hR:R=eL r.body r.body.length [] []) (h:¬ R.1.length < r.body.length) (hv:∀ v∈kL r.head,v∈R.2):ey r.head r.body=some R.1:=by
 unfold ey; rw [← hR,if_neg h,if_pos (lR.2 hv)]
theorem OSt.push {W0 w1:World} {K:BK} {body:List Lg} {S G:aP} {bd:List (List UInt8)} {tk:List Nat} {vo:Value} {hp:List Int} {hv:Value} {NB NU i:Nat} (hbi:BI G K body S bd (tk++[i]) hp hv NB NU w1) (hrow:IO w1 (bQ tk) vo) (hge:∀ k,vo.ownBlock=some k->W0.heap.size<=k) (hout:∀ k,vo.ownBlock=some k->¬ G k) (hgge:∀ k,G k->W0.heap.size<=k) (hbel:Below W0.heap.size W0 w1) (hS:∀ k,S k->k < W0.heap.size) (hl:tk.length<=1048576) :
  ∃ (v':Value) (w2:World),cH Tryz.prog 33 33 33 vo (.slice (some ⟨w1.heap.size,0,none⟩) 1 1) v' (w1.alloc (.cells #[iv i] 3)) w2/\(∃ a c,v'=.slice a (tk++[i]).length c)/\(∃ G',BI G' K body S bd (tk++[i]) hp hv NB NU w2/\IO w2 (bQ (tk++[i])) v'/\(∀ k,v'.ownBlock=some k->W0.heap.size<=k)/\(∀ k,v'.ownBlock=some k->¬ G' k)/\∀ k,G' k->W0.heap.size<=k)/\Below W0.heap.size W0 w2:=by
 have hrow':w1.ownsRow 0 3 1 vo (bQ tk).length ((bQ tk).map iv):=hrow
 have hil:(bQ tk).length=tk.length:=by simp
 obtain ⟨v',w2,hap,hr2,hge2,hF2⟩:=i4 (t:=33) Tryz.underlying33 gJ rfl (by decide) hrow' (iv i) rfl (by omega)
 have hI2:IO w2 (bQ (tk++[i])) v':=by
  show w2.ownsRow 0 _ 1 v' _ _
  have e:bQ (tk++[i])=bQ tk++[(i:Int)]:=by simp
  rw [e,zQ,List.map_append]; exact hr2
 have hs2:=hF2.size; have hso:=hbel.size; have hb2:Below W0.heap.size W0 w2:=hbel.trans (hF2.to_below hso fun k hk e=>by have:=hge k e; omega); refine ⟨v',w2,hap,?_,⟨fun k=>G k/\¬(w1.heap.size<=k/\k < w2.heap.size),hbi.move hs2 (fun k hk hg=>hF2.block k hk fun e=>hg.elim (hout k e) fun hs=>by have:=hS k hs; have:=hge k e; omega) (fun k hk hg=>⟨hg,fun e=>by omega⟩) (fun k hk=>⟨?_,fun e=>by omega⟩) (fun k hk=>hk.1),hI2,fun k hk=>(hge2 k hk).elim (hge k) fun e=>by omega,fun k hk hg=>?_,fun k hk=>hgge k hk.1⟩,hb2⟩
 ·obtain ⟨a,c,e,-,-⟩:=bp hI2
  have:(bQ (tk++[i])).length=(tk++[i]).length:=by simp
  rw [this] at e; exact ⟨a,c,e⟩
 ·obtain ⟨op,ls,hM,-⟩:=hbi.ex
  exact hM.new k (by omega)
 ·rcases hge2 k hk with e | e
  ·exact hout k e hg.1
  ·exact hg.2 ⟨e,(World.ownsRow.lt hI2 k hk).2⟩
theorem nN (r:Rg) (ha:Option Addr) (hc:Nat) (ba:Option Addr) (bc:Nat) (S:aP) (w:World) (h1:SlR 7 TgR S w r.head.args (.slice ha r.head.args.length hc)) (h2:SlR 4 LgR S w r.body (.slice ba r.body.length bc)) (hS:∀ k,S k->k < w.heap.size) (hs:Sml r.body) (hl:r.head.args.length<=1048576) (hv:∀ t∈r.head.args,t.var.length<=1048576) :
  Calls Tryz.prog 10 #[.agg (aM r.head.op r.head.nt r.head.rel (.slice ha r.head.args.length hc) r.agg r.at_ (.slice ba r.body.length bc))] w (qY r w):=by
 obtain ⟨R,hR⟩:∃ R,R=eL r.body r.body.length [] []:=⟨_,rfl⟩; have hb0:Below w.heap.size w (w.alloc (.cells (aM r.head.op r.head.nt r.head.rel (.slice ha r.head.args.length hc) r.agg r.at_ (.slice ba r.body.length bc)) 27)):=(zN _ w).alloc (zM _) _; have hbn:=af w (.cells (aM r.head.op r.head.nt r.head.rel (.slice ha r.head.args.length hc) r.agg r.at_ (.slice ba r.body.length bc)) 27); obtain ⟨W0,hW0⟩:∃ W0,W0=w.alloc (.cells (aM r.head.op r.head.nt r.head.rel (.slice ha r.head.args.length hc) r.agg r.at_ (.slice ba r.body.length bc)) 27):=⟨_,rfl⟩; rw [← hW0] at hb0 hbn; have hnb:=hid (pR r.body S ba bc W0 (h2.below eA hb0) (fun k hk=>zS (hS k hk) hb0.size) hs); have hSh:=hid (h1.below bZ hb0)
 have hSb:=hid (h2.below eA hb0); have hwl:=ae hbn; have hsl:=hs.len; obtain ⟨n,hn⟩:∃ n,n=r.body.length:=⟨_,rfl⟩; rw [← hn] at hsl hbn hW0; rw [← hn] at hnb ⊢; have b6:W0.cell? ⟨w.heap.size,6,none⟩=some (.slice ba n bc):=(aj hbn).trans rfl; replace hW0:=hid hW0; replace hb0:=hid hb0; replace hbn:=hid hbn; replace hn:=hid hn; replace hR:=hid hR; clear h1 h2
 go_enter Tryz.func10,Tryz.ntmps10
 go_wp2_with fail
 go_step3
 go_wp2_with fail
 rw [← hW0.out]
 with_reducible refine hnb.out.mono ?_
 rintro e w1 ⟨K,hp0,hv0,NU,rfl,hKa,hKc,hI0,hU,hb1⟩; have hO0:=hid (show OSt w W0 K r.body S R n [] [] (.slice none 0 0) (fun k=>W0.heap.size<=k) hp0 hv0 0 NU w1 from ⟨hI0,⟨rfl,Or.inl ⟨rfl,rfl⟩⟩,fun k hk=>(by cases hk),fun k hk=>(by cases hk),fun k hk=>hk,by rw [hR.out,hn.out],by rw [hn.out]; simp,hb1⟩); replace hKa:=hid hKa; replace hKc:=hid hKc; replace hU:=hid hU; clear hnb hI0 hb1 b6
 go_wp2_with fail
 go_step3
 go_wp2_with fail
 go_loopg [5] n (fun f v5 wr=>∃ (bd:List (List UInt8)) (tk:List Nat) (a5:Option Addr) (c5:Nat) (G:aP) (hp:List Int) (hv:Value) (NB:Nat),v5=.slice a5 tk.length c5/\tk.length+f=n/\NB<=tk.length * 1048576/\Hid (OSt w W0 K r.body S R f bd tk (.slice a5 tk.length c5) G hp hv NB NU wr))
 case atStart=>exact ⟨[],[],none,0,_,hp0,hv0,0,rfl,by simp,by simp,hO0⟩
 case round =>
  obtain ⟨bd,tk,a5,c5,G,hp,hv5,NB,rfl,htf,hNB,hO⟩:=hrel; clear hO0; have hbn':=an hO.out.bel hbn.out hwl; have c6:wr.cell? ⟨w.heap.size,6,none⟩=some (.slice ba n bc):=(aj hbn').trans rfl; obtain ⟨⟨ah,ch,rfl⟩,hhl,hBk⟩:=hO.out.bi.hslice; have c5r:wr.cell? ⟨K.B,5,none⟩=some (.slice ah hp.length ch):=(aj hBk).trans rfl; have hlen:=hid (fun n c a W=>ic n c a W); replace hbn':=hid hbn'; replace hBk:=hid hBk; by_cases hlt:tk.length < n
  ·have q1:decide ((tk.length:Int) < (n:Int))=true:=zP (by omega)
   rcases hp with _ | ⟨x0,hpr⟩
   ·have q2:((([]:List Int).length:Int) == 0)=true:=by simp
    go_wp2_with fail;refine (hlen.out _ _ _ _).mono ?_; rintro e w9 ⟨rfl,rfl⟩;go_wp2_with fail;rw [Exit.noGoto_ret]; have hrun:=hO.out.run; obtain ⟨f,rfl⟩:∃ f,gk=f+1:=⟨gk - 1,by omega⟩; rw [eL,hO.out.bi.noPick] at hrun; have hnone:=pK (r:=r) hR.out (by rw [← hrun,← hn.out]; exact hlt); replace hnone:=hid hnone; replace hrun:=hid hrun;go_ret2;exact qY.none (hb0.out.trans (hO.out.bel.mono hb0.out.size)) hnone.out
   ·obtain ⟨i,hpk,hin,hni,hpop⟩:=hO.out.bi.popped (by simp) hs.len
    (have q2:(((x0::hpr).length:Int) == 0)=false:=by simp; omega);obtain ⟨hq,hhq⟩:∃ hq,hq=(x0::hpr):=⟨_,rfl⟩; rw [← hhq] at q2 c5r hO hBk hhl;(have hq0:hq.length≠0:=by rw [hhq]; simp);have q2':decide ((hq.length:Int)=0)=false:=zO (by omega);(have q2'':¬ ((hq.length:Int)=0):=by omega);(have ta:∀ W,(Instr.typeAssert (.iface 3 (iv i)) 20 3 true).run Tryz.prog W=.ok (.tuple #[iv i,.bool true]) W:=fun _=>by kernel_rfl);replace hpop:=hid hpop; replace hpk:=hid hpk; replace hni:=hid hni; replace hhq:=hid hhq;go_wp2_with (go_at_call 27; refine (hlen.out _ _ _ _).mono ?_; rintro e w9 ⟨rfl,rfl⟩);(with_reducible refine hpop.out.mono ?_);rintro e w1 ⟨rfl,hp2,hv2,hI2,hF2⟩;(have hrow1:IO w1 (bQ tk) (.slice a5 tk.length c5):=hO.out.row.keep fun k hk=>hF2.block k (hO.out.row.lt hk) (hO.out.out k hk));have hB1:Below W0.heap.size W0 w1:=hO.out.bel.trans (hF2.to_below hO.out.bel.size fun k hk hg=>Nat.not_lt.2 (hO.out.gge k hg) hk); obtain ⟨v',w3,hap,⟨a6,c6',rfl⟩,⟨G2,hI3,hr3,hge3,hout3,hgge3⟩,hB3⟩:=OSt.push hI2 hrow1 hO.out.ge hO.out.out hO.out.gge hB1 (fun k hk=>zS (hS k hk) hb0.out.size) (by omega); have hrun:eL r.body gk bd tk=R:=hO.out.run; obtain ⟨f,rfl⟩:∃ f,gk=f+1:=⟨gk - 1,by omega⟩; rw [eL,hpk.out] at hrun; replace hrun:eL r.body f (k7 bd (aZ r.body i)) (tk++[i])=R:=hrun; obtain ⟨tk2,htk2⟩:∃ t,t=tk++[i]:=⟨_,rfl⟩;(have htl2:tk2.length=tk.length+1:=by rw [htk2]; simp);rw [← htk2] at hap hI3 hr3 hrun hge3 hout3; obtain ⟨m2,hm2⟩:∃ m,m=tk2.length:=⟨_,rfl⟩; rw [← hm2] at hap hr3 hge3 hout3; have hm2':=hm2.trans htl2; replace hm2:=hid hm2;have hin':i < r.body.length:=hin; obtain ⟨g,o,cs,hidx,-,hg,hc,hrt⟩:=hSb.out.at (P:=Tryz.prog) (t:=25) (by kernel_rfl) (fun _=>by kernel_rfl) (show r.body[i]? = some (aZ r.body i) from getD_some hin); obtain ⟨xa,xc,rfl,hSA⟩:=hrt; have hal:=hs.arg _ (h_ hin); have hav:=hid (hs.var _ (h_ hin)); obtain ⟨x,hx⟩:∃ x,x=aZ r.body i:=⟨_,rfl⟩; rw [← hx] at hSA hal hav hc hrun; have e0:w3.cell? ⟨g,o+0,none⟩=some (iv x.op):=(hB3.cell (p:=⟨g,o+0,none⟩) hg).trans (hc 0 _ rfl); have e1:w3.cell? ⟨g,o+1,none⟩=some (.bool x.nt):=(hB3.cell (p:=⟨g,o+1,none⟩) hg).trans (hc 1 _ rfl); have e2:w3.cell? ⟨g,o+2,none⟩=some (sv x.rel):=(hB3.cell (p:=⟨g,o+2,none⟩) hg).trans (hc 2 _ rfl);have e3:w3.cell? ⟨g,o+3,none⟩=some (.slice xa x.args.length xc):=(hB3.cell (p:=⟨g,o+3,none⟩) hg).trans (hc 3 _ rfl); rw [Nat.add_zero] at e0
    replace hidx:∀ kd W,(Instr.indexAt 25 (.slice ba n bc) (.int kd i)).run Tryz.prog W=.ok (.pointer (some ⟨g,o,none⟩)) W:=fun kd W=>by
     rw [hn.out]; exact hidx kd W
    have c6w:w3.cell? ⟨w.heap.size,6,none⟩=some (.slice ba n bc):=(aj (an hB3 hbn.out hwl)).trans rfl; have hb4:Below w3.heap.size w3 (w3.alloc (.cells (ap x.op x.nt x.rel (.slice xa x.args.length xc)) 24)):=(zN _ _).alloc (zM _) _; have hk4:=af w3 (.cells (ap x.op x.nt x.rel (.slice xa x.args.length xc)) 24); obtain ⟨w4,hw4⟩:∃ w4,w4=w3.alloc (.cells (ap x.op x.nt x.rel (.slice xa x.args.length xc)) 24):=⟨_,rfl⟩; rw [← hw4] at hb4 hk4; have hB4:=hid (hB3.trans (hb4.mono hB3.size)); have hI4:=hid (hI3.below hb4); have hr4:=hid (hr3.keep fun k hk=>hb4.block k (hr3.lt hk)); have l0:w4.cell? ⟨w3.heap.size,0,none⟩=some (iv x.op):=(aj hk4).trans rfl; have l1:w4.cell? ⟨w3.heap.size,1,none⟩=some (.bool x.nt):=(aj hk4).trans rfl;have c6x:w4.cell? ⟨w.heap.size,6,none⟩=some (.slice ba n bc):=(hb4.cell (p:=⟨w.heap.size,6,none⟩) (Aj w3 _ c6w)).trans c6w; have l3:w4.cell? ⟨g,o+3,none⟩=some (.slice xa x.args.length xc):=(hb4.cell (p:=⟨g,o+3,none⟩) (Aj w3 _ e3)).trans e3; replace hap:=hid hap; replace hI3:=hid hI3; replace hr3:=hid hr3; replace hB3:=hid hB3; replace hrun:=hid hrun; replace hrow1:=hid hrow1; replace hB1:=hid hB1; replace hge3:=hid hge3; replace hout3:=hid hout3; replace hgge3:=hid hgge3; replace htk2:=hid htk2; replace htl2:=hid htl2; replace hm2':=hid hm2'; replace hx:=hid hx; replace hw4:=hid hw4; replace hSA:=hid hSA; clear hc hI2 hF2 hb4 hk4 hpop hO;(go_upto_region 8 with (at_builtin; refine aU rfl (.tmp 38) (.tmp 40) rfl rfl rfl hap.out ?_));rw [← hw4.out]; obtain ⟨nb,hnb⟩:∃ nb,nb = !kJ x:=⟨_,rfl⟩; replace hnb:=hid hnb; clear e0 e1 e2 e3 c6w c5r c6 hbn' hBk
    go_cut [53] (fun v wx=>v=.bool nb/\wx=w4)
    case first =>
     by_cases ho:x.op=0
     ·rw [ho] at l0
      cases hnt:x.nt with
      | false =>
       rw [hnt] at l1;(have e:nb=false:=by rw [hnb.out]; unfold kJ; rw [hnt]; simp);subst e; replace ho:=hid ho; replace hnt:=hid hnt;go_wp2_with fail;go_meet
       case rel=>exact ⟨rfl,rfl⟩
      | true =>
       rw [hnt] at l1;(have e:nb=true:=by rw [hnb.out]; unfold kJ; rw [hnt,ho]; simp);subst e; replace ho:=hid ho; replace hnt:=hid hnt;go_wp2_with fail;go_meet
       case rel=>exact ⟨rfl,rfl⟩
     ·have e:nb=false:=by rw [hnb.out]; unfold kJ; simp [ho]
      subst e;go_wp2_with fail;go_meet
      case rel=>exact ⟨rfl,rfl⟩
    case rest =>
     obtain ⟨rfl,hwx⟩:=hcut; subst hwx
     cases nb with
     | true =>
      have hbv:k7 bd x=bd:=by unfold k7; rw [if_neg (by have:=hnb.out; intro e; rw [e] at this; cases this)]
      have hO5:=hid (show OSt w W0 K r.body S R f bd tk2 (.slice a6 m2 c6') G2 hp2 hv2 NB NU wc from ⟨hI4.out,hr4.out,hge3.out,hout3.out,hgge3.out,by have:=hrun.out; rw [hbv] at this; exact this,by have:=htl2.out; have:=hn.out; omega,hB4.out⟩); rw [hm2.out] at hO5; replace hbv:=hid hbv;go_wp2_with fail
      go_roundg f
      case measure=>omega
      case rel=>exact ⟨bd,tk2,a6,c6',G2,hp2,hv2,NB,by rw [hm2.out],by have:=htl2.out; omega,zV hNB (Ak _ (by have:=htl2.out; omega)),hO5⟩
     | false =>
      have hbv:k7 bd x=bd++el x:=by unfold k7; rw [if_pos (by have:=hnb.out; rcases e:kJ x with _ | _; rw [e] at this; cases this; rfl)]
      replace hbv:=hid hbv;go_wp2_with fail
      go_loopg [61] x.args.length (fun f2 v61 wr2=>∃ (k:Nat) (hp3:List Int) (hv3:Value) (NB3:Nat),v61=iv k/\k+f2=x.args.length/\NB3<=tk.length * 1048576+k/\Hid (BI G2 K r.body S (bd++((x.args.take k).filter fk).map Tg.var) tk2 hp3 hv3 NB3 NU wr2)/\Hid (IO wr2 (bQ tk2) (.slice a6 m2 c6'))/\Hid (Below W0.heap.size W0 wr2))
      case atStart=>exact ⟨0,hp2,hv2,NB,rfl,by omega,Nat.le_add_right_of_le hNB,by simp only [List.take_zero,List.filter_nil,List.map_nil,List.append_nil]; exact hI4,hr4,hB4⟩
      case round =>
       obtain ⟨k,hp3,hv3,NB3,rfl,hkf,hNB3,hI5,hr5,hB5⟩:=hrel; clear hI4 hr4 hB4 l0 l1 l3 c6x; by_cases hk:k < x.args.length
       ·have q3:decide ((k:Int) < (x.args.length:Int))=true:=zP (by omega)
        (have q4:IntKind.i64.wrap ((k:Int)+1)=((k+1:Nat):Int):=by rw [zX]; omega);obtain ⟨t,ht⟩:∃ t,x.args[k]? = some t:=⟨_,zR hk⟩; have htv:=hav.out t (zU ht); obtain ⟨g2,o2,cs2,hidx2,-,hg2,hc2,hrt2⟩:=(hSA.out.below bZ hB5.out).at (P:=Tryz.prog) (t:=22) (by kernel_rfl) (fun _=>by kernel_rfl) ht; obtain ⟨ta,tc,hrt2⟩:=hrt2; subst hrt2; have d0:wr.cell? ⟨g2,o2+0,none⟩=some (sv t.var):=hc2 0 _ rfl; have d1:wr.cell? ⟨g2,o2+1,none⟩=some (iv t.kind):=hc2 1 _ rfl; have d2:wr.cell? ⟨g2,o2+2,none⟩=some (sv t.vt):=hc2 2 _ rfl; have d3:wr.cell? ⟨g2,o2+3,none⟩=some (iv t.n):=hc2 3 _ rfl; have d4:wr.cell? ⟨g2,o2+4,none⟩=some (iv t.m):=hc2 4 _ rfl; have d5:wr.cell? ⟨g2,o2+5,none⟩=some (sv t.vs):=hc2 5 _ rfl;have d6:wr.cell? ⟨g2,o2+6,none⟩=some (.slice ta t.ln tc):=hc2 6 _ rfl; rw [Nat.add_zero] at d0; have hb6:Below wr.heap.size wr (wr.alloc (.cells (aR t ta tc) 63)):=(zN _ _).alloc (zM _) _; have hI6:=hI5.out.below hb6; have hr6:=hid (hr5.out.keep (w':=wr.alloc (.cells (aR t ta tc) 63)) fun k hk=>hb6.block k (hr5.out.lt hk)); have hB6:=hid (hB5.out.trans (hb6.mono hB5.out.size)); have hbd:=hid (xm G2 K r.body S (bd++((x.args.take k).filter fk).map Tg.var) tk2 hp3 hv3 NB3 NU t ta tc _ hI6 hs (fun v=>by rw [hU.out v,hn.out]) htv (by omega)); have hlv:=hid (g_ x k t ht); clear hc2 hI6;go_wp2_with fail;(with_reducible refine hbd.out.mono ?_);rintro e w7 ⟨rfl,hp7,hv7,hI7,hF7⟩; have hI7':=hid (show BI G2 K r.body S (bd++((x.args.take (k+1)).filter fk).map Tg.var) tk2 hp7 hv7 (NB3+1) NU w7 from by rw [hlv.out,← Ad]; exact hI7); have hr7:=hid (hr6.out.keep fun q hq=>hF7.block q (hr6.out.lt hq) (hout3.out q hq)); have hB7:=hid (hB6.out.trans (hF7.to_below hB6.out.size fun q hq hg=>Nat.not_lt.2 (hgge3.out q hg) hq)); clear hI7 hF7;go_wp2_with fail
        go_roundg (x.args.length - (k+1))
        case measure=>omega
        case rel=>exact ⟨k+1,hp7,hv7,NB3+1,rfl,by omega,Nat.succ_le_succ hNB3,hI7',hr7,hB7⟩
       ·have q3:decide ((k:Int) < (x.args.length:Int))=false:=zO (by omega)
        (have hbx:k7 bd x=bd++((x.args.take k).filter fk).map Tg.var:=by rw [hbv.out,List.take_of_length_le (by omega)]; rfl);have hO5:=hid (show OSt w W0 K r.body S R f (k7 bd x) tk2 (.slice a6 m2 c6') G2 hp3 hv3 NB3 NU wr from ⟨by rw [hbx]; exact hI5.out,hr5.out,hge3.out,hout3.out,hgge3.out,hrun.out,by have:=htl2.out; have:=hn.out; omega,hB5.out⟩); rw [hm2.out] at hO5; replace hbx:=hid hbx;go_wp2_with fail
        go_roundg f
        case measure=>omega
        case rel=>exact ⟨_,tk2,a6,c6',G2,hp3,hv3,NB3,by rw [hm2.out],by have:=htl2.out; omega,zV hNB3 (by have:=htl2.out; rw [this,Nat.succ_mul]; omega),hO5⟩
  ·have q1:decide ((tk.length:Int) < (n:Int))=false:=zO (by omega)
   have hrun:=hO.out.run
   have hgk:gk=0:=by omega
   rw [hgk,eL] at hrun
   have hR1:R.1=tk:=by rw [← hrun]
   have hR2:R.2=bd:=by rw [← hrun]
   obtain ⟨v0,v1,v2,v3,v4,v5,v6,-⟩:=eg hbn'.out; have hva:=hid (va r.head ha hc S wr (hSh.out.below bZ hO.out.bel) (fun k hk=>zS (zS (hS k hk) hb0.out.size) hO.out.bel.size) hl hv); replace hgk:=hid hgk; replace hrun:=hid hrun; clear v4 v5 c6 c5r
   go_wp2_with fail
   with_reducible refine hva.out.mono ?_
   rintro e w8 ⟨vv,rfl,hvr,hvge,hb8⟩; have hB8:=hid (hb0.out.trans ((hO.out.bel.trans (hb8.mono hO.out.bel.size)).mono hb0.out.size)); have hro:=hid (hO.out.row.keep fun k hk=>hb8.block k (hO.out.row.lt hk)); have hbi:=hO.out.bi.below hb8; have hgeo:=hid (fun k hk=>zV hb0.out.size (hO.out.ge k hk)); obtain ⟨⟨-,-,-⟩,-,hblk⟩:=hbi.hslice; have c1:w8.cell? ⟨K.B,1,none⟩=some (.map (some K.mb)):=(aj hblk).trans rfl; have hmb:=hid hbi.bnd; obtain ⟨av,cv,rfl,-,-⟩:=bp hvr; obtain ⟨vs,hvs⟩:∃ vs,vs=kL r.head:=⟨_,rfl⟩; rw [← hvs] at hvr
   have hvl:vs.length<=1048576:=by rw [hvs]; exact zV (by rw [← qV r.head _ (zM _)]; exact qU _ _) hl
   replace hvr:=hid hvr; rw [← hvs]; replace hvs:=hid hvs; clear hbi hblk hva hvge hb8 v0 v1 v2 v3 v6 hlen
   go_wp2_with fail
   go_loopg [79] vs.length (fun f v79 wr2=>∃ (k:Nat),v79=iv k/\k+f=vs.length/\wr2=w8/\Hid (∀ v∈vs.take k,v∈bd))
   case atStart=>exact ⟨0,rfl,by omega,rfl,hid fun v hv=>by simp at hv⟩
   case round =>
    obtain ⟨k,rfl,hkf,hww,hall⟩:=hrel; subst hww; by_cases hk:k < vs.length
    ·have q3:decide ((k:Int) < (vs.length:Int))=true:=zP (by omega)
     (have q4:IntKind.i64.wrap ((k:Int)+1)=((k+1:Nat):Int):=by rw [zX]; omega);obtain ⟨x,hx⟩:∃ x,vs[k]? = some x:=⟨_,zR hk⟩; obtain ⟨g,hidx,hcell⟩:=so_at hvr.out hx
     have hxl:x.length<=1048576:=by
      have hm:=zU hx; rw [hvs.out] at hm; have:=lK.1 hm; unfold el at this; obtain ⟨t,ht,rfl⟩:=List.mem_map.1 this; exact hv t (List.mem_filter.1 ht).1
     have hlk:(Instr.lookup 67 (.map (some K.mb)) (sv x) false).run Tryz.prog wr=.ok (.bool (decide (x∈bd))) wr:=by
      have:=hmb.out.look (Maps.string_keyed Tryz.underlying9) (t:=67) (e:=4) Tryz.underlying67 (z:=.bool false) (by kernel_rfl) (bH x hxl) trivial; rw [this]; show (Result.ok ((if x∈bd then some (Value.bool true) else none).getD (.bool false)) wr:Result Value)=_; by_cases e:x∈bd
      ·rw [if_pos e,zP e]; rfl
      ·rw [if_neg e,zO e]; rfl
     by_cases hb:x∈bd
     ·rw [zP hb] at hlk
      have hall2:=hid (show ∀ v∈vs.take (k+1),v∈bd from fun v hv=>by
       rw [List.take_add_one,hx] at hv; rcases List.mem_append.1 hv with hv | hv
       ·exact hall.out v hv
       ·simp at hv; subst hv; exact hb)
      replace hb:=hid hb;go_wp2_with fail
      go_roundg (vs.length - (k+1))
      case measure=>omega
      case rel=>exact ⟨k+1,rfl,by omega,rfl,hall2⟩
     ·rw [zO hb] at hlk
      have hnone:=hid (rE (r:=r) hR.out (v:=x) (by rw [← hvs.out]; exact zU hx) (by rw [hR2]; exact hb)); replace hb:=hid hb;go_wp2_with fail;(try rw [Exit.noGoto_ret]);go_ret2;exact qY.none hB8.out hnone.out
    ·have q3:decide ((k:Int) < (vs.length:Int))=false:=zO (by omega)
     have hdone:=hid (rF (r:=r) hR.out (by rw [hR1,← hn.out]; omega) (fun v hv=>by
      rw [← hvs.out] at hv; rw [hR2]
      exact hall.out v (by rw [List.take_of_length_le (by omega)]; exact hv)))
     rw [hR1] at hdone;go_wp2_with fail;(try rw [Exit.noGoto_ret]);go_ret2;exact qY.some hB8.out hdone.out hro.out hgeo.out
end Go.Proofs.YtffdpoifdahadaaGreatDoor
