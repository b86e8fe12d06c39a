/- plan, walks: first. -/
import Derived.Test.YtfejagpjahoibaaGreatDoorPlT
set_option linter.unusedVariables false
set_option linter.unusedSimpArgs false
namespace Go.Proofs.YtfejagpjahoibaaGreatDoor
open Go.RowKit
open Go.Lib (hid)
/-- a grid that lies below B -/
structure GB.Low (G:GB) (B:Nat):Prop where
 gb:G.gb < B
 rb:G.rb < B
 kb:G.kb < B
 ob:G.ob < B
 C:∀ k,G.C k→k < B
theorem GM.lowB {G:GB} {g:Pl.Gr} {w w':World} {B:Nat} (h:GM G g w) (hb:Below B w w') (hl:G.Low B):GM G g w' :=
 ⟨(hb.block _ hl.gb).trans h.blk,h.cel.move goodRowI fun k hk hs=>⟨hs,hb.block _ (hl.C k hs)⟩,h.rows.keep (hb.block _ hl.rb),h.cols.keep (hb.block _ hl.kb),h.own.keep (hb.block _ hl.ob),h.d1,h.d2,h.d3,h.d4,h.oa,h.d5⟩
/-- first's memory: the grid, its picks, its fixed columns -/
structure FM (G:GB) (g:Pl.Gr) (m:Nat) (w0:World) (pb xb:Nat) (own pick:Nat→Int) (fx:Nat→Bool) (w:World):Prop where
 gm:GM G (Pl.withOwn g own) w
 pk:IB pb m pick w
 fx:BB xb g.n fx w
 f:Fr (fun k=>k=G.ob) w0 w
 ge:w0.heap.size≤pb∧pb < xb
 lw:G.Low w0.heap.size
theorem FM.below {G:GB} {g:Pl.Gr} {m:Nat} {w0:World} {pb xb:Nat} {own pick:Nat→Int} {fx:Nat→Bool} {w w':World} (h:FM G g m w0 pb xb own pick fx w) (hb:Below w.heap.size w w'):FM G g m w0 pb xb own pick fx w' :=
 ⟨h.gm.below hb,h.pk.below hb,h.fx.below hb,h.f.trans (Fr.of_below hb _),h.ge,h.lw⟩
theorem FM.setP {G:GB} {g:Pl.Gr} {m:Nat} {w0:World} {pb xb:Nat} {own pick:Nat→Int} {fx:Nat→Bool} {w:World} (h:FM G g m w0 pb xb own pick fx w) {i:Nat} (hi:i < m) (v:Int):FM G g m w0 pb xb own (Pl.upd pick i v) fx (w.setCell ⟨pb,i,none⟩ (iv v)) :=
 have a:=h.ge; have hb:Below w0.heap.size w (w.setCell ⟨pb,i,none⟩ (iv v)):=((Fr.refl (one pb) w).setCell (p:=⟨pb,i,none⟩) (Or.inl rfl) _).to_below h.f.size (fun k hk e=>by unfold one at e; omega)
 ⟨h.gm.lowB hb h.lw,h.pk.set hi v,h.fx.keep (heap_setCell_other _ (by omega)),h.f.setCell (p:=⟨pb,i,none⟩) (Or.inr a.1) _,a,h.lw⟩
theorem FM.setX {G:GB} {g:Pl.Gr} {m:Nat} {w0:World} {pb xb:Nat} {own pick:Nat→Int} {fx:Nat→Bool} {w:World} (h:FM G g m w0 pb xb own pick fx w) {i:Nat} (hi:i < g.n) (v:Bool):FM G g m w0 pb xb own pick (Pl.upd fx i v) (w.setCell ⟨xb,i,none⟩ (.bool v)) :=
 have a:=h.ge; have hb:Below w0.heap.size w (w.setCell ⟨xb,i,none⟩ (.bool v)):=((Fr.refl (one xb) w).setCell (p:=⟨xb,i,none⟩) (Or.inl rfl) _).to_below h.f.size (fun k hk e=>by unfold one at e; omega)
 ⟨h.gm.lowB hb h.lw,h.pk.keep (heap_setCell_other _ (by omega)),h.fx.set hi v,h.f.setCell (p:=⟨xb,i,none⟩) (Or.inr (by show w0.heap.size≤xb; omega)) _,a,h.lw⟩
theorem FM.turned {G:GB} {g:Pl.Gr} {m:Nat} {w0:World} {pb xb:Nat} {own own' pick:Nat→Int} {fx:Nat→Bool} {w w':World} (h:FM G g m w0 pb xb own pick fx w) (hg:GM G (Pl.withOwn g own') w') (hf:Fr (fun k=>k=G.ob) w w'):FM G g m w0 pb xb own' pick fx w' :=
 have a:=h.ge; have b:=h.lw.ob
 ⟨hg,h.pk.keep (hf.block _ h.pk.lt (by omega)),h.fx.keep (hf.block _ h.fx.lt (by omega)),h.f.trans hf,a,h.lw⟩
theorem GN.withOwn {g:Pl.Gr} (h:GN g) (own:Nat→Int):GN (Pl.withOwn g own):=⟨h.n,h.V,h.rows,h.cols⟩
theorem upd_upd (f:Nat→Int) (i:Nat) (a b:Int):Pl.upd (Pl.upd f i a) i b=Pl.upd f i b:=by
 funext j
 by_cases e:j=i
 ·subst e; rw [Pl.upd_same,Pl.upd_same]
 ·rw [Pl.upd_other _ _ e,Pl.upd_other _ _ e,Pl.upd_other _ _ e]
set_option maxHeartbeats 40000000 in
set_option maxRecDepth 100000 in
theorem first_any (G:GB) (g:Pl.Gr) (m k:Nat) (w:World) (h:GM G g w) (hn:GN g) (hg:Pl.Full g) (hmk:g.n=m+k) (hV:∀ r c,r < m→k≤c→c < g.n→0≤g.V r c→c=k+r) (hlw:G.Low w.heap.size) :
  Calls Tryz.prog 19 #[pt G.gb,iv m,iv k] w fun e w'=>∃ pb,e=.returned (.slice (some ⟨pb,0,none⟩) m m)∧w.heap.size≤pb∧IB pb m (Pl.firstF g k m).pick w'∧GM G (Pl.withOwn g (Pl.firstF g k m).own) w'∧Fr (fun k=>k=G.ob) w w':=by
 obtain ⟨f0,f1,f2,f3,f4⟩:=h.fields0; have hn64:=hn.n
 have hm64:m≤64:=by omega
 have h1b:Below w.heap.size w (w.alloc (.cells (Array.replicate m (iv 0)) 3 (0,0))):=(Below.refl _ w).alloc (Nat.le_refl _) _
 have s1:(w.alloc (.cells (Array.replicate m (iv 0)) 3 (0,0))).heap.size=w.heap.size+1:=by simp
 have i1:=ib_made w m; have m1:=pmkInts m (by omega) w; obtain ⟨W1,hW1⟩:∃ W,W=w.alloc (.cells (Array.replicate m (iv 0)) 3 (0,0)):=⟨_,rfl⟩; rw [← hW1] at h1b s1 i1 m1; have h2b:Below W1.heap.size W1 (W1.alloc (.cells (Array.replicate g.n (.bool false)) 4 (0,0))):=(Below.refl _ W1).alloc (Nat.le_refl _) _; have i2:=bb_made W1 g.n; have m2:=pmkBools g.n (by omega) W1; obtain ⟨W2,hW2⟩:∃ W,W=W1.alloc (.cells (Array.replicate g.n (.bool false)) 4 (0,0)):=⟨_,rfl⟩; rw [← hW2] at h2b i2 m2; obtain ⟨a0,-⟩:=(h.below h1b).fields0; have hFM:FM G g m w w.heap.size W1.heap.size g.own (fun _=>0) (fun _=>false) W2:=⟨((h.below h1b).below h2b),i1.below h2b,i2,(Fr.of_below h1b _).trans (Fr.of_below h2b _),⟨Nat.le_refl _,by omega⟩,hlw⟩; obtain ⟨pb,hpb⟩:∃ x,x=w.heap.size:=⟨_,rfl⟩
 obtain ⟨xb,hxb⟩:∃ x,x=W1.heap.size:=⟨_,rfl⟩
 replace hFM:FM G g m w pb xb g.own (fun _=>0) (fun _=>false) W2:=by rw [hpb,hxb]; exact hFM
 rw [← hpb] at m1; rw [← hxb] at m2; replace hFM:=hid hFM; replace hW1:=hid hW1; replace hW2:=hid hW2; replace hpb:=hid hpb; replace hxb:=hid hxb; replace h:=hid h; replace hn:=hid hn; replace hg:=hid hg; replace hV:=hid hV; replace hlw:=hid hlw; replace hmk:=hid hmk; clear h1b h2b i1 i2 s1
 go_enter Tryz.func19,Tryz.ntmps19
 go_wp2_with fail
 go_loopg [19] m (fun f v19 wr=>∃ r:Nat,v19=iv r∧r+f=m∧Hid (FM G g m w pb xb (Pl.firstF g k r).own (Pl.firstF g k r).pick (Pl.firstF g k r).fx wr))
 case atStart=>exact ⟨0,rfl,by omega,hFM⟩
 case round =>
  obtain ⟨r,rfl,hrf,hM⟩:=hrel; clear hFM a0 m1 m2; obtain ⟨s,hs⟩:∃ s,s=Pl.firstF g k r:=⟨_,rfl⟩; rw [← hs] at hM; by_cases hr:r < m
  ·have q1:decide ((r:Int) < (m:Int))=true:=decide_eq_true (by omega)
   have q5:IntKind.i64.wrap ((r:Int)+1)=((r+1:Nat):Int):=by rw [IntKind.wrap_i64]; omega
   have hFI:=Pl.first_ok hg.out hmk.out hV.out r (by omega); rw [← hs] at hFI
   have hstep:Pl.firstF g k (r+1)=⟨(Pl.tryC (Pl.withOwn g s.own) r s.fx k).1,Pl.upd s.pick r (Pl.tryC (Pl.withOwn g s.own) r s.fx k).2,if 0≤(Pl.tryC (Pl.withOwn g s.own) r s.fx k).2 then Pl.upd s.fx (Pl.tryC (Pl.withOwn g s.own) r s.fx k).2.toNat true else Pl.upd s.fx (k+r) true⟩:=by rw [hs]; rfl
   have k1:=fun kd W=>ib_idx (g:=pb) (n:=m) (cap:=m) hr kd W
   have c1:=hM.out.pk.cell hr; have c2:=hM.out.pk.free r; have hM1:=hid (hM.out.setP hr (-1)); replace hs:=hid hs; replace hFI:=hid hFI; replace hstep:=hid hstep; obtain ⟨R,hR⟩:∃ R,R=Pl.tryC (Pl.withOwn g s.own) r s.fx k:=⟨_,rfl⟩; rw [← hR] at hstep; replace hstep:=hid hstep; replace hR:=hid hR
   have hrn:r < g.n:=by have:=hmk.out; omega
   go_upto_block 2 with (fail)
   go_cut [19] from 19 to 65 (fun v19 wx=>v19=iv r∧Hid (FM G g m w pb xb R.1 (Pl.upd s.pick r R.2) (if 0≤R.2 then Pl.upd s.fx R.2.toNat true else s.fx) wx))
   case first =>
    go_wp2_with fail
    go_loopg [26] k (fun f v26 wr2=>∃ c:Nat,v26=iv c∧c+f=k∧Hid ((Pl.tryC (Pl.withOwn g s.own) r s.fx c).2 = -1)∧Hid ((Pl.tryC (Pl.withOwn g s.own) r s.fx c).1=s.own)∧Hid (FM G g m w pb xb s.own (Pl.upd s.pick r (-1)) s.fx wr2))
    case atStart=>exact ⟨0,rfl,by omega,hid rfl,hid rfl,hM1⟩
    case round =>
     obtain ⟨c,rfl,hcf,ht2,ht1,hN⟩:=hrel; clear hM1 hM; by_cases hc:c < k
     ·have q6:decide ((c:Int) < (k:Int))=true:=decide_eq_true (by omega)
      have q7:IntKind.i64.wrap ((c:Int)+1)=((c+1:Nat):Int):=by have:=hmk.out; rw [IntKind.wrap_i64]; omega
      have hcn:c < g.n:=by have:=hmk.out; omega
      have hst:Pl.tryC (Pl.withOwn g s.own) r s.fx (c+1)=if (!s.fx c && Pl.tightB (Pl.withOwn g s.own) r c && (Pl.turnF (Pl.withOwn g s.own) r c s.fx).1)=true then ((Pl.turnF (Pl.withOwn g s.own) r c s.fx).2,(c:Int)) else Pl.tryC (Pl.withOwn g s.own) r s.fx c:=by
       have e9:¬ 0≤(Pl.tryC (Pl.withOwn g s.own) r s.fx c).2:=by rw [ht2.out]; decide
       rw [Pl.tryC,if_neg e9,ht1.out]; rfl
      have k2:=fun kd W=>bb_idx (g:=xb) (n:=g.n) (cap:=g.n) hcn kd W
      have d1:=hN.out.fx.cell hcn; obtain ⟨fc,hfc⟩:∃ b,b=s.fx c:=⟨_,rfl⟩; rw [← hfc] at d1 hst
      cases fc with
      | true =>
       rw [if_neg (by simp)] at hst; have ht2':=hid (show (Pl.tryC (Pl.withOwn g s.own) r s.fx (c+1)).2 = -1 from by rw [hst]; exact ht2.out); have ht1':=hid (show (Pl.tryC (Pl.withOwn g s.own) r s.fx (c+1)).1=s.own from by rw [hst]; exact ht1.out); replace hst:=hid hst; replace hfc:=hid hfc
       go_wp2_with fail
       go_roundg (k - (c+1))
       case measure=>omega
       case rel=>exact ⟨c+1,rfl,by omega,ht2',ht1',hN⟩
      | false =>
       have htg:=hid (tight_any G (Pl.withOwn g s.own) r c _ hN.out.gm (hn.out.withOwn s.own) hrn hcn); obtain ⟨tb,htb⟩:∃ b,b=Pl.tightB (Pl.withOwn g s.own) r c:=⟨_,rfl⟩; rw [← htb] at htg hst
       cases tb with
       | false =>
        rw [if_neg (by simp)] at hst; have ht2':=hid (show (Pl.tryC (Pl.withOwn g s.own) r s.fx (c+1)).2 = -1 from by rw [hst]; exact ht2.out); have ht1':=hid (show (Pl.tryC (Pl.withOwn g s.own) r s.fx (c+1)).1=s.own from by rw [hst]; exact ht1.out); replace hst:=hid hst; replace hfc:=hid hfc; replace htb:=hid htb
        go_wp2_with (go_at_call 49; refine htg.out.mono ?_; rintro e w1 ⟨rfl,hbw⟩; replace hbw:=hid hbw)
        go_roundg (k - (c+1))
        case measure=>omega
        case rel=>exact ⟨c+1,rfl,by omega,ht2',ht1',hid (hN.out.below hbw.out)⟩
       | true =>
        have htu:=hid (fun (w1:World) (hN1:FM G g m w pb xb s.own (Pl.upd s.pick r (-1)) s.fx w1)=>turn_any G (Pl.withOwn g s.own) r c xb g.n s.fx w1 hN1.gm (hn.out.withOwn s.own) hFI.out.ful hrn hcn hfc.symm htb.symm hN1.fx); obtain ⟨ub,hub⟩:∃ b,b=(Pl.turnF (Pl.withOwn g s.own) r c s.fx).1:=⟨_,rfl⟩; obtain ⟨uo,huo⟩:∃ b,b=(Pl.turnF (Pl.withOwn g s.own) r c s.fx).2:=⟨_,rfl⟩; rw [← hub,← huo] at htu hst
        cases ub with
        | false =>
         rw [if_neg (by simp)] at hst; have huo2:uo=s.own:=huo.trans (Pl.turn_no hub.symm); rw [huo2] at htu; have ht2':=hid (show (Pl.tryC (Pl.withOwn g s.own) r s.fx (c+1)).2 = -1 from by rw [hst]; exact ht2.out); have ht1':=hid (show (Pl.tryC (Pl.withOwn g s.own) r s.fx (c+1)).1=s.own from by rw [hst]; exact ht1.out); replace hst:=hid hst; replace hfc:=hid hfc; replace htb:=hid htb; replace hub:=hid hub; replace huo:=hid huo; replace huo2:=hid huo2
         go_wp2_with (first | (go_at_call 49; refine htg.out.mono ?_; rintro e w1 ⟨rfl,hbw⟩; have hN1:=hid (hN.out.below hbw); replace hbw:=hid hbw) | (go_at_call 50; refine (htu.out _ hN1.out).mono ?_; rintro e w2 ⟨rfl,hg2,hf2⟩; have hN2:=hid (hN1.out.turned hg2 hf2); clear hg2; replace hf2:=hid hf2))
         go_roundg (k - (c+1))
         case measure=>omega
         case rel=>exact ⟨c+1,rfl,by omega,ht2',ht1',hN2⟩
        | true =>
         rw [if_pos (by simp)] at hst
         have hRe:R=(uo,(c:Int)):=by
          have h9:=Pl.tryC_stop (g:=Pl.withOwn g s.own) (r:=r) (fx:=s.fx) (c:=c+1) (by rw [hst]; show (0:Int)≤(c:Int); omega) (k - (c+1)); rw [show c+1+(k - (c+1))=k from by omega,hst] at h9; rw [hR.out]; exact h9
         have hEnd:=hid (fun W (hW:FM G g m w pb xb uo (Pl.upd (Pl.upd s.pick r (-1)) r (c:Int)) (Pl.upd s.fx c true) W)=>(show FM G g m w pb xb R.1 (Pl.upd s.pick r R.2) (if 0≤R.2 then Pl.upd s.fx R.2.toNat true else s.fx) W from by
          rw [hRe,if_pos (show (0:Int)≤(c:Int) from by omega)]; rw [upd_upd] at hW
          exact hW))
         replace hst:=hid hst; replace hfc:=hid hfc; replace htb:=hid htb; replace hub:=hid hub; replace huo:=hid huo; replace hRe:=hid hRe
         go_wp2_with (first | (go_at_call 49; refine htg.out.mono ?_; rintro e w1 ⟨rfl,hbw⟩; have hN1:=hid (hN.out.below hbw); replace hbw:=hid hbw) | (go_at_call 50; refine (htu.out _ hN1.out).mono ?_; rintro e w2 ⟨rfl,hg2,hf2⟩; have hN2:=hN1.out.turned hg2 hf2; have z1:=hN2.pk.cell hr; have z2:=hN2.pk.free r; have hN3:=hN2.setP hr (c:Int); have z3:=hN3.fx.cell hcn; have z4:=hN3.fx.free c; have hN4:=hid (hEnd.out _ (hN3.setX hcn true)); replace hN2:=hid hN2; replace hN3:=hid hN3; clear hg2; replace hf2:=hid hf2))
         go_meet
         case rel=>exact ⟨rfl,hN4⟩
     ·have q6:decide ((c:Int) < (k:Int))=false:=decide_eq_false (by omega)
      have hck:c=k:=by omega
      subst hck
      have hEnd:=hid (show FM G g m w pb xb R.1 (Pl.upd s.pick r R.2) (if 0≤R.2 then Pl.upd s.fx R.2.toNat true else s.fx) _ from by
       rw [hR.out,ht2.out,ht1.out,if_neg (by decide)]
       exact hN.out)
      go_wp2_with fail
      go_meet
      case rel=>exact ⟨rfl,hEnd⟩
   case rest =>
    obtain ⟨rfl,hN⟩:=hcut; have d1:=hN.out.pk.cell hr; rw [Pl.upd_same] at d1; obtain ⟨tv,htv⟩:∃ z,z=R.2:=⟨_,rfl⟩; rw [← htv] at d1; by_cases h0:tv < 0
    ·have r0:decide (tv < 0)=true:=decide_eq_true h0
     have hkn:k+r < g.n:=by have:=hmk.out; omega
     have w1:IntKind.i64.wrap ((k:Int)+(r:Int))=((k+r:Nat):Int):=by rw [IntKind.wrap_i64]; have:=hmk.out; omega
     have k2:=fun kd W=>bb_idx (g:=xb) (n:=g.n) (cap:=g.n) hkn kd W
     have hN':=hN.out; rw [if_neg (by omega)] at hN'; have d2:=hN'.fx.cell hkn; have d3:=hN'.fx.free (k+r)
     have hE:=hid (show FM G g m w pb xb (Pl.firstF g k (r+1)).own (Pl.firstF g k (r+1)).pick (Pl.firstF g k (r+1)).fx _ from by
      rw [hstep.out,if_neg (by omega)]
      exact hN'.setX hkn true)
     replace hN':=hid hN'; replace htv:=hid htv
     go_wp2_with fail
     go_roundg (m - (r+1))
     case measure=>omega
     case rel=>exact ⟨r+1,rfl,by omega,hE⟩
    ·have r0:decide (tv < 0)=false:=decide_eq_false h0
     have hE:=hid (show FM G g m w pb xb (Pl.firstF g k (r+1)).own (Pl.firstF g k (r+1)).pick (Pl.firstF g k (r+1)).fx _ from by
      rw [hstep.out,if_pos (by omega)]; have:=hN.out; rw [if_pos (by omega)] at this
      exact this)
     replace htv:=hid htv
     go_wp2_with fail
     go_roundg (m - (r+1))
     case measure=>omega
     case rel=>exact ⟨r+1,rfl,by omega,hE⟩
  ·have q1:decide ((r:Int) < (m:Int))=false:=decide_eq_false (by omega)
   have hrm:r=m:=by omega
   subst hrm; rw [hs] at hM
   go_wp2_with fail
   go_ret; exact ⟨pb,rfl,by rw [hpb.out]; exact Nat.le_refl _,hM.out.pk,hM.out.gm,hM.out.f⟩
end Go.Proofs.YtfejagpjahoibaaGreatDoor
