/- plan, walks: proves. -/
import Derived.Test.YtfejagpjahoibaaGreatDoorPlP
set_option linter.unusedVariables false
set_option linter.unusedSimpArgs false
namespace Go.Proofs.YtfejagpjahoibaaGreatDoor
open Go.RowKit
open Go.Lib (hid)
/-- a line of the grid -/
theorem GM.line {G:GB} {g:Pl.Gr} {w:World} (h:GM G g w) {r:Nat} (hr:r < g.n) :
  ∃ g1 o1 a cp,(∀ kd W,(Instr.indexAt 59 (.slice G.ca g.n G.cc) (.int kd r)).run Tryz.prog W=.ok (.pointer (some ⟨g1,o1,none⟩)) W)∧w.cell? ⟨g1,o1,none⟩=some (.slice a g.n cp) ∧
   ∀ c,c < g.n→∃ g2 o2,(∀ kd W,(Instr.indexAt 29 (.slice a g.n cp) (.int kd c)).run Tryz.prog W=.ok (.pointer (some ⟨g2,o2,none⟩)) W)∧g2 < w.heap.size∧w.cell? ⟨g2,o2,none⟩=some (iv (g.V r c)):=by
 obtain ⟨g1,o1,cs,h1,h2,h3,h4,v,rfl,h5⟩:=h.cel.at (P:=Tryz.prog) (t:=59) (by kernel_rfl) (fun _=>by kernel_rfl) (lines_at hr); obtain ⟨a,cp,rfl,-⟩:=h5.slice; rw [List.length_map,List.length_range] at h5 h4; have e1:=h4 0 _ rfl; rw [Nat.add_zero] at e1; refine ⟨g1,o1,a,cp,h1,e1,fun c hc=>?_⟩; obtain ⟨g2,o2,cs2,k1,k2,k3,k4,k5⟩:=h5.at (P:=Tryz.prog) (t:=29) (by kernel_rfl) (fun _=>by kernel_rfl) (line_at hc); have e2:=k4 0 (iv (g.V r c)) (by rw [show cs2=[iv (g.V r c)] from k5]; rfl); rw [Nat.add_zero] at e2; exact ⟨g2,o2,k1,k3,e2⟩
/-- what the certificate says -/
def ProvesP (g:Pl.Gr) (wt:Int) (lr lc:List Int):Prop:=lr.length=g.n∧lc.length=g.n∧(∀ x∈lr,-1125899906842624≤x∧x≤1125899906842624)∧(∀ x∈lc,-1125899906842624≤x∧x≤1125899906842624) ∧
 (∀ r c,r < g.n→c < g.n→0≤g.V r c→lr.getD r 0+lc.getD c 0≤g.V r c)∧Pl.sumL lr+Pl.sumL lc=wt
def PvPost (g:Pl.Gr) (wt:Int) (lr lc:List Int) (w:World) (e:Ending) (w':World):Prop:=∃ b:Bool,e=.returned (.bool b)∧(b=true ↔ ProvesP g wt lr lc)∧Below w.heap.size w w'
theorem PvPost.no {g:Pl.Gr} {wt:Int} {lr lc:List Int} {w w':World} (h:¬ ProvesP g wt lr lc) (hb:Below w.heap.size w w'):PvPost g wt lr lc w (.returned (.bool false)) w':=⟨false,rfl,⟨(fun e=>by cases e),fun e=>absurd e h⟩,hb⟩
theorem PvPost.is {g:Pl.Gr} {wt:Int} {lr lc:List Int} {w w':World} {b:Bool} (h:b=true ↔ ProvesP g wt lr lc) (hb:Below w.heap.size w w'):PvPost g wt lr lc w (.returned (.bool b)) w':=⟨b,rfl,h,hb⟩
/-- an int of a row -/
theorem sumL_take {l:List Int} {k:Nat} {x:Int} (h:l[k]? = some x):Pl.sumL (l.take (k+1))=Pl.sumL (l.take k)+x:=by
 rw [List.take_add_one,h,Option.toList_some,Pl.sumL_append]; show Pl.sumL (l.take k)+(x+0)=_; omega
theorem sumL_bnd:∀ {l:List Int},(∀ x∈l,-1125899906842624≤x∧x≤1125899906842624)→-(1125899906842624 * (l.length:Int))≤Pl.sumL l∧Pl.sumL l≤1125899906842624 * (l.length:Int)
 | [],_=>by simp [Pl.sumL]
 | y::l,h=>by
  have h1:=sumL_bnd (l:=l) fun x hx=>h x (List.mem_cons_of_mem _ hx)
  have h2:=h y List.mem_cons_self; show _≤y+Pl.sumL l∧y+Pl.sumL l≤_; rw [List.length_cons]; constructor <;> omega
/-- what is known when i lists are summed up -/
def PvS (lr lc:List Int) (i:Nat) (tot:Int):Prop:=(1≤i→∀ x∈lr,-1125899906842624≤x∧x≤1125899906842624)∧(2≤i→∀ x∈lc,-1125899906842624≤x∧x≤1125899906842624)∧tot=(if 1≤i then Pl.sumL lr else 0)+(if 2≤i then Pl.sumL lc else 0)
theorem slI {S:Foot} {w:World} {l:List Int} {a:Option Addr} {n cap i:Nat} (h:SlR 1 IntR S w l (.slice a n cap)) {x:Int} (hi:l[i]? = some x) :
  ∃ g o,(∀ kd W,(Instr.indexAt 29 (.slice a n cap) (.int kd i)).run Tryz.prog W=.ok (.pointer (some ⟨g,o,none⟩)) W)∧g < w.heap.size∧w.cell? ⟨g,o,none⟩=some (iv x):=by
 obtain ⟨g,o,cs,h1,h2,h3,h4,h5⟩:=h.at (P:=Tryz.prog) (t:=29) (by kernel_rfl) (fun _=>by kernel_rfl) hi; have e:=h4 0 (iv x) (by rw [show cs=[iv x] from h5]; rfl); rw [Nat.add_zero] at e; exact ⟨g,o,h1,h3,e⟩
set_option maxHeartbeats 40000000 in
set_option maxRecDepth 100000 in
theorem proves_any (G:GB) (g:Pl.Gr) (wt:Int) (lr lc:List Int) (S:Foot) (vr vc:Value) (w:World) (h:GM G g w) (hn:GN g) (hr:SlR 1 IntR S w lr vr) (hc:SlR 1 IntR S w lc vc) :
  Calls Tryz.prog 39 #[pt G.gb,iv wt,vr,vc] w (PvPost g wt lr lc w):=by
 obtain ⟨f0,f1,f2,f3,f4⟩:=h.fields0; obtain ⟨ra,rc,rfl,-⟩:=hr.slice; obtain ⟨ca,cc,rfl,-⟩:=hc.slice; have hA:=hid (fun n=>below_drewM (Below.refl w.heap.size w) n); by_cases hlr:lr.length=g.n
 ·by_cases hlc:lc.length=g.n
  ·have q0:((lr.length:Int) != (g.n:Int))=false:=by simp; omega
   have q1:decide ((lr.length:Int)=(g.n:Int))=true:=decide_eq_true (by omega)
   have q2:((lr.length:Int) == (g.n:Int))=true:=by simp; omega
   have q3:((lr.length:Int)=(g.n:Int)):=by omega
   have q4:((lc.length:Int) != (g.n:Int))=false:=by simp; omega
   have q5:decide ((lc.length:Int)=(g.n:Int))=true:=decide_eq_true (by omega)
   have q6:((lc.length:Int) == (g.n:Int))=true:=by simp; omega
   have hL:=hid hlr; have hL2:=hid hlc; have hcw:=hid hc; have hrw:=hid hr; have hq3:=hid q3; clear q3 hlr hlc hr hc
   have ix0:∀ a b W,(Instr.index 136 (.agg #[a,b]) (iv 0)).run Tryz.prog W=.ok a W:=fun _ _ _=>by kernel_rfl
   have ix1:∀ a b W,(Instr.index 136 (.agg #[a,b]) (iv 1)).run Tryz.prog W=.ok b W:=fun _ _ _=>by kernel_rfl
   replace h:=hid h; replace hn:=hid hn
   go_enter Tryz.func39,Tryz.ntmps39
   go_wp2_with fail
   go_loopg [37,9] 2 (fun f v37 v9 wr=>∃ (i:Nat) (tot:Int),v37=iv i∧v9=iv tot∧i+f=2∧Hid (PvS lr lc i tot)∧wr=w)
   case atStart=>exact ⟨0,0,rfl,rfl,by omega,hid ⟨fun hh=>absurd hh (by omega),fun hh=>absurd hh (by omega),by simp⟩,rfl⟩
   case round =>
    obtain ⟨i,tot,rfl,rfl,hif,hPS,hwr⟩:=hrel; have hwr2:=hwr.symm; subst hwr2; clear hwr
    have hi:i=0∨i=1∨i=2:=by omega
    have htb:Hid (-(1125899906842624 * 128)≤tot∧tot≤1125899906842624 * 128):=by
     obtain ⟨z1,z2,z3⟩:=hPS.out; have h5:=hL.out; have h7:=hL2.out; have h6:=hn.out.n; rcases hi with rfl | rfl | rfl
     ·have z4:tot=0:=by rw [z3]; simp
      exact hid ⟨by omega,by omega⟩
     ·have z4:tot=Pl.sumL lr:=by rw [z3]; simp
      have:=sumL_bnd (z1 (by omega)); exact hid ⟨by omega,by omega⟩
     ·have z4:tot=Pl.sumL lr+Pl.sumL lc:=by rw [z3]; simp
      have:=sumL_bnd (z1 (by omega)); have:=sumL_bnd (z2 (by omega)); exact hid ⟨by omega,by omega⟩
    rcases hi with rfl | rfl | rfl
    ·have p0:decide (((0:Nat):Int) < 2)=true:=rfl
     have hcell:=fun (k:Nat) (x:Int) (hx:lr[k]? = some x)=>slI hrw.out hx
     replace hcell:=hid hcell
     go_wp2_with fail
     go_loopg [42,9] lr.length (fun f v42 v9 wr2=>∃ (k:Nat) (t2:Int),v42=iv k∧v9=iv t2∧k+f=lr.length∧Hid (t2=tot+Pl.sumL (lr.take k))∧Hid (∀ x∈lr.take k,-1125899906842624≤x∧x≤1125899906842624)∧wr2=w)
     case atStart=>exact ⟨0,tot,rfl,rfl,by omega,hid (by simp [Pl.sumL]),hid (by simp),rfl⟩
     case round =>
      obtain ⟨k,t2,rfl,rfl,hkf,ht2,hbd,hwr⟩:=hrel; have hwr2:=hwr.symm; subst hwr2; clear hwr; by_cases hk:k < lr.length
      ·have p1:decide ((k:Int) < (lr.length:Int))=true:=decide_eq_true (by omega)
       have p2:IntKind.i64.wrap ((k:Int)+1)=((k+1:Nat):Int):=by rw [IntKind.wrap_i64]; have:=hn.out.n; have:=hL.out; omega
       obtain ⟨x,hx⟩:∃ x,lr[k]? = some x:=⟨_,List.getElem?_eq_getElem hk⟩; obtain ⟨g1,o1,i1,-,e1⟩:=hcell.out k x hx; have hxm:=List.mem_of_getElem? hx; by_cases hx1:x < -1125899906842624
       ·have p3:decide (x < -1125899906842624)=true:=decide_eq_true hx1
        have hno:=hid (fun (W:World) (hb:Below w.heap.size w W)=>PvPost.no (w:=w) (w':=W) (g:=g) (wt:=wt) (lr:=lr) (lc:=lc) (fun e=>by have:=e.2.2.1 x hxm; omega) hb); replace hx:=hid hx; replace hxm:=hid hxm
        go_wp2_with fail
        go_ret; exact hno.out _ (Below.refl _ _)
       ·have p3:decide (x < -1125899906842624)=false:=decide_eq_false hx1
        by_cases hx2:1125899906842624 < x
        ·have p4:decide (1125899906842624 < x)=true:=decide_eq_true hx2
         have hno:=hid (fun (W:World) (hb:Below w.heap.size w W)=>PvPost.no (w:=w) (w':=W) (g:=g) (wt:=wt) (lr:=lr) (lc:=lc) (fun e=>by have:=e.2.2.1 x hxm; omega) hb); replace hx:=hid hx; replace hxm:=hid hxm
         go_wp2_with fail
         go_ret; exact hno.out _ (Below.refl _ _)
        ·have p4:decide (1125899906842624 < x)=false:=decide_eq_false hx2
         have hs1:=sumL_take hx; have hs2:=sumL_bnd hbd.out
         have hs3:(lr.take k).length≤64:=by rw [List.length_take]; have:=hn.out.n; have:=hL.out; omega
         have hs4:=htb.out; have ht2':=ht2.out; have p5:IntKind.i64.wrap (t2+x)=t2+x:=wrapI (by omega) (by omega)
         have hb2:=hid (show ∀ y∈lr.take (k+1),-1125899906842624≤y∧y≤1125899906842624 from fun y hy=>by
          rw [List.take_add_one,hx,Option.toList_some] at hy; rcases List.mem_append.1 hy with hy | hy
          ·exact hbd.out y hy
          ·rw [List.mem_singleton.1 hy]; omega)
         have ht3:=hid (show t2+x=tot+Pl.sumL (lr.take (k+1)) from by omega); replace hs1:=hid hs1; replace hs2:=hid hs2; replace hs3:=hid hs3; replace hs4:=hid hs4; replace ht2':=hid ht2'; replace hx:=hid hx; replace hxm:=hid hxm
         go_wp2_with fail
         go_roundg (lr.length - (k+1))
         case measure=>omega
         case rel=>exact ⟨k+1,t2+x,rfl,rfl,by omega,ht3,hb2,rfl⟩
      ·have p1:decide ((k:Int) < (lr.length:Int))=false:=decide_eq_false (by omega)
       have hke:k=lr.length:=by omega
       subst hke; have hbd':=hbd.out; have ht2':=ht2.out; rw [List.take_length] at hbd' ht2'
       have hS2:=hid (show PvS lr lc 1 t2 from by
        obtain ⟨z1,z2,z3⟩:=hPS.out; refine ⟨fun _=>?_,fun hh=>?_,?_⟩
        ·exact hbd'
        ·omega
        ·rw [ht2',z3]; simp)
       have p6:IntKind.i64.wrap ((0:Int)+1)=1:=by decide
       replace hbd':=hid hbd'; replace ht2':=hid ht2'
       go_wp2_with fail
       go_roundg 1
       case measure=>omega
       case rel=>exact ⟨1,t2,rfl,rfl,by omega,hS2,rfl⟩
    ·have p0:decide (((1:Nat):Int) < 2)=true:=rfl
     have hL:=hL2
     have hcell:=fun (k:Nat) (x:Int) (hx:lc[k]? = some x)=>slI hcw.out hx
     replace hcell:=hid hcell
     go_wp2_with fail
     go_loopg [42,9] lc.length (fun f v42 v9 wr2=>∃ (k:Nat) (t2:Int),v42=iv k∧v9=iv t2∧k+f=lc.length∧Hid (t2=tot+Pl.sumL (lc.take k))∧Hid (∀ x∈lc.take k,-1125899906842624≤x∧x≤1125899906842624)∧wr2=w)
     case atStart=>exact ⟨0,tot,rfl,rfl,by omega,hid (by simp [Pl.sumL]),hid (by simp),rfl⟩
     case round =>
      obtain ⟨k,t2,rfl,rfl,hkf,ht2,hbd,hwr⟩:=hrel; have hwr2:=hwr.symm; subst hwr2; clear hwr; by_cases hk:k < lc.length
      ·have p1:decide ((k:Int) < (lc.length:Int))=true:=decide_eq_true (by omega)
       have p2:IntKind.i64.wrap ((k:Int)+1)=((k+1:Nat):Int):=by rw [IntKind.wrap_i64]; have:=hn.out.n; have:=hL.out; omega
       obtain ⟨x,hx⟩:∃ x,lc[k]? = some x:=⟨_,List.getElem?_eq_getElem hk⟩; obtain ⟨g1,o1,i1,-,e1⟩:=hcell.out k x hx; have hxm:=List.mem_of_getElem? hx; by_cases hx1:x < -1125899906842624
       ·have p3:decide (x < -1125899906842624)=true:=decide_eq_true hx1
        have hno:=hid (fun (W:World) (hb:Below w.heap.size w W)=>PvPost.no (w:=w) (w':=W) (g:=g) (wt:=wt) (lr:=lr) (lc:=lc) (fun e=>by have:=e.2.2.2.1 x hxm; omega) hb); replace hx:=hid hx; replace hxm:=hid hxm
        go_wp2_with fail
        go_ret; exact hno.out _ (Below.refl _ _)
       ·have p3:decide (x < -1125899906842624)=false:=decide_eq_false hx1
        by_cases hx2:1125899906842624 < x
        ·have p4:decide (1125899906842624 < x)=true:=decide_eq_true hx2
         have hno:=hid (fun (W:World) (hb:Below w.heap.size w W)=>PvPost.no (w:=w) (w':=W) (g:=g) (wt:=wt) (lr:=lr) (lc:=lc) (fun e=>by have:=e.2.2.2.1 x hxm; omega) hb); replace hx:=hid hx; replace hxm:=hid hxm
         go_wp2_with fail
         go_ret; exact hno.out _ (Below.refl _ _)
        ·have p4:decide (1125899906842624 < x)=false:=decide_eq_false hx2
         have hs1:=sumL_take hx; have hs2:=sumL_bnd hbd.out
         have hs3:(lc.take k).length≤64:=by rw [List.length_take]; have:=hn.out.n; have:=hL.out; omega
         have hs4:=htb.out; have ht2':=ht2.out; have p5:IntKind.i64.wrap (t2+x)=t2+x:=wrapI (by omega) (by omega)
         have hb2:=hid (show ∀ y∈lc.take (k+1),-1125899906842624≤y∧y≤1125899906842624 from fun y hy=>by
          rw [List.take_add_one,hx,Option.toList_some] at hy; rcases List.mem_append.1 hy with hy | hy
          ·exact hbd.out y hy
          ·rw [List.mem_singleton.1 hy]; omega)
         have ht3:=hid (show t2+x=tot+Pl.sumL (lc.take (k+1)) from by omega); replace hs1:=hid hs1; replace hs2:=hid hs2; replace hs3:=hid hs3; replace hs4:=hid hs4; replace ht2':=hid ht2'; replace hx:=hid hx; replace hxm:=hid hxm
         go_wp2_with fail
         go_roundg (lc.length - (k+1))
         case measure=>omega
         case rel=>exact ⟨k+1,t2+x,rfl,rfl,by omega,ht3,hb2,rfl⟩
      ·have p1:decide ((k:Int) < (lc.length:Int))=false:=decide_eq_false (by omega)
       have hke:k=lc.length:=by omega
       subst hke; have hbd':=hbd.out; have ht2':=ht2.out; rw [List.take_length] at hbd' ht2'
       have hS2:=hid (show PvS lr lc 2 t2 from by
        obtain ⟨z1,z2,z3⟩:=hPS.out; refine ⟨fun _=>?_,fun hh=>?_,?_⟩
        ·exact z1 (by omega)
        ·exact hbd'
        ·rw [ht2',z3]; simp)
       have p6:IntKind.i64.wrap ((1:Int)+1)=2:=by decide
       replace hbd':=hid hbd'; replace ht2':=hid ht2'
       go_wp2_with fail
       go_roundg 0
       case measure=>omega
       case rel=>exact ⟨2,t2,rfl,rfl,by omega,hS2,rfl⟩
    ·have p0:decide (((2:Nat):Int) < 2)=false:=rfl
     have hb1:∀ x∈lr,-1125899906842624≤x∧x≤1125899906842624:=hPS.out.1 (by omega); have hb2:∀ x∈lc,-1125899906842624≤x∧x≤1125899906842624:=hPS.out.2.1 (by omega)
     have htot:tot=Pl.sumL lr+Pl.sumL lc:=by rw [hPS.out.2.2]; simp
     replace hb1:=hid hb1; replace hb2:=hid hb2; replace htot:=hid htot
     go_wp2_with fail
     go_loopg [62] g.n (fun f v62 wr=>∃ r:Nat,v62=iv r∧r+f=g.n∧Hid (∀ ρ c,ρ < r→c < g.n→0≤g.V ρ c→lr.getD ρ 0+lc.getD c 0≤g.V ρ c)∧Hid (Below w.heap.size w wr))
     case atStart=>exact ⟨0,rfl,by omega,hid (fun ρ c hh=>absurd hh (by omega)),hid (Below.refl _ _)⟩
     case round =>
      obtain ⟨r,rfl,hrf,hok,hB⟩:=hrel; by_cases hrn:r < g.n
      ·have p1:decide ((r:Int) < (g.n:Int))=true:=decide_eq_true (by omega)
       have p2:IntKind.i64.wrap ((r:Int)+1)=((r+1:Nat):Int):=by rw [IntKind.wrap_i64]; have:=hn.out.n; omega
       obtain ⟨g1,o1,la,lcap,i1,e1,hcells⟩:=(h.out.below hB.out).line hrn; obtain ⟨x,hx⟩:∃ x,lr[r]? = some x:=⟨_,List.getElem?_eq_getElem (by have:=hL.out; omega)⟩; obtain ⟨g3,o3,i3,z3,e3⟩:=slI hrw.out hx
       replace hcells:=hid (show ∀ (W:World),Below wr.heap.size wr W→∀ c,c < g.n→∃ g2 o2,(∀ kd W,(Instr.indexAt 29 (.slice la g.n lcap) (.int kd c)).run Tryz.prog W=.ok (.pointer (some ⟨g2,o2,none⟩)) W)∧W.cell? ⟨g2,o2,none⟩=some (iv (g.V r c)) from fun W hW c hc=>by
        obtain ⟨g2,o2,k1,k2,k3⟩:=hcells c hc
        exact ⟨g2,o2,k1,(hW.cell (p:=⟨g2,o2,none⟩) k2).trans k3⟩)
       have hxl:lr.getD r 0=x:=by rw [List.getD_eq_getElem?_getD,hx]; rfl
       have hxb:=hb1.out x (List.mem_of_getElem? hx); replace hx:=hid hx; replace e3:=hid (show ∀ W,Below w.heap.size w W→W.cell? ⟨g3,o3,none⟩=some (iv x) from fun W hW=>(hW.cell (p:=⟨g3,o3,none⟩) z3).trans e3)
       go_wp2_with fail
       go_loopg [69] g.n (fun f v69 wr2=>∃ c:Nat,v69=iv c∧c+f=g.n∧Hid (∀ d,d < c→0≤g.V r d→x+lc.getD d 0≤g.V r d)∧Hid (Below wr.heap.size wr wr2))
       case atStart=>exact ⟨0,rfl,by omega,hid (fun d hh=>absurd hh (by omega)),hid (Below.refl _ _)⟩
       case round =>
        obtain ⟨c,rfl,hcf,hok2,hB2⟩:=hrel; have hB3:=hid (hB.out.trans (hB2.out.mono hB.out.size)); by_cases hcn:c < g.n
        ·have p1:decide ((c:Int) < (g.n:Int))=true:=decide_eq_true (by omega)
         have p2:IntKind.i64.wrap ((c:Int)+1)=((c+1:Nat):Int):=by rw [IntKind.wrap_i64]; have:=hn.out.n; omega
         obtain ⟨g2,o2,i2,e2⟩:=hcells.out _ hB2.out c hcn; obtain ⟨y,hy⟩:∃ y,lc[c]? = some y:=⟨_,List.getElem?_eq_getElem (by have:=hL2.out; omega)⟩; obtain ⟨g4,o4,i4,z4,e4⟩:=slI hcw.out hy; replace e4:=(hB3.out.cell (p:=⟨g4,o4,none⟩) z4).trans e4; have e5:=e3.out _ hB3.out
         have hyl:lc.getD c 0=y:=by rw [List.getD_eq_getElem?_getD,hy]; rfl
         have hyb:=hb2.out y (List.mem_of_getElem? hy); have p3:IntKind.i64.wrap (x+y)=x+y:=wrapI (by omega) (by omega); obtain ⟨v,hv⟩:∃ v,v=g.V r c:=⟨_,rfl⟩; rw [← hv] at e2; have hq:=hid (fun q=>hB2.out.trans (below_drewM (Below.refl _ _) q))
         have hstep:∀ (hle:0≤v→x+y≤v),∀ d,d < c+1→0≤g.V r d→x+lc.getD d 0≤g.V r d:=fun hle d hd h0=>by
          rcases Nat.lt_succ_iff_lt_or_eq.1 hd with h9 | h9
          ·exact hok2.out d h9 h0
          ·subst h9; rw [hyl,← hv]; rw [← hv] at h0; exact hle h0
         replace hstep:=hid hstep; replace hy:=hid hy; by_cases h0:0≤v
         ·have p4:decide (0≤v)=true:=decide_eq_true h0
          by_cases h1:v < x+y
          ·have p5:decide (v < x+y)=true:=decide_eq_true h1
           have hno:=hid (fun (W:World) (hb:Below w.heap.size w W)=>PvPost.no (w:=w) (w':=W) (g:=g) (wt:=wt) (lr:=lr) (lc:=lc) (fun e=>by
            have:=e.2.2.2.2.1 r c hrn hcn (by rw [← hv]; exact h0); rw [hxl,hyl,← hv] at this
            omega) hb)
           replace hv:=hid hv; replace hxl:=hid hxl; replace hyl:=hid hyl; clear hxb hyb
           go_wp2_with fail
           go_quiet (fail)
           go_wp2_with fail
           go_ret; exact hno.out _ (hB.out.trans ((hq.out _).mono hB.out.size))
          ·have p5:decide (v < x+y)=false:=decide_eq_false h1
           have hst:=hid (hstep.out (fun _=>by omega)); replace hv:=hid hv; replace hxl:=hid hxl; replace hyl:=hid hyl; clear hxb hyb
           go_wp2_with fail
           go_quiet (fail)
           go_wp2_with fail
           go_roundg (g.n - (c+1))
           case measure=>omega
           case rel=>exact ⟨c+1,rfl,by omega,hst,hid (hq.out _)⟩
         ·have p4:decide (0≤v)=false:=decide_eq_false h0
          have hst:=hid (hstep.out (fun hh=>absurd hh h0)); replace hv:=hid hv; replace hxl:=hid hxl; replace hyl:=hid hyl; clear hxb hyb
          go_wp2_with fail
          go_quiet (fail)
          go_wp2_with fail
          go_roundg (g.n - (c+1))
          case measure=>omega
          case rel=>exact ⟨c+1,rfl,by omega,hst,hid (hq.out _)⟩
        ·have p1:decide ((c:Int) < (g.n:Int))=false:=decide_eq_false (by omega)
         have hcn2:c=g.n:=by omega
         subst hcn2
         have hok3:=hid (show ∀ ρ c,ρ < r+1→c < g.n→0≤g.V ρ c→lr.getD ρ 0+lc.getD c 0≤g.V ρ c from fun ρ c hρ hc h0=>by
          rcases Nat.lt_succ_iff_lt_or_eq.1 hρ with h9 | h9
          ·exact hok.out ρ c h9 hc h0
          ·subst h9; rw [hxl]; exact hok2.out c hc h0)
         replace hxl:=hid hxl
         go_wp2_with fail
         go_roundg (g.n - (r+1))
         case measure=>omega
         case rel=>exact ⟨r+1,rfl,by omega,hok3,hB3⟩
      ·have p1:decide ((r:Int) < (g.n:Int))=false:=decide_eq_false (by omega)
       have hrn2:r=g.n:=by omega
       subst hrn2
       have hiff:(tot == wt)=true ↔ ProvesP g wt lr lc:=by
        rw [beq_iff_eq]; constructor
        ·intro e; exact ⟨hL.out,hL2.out,hb1.out,hb2.out,hok.out,by rw [← htot.out]; exact e⟩
        ·intro e; rw [htot.out]; exact e.2.2.2.2.2
       obtain ⟨bb,hbb⟩:∃ b,b=(tot == wt):=⟨_,rfl⟩; have hbb2:(tot == wt)=bb:=hbb.symm
       have hbb3:decide (tot=wt)=bb:=by rw [← hbb2]; rfl
       replace hbb:=hid hbb; rw [hbb2] at hiff; have hyes:=hid (fun (W:World) (hb:Below w.heap.size w W)=>PvPost.is (w:=w) (w':=W) hiff hb); clear hiff
       go_wp2_with fail
       go_ret; exact hyes.out _ hB.out
  ·have q0:((lr.length:Int) != (g.n:Int))=false:=by simp; omega
   have q1:decide ((lr.length:Int)=(g.n:Int))=true:=decide_eq_true (by omega)
   have q2:((lr.length:Int) == (g.n:Int))=true:=by simp; omega
   have q4:((lc.length:Int) != (g.n:Int))=true:=by simp; omega
   have q5:decide ((lc.length:Int)=(g.n:Int))=false:=decide_eq_false (by omega)
   have q6:((lc.length:Int) == (g.n:Int))=false:=by simp; omega
   have q7:¬ ((lc.length:Int)=(g.n:Int)):=by omega
   have hno:=hid (fun hb=>PvPost.no (w:=w) (w':=w) (g:=g) (wt:=wt) (lr:=lr) (lc:=lc) (fun e=>hlc e.2.1) hb); replace h:=hid h; replace hn:=hid hn; replace hr:=hid hr; replace hc:=hid hc
   go_enter Tryz.func39,Tryz.ntmps39
   go_wp2_with fail
   go_ret; exact hno.out (Below.refl _ _)
 ·have q0:((lr.length:Int) != (g.n:Int))=true:=by simp; omega
  have q1:decide ((lr.length:Int)=(g.n:Int))=false:=decide_eq_false (by omega)
  have q2:((lr.length:Int) == (g.n:Int))=false:=by simp; omega
  have q3:¬ ((lr.length:Int)=(g.n:Int)):=by omega
  have hno:=hid (fun hb=>PvPost.no (w:=w) (w':=w) (g:=g) (wt:=wt) (lr:=lr) (lc:=lc) (fun e=>hlr e.1) hb); replace h:=hid h; replace hn:=hid hn; replace hr:=hid hr; replace hc:=hid hc
  go_enter Tryz.func39,Tryz.ntmps39
  go_wp2_with fail
  go_ret; exact hno.out (Below.refl _ _)
end Go.Proofs.YtfejagpjahoibaaGreatDoor
