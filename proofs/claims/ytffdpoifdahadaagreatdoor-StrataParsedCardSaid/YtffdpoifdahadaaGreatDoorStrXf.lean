/- StrXf: StrXe, StrXf, in one text. -/
import Derived.Test.YtffdpoifdahadaaGreatDoorStrXb
set_option linter.unusedVariables false
set_option linter.unusedSimpArgs false
set_option maxHeartbeats 40000000
set_option maxRecDepth 100000
namespace Go.Proofs.YtffdpoifdahadaaGreatDoor
open Go.RowKit
open Go.Lib (hid)
theorem ze {S:aP} {w:World} {l:List (List UInt8)} {a:Option Addr} {n cap i:Nat} {x:List UInt8} (h:SlR 1 yH S w l (.slice a n cap)) (hi:l[i]? = some x) :
  ∃ g o,(∀ kd W,(Instr.indexAt 36 (.slice a n cap) (.int kd i)).run Tryz.prog W=.ok (.pointer (some ⟨g,o,none⟩)) W)/\w.cell? ⟨g,o,none⟩=some (sv x):=by
 obtain ⟨g,o,cs,h1,h2,h3,h4,h5⟩:=h.at (P:=Tryz.prog) (t:=36) (by kernel_rfl) (fun _=>by kernel_rfl) hi; refine ⟨g,o,h1,?_⟩; have:=h4 0 (sv x) (by rw [show cs=[sv x] from h5]; rfl); simpa using this
theorem yr {S:aP} {w:World} {l:List Int} {a:Option Addr} {n cap i:Nat} {x:Int} (h:SlR 1 sr S w l (.slice a n cap)) (hi:l[i]? = some x) :
  ∃ g o,(∀ kd W,(Instr.indexAt 33 (.slice a n cap) (.int kd i)).run Tryz.prog W=.ok (.pointer (some ⟨g,o,none⟩)) W)/\w.cell? ⟨g,o,none⟩=some (iv x):=by
 obtain ⟨g,o,cs,h1,h2,h3,h4,h5⟩:=h.at (P:=Tryz.prog) (t:=33) (by kernel_rfl) (fun _=>by kernel_rfl) hi; refine ⟨g,o,h1,?_⟩; have:=h4 0 (iv x) (by rw [show cs=[iv x] from h5]; rfl); simpa using this
theorem so_sl {w:World} {l:List (List UInt8)} {v:Value} (h:SO w l v):SlR 1 yH (fun k=>v.ownBlock=some k) w l v:=by
 rcases h.2 with ⟨rfl,h0⟩ | ⟨g,cap,cur,rfl,-,hg,hn,hm,hs,ht⟩
 ·have:l=[]:=List.length_eq_zero_iff.1 h0
  subst this; exact SlR.nil _ _ _ _ _
 ·refine ⟨some ⟨g,0,none⟩,cap,g,0,fun i=>[sv (l.getD i [])],rfl,hn,fun _=>⟨rfl,rfl,aL hg⟩,fun i hi j u hu=>?_,fun i x hx=>?_⟩
  ·have hj:j=0:=by
    have:=(List.getElem?_eq_some_iff.1 hu).1; simp at this; omega
   subst hj; simp at hu; subst hu; have hc:=(ej (i:=i) (x:=sv (l.getD i [])) h (by rw [Ai,getD_some hi]; rfl)).1; simpa using hc
  ·show [sv (l.getD i [])]=[sv x]
   rw [zZ,hx]; rfl
theorem pN {names:List Nm} {lv:List Int} {rel:Nm} {k:Nat} (hk:k < names.length) (hk2:k < lv.length) (hb:∀ i,i < k->names.getD i []≠rel) (he:names.getD k []=rel):fh names lv rel=lv.getD k 0:=by
 unfold fh
 have:(List.range (min names.length lv.length)).find? (fun i=>decide (names.getD i []=rel))=some k:=by
  rw [List.find?_eq_some_iff_getElem]; refine ⟨by simpa using he,k,by simp; omega,by simp,fun j hj=>?_⟩; simp only [List.getElem_range]; simpa using hb j hj
 rw [this]
theorem nQ {names:List Nm} {lv:List Int} {rel:Nm} {k:Nat} (hk:¬ (k < names.length/\k < lv.length)) (hb:∀ i,i < k->names.getD i []≠rel):fh names lv rel = -1:=by
 unfold fh
 have:(List.range (min names.length lv.length)).find? (fun i=>decide (names.getD i []=rel))=none:=by
  rw [List.find?_eq_none]; intro i hi; rw [List.mem_range] at hi; simpa using hb i (by omega)
 rw [this]
theorem oK (names:List Nm) (lv:List Int) (rel:Nm) (na la:Option Addr) (nc lc:Nat) (S T:aP) (w:World) (h1:SlR 1 yH S w names (.slice na names.length nc)) (h2:SlR 1 sr T w lv (.slice la lv.length lc)) (hn:names.length<=2000000000000) (hl:lv.length<=2000000000000) :
  Calls Tryz.prog 23 #[.slice na names.length nc,.slice la lv.length lc,sv rel] w fun e w'=>e=.returned (iv (fh names lv rel))/\w'=w:=by
 obtain ⟨R,hR⟩:∃ R,R=fh names lv rel:=⟨_,rfl⟩; rw [← hR]; replace hR:=hid hR; replace h1:=hid h1; replace h2:=hid h2
 go_enter Tryz.func23,Tryz.ntmps23
 go_wp2_with fail
 go_loopg [7] names.length (fun f v7 wr=>∃ (k:Nat),v7=iv k/\k+f=names.length/\wr=w/\Hid (∀ i,i < k->names.getD i []≠rel))
 case atStart=>exact ⟨0,rfl,by omega,rfl,hid fun i hi=>by omega⟩
 case round =>
  obtain ⟨k,rfl,hkf,hww,hb⟩:=hrel; subst hww; by_cases hlt:k < names.length
  ·have q1:decide ((k:Int) < (names.length:Int))=true:=zP (by omega)
   by_cases hlt2:k < lv.length
   ·have q2:decide ((k:Int) < (lv.length:Int))=true:=zP (by omega)
    (have q3:IntKind.i64.wrap ((k:Int)+1)=((k+1:Nat):Int):=by rw [zX]; omega);obtain ⟨x,hx⟩:∃ x,names[k]? = some x:=⟨_,zR hlt⟩; obtain ⟨y,hy⟩:∃ y,lv[k]? = some y:=⟨_,zR hlt2⟩; obtain ⟨g1,o1,i1,c1⟩:=ze h1.out hx; obtain ⟨g2,o2,i2,c2⟩:=yr h2.out hy;(have hxd:names.getD k []=x:=by rw [zZ,hx]; rfl);(have hyd:lv.getD k 0=y:=by rw [zZ,hy]; rfl)
    by_cases he:x=rel
    ·subst he
     have hF:=hid (show R=y from by rw [hR.out,pN hlt hlt2 hb.out hxd,hyd]); replace hxd:=hid hxd; replace hyd:=hid hyd; replace hx:=hid hx; replace hy:=hid hy;go_wp2_with fail;go_ret; exact ⟨by rw [hF.out]; rfl,rfl⟩
    ·have hb2:=hid (show ∀ i,i < k+1->names.getD i []≠rel from fun i hi=>by
      by_cases e:i=k
      ·subst e; rw [hxd]; exact he
      ·exact hb.out i (by omega))
     (have qs:(x == rel)=false:=by simpa using he);replace he:=hid he; replace hxd:=hid hxd; replace hyd:=hid hyd; replace hx:=hid hx; replace hy:=hid hy;go_wp2_with fail
     go_roundg (names.length - (k+1))
     case measure=>omega
     case rel=>exact ⟨k+1,rfl,by omega,rfl,hb2⟩
   ·have q2:decide ((k:Int) < (lv.length:Int))=false:=zO (by omega)
    have hF:=hid (show R = -1 from by rw [hR.out]; exact nQ (fun h=>hlt2 h.2) hb.out);go_wp2_with fail;go_ret; exact ⟨by rw [hF.out]; rfl,rfl⟩
  ·have q1:decide ((k:Int) < (names.length:Int))=false:=zO (by omega)
   have hF:=hid (show R = -1 from by rw [hR.out]; exact nQ (fun h=>hlt h.1) hb.out)
   go_wp2_with fail
   go_ret; exact ⟨by rw [hF.out]; rfl,rfl⟩
end Go.Proofs.YtffdpoifdahadaaGreatDoor
namespace Go.Proofs.YtffdpoifdahadaaGreatDoor
open Go.RowKit
open Go.Lib (hid)
end Go.Proofs.YtffdpoifdahadaaGreatDoor
