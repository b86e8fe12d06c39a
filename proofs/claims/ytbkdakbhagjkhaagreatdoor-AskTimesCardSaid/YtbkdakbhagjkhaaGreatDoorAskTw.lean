/- Tmp27: AskTz, AskTn, AskTw, in one text. -/
import Derived.Test.YtbkdakbhagjkhaaGreatDoorLexT
import Derived.Test.YtbkdakbhagjkhaaGreatDoorLaid
import Derived.Test.YtbkdakbhagjkhaaGreatDoorRows
import Derived.Test.YtbkdakbhagjkhaaGreatDoorAskZs
import Derived.Test.YtbkdakbhagjkhaaGreatDoorAskTq
set_option linter.unusedVariables false
namespace Go.Proofs.YtbkdakbhagjkhaaGreatDoor
open Go.ChangeShapes Go.WideShapes Go.ChangeAt Go.RowKit
theorem str_list (s:ByteArray):∃ l:List UInt8,s=⟨l.toArray⟩∧l.length=s.size:=⟨s.data.toList,by simp,by simp⟩

theorem tab_of_laid {W:World} (h:laidMetH Tryz.prog Rows.askTimesRow.laid W):Tab W:=by
 rw [MakeChecks.laidMetH_plain _ _ _ (by kernel_rfl)] at h; have h2:=laidMet_tail (laidMet_tail h); exact Lib.tabIs_of_head (g:=0) (t:=144) (e:=136) (n:=20) (rest:=[]) (by kernel_rfl) (by kernel_rfl) (by kernel_rfl) (by kernel_rfl) (by kernel_rfl) (by kernel_rfl) h2
end Go.Proofs.YtbkdakbhagjkhaaGreatDoor
set_option linter.unusedSimpArgs false
namespace Go.Proofs.YtbkdakbhagjkhaaGreatDoor
open Go.RowKit
open Go.Lib (hid byteCells itoa)
def WordR:Rel (List UInt8):=fun _ _ s cs=>cs=[sv s]
theorem goodWord:Good 1 WordR:=⟨fun h=>by rw [h]; rfl,fun h=>by rw [h]; intro u hu; simp at hu; subst hu; rfl,fun h _=>h⟩
set_option maxHeartbeats 1000000 in
set_option maxRecDepth 100000 in
theorem refIn_any (l:List (List UInt8)) (s:List UInt8) (a:Option Addr) (c:Nat) (S:Foot) (w:World) (h:SlR 1 WordR S w l (.slice a l.length c)) (hl:l.length≤1000000) :
  Calls Tryz.prog 52 #[.slice a l.length c,sv s] w fun e w'=>e=.returned (.bool (l.contains s))∧Below w.heap.size w w':=by
 obtain ⟨res,hres⟩:∃ r,r=l.contains s:=⟨_,rfl⟩; rw [← hres]; replace hres:=hid hres; have h0:=hid h; clear h
 go_enter Tryz.func52,Tryz.ntmps52
 go_wp2_with fail
 go_loopg [5] l.length (fun g i wr=>∃ k:Nat,i=iv k∧k+g=l.length∧Hid (∀ j y,j < k→l[j]? = some y→y≠s)∧Hid (Below w.heap.size w wr))
 case atStart=>exact ⟨0,rfl,by omega,hid (fun j y h=>absurd h (by omega)),hid (Below.refl _ _)⟩
 case round =>
  obtain ⟨k,rfl,hkg,hn,hB⟩:=hrel; by_cases hlt:k < l.length
  ·have q1:decide ((k:Int) < (l.length:Int))=true:=decide_eq_true (by omega)
   obtain ⟨x,hx⟩:∃ x,l[k]? = some x:=⟨_,List.getElem?_eq_getElem hlt⟩; obtain ⟨g,o,cs,hidx,-,hg,hc,hrt⟩:=(h0.out.below goodWord hB.out).at (P:=Tryz.prog) (t:=102) (by kernel_rfl) (fun _=>by kernel_rfl) hx; have hrt':cs=[sv x]:=hrt; subst hrt'; have d0:wr.cell? ⟨g,o+0,none⟩=some (sv x):=hc 0 _ rfl; rw [Nat.add_zero] at d0; clear hc hrt; by_cases hxs:x=s
   ·have e1:(x == s)=true:=by simpa using hxs
    have hr:res=true:=by rw [hres.out,List.contains_eq_mem]; exact decide_eq_true (hxs ▸ List.mem_of_getElem? hx)
    replace hxs:=hid hxs; replace hx:=hid hx; replace hr:=hid hr
    go_wp2_with fail
    go_ret; exact ⟨by rw [hr.out]; rfl,hB.out⟩
   ·have e1:(x == s)=false:=by simpa using hxs
    have hn2:=hid (show ∀ j y,j < k+1→l[j]? = some y→y≠s from fun j y hj hy=>by
     rcases Nat.lt_or_ge j k with hj2 | hj2
     ·exact hn.out j y hj2 hy
     ·have:j=k:=by omega
      subst this
      rw [hx] at hy; injection hy with hy; subst hy; exact hxs)
    have e2:IntKind.i64.wrap ((k:Int)+1)=((k+1:Nat):Int):=by rw [IntKind.wrap_i64]; omega
    replace hxs:=hid hxs; replace hx:=hid hx; clear hn
    go_wp2_with fail
    go_roundg (l.length - (k+1))
    case measure=>omega
    case rel=>exact ⟨k+1,rfl,by omega,hn2,hB⟩
  ·have q1:decide ((k:Int) < (l.length:Int))=false:=decide_eq_false (by omega)
   have hr:res=false:=by
    rw [hres.out,List.contains_eq_mem,decide_eq_false_iff_not]; intro hm; obtain ⟨j,hj⟩:=List.mem_iff_getElem?.1 hm; have:=(List.getElem?_eq_some_iff.1 hj).1; exact hn.out j s (by omega) hj rfl
   replace hr:=hid hr; clear hn
   go_wp2_with fail
   go_ret; exact ⟨by rw [hr.out]; rfl,hB.out⟩
abbrev resCells:Array Value:=#[sv [110,111,116],sv [111,110,99,101],sv [110,101,118,101,114],sv [115,105,110,99,101],sv [110,111],sv [97,116],sv [98,101,102,111,114,101],sv [97,102,116,101,114],sv [99,111,117,110,116],sv [115,117,109],sv [109,105,110],sv [109,97,120]]
theorem res_row (w:World):SlR 1 WordR (fun _=>True) (w.alloc (.cells resCells 9)) resL (.slice (some ⟨w.heap.size,0,none⟩) 12 12):=by
 refine ⟨some ⟨w.heap.size,0,none⟩,12,w.heap.size,0,fun i=>[sv (resL.getD i [])],rfl,by decide,fun _=>⟨rfl,trivial,by simp⟩,fun i hi j u hu=>?_,fun i x hx=>?_⟩
 ·have hb:=heap_alloc_new' w (.cells resCells 9)
  have hj:j=0:=by
   have:=(List.getElem?_eq_some_iff.1 hu).1; simp at this; exact this
  subst hj; simp at hu; subst hu; refine (cell_of hb).trans ?_; have hi12:i < 12:=hi
  have:i=0∨i=1∨i=2∨i=3∨i=4∨i=5∨i=6∨i=7∨i=8∨i=9∨i=10∨i=11:=by omega
  rcases this with rfl | rfl | rfl | rfl | rfl | rfl | rfl | rfl | rfl | rfl | rfl | rfl <;> rfl
 ·show [sv (resL.getD i [])]=[sv x]
  rw [List.getD_eq_getElem?_getD,hx]; rfl
set_option maxHeartbeats 1000000 in
set_option maxRecDepth 100000 in
theorem refReserved_any (s:List UInt8) (w:World):Calls Tryz.prog 29 #[sv s] w fun e w'=>e=.returned (.bool (resB s))∧Below w.heap.size w w':=by
 have hb:Below w.heap.size w (w.alloc (.cells resCells 9)):=(Below.refl _ w).alloc (Nat.le_refl _) _; have hin:=hid (refIn_any resL s (some ⟨w.heap.size,0,none⟩) 12 _ _ (res_row w) (by decide)); have hB:=hid hb; clear hb
 go_enter Tryz.func29,Tryz.ntmps29
 go_wp2_with fail
 refine hin.out.mono ?_; rintro e w1 ⟨rfl,hb1⟩; have hB1:=hid (hB.out.trans (hb1.mono hB.out.size)); clear hb1
 go_wp2_with fail
 go_ret; exact ⟨by rw [show resB s=decide (s∈resL) from by unfold resB; rw [List.contains_eq_mem]]; rfl,hB1.out⟩
set_option maxHeartbeats 2000000 in
set_option maxRecDepth 100000 in
theorem refName_any (s:List UInt8) (w:World) (hs:s.length≤1048576):Calls Tryz.prog 13 #[sv s] w fun e w'=>e=.returned (.bool (varF s))∧Below w.heap.size w w':=by
 obtain ⟨res,hres⟩:∃ res,varF s=res:=⟨_,rfl⟩; rw [hres]; replace hres:=hid hres
 go_enter Tryz.func13,Tryz.ntmps13
 go_wp2_with fail
 go_loopw [3] (fun i wr=>∃ k:Nat,i=.int .i64 k∧k≤s.length∧Hid (∀ i y,i < k→s[i]? = some y→okV i y=true)∧Hid (Below w.heap.size w wr)) (fun i _=>s.length - (intOf i).toNat)
 case atStart=>exact ⟨0,rfl,Nat.zero_le _,hid (fun i y h=>absurd h (by omega)),hid (Below.refl _ _)⟩
 case round =>
  obtain ⟨k,rfl,hk,hn,hB⟩:=hrel; by_cases hlt:k < s.length
  ·obtain ⟨c,hc⟩:∃ c,s[k]? = some c:=⟨_,List.getElem?_eq_getElem hlt⟩
   have hix:=idx_str (P:=Tryz.prog) 9 (by kernel_rfl) s k c hc; have hcl:=c.toNat_lt; have hno:=hid (fun h:okV k c=false=>(hres.out.symm.trans (by unfold varF; rw [nm_no hc h]; rfl):res=false)); have hnx:=hid (fun h:okV k c=true=>hit_nextV hc h hn.out); have q1:decide ((k:Int) < (s.length:Int))=true:=decide_eq_true (by omega); clear hn hc; rcases (by omega:(0≤c.toNat∧c.toNat≤47)∨(48≤c.toNat∧c.toNat≤57)∨(58≤c.toNat∧c.toNat≤64)∨(65≤c.toNat∧c.toNat≤90)∨(91≤c.toNat∧c.toNat≤94)∨(95≤c.toNat∧c.toNat≤95)∨(96≤c.toNat∧c.toNat≤96)∨(97≤c.toNat∧c.toNat≤122)∨(123≤c.toNat∧c.toNat≤255)) with hcc | hcc | hcc | hcc | hcc | hcc | hcc | hcc | hcc
   ·-- 0 .. 47
    have d0:decide ((65:Int)≤(c.toNat:Int))=false:=decide_eq_false (by omega); have d0g:decide ((c.toNat:Int) ≥ 65)=false:=decide_eq_false (by omega); have d1:decide ((c.toNat:Int)≤90)=true:=decide_eq_true (by omega); have d2:decide ((97:Int)≤(c.toNat:Int))=false:=decide_eq_false (by omega); have d2g:decide ((c.toNat:Int) ≥ 97)=false:=decide_eq_false (by omega); have d3:decide ((c.toNat:Int)≤122)=true:=decide_eq_true (by omega); have d4:decide ((c.toNat:Int) < 48)=true:=decide_eq_true (by omega); have d5:decide ((57:Int) < (c.toNat:Int))=false:=decide_eq_false (by omega); have d7:((c.toNat:Int) != 95)=true:=bne_iff_ne.2 (by omega); have hfin:=hid (hno.out (by have h9:=noWd (c:=c) (by omega); unfold okV; split; exact noLet (by omega); exact h9)); clear hnx hno; by_cases h0:k=0
    ·have g0:((k:Int) == 0)=true:=by rw [h0]; rfl
     replace h0:=hid h0; clear hcc hcl
     go_wp2_with fail
     go_ret; exact ⟨by rw [hfin.out]; rfl,hB.out⟩
    ·have g0:((k:Int) == 0)=false:=beq_eq_false_iff_ne.2 (by omega)
     clear hcc hcl
     go_wp2_with fail
     go_ret; exact ⟨by rw [hfin.out]; rfl,hB.out⟩
   ·-- 48 .. 57
    have d0:decide ((65:Int)≤(c.toNat:Int))=false:=decide_eq_false (by omega); have d0g:decide ((c.toNat:Int) ≥ 65)=false:=decide_eq_false (by omega); have d1:decide ((c.toNat:Int)≤90)=true:=decide_eq_true (by omega); have d2:decide ((97:Int)≤(c.toNat:Int))=false:=decide_eq_false (by omega); have d2g:decide ((c.toNat:Int) ≥ 97)=false:=decide_eq_false (by omega); have d3:decide ((c.toNat:Int)≤122)=true:=decide_eq_true (by omega); have d4:decide ((c.toNat:Int) < 48)=false:=decide_eq_false (by omega); have d5:decide ((57:Int) < (c.toNat:Int))=false:=decide_eq_false (by omega); have d7:((c.toNat:Int) != 95)=true:=bne_iff_ne.2 (by omega); by_cases h0:k=0
    ·have g0:((k:Int) == 0)=true:=by rw [h0]; rfl
     have hfin:=hid (hno.out (by unfold okV; rw [if_pos h0]; exact noLet (by omega))); replace h0:=hid h0; clear hnx hno; clear hcc hcl
     go_wp2_with fail
     go_ret; exact ⟨by rw [hfin.out]; rfl,hB.out⟩
    ·have g0:((k:Int) == 0)=false:=beq_eq_false_iff_ne.2 (by omega)
     have hnx2:=hid (hnx.out (by unfold okV; rw [if_neg h0]; exact wdB (by omega))); clear hnx hno; clear hcc hcl
     go_wp2_with fail
     exact ⟨⟨k+1,by go_num,by omega,hnx2,hB⟩,by simp [intOf]; omega⟩
   ·-- 58 .. 64
    have d0:decide ((65:Int)≤(c.toNat:Int))=false:=decide_eq_false (by omega); have d0g:decide ((c.toNat:Int) ≥ 65)=false:=decide_eq_false (by omega); have d1:decide ((c.toNat:Int)≤90)=true:=decide_eq_true (by omega); have d2:decide ((97:Int)≤(c.toNat:Int))=false:=decide_eq_false (by omega); have d2g:decide ((c.toNat:Int) ≥ 97)=false:=decide_eq_false (by omega); have d3:decide ((c.toNat:Int)≤122)=true:=decide_eq_true (by omega); have d4:decide ((c.toNat:Int) < 48)=false:=decide_eq_false (by omega); have d5:decide ((57:Int) < (c.toNat:Int))=true:=decide_eq_true (by omega); have d7:((c.toNat:Int) != 95)=true:=bne_iff_ne.2 (by omega); have hfin:=hid (hno.out (by have h9:=noWd (c:=c) (by omega); unfold okV; split; exact noLet (by omega); exact h9)); clear hnx hno; by_cases h0:k=0
    ·have g0:((k:Int) == 0)=true:=by rw [h0]; rfl
     replace h0:=hid h0; clear hcc hcl
     go_wp2_with fail
     go_ret; exact ⟨by rw [hfin.out]; rfl,hB.out⟩
    ·have g0:((k:Int) == 0)=false:=beq_eq_false_iff_ne.2 (by omega)
     clear hcc hcl
     go_wp2_with fail
     go_ret; exact ⟨by rw [hfin.out]; rfl,hB.out⟩
   ·-- 65 .. 90
    have d0:decide ((65:Int)≤(c.toNat:Int))=true:=decide_eq_true (by omega); have d0g:decide ((c.toNat:Int) ≥ 65)=true:=decide_eq_true (by omega); have d1:decide ((c.toNat:Int)≤90)=true:=decide_eq_true (by omega); have d2:decide ((97:Int)≤(c.toNat:Int))=false:=decide_eq_false (by omega); have d2g:decide ((c.toNat:Int) ≥ 97)=false:=decide_eq_false (by omega); have d3:decide ((c.toNat:Int)≤122)=true:=decide_eq_true (by omega); have d4:decide ((c.toNat:Int) < 48)=false:=decide_eq_false (by omega); have d5:decide ((57:Int) < (c.toNat:Int))=true:=decide_eq_true (by omega); have d7:((c.toNat:Int) != 95)=true:=bne_iff_ne.2 (by omega); have hnx2:=hid (hnx.out (by have h9:=letB (c:=c) (by omega); unfold okV; split; exact h9; exact isWd_let h9)); clear hnx hno; clear hcc hcl
    go_wp2_with fail
    exact ⟨⟨k+1,by go_num,by omega,hnx2,hB⟩,by simp [intOf]; omega⟩
   ·-- 91 .. 94
    have d0:decide ((65:Int)≤(c.toNat:Int))=true:=decide_eq_true (by omega); have d0g:decide ((c.toNat:Int) ≥ 65)=true:=decide_eq_true (by omega); have d1:decide ((c.toNat:Int)≤90)=false:=decide_eq_false (by omega); have d2:decide ((97:Int)≤(c.toNat:Int))=false:=decide_eq_false (by omega); have d2g:decide ((c.toNat:Int) ≥ 97)=false:=decide_eq_false (by omega); have d3:decide ((c.toNat:Int)≤122)=true:=decide_eq_true (by omega); have d4:decide ((c.toNat:Int) < 48)=false:=decide_eq_false (by omega); have d5:decide ((57:Int) < (c.toNat:Int))=true:=decide_eq_true (by omega); have d7:((c.toNat:Int) != 95)=true:=bne_iff_ne.2 (by omega); have hfin:=hid (hno.out (by have h9:=noWd (c:=c) (by omega); unfold okV; split; exact noLet (by omega); exact h9)); clear hnx hno; by_cases h0:k=0
    ·have g0:((k:Int) == 0)=true:=by rw [h0]; rfl
     replace h0:=hid h0; clear hcc hcl
     go_wp2_with fail
     go_ret; exact ⟨by rw [hfin.out]; rfl,hB.out⟩
    ·have g0:((k:Int) == 0)=false:=beq_eq_false_iff_ne.2 (by omega)
     clear hcc hcl
     go_wp2_with fail
     go_ret; exact ⟨by rw [hfin.out]; rfl,hB.out⟩
   ·-- 95 .. 95
    have d0:decide ((65:Int)≤(c.toNat:Int))=true:=decide_eq_true (by omega); have d0g:decide ((c.toNat:Int) ≥ 65)=true:=decide_eq_true (by omega); have d1:decide ((c.toNat:Int)≤90)=false:=decide_eq_false (by omega); have d2:decide ((97:Int)≤(c.toNat:Int))=false:=decide_eq_false (by omega); have d2g:decide ((c.toNat:Int) ≥ 97)=false:=decide_eq_false (by omega); have d3:decide ((c.toNat:Int)≤122)=true:=decide_eq_true (by omega); have d4:decide ((c.toNat:Int) < 48)=false:=decide_eq_false (by omega); have d5:decide ((57:Int) < (c.toNat:Int))=true:=decide_eq_true (by omega)
    have d7:((c.toNat:Int) != 95)=false:=by rw [show (c.toNat:Int)=95 by omega]; rfl
    by_cases h0:k=0
    ·have g0:((k:Int) == 0)=true:=by rw [h0]; rfl
     have hfin:=hid (hno.out (by unfold okV; rw [if_pos h0]; exact noLet (by omega))); replace h0:=hid h0; clear hnx hno; clear hcc hcl
     go_wp2_with fail
     go_ret; exact ⟨by rw [hfin.out]; rfl,hB.out⟩
    ·have g0:((k:Int) == 0)=false:=beq_eq_false_iff_ne.2 (by omega)
     have hnx2:=hid (hnx.out (by unfold okV; rw [if_neg h0]; exact wdB (by omega))); clear hnx hno; clear hcc hcl
     go_wp2_with fail
     exact ⟨⟨k+1,by go_num,by omega,hnx2,hB⟩,by simp [intOf]; omega⟩
   ·-- 96 .. 96
    have d0:decide ((65:Int)≤(c.toNat:Int))=true:=decide_eq_true (by omega); have d0g:decide ((c.toNat:Int) ≥ 65)=true:=decide_eq_true (by omega); have d1:decide ((c.toNat:Int)≤90)=false:=decide_eq_false (by omega); have d2:decide ((97:Int)≤(c.toNat:Int))=false:=decide_eq_false (by omega); have d2g:decide ((c.toNat:Int) ≥ 97)=false:=decide_eq_false (by omega); have d3:decide ((c.toNat:Int)≤122)=true:=decide_eq_true (by omega); have d4:decide ((c.toNat:Int) < 48)=false:=decide_eq_false (by omega); have d5:decide ((57:Int) < (c.toNat:Int))=true:=decide_eq_true (by omega); have d7:((c.toNat:Int) != 95)=true:=bne_iff_ne.2 (by omega); have hfin:=hid (hno.out (by have h9:=noWd (c:=c) (by omega); unfold okV; split; exact noLet (by omega); exact h9)); clear hnx hno; by_cases h0:k=0
    ·have g0:((k:Int) == 0)=true:=by rw [h0]; rfl
     replace h0:=hid h0; clear hcc hcl
     go_wp2_with fail
     go_ret; exact ⟨by rw [hfin.out]; rfl,hB.out⟩
    ·have g0:((k:Int) == 0)=false:=beq_eq_false_iff_ne.2 (by omega)
     clear hcc hcl
     go_wp2_with fail
     go_ret; exact ⟨by rw [hfin.out]; rfl,hB.out⟩
   ·-- 97 .. 122
    have d0:decide ((65:Int)≤(c.toNat:Int))=true:=decide_eq_true (by omega); have d0g:decide ((c.toNat:Int) ≥ 65)=true:=decide_eq_true (by omega); have d1:decide ((c.toNat:Int)≤90)=false:=decide_eq_false (by omega); have d2:decide ((97:Int)≤(c.toNat:Int))=true:=decide_eq_true (by omega); have d2g:decide ((c.toNat:Int) ≥ 97)=true:=decide_eq_true (by omega); have d3:decide ((c.toNat:Int)≤122)=true:=decide_eq_true (by omega); have d4:decide ((c.toNat:Int) < 48)=false:=decide_eq_false (by omega); have d5:decide ((57:Int) < (c.toNat:Int))=true:=decide_eq_true (by omega); have d7:((c.toNat:Int) != 95)=true:=bne_iff_ne.2 (by omega); have hnx2:=hid (hnx.out (by have h9:=letB (c:=c) (by omega); unfold okV; split; exact h9; exact isWd_let h9)); clear hnx hno; clear hcc hcl
    go_wp2_with fail
    exact ⟨⟨k+1,by go_num,by omega,hnx2,hB⟩,by simp [intOf]; omega⟩
   ·-- 123 .. 255
    have d0:decide ((65:Int)≤(c.toNat:Int))=true:=decide_eq_true (by omega); have d0g:decide ((c.toNat:Int) ≥ 65)=true:=decide_eq_true (by omega); have d1:decide ((c.toNat:Int)≤90)=false:=decide_eq_false (by omega); have d2:decide ((97:Int)≤(c.toNat:Int))=true:=decide_eq_true (by omega); have d2g:decide ((c.toNat:Int) ≥ 97)=true:=decide_eq_true (by omega); have d3:decide ((c.toNat:Int)≤122)=false:=decide_eq_false (by omega); have d4:decide ((c.toNat:Int) < 48)=false:=decide_eq_false (by omega); have d5:decide ((57:Int) < (c.toNat:Int))=true:=decide_eq_true (by omega); have d7:((c.toNat:Int) != 95)=true:=bne_iff_ne.2 (by omega); have hfin:=hid (hno.out (by have h9:=noWd (c:=c) (by omega); unfold okV; split; exact noLet (by omega); exact h9)); clear hnx hno; by_cases h0:k=0
    ·have g0:((k:Int) == 0)=true:=by rw [h0]; rfl
     replace h0:=hid h0; clear hcc hcl
     go_wp2_with fail
     go_ret; exact ⟨by rw [hfin.out]; rfl,hB.out⟩
    ·have g0:((k:Int) == 0)=false:=beq_eq_false_iff_ne.2 (by omega)
     clear hcc hcl
     go_wp2_with fail
     go_ret; exact ⟨by rw [hfin.out]; rfl,hB.out⟩
  ·have hkl:k=s.length:=by omega
   subst hkl; have q1:decide ((s.length:Int) < (s.length:Int))=false:=decide_eq_false (by omega); rcases s with _ | ⟨c,r⟩
   ·have hfin:res=false:=hres.out.symm
    subst hfin; clear hn hres
    go_wp2_with fail
    go_ret; exact ⟨rfl,hB.out⟩
   ·have hfin:res = !resB (c::r):=hres.out.symm.trans (by unfold varF; rw [nm_yes hn.out]; rfl)
    have hne:((c::r) == [])=false:=rfl; have hcall:=hid (fun w=>refReserved_any (c::r) w); clear hn hres; replace hfin:=hid hfin
    go_wp2_with fail
    refine (hcall.out _).mono ?_; rintro e w1 ⟨rfl,hb1⟩; have hB2:=hid (hB.out.trans (hb1.mono hB.out.size)); clear hb1
    go_wp2_with fail
    go_ret; exact ⟨by rw [hfin.out]; rfl,hB2.out⟩
theorem ext_t (s:List UInt8) (k:Nat):(ByteArray.mk s.toArray).extract 0 k=⟨(s.take k).toArray⟩:=by rw [ByteArray.extract_mk]; simp
def namedF (s:List UInt8):Bool:=decide (s.head? = some 84) || (decide (3 < s.length) && decide (s.take 3=[97,117,120]))
theorem named_ok {s:List UInt8} (h:namedF s=false):NmOk s:=by
 unfold namedF at h; simp only [Bool.or_eq_false_iff,decide_eq_false_iff_not,Bool.and_eq_false_iff] at h; refine ⟨h.1,fun e=>?_⟩; rcases h.2 with h2 | h2
 ·exact h2 e.1
 ·exact h2 e.2
set_option maxHeartbeats 1000000 in
set_option maxRecDepth 100000 in
theorem named_any (s:List UInt8) (w:World) (hs:s.length≤1048576):Calls Tryz.prog 6 #[sv s] w fun e w'=>e=.returned (.bool (namedF s))∧Below w.heap.size w w':=by
 obtain ⟨res,hres⟩:∃ r,r=namedF s:=⟨_,rfl⟩; rw [← hres]; have hB:=hid (Below.refl w.heap.size w); by_cases h0:s=[]
 ·subst h0
  replace hres:=hid (show res=false from hres)
  go_enter Tryz.func6,Tryz.ntmps6
  go_wp2_with fail
  go_ret; exact ⟨by rw [hres.out]; rfl,hB.out⟩
 ·have hl:=List.length_pos_iff.2 h0
  obtain ⟨c,hc⟩:∃ c,s[0]? = some c:=⟨_,List.getElem?_eq_getElem hl⟩; have hix:∀ kd W,(Instr.index 9 (.string ⟨s.toArray⟩) (.int kd 0)).run Tryz.prog W=.ok (.int .u8 c.toNat) W:=idx_str (P:=Tryz.prog) 9 (by kernel_rfl) s 0 c hc
  have hhd:s.head? = some c:=by rw [List.head?_eq_getElem?]; exact hc
  have q1:decide ((s.length:Int) > 0)=true:=decide_eq_true (by omega)
  have q1i:(0:Int) < (s.length:Int):=by omega
  by_cases h84:c=84
  ·subst h84
   have e1:(((84:UInt8).toNat:Int) == 84)=true:=rfl; replace hres:=hid (show res=true from by rw [hres]; unfold namedF; rw [hhd]; rfl); replace hhd:=hid hhd; replace h0:=hid h0; replace hl:=hid hl; replace hc:=hid hc
   go_enter Tryz.func6,Tryz.ntmps6
   go_wp2_with fail
   go_ret; exact ⟨by rw [hres.out]; rfl,hB.out⟩
  ·have e3:¬ c.toNat=84:=fun e=>h84 (UInt8.toNat_inj.1 e)
   have e1:((c.toNat:Int) == 84)=false:=by simp; omega
   have hn1:decide (s.head? = some 84)=false:=decide_eq_false (by rw [hhd]; simp; exact h84); by_cases h3:3 < s.length
   ·have q3:decide ((s.length:Int) > 3)=true:=decide_eq_true (by omega)
    have q3i:(3:Int) < (s.length:Int):=by omega
    have q3j:(3:Int)≤(s.length:Int):=by omega
    have hex:=ext_t s 3; obtain ⟨u,hu⟩:∃ u,u=s.take 3:=⟨_,rfl⟩; rw [← hu] at hex
    replace hres:=hid (show res=(u == [97,117,120]) from by
     rw [hres]; unfold namedF; rw [hn1,decide_eq_true h3,← hu]
     by_cases hx:u=[97,117,120] <;> simp [hx])
    by_cases hx:u=[97,117,120]
    ·have x1:(u == [97,117,120])=true:=by simpa using hx
     replace hres:=hid (show res=true from hres.out.trans x1); replace hx:=hid hx; replace hu:=hid hu; replace hhd:=hid hhd; replace h0:=hid h0; replace hl:=hid hl; replace hc:=hid hc; replace h3:=hid h3; replace h84:=hid h84; clear hn1
     go_enter Tryz.func6,Tryz.ntmps6
     go_wp2_with fail
     go_ret; exact ⟨by rw [hres.out]; rfl,hB.out⟩
    ·have x1:(u == [97,117,120])=false:=by simpa using hx
     replace hres:=hid (show res=false from hres.out.trans x1); replace hx:=hid hx; replace hu:=hid hu; replace hhd:=hid hhd; replace h0:=hid h0; replace hl:=hid hl; replace hc:=hid hc; replace h3:=hid h3; replace h84:=hid h84; clear hn1
     go_enter Tryz.func6,Tryz.ntmps6
     go_wp2_with fail
     go_ret; exact ⟨by rw [hres.out]; rfl,hB.out⟩
   ·have q3:decide ((s.length:Int) > 3)=false:=decide_eq_false (by omega)
    have q3i:¬ (3:Int) < (s.length:Int):=by omega
    replace hres:=hid (show res=false from by rw [hres]; unfold namedF; rw [hn1,decide_eq_false h3]; rfl); replace hhd:=hid hhd; replace h0:=hid h0; replace hl:=hid hl; replace hc:=hid hc; replace h3:=hid h3; replace h84:=hid h84; clear hn1
    go_enter Tryz.func6,Tryz.ntmps6
    go_wp2_with fail
    go_ret; exact ⟨by rw [hres.out]; rfl,hB.out⟩
/-- a name is scanned as one name -/
theorem scan_var {s:List UInt8} (h:varF s=true) (hl:s.length≤32768):∃ t,scanF s=.ok [t]∧t.kind=1:=by
 have hw:=wr_name (var_nm h).1 [] [] (fun c hc=>by simp at hc) (Scans.nil rfl); rw [List.append_nil,List.append_nil] at hw; obtain ⟨l',h1,h2⟩:=scanF_of hl hw
 match l',h2 with
 | [t],h2 =>
  refine ⟨t,h1,?_⟩; simp only [List.map_cons,List.map_nil,List.cons.injEq,and_true] at h2; exact congrArg (·.1) h2
 | [],h2=>simp at h2
 | _::_::_,h2=>simp at h2
def termS (s:List UInt8) (n:Int):List UInt8:=if varF s=true then s else itoa n
set_option maxHeartbeats 2000000 in
set_option maxRecDepth 100000 in
theorem ltrm_any (s:List UInt8) (n:Int) (w:World) (hs:s.length≤1000) (h0:-9223372036854775808≤n) (h1:n≤9223372036854775807) (hTab:Hid (Tab w)):Calls Tryz.prog 5 #[sv s,iv n] w fun e w'=>e=.returned (sv (termS s n))∧Below w.heap.size w w':=by
 obtain ⟨res,hres⟩:∃ r,r=termS s n:=⟨_,rfl⟩; rw [← hres]; have hsc:=hid (scan_any s w (by omega))
 have hv:=fun h=>scan_var (s:=s) h (by omega)
 have her:=fun x (h:scanF s=.error x)=>err_law h
 have hnm:=hid (fun W=>refName_any s W (by omega)); have htx:=hid (fun W (hW:Below w.heap.size w W)=>text_any n W h0 h1 (hid (hTab.out.below hW))); obtain ⟨vf,hvf⟩:∃ v,v=varF s:=⟨_,rfl⟩; rw [← hvf] at hnm hv; replace hres:=hid (show res=if vf=true then s else itoa n from by rw [hvf]; exact hres); replace hvf:=hid hvf; obtain ⟨rs,hrs⟩:∃ rs,rs=scanF s:=⟨_,rfl⟩; rw [← hrs] at hsc hv her; replace hrs:=hid hrs
 go_enter Tryz.func5,Tryz.ntmps5
 go_wp2_with fail
 with_reducible refine hsc.out.mono ?_
 rintro e w1 ⟨hb1,hpost⟩; have hA1:=hid hb1; clear hsc
 cases rs with
 | error x =>
  obtain ⟨xe,xp⟩:=x; replace hpost:e=.returned (.tuple #[.slice none 0 0,iv xe,iv xp]):=hpost; subst hpost; have hne:xe≠0:=(her _ rfl).1
  have d1:(xe == 0)=false:=by simpa using hne
  have d3:¬ xe=0:=hne
  have hvf0:vf=false:=by
   cases vf with
   | false=>rfl
   | true=>obtain ⟨t,h,_⟩:=hv rfl; cases h
  subst hvf0; replace hres:=hid (show res=itoa n from hres.out); have htx1:=hid (htx.out w1 hA1.out); clear her hv hb1 hne
  go_wp2_with fail
  with_reducible refine htx1.out.mono ?_
  rintro e w2 ⟨rfl,hb2⟩; have hA2:=hid (hA1.out.trans (hb2.mono hA1.out.size)); clear hb2
  go_wp2_with fail
  go_ret; exact ⟨by rw [hres.out]; rfl,hA2.out⟩
 | ok l =>
  obtain ⟨tv,rfl,hO⟩:=hpost; obtain ⟨ta,tc,rfl,-,-⟩:=hO.slice; clear her hb1
  have hno:∀ (hvf0:vf=false),Hid (res=itoa n):=fun h=>hid (by rw [hres.out,h]; rfl)
  by_cases hl1:l.length=1
  ·obtain ⟨x,rfl⟩:∃ x,l=[x]:=by
    match l,hl1 with
    | [x],_=>exact ⟨x,rfl⟩
    | [],h=>cases h
    | _::_::_,h=>simp at h
   obtain ⟨g,o,cs,hidx,-,hg,hc,hr⟩:=(hO.sl goodTk).at (P:=Tryz.prog) (t:=47) (i:=0) (by kernel_rfl) (fun _=>by kernel_rfl) (rfl:[x][0]? = some x); have hidx0:∀ kd W,(Instr.indexAt 47 (.slice ta 1 tc) (.int kd 0)).run Tryz.prog W=.ok (.pointer (some ⟨g,o,none⟩)) W:=hidx; have hr':cs=tkc x:=hr; subst hr'; clear hidx; have d0:w1.cell? ⟨g,o+0,none⟩=some (iv x.kind):=hc 0 _ rfl; rw [Nat.add_zero] at d0; clear hc hr; by_cases hk:x.kind=1
   ·have k1:(x.kind == 1)=true:=by simpa using hk
    cases vf with
    | true =>
     replace hres:=hid (show res=s from hres.out); replace hk:=hid hk; replace hO:=hid hO; have hnm1:=hid (hnm.out w1); clear hv hno
     go_wp2_with fail
     with_reducible refine (hnm.out _).mono ?_
     rintro e w2 ⟨rfl,hb2⟩; have hA2:=hid (show Below w.heap.size w w2 from by first | exact hA1.out.trans (hb2.mono hA1.out.size) | exact hA1.out.trans ((below_drewM (Below.refl _ _) _).trans (hb2.mono (by simp)) |>.mono hA1.out.size)); clear hb2
     go_wp2_with fail
     go_ret; exact ⟨by rw [hres.out]; rfl,hA2.out⟩
    | false =>
     replace hres:=hno rfl; replace hk:=hid hk; replace hO:=hid hO; clear hv hno
     go_wp2_with fail
     with_reducible refine (hnm.out _).mono ?_
     rintro e w2 ⟨rfl,hb2⟩; have hA2:=hid (show Below w.heap.size w w2 from by first | exact hA1.out.trans (hb2.mono hA1.out.size) | exact hA1.out.trans ((below_drewM (Below.refl _ _) _).trans (hb2.mono (by simp)) |>.mono hA1.out.size)); have htx1:=hid (htx.out w2 hA2.out); clear hb2
     go_wp2_with fail
     with_reducible refine htx1.out.mono ?_
     rintro e w3 ⟨rfl,hb3⟩; have hA3:=hid (hA2.out.trans (hb3.mono hA2.out.size)); clear hb3
     go_wp2_with fail
     go_ret; exact ⟨by rw [hres.out]; rfl,hA3.out⟩
   ·have k1:(x.kind == 1)=false:=by simpa using hk
    have hvf0:vf=false:=by
     cases vf with
     | false=>rfl
     | true =>
      obtain ⟨t,h,ht⟩:=hv rfl; injection h with h; injection h with h; subst h; exact absurd ht hk
    replace hres:=hno hvf0; have htx1:=hid (htx.out w1 hA1.out); replace hk:=hid hk; replace hO:=hid hO; clear hv hno
    go_wp2_with fail
    with_reducible refine htx1.out.mono ?_
    rintro e w2 ⟨rfl,hb2⟩; have hA2:=hid (hA1.out.trans (hb2.mono hA1.out.size)); clear hb2
    go_wp2_with fail
    go_ret; exact ⟨by rw [hres.out]; rfl,hA2.out⟩
  ·have l1:((l.length:Int) == 1)=false:=by simp; omega
   have hvf0:vf=false:=by
    cases vf with
    | false=>rfl
    | true =>
     obtain ⟨t,h,ht⟩:=hv rfl; injection h with h; subst h; exact absurd rfl hl1
   replace hres:=hno hvf0; have htx1:=hid (htx.out w1 hA1.out); replace hl1:=hid hl1; replace hO:=hid hO; clear hv hno
   go_wp2_with fail
   with_reducible refine htx1.out.mono ?_
   rintro e w2 ⟨rfl,hb2⟩; have hA2:=hid (hA1.out.trans (hb2.mono hA1.out.size)); clear hb2
   go_wp2_with fail
   go_ret; exact ⟨by rw [hres.out]; rfl,hA2.out⟩
end Go.Proofs.YtbkdakbhagjkhaaGreatDoor
set_option linter.unusedSimpArgs false
namespace Go.Proofs.YtbkdakbhagjkhaaGreatDoor
open Go.RowKit
open Go.Lib (hid byteCells itoa decDigits itoa_nonneg itoa_neg)
theorem TmTok.kinds {tk:List Tk} {t:Tm} (h:TmTok tk t) (hv:t.var=[]):∀ x∈tk,x.kind≠1:=by
 cases h with
 | int n=>intro x hx; simp at hx; subst hx; exact (by decide:(2:Int)≠1)
 | neg n =>
  intro x hx; simp at hx; rcases hx with rfl | rfl
  ·exact (by decide:(4:Int)≠1)
  ·exact (by decide:(2:Int)≠1)
 | text s=>intro x hx; simp at hx; subst hx; exact (by decide:(3:Int)≠1)
 | var s hs=>exact absurd hv (var_ne hs).1
theorem let_57 {c:UInt8} (h:isLet c=true):57 < c.toNat:=by
 simp only [isLet,Bool.or_eq_true,Bool.and_eq_true,decide_eq_true_eq] at h; omega
theorem nolet_nm {c:UInt8} {r:List UInt8} (h:isLet c=false):varF (c::r)=false:=by
 unfold varF isNm; simp [h]
/-- what a term of AskTimes is -/
theorem ti_of {s:List UInt8} {m:Int} (h0:-9007199254740992≤m) (h1:m≤9007199254740992) (hn:namedF (termS s m)=false):∃ (A:List Tk × Tm) (ch:UInt8),TI (termS s m) A.1 A.2∧(termS s m)[0]? = some ch∧decide ((ch.toNat:Int) > 57)=isV A.2:=by
 by_cases hv:varF s=true
 ·have e:termS s m=s:=if_pos hv
  rw [e] at hn ⊢; obtain ⟨c,r,hs,hc,hall⟩:=nm_parts (var_nm hv).1; refine ⟨([tkN s],tmVar s),c,⟨.var s hv,wr_name (var_nm hv).1,fun x hx hk=>?_,fun _=>⟨rfl,hv⟩,fun h=>absurd h (var_ne hv).1⟩,by rw [hs]; rfl,?_⟩
  ·simp at hx; subst hx; exact named_ok hn
  ·have:=let_57 hc
   rw [decide_eq_true (by omega)]; unfold isV; rw [show (tmVar s).var=s from rfl,decide_eq_false (var_ne hv).1]; rfl
 ·have e:termS s m=itoa m:=if_neg hv
  rw [e] at hn ⊢; obtain ⟨tk,w1,w2⟩:=wr_itoa m h0 h1
  have hch:∃ c r,itoa m=c::r∧isLet c=false∧c.toNat≤57:=by
   by_cases hz:m < 0
   ·exact ⟨45,_,itoa_neg_parts hz,by decide,by decide⟩
   ·obtain ⟨b1,b2,b3⟩:=int_ok m (by omega) h1
    obtain ⟨c,u,hcu⟩:=all_pos b3; rw [hcu] at b2
    have hc:isDg c=true:=by simp only [List.all_cons,Bool.and_eq_true] at b2; exact b2.1
    rw [isDg_iff] at hc; exact ⟨c,u,hcu,(dg_ne (by rw [isDg_iff]; exact hc)).2.2,by omega⟩
  obtain ⟨c,r,hcr,hcl,hc57⟩:=hch; refine ⟨(tk,tmInt m),c,⟨w2,w1,fun x hx hk=>absurd hk (w2.kinds rfl x hx),fun h=>absurd rfl h,fun _=>by rw [hcr]; exact nolet_nm hcl⟩,by rw [hcr]; rfl,?_⟩; rw [decide_eq_false (by omega)]; rfl
theorem term_len {s:List UInt8} {m:Int} (h0:-9007199254740992≤m) (h1:m≤9007199254740992) (hs:s.length≤90):(termS s m).length≤90∧termS s m≠[]:=by
 unfold termS; split
 ·rename_i h; exact ⟨hs,(var_ne h).1⟩
 ·have:=itoaW_len m (by omega) (by omega)
  refine ⟨by omega,?_⟩; by_cases hz:m < 0
  ·rw [itoa_neg_parts hz]; simp
  ·exact (int_ok m (by omega) h1).2.2
theorem sum_mk (a b:List UInt8):ByteArray.mk a.toArray++ByteArray.mk b.toArray=⟨(a++b).toArray⟩:=by simp [ByteArray.mk_append_mk]
/-- the two texts of a kind, made: what the switch leaves -/
def Made (s1 s2:List UInt8):Prop:=s1.length≤2000∧s2.length≤2000∧∃ Q,parseF s1=.ok Q∧parseF s2=.ok Q
set_option maxHeartbeats 8000000 in
set_option maxRecDepth 100000 in
theorem AskTimes_walk (kd:Int) (hk0:0≤kd) (hk1:kd≤255) (x y z:List UInt8) (n:Int) (hn0:-9223372036854775808≤n) (hn1:n≤9223372036854775807) (hlx:x.length≤140737488355328) (hly:y.length≤140737488355328) (hlz:z.length≤140737488355328) (w:World) (hTab:Hid (Tab w)) :
  Calls Tryz.prog 3 #[.int .u8 kd,sv x,sv y,sv z,iv n] w fun e w'=>e=.returned (.bool true)∧Below w.heap.size w w':=by
 have hsm:=hid (small_any w hTab.out); have hlt:=hid (fun s m W (hs:s.length≤1000) (h0:-9223372036854775808≤m) (h1:m≤9223372036854775807) (hW:Below w.heap.size w W)=>ltrm_any s m W hs h0 h1 (hid (hTab.out.below hW))); have hnm:=hid (fun s W (hs:s.length≤1048576)=>named_any s W hs); have hps:=hid (fun (s:List UInt8) W (hs:s.length≤1000000) (hW:Below w.heap.size w W)=>parse_g s W hs (hTab.out.below hW)); have hA0:=hid (Below.refl w.heap.size w); obtain ⟨m1,hm1⟩:∃ m:Int,m=min n 9007199254740992:=⟨_,rfl⟩; obtain ⟨m,hm⟩:∃ m:Int,m=max m1 (-9007199254740992):=⟨_,rfl⟩
 have hmlo:-9007199254740992≤m:=by rw [hm]; omega
 have hmhi:m≤9007199254740992:=by rw [hm,hm1]; omega
 have g1:=hm1.symm; have g2:=hm.symm; clear hm hm1
 have e0:IntKind.i64.wrap ((x.length:Int)+(y.length:Int))=(x.length:Int)+(y.length:Int):=by rw [IntKind.wrap_i64]; omega
 have e1:IntKind.i64.wrap ((x.length:Int)+(y.length:Int)+(z.length:Int))=(x.length:Int)+(y.length:Int)+(z.length:Int):=by rw [IntKind.wrap_i64]; omega
 replace hTab:=hid hTab; by_cases htot:90 < x.length+y.length+z.length
 ·have kt:decide ((x.length:Int)+(y.length:Int)+(z.length:Int) > 90)=true:=decide_eq_true (by omega)
  have kti:(90:Int) < (x.length:Int)+(y.length:Int)+(z.length:Int):=by omega
  replace htot:=hid htot
  go_enter Tryz.func3,Tryz.ntmps3
  go_wp2_with fail
  with_reducible refine hsm.out.mono ?_
  rintro e w1 ⟨rfl,hb1⟩; have hA1:=hid hb1; clear hb1 hsm
  go_wp2_with fail
  go_ret; exact ⟨rfl,hA1.out⟩
 ·have kt:decide ((x.length:Int)+(y.length:Int)+(z.length:Int) > 90)=false:=decide_eq_false (by omega)
  have kti:¬ (90:Int) < (x.length:Int)+(y.length:Int)+(z.length:Int):=by omega
  have hx90:x.length≤90:=by omega
  have hy90:y.length≤90:=by omega
  have hz90:z.length≤90:=by omega
  replace htot:=hid htot
  go_enter Tryz.func3,Tryz.ntmps3
  go_wp2_with fail
  with_reducible refine hsm.out.mono ?_
  rintro e w1 ⟨rfl,hb1⟩; have hA1:=hid hb1; clear hb1 hsm; have hta:=hlt.out x m w1 (by omega) (by omega) (by omega) hA1.out; have htla:=term_len (s:=x) hmlo hmhi hx90; have htia:=ti_of (s:=x) hmlo hmhi; obtain ⟨a,ha⟩:∃ qq,qq=termS x m:=⟨_,rfl⟩; rw [← ha] at hta htla htia; replace ha:=hid ha; replace hta:=hid hta; replace htia:=hid htia; obtain ⟨hla,hna⟩:=htla
  go_wp2_with fail
  with_reducible refine hta.out.mono ?_
  rintro e w2 ⟨rfl,hb⟩; have hA2:=hid (hA1.out.trans (hb.mono hA1.out.size))
  have hza:(a == [])=false:=by simpa using hna
  replace hna:=hid hna; clear hb hta; have htb:=hlt.out y m w2 (by omega) (by omega) (by omega) hA2.out; have htlb:=term_len (s:=y) hmlo hmhi hy90; have htib:=ti_of (s:=y) hmlo hmhi; obtain ⟨b,hb⟩:∃ qq,qq=termS y m:=⟨_,rfl⟩; rw [← hb] at htb htlb htib; replace hb:=hid hb; replace htb:=hid htb; replace htib:=hid htib; obtain ⟨hlb,hnb⟩:=htlb
  go_wp2_with fail
  with_reducible refine htb.out.mono ?_
  rintro e w3 ⟨rfl,hb⟩; have hA3:=hid (hA2.out.trans (hb.mono hA2.out.size))
  have hzb:(b == [])=false:=by simpa using hnb
  replace hnb:=hid hnb; clear hb htb; have htc:=hlt.out z m w3 (by omega) (by omega) (by omega) hA3.out; have htlc:=term_len (s:=z) hmlo hmhi hz90; have htic:=ti_of (s:=z) hmlo hmhi; obtain ⟨c,hc⟩:∃ qq,qq=termS z m:=⟨_,rfl⟩; rw [← hc] at htc htlc htic; replace hc:=hid hc; replace htc:=hid htc; replace htic:=hid htic; obtain ⟨hlc,hnc⟩:=htlc
  go_wp2_with fail
  with_reducible refine htc.out.mono ?_
  rintro e w4 ⟨rfl,hb⟩; have hA4:=hid (hA3.out.trans (hb.mono hA3.out.size))
  have hzc:(c == [])=false:=by simpa using hnc
  replace hnc:=hid hnc; clear hb htc; have hnn:=hnm.out a w4 (by omega); obtain ⟨na,hba⟩:∃ qq,qq=namedF a:=⟨_,rfl⟩; rw [← hba] at hnn; replace hba:=hid hba; replace hnn:=hid hnn
  go_wp2_with fail
  with_reducible refine hnn.out.mono ?_
  rintro e w5 ⟨rfl,hb⟩; have hA5:=hid (hA4.out.trans (hb.mono hA4.out.size)); clear hb hnn
  cases na with
  | true =>
   go_wp2_with fail
   go_ret; exact ⟨rfl,hA5.out⟩
  | false =>
   have hnn:=hnm.out b w5 (by omega); obtain ⟨nb,hbb⟩:∃ qq,qq=namedF b:=⟨_,rfl⟩; rw [← hbb] at hnn; replace hbb:=hid hbb; replace hnn:=hid hnn
   go_wp2_with fail
   with_reducible refine hnn.out.mono ?_
   rintro e w6 ⟨rfl,hb⟩; have hA6:=hid (hA5.out.trans (hb.mono hA5.out.size)); clear hb hnn
   cases nb with
   | true =>
    go_wp2_with fail
    go_ret; exact ⟨rfl,hA6.out⟩
   | false =>
    have hnn:=hnm.out c w6 (by omega); obtain ⟨nc,hbc⟩:∃ qq,qq=namedF c:=⟨_,rfl⟩; rw [← hbc] at hnn; replace hbc:=hid hbc; replace hnn:=hid hnn
    go_wp2_with fail
    with_reducible refine hnn.out.mono ?_
    rintro e w7 ⟨rfl,hb⟩; have hA7:=hid (hA6.out.trans (hb.mono hA6.out.size)); clear hb hnn
    cases nc with
    | true =>
     go_wp2_with fail
     go_ret; exact ⟨rfl,hA7.out⟩
    | false =>
     obtain ⟨A,ca,tia,hca,hva⟩:=htia.out hba.out.symm; have ixa:∀ kd W,(Instr.index 9 (.string ⟨a.toArray⟩) (.int kd 0)).run Tryz.prog W=.ok (.int .u8 ca.toNat) W:=idx_str (P:=Tryz.prog) 9 (by kernel_rfl) a 0 ca hca; replace tia:=hid tia; replace hca:=hid hca; obtain ⟨B,cb,tib,hcb,hvb⟩:=htib.out hbb.out.symm; have ixb:∀ kd W,(Instr.index 9 (.string ⟨b.toArray⟩) (.int kd 0)).run Tryz.prog W=.ok (.int .u8 cb.toNat) W:=idx_str (P:=Tryz.prog) 9 (by kernel_rfl) b 0 cb hcb; replace tib:=hid tib; replace hcb:=hid hcb; obtain ⟨C,cc,tic,hcc,hvc⟩:=htic.out hbc.out.symm; have ixc:∀ kd W,(Instr.index 9 (.string ⟨c.toArray⟩) (.int kd 0)).run Tryz.prog W=.ok (.int .u8 cc.toNat) W:=idx_str (P:=Tryz.prog) 9 (by kernel_rfl) c 0 cc hcc; replace tic:=hid tic
     replace hcc:=hid hcc; obtain ⟨va,hva2⟩:∃ v,v=isV A.2:=⟨_,rfl⟩; obtain ⟨vb,hvb2⟩:∃ v,v=isV B.2:=⟨_,rfl⟩; rw [← hva2] at hva; rw [← hvb2] at hvb; replace hva2:=hid hva2; replace hvb2:=hid hvb2; clear hvc
     obtain ⟨v1,hv1⟩:∃ v,v=if va=true then [44,32]++a else ([]:List UInt8):=⟨_,rfl⟩
     obtain ⟨v2,hv2⟩:∃ v,v=vsS a b va vb:=⟨_,rfl⟩
     have hv1l:v1.length≤92:=by rw [hv1]; split <;> simp <;> omega
     have hv2l:v2.length≤184:=by rw [hv2]; unfold vsS; split <;> split <;> simp <;> omega
     replace hv1:=hid hv1; replace hv2:=hid hv2
     go_upto_if 70 with (fail)
     go_cut [17] from 71 to 72 (fun v wx=>v=sv v1∧w7=wx)
     case first =>
      cases va with
      | true =>
       have e:v1=[44,32]++a:=hv1.out
       have hcat:ByteArray.mk #[44,32]++ByteArray.mk a.toArray=⟨v1.toArray⟩:=by rw [e]; exact sum_mk [44,32] a
       have hlN:¬ 9223372036854775807 < 2+a.length:=by omega
       replace e:=hid e
       go_wp2_with fail
       go_meet
       case rel=>exact ⟨rfl,rfl⟩
      | false =>
       have e:v1=[]:=hv1.out; subst e
       go_wp2_with fail
       go_meet
       case rel=>exact ⟨rfl,rfl⟩
     case rest =>
      obtain ⟨rfl,rfl⟩:=hcut; clear hva; obtain ⟨tb,htb⟩:∃ t,t=(vb && !decide (b=a)):=⟨_,rfl⟩; replace htb:=hid htb
      go_upto_region 16 with (fail)
      go_cut [80] from 73 to 80 (fun v wx=>v=.bool tb∧w7=wx)
      case first =>
       cases vb with
       | false =>
        have et:tb=false:=htb.out; subst et
        go_wp2_with fail
        go_meet
        case rel=>exact ⟨rfl,rfl⟩
       | true =>
        by_cases hba:b=a
        ·have et:tb=false:=by rw [htb.out]; simp [hba]
         have x1:(b == a)=true:=by simpa using hba
         have x2:(b != a)=false:=by simp [bne,x1]
         replace hba:=hid hba; subst et
         go_wp2_with fail
         go_meet
         case rel=>exact ⟨rfl,rfl⟩
        ·have et:tb=true:=by rw [htb.out]; simp [hba]
         have x1:(b == a)=false:=by simpa using hba
         have x2:(b != a)=true:=by simp [bne,x1]
         replace hba:=hid hba; subst et
         go_wp2_with fail
         go_meet
         case rel=>exact ⟨rfl,rfl⟩
      case rest =>
      obtain ⟨rfl,rfl⟩:=hcut
      go_upto_if 80 with (fail)
      go_cut [17] from 81 to 84 (fun v wx=>v=sv v2∧w7=wx)
      case first =>
       cases tb with
       | false =>
        have e:v2=v1:=by
         rw [hv2.out,hv1.out]; unfold vsS; rw [if_neg (show ¬ (vb=true∧b≠a) from fun h=>by have:=htb.out; simp [h.1,h.2] at this),List.append_nil]
        subst e
        go_wp2_with fail
        go_meet
        case rel=>exact ⟨rfl,rfl⟩
       | true =>
        have hvba:vb=true∧b≠a:=by have:=htb.out; simpa using this.symm
        obtain ⟨v3,hv3⟩:∃ v,v=v1++[44,32]:=⟨_,rfl⟩
        have e:v2=v3++b:=by rw [hv3,hv2.out,hv1.out]; unfold vsS; rw [if_pos hvba,List.append_assoc]
        have hcat1:ByteArray.mk v1.toArray++ByteArray.mk #[44,32]=⟨v3.toArray⟩:=by rw [hv3]; exact sum_mk v1 [44,32]
        have hcat2:ByteArray.mk v3.toArray++ByteArray.mk b.toArray=⟨v2.toArray⟩:=by rw [e]; exact sum_mk v3 b
        have hl3:v3.length=v1.length+2:=by rw [hv3]; simp
        have hlN:¬ 9223372036854775807 < v1.length+2:=by omega
        have hlN2:¬ 9223372036854775807 < v3.length+b.length:=by omega
        replace hvba:=hid hvba; replace hl3:=hid hl3; replace hv3:=hid hv3; replace e:=hid e
        go_wp2_with fail
        go_meet
        case rel=>exact ⟨rfl,rfl⟩
      case rest =>
       obtain ⟨rfl,rfl⟩:=hcut; clear hvb ixa ixb ixc; have hv2e:Hid (v2=vsS a b (isV A.2) (isV B.2)):=hid (by rw [hv2.out,hva2.out,hvb2.out]); obtain ⟨r,hr⟩:∃ r:Int,r=kd % 5:=⟨_,rfl⟩
       have hr5:r=0∨r=1∨r=2∨r=3∨r=4:=by omega
       have hrt:kd.tmod 5=r:=by rw [hr]; exact Int.tmod_eq_emod_of_nonneg hk0
       have hre:kd % 5=r:=hr.symm; replace hr:=hid hr
       go_upto_block 0 with (fail)
       go_cut [15,16] from 87 to 208 (fun v u wx=>∃ s1 s2,v=sv s1∧u=sv s2∧w7=wx∧Hid (Made s1 s2))
       case first =>
        rcases hr5 with rfl | rfl | rfl | rfl | rfl
        ·skip
         obtain ⟨s0,hs0⟩:∃ s:List UInt8,s=[114,40,41,32,58,45,32,111,110,99,101,32,112,40]++a:=⟨_,rfl⟩
         have qs0:ByteArray.mk #[114,40,41,32,58,45,32,111,110,99,101,32,112,40]++ByteArray.mk a.toArray=⟨s0.toArray⟩:=by rw [hs0]; exact sum_mk [114,40,41,32,58,45,32,111,110,99,101,32,112,40] a
         have ls0:s0.length=14+a.length:=by rw [hs0]; exact List.length_append
         have ms0:¬ 9223372036854775807 < 14+a.length:=by omega
         obtain ⟨s1,hs1⟩:∃ s:List UInt8,s=s0++[44,32,95,44,32]:=⟨_,rfl⟩
         have qs1:ByteArray.mk s0.toArray++ByteArray.mk #[44,32,95,44,32]=⟨s1.toArray⟩:=by rw [hs1]; exact sum_mk s0 [44,32,95,44,32]
         have ls1:s1.length=s0.length+5:=by rw [hs1]; exact List.length_append
         have ms1:¬ 9223372036854775807 < s0.length+5:=by omega
         obtain ⟨s2,hs2⟩:∃ s:List UInt8,s=s1++b:=⟨_,rfl⟩
         have qs2:ByteArray.mk s1.toArray++ByteArray.mk b.toArray=⟨s2.toArray⟩:=by rw [hs2]; exact sum_mk s1 b
         have ls2:s2.length=s1.length+b.length:=by rw [hs2]; exact List.length_append
         have ms2:¬ 9223372036854775807 < s1.length+b.length:=by omega
         obtain ⟨s3,hs3⟩:∃ s:List UInt8,s=s2++[41,32,98,101,102,111,114,101,32]:=⟨_,rfl⟩
         have qs3:ByteArray.mk s2.toArray++ByteArray.mk #[41,32,98,101,102,111,114,101,32]=⟨s3.toArray⟩:=by rw [hs3]; exact sum_mk s2 [41,32,98,101,102,111,114,101,32]
         have ls3:s3.length=s2.length+9:=by rw [hs3]; exact List.length_append
         have ms3:¬ 9223372036854775807 < s2.length+9:=by omega
         obtain ⟨s4,hs4⟩:∃ s:List UInt8,s=s3++c:=⟨_,rfl⟩
         have qs4:ByteArray.mk s3.toArray++ByteArray.mk c.toArray=⟨s4.toArray⟩:=by rw [hs4]; exact sum_mk s3 c
         have ls4:s4.length=s3.length+c.length:=by rw [hs4]; exact List.length_append
         have ms4:¬ 9223372036854775807 < s3.length+c.length:=by omega
         obtain ⟨s5,hs5⟩:∃ s:List UInt8,s=s4++[46,32,63,32,114,40,41]:=⟨_,rfl⟩
         have qs5:ByteArray.mk s4.toArray++ByteArray.mk #[46,32,63,32,114,40,41]=⟨s5.toArray⟩:=by rw [hs5]; exact sum_mk s4 [46,32,63,32,114,40,41]
         have ls5:s5.length=s4.length+7:=by rw [hs5]; exact List.length_append
         have ms5:¬ 9223372036854775807 < s4.length+7:=by omega
         obtain ⟨t0,ht0⟩:∃ s:List UInt8,s=[114,40,41,32,58,45,32,112,40,84,49,44,32]++a:=⟨_,rfl⟩
         have qt0:ByteArray.mk #[114,40,41,32,58,45,32,112,40,84,49,44,32]++ByteArray.mk a.toArray=⟨t0.toArray⟩:=by rw [ht0]; exact sum_mk [114,40,41,32,58,45,32,112,40,84,49,44,32] a
         have lt0:t0.length=13+a.length:=by rw [ht0]; exact List.length_append
         have mt0:¬ 9223372036854775807 < 13+a.length:=by omega
         obtain ⟨t1,ht1⟩:∃ s:List UInt8,s=t0++[44,32,95,44,32]:=⟨_,rfl⟩
         have qt1:ByteArray.mk t0.toArray++ByteArray.mk #[44,32,95,44,32]=⟨t1.toArray⟩:=by rw [ht1]; exact sum_mk t0 [44,32,95,44,32]
         have lt1:t1.length=t0.length+5:=by rw [ht1]; exact List.length_append
         have mt1:¬ 9223372036854775807 < t0.length+5:=by omega
         obtain ⟨t2,ht2⟩:∃ s:List UInt8,s=t1++b:=⟨_,rfl⟩
         have qt2:ByteArray.mk t1.toArray++ByteArray.mk b.toArray=⟨t2.toArray⟩:=by rw [ht2]; exact sum_mk t1 b
         have lt2:t2.length=t1.length+b.length:=by rw [ht2]; exact List.length_append
         have mt2:¬ 9223372036854775807 < t1.length+b.length:=by omega
         obtain ⟨t3,ht3⟩:∃ s:List UInt8,s=t2++[41,44,32,84,49,32,60,32]:=⟨_,rfl⟩
         have qt3:ByteArray.mk t2.toArray++ByteArray.mk #[41,44,32,84,49,32,60,32]=⟨t3.toArray⟩:=by rw [ht3]; exact sum_mk t2 [41,44,32,84,49,32,60,32]
         have lt3:t3.length=t2.length+8:=by rw [ht3]; exact List.length_append
         have mt3:¬ 9223372036854775807 < t2.length+8:=by omega
         obtain ⟨t4,ht4⟩:∃ s:List UInt8,s=t3++c:=⟨_,rfl⟩
         have qt4:ByteArray.mk t3.toArray++ByteArray.mk c.toArray=⟨t4.toArray⟩:=by rw [ht4]; exact sum_mk t3 c
         have lt4:t4.length=t3.length+c.length:=by rw [ht4]; exact List.length_append
         have mt4:¬ 9223372036854775807 < t3.length+c.length:=by omega
         obtain ⟨t5,ht5⟩:∃ s:List UInt8,s=t4++[46,32,63,32,114,40,41]:=⟨_,rfl⟩
         have qt5:ByteArray.mk t4.toArray++ByteArray.mk #[46,32,63,32,114,40,41]=⟨t5.toArray⟩:=by rw [ht5]; exact sum_mk t4 [46,32,63,32,114,40,41]
         have lt5:t5.length=t4.length+7:=by rw [ht5]; exact List.length_append
         have mt5:¬ 9223372036854775807 < t4.length+7:=by omega
         have hE1:s5=txo0 a b c:=by rw [hs5,hs4,hs3,hs2,hs1,hs0]; rfl
         have hE2:t5=txt0 a b c:=by rw [ht5,ht4,ht3,ht2,ht1,ht0]; rfl
         have hL1:s5.length≤2000:=by omega
         have hL2:t5.length≤2000:=by omega
         have hMd:Hid (Made s5 t5):=hid ⟨hL1,hL2,by
          rw [hE1,hE2]; exact times0 tia.out tib.out tic.out (by rw [← hE1]; omega) (by rw [← hE2]; omega)⟩
         replace hs0:=hid hs0; replace hs1:=hid hs1; replace hs2:=hid hs2; replace hs3:=hid hs3; replace hs4:=hid hs4; replace hs5:=hid hs5; replace ht0:=hid ht0; replace ht1:=hid ht1; replace ht2:=hid ht2; replace ht3:=hid ht3; replace ht4:=hid ht4; replace ht5:=hid ht5; replace ls0:=hid ls0; replace ls1:=hid ls1; replace ls2:=hid ls2; replace ls3:=hid ls3; replace ls4:=hid ls4; replace ls5:=hid ls5; replace lt0:=hid lt0; replace lt1:=hid lt1; replace lt2:=hid lt2; replace lt3:=hid lt3; replace lt4:=hid lt4; replace lt5:=hid lt5; replace hE1:=hid hE1; replace hE2:=hid hE2; replace hL1:=hid hL1; replace hL2:=hid hL2
         go_wp2_with fail
         go_meet
         case rel=>exact ⟨_,_,rfl,rfl,rfl,hMd⟩
        ·skip
         obtain ⟨s0,hs0⟩:∃ s:List UInt8,s=[114,40,41,32,58,45,32,111,110,99,101,32,112,40]++a:=⟨_,rfl⟩
         have qs0:ByteArray.mk #[114,40,41,32,58,45,32,111,110,99,101,32,112,40]++ByteArray.mk a.toArray=⟨s0.toArray⟩:=by rw [hs0]; exact sum_mk [114,40,41,32,58,45,32,111,110,99,101,32,112,40] a
         have ls0:s0.length=14+a.length:=by rw [hs0]; exact List.length_append
         have ms0:¬ 9223372036854775807 < 14+a.length:=by omega
         obtain ⟨s1,hs1⟩:∃ s:List UInt8,s=s0++[44,32,95,44,32]:=⟨_,rfl⟩
         have qs1:ByteArray.mk s0.toArray++ByteArray.mk #[44,32,95,44,32]=⟨s1.toArray⟩:=by rw [hs1]; exact sum_mk s0 [44,32,95,44,32]
         have ls1:s1.length=s0.length+5:=by rw [hs1]; exact List.length_append
         have ms1:¬ 9223372036854775807 < s0.length+5:=by omega
         obtain ⟨s2,hs2⟩:∃ s:List UInt8,s=s1++b:=⟨_,rfl⟩
         have qs2:ByteArray.mk s1.toArray++ByteArray.mk b.toArray=⟨s2.toArray⟩:=by rw [hs2]; exact sum_mk s1 b
         have ls2:s2.length=s1.length+b.length:=by rw [hs2]; exact List.length_append
         have ms2:¬ 9223372036854775807 < s1.length+b.length:=by omega
         obtain ⟨s3,hs3⟩:∃ s:List UInt8,s=s2++[41,32,97,102,116,101,114,32]:=⟨_,rfl⟩
         have qs3:ByteArray.mk s2.toArray++ByteArray.mk #[41,32,97,102,116,101,114,32]=⟨s3.toArray⟩:=by rw [hs3]; exact sum_mk s2 [41,32,97,102,116,101,114,32]
         have ls3:s3.length=s2.length+8:=by rw [hs3]; exact List.length_append
         have ms3:¬ 9223372036854775807 < s2.length+8:=by omega
         obtain ⟨s4,hs4⟩:∃ s:List UInt8,s=s3++c:=⟨_,rfl⟩
         have qs4:ByteArray.mk s3.toArray++ByteArray.mk c.toArray=⟨s4.toArray⟩:=by rw [hs4]; exact sum_mk s3 c
         have ls4:s4.length=s3.length+c.length:=by rw [hs4]; exact List.length_append
         have ms4:¬ 9223372036854775807 < s3.length+c.length:=by omega
         obtain ⟨s5,hs5⟩:∃ s:List UInt8,s=s4++[46,32,63,32,114,40,41]:=⟨_,rfl⟩
         have qs5:ByteArray.mk s4.toArray++ByteArray.mk #[46,32,63,32,114,40,41]=⟨s5.toArray⟩:=by rw [hs5]; exact sum_mk s4 [46,32,63,32,114,40,41]
         have ls5:s5.length=s4.length+7:=by rw [hs5]; exact List.length_append
         have ms5:¬ 9223372036854775807 < s4.length+7:=by omega
         obtain ⟨t0,ht0⟩:∃ s:List UInt8,s=[114,40,41,32,58,45,32,112,40,84,49,44,32]++a:=⟨_,rfl⟩
         have qt0:ByteArray.mk #[114,40,41,32,58,45,32,112,40,84,49,44,32]++ByteArray.mk a.toArray=⟨t0.toArray⟩:=by rw [ht0]; exact sum_mk [114,40,41,32,58,45,32,112,40,84,49,44,32] a
         have lt0:t0.length=13+a.length:=by rw [ht0]; exact List.length_append
         have mt0:¬ 9223372036854775807 < 13+a.length:=by omega
         obtain ⟨t1,ht1⟩:∃ s:List UInt8,s=t0++[44,32,95,44,32]:=⟨_,rfl⟩
         have qt1:ByteArray.mk t0.toArray++ByteArray.mk #[44,32,95,44,32]=⟨t1.toArray⟩:=by rw [ht1]; exact sum_mk t0 [44,32,95,44,32]
         have lt1:t1.length=t0.length+5:=by rw [ht1]; exact List.length_append
         have mt1:¬ 9223372036854775807 < t0.length+5:=by omega
         obtain ⟨t2,ht2⟩:∃ s:List UInt8,s=t1++b:=⟨_,rfl⟩
         have qt2:ByteArray.mk t1.toArray++ByteArray.mk b.toArray=⟨t2.toArray⟩:=by rw [ht2]; exact sum_mk t1 b
         have lt2:t2.length=t1.length+b.length:=by rw [ht2]; exact List.length_append
         have mt2:¬ 9223372036854775807 < t1.length+b.length:=by omega
         obtain ⟨t3,ht3⟩:∃ s:List UInt8,s=t2++[41,44,32]:=⟨_,rfl⟩
         have qt3:ByteArray.mk t2.toArray++ByteArray.mk #[41,44,32]=⟨t3.toArray⟩:=by rw [ht3]; exact sum_mk t2 [41,44,32]
         have lt3:t3.length=t2.length+3:=by rw [ht3]; exact List.length_append
         have mt3:¬ 9223372036854775807 < t2.length+3:=by omega
         obtain ⟨t4,ht4⟩:∃ s:List UInt8,s=t3++c:=⟨_,rfl⟩
         have qt4:ByteArray.mk t3.toArray++ByteArray.mk c.toArray=⟨t4.toArray⟩:=by rw [ht4]; exact sum_mk t3 c
         have lt4:t4.length=t3.length+c.length:=by rw [ht4]; exact List.length_append
         have mt4:¬ 9223372036854775807 < t3.length+c.length:=by omega
         obtain ⟨t5,ht5⟩:∃ s:List UInt8,s=t4++[32,60,32,84,49,46,32,63,32,114,40,41]:=⟨_,rfl⟩
         have qt5:ByteArray.mk t4.toArray++ByteArray.mk #[32,60,32,84,49,46,32,63,32,114,40,41]=⟨t5.toArray⟩:=by rw [ht5]; exact sum_mk t4 [32,60,32,84,49,46,32,63,32,114,40,41]
         have lt5:t5.length=t4.length+12:=by rw [ht5]; exact List.length_append
         have mt5:¬ 9223372036854775807 < t4.length+12:=by omega
         have hE1:s5=txo1 a b c:=by rw [hs5,hs4,hs3,hs2,hs1,hs0]; rfl
         have hE2:t5=txt1 a b c:=by rw [ht5,ht4,ht3,ht2,ht1,ht0]; rfl
         have hL1:s5.length≤2000:=by omega
         have hL2:t5.length≤2000:=by omega
         have hMd:Hid (Made s5 t5):=hid ⟨hL1,hL2,by
          rw [hE1,hE2]; exact times1 tia.out tib.out tic.out (by rw [← hE1]; omega) (by rw [← hE2]; omega)⟩
         replace hs0:=hid hs0; replace hs1:=hid hs1; replace hs2:=hid hs2; replace hs3:=hid hs3; replace hs4:=hid hs4; replace hs5:=hid hs5; replace ht0:=hid ht0; replace ht1:=hid ht1; replace ht2:=hid ht2; replace ht3:=hid ht3; replace ht4:=hid ht4; replace ht5:=hid ht5; replace ls0:=hid ls0; replace ls1:=hid ls1; replace ls2:=hid ls2; replace ls3:=hid ls3; replace ls4:=hid ls4; replace ls5:=hid ls5; replace lt0:=hid lt0; replace lt1:=hid lt1; replace lt2:=hid lt2; replace lt3:=hid lt3; replace lt4:=hid lt4; replace lt5:=hid lt5; replace hE1:=hid hE1; replace hE2:=hid hE2; replace hL1:=hid hL1; replace hL2:=hid hL2
         go_wp2_with fail
         go_meet
         case rel=>exact ⟨_,_,rfl,rfl,rfl,hMd⟩
        ·skip
         obtain ⟨s0,hs0⟩:∃ s:List UInt8,s=[114,40,41,32,58,45,32,110,101,118,101,114,32,112,40]++a:=⟨_,rfl⟩
         have qs0:ByteArray.mk #[114,40,41,32,58,45,32,110,101,118,101,114,32,112,40]++ByteArray.mk a.toArray=⟨s0.toArray⟩:=by rw [hs0]; exact sum_mk [114,40,41,32,58,45,32,110,101,118,101,114,32,112,40] a
         have ls0:s0.length=15+a.length:=by rw [hs0]; exact List.length_append
         have ms0:¬ 9223372036854775807 < 15+a.length:=by omega
         obtain ⟨s1,hs1⟩:∃ s:List UInt8,s=s0++[44,32,95,44,32]:=⟨_,rfl⟩
         have qs1:ByteArray.mk s0.toArray++ByteArray.mk #[44,32,95,44,32]=⟨s1.toArray⟩:=by rw [hs1]; exact sum_mk s0 [44,32,95,44,32]
         have ls1:s1.length=s0.length+5:=by rw [hs1]; exact List.length_append
         have ms1:¬ 9223372036854775807 < s0.length+5:=by omega
         obtain ⟨s2,hs2⟩:∃ s:List UInt8,s=s1++b:=⟨_,rfl⟩
         have qs2:ByteArray.mk s1.toArray++ByteArray.mk b.toArray=⟨s2.toArray⟩:=by rw [hs2]; exact sum_mk s1 b
         have ls2:s2.length=s1.length+b.length:=by rw [hs2]; exact List.length_append
         have ms2:¬ 9223372036854775807 < s1.length+b.length:=by omega
         obtain ⟨s3,hs3⟩:∃ s:List UInt8,s=s2++[41,32,98,101,102,111,114,101,32]:=⟨_,rfl⟩
         have qs3:ByteArray.mk s2.toArray++ByteArray.mk #[41,32,98,101,102,111,114,101,32]=⟨s3.toArray⟩:=by rw [hs3]; exact sum_mk s2 [41,32,98,101,102,111,114,101,32]
         have ls3:s3.length=s2.length+9:=by rw [hs3]; exact List.length_append
         have ms3:¬ 9223372036854775807 < s2.length+9:=by omega
         obtain ⟨s4,hs4⟩:∃ s:List UInt8,s=s3++c:=⟨_,rfl⟩
         have qs4:ByteArray.mk s3.toArray++ByteArray.mk c.toArray=⟨s4.toArray⟩:=by rw [hs4]; exact sum_mk s3 c
         have ls4:s4.length=s3.length+c.length:=by rw [hs4]; exact List.length_append
         have ms4:¬ 9223372036854775807 < s3.length+c.length:=by omega
         obtain ⟨s5,hs5⟩:∃ s:List UInt8,s=s4++[46,32,63,32,114,40,41]:=⟨_,rfl⟩
         have qs5:ByteArray.mk s4.toArray++ByteArray.mk #[46,32,63,32,114,40,41]=⟨s5.toArray⟩:=by rw [hs5]; exact sum_mk s4 [46,32,63,32,114,40,41]
         have ls5:s5.length=s4.length+7:=by rw [hs5]; exact List.length_append
         have ms5:¬ 9223372036854775807 < s4.length+7:=by omega
         obtain ⟨t0,ht0⟩:∃ s:List UInt8,s=[114,40,41,32,58,45,32,110,111,116,32,97,117,120,49,40]++c:=⟨_,rfl⟩
         have qt0:ByteArray.mk #[114,40,41,32,58,45,32,110,111,116,32,97,117,120,49,40]++ByteArray.mk c.toArray=⟨t0.toArray⟩:=by rw [ht0]; exact sum_mk [114,40,41,32,58,45,32,110,111,116,32,97,117,120,49,40] c
         have lt0:t0.length=16+c.length:=by rw [ht0]; exact List.length_append
         have mt0:¬ 9223372036854775807 < 16+c.length:=by omega
         obtain ⟨t1,ht1⟩:∃ s:List UInt8,s=t0++v2:=⟨_,rfl⟩
         have qt1:ByteArray.mk t0.toArray++ByteArray.mk v2.toArray=⟨t1.toArray⟩:=by rw [ht1]; exact sum_mk t0 v2
         have lt1:t1.length=t0.length+v2.length:=by rw [ht1]; exact List.length_append
         have mt1:¬ 9223372036854775807 < t0.length+v2.length:=by omega
         obtain ⟨t2,ht2⟩:∃ s:List UInt8,s=t1++[41,46,32,97,117,120,49,40,84,49]:=⟨_,rfl⟩
         have qt2:ByteArray.mk t1.toArray++ByteArray.mk #[41,46,32,97,117,120,49,40,84,49]=⟨t2.toArray⟩:=by rw [ht2]; exact sum_mk t1 [41,46,32,97,117,120,49,40,84,49]
         have lt2:t2.length=t1.length+10:=by rw [ht2]; exact List.length_append
         have mt2:¬ 9223372036854775807 < t1.length+10:=by omega
         obtain ⟨t3,ht3⟩:∃ s:List UInt8,s=t2++v2:=⟨_,rfl⟩
         have qt3:ByteArray.mk t2.toArray++ByteArray.mk v2.toArray=⟨t3.toArray⟩:=by rw [ht3]; exact sum_mk t2 v2
         have lt3:t3.length=t2.length+v2.length:=by rw [ht3]; exact List.length_append
         have mt3:¬ 9223372036854775807 < t2.length+v2.length:=by omega
         obtain ⟨t4,ht4⟩:∃ s:List UInt8,s=t3++[41,32,58,45,32,101,118,101,110,116,40,84,49,44,32,95,41,44,32,112,40,84,50,44,32]:=⟨_,rfl⟩
         have qt4:ByteArray.mk t3.toArray++ByteArray.mk #[41,32,58,45,32,101,118,101,110,116,40,84,49,44,32,95,41,44,32,112,40,84,50,44,32]=⟨t4.toArray⟩:=by rw [ht4]; exact sum_mk t3 [41,32,58,45,32,101,118,101,110,116,40,84,49,44,32,95,41,44,32,112,40,84,50,44,32]
         have lt4:t4.length=t3.length+25:=by rw [ht4]; exact List.length_append
         have mt4:¬ 9223372036854775807 < t3.length+25:=by omega
         obtain ⟨t5,ht5⟩:∃ s:List UInt8,s=t4++a:=⟨_,rfl⟩
         have qt5:ByteArray.mk t4.toArray++ByteArray.mk a.toArray=⟨t5.toArray⟩:=by rw [ht5]; exact sum_mk t4 a
         have lt5:t5.length=t4.length+a.length:=by rw [ht5]; exact List.length_append
         have mt5:¬ 9223372036854775807 < t4.length+a.length:=by omega
         obtain ⟨t6,ht6⟩:∃ s:List UInt8,s=t5++[44,32,95,44,32]:=⟨_,rfl⟩
         have qt6:ByteArray.mk t5.toArray++ByteArray.mk #[44,32,95,44,32]=⟨t6.toArray⟩:=by rw [ht6]; exact sum_mk t5 [44,32,95,44,32]
         have lt6:t6.length=t5.length+5:=by rw [ht6]; exact List.length_append
         have mt6:¬ 9223372036854775807 < t5.length+5:=by omega
         obtain ⟨t7,ht7⟩:∃ s:List UInt8,s=t6++b:=⟨_,rfl⟩
         have qt7:ByteArray.mk t6.toArray++ByteArray.mk b.toArray=⟨t7.toArray⟩:=by rw [ht7]; exact sum_mk t6 b
         have lt7:t7.length=t6.length+b.length:=by rw [ht7]; exact List.length_append
         have mt7:¬ 9223372036854775807 < t6.length+b.length:=by omega
         obtain ⟨t8,ht8⟩:∃ s:List UInt8,s=t7++[41,44,32,84,50,32,60,32,84,49,46,32,63,32,114,40,41]:=⟨_,rfl⟩
         have qt8:ByteArray.mk t7.toArray++ByteArray.mk #[41,44,32,84,50,32,60,32,84,49,46,32,63,32,114,40,41]=⟨t8.toArray⟩:=by rw [ht8]; exact sum_mk t7 [41,44,32,84,50,32,60,32,84,49,46,32,63,32,114,40,41]
         have lt8:t8.length=t7.length+17:=by rw [ht8]; exact List.length_append
         have mt8:¬ 9223372036854775807 < t7.length+17:=by omega
         have hE1:s5=txo2 a b c:=by rw [hs5,hs4,hs3,hs2,hs1,hs0]; rfl
         have hE2:t8=txt2 a b c v2:=by rw [ht8,ht7,ht6,ht5,ht4,ht3,ht2,ht1,ht0]; rfl
         have hL1:s5.length≤2000:=by omega
         have hL2:t8.length≤2000:=by omega
         have hMd:Hid (Made s5 t8):=hid ⟨hL1,hL2,by
          rw [hE1,hE2,hv2e.out]; exact times2 tia.out tib.out tic.out (by rw [← hE1]; omega) (by rw [← hv2e.out,← hE2]; omega)⟩
         replace hs0:=hid hs0; replace hs1:=hid hs1; replace hs2:=hid hs2; replace hs3:=hid hs3; replace hs4:=hid hs4; replace hs5:=hid hs5; replace ht0:=hid ht0; replace ht1:=hid ht1; replace ht2:=hid ht2; replace ht3:=hid ht3; replace ht4:=hid ht4; replace ht5:=hid ht5; replace ht6:=hid ht6; replace ht7:=hid ht7; replace ht8:=hid ht8; replace ls0:=hid ls0; replace ls1:=hid ls1; replace ls2:=hid ls2; replace ls3:=hid ls3; replace ls4:=hid ls4; replace ls5:=hid ls5; replace lt0:=hid lt0; replace lt1:=hid lt1; replace lt2:=hid lt2; replace lt3:=hid lt3; replace lt4:=hid lt4; replace lt5:=hid lt5; replace lt6:=hid lt6; replace lt7:=hid lt7; replace lt8:=hid lt8; replace hE1:=hid hE1; replace hE2:=hid hE2; replace hL1:=hid hL1; replace hL2:=hid hL2
         go_wp2_with fail
         go_meet
         case rel=>exact ⟨_,_,rfl,rfl,rfl,hMd⟩
        ·skip
         obtain ⟨s0,hs0⟩:∃ s:List UInt8,s=[114,40,41,32,58,45,32,110,101,118,101,114,32,112,40]++a:=⟨_,rfl⟩
         have qs0:ByteArray.mk #[114,40,41,32,58,45,32,110,101,118,101,114,32,112,40]++ByteArray.mk a.toArray=⟨s0.toArray⟩:=by rw [hs0]; exact sum_mk [114,40,41,32,58,45,32,110,101,118,101,114,32,112,40] a
         have ls0:s0.length=15+a.length:=by rw [hs0]; exact List.length_append
         have ms0:¬ 9223372036854775807 < 15+a.length:=by omega
         obtain ⟨s1,hs1⟩:∃ s:List UInt8,s=s0++[44,32,95,44,32]:=⟨_,rfl⟩
         have qs1:ByteArray.mk s0.toArray++ByteArray.mk #[44,32,95,44,32]=⟨s1.toArray⟩:=by rw [hs1]; exact sum_mk s0 [44,32,95,44,32]
         have ls1:s1.length=s0.length+5:=by rw [hs1]; exact List.length_append
         have ms1:¬ 9223372036854775807 < s0.length+5:=by omega
         obtain ⟨s2,hs2⟩:∃ s:List UInt8,s=s1++b:=⟨_,rfl⟩
         have qs2:ByteArray.mk s1.toArray++ByteArray.mk b.toArray=⟨s2.toArray⟩:=by rw [hs2]; exact sum_mk s1 b
         have ls2:s2.length=s1.length+b.length:=by rw [hs2]; exact List.length_append
         have ms2:¬ 9223372036854775807 < s1.length+b.length:=by omega
         obtain ⟨s3,hs3⟩:∃ s:List UInt8,s=s2++[41,32,97,102,116,101,114,32]:=⟨_,rfl⟩
         have qs3:ByteArray.mk s2.toArray++ByteArray.mk #[41,32,97,102,116,101,114,32]=⟨s3.toArray⟩:=by rw [hs3]; exact sum_mk s2 [41,32,97,102,116,101,114,32]
         have ls3:s3.length=s2.length+8:=by rw [hs3]; exact List.length_append
         have ms3:¬ 9223372036854775807 < s2.length+8:=by omega
         obtain ⟨s4,hs4⟩:∃ s:List UInt8,s=s3++c:=⟨_,rfl⟩
         have qs4:ByteArray.mk s3.toArray++ByteArray.mk c.toArray=⟨s4.toArray⟩:=by rw [hs4]; exact sum_mk s3 c
         have ls4:s4.length=s3.length+c.length:=by rw [hs4]; exact List.length_append
         have ms4:¬ 9223372036854775807 < s3.length+c.length:=by omega
         obtain ⟨s5,hs5⟩:∃ s:List UInt8,s=s4++[46,32,63,32,114,40,41]:=⟨_,rfl⟩
         have qs5:ByteArray.mk s4.toArray++ByteArray.mk #[46,32,63,32,114,40,41]=⟨s5.toArray⟩:=by rw [hs5]; exact sum_mk s4 [46,32,63,32,114,40,41]
         have ls5:s5.length=s4.length+7:=by rw [hs5]; exact List.length_append
         have ms5:¬ 9223372036854775807 < s4.length+7:=by omega
         obtain ⟨t0,ht0⟩:∃ s:List UInt8,s=[114,40,41,32,58,45,32,110,111,116,32,97,117,120,49,40]++c:=⟨_,rfl⟩
         have qt0:ByteArray.mk #[114,40,41,32,58,45,32,110,111,116,32,97,117,120,49,40]++ByteArray.mk c.toArray=⟨t0.toArray⟩:=by rw [ht0]; exact sum_mk [114,40,41,32,58,45,32,110,111,116,32,97,117,120,49,40] c
         have lt0:t0.length=16+c.length:=by rw [ht0]; exact List.length_append
         have mt0:¬ 9223372036854775807 < 16+c.length:=by omega
         obtain ⟨t1,ht1⟩:∃ s:List UInt8,s=t0++v2:=⟨_,rfl⟩
         have qt1:ByteArray.mk t0.toArray++ByteArray.mk v2.toArray=⟨t1.toArray⟩:=by rw [ht1]; exact sum_mk t0 v2
         have lt1:t1.length=t0.length+v2.length:=by rw [ht1]; exact List.length_append
         have mt1:¬ 9223372036854775807 < t0.length+v2.length:=by omega
         obtain ⟨t2,ht2⟩:∃ s:List UInt8,s=t1++[41,46,32,97,117,120,49,40,84,49]:=⟨_,rfl⟩
         have qt2:ByteArray.mk t1.toArray++ByteArray.mk #[41,46,32,97,117,120,49,40,84,49]=⟨t2.toArray⟩:=by rw [ht2]; exact sum_mk t1 [41,46,32,97,117,120,49,40,84,49]
         have lt2:t2.length=t1.length+10:=by rw [ht2]; exact List.length_append
         have mt2:¬ 9223372036854775807 < t1.length+10:=by omega
         obtain ⟨t3,ht3⟩:∃ s:List UInt8,s=t2++v2:=⟨_,rfl⟩
         have qt3:ByteArray.mk t2.toArray++ByteArray.mk v2.toArray=⟨t3.toArray⟩:=by rw [ht3]; exact sum_mk t2 v2
         have lt3:t3.length=t2.length+v2.length:=by rw [ht3]; exact List.length_append
         have mt3:¬ 9223372036854775807 < t2.length+v2.length:=by omega
         obtain ⟨t4,ht4⟩:∃ s:List UInt8,s=t3++[41,32,58,45,32,101,118,101,110,116,40,84,49,44,32,95,41,44,32,112,40,84,50,44,32]:=⟨_,rfl⟩
         have qt4:ByteArray.mk t3.toArray++ByteArray.mk #[41,32,58,45,32,101,118,101,110,116,40,84,49,44,32,95,41,44,32,112,40,84,50,44,32]=⟨t4.toArray⟩:=by rw [ht4]; exact sum_mk t3 [41,32,58,45,32,101,118,101,110,116,40,84,49,44,32,95,41,44,32,112,40,84,50,44,32]
         have lt4:t4.length=t3.length+25:=by rw [ht4]; exact List.length_append
         have mt4:¬ 9223372036854775807 < t3.length+25:=by omega
         obtain ⟨t5,ht5⟩:∃ s:List UInt8,s=t4++a:=⟨_,rfl⟩
         have qt5:ByteArray.mk t4.toArray++ByteArray.mk a.toArray=⟨t5.toArray⟩:=by rw [ht5]; exact sum_mk t4 a
         have lt5:t5.length=t4.length+a.length:=by rw [ht5]; exact List.length_append
         have mt5:¬ 9223372036854775807 < t4.length+a.length:=by omega
         obtain ⟨t6,ht6⟩:∃ s:List UInt8,s=t5++[44,32,95,44,32]:=⟨_,rfl⟩
         have qt6:ByteArray.mk t5.toArray++ByteArray.mk #[44,32,95,44,32]=⟨t6.toArray⟩:=by rw [ht6]; exact sum_mk t5 [44,32,95,44,32]
         have lt6:t6.length=t5.length+5:=by rw [ht6]; exact List.length_append
         have mt6:¬ 9223372036854775807 < t5.length+5:=by omega
         obtain ⟨t7,ht7⟩:∃ s:List UInt8,s=t6++b:=⟨_,rfl⟩
         have qt7:ByteArray.mk t6.toArray++ByteArray.mk b.toArray=⟨t7.toArray⟩:=by rw [ht7]; exact sum_mk t6 b
         have lt7:t7.length=t6.length+b.length:=by rw [ht7]; exact List.length_append
         have mt7:¬ 9223372036854775807 < t6.length+b.length:=by omega
         obtain ⟨t8,ht8⟩:∃ s:List UInt8,s=t7++[41,44,32,84,49,32,60,32,84,50,46,32,63,32,114,40,41]:=⟨_,rfl⟩
         have qt8:ByteArray.mk t7.toArray++ByteArray.mk #[41,44,32,84,49,32,60,32,84,50,46,32,63,32,114,40,41]=⟨t8.toArray⟩:=by rw [ht8]; exact sum_mk t7 [41,44,32,84,49,32,60,32,84,50,46,32,63,32,114,40,41]
         have lt8:t8.length=t7.length+17:=by rw [ht8]; exact List.length_append
         have mt8:¬ 9223372036854775807 < t7.length+17:=by omega
         have hE1:s5=txo3 a b c:=by rw [hs5,hs4,hs3,hs2,hs1,hs0]; rfl
         have hE2:t8=txt3 a b c v2:=by rw [ht8,ht7,ht6,ht5,ht4,ht3,ht2,ht1,ht0]; rfl
         have hL1:s5.length≤2000:=by omega
         have hL2:t8.length≤2000:=by omega
         have hMd:Hid (Made s5 t8):=hid ⟨hL1,hL2,by
          rw [hE1,hE2,hv2e.out]; exact times3 tia.out tib.out tic.out (by rw [← hE1]; omega) (by rw [← hv2e.out,← hE2]; omega)⟩
         replace hs0:=hid hs0; replace hs1:=hid hs1; replace hs2:=hid hs2; replace hs3:=hid hs3; replace hs4:=hid hs4; replace hs5:=hid hs5; replace ht0:=hid ht0; replace ht1:=hid ht1; replace ht2:=hid ht2; replace ht3:=hid ht3; replace ht4:=hid ht4; replace ht5:=hid ht5; replace ht6:=hid ht6; replace ht7:=hid ht7; replace ht8:=hid ht8; replace ls0:=hid ls0; replace ls1:=hid ls1; replace ls2:=hid ls2; replace ls3:=hid ls3; replace ls4:=hid ls4; replace ls5:=hid ls5; replace lt0:=hid lt0; replace lt1:=hid lt1; replace lt2:=hid lt2; replace lt3:=hid lt3; replace lt4:=hid lt4; replace lt5:=hid lt5; replace lt6:=hid lt6; replace lt7:=hid lt7; replace lt8:=hid lt8; replace hE1:=hid hE1; replace hE2:=hid hE2; replace hL1:=hid hL1; replace hL2:=hid hL2
         go_wp2_with fail
         go_meet
         case rel=>exact ⟨_,_,rfl,rfl,rfl,hMd⟩
        ·skip
         obtain ⟨s0,hs0⟩:∃ s:List UInt8,s=[114,40,41,32,58,45,32,115,105,110,99,101,32,113,40]++c:=⟨_,rfl⟩
         have qs0:ByteArray.mk #[114,40,41,32,58,45,32,115,105,110,99,101,32,113,40]++ByteArray.mk c.toArray=⟨s0.toArray⟩:=by rw [hs0]; exact sum_mk [114,40,41,32,58,45,32,115,105,110,99,101,32,113,40] c
         have ls0:s0.length=15+c.length:=by rw [hs0]; exact List.length_append
         have ms0:¬ 9223372036854775807 < 15+c.length:=by omega
         obtain ⟨s1,hs1⟩:∃ s:List UInt8,s=s0++[41,32,110,111,32,112,40]:=⟨_,rfl⟩
         have qs1:ByteArray.mk s0.toArray++ByteArray.mk #[41,32,110,111,32,112,40]=⟨s1.toArray⟩:=by rw [hs1]; exact sum_mk s0 [41,32,110,111,32,112,40]
         have ls1:s1.length=s0.length+7:=by rw [hs1]; exact List.length_append
         have ms1:¬ 9223372036854775807 < s0.length+7:=by omega
         obtain ⟨s2,hs2⟩:∃ s:List UInt8,s=s1++a:=⟨_,rfl⟩
         have qs2:ByteArray.mk s1.toArray++ByteArray.mk a.toArray=⟨s2.toArray⟩:=by rw [hs2]; exact sum_mk s1 a
         have ls2:s2.length=s1.length+a.length:=by rw [hs2]; exact List.length_append
         have ms2:¬ 9223372036854775807 < s1.length+a.length:=by omega
         obtain ⟨s3,hs3⟩:∃ s:List UInt8,s=s2++[44,32]:=⟨_,rfl⟩
         have qs3:ByteArray.mk s2.toArray++ByteArray.mk #[44,32]=⟨s3.toArray⟩:=by rw [hs3]; exact sum_mk s2 [44,32]
         have ls3:s3.length=s2.length+2:=by rw [hs3]; exact List.length_append
         have ms3:¬ 9223372036854775807 < s2.length+2:=by omega
         obtain ⟨s4,hs4⟩:∃ s:List UInt8,s=s3++b:=⟨_,rfl⟩
         have qs4:ByteArray.mk s3.toArray++ByteArray.mk b.toArray=⟨s4.toArray⟩:=by rw [hs4]; exact sum_mk s3 b
         have ls4:s4.length=s3.length+b.length:=by rw [hs4]; exact List.length_append
         have ms4:¬ 9223372036854775807 < s3.length+b.length:=by omega
         obtain ⟨s5,hs5⟩:∃ s:List UInt8,s=s4++[41,32,97,116,32]:=⟨_,rfl⟩
         have qs5:ByteArray.mk s4.toArray++ByteArray.mk #[41,32,97,116,32]=⟨s5.toArray⟩:=by rw [hs5]; exact sum_mk s4 [41,32,97,116,32]
         have ls5:s5.length=s4.length+5:=by rw [hs5]; exact List.length_append
         have ms5:¬ 9223372036854775807 < s4.length+5:=by omega
         obtain ⟨s6,hs6⟩:∃ s:List UInt8,s=s5++c:=⟨_,rfl⟩
         have qs6:ByteArray.mk s5.toArray++ByteArray.mk c.toArray=⟨s6.toArray⟩:=by rw [hs6]; exact sum_mk s5 c
         have ls6:s6.length=s5.length+c.length:=by rw [hs6]; exact List.length_append
         have ms6:¬ 9223372036854775807 < s5.length+c.length:=by omega
         obtain ⟨s7,hs7⟩:∃ s:List UInt8,s=s6++[46,32,63,32,114,40,41]:=⟨_,rfl⟩
         have qs7:ByteArray.mk s6.toArray++ByteArray.mk #[46,32,63,32,114,40,41]=⟨s7.toArray⟩:=by rw [hs7]; exact sum_mk s6 [46,32,63,32,114,40,41]
         have ls7:s7.length=s6.length+7:=by rw [hs7]; exact List.length_append
         have ms7:¬ 9223372036854775807 < s6.length+7:=by omega
         obtain ⟨t0,ht0⟩:∃ s:List UInt8,s=[114,40,41,32,58,45,32,113,40,84,49,44,32]++c:=⟨_,rfl⟩
         have qt0:ByteArray.mk #[114,40,41,32,58,45,32,113,40,84,49,44,32]++ByteArray.mk c.toArray=⟨t0.toArray⟩:=by rw [ht0]; exact sum_mk [114,40,41,32,58,45,32,113,40,84,49,44,32] c
         have lt0:t0.length=13+c.length:=by rw [ht0]; exact List.length_append
         have mt0:¬ 9223372036854775807 < 13+c.length:=by omega
         obtain ⟨t1,ht1⟩:∃ s:List UInt8,s=t0++[41,44,32,84,49,32,60,61,32]:=⟨_,rfl⟩
         have qt1:ByteArray.mk t0.toArray++ByteArray.mk #[41,44,32,84,49,32,60,61,32]=⟨t1.toArray⟩:=by rw [ht1]; exact sum_mk t0 [41,44,32,84,49,32,60,61,32]
         have lt1:t1.length=t0.length+9:=by rw [ht1]; exact List.length_append
         have mt1:¬ 9223372036854775807 < t0.length+9:=by omega
         obtain ⟨t2,ht2⟩:∃ s:List UInt8,s=t1++c:=⟨_,rfl⟩
         have qt2:ByteArray.mk t1.toArray++ByteArray.mk c.toArray=⟨t2.toArray⟩:=by rw [ht2]; exact sum_mk t1 c
         have lt2:t2.length=t1.length+c.length:=by rw [ht2]; exact List.length_append
         have mt2:¬ 9223372036854775807 < t1.length+c.length:=by omega
         obtain ⟨t3,ht3⟩:∃ s:List UInt8,s=t2++[44,32,110,111,116,32,97,117,120,49,40,84,49,44,32]:=⟨_,rfl⟩
         have qt3:ByteArray.mk t2.toArray++ByteArray.mk #[44,32,110,111,116,32,97,117,120,49,40,84,49,44,32]=⟨t3.toArray⟩:=by rw [ht3]; exact sum_mk t2 [44,32,110,111,116,32,97,117,120,49,40,84,49,44,32]
         have lt3:t3.length=t2.length+15:=by rw [ht3]; exact List.length_append
         have mt3:¬ 9223372036854775807 < t2.length+15:=by omega
         obtain ⟨t4,ht4⟩:∃ s:List UInt8,s=t3++c:=⟨_,rfl⟩
         have qt4:ByteArray.mk t3.toArray++ByteArray.mk c.toArray=⟨t4.toArray⟩:=by rw [ht4]; exact sum_mk t3 c
         have lt4:t4.length=t3.length+c.length:=by rw [ht4]; exact List.length_append
         have mt4:¬ 9223372036854775807 < t3.length+c.length:=by omega
         obtain ⟨t5,ht5⟩:∃ s:List UInt8,s=t4++v2:=⟨_,rfl⟩
         have qt5:ByteArray.mk t4.toArray++ByteArray.mk v2.toArray=⟨t5.toArray⟩:=by rw [ht5]; exact sum_mk t4 v2
         have lt5:t5.length=t4.length+v2.length:=by rw [ht5]; exact List.length_append
         have mt5:¬ 9223372036854775807 < t4.length+v2.length:=by omega
         obtain ⟨t6,ht6⟩:∃ s:List UInt8,s=t5++[41,46,32,97,117,120,49,40,84,50,44,32,84,51]:=⟨_,rfl⟩
         have qt6:ByteArray.mk t5.toArray++ByteArray.mk #[41,46,32,97,117,120,49,40,84,50,44,32,84,51]=⟨t6.toArray⟩:=by rw [ht6]; exact sum_mk t5 [41,46,32,97,117,120,49,40,84,50,44,32,84,51]
         have lt6:t6.length=t5.length+14:=by rw [ht6]; exact List.length_append
         have mt6:¬ 9223372036854775807 < t5.length+14:=by omega
         obtain ⟨t7,ht7⟩:∃ s:List UInt8,s=t6++v2:=⟨_,rfl⟩
         have qt7:ByteArray.mk t6.toArray++ByteArray.mk v2.toArray=⟨t7.toArray⟩:=by rw [ht7]; exact sum_mk t6 v2
         have lt7:t7.length=t6.length+v2.length:=by rw [ht7]; exact List.length_append
         have mt7:¬ 9223372036854775807 < t6.length+v2.length:=by omega
         obtain ⟨t8,ht8⟩:∃ s:List UInt8,s=t7++[41,32,58,45,32,112,40,84,52,44,32]:=⟨_,rfl⟩
         have qt8:ByteArray.mk t7.toArray++ByteArray.mk #[41,32,58,45,32,112,40,84,52,44,32]=⟨t8.toArray⟩:=by rw [ht8]; exact sum_mk t7 [41,32,58,45,32,112,40,84,52,44,32]
         have lt8:t8.length=t7.length+11:=by rw [ht8]; exact List.length_append
         have mt8:¬ 9223372036854775807 < t7.length+11:=by omega
         obtain ⟨t9,ht9⟩:∃ s:List UInt8,s=t8++a:=⟨_,rfl⟩
         have qt9:ByteArray.mk t8.toArray++ByteArray.mk a.toArray=⟨t9.toArray⟩:=by rw [ht9]; exact sum_mk t8 a
         have lt9:t9.length=t8.length+a.length:=by rw [ht9]; exact List.length_append
         have mt9:¬ 9223372036854775807 < t8.length+a.length:=by omega
         obtain ⟨t10,ht10⟩:∃ s:List UInt8,s=t9++[44,32]:=⟨_,rfl⟩
         have qt10:ByteArray.mk t9.toArray++ByteArray.mk #[44,32]=⟨t10.toArray⟩:=by rw [ht10]; exact sum_mk t9 [44,32]
         have lt10:t10.length=t9.length+2:=by rw [ht10]; exact List.length_append
         have mt10:¬ 9223372036854775807 < t9.length+2:=by omega
         obtain ⟨t11,ht11⟩:∃ s:List UInt8,s=t10++b:=⟨_,rfl⟩
         have qt11:ByteArray.mk t10.toArray++ByteArray.mk b.toArray=⟨t11.toArray⟩:=by rw [ht11]; exact sum_mk t10 b
         have lt11:t11.length=t10.length+b.length:=by rw [ht11]; exact List.length_append
         have mt11:¬ 9223372036854775807 < t10.length+b.length:=by omega
         obtain ⟨t12,ht12⟩:∃ s:List UInt8,s=t11++[41,44,32,101,118,101,110,116,40,84,50,44,32,95,41,44,32,101,118,101,110,116,40,84,51,44,32,95,41,44,32,84,50,32,60,32,84,52,44,32,84,52,32,60,61,32,84,51,46,32,63,32,114,40,41]:=⟨_,rfl⟩
         have qt12:ByteArray.mk t11.toArray++ByteArray.mk #[41,44,32,101,118,101,110,116,40,84,50,44,32,95,41,44,32,101,118,101,110,116,40,84,51,44,32,95,41,44,32,84,50,32,60,32,84,52,44,32,84,52,32,60,61,32,84,51,46,32,63,32,114,40,41]=⟨t12.toArray⟩:=by rw [ht12]; exact sum_mk t11 [41,44,32,101,118,101,110,116,40,84,50,44,32,95,41,44,32,101,118,101,110,116,40,84,51,44,32,95,41,44,32,84,50,32,60,32,84,52,44,32,84,52,32,60,61,32,84,51,46,32,63,32,114,40,41]
         have lt12:t12.length=t11.length+55:=by rw [ht12]; exact List.length_append
         have mt12:¬ 9223372036854775807 < t11.length+55:=by omega
         have hE1:s7=txo4 a b c:=by rw [hs7,hs6,hs5,hs4,hs3,hs2,hs1,hs0]; rfl
         have hE2:t12=txt4 a b c v2:=by rw [ht12,ht11,ht10,ht9,ht8,ht7,ht6,ht5,ht4,ht3,ht2,ht1,ht0]; rfl
         have hL1:s7.length≤2000:=by omega
         have hL2:t12.length≤2000:=by omega
         have hMd:Hid (Made s7 t12):=hid ⟨hL1,hL2,by
          rw [hE1,hE2,hv2e.out]; exact times4 tia.out tib.out tic.out (by rw [← hE1]; omega) (by rw [← hv2e.out,← hE2]; omega)⟩
         replace hs0:=hid hs0; replace hs1:=hid hs1; replace hs2:=hid hs2; replace hs3:=hid hs3; replace hs4:=hid hs4; replace hs5:=hid hs5; replace hs6:=hid hs6; replace hs7:=hid hs7; replace ht0:=hid ht0; replace ht1:=hid ht1; replace ht2:=hid ht2; replace ht3:=hid ht3; replace ht4:=hid ht4; replace ht5:=hid ht5; replace ht6:=hid ht6; replace ht7:=hid ht7; replace ht8:=hid ht8; replace ht9:=hid ht9; replace ht10:=hid ht10; replace ht11:=hid ht11; replace ht12:=hid ht12; replace ls0:=hid ls0; replace ls1:=hid ls1; replace ls2:=hid ls2; replace ls3:=hid ls3; replace ls4:=hid ls4; replace ls5:=hid ls5; replace ls6:=hid ls6; replace ls7:=hid ls7; replace lt0:=hid lt0; replace lt1:=hid lt1; replace lt2:=hid lt2; replace lt3:=hid lt3; replace lt4:=hid lt4; replace lt5:=hid lt5; replace lt6:=hid lt6
         replace lt7:=hid lt7; replace lt8:=hid lt8; replace lt9:=hid lt9; replace lt10:=hid lt10; replace lt11:=hid lt11; replace lt12:=hid lt12; replace hE1:=hid hE1; replace hE2:=hid hE2; replace hL1:=hid hL1; replace hL2:=hid hL2
         go_wp2_with fail
         go_meet
         case rel=>exact ⟨_,_,rfl,rfl,rfl,hMd⟩
       case rest =>
        obtain ⟨s1,s2,rfl,rfl,rfl,hMd⟩:=hcut; obtain ⟨hs1,hs2,Q,hq1,hq2⟩:=hMd.out; have hp1:=hps.out s1 w7 (by omega) hA7.out; rw [hq1] at hp1; replace hp1:=hid hp1; replace hq1:=hid hq1; clear hMd
        go_wp2_with fail
        with_reducible refine hp1.out.mono ?_
        rintro e y1 ⟨hb3,hok,ra,rc,aa,ac,rfl,k1,g1⟩; have hc3:Below w7.heap.size w7 (y1.alloc (.cells (qcells (.slice ra Q.g.rules.length rc) Q.g.goal.op Q.g.goal.nt Q.g.goal.rel (.slice aa Q.g.goal.args.length ac)) 30)):=hb3.alloc hb3.size _; have hB4:=hid (hA7.out.trans (hc3.mono hA7.out.size)); have xA:=hid (heap_alloc_new' y1 (.cells (qcells (.slice ra Q.g.rules.length rc) Q.g.goal.op Q.g.goal.nt Q.g.goal.rel (.slice aa Q.g.goal.args.length ac)) 30)); have ha3:Below y1.heap.size y1 (y1.alloc (.cells (qcells (.slice ra Q.g.rules.length rc) Q.g.goal.op Q.g.goal.nt Q.g.goal.rel (.slice aa Q.g.goal.args.length ac)) 30)):=(Below.refl _ _).alloc (Nat.le_refl _) _; have k1':=hid (k1.below goodRg ha3); have g1':=hid (g1.below goodTg ha3)
        have hp2:=hps.out s2 (y1.alloc (.cells (qcells (.slice ra Q.g.rules.length rc) Q.g.goal.op Q.g.goal.nt Q.g.goal.rel (.slice aa Q.g.goal.args.length ac)) 30)) (by omega) hB4.out; rw [hq2] at hp2; replace hp2:=hid hp2; replace hq2:=hid hq2; replace hok:=hid hok; clear hp1 hb3 hc3 ha3 k1 g1
        go_wp2_with fail
        with_reducible refine hp2.out.mono ?_
        rintro e y2 ⟨hb4,hok2,ra2,rc2,aa2,ac2,rfl,k2,g2⟩; have hc4:Below (y1.alloc (.cells (qcells (.slice ra Q.g.rules.length rc) Q.g.goal.op Q.g.goal.nt Q.g.goal.rel (.slice aa Q.g.goal.args.length ac)) 30)).heap.size (y1.alloc (.cells (qcells (.slice ra Q.g.rules.length rc) Q.g.goal.op Q.g.goal.nt Q.g.goal.rel (.slice aa Q.g.goal.args.length ac)) 30)) (y2.alloc (.cells (qcells (.slice ra2 Q.g.rules.length rc2) Q.g.goal.op Q.g.goal.nt Q.g.goal.rel (.slice aa2 Q.g.goal.args.length ac2)) 30)):=hb4.alloc hb4.size _; have hB5:=hid (hB4.out.trans (hc4.mono hB4.out.size)); have xA2:=below_keep hc4 xA.out (lt_of_heap xA.out); have xB:=heap_alloc_new' y2 (.cells (qcells (.slice ra2 Q.g.rules.length rc2) Q.g.goal.op Q.g.goal.nt Q.g.goal.rel (.slice aa2 Q.g.goal.args.length ac2)) 30)
        have ha4:Below y2.heap.size y2 (y2.alloc (.cells (qcells (.slice ra2 Q.g.rules.length rc2) Q.g.goal.op Q.g.goal.nt Q.g.goal.rel (.slice aa2 Q.g.goal.args.length ac2)) 30)):=(Below.refl _ _).alloc (Nat.le_refl _) _; have hsa:=hid (same_t Q.g hok.out ra ra2 rc rc2 aa aa2 ac ac2 _ _ (y2.alloc (.cells (qcells (.slice ra2 Q.g.rules.length rc2) Q.g.goal.op Q.g.goal.nt Q.g.goal.rel (.slice aa2 Q.g.goal.args.length ac2)) 30)) (k1'.out.below goodRg hc4) (k2.below goodRg ha4) (g1'.out.below goodTg hc4) (g2.below goodTg ha4)); obtain ⟨b0,b1,b2,b3,b4,-⟩:=q_cells xA2; obtain ⟨c0,c1,c2,c3,c4,-⟩:=q_cells xB; replace xA2:=hid xA2; replace xB:=hid xB; replace hok2:=hid hok2; clear hp2 hb4 hc4 ha4 k2 g2
        go_wp2_with fail
        with_reducible refine hsa.out.mono ?_
        rintro e y3 ⟨rfl,hb5⟩; have hB6:=hid (hB5.out.trans (hb5.mono hB5.out.size)); clear hb5 b0 b1 b2 b3 b4 c0 c1 c2 c3 c4
        go_wp2_with fail
        go_ret; exact ⟨rfl,hB6.out⟩
end Go.Proofs.YtbkdakbhagjkhaaGreatDoor
