/- slices.Equal of strings, by the library's contract. -/
import Derived.Test.YtfejagpjahoibaaGreatDoorPlH
import Derived.Test.YtfejagpjahoibaaGreatDoorShelf
set_option linter.unusedVariables false
set_option linter.unusedSimpArgs false
namespace Go.Proofs.YtfejagpjahoibaaGreatDoor
open Go.RowKit
open Go.Lib (hid)
def baOf (s:List UInt8):ByteArray:=⟨s.toArray⟩
theorem baOf_inj {s t:List UInt8} (h:baOf s=baOf t):s=t:=by
 have:=congrArg (fun b:ByteArray=>b.data.toList) h; simpa [baOf] using this
theorem map_baOf {l m:List (List UInt8)}:l.map baOf=m.map baOf ↔ l=m :=
 ⟨fun h=>(List.map_inj_right fun s t e=>baOf_inj e).1 h,fun h=>by rw [h]⟩
theorem str_cells {l:List (List UInt8)} {S:Foot} {w:World} {v:Value} (h:SlR 1 StrR S w l v) (h0:0 < l.length):∃ b o c,v=.slice (some ⟨b,o,none⟩) l.length c∧∀ j,j < (l.map baOf).length→w.cell? ⟨b,o+j,none⟩=some (.string ((l.map baOf).getD j ByteArray.empty)):=by
 obtain ⟨a,c,g,o,cs,hv,-,hp,hc,hr⟩:=h; obtain ⟨rfl,-,-⟩:=hp h0; refine ⟨g,o,c,hv,fun j hj=>?_⟩; rw [List.length_map] at hj; have h1:=hr j _ (List.getElem?_eq_getElem hj); have h2:=hc j hj 0 (sv l[j]) (by rw [show cs j=[sv l[j]] from h1]; rfl); rw [Nat.mul_one,Nat.add_zero] at h2; rw [h2,List.getD_eq_getElem?_getD,List.getElem?_map,List.getElem?_eq_getElem hj]; rfl
theorem eqStrs_any (l m:List (List UInt8)) (hl:l.length≤1000000) (hm:m.length≤1000000) (S T:Foot) (vl vm:Value) (w:World) (h1:SlR 1 StrR S w l vl) (h2:SlR 1 StrR T w m vm) :
  Calls Tryz.prog 36 #[vl,vm] w fun e w'=>e=.returned (.bool (decide (l=m)))∧Below w.heap.size w w':=by
 obtain ⟨a1,k1,hv1,-⟩:=h1.slice; obtain ⟨a2,k2,hv2,-⟩:=h2.slice; by_cases hlm:l.length=m.length
 ·by_cases h0:l.length=0
  ·have e1:l=[]:=List.eq_nil_of_length_eq_zero h0
   have e2:m=[]:=List.eq_nil_of_length_eq_zero (by omega); subst e1 e2; rw [hv1,hv2]; refine (Tryz.slices_Equal_string_empty a1 a2 k1 0 k2 w (by decide)).mono ?_; rintro e w' ⟨rfl,rfl⟩; exact ⟨by simp,Below.refl _ _⟩
  ·obtain ⟨b,o,c,e1,d1⟩:=str_cells h1 (by omega)
   obtain ⟨b',o',c',e2,d2⟩:=str_cells h2 (by omega); rw [e1,e2]; refine (Tryz.slices_Equal_string b o l.length c b' o' m.length c' (l.map baOf) (m.map baOf) w (by simp) (by simp) (by omega) (by omega) d1 d2).mono ?_; rintro e w' ⟨rfl,q,rfl⟩; refine ⟨?_,⟨rfl,rfl,rfl,Nat.le_refl _,fun _ _=>rfl⟩⟩; rw [show l.length=(l.map baOf).length by simp,show m.length=(m.map baOf).length by simp,List.take_length,List.take_length]
   congr 2
   exact decide_eq_decide.2 map_baOf
 ·rw [hv1,hv2]
  refine (Tryz.slices_Equal_string_lens a1 a2 l.length k1 m.length k2 w hlm).mono ?_; rintro e w' ⟨rfl,rfl⟩; refine ⟨?_,Below.refl _ _⟩; rw [decide_eq_false (fun e=>hlm (by rw [e]))]
end Go.Proofs.YtfejagpjahoibaaGreatDoor
