/- plan, walks: Weight. -/
import Derived.Test.YtfejagpjahoibaaGreatDoorPlH
set_option linter.unusedVariables false
set_option linter.unusedSimpArgs false
namespace Go.Proofs.YtfejagpjahoibaaGreatDoor
open Go.RowKit
open Go.Lib (hid)
noncomputable def weightT (l:List Offer) (undo «do»:List Out) (clock turn:Int) (rf:List (List UInt8)) (pick:List Int):Int × Bool:=if prepE l undo «do» = 0 then weightF (stlF l undo «do» clock turn rf) pick else (0,false)
set_option maxHeartbeats 40000000 in
set_option maxRecDepth 100000 in
theorem weightT_any (S:Foot) (l:List Offer) (undo «do»:List Out) (clock turn:Int) (rf:List (List UInt8)) (vl vu vd vr:Value) (w:World) (h:PIn S l undo «do» rf vl vu vd vr w) (pick:List Int) (T:Foot) (vp:Value) (hp:SlR 1 IntR T w pick vp) (hpl:pick.length≤1048576) (hpr:∀ j∈pick,I64 j) :
  Calls Tryz.prog 11 #[vl,vu,vd,iv clock,iv turn,vr,vp] w fun e w'=>e=.returned (.tuple #[iv (weightT l undo «do» clock turn rf pick).1,.bool (weightT l undo «do» clock turn rf pick).2])∧Below w.heap.size w w':=by
 have ho:=prepare_any S l undo «do» clock turn rf vl vu vd vr w h
 obtain ⟨ua,uc,hvu,-⟩:=h.ur.slice; obtain ⟨da,dc,hvd,-⟩:=h.dr.slice; obtain ⟨la,lc,hvl,-⟩:=h.lr.slice; obtain ⟨ra,rc,hvr,-⟩:=h.rr.slice; obtain ⟨pa,pc,hvp,-⟩:=hp.slice; rw [hvu,hvd,hvl,hvr] at ho; have hp':=hp; rw [hvp] at hp'; rw [hvu,hvd,hvl,hvr,hvp]
 have hB0:prepE l undo «do» = 0→StlB (stlF l undo «do» clock turn rf):=fun e=>stlF_b (okArg_of e)
 unfold weightT; unfold PPost at ho
 obtain ⟨E,hE⟩:∃ E,E=prepE l undo «do»:=⟨_,rfl⟩
 obtain ⟨x,hx⟩:∃ x,x=stlF l undo «do» clock turn rf:=⟨_,rfl⟩
 rw [← hE,← hx] at ho hB0; rw [← hE,← hx]
 obtain ⟨⟨R1,R2⟩,hR⟩:∃ R:Int × Bool,R=if E=0 then weightF x pick else (0,false):=⟨_,rfl⟩
 rw [← hR]
 dsimp only
 replace hR:=hid hR; replace ho:=hid ho; replace hp:=hid hp'; replace hB0:=hid hB0; replace hpr:=hid hpr; clear hp' hE hx h hvu hvd hvl hvr hvp
 go_enter Tryz.func11,Tryz.ntmps11
 go_wp2_with fail
 refine ho.out.mono ?_; rintro e w1 ⟨hb,(⟨hne,rfl⟩ | ⟨h0,X,rfl,hX1,hX2,hX3⟩)⟩
 ·have q0:(E == 0)=false:=by simpa using hne
  have hn0:=hid hne; have hRR:=hR.out; rw [if_neg hne] at hRR; injection hRR with e1 e2; subst e1 e2; clear ho hB0 hne hR
  go_wp2_with fail
  go_ret2
  exact ⟨rfl,hb⟩
 ·subst h0
  have hRR:=hR.out; rw [if_pos rfl] at hRR; have hw:=weight_any X x pick T _ w1 hX2 (hB0.out rfl) (hp.out.below goodInt hb) hpl hpr; rw [← hRR] at hw
  dsimp only at hw
  replace hw:=hid hw; replace hb:=hid hb; clear ho hX2 hX1 hX3 hB0 hR hRR
  go_wp2_with fail
  refine hw.out.mono ?_; rintro e w2 ⟨rfl,hb2⟩; have hb3:=hid (hb.out.trans (hb2.mono hb.out.size)); clear hw hb2
  go_wp2_with fail
  go_ret2
  exact ⟨rfl,hb3.out⟩
end Go.Proofs.YtfejagpjahoibaaGreatDoor
