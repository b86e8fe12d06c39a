/- retroactlaw45.PlanLeast, walked. -/
import Derived.Test.YtfejagpjahoibaaGreatDoorPmK
import Derived.Deep.RegionHeld3
set_option linter.unusedVariables false
set_option linter.unusedSimpArgs false
namespace Go.Proofs.YtfejagpjahoibaaGreatDoor
open Go.RowKit
open Go.Lib (hid)
theorem run1_co {x:Stl} (pick:List Int) {dr:List Opt} (hd:∀ o∈dr,OptB o):∀ i:Nat,0≤(run1 x pick dr i).co∧(run1 x pick dr i).co≤i * 1048576
 | 0=>⟨Int.le_refl _,by simp [run1]⟩
 | i+1=>by
  have h:=run1_co (x:=x) pick hd i
  have ho:OptB ((dr[i]?).getD opt0):=by
   rcases e:dr[i]? with _ | o
   ·exact optB0
   ·exact hd o (List.mem_of_getElem? e)
  have hc:(run1 x pick dr (i+1)).co=(run1 x pick dr i).co+((dr[i]?).getD opt0).cost:=by
   show (p1 x pick i ((dr[i]?).getD opt0) (run1 x pick dr i)).co=_; unfold p1; split
   ·rfl
   ·split <;> rfl
  rw [hc]; have:=ho.2.2.1; have:=ho.2.2.2.1; omega
theorem run2_co {x:Stl} (hB:StlB x) (tk:Nat→Bool) (p:P4):∀ j:Nat,p.co≤(run2 x tk p j).co∧(run2 x tk p j).co≤p.co+j * 1048576
 | 0=>⟨Int.le_refl _,by simp [run2]⟩
 | j+1=>by
  have h:=run2_co hB tk p j
  have ho:OptB ((x.give[j]?).getD opt0):=by
   rcases e:x.give[j]? with _ | o
   ·exact optB0
   ·exact hB.g o (List.mem_of_getElem? e)
  have hc:(run2 x tk p (j+1)).co=(run2 x tk p j).co∨(run2 x tk p (j+1)).co=(run2 x tk p j).co+((x.give[j]?).getD opt0).cost:=by
   show (p2 x tk j ((x.give[j]?).getD opt0) (run2 x tk p j)).co=_∨(p2 x tk j ((x.give[j]?).getD opt0) (run2 x tk p j)).co=_; unfold p2; split
   ·exact Or.inl rfl
   ·split
    ·exact Or.inr rfl
    ·exact Or.inr rfl
  have:=ho.2.2.1; have:=ho.2.2.2.1; rcases hc with hc | hc <;> rw [hc] <;> omega
theorem plan_co {x:Stl} (hB:StlB x) {pick:List Int} {p:P4} (hp:planF x pick=some p):0≤p.co∧p.co≤(x.undo.length+x.do.length:Nat) * 1048576:=by
 unfold planF at hp
 cases e:optionsF x pick with
 | none=>rw [e] at hp; cases hp
 | some s =>
  rw [e] at hp; injection hp with hp; have h1:=run1_co (x:=x) pick (optionsF_ok hB e).1 x.undo.length
  have h2:=run2_co hB s.2 (run1 x pick s.1 x.undo.length) x.do.length
  rw [hp] at h2; omega
/-- what the law's statements get: a settlement in memory -/
structure LI0 (l:List Offer) (undo «do»:List Out) (rf:List (List UInt8)) (vl vu vd vr:Value) (w:World):Prop where
 pin:PI0 (fun _=>True) l undo «do» rf vl vu vd vr w
 u:∀ o∈undo,ValsB o.args
 d:∀ o∈«do»,ValsB o.args
theorem LI0.below {l:List Offer} {undo «do»:List Out} {rf:List (List UInt8)} {vl vu vd vr:Value} {w w':World} (h:LI0 l undo «do» rf vl vu vd vr w) (hb:Below w.heap.size w w'):LI0 l undo «do» rf vl vu vd vr w':=⟨h.pin.below hb,h.u,h.d⟩
/-- the same within the bounds of Few -/
structure LIn (l:List Offer) (undo «do»:List Out) (rf:List (List UInt8)) (vl vu vd vr:Value) (w:World):Prop where
 pin:PIn (fun _=>True) l undo «do» rf vl vu vd vr w
 u:∀ o∈undo,ValsB o.args
 d:∀ o∈«do»,ValsB o.args
theorem LIn.below {l:List Offer} {undo «do»:List Out} {rf:List (List UInt8)} {vl vu vd vr:Value} {w w':World} (h:LIn l undo «do» rf vl vu vd vr w) (hb:Below w.heap.size w w'):LIn l undo «do» rf vl vu vd vr w':=⟨h.pin.below hb,h.u,h.d⟩
theorem LI0.full {l:List Offer} {undo «do»:List Out} {rf:List (List UInt8)} {vl vu vd vr:Value} {w:World} (h:LI0 l undo «do» rf vl vu vd vr w) (hf:Few45 l undo «do» rf):LIn l undo «do» rf vl vu vd vr w:=⟨h.pin.full hf,h.u,h.d⟩
theorem Few45.small {l:List Offer} {undo «do»:List Out} {rf:List (List UInt8)} (h:Few45 l undo «do» rf):undo.length+«do».length≤31:=by have:=h.u.1; have:=h.d.1; omega
/-- Make within the bounds of Few: what the law sees of the plan -/
structure MadeB (l:List Offer) (undo «do»:List Out) (clock turn:Int) (rf:List (List UInt8)) (p:P4):Prop where
 ok:okArg l undo «do»
 n:undo.length+«do».length≤10
 pl:planF (stlF l undo «do» clock turn rf) (bestF (stlF l undo «do» clock turn rf))=some p
 st:p.st.length≤15
 re:p.re.length≤10
 c0:0≤p.co
 c1:p.co≤10485760
 w:pWl p.st p.re p.co=Pl.weightW (stlF l undo «do» clock turn rf).op (fstF (stlF l undo «do» clock turn rf)).pick
theorem made_b {l:List Offer} {undo «do»:List Out} {clock turn:Int} {rf rf0:List (List UInt8)} (hf:Few45 l undo «do» rf0) (h0:prepE l undo «do» = 0) {p:P4} (hp:planF (stlF l undo «do» clock turn rf) (bestF (stlF l undo «do» clock turn rf))=some p):MadeB l undo «do» clock turn rf p:=by
 have hok:=okArg_of h0; have hB:=stlF_b (clock:=clock) (turn:=turn) (R:=rf) hok; have h1:=plan_lens hp; have h2:=plan_co hB hp; have hu:=hf.u.1; have hd:=hf.d.1; have e1:(stlF l undo «do» clock turn rf).undo.length=undo.length:=rfl
 have e2:(stlF l undo «do» clock turn rf).do.length = «do».length:=rfl
 rw [e1,e2] at h1 h2; exact ⟨hok,by omega,hp,by omega,by omega,h2.1,by omega,plan_w stlF_n hB (stlF_w hok) (best_to hB) (p:=p) hp⟩
end Go.Proofs.YtfejagpjahoibaaGreatDoor
