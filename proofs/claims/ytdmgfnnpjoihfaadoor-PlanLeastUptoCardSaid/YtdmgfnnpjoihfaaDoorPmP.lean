/- retroactlaw45.PlanLeast, walked. -/
import Derived.Test.YtdmgfnnpjoihfaaDoorPmK
import Derived.Deep.RegionHeld3
set_option linter.unusedVariables false
set_option linter.unusedSimpArgs false
namespace Go.Proofs.YtdmgfnnpjoihfaaDoor
open Go.RowKit
open Go.Lib (hid)
theorem run1_co {x:Stl} (pick:List Int) {dr:List Opt} (hd:∀ o∈dr,OptB o):∀ i:Nat,0≤(run1 x pick dr i).co∧(run1 x pick dr i).co≤i * 1048576
 | 0=>⟨Int.le_refl _,by simp [run1]⟩
 | i+1=>by
  have h:=run1_co (x:=x) pick hd i
  have ho:OptB ((dr[i]?).getD opt0):=by
   rcases e:dr[i]? with _ | o
   ·exact optB0
   ·exact hd o (List.mem_of_getElem? e)
  have hc:(run1 x pick dr (i+1)).co=(run1 x pick dr i).co+((dr[i]?).getD opt0).cost:=by
   show (p1 x pick i ((dr[i]?).getD opt0) (run1 x pick dr i)).co=_; unfold p1; split
   ·rfl
   ·split <;> rfl
  rw [hc]; have:=ho.2.2.1; have:=ho.2.2.2.1; omega
theorem run2_co {x:Stl} (hB:StlB x) (tk:Nat→Bool) (p:P4):∀ j:Nat,p.co≤(run2 x tk p j).co∧(run2 x tk p j).co≤p.co+j * 1048576
 | 0=>⟨Int.le_refl _,by simp [run2]⟩
 | j+1=>by
  have h:=run2_co hB tk p j
  have ho:OptB ((x.give[j]?).getD opt0):=by
   rcases e:x.give[j]? with _ | o
   ·exact optB0
   ·exact hB.g o (List.mem_of_getElem? e)
  have hc:(run2 x tk p (j+1)).co=(run2 x tk p j).co∨(run2 x tk p (j+1)).co=(run2 x tk p j).co+((x.give[j]?).getD opt0).cost:=by
   show (p2 x tk j ((x.give[j]?).getD opt0) (run2 x tk p j)).co=_∨(p2 x tk j ((x.give[j]?).getD opt0) (run2 x tk p j)).co=_; unfold p2; split
   ·exact Or.inl rfl
   ·split
    ·exact Or.inr rfl
    ·exact Or.inr rfl
  have:=ho.2.2.1; have:=ho.2.2.2.1; rcases hc with hc | hc <;> rw [hc] <;> omega
theorem plan_co {x:Stl} (hB:StlB x) {pick:List Int} {p:P4} (hp:planF x pick=some p):0≤p.co∧p.co≤(x.undo.length+x.do.length:Nat) * 1048576:=by
 unfold planF at hp
 cases e:optionsF x pick with
 | none=>rw [e] at hp; cases hp
 | some s =>
  rw [e] at hp; injection hp with hp; have h1:=run1_co (x:=x) pick (optionsF_ok hB e).1 x.undo.length
  have h2:=run2_co hB s.2 (run1 x pick s.1 x.undo.length) x.do.length
  rw [hp] at h2; omega
/-- what the law's statements get: a settlement in memory -/
structure LI0 (l:List Offer) (undo «do»:List Out) (rf:List (List UInt8)) (vl vu vd vr:Value) (w:World):Prop where
 pin:PI0 (fun _=>True) l undo «do» rf vl vu vd vr w
 u:∀ o∈undo,ValsB o.args
 d:∀ o∈«do»,ValsB o.args
theorem LI0.below {l:List Offer} {undo «do»:List Out} {rf:List (List UInt8)} {vl vu vd vr:Value} {w w':World} (h:LI0 l undo «do» rf vl vu vd vr w) (hb:Below w.heap.size w w'):LI0 l undo «do» rf vl vu vd vr w':=⟨h.pin.below hb,h.u,h.d⟩
/-- the same within the bounds of Few -/
structure LIn (l:List Offer) (undo «do»:List Out) (rf:List (List UInt8)) (vl vu vd vr:Value) (w:World):Prop where
 pin:PIn (fun _=>True) l undo «do» rf vl vu vd vr w
 u:∀ o∈undo,ValsB o.args
 d:∀ o∈«do»,ValsB o.args
theorem LIn.below {l:List Offer} {undo «do»:List Out} {rf:List (List UInt8)} {vl vu vd vr:Value} {w w':World} (h:LIn l undo «do» rf vl vu vd vr w) (hb:Below w.heap.size w w'):LIn l undo «do» rf vl vu vd vr w':=⟨h.pin.below hb,h.u,h.d⟩
theorem LI0.full {l:List Offer} {undo «do»:List Out} {rf:List (List UInt8)} {vl vu vd vr:Value} {w:World} (h:LI0 l undo «do» rf vl vu vd vr w) (hf:Few45 l undo «do» rf):LIn l undo «do» rf vl vu vd vr w:=⟨h.pin.full hf,h.u,h.d⟩
theorem Few45.small {l:List Offer} {undo «do»:List Out} {rf:List (List UInt8)} (h:Few45 l undo «do» rf):undo.length+«do».length≤31:=by have:=h.u.1; have:=h.d.1; omega
/-- Make within the bounds of Few: what the law sees of the plan -/
structure MadeB (l:List Offer) (undo «do»:List Out) (clock turn:Int) (rf:List (List UInt8)) (p:P4):Prop where
 ok:okArg l undo «do»
 n:undo.length+«do».length≤10
 pl:planF (stlF l undo «do» clock turn rf) (bestF (stlF l undo «do» clock turn rf))=some p
 st:p.st.length≤15
 re:p.re.length≤10
 c0:0≤p.co
 c1:p.co≤10485760
 w:pWl p.st p.re p.co=Pl.weightW (stlF l undo «do» clock turn rf).op (fstF (stlF l undo «do» clock turn rf)).pick
theorem made_b {l:List Offer} {undo «do»:List Out} {clock turn:Int} {rf rf0:List (List UInt8)} (hf:Few45 l undo «do» rf0) (h0:prepE l undo «do» = 0) {p:P4} (hp:planF (stlF l undo «do» clock turn rf) (bestF (stlF l undo «do» clock turn rf))=some p):MadeB l undo «do» clock turn rf p:=by
 have hok:=okArg_of h0; have hB:=stlF_b (clock:=clock) (turn:=turn) (R:=rf) hok; have h1:=plan_lens hp; have h2:=plan_co hB hp; have hu:=hf.u.1; have hd:=hf.d.1; have e1:(stlF l undo «do» clock turn rf).undo.length=undo.length:=rfl
 have e2:(stlF l undo «do» clock turn rf).do.length = «do».length:=rfl
 rw [e1,e2] at h1 h2; exact ⟨hok,by omega,hp,by omega,by omega,h2.1,by omega,plan_w stlF_n hB (stlF_w hok) (best_to hB) (p:=p) hp⟩
/-- Make in one word: refused with the code prepE, or a plan in memory -/
theorem makeL {l:List Offer} {undo «do»:List Out} {rf rf0:List (List UInt8)} {vl vu vd vr:Value} {w:World} (h:LIn l undo «do» rf vl vu vd vr w) (hf:Few45 l undo «do» rf0) (clock turn:Int) :
  Calls Tryd.prog 8 #[vl,vu,vd,iv clock,iv turn,vr] w fun e w'=>Below w.heap.size w w'∧((prepE l undo «do»≠0∧e=.returned (.tuple #[.agg #[.slice none 0 0,.slice none 0 0,iv 0,.slice none 0 0,.slice none 0 0],iv (prepE l undo «do»)])) ∨
   (prepE l undo «do» = 0∧∃ p sa sc ra rc Ra Rc Ca Cc,MadeB l undo «do» clock turn rf p∧e=.returned (.tuple #[.agg #[.slice sa p.st.length sc,.slice ra p.re.length rc,iv p.co,.slice Ra (undo.length+«do».length) Rc,.slice Ca (undo.length+«do».length) Cc],iv 0]) ∧
    PlnM w'.heap.size p.st p.re p.co (listN (undo.length+«do».length) (gN (stlF l undo «do» clock turn rf)).rows) (listN (undo.length+«do».length) (gN (stlF l undo «do» clock turn rf)).cols) (.slice sa p.st.length sc) (.slice ra p.re.length rc) (.slice Ra (undo.length+«do».length) Rc) (.slice Ca (undo.length+«do».length) Cc) (w'.alloc (.cells #[.slice sa p.st.length sc,.slice ra p.re.length rc,iv p.co,.slice Ra (undo.length+«do».length) Rc,.slice Ca (undo.length+«do».length) Cc] 28 (0,0))))):=by
 refine (make_any _ l undo «do» clock turn rf vl vu vd vr w h.pin hf.small h.d).mono ?_; rintro e w' ⟨hb,(⟨hne,rfl⟩ | ⟨h0,p,vs,vr',vR,vC,hp,rfl,h1,h2,h3,h4⟩)⟩
 ·exact ⟨hb,Or.inl ⟨hne,rfl⟩⟩
 ·obtain ⟨sa,sc,rfl⟩:=slice_at h1 rfl
  obtain ⟨ra,rc,rfl⟩:=slice_at h2 rfl; obtain ⟨Ra,Rc,rfl⟩:=slice_at h3 (listN_len _ _); obtain ⟨Ca,Cc,rfl⟩:=slice_at h4 (listN_len _ _); have ha:Below w'.heap.size w' (w'.alloc (.cells #[.slice sa p.st.length sc,.slice ra p.re.length rc,iv p.co,.slice Ra (undo.length+«do».length) Rc,.slice Ca (undo.length+«do».length) Cc] 28 (0,0))):=(Below.refl _ _).alloc (Nat.le_refl _) _; exact ⟨hb,Or.inr ⟨h0,p,sa,sc,ra,rc,Ra,Rc,Ca,Cc,made_b hf h0 hp,rfl,heap_alloc_new' _ _,(h1.mono goodCmd fun _ _ _=>trivial).below goodCmd ha,(h2.mono goodStr fun _ _ _=>trivial).below goodStr ha,(h3.mono goodInt fun _ _ _=>trivial).below goodInt ha,(h4.mono goodInt fun _ _ _=>trivial).below goodInt ha⟩⟩
/-- the law's weight of a plan in memory -/
theorem weightM {vl vu:Value} {B:Nat} {st:List Cmd} {re:List (List UInt8)} {co:Int} {rows cols:List Int} {vs vr vR vC:Value} {w:World} (h:PlnM B st re co rows cols vs vr vR vC w) (h1:st.length≤1000) (h2:re.length≤1000) (h3:0≤co) (h4:co≤1099511627776) :
  Calls Tryd.prog 11 #[vl,.agg #[vs,vr,iv co,vR,vC],vu] w fun e w'=>e=.returned (iv (pWl st re co))∧Below w.heap.size w w':=lweight_any vl vu _ _ st re co vs vr vR vC w h.s h.r h1 h2 h3 h4
end Go.Proofs.YtdmgfnnpjoihfaaDoor
