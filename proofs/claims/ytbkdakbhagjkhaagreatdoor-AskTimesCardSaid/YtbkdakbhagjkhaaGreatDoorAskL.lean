/- Tmp27: AskK, AskL, in one text. -/
import Derived.Test.YtbkdakbhagjkhaaGreatDoorAskJ
import Derived.Lib.ItoaLen
set_option linter.unusedVariables false
namespace Go.Proofs.YtbkdakbhagjkhaaGreatDoor
open Go.RowKit
open Go.Lib (hid itoa)
/-- the table of powers of ten; it does not lie in the parser's block -/
def TabN (pb : Nat) (w : World) : Prop := ∃ g cs t f, Tryz.prog.globalNamed "internal/strconv.uint64pow10" = some g ∧ g ≠ pb ∧ w.heap[g]? = some (.cells cs t f) ∧ cs = (Lib.pow10Tab.map fun z => Value.int .u64 z).toArray
theorem TabN.tab {pb : Nat} {w : World} (h : TabN pb w) : Tab w := by
  obtain ⟨g, cs, t, f, h1, h2, h3, h4⟩ := h
  unfold Tab Lib.TabIs World.var?
  rw [h1, ← h4]
  show (match w.heap[g]? with | some (.cells cs _ _) => some cs | _ => none) = some cs
  rw [h3]
theorem TabN.of {w : World} {pb : Nat} (h : Tab w) (hp : w.heap.size ≤ pb) : TabN pb w := by
  unfold Tab Lib.TabIs World.var? at h
  rcases hg : Tryz.prog.globalNamed "internal/strconv.uint64pow10" with _ | g
  · rw [hg] at h; cases h
  · rw [hg] at h
    replace h : (match w.heap[g]? with | some (.cells cs _ _) => some cs | _ => none) = some (Lib.pow10Tab.map fun z => Value.int .u64 z).toArray := h
    rcases ho : w.heap[g]? with _ | o
    · rw [ho] at h; cases h
    · rw [ho] at h
      cases o with
      | cells cs t f => exact ⟨g, cs, t, f, hg, by have := lt_of_some ho; omega, ho, by injection h⟩
      | _ => cases h
theorem TabN.fr {pb : Nat} {w w' : World} (h : TabN pb w) (hf : Fr (one pb) w w') : TabN pb w' := by
  obtain ⟨g, cs, t, f, h1, h2, h3, h4⟩ := h
  exact ⟨g, cs, t, f, h1, h2, (hf.block g (lt_of_some h3) h2).trans h3, h4⟩
theorem TabN.below {pb : Nat} {w w' : World} (h : TabN pb w) (hb : Below w.heap.size w w') : TabN pb w' := h.fr (Fr.of_below hb _)
/-- the map holds the names that occur -/
def NamesOk (K : PK) : Prop := ∀ s : List UInt8, K.f (.string s) = if s ∈ namesP K.ts then some (.bool true) else none
theorem keyLitA (s : List UInt8) (h : s.length ≤ 1048576) : keyOf Tryz.prog 9 (sv s) = some (.string s) := by
  have := WideMaps.keyOf_string_mk (P := Tryz.prog) (k := 9) Tryz.underlying9 (s := ⟨s.toArray⟩) (by rw [ByteArray.size_mk', List.size_toArray]; unfold maxLen; omega)
  simpa using this
theorem name_look {K : PK} {pb : Nat} {st : PSt} {w : World} (h : PM pb K st w) (hN : NamesOk K) (s : List UInt8) (hs : s.length ≤ 1048576) :
    (Instr.lookup 54 (.map (some K.mb)) (sv s) false).run Tryz.prog w = .ok (.bool (decide (s ∈ namesP K.ts))) w := by
  have := h.map.look (Maps.string_keyed Tryz.underlying9) (t := 54) (e := 4) Tryz.underlying54 (z := .bool false) (by kernel_rfl) (keyLitA s hs) trivial
  rw [this, hN s]
  by_cases e : s ∈ namesP K.ts
  · rw [if_pos e, decide_eq_true e]; rfl
  · rw [if_neg e, decide_eq_false e]; rfl
theorem PM.setVars {pb : Nat} {K : PK} {st : PSt} {w : World} (h : PM pb K st w) (n : Nat) : PM pb K { st with vars := n } (w.setCell ⟨pb, 4, none⟩ (iv n)) :=
  h.turn (fun q hq => heap_setCell_other _ hq) (heap_setCell_same h.blk _) h.nx
theorem PM.setRels {pb : Nat} {K : PK} {st : PSt} {w : World} (h : PM pb K st w) (n : Nat) : PM pb K { st with rels := n } (w.setCell ⟨pb, 5, none⟩ (iv n)) :=
  h.turn (fun q hq => heap_setCell_other _ hq) (heap_setCell_same h.blk _) h.nx
theorem itoa_len (n : Nat) (h : n ≤ 4611686018427387904) : (itoa (n : Int)).length ≤ 100 := Nat.le_trans (Lib.itoa_length_le _ (by omega) (by omega)) (by decide)
def PNewV (pb : Nat) (K : PK) (w : World) (r : Tm × PSt) (e : Ending) (w' : World) : Prop := e = .returned (.agg (fcells r.1)) ∧ PM pb K r.2 w' ∧ Fr (one pb) w w'
def PNewR (pb : Nat) (K : PK) (w : World) (r : List UInt8 × PSt) (e : Ending) (w' : World) : Prop := e = .returned (sv r.1) ∧ PM pb K r.2 w' ∧ Fr (one pb) w w'
set_option maxHeartbeats 1000000 in
set_option maxRecDepth 100000 in
theorem newVar_any (pb : Nat) (K : PK) (st : PSt) (w : World) (h : PM pb K st w) (hT : TabN pb w) (hN : NamesOk K) (hb : st.vars + K.toks.length + 1 ≤ 4611686018427387904) :
    Calls Tryz.prog 75 #[pt pb] w (PNewV pb K w (newVarP K.ts st)) := by
  obtain ⟨R, hR⟩ : ∃ R, R = freshP (namesP K.ts) [84] (K.ts.length + 1) st.vars := ⟨_, rfl⟩
  obtain ⟨Z, hZ⟩ : ∃ Z, newVarP K.ts st = Z := ⟨_, rfl⟩
  rw [hZ]
  replace hZ := hid (show Z = (tmVar ([84] ++ itoa ((R : Nat) : Int)), { st with vars := R }) from by rw [← hZ, hR]; rfl)
  have htl : K.ts.length = K.toks.length := by unfold PK.ts; rw [List.length_map]
  have hex := fresh_some (namesP K.ts) [84] st.vars (K.ts.length + 1) (Nat.lt_succ_of_le (namesP_len _)) (by omega)
  have hpl := h.lt
  have hne : ¬ pb = w.heap.size := by omega
  have hne2 : ¬ w.heap.size = pb := by omega
  have hbA := (Below.refl w.heap.size w).alloc (Nat.le_refl _) (.cells #[.string ⟨#[]⟩, .int .i64 0, .string ⟨#[]⟩, .int .i64 0, .int .i64 0, .string ⟨#[]⟩, .slice none 0 0] 44)
  have hMA := hid (h.below hbA)
  have hrA := hid (show (w.alloc (.cells #[.string ⟨#[]⟩, .int .i64 0, .string ⟨#[]⟩, .int .i64 0, .int .i64 0, .string ⟨#[]⟩, .slice none 0 0] 44)).heap[w.heap.size]? = some (.cells (fcells tm0) 44 (0, 0)) from heap_alloc_new' _ _)
  have hfA := hid (Fr.of_below hbA (one pb))
  have hTA := hid (hT.fr hfA.out)
  have hh := hid h
  clear h hbA hT
  replace hN := hid hN
  replace hR := hid hR
  replace hex := hid hex
  go_enter Tryz.func75, Tryz.ntmps75
  go_wp2_with fail
  go_loopg [3] (K.toks.length + 1) (fun g v wr => ∃ (n f : Nat), f = g ∧ n + f = st.vars + K.toks.length + 1 ∧ Hid (freshP (namesP K.ts) [84] f n = R) ∧ Hid (∃ j, 1 ≤ j ∧ j ≤ f ∧ [84] ++ itoa ((n + j : Nat) : Int) ∉ namesP K.ts) ∧ Hid (PM pb K { st with vars := n } wr) ∧ Hid (Fr (one pb) w wr) ∧ Hid (TabN pb wr) ∧ Hid (wr.heap[w.heap.size]? = some (.cells (fcells tm0) 44 (0, 0))))
  case atStart =>
    exact ⟨st.vars, _, rfl, by omega, hid (by rw [hR.out, htl]), hid (by rw [← htl]; exact hex.out), hMA, hfA, hTA, hrA⟩
  case round =>
    obtain ⟨n, g, hgg, hg, hF, hE, hM, hf, hTw, hr⟩ := hrel
    obtain ⟨g, rfl⟩ : ∃ g', g = g' + 1 := ⟨g - 1, by obtain ⟨j, h1, h2, -⟩ := hE.out; omega⟩
    obtain ⟨m, hm⟩ : ∃ m, m = n + 1 := ⟨_, rfl⟩
    have e1 : IntKind.i64.wrap ((n : Int) + 1) = (m : Int) := by rw [IntKind.wrap_i64]; omega
    have c4 := hM.out.cell (i := 4) (v := iv n) rfl
    have f4 := hM.out.free 4
    have hM1 := hid (hM.out.setVars m)
    have hf1 := hid (hf.out.setCell (p := ⟨pb, 4, none⟩) (Or.inl (show one pb pb from rfl)) (iv (m : Int)))
    have hr1 := hid ((heap_setCell_other (b := pb) (i := 4) (iv (m : Int)) hne2).trans hr.out)
    have hT1 := hid (hTw.out.fr ((Fr.refl (one pb) wr).setCell (p := ⟨pb, 4, none⟩) (Or.inl (show one pb pb from rfl)) (iv (m : Int))))
    have hx := hid (text_any (m : Int) _ (by omega) (by omega) (hid hT1.out.tab))
    obtain ⟨W, hW⟩ : ∃ W, W = wr.setCell ⟨pb, 4, none⟩ (iv (m : Int)) := ⟨_, rfl⟩
    have hln := itoa_len m (by omega)
    obtain ⟨N, hNN⟩ : ∃ N, N = itoa (m : Int) := ⟨_, rfl⟩
    rw [← hNN] at hx hln
    replace hF := hid (show (if [84] ++ N ∈ namesP K.ts then freshP (namesP K.ts) [84] g m else m) = R from by rw [hNN, hm]; exact hF.out)
    replace hNN := hid hNN
    rw [← hW] at hM1 hf1 hr1 hT1 hx
    have hmb : m ≤ 4611686018427387904 := by omega
    replace hm := hid hm
    go_wp2_with fail
    rw [← hW]
    with_reducible refine hx.out.mono ?_
    rintro e w2 ⟨rfl, hb⟩
    have hM2 := hid (hM1.out.below hb)
    have hf2 := hid (hf1.out.trans (Fr.of_below hb _))
    have hr2 := hid (below_keep hb hr1.out (lt_of_heap hr1.out))
    have hT2 := hid (hT1.out.below hb)
    have c3 := hM2.out.cell (i := 3) (v := mapv K.mb) rfl
    obtain ⟨s, hs⟩ : ∃ s, s = [84] ++ N := ⟨_, rfl⟩
    have hcat : ByteArray.mk #[84] ++ ⟨N.toArray⟩ = ⟨s.toArray⟩ := by rw [hs]; simp [ByteArray.mk_append_mk]
    have hlk := name_look hM2.out hN.out s (by rw [hs]; simp; omega)
    rw [← hs] at hF
    replace hs := hid hs
    replace hW := hid hW
    by_cases hin : s ∈ namesP K.ts
    · rw [decide_eq_true hin] at hlk
      replace hF := hid ((if_pos hin).symm.trans hF.out)
      replace hin := hid hin
      go_wp2_with fail
      go_roundg g
      case measure => omega
      case rel => exact ⟨m, g, rfl, by have := hm.out; omega, hF, hid (by
        obtain ⟨j, h1, h2, h3⟩ := hE.out
        have hm' := hm.out
        refine ⟨j - 1, ?_, by omega, by rw [show m + (j - 1) = n + j by omega]; exact h3⟩
        rcases Nat.lt_or_ge 1 j with h4 | h4
        · omega
        · have : j = 1 := by omega
          subst this
          rw [← hm', ← hNN.out, ← hs.out] at h3
          exact absurd hin.out h3), hM2, hf2, hT2, hr2⟩
    · rw [decide_eq_false hin] at hlk
      replace hF := hid ((if_neg hin).symm.trans hF.out)
      replace hin := hid hin
      obtain ⟨q0, q1, q2, q3, q4, q5, q6, fz⟩ := tm_cells hr2.out
      have fz0 := fz 0
      have fz1 := fz 1
      have fz2 := fz 2
      have fz3 := fz 3
      have fz4 := fz 4
      have fz5 := fz 5
      have fz6 := fz 6
      clear fz
      go_wp2_with fail
      have hF' := hf2.out.setTm (Nat.le_refl w.heap.size) (tmVar s)
      have hP := hh.out.fr hF' ((tm_other hne).trans hM2.out.blk) hM2.out.nx
      refine bodyPost_ret (v := .agg (fcells (tmVar s))) (results_cell_row (by rfl) _ _ w.heap.size 44 _ (0, 0) _ (by rfl) (tm_set hr2.out (tmVar s)) Tryz.underlying44 rfl (by kernel_rfl)) rfl ?_
      have hse : s = [84] ++ itoa ((R : Nat) : Int) := by rw [hs.out, hNN.out, hF.out]
      rw [hZ.out, ← hse]
      exact ⟨rfl, by rw [← hF.out]; exact hP, hF'⟩
set_option maxHeartbeats 1000000 in
set_option maxRecDepth 100000 in
theorem newRel_any (pb : Nat) (K : PK) (st : PSt) (w : World) (h : PM pb K st w) (hT : TabN pb w) (hN : NamesOk K) (hb : st.rels + K.toks.length + 1 ≤ 4611686018427387904) :
    Calls Tryz.prog 78 #[pt pb] w (PNewR pb K w (newRelP K.ts st)) := by
  obtain ⟨R, hR⟩ : ∃ R, R = freshP (namesP K.ts) [97, 117, 120] (K.ts.length + 1) st.rels := ⟨_, rfl⟩
  obtain ⟨Z, hZ⟩ : ∃ Z, newRelP K.ts st = Z := ⟨_, rfl⟩
  rw [hZ]
  replace hZ := hid (show Z = ([97, 117, 120] ++ itoa ((R : Nat) : Int), { st with rels := R }) from by rw [← hZ, hR]; rfl)
  have htl : K.ts.length = K.toks.length := by unfold PK.ts; rw [List.length_map]
  have hex := fresh_some (namesP K.ts) [97, 117, 120] st.rels (K.ts.length + 1) (Nat.lt_succ_of_le (namesP_len _)) (by omega)
  have hpl := h.lt
  have hh := hid h
  replace hT := hid hT
  have hfA := hid (Fr.refl (one pb) w)
  clear h
  replace hN := hid hN
  replace hR := hid hR
  replace hex := hid hex
  go_enter Tryz.func78, Tryz.ntmps78
  go_wp2_with fail
  go_loopg [3] (K.toks.length + 1) (fun g v wr => ∃ (n f : Nat), f = g ∧ n + f = st.rels + K.toks.length + 1 ∧ Hid (freshP (namesP K.ts) [97, 117, 120] f n = R) ∧ Hid (∃ j, 1 ≤ j ∧ j ≤ f ∧ [97, 117, 120] ++ itoa ((n + j : Nat) : Int) ∉ namesP K.ts) ∧ Hid (PM pb K { st with rels := n } wr) ∧ Hid (Fr (one pb) w wr) ∧ Hid (TabN pb wr))
  case atStart =>
    exact ⟨st.rels, _, rfl, by omega, hid (by rw [hR.out, htl]), hid (by rw [← htl]; exact hex.out), hh, hfA, hT⟩
  case round =>
    obtain ⟨n, g, hgg, hg, hF, hE, hM, hf, hTw⟩ := hrel
    obtain ⟨g, rfl⟩ : ∃ g', g = g' + 1 := ⟨g - 1, by obtain ⟨j, h1, h2, -⟩ := hE.out; omega⟩
    obtain ⟨m, hm⟩ : ∃ m, m = n + 1 := ⟨_, rfl⟩
    have e1 : IntKind.i64.wrap ((n : Int) + 1) = (m : Int) := by rw [IntKind.wrap_i64]; omega
    have c4 := hM.out.cell (i := 5) (v := iv n) rfl
    have f4 := hM.out.free 5
    have hM1 := hid (hM.out.setRels m)
    have hf1 := hid (hf.out.setCell (p := ⟨pb, 5, none⟩) (Or.inl (show one pb pb from rfl)) (iv (m : Int)))
    have hT1 := hid (hTw.out.fr ((Fr.refl (one pb) wr).setCell (p := ⟨pb, 5, none⟩) (Or.inl (show one pb pb from rfl)) (iv (m : Int))))
    have hx := hid (text_any (m : Int) _ (by omega) (by omega) (hid hT1.out.tab))
    obtain ⟨W, hW⟩ : ∃ W, W = wr.setCell ⟨pb, 5, none⟩ (iv (m : Int)) := ⟨_, rfl⟩
    have hln := itoa_len m (by omega)
    obtain ⟨N, hNN⟩ : ∃ N, N = itoa (m : Int) := ⟨_, rfl⟩
    rw [← hNN] at hx hln
    replace hF := hid (show (if [97, 117, 120] ++ N ∈ namesP K.ts then freshP (namesP K.ts) [97, 117, 120] g m else m) = R from by rw [hNN, hm]; exact hF.out)
    replace hNN := hid hNN
    rw [← hW] at hM1 hf1 hT1 hx
    have hmb : m ≤ 4611686018427387904 := by omega
    replace hm := hid hm
    go_wp2_with fail
    rw [← hW]
    with_reducible refine hx.out.mono ?_
    rintro e w2 ⟨rfl, hb⟩
    have hM2 := hid (hM1.out.below hb)
    have hf2 := hid (hf1.out.trans (Fr.of_below hb _))
    have hT2 := hid (hT1.out.below hb)
    have c3 := hM2.out.cell (i := 3) (v := mapv K.mb) rfl
    obtain ⟨s, hs⟩ : ∃ s, s = [97, 117, 120] ++ N := ⟨_, rfl⟩
    have hcat : ByteArray.mk #[97, 117, 120] ++ ⟨N.toArray⟩ = ⟨s.toArray⟩ := by rw [hs]; simp [ByteArray.mk_append_mk]
    have hlk := name_look hM2.out hN.out s (by rw [hs]; simp; omega)
    rw [← hs] at hF
    replace hs := hid hs
    replace hW := hid hW
    by_cases hin : s ∈ namesP K.ts
    · rw [decide_eq_true hin] at hlk
      replace hF := hid ((if_pos hin).symm.trans hF.out)
      replace hin := hid hin
      go_wp2_with fail
      go_roundg g
      case measure => omega
      case rel => exact ⟨m, g, rfl, by have := hm.out; omega, hF, hid (by
        obtain ⟨j, h1, h2, h3⟩ := hE.out
        have hm' := hm.out
        refine ⟨j - 1, ?_, by omega, by rw [show m + (j - 1) = n + j by omega]; exact h3⟩
        rcases Nat.lt_or_ge 1 j with h4 | h4
        · omega
        · have : j = 1 := by omega
          subst this
          rw [← hm', ← hNN.out, ← hs.out] at h3
          exact absurd hin.out h3), hM2, hf2, hT2⟩
    · rw [decide_eq_false hin] at hlk
      replace hF := hid ((if_neg hin).symm.trans hF.out)
      replace hin := hid hin
      go_wp2_with fail
      go_ret
      have hse : s = [97, 117, 120] ++ itoa ((R : Nat) : Int) := by rw [hs.out, hNN.out, hF.out]
      rw [hZ.out, ← hse]
      exact ⟨rfl, by rw [← hF.out]; exact hM2.out, hf2.out⟩
end Go.Proofs.YtbkdakbhagjkhaaGreatDoor
namespace Go.Proofs.YtbkdakbhagjkhaaGreatDoor
open Go.RowKit
open Go.Lib (hid itoa)
open Classical in
noncomputable def seenF (seen : List (List UInt8)) : Lit → Option Value := fun kl => match kl with
  | .string s => if s ∈ seen then some (.bool true) else none
  | _ => none
theorem seenF_put (seen : List (List UInt8)) (s : List UInt8) : ∀ kl, WideAt.IsKeyLit kl → seenF (s :: seen) kl = putF (seenF seen) (.string s) (.bool true) kl := by
  intro kl hk
  unfold putF
  by_cases e : kl = .string s
  · subst e; rw [if_pos rfl]; unfold seenF; simp
  · rw [if_neg e]
    unfold seenF
    cases kl with
    | string u =>
      have hne : u ≠ s := fun e2 => e (by rw [e2])
      simp [hne]
    | _ => rfl
theorem grown_below {w w' : World} {b B : Nat} (h : w.grownBy w' (some b)) (hB : B ≤ b) (hw : B ≤ w.heap.size) : Below B w w' :=
  ⟨h.os, h.tape, h.output, h.size, fun k hk => h.block k (by omega) (fun e => by injection e with e; omega)⟩
/-- with's memory while it looks at the arguments -/
structure WithM (w : World) (mb : Nat) (lc : Array Value) (k : Nat) (seen : List (List UInt8)) (acc : List Tm) (v : Value) (wr : World) : Prop where
  below : Below w.heap.size w wr
  box : wr.heap[w.heap.size]? = some (.cells lc 28 (0, 0))
  res : wr.heap[w.heap.size + 1]? = some (.cells (lcells 0 false [] (.slice none 0 0)) 28 (0, 0))
  map : MapV Tryz.prog 9 mb (k + 2) (seenF seen) wr
  row : OwnR 44 7 FlR (fun q => w.heap.size + 1 < q ∧ q ≠ mb) wr acc v
  hmb : w.heap.size + 1 < mb
section
variable {w : World} {mb k : Nat} {lc : Array Value} {seen : List (List UInt8)} {acc : List Tm} {v : Value} {wr wr' : World}
theorem WithM.lt (h : WithM w mb lc k seen acc v wr) : w.heap.size + 1 < wr.heap.size := Nat.lt_trans h.hmb h.map.lt
theorem WithM.grow (h : WithM w mb lc k seen acc v wr) (hb : Below wr.heap.size wr wr') : WithM w mb lc k seen acc v wr' := by
  have hl := h.lt
  exact ⟨h.below.trans (hb.mono (by omega)), below_keep hb h.box (by omega), below_keep hb h.res (by omega), h.map.below hb h.map.lt, h.row.below goodFl hb, h.hmb⟩
theorem WithM.mono (h : WithM w mb lc k seen acc v wr) : WithM w mb lc (k + 1) seen acc v wr := ⟨h.below, h.box, h.res, h.map.mono (by omega), h.row, h.hmb⟩
theorem WithM.put (h : WithM w mb lc k seen acc v wr) (hk : k ≤ 1048576) (s : List UInt8) (hs : s.length ≤ 1048576) : ∃ W, (Instr.mapUpdate 54 (.map (some mb)) (sv s) (.bool true)).run Tryz.prog wr = .ok () W ∧ WithM w mb lc (k + 1) (s :: seen) acc v W ∧ Fr (one mb) wr W := by
  obtain ⟨W, h1, h2, h3⟩ := h.map.put (Maps.string_keyed Tryz.underlying9) (t := 54) (e := 4) Tryz.underlying54 (by unfold maxLen; omega) (keyLitA s hs) trivial (.bool true)
  have hf : Fr (one mb) wr W := (Fr.refl _ wr).grown h3 (fun k hk => by injection hk with hk; exact Or.inl hk.symm)
  have hm := h.hmb
  have hl := h.lt
  refine ⟨W, h1, ⟨h.below.trans (hf.to_below (by omega) (fun k hk e => by unfold one at e; omega)), (hf.block _ (by omega) (by unfold one; omega)).trans h.box, (hf.block _ (by omega) (by unfold one; omega)).trans h.res, h2.congr (seenF_put seen s), h.row.fr goodFl hf (fun k hk e => hk.2 e), hm⟩, hf⟩
theorem WithM.push (h : WithM w mb lc k seen acc v wr) (x : Tm) (hl : acc.length ≤ 1048576) : ∃ a c W, AppRun Tryz.prog 26 26 26 v (.slice (some ⟨wr.heap.size, 0, none⟩) 1 1) (.slice a (acc.length + 1) c) (wr.alloc (.cells (fcells x) 44)) W ∧ WithM w mb lc k seen (acc ++ [x]) (.slice a (acc.length + 1) c) W := by
  have hlt := h.lt
  have hm := h.hmb
  have hml := h.map.lt
  obtain ⟨a, c, W, h1, h2, h3⟩ := tmPush x h.row (fun q hq => ⟨by omega, by omega⟩) hl
  exact ⟨a, c, W, h1, ⟨h.below.trans (h3.to_below (by omega) (fun k hk e => by omega)), (h3.block _ (by omega) (by omega)).trans h.box, (h3.block _ (by omega) (by omega)).trans h.res, h.map.same (h3.block _ hml (fun e => e.2 rfl)), h2, hm⟩⟩
end
theorem dvars_in {seen : List (List UInt8)} {t : Tm} {l : List Tm} (h : t.var ∈ seen) : dvars seen (t :: l) = dvars seen l := by rw [dvars, if_pos h]
theorem dvars_new {seen : List (List UInt8)} {t : Tm} {l : List Tm} (h : t.var ∉ seen) : dvars seen (t :: l) = t :: dvars (t.var :: seen) l := by rw [dvars, if_neg h]
theorem dvars_same : ∀ (l : List Tm) (s1 s2 : List (List UInt8)), (∀ x, x ∈ s1 ↔ x ∈ s2) → dvars s1 l = dvars s2 l
  | [], _, _, _ => rfl
  | t :: l, s1, s2, h => by
    by_cases e : t.var ∈ s1
    · rw [dvars_in e, dvars_in ((h _).1 e), dvars_same l s1 s2 h]
    · rw [dvars_new e, dvars_new (fun e2 => e ((h _).2 e2)), dvars_same l (t.var :: s1) (t.var :: s2) (fun x => by simp only [List.mem_cons, h x])]
theorem seen_look {mb N : Nat} {seen : List (List UInt8)} {w : World} (h : MapV Tryz.prog 9 mb N (seenF seen) w) (s : List UInt8) (hs : s.length ≤ 1048576) :
    (Instr.lookup 54 (.map (some mb)) (sv s) false).run Tryz.prog w = .ok (.bool (decide (s ∈ seen))) w := by
  have := h.look (Maps.string_keyed Tryz.underlying9) (t := 54) (e := 4) Tryz.underlying54 (z := .bool false) (by kernel_rfl) (keyLitA s hs) trivial
  rw [this]
  unfold seenF
  by_cases e : s ∈ seen
  · simp [e]
  · simp [e]
set_option maxHeartbeats 2000000 in
set_option maxRecDepth 100000 in
theorem with_any (rel : List UInt8) (l : Lt) (ts : List Tm) (S1 S2 : Foot) (v tv : Value) (w : World) (hv : SlR 7 FlR S1 w l.args v) (ht : SlR 7 FlR S2 w ts tv) (hl : ts.length + l.args.length ≤ 1048576) (hvar : ∀ t ∈ l.args, t.var.length ≤ 1048576) :
    Calls Tryz.prog 79 #[sv rel, .agg (lcells l.op l.nt l.rel v), tv] w (PL1 w (withF rel l ts)) := by
  obtain ⟨a0, c0, rfl⟩ : ∃ a c, v = .slice a l.args.length c := by obtain ⟨a, c, e, _⟩ := hv.slice; exact ⟨a, c, e⟩
  obtain ⟨a1, c1, rfl⟩ : ∃ a c, tv = .slice a ts.length c := by obtain ⟨a, c, e, _⟩ := ht.slice; exact ⟨a, c, e⟩
  obtain ⟨op, nt, lrel, args⟩ := l
  replace hl : ts.length + args.length ≤ 1048576 := hl
  replace hv := hid hv
  replace ht := hid ht
  replace hvar := hid hvar
  obtain ⟨h1, h2, h3, hz, hb⟩ := alloc3 w (.cells (lcells op nt lrel (.slice a0 args.length c0)) 28) (.cells #[.int .i64 0, .bool false, .string ⟨#[]⟩, .slice none 0 0] 28) (.cells #[] 44)
  obtain ⟨ar, cr, W5, hap, hO, hF⟩ := tmsPush (S := fun q => w.heap.size + 1 < q) (own_tms (l := []) h3 (by show 0 ≤ maxLen; decide) (by omega)) (ht.out.below goodFl hb) (fun q hq => by omega) (by simp; omega)
  replace hap : AppRun Tryz.prog 26 26 26 (.slice (some ⟨w.heap.size + 1 + 1, 0, none⟩) 0 0) (.slice a1 ts.length c1) (.slice ar (0 + ts.length) cr) _ W5 := hap
  rw [Nat.zero_add] at hap
  replace hO := hid (show OwnR 44 7 FlR (fun q => w.heap.size + 1 < q) W5 ts (.slice ar ts.length cr) from by have := hO; rw [List.nil_append, List.length_nil, Nat.zero_add] at this; exact this)
  have hb5 := hid (hb.trans (hF.to_below (B := w.heap.size) (by omega) (fun k hk e => by omega)))
  have g1 := hid ((hF.block _ (by omega) (by omega)).trans h1)
  have g2 := hid ((hF.block _ (by omega) (by omega)).trans h2)
  have hz5 := hid (show w.heap.size + 1 < W5.heap.size from by have := hF.size; omega)
  clear h1 h2 h3 hb hF ht
  replace hz := hid hz
  have hmm := @run_makeMap Tryz.prog
  obtain ⟨W6, hu1, hm6, hg6⟩ := (MapV.made (P := Tryz.prog) (k := 9) W5).put (Maps.string_keyed Tryz.underlying9) (t := 54) (e := 4) Tryz.underlying54 (by decide) (keyLitA [] (by decide)) trivial (.bool true)
  obtain ⟨W7, hu2, hm7, hg7⟩ := hm6.put (Maps.string_keyed Tryz.underlying9) (t := 54) (e := 4) Tryz.underlying54 (by decide) (keyLitA [95] (by decide)) trivial (.bool true)
  have hbM : Below W5.heap.size W5 W7 := ((Below.refl W5.heap.size W5).alloc (Nat.le_refl _) (.map #[] 0)).trans ((grown_below hg6 (Nat.le_refl _) (by simp)).trans (grown_below hg7 (Nat.le_refl _) (Nat.le_trans (by simp) hg6.size)))
  have hz5' := hz5.out
  have hS7 := hid (show WithM w W5.heap.size (lcells op nt lrel (.slice a0 args.length c0)) 0 [[95], []] ts (.slice ar ts.length cr) W7 from
    ⟨hb5.out.trans (hbM.mono hb5.out.size), below_keep hbM g1.out (by omega), below_keep hbM g2.out (by omega),
     (hm7.mono (by omega)).congr (fun kl hk => by
        rw [seenF_put _ _ kl hk]
        unfold putF
        by_cases e : kl = .string [95]
        · rw [if_pos e, if_pos e]
        · rw [if_neg e, if_neg e, seenF_put _ _ kl hk]
          unfold putF
          by_cases e2 : kl = .string []
          · rw [if_pos e2, if_pos e2]
          · rw [if_neg e2, if_neg e2]; unfold seenF; cases kl <;> simp),
     hO.out.move goodFl fun k hk hk2 => ⟨⟨hk2, by omega⟩, hbM.block k hk⟩, hz5.out⟩)
  obtain ⟨b0, b1, b2, b3, -⟩ := lt_cells hS7.out.box
  have hseen : ∀ l : List Tm, dvars [[], [95]] l = dvars [[95], []] l := fun l => dvars_same l _ _ (fun x => by simp [or_comm])
  obtain ⟨RES, hRES⟩ : ∃ RES, RES = ts ++ dvars [[95], []] args := ⟨_, rfl⟩
  have hWF := hid (show withF rel ⟨op, nt, lrel, args⟩ ts = ⟨0, false, rel, RES⟩ from by unfold withF; rw [hRES, hseen])
  replace hRES := hid hRES
  obtain ⟨mb, hmb⟩ : ∃ mb, mb = W5.heap.size := ⟨_, rfl⟩
  rw [← hmb] at hS7
  have hmm' := hmm 54 W5
  rw [← hmb] at hmm' hu1 hu2
  clear hmm hm6 hm7 hg6 hg7 hbM g1 g2 hO hb5 hseen hz5'
  replace hmb := hid hmb
  replace hz5 := hid hz5.out
  go_enter Tryz.func79, Tryz.ntmps79
  go_wp2_with (first | (at_builtin; refine wpList_append_shut rfl (.tmp 11) (.tmp 12) rfl rfl rfl hap ?_))
  clear hap hmm' hu1 hu2 b0 b1 b2 b3
  go_loopg [7, 19] args.length (fun g v i wr => ∃ (k : Nat) (seen : List (List UInt8)) (acc : List Tm) (a : Option Addr) (c : Nat), v = .slice a acc.length c ∧ i = iv k ∧ k + g = args.length ∧ acc.length ≤ ts.length + k ∧ Hid (acc ++ dvars seen (args.drop k) = RES) ∧ Hid (WithM w mb (lcells op nt lrel (.slice a0 args.length c0)) k seen acc v wr))
  case atStart => exact ⟨0, [[95], []], ts, ar, cr, rfl, rfl, by omega, by omega, hid hRES.out.symm, hS7⟩
  case round =>
    obtain ⟨k, seen, acc, a, c, rfl, rfl, hk, hal, hE, hS⟩ := hrel
    have hv1 := hv.out.below goodFl hS.out.below
    by_cases hlt : k < args.length
    · have q1 : decide ((k : Int) < (args.length : Int)) = true := decide_eq_true (by omega)
      obtain ⟨x, hx⟩ : ∃ x, args[k]? = some x := ⟨_, List.getElem?_eq_getElem hlt⟩
      have hdr : args.drop k = x :: args.drop (k + 1) := by rw [List.drop_eq_getElem_cons hlt]; congr 1; rw [List.getElem?_eq_getElem hlt] at hx; injection hx
      rw [hdr] at hE
      have hxv := hvar.out x (List.mem_of_getElem? hx)
      obtain ⟨g, o, cs, hidx, -, hg, hc, hr⟩ := hv1.at (P := Tryz.prog) (t := 26) (by kernel_rfl) (fun _ => by kernel_rfl) hx
      have hr' : cs = (fcells x).toList := hr
      subst hr'
      have d0 := hc 0 _ rfl
      have d1 := hc 1 _ rfl
      have d2 := hc 2 _ rfl
      have d3 := hc 3 _ rfl
      have d4 := hc 4 _ rfl
      have d5 := hc 5 _ rfl
      have d6 := hc 6 _ rfl
      rw [Nat.add_zero] at d0
      have hbT : Below wr.heap.size wr (wr.alloc (.cells (fcells x) 44)) := (Below.refl _ _).alloc (Nat.le_refl _) _
      have hS1 := hid (hS.out.grow hbT)
      have hrT := heap_alloc_new' wr (.cells (fcells x) 44)
      obtain ⟨m0, m1, m2, m3, m4, m5, m6, -⟩ := tm_cells hrT
      have hlk := seen_look (hS.out.map.below hbT hS.out.map.lt) x.var hxv
      have e1 : IntKind.i64.wrap ((k : Int) + 1) = ((k + 1 : Nat) : Int) := by rw [IntKind.wrap_i64]; omega
      have hsT : wr.heap.size < (wr.alloc (.cells (fcells x) 44)).heap.size := by simp
      clear hc hr hdr
      by_cases hin : x.var ∈ seen
      · rw [decide_eq_true hin] at hlk
        replace hE := hid (show acc ++ dvars seen (args.drop (k + 1)) = RES from by rw [← hE.out, dvars_in hin])
        replace hin := hid hin
        replace hrT := hid hrT
        clear hv1
        go_wp2_with fail
        go_roundg (args.length - (k + 1))
        case measure => omega
        case rel => exact ⟨k + 1, seen, acc, a, c, rfl, by go_num, by omega, by omega, hE, hid hS1.out.mono⟩
      · rw [decide_eq_false hin] at hlk
        replace hE := hid (show (acc ++ [x]) ++ dvars (x.var :: seen) (args.drop (k + 1)) = RES from by rw [← hE.out, dvars_new hin, List.append_assoc]; rfl)
        replace hin := hid hin
        obtain ⟨W2, hu, hS2, hf2⟩ := hS1.out.put (by omega) x.var hxv
        have hml := hS.out.map.lt
        obtain ⟨n0, n1, n2, n3, n4, n5, n6, -⟩ := tm_cells ((hf2.block wr.heap.size hsT (by unfold one; omega)).trans hrT)
        obtain ⟨a', c', W3, hap, hS3⟩ := hS2.push x (by omega)
        replace hS2 := hid hS2
        replace hS3 := hid hS3
        replace hrT := hid hrT
        clear hf2 hv1
        go_wp2_with (first | (at_builtin; refine wpList_append_shut rfl (.tmp 31) (.tmp 33) rfl rfl rfl hap ?_))
        go_roundg (args.length - (k + 1))
        case measure => omega
        case rel => exact ⟨k + 1, x.var :: seen, acc ++ [x], a', c', by simp, by go_num, by omega, by simp; omega, hE, hS3⟩
    · have q1 : decide ((k : Int) < (args.length : Int)) = false := decide_eq_false (by omega)
      have hke : k = args.length := by omega
      replace hE := hid (show acc = RES from by have := hE.out; rw [hke, List.drop_length] at this; simpa [dvars] using this)
      obtain ⟨q0, q1', q2, q3, fz⟩ := lt_cells hS.out.res
      have fz0 := fz 0
      have fz1 := fz 1
      have fz2 := fz 2
      have fz3 := fz 3
      clear fz hv1
      replace hke := hid hke
      go_wp2_with fail
      refine bodyPost_ret (v := .agg (lcells 0 false rel (.slice a acc.length c))) (results_cell_row (by rfl) _ _ (w.heap.size + 1) 28 _ (0, 0) _ (by rfl) (lt_set hS.out.res 0 false rel (.slice a acc.length c)) Tryz.underlying28 rfl (by kernel_rfl)) rfl ?_
      rw [hWF.out, ← hE.out]
      refine ⟨_, rfl, hS.out.row.move goodFl fun k hk hk2 => ⟨by unfold from_; omega, lt_other (by omega)⟩, ((Fr.of_below hS.out.below none').setLt (by omega) 0 false rel _).to_below (Nat.le_refl _) (fun _ _ h => h)⟩
end Go.Proofs.YtbkdakbhagjkhaaGreatDoor
