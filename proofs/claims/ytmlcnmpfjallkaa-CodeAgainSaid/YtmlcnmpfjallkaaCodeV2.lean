/- Chapter 02 (code): walks: the law's read, encoded, valid. -/
import Derived.Test.YtmlcnmpfjallkaaCodeV1
import Derived.Outline
set_option linter.unusedVariables false
namespace Go.Proofs.Ytmlcnmpfjallkaa
open Go.RowKit
open Go.Lib (hid IsBuilder byteCells)

/-- a row of one-cell elements outside the blocks S -/
def RowS (S : Nat → Prop) (w : World) (v : Value) (cs : List Value) : Prop :=
  ∃ a cap g off, v = .slice a cs.length cap ∧ (0 < cs.length → a = some ⟨g, off, none⟩ ∧ g < w.heap.size ∧ ¬ S g) ∧ ∀ j (h : j < cs.length), w.cell? ⟨g, off + j, none⟩ = some cs[j]
theorem RowS.fr {S T : Nat → Prop} {w w' : World} {v : Value} {cs : List Value} (h : RowS S w v cs) (hf : Fr T w w') (ht : ∀ k, T k → S k) : RowS S w' v cs := by
  obtain ⟨a, cap, g, off, h1, h2, h3⟩ := h
  refine ⟨a, cap, g, off, h1, fun h0 => ⟨(h2 h0).1, Nat.lt_of_lt_of_le (h2 h0).2.1 hf.size, (h2 h0).2.2⟩, fun j hj => ?_⟩
  have h0 : 0 < cs.length := by omega
  rw [World.cell?_of_block (w := w) (hf.block g (h2 h0).2.1 (fun e => (h2 h0).2.2 (ht g e)))]; exact h3 j hj
theorem RowS.weaken {S T : Nat → Prop} {w : World} {v : Value} {cs : List Value} (h : RowS S w v cs) (ht : ∀ k, k < w.heap.size → T k → S k) : RowS T w v cs := by
  obtain ⟨a, cap, g, off, h1, h2, h3⟩ := h
  exact ⟨a, cap, g, off, h1, fun h0 => ⟨(h2 h0).1, (h2 h0).2.1, fun e => (h2 h0).2.2 (ht g (h2 h0).2.1 e)⟩, h3⟩
theorem RowS.row {S : Nat → Prop} {w : World} {v : Value} {cs : List Value} (h : RowS S w v cs) : Row w.heap.size w 1 v cs.length cs := by
  obtain ⟨a, cap, g, off, h1, h2, h3⟩ := h
  exact ⟨a, cap, g, off, h1, by simp, fun h0 => ⟨(h2 h0).1, (h2 h0).2.1⟩, h3⟩
theorem RowS.of_row {S : Nat → Prop} {B : Nat} {w : World} {v : Value} {n : Nat} {cs : List Value} (h : Row B w 1 v n cs) (hs : ∀ k, k < B → ¬ S k) (hB : B ≤ w.heap.size) : RowS S w v cs := by
  obtain ⟨a, cap, g, off, h1, h2, h3, h4⟩ := h
  have e : n = cs.length := by omega
  subst e
  exact ⟨a, cap, g, off, h1, fun h0 => ⟨(h3 h0).1, by have := (h3 h0).2; omega, hs g (h3 h0).2⟩, h4⟩
theorem RowS.of_owns {S : Nat → Prop} {base : Nat} {w : World} {e : TypeId} {v : Value} {n : Nat} {xs : List Value} (h : w.ownsRow base e 1 v n xs) (hs : ∀ k, base ≤ k → ¬ S k) : RowS S w v xs := by
  obtain ⟨h1, h2⟩ := h
  rcases h2 with ⟨rfl, rfl⟩ | ⟨g, cap, cur, rfl, hb2, hg, hn, hm, hs', ht⟩
  · have : xs = [] := List.eq_nil_of_length_eq_zero (by omega)
    subst this
    exact ⟨none, 0, 0, 0, rfl, fun h => by simp at h, fun j hj => by simp at hj⟩
  · have e : n = xs.length := by omega
    subst e
    refine ⟨_, cap, g, 0, rfl, fun _ => ⟨rfl, lt_of_heap hg, hs g hb2⟩, fun j hj => ?_⟩
    rw [Nat.zero_add, cell_of hg, ← Array.getElem?_toList]
    have e : xs[j]? = some xs[j] := List.getElem?_eq_getElem hj
    have h3 : (cur.toList.take (xs.length * 1))[j]? = some xs[j] := by rw [ht]; exact e
    rwa [List.getElem?_take_of_lt (by omega)] at h3
theorem RowS.slice {S : Nat → Prop} {w : World} {v : Value} {cs : List Value} (h : RowS S w v cs) : ∃ a n c, v = .slice a n c := by
  obtain ⟨a, c, g, o, e, _⟩ := h; exact ⟨_, _, _, e⟩

theorem cells5 {w : World} {c : Nat} {a0 a1 a2 a3 a4 : Value} {T : TypeId} (h : w.heap[c]? = some (.cells #[a0, a1, a2, a3, a4] T (0, 0))) :
    w.cell? ⟨c, 0, none⟩ = some a0 ∧ w.cell? ⟨c, 1, none⟩ = some a1 ∧ w.cell? ⟨c, 2, none⟩ = some a2 ∧ w.cell? ⟨c, 3, none⟩ = some a3 ∧ w.cell? ⟨c, 4, none⟩ = some a4 ∧ ∀ i, w.frozen? ⟨c, i, none⟩ = false :=
  ⟨by rw [cell_of h]; rfl, by rw [cell_of h]; rfl, by rw [cell_of h]; rfl, by rw [cell_of h]; rfl, by rw [cell_of h]; rfl, fun i => free_of h⟩
theorem Rd.other {T : TypeId} {b : Nat} {st : St} {w : World} (h : Rd T b st w) {c i : Nat} (hc : b ≠ c) (v : Value) : Rd T b st (w.setCell ⟨c, i, none⟩ v) := (heap_setCell_other v hc).trans h
/-- what read makes of a value: its kind's component is read anew -/
def readCV (t : CV) (st : St) : CV × St :=
  if t.kind % 5 = 0 then ({ t with n := (stNum st).1 }, (stNum st).2) else if t.kind % 5 = 1 then ({ t with n := (stInt st).1 }, (stInt st).2)
  else if t.kind % 5 = 2 then ({ t with text := (stText st).1 }, (stText st).2) else if t.kind % 5 = 3 then ({ t with texts := (stList st).1 }, (stList st).2)
  else ({ t with nums := (stNums st).1 }, (stNums st).2)

theorem Fr.sets (P Q : Nat) (w : World) (a b c d e f : Value) (i : Nat) : Fr (fun k => k = P ∨ k = Q) w ((((((w.setCell ⟨P, i, none⟩ a).setCell ⟨Q, 0, none⟩ b).setCell ⟨Q, 1, none⟩ c).setCell ⟨Q, 2, none⟩ d).setCell ⟨Q, 3, none⟩ e).setCell ⟨Q, 4, none⟩ f) := by
  refine Fr.setCell (p := ⟨Q, 4, none⟩) (Fr.setCell (p := ⟨Q, 3, none⟩) (Fr.setCell (p := ⟨Q, 2, none⟩) (Fr.setCell (p := ⟨Q, 1, none⟩) (Fr.setCell (p := ⟨Q, 0, none⟩) (Fr.setCell (p := ⟨P, i, none⟩) (Fr.refl _ _) ?_ _) ?_ _) ?_ _) ?_ _) ?_ _) ?_ _
  · exact Or.inl (Or.inl rfl)
  all_goals exact Or.inl (Or.inr rfl)

set_option maxHeartbeats 8000000 in
set_option maxRecDepth 100000 in
theorem read_any (b : Nat) (t : CV) (vt vn : Value) (st : St) (w : World) (h : Rd 59 b st w) (hs : st.1.length ≤ 1000000000) (hK : -9223372036854775808 ≤ t.kind ∧ t.kind ≤ 9223372036854775807)
    (hvt : RowS (one b) w vt (t.texts.map sv)) (hvn : RowS (one b) w vn (t.nums.map iv)) :
    Calls Try.prog 44 #[.pointer (some ⟨b, 0, none⟩), agv t vt vn] w fun e w' => ∃ vt' vn', e = .returned (agv (readCV t st).1 vt' vn') ∧
      RowS (one b) w' vt' ((readCV t st).1.texts.map sv) ∧ RowS (one b) w' vn' ((readCV t st).1.nums.map iv) ∧ Rd 59 b (readCV t st).2 w' ∧ Fr (one b) w w' := by
  have hlt := lt_of_heap h
  obtain ⟨va, na, ca, rfl⟩ := hvt.slice
  obtain ⟨vb, nb, cb, rfl⟩ := hvn.slice
  replace hvt := hid (hvt.weaken (T := fun k => k = b ∨ k = w.heap.size ∨ k = w.heap.size + 1) (fun k hk e => by rcases e with e | e | e; exact e; omega; omega))
  replace hvn := hid (hvn.weaken (T := fun k => k = b ∨ k = w.heap.size ∨ k = w.heap.size + 1) (fun k hk e => by rcases e with e | e | e; exact e; omega; omega))
  go_enter Try.func44, Try.ntmps44
  go_wp2_with fail
  refine (kind_any t.kind (iv t.n) (sv t.text) (.slice va na ca) (.slice vb nb cb) _ hK).mono ?_
  rintro e w1 ⟨rfl, hb⟩
  have h1 : Rd 59 b st w1 := below_keep hb (heap_alloc_lt (heap_alloc_lt h)) (lt_of_heap (heap_alloc_lt (heap_alloc_lt h)))
  have hP := hid (below_keep hb (heap_alloc_lt (heap_alloc_new' w (.cells #[iv t.kind, iv t.n, sv t.text, .slice va na ca, .slice vb nb cb] 47))) (by simp; omega))
  have hQ := hid (below_keep hb (heap_alloc_new' (w.alloc (.cells #[iv t.kind, iv t.n, sv t.text, .slice va na ca, .slice vb nb cb] 47)) (.cells #[Value.int IntKind.i64 0, Value.int IntKind.i64 0, Value.string { data := #[] }, Value.slice none 0 0, Value.slice none 0 0] 47)) (by simp))
  have hfr1 : Fr (one b) w w1 := (((Fr.refl _ _).alloc _).alloc _).trans (Fr.of_below hb _)
  have hsz1 : w.heap.size + 2 ≤ w1.heap.size := by have := hb.size; simpa using this
  clear hb
  have hbP : b ≠ w.heap.size := by omega
  have hbQ : b ≠ w.heap.size + 1 := by omega
  have hcs : t.kind % 5 = 0 ∨ t.kind % 5 = 1 ∨ t.kind % 5 = 2 ∨ t.kind % 5 = 3 ∨ t.kind % 5 = 4 := by omega
  rcases hcs with hk | hk | hk | hk | hk
  · have er : readCV t st = ({ t with n := (stNum st).1 }, (stNum st).2) := by simp [readCV, hk]
    rw [hk]
    replace er := hid er
    go_wp2_with fail
    refine (readNum b st _ h1).mono ?_
    rintro e w2 ⟨rfl, h2, hf⟩
    obtain ⟨p0, p1, p2, p3, p4, pf⟩ := cells5 (hf.keep hP.out (fun e => by unfold one at e; omega))
    have hQ2 := hf.keep hQ.out (fun e => by unfold one at e; simp at e; omega)
    simp only [World.size_alloc] at hQ2
    obtain ⟨q0, q1, q2, q3, q4, qf⟩ := cells5 hQ2
    replace hQ2 := hid hQ2
    go_wp2
    refine bodyPost_ret (v := agv { t with n := (stNum st).1 } (.slice va na ca) (.slice vb nb cb)) ?_ rfl ?_
    · simp [results, Try.results44, go_sem, q0, q1, q2, q3, q4]
    · have hch := Fr.sets w.heap.size (w.heap.size + 1) w2
      refine ⟨_, _, by rw [er.out], ?_, ?_, by rw [er.out]; exact h2.fr (hch _ _ _ _ _ _ _) (fun e => by omega), (hfr1.trans hf).trans' (hch _ _ _ _ _ _ _) (fun _ x => x) (fun i hi e => by omega)⟩
      · rw [er.out]; exact ((((hvt.out.fr hfr1 (fun k e => Or.inl e)).fr hf (fun k e => Or.inl e))).fr (hch _ _ _ _ _ _ _) (fun k e => Or.inr e)).weaken (fun k _ e => Or.inl e)
      · rw [er.out]; exact ((((hvn.out.fr hfr1 (fun k e => Or.inl e)).fr hf (fun k e => Or.inl e))).fr (hch _ _ _ _ _ _ _) (fun k e => Or.inr e)).weaken (fun k _ e => Or.inl e)
  · have er : readCV t st = ({ t with n := (stInt st).1 }, (stInt st).2) := by simp [readCV, hk]
    rw [hk]
    replace er := hid er
    go_wp2_with fail
    refine (readInt b st _ h1 (by omega)).mono ?_
    rintro e w2 ⟨rfl, h2, hf⟩
    obtain ⟨p0, p1, p2, p3, p4, pf⟩ := cells5 (hf.keep hP.out (fun e => by unfold one at e; omega))
    have hQ2 := hf.keep hQ.out (fun e => by unfold one at e; simp at e; omega)
    simp only [World.size_alloc] at hQ2
    obtain ⟨q0, q1, q2, q3, q4, qf⟩ := cells5 hQ2
    replace hQ2 := hid hQ2
    go_wp2
    refine bodyPost_ret (v := agv { t with n := (stInt st).1 } (.slice va na ca) (.slice vb nb cb)) ?_ rfl ?_
    · simp [results, Try.results44, go_sem, q0, q1, q2, q3, q4]
    · have hch := Fr.sets w.heap.size (w.heap.size + 1) w2
      refine ⟨_, _, by rw [er.out], ?_, ?_, by rw [er.out]; exact h2.fr (hch _ _ _ _ _ _ _) (fun e => by omega), (hfr1.trans hf).trans' (hch _ _ _ _ _ _ _) (fun _ x => x) (fun i hi e => by omega)⟩
      · rw [er.out]; exact ((((hvt.out.fr hfr1 (fun k e => Or.inl e)).fr hf (fun k e => Or.inl e))).fr (hch _ _ _ _ _ _ _) (fun k e => Or.inr e)).weaken (fun k _ e => Or.inl e)
      · rw [er.out]; exact ((((hvn.out.fr hfr1 (fun k e => Or.inl e)).fr hf (fun k e => Or.inl e))).fr (hch _ _ _ _ _ _ _) (fun k e => Or.inr e)).weaken (fun k _ e => Or.inl e)
  · have er : readCV t st = ({ t with text := (stText st).1 }, (stText st).2) := by simp [readCV, hk]
    rw [hk]
    replace er := hid er
    go_wp2_with fail
    refine (readText b st _ h1 (by omega)).mono ?_
    rintro e w2 ⟨rfl, h2, hf⟩
    obtain ⟨p0, p1, p2, p3, p4, pf⟩ := cells5 (hf.keep hP.out (fun e => by unfold one at e; omega))
    have hQ2 := hf.keep hQ.out (fun e => by unfold one at e; simp at e; omega)
    simp only [World.size_alloc] at hQ2
    obtain ⟨q0, q1, q2, q3, q4, qf⟩ := cells5 hQ2
    replace hQ2 := hid hQ2
    go_wp2
    refine bodyPost_ret (v := agv { t with text := (stText st).1 } (.slice va na ca) (.slice vb nb cb)) ?_ rfl ?_
    · simp [results, Try.results44, go_sem, q0, q1, q2, q3, q4]
    · have hch := Fr.sets w.heap.size (w.heap.size + 1) w2
      refine ⟨_, _, by rw [er.out], ?_, ?_, by rw [er.out]; exact h2.fr (hch _ _ _ _ _ _ _) (fun e => by omega), (hfr1.trans hf).trans' (hch _ _ _ _ _ _ _) (fun _ x => x) (fun i hi e => by omega)⟩
      · rw [er.out]; exact ((((hvt.out.fr hfr1 (fun k e => Or.inl e)).fr hf (fun k e => Or.inl e))).fr (hch _ _ _ _ _ _ _) (fun k e => Or.inr e)).weaken (fun k _ e => Or.inl e)
      · rw [er.out]; exact ((((hvn.out.fr hfr1 (fun k e => Or.inl e)).fr hf (fun k e => Or.inl e))).fr (hch _ _ _ _ _ _ _) (fun k e => Or.inr e)).weaken (fun k _ e => Or.inl e)
  · have er : readCV t st = ({ t with texts := (stList st).1 }, (stList st).2) := by simp [readCV, hk]
    rw [hk]
    replace er := hid er
    go_wp2_with fail
    refine (readList b st _ h1 hs).mono ?_
    rintro e w2 ⟨v, rfl, ho, h2, hf⟩
    have hnew : RowS (fun k => k = b ∨ k = w.heap.size ∨ k = w.heap.size + 1) w2 v ((stList st).1.map sv) := RowS.of_owns ho (fun k hk e => by have := lt_of_heap h1; omega)
    clear ho
    obtain ⟨vx, nx, cx, rfl⟩ := hnew.slice
    replace hnew := hid hnew
    obtain ⟨p0, p1, p2, p3, p4, pf⟩ := cells5 (hf.keep hP.out (fun e => by unfold one at e; omega))
    have hQ2 := hf.keep hQ.out (fun e => by unfold one at e; simp at e; omega)
    simp only [World.size_alloc] at hQ2
    obtain ⟨q0, q1, q2, q3, q4, qf⟩ := cells5 hQ2
    replace hQ2 := hid hQ2
    go_wp2
    refine bodyPost_ret (v := agv { t with texts := (stList st).1 } (.slice vx nx cx) (.slice vb nb cb)) ?_ rfl ?_
    · simp [results, Try.results44, go_sem, q0, q1, q2, q3, q4]
    · have hch := Fr.sets w.heap.size (w.heap.size + 1) w2
      refine ⟨_, _, by rw [er.out], ?_, ?_, by rw [er.out]; exact h2.fr (hch _ _ _ _ _ _ _) (fun e => by omega), (hfr1.trans hf).trans' (hch _ _ _ _ _ _ _) (fun _ x => x) (fun i hi e => by omega)⟩
      · rw [er.out]; exact ((hnew.out).fr (hch _ _ _ _ _ _ _) (fun k e => Or.inr e)).weaken (fun k _ e => Or.inl e)
      · rw [er.out]; exact ((((hvn.out.fr hfr1 (fun k e => Or.inl e)).fr hf (fun k e => Or.inl e))).fr (hch _ _ _ _ _ _ _) (fun k e => Or.inr e)).weaken (fun k _ e => Or.inl e)
  · have er : readCV t st = ({ t with nums := (stNums st).1 }, (stNums st).2) := by simp [readCV, hk]
    rw [hk]
    replace er := hid er
    go_wp2_with fail
    refine (readNums b st _ h1 hs).mono ?_
    rintro e w2 ⟨v, rfl, ho, h2, hf⟩
    have hnew : RowS (fun k => k = b ∨ k = w.heap.size ∨ k = w.heap.size + 1) w2 v ((stNums st).1.map iv) := RowS.of_owns ho (fun k hk e => by have := lt_of_heap h1; omega)
    clear ho
    obtain ⟨vx, nx, cx, rfl⟩ := hnew.slice
    replace hnew := hid hnew
    obtain ⟨p0, p1, p2, p3, p4, pf⟩ := cells5 (hf.keep hP.out (fun e => by unfold one at e; omega))
    have hQ2 := hf.keep hQ.out (fun e => by unfold one at e; simp at e; omega)
    simp only [World.size_alloc] at hQ2
    obtain ⟨q0, q1, q2, q3, q4, qf⟩ := cells5 hQ2
    replace hQ2 := hid hQ2
    go_wp2
    refine bodyPost_ret (v := agv { t with nums := (stNums st).1 } (.slice va na ca) (.slice vx nx cx)) ?_ rfl ?_
    · simp [results, Try.results44, go_sem, q0, q1, q2, q3, q4]
    · have hch := Fr.sets w.heap.size (w.heap.size + 1) w2
      refine ⟨_, _, by rw [er.out], ?_, ?_, by rw [er.out]; exact h2.fr (hch _ _ _ _ _ _ _) (fun e => by omega), (hfr1.trans hf).trans' (hch _ _ _ _ _ _ _) (fun _ x => x) (fun i hi e => by omega)⟩
      · rw [er.out]; exact ((((hvt.out.fr hfr1 (fun k e => Or.inl e)).fr hf (fun k e => Or.inl e))).fr (hch _ _ _ _ _ _ _) (fun k e => Or.inr e)).weaken (fun k _ e => Or.inl e)
      · rw [er.out]; exact ((hnew.out).fr (hch _ _ _ _ _ _ _) (fun k e => Or.inr e)).weaken (fun k _ e => Or.inl e)
end Go.Proofs.Ytmlcnmpfjallkaa
