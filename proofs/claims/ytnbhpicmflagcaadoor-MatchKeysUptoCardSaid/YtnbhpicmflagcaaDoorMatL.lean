/- match.group's map in memory: classes by key, each with a row of its own. -/
import Derived.Test.YtnbhpicmflagcaaDoorMatJ
import Derived.Test.YtnbhpicmflagcaaDoorMapV
import Derived.Test.YtnbhpicmflagcaaDoorDel
set_option linter.unusedVariables false
namespace Go.Proofs.YtnbhpicmflagcaaDoor
open Go.RowKit
open Go.Lib (hid)
/-- how a class's free indices lie in memory -/
structure GoodQ (Q : Foot → World → List Nat → Value → Prop) : Prop where
  sl : ∀ {S w l v}, Q S w l v → SlR 1 NatR S w l v
  move : ∀ {S T w w' l v}, Q S w l v → (∀ k, k < w.heap.size → S k → T k ∧ w'.heap[k]? = w.heap[k]?) → Q T w' l v
def FreO : Foot → World → List Nat → Value → Prop := OwnR 3 1 NatR
def FreS : Foot → World → List Nat → Value → Prop := SlR 1 NatR
theorem goodO : GoodQ FreO := ⟨fun h => OwnR.sl goodNat h, fun h hm => OwnR.move goodNat h hm⟩
theorem goodS : GoodQ FreS := ⟨fun h => h, fun h hm => SlR.move goodNat h hm⟩
/-- a class in memory; ti: whose free row a block is -/
def GclR (Q : Foot → World → List Nat → Value → Prop) (ti : Nat → Nat) (B : Nat) : Rel GCl := fun S w c cs => ∃ ca v, cs = ca ++ [v] ∧ ReqR (fun k => S k ∧ k < B) w c.rq ca ∧ Q (fun k => S k ∧ B ≤ k ∧ ti k = c.id) w c.free v
section
variable {Q : Foot → World → List Nat → Value → Prop} {ti ti' : Nat → Nat} {B : Nat} {S T : Foot} {w w' : World} {c : GCl} {cs : List Value}
theorem GclR.move (hQ : GoodQ Q) (h : GclR Q ti B S w c cs) (hm : ∀ k, k < w.heap.size → S k → T k ∧ ti' k = ti k ∧ w'.heap[k]? = w.heap[k]?) : GclR Q ti' B T w' c cs := by
  obtain ⟨ca, v, rfl, h1, h2⟩ := h
  exact ⟨ca, v, rfl, goodReq.move h1 (fun k hk hs => ⟨⟨(hm k hk hs.1).1, hs.2⟩, (hm k hk hs.1).2.2⟩), hQ.move h2 fun k hk hs => ⟨⟨(hm k hk hs.1).1, hs.2.1, (hm k hk hs.1).2.1.trans hs.2.2⟩, (hm k hk hs.1).2.2⟩⟩
theorem goodGcl (hQ : GoodQ Q) (ti : Nat → Nat) (B : Nat) : Good 9 (GclR Q ti B) := by
  refine ⟨fun h => by obtain ⟨ca, v, rfl, h1, _⟩ := h; simp [goodReq.len h1], fun h u hu => ?_, fun h hm => h.move hQ fun k hk hs => ⟨(hm k hk hs).1, rfl, (hm k hk hs).2⟩⟩
  obtain ⟨ca, v, rfl, h1, h2⟩ := h
  rcases List.mem_append.1 hu with hu | hu
  · exact goodReq.one h1 u hu
  · obtain ⟨a, k, rfl, _⟩ := (hQ.sl h2).slice
    rw [List.mem_singleton.1 hu]; rfl
theorem GclR.cls (hQ : GoodQ Q) (h : GclR Q ti B S w c cs) : ClsR S w ⟨c.rq, c.free⟩ cs := by
  obtain ⟨ca, v, rfl, h1, h2⟩ := h
  obtain ⟨a, k, rfl, _⟩ := (hQ.sl h2).slice
  exact ⟨ca, a, k, rfl, goodReq.mono h1 (fun _ _ h => h.1), (hQ.sl h2).mono goodNat fun _ _ h => h.1⟩
end
theorem SlR.map {α β : Type} {sz : Nat} {R : Rel α} {R' : Rel β} {S : Foot} {w : World} {l : List α} {v : Value} {g : α → β} (h : SlR sz R S w l v) (hg : ∀ x cs, R S w x cs → R' S w (g x) cs) : SlR sz R' S w (l.map g) v := by
  obtain ⟨a, cap, b, off, cs, h1, h2, h3, h4, h5⟩ := h
  refine ⟨a, cap, b, off, cs, by rw [List.length_map]; exact h1, by rw [List.length_map]; exact h2, fun h => h3 (by rw [List.length_map] at h; exact h), fun i hi => h4 i (by rw [List.length_map] at hi; exact hi), fun i x hx => ?_⟩
  rw [List.getElem?_map] at hx
  rcases hy : l[i]? with _ | y
  · rw [hy] at hx; simp at hx
  · rw [hy] at hx
    simp only [Option.map_some, Option.some.injEq] at hx
    rw [← hx]
    exact hg y _ (h5 i y hy)
/-- one cell of an element is stored; meanwhile what the other elements do not own may have changed -/
theorem OwnR.store {α : Type} {E : TypeId} {sz : Nat} {R R' : Rel α} {S T : Foot} {w w' : World} {l : List α} {g n cap i j : Nat} {x y : α} {u : Value} (hsz : ∀ {S w x cs}, R S w x cs → cs.length = sz)
    (h : OwnR E sz R S w l (.slice (some ⟨g, 0, none⟩) n cap)) (hi : l[i]? = some x) (hj : j < sz) (hg : w'.heap[g]? = w.heap[g]?) (hT : T g)
    (hx : ∀ cs, R (fun k => S k ∧ k ≠ g) w x cs → R' (fun k => T k ∧ k ≠ g) (w'.setCell ⟨g, i * sz + j, none⟩ u) y (cs.set j u))
    (ho : ∀ k z cs, k ≠ i → l[k]? = some z → R (fun k => S k ∧ k ≠ g) w z cs → R' (fun k => T k ∧ k ≠ g) (w'.setCell ⟨g, i * sz + j, none⟩ u) z cs) :
    OwnR E sz R' T (w'.setCell ⟨g, i * sz + j, none⟩ u) (l.set i y) (.slice (some ⟨g, 0, none⟩) n cap) := by
  obtain ⟨xs, h1, h2, h3⟩ := h
  obtain ⟨a, c, e, _, _⟩ := owns_form h1
  simp only [Value.slice.injEq] at e
  obtain ⟨-, rfl, -⟩ := e
  have hil := (List.getElem?_eq_some_iff.1 hi).1
  have hle : i * sz + sz ≤ l.length * sz := by rw [← Nat.succ_mul]; exact Nat.mul_le_mul_right _ hil
  have hown : ∀ {k : Nat}, (Value.slice (some ⟨g, 0, none⟩) l.length cap).ownBlock = some k → g = k := fun h => by injection h
  have h1' : w'.ownsRow 0 E sz (.slice (some ⟨g, 0, none⟩) l.length cap) l.length xs := owns_move h1 (fun k hk => by rw [← hown hk]; exact hg) (fun _ _ => Nat.zero_le _)
  have hconv : ∀ {U : Foot} {V : World} {z : α} {cs : List Value}, R U V z cs → U = (fun k => S k ∧ (Value.slice (some ⟨g, 0, none⟩) l.length cap).ownBlock ≠ some k) → R (fun k => S k ∧ k ≠ g) V z cs := by
    intro U V z cs hz e
    subst e
    have : (fun k => S k ∧ (Value.slice (some ⟨g, 0, none⟩) l.length cap).ownBlock ≠ some k) = (fun k => S k ∧ k ≠ g) := by
      funext k
      have : ((Value.slice (some ⟨g, 0, none⟩) l.length cap).ownBlock ≠ some k) = (k ≠ g) := propext ⟨fun h e => h (by rw [e]; rfl), fun h e => h (by injection e with e; exact e.symm)⟩
      rw [this]
    rw [this] at hz
    exact hz
  have hback : (fun k => T k ∧ k ≠ g) = (fun k => T k ∧ (Value.slice (some ⟨g, 0, none⟩) l.length cap).ownBlock ≠ some k) := by
    funext k
    have : ((Value.slice (some ⟨g, 0, none⟩) l.length cap).ownBlock ≠ some k) = (k ≠ g) := propext ⟨fun h e => h (by rw [e]; rfl), fun h e => h (by injection e with e; exact e.symm)⟩
    rw [this]
  refine ⟨xs.set (i * sz + j) u, by rw [List.length_set]; exact (h1'.stored (i * sz + j) u).1, fun k hk => by rw [← hown hk]; exact hT, fun k z hz => ?_⟩
  have hxl := h1.1
  by_cases e : k = i
  · subst e
    rw [List.getElem?_set_self hil] at hz
    injection hz with hz
    subst hz
    obtain ⟨ds, h4, h5⟩ := h3 k x hi
    have hdl := hsz h5
    refine ⟨ds.set j u, fun q v hv => ?_, ?_⟩
    · by_cases eq : j = q
      · subst eq
        rw [List.getElem?_set_self (by omega)] at hv
        rw [List.getElem?_set_self (by omega)]
        exact hv
      · rw [List.getElem?_set_ne eq] at hv
        rw [List.getElem?_set_ne (by omega)]
        exact h4 q v hv
    · rw [← hback]; exact hx ds (hconv h5 rfl)
  · rw [List.getElem?_set_ne (fun e2 => e e2.symm)] at hz
    obtain ⟨ds, h4, h5⟩ := h3 k z hz
    refine ⟨ds, fun q v hv => ?_, ?_⟩
    · have hq : q < sz := by have := (List.getElem?_eq_some_iff.1 hv).1; rw [hsz h5] at this; exact this
      have hkl := (List.getElem?_eq_some_iff.1 hz).1
      rw [List.getElem?_set_ne ?_]
      · exact h4 q v hv
      · rcases Nat.lt_or_gt_of_ne e with h | h
        · have : k * sz + sz ≤ i * sz := by rw [← Nat.succ_mul]; exact Nat.mul_le_mul_right _ h
          omega
        · have : i * sz + sz ≤ k * sz := by rw [← Nat.succ_mul]; exact Nat.mul_le_mul_right _ h
          omega
    · rw [← hback]; exact ho k z ds e hz (hconv h5 rfl)
/-- whose a block is: the key, the class -/
structure Tags where
  tk : Nat → Option (List UInt8)
  ti : Nat → Nat
/-- new blocks (from n on) belong to s and i -/
def Tags.new (t : Tags) (n : Nat) (s : List UInt8) (i : Nat) : Tags := ⟨fun k => if k < n then t.tk k else some s, fun k => if k < n then t.ti k else i⟩
/-- the memory of one key's classes -/
def FootG (t : Tags) (B mb : Nat) (s : List UInt8) : Foot := fun k => k < B ∨ (B ≤ k ∧ k ≠ mb ∧ t.tk k = some s)
def KeyR (Q : Foot → World → List Nat → Value → Prop) (t : Tags) (B mb : Nat) (s : List UInt8) (w : World) (l : List GCl) (v : Value) : Prop := OwnR 73 9 (GclR Q t.ti B) (FootG t B mb s) w l v ∧ ∀ k, v.ownBlock = some k → B ≤ k
/-- the map: at each key its classes -/
def GM (Q : Foot → World → List Nat → Value → Prop) (t : Tags) (B mb N : Nat) (G : List UInt8 → List GCl) (w : World) : Prop :=
  ∃ f, MapV Tryd.prog 9 mb N f w ∧ B ≤ mb ∧ ∀ s, KeyR Q t B mb s w (G s) ((f (.string s)).getD (.slice none 0 0))
section
variable {Q : Foot → World → List Nat → Value → Prop} {t t' : Tags} {B mb N : Nat} {G G' : List UInt8 → List GCl} {w w' : World} {s : List UInt8} {l : List GCl} {v : Value}
theorem KeyR.move (hQ : GoodQ Q) (h : KeyR Q t B mb s w l v) (hm : ∀ k, k < w.heap.size → FootG t B mb s k → FootG t' B mb s k ∧ t'.ti k = t.ti k ∧ w'.heap[k]? = w.heap[k]?) : KeyR Q t' B mb s w' l v := by
  obtain ⟨⟨xs, h1, h2, h3⟩, hB⟩ := h
  refine ⟨⟨xs, owns_move h1 (fun k hk => (hm k (h1.lt k hk).2 (h2 k hk)).2.2) (fun _ _ => Nat.zero_le _), fun k hk => (hm k (h1.lt k hk).2 (h2 k hk)).1, fun i x hx => ?_⟩, hB⟩
  obtain ⟨cs, h4, h5⟩ := h3 i x hx
  exact ⟨cs, h4, h5.move hQ fun k hk hs => ⟨⟨(hm k hk hs.1).1, hs.2⟩, (hm k hk hs.1).2⟩⟩
theorem FootG.new {k : Nat} (h : FootG t B mb s k) {n : Nat} (hk : k < n) (s' : List UInt8) (i : Nat) : FootG (t.new n s' i) B mb s k := by
  rcases h with h | ⟨h0, h1, h2⟩
  · exact Or.inl h
  · exact Or.inr ⟨h0, h1, by show (if k < n then _ else _) = some s; rw [if_pos hk]; exact h2⟩
theorem Tags.new_ti {k n : Nat} (hk : k < n) (s' : List UInt8) (i : Nat) : (t.new n s' i).ti k = t.ti k := by show (if k < n then _ else _) = _; rw [if_pos hk]
theorem KeyR.below (hQ : GoodQ Q) (h : KeyR Q t B mb s w l v) (hb : Below w.heap.size w w') : KeyR Q t B mb s w' l v := h.move hQ fun k hk hs => ⟨hs, rfl, hb.block k hk⟩
theorem GM.below (hQ : GoodQ Q) (h : GM Q t B mb N G w) (hb : Below w.heap.size w w') : GM Q t B mb N G w' := by
  obtain ⟨f, h1, h2, h3⟩ := h
  exact ⟨f, h1.below hb h1.lt, h2, fun s => (h3 s).below hQ hb⟩
theorem GM.congr (h : GM Q t B mb N G w) (hG : ∀ s, G' s = G s) : GM Q t B mb N G' w := by
  obtain ⟨f, h1, h2, h3⟩ := h
  exact ⟨f, h1, h2, fun s => by rw [hG s]; exact h3 s⟩
theorem GM.move (hQ : GoodQ Q) (h : GM Q t B mb N G w) (hmb : w'.heap[mb]? = w.heap[mb]?) (hm : ∀ s k, k < w.heap.size → FootG t B mb s k → FootG t' B mb s k ∧ t'.ti k = t.ti k ∧ w'.heap[k]? = w.heap[k]?) : GM Q t' B mb N G w' := by
  obtain ⟨f, h1, h2, h3⟩ := h
  exact ⟨f, h1.same hmb, h2, fun s => (h3 s).move hQ (hm s)⟩
/-- the rows of free indices are no longer owned -/
theorem GM.loose (h : GM FreO t B mb N G w) : GM FreS t B mb N G w := by
  obtain ⟨f, h1, h2, h3⟩ := h
  refine ⟨f, h1, h2, fun s => ?_⟩
  obtain ⟨⟨xs, h4, h5, h6⟩, hB⟩ := h3 s
  refine ⟨⟨xs, h4, h5, fun i x hx => ?_⟩, hB⟩
  obtain ⟨cs, h7, ca, u, rfl, h8, h9⟩ := h6 i x hx
  exact ⟨_, h7, ca, u, rfl, h8, OwnR.sl goodNat h9⟩
theorem GM.start (w : World) : GM FreO ⟨fun _ => none, fun _ => 0⟩ w.heap.size w.heap.size 0 (fun _ => []) (w.alloc (.map #[] 0)) :=
  ⟨fun _ => none, MapV.made w, Nat.le_refl _, fun s => ⟨OwnR.nil _ _ _ _ _, fun k h => by simp [Value.ownBlock] at h⟩⟩
theorem KeyR.sl (hQ : GoodQ Q) (h : KeyR Q t B mb s w l v) : SlR 9 ClsR (FootG t B mb s) w (l.map fun c => ⟨c.rq, c.free⟩) v := SlR.map (OwnR.sl (goodGcl hQ _ _) h.1) fun _ _ hx => hx.cls hQ
/-- one class of the key s gets another list of free indices; meanwhile its own row may have changed (w1) -/
theorem GM.step (hQ : GoodQ Q) {g n cap i : Nat} {c : GCl} {fr' : List Nat} {u : Value} {w1 : World} {f : Lit → Option Value} (hf : MapV Tryd.prog 9 mb N f w) (hmb : B ≤ mb) (hBw : B ≤ w.heap.size)
    (h : ∀ s, KeyR Q t B mb s w (G s) ((f (.string s)).getD (.slice none 0 0))) (hv : (f (.string s)).getD (.slice none 0 0) = .slice (some ⟨g, 0, none⟩) n cap) (hc : (G s)[i]? = some c)
    (hid1 : ∀ k z, k ≠ i → (G s)[k]? = some z → z.id ≠ c.id)
    (hw : ∀ k, k < w.heap.size → (k < B ∨ k = mb ∨ k = g ∨ t.tk k ≠ some s ∨ t.ti k ≠ c.id) → w1.heap[k]? = w.heap[k]?)
    (hu : Q (fun k => B ≤ k ∧ k ≠ g ∧ k ≠ mb ∧ (t.new w.heap.size s c.id).tk k = some s ∧ (t.new w.heap.size s c.id).ti k = c.id) (w1.setCell ⟨g, i * 9 + 8, none⟩ u) fr' u)
    (hG : G' s = (G s).set i ⟨c.id, c.rq, fr'⟩) (hG2 : ∀ s', s' ≠ s → G' s' = G s') : GM Q (t.new w.heap.size s c.id) B mb N G' (w1.setCell ⟨g, i * 9 + 8, none⟩ u) := by
  have hks := h s
  rw [hv] at hks
  have hgS : FootG t B mb s g ∧ g < w.heap.size := by
    obtain ⟨⟨xs, h1, h2, _⟩, _⟩ := hks
    exact ⟨h2 g rfl, (h1.lt g rfl).2⟩
  have hBg : B ≤ g := hks.2 g rfl
  obtain ⟨hgm, hgt⟩ : g ≠ mb ∧ t.tk g = some s := by
    rcases hgS.1 with h1 | ⟨_, h1, h2⟩
    · omega
    · exact ⟨h1, h2⟩
  have hset : ∀ k, k ≠ g → (w1.setCell ⟨g, i * 9 + 8, none⟩ u).heap[k]? = w1.heap[k]? := fun k hk => heap_setCell_other _ hk
  refine ⟨f, hf.same ((hset mb (fun e => hgm e.symm)).trans (hw mb hf.lt (Or.inr (Or.inl rfl)))), hmb, fun s' => ?_⟩
  by_cases hs : s' = s
  · subst hs
    rw [hv, hG]
    refine ⟨OwnR.store (R := GclR Q t.ti B) (fun h => (goodGcl hQ t.ti B).len h) hks.1 hc (by decide) (hw g hgS.2 (Or.inr (Or.inr (Or.inl rfl)))) (hgS.1.new hgS.2 _ _) (fun cs hx => ?_) (fun k z cs hk hz hx => ?_), hks.2⟩
    · obtain ⟨ca, v, rfl, h1, h2⟩ := hx
      have hl := goodReq.len h1
      refine ⟨ca, u, by rw [List.set_append_right _ _ (by omega), hl]; rfl, goodReq.move h1 fun k hk hs => ⟨⟨⟨hs.1.1.new hk _ _, hs.1.2⟩, hs.2⟩, (hset k hs.1.2).trans (hw k hk (Or.inl hs.2))⟩, hQ.move hu fun k hk hs => ⟨⟨⟨Or.inr ⟨hs.1, hs.2.2.1, hs.2.2.2.1⟩, hs.2.1⟩, hs.1, hs.2.2.2.2⟩, rfl⟩⟩
    · obtain ⟨ca, v, rfl, h1, h2⟩ := hx
      refine ⟨ca, v, rfl, goodReq.move h1 fun k hk hs => ⟨⟨⟨hs.1.1.new hk _ _, hs.1.2⟩, hs.2⟩, (hset k hs.1.2).trans (hw k hk (Or.inl hs.2))⟩, hQ.move h2 fun q hq hs => ⟨⟨⟨hs.1.1.new hq _ _, hs.1.2⟩, hs.2.1, (Tags.new_ti hq _ _).trans hs.2.2⟩, (hset q hs.1.2).trans (hw q hq (Or.inr (Or.inr (Or.inr (Or.inr (by rw [hs.2.2]; exact hid1 k z hk hz))))))⟩⟩
  · rw [hG2 s' hs]
    refine (h s').move hQ fun k hk hf => ⟨hf.new hk _ _, Tags.new_ti hk _ _, ?_⟩
    rcases hf with h1 | ⟨h0, h1, h2⟩
    · exact (hset k (by omega)).trans (hw k hk (Or.inl h1))
    · have hts : t.tk k ≠ some s := by rw [h2]; intro e; injection e with e; exact hs e
      exact (hset k (fun e => hts (by rw [e]; exact hgt))).trans (hw k hk (Or.inr (Or.inr (Or.inr (Or.inl hts)))))
/-- a class more at the key s -/
theorem GM.add {N' : Nat} {w2 w3 w4 : World} {f f' : Lit → Option Value} {c : GCl} {cs : List Value} {v v' : Value} (hf : MapV Tryd.prog 9 mb N f w) (hmb : B ≤ mb) (hBw : B ≤ w.heap.size)
    (h : ∀ s, KeyR FreO t B mb s w (G s) ((f (.string s)).getD (.slice none 0 0))) (hv : (f (.string s)).getD (.slice none 0 0) = v)
    (hb : Below w.heap.size w w2) (hx : GclR FreO (t.new w.heap.size s c.id).ti B (fun k => FootG (t.new w.heap.size s c.id) B mb s k ∧ v.ownBlock ≠ some k ∧ k < w2.heap.size) w2 c cs)
    (hown : ∀ xs, w2.ownsRow 0 73 9 v (G s).length xs → w3.ownsRow 0 73 9 v' ((G s).length + 1) (xs ++ cs)) (hg : w2.grownBy w3 v.ownBlock) (hvv : v'.ownBlock = v.ownBlock ∨ v'.ownBlock = some w2.heap.size)
    (hf4 : MapV Tryd.prog 9 mb N' f' w4) (hg4 : w3.grownBy w4 (some mb)) (hf' : ∀ x, f' (.string x) = if x = s then some v' else f (.string x))
    (hG : G' s = G s ++ [c]) (hG2 : ∀ s', s' ≠ s → G' s' = G s') : GM FreO (t.new w.heap.size s c.id) B mb N' G' w4 := by
  have hks := h s
  rw [hv] at hks
  have hmbl := hf.lt
  have hsz := hb.size
  refine ⟨f', hf4, hmb, fun s' => ?_⟩
  by_cases hs : s' = s
  · subst hs
    rw [hf' s', if_pos rfl, hG]
    have h2 : KeyR FreO (t.new w.heap.size s' c.id) B mb s' w2 (G s') v := hks.move goodO fun k hk hs => ⟨hs.new hk _ _, Tags.new_ti hk _ _, hb.block k hk⟩
    have h3 : KeyR FreO (t.new w.heap.size s' c.id) B mb s' w3 (G s' ++ [c]) v' := by
      refine ⟨OwnR.push (goodGcl goodO _ _) h2.1 hown hg hvv (fun _ h => h) (Or.inr ⟨by omega, by omega, ?_⟩) hx, fun k hk => ?_⟩
      · show (if w2.heap.size < w.heap.size then _ else _) = some s'
        rw [if_neg (by omega)]
      · rcases hvv with e | e
        · exact h2.2 k (e ▸ hk)
        · rw [e] at hk; injection hk with hk; omega
    refine h3.move goodO fun k hk hs => ⟨hs, rfl, hg4.block k hk ?_⟩
    rcases hs with h1 | ⟨_, h1, _⟩
    · intro e; injection e with e; omega
    · intro e; injection e with e; exact h1 e
  · rw [hf' s', if_neg hs, hG2 s' hs]
    refine (h s').move goodO fun k hk hk2 => ⟨hk2.new hk _ _, Tags.new_ti hk _ _, ?_⟩
    have h1 : w4.heap[k]? = w3.heap[k]? := hg4.block k (Nat.lt_of_lt_of_le hk (Nat.le_trans hsz hg.size)) (by
      rcases hk2 with h1 | ⟨_, h1, _⟩
      · intro e; injection e with e; omega
      · intro e; injection e with e; exact h1 e)
    have h2 : w3.heap[k]? = w2.heap[k]? := hg.block k (Nat.lt_of_lt_of_le hk hsz) (by
      intro e
      have hB2 := hks.2 k e.symm
      obtain ⟨⟨xs, _, h6, _⟩, _⟩ := hks
      rcases h6 k e.symm with h7 | ⟨_, _, h7⟩
      · omega
      · rcases hk2 with h8 | ⟨_, _, h8⟩
        · omega
        · exact hs (by have := h8.symm.trans h7; injection this))
    exact h1.trans (h2.trans (hb.block k hk))
end
end Go.Proofs.YtnbhpicmflagcaaDoor
