/- From a law's contract to its row: what every law's frame shares. -/
import Derived.Test.YtnbhpicmflagcaaDoorChecked
import Derived.Test.YtnbhpicmflagcaaDoorLib
import Derived.WalkKit
import Derived.ProofKit
import Derived.OpenShut
import Derived.JoinedCond
import Derived.SizedLaws
import Derived.SliceStrings
set_option linter.unusedVariables false
namespace Go.Proofs.YtnbhpicmflagcaaDoor
open Go.ChangeShapes Go.WideShapes Go.ChangeAt Go.RowKit Go.WideMaps Go.WideElems

theorem trodAll_stays {H : Type} {enc : TypeId × Value → H} {P : Program} (hl : laidOutB P = true) {W W' : World} (hb : Below W.heap.size W W') (sp : Nat → Bool) : ∀ {ts : List TypeId} (_ : ∀ t ∈ ts, P.readableRec t = true ∧ t < P.types.size) {vs : List Value} {ds : List (DataW H)} {ps : List MemPlace},
    DataW.TrodAll enc P W 0 (fun _ => true) true ts vs ds ps → (∀ x ∈ ps, x.block < W.heap.size) → (∀ p ∈ ps, sp p.block = true) → DataW.TrodAll enc P W' 0 sp true ts vs ds ps := by
  intro ts
  induction ts with
  | nil =>
    intro _ vs ds ps h _ _
    obtain ⟨rfl, rfl, rfl⟩ := trodAll_nil h
    exact trodAll_mk0
  | cons t ts ih =>
    intro hr vs ds ps h hlt hsp
    obtain ⟨v, vs', d, ds', p, q, rfl, rfl, rfl, h1, h2⟩ := trodAll_cons h
    refine trodAll_cons_mk ?_ (ih (fun t ht => hr t (List.mem_cons_of_mem _ ht)) h2 (fun x hx => hlt x (List.mem_append_right _ hx)) (fun x hx => hsp x (List.mem_append_right _ hx)))
    exact WideElems.Trod_stays hl (hr t (by simp)).1 (hr t (by simp)).2 h1 (fun x hx => hb.same (hlt x (List.mem_append_left _ hx))) (fun x hx => hsp x (List.mem_append_left _ hx))

theorem law_post {H : Type} {enc : TypeId × Value → H} {P : Program} {f : Func} {s : ChangeSpec} {tb : TypeId} (hl : laidOutB P = true) (hb : P.underlying tb = some .bool) (hft : f.resultTypes = #[tb]) (hread : ∀ t ∈ f.params.toList, P.readableRec t = true ∧ t < P.types.size)
    (hv : s.vars = []) {W W' : World} {args : Array Value} {ds gs : List (DataW H)} {before : List MemPlace} (hW : DataW.Whole enc P f.params.toList s.vars false W args.toList ds gs before) (hbl : Below W.heap.size W W')
    (hfn : s.fn H (ds ++ gs) = { results := [.lit (.bool true)], args := ds }) : s.post enc P f false true false false W args (.bool true) W' := by
  have hW0 := hW
  have hlt := hW.lt
  obtain ⟨p, q, hA, hV, rfl, hfz, hnd⟩ := hW
  rw [hv] at hV
  obtain ⟨rfl, rfl⟩ := trodVars_none hV
  rw [List.append_nil] at hW0 hlt
  refine ⟨ds, [], p, [], p, [], hW0, ?_, ?_, ?_, hbl.frame _, fun h => by cases h⟩
  · rw [hfn, hft]
    exact trodAll_mk1 (shut_bool hb _)
  · rw [hfn]
    exact trodAll_stays hl hbl _ hread hA hlt (fun x hx => by simpa using hlt x hx)
  · rw [hfn, hv]
    rfl

theorem plain_add {a : Addr} (h : a.spot = none) (i : Nat) : a.add i = ⟨a.block, a.off + i, none⟩ := by
  obtain ⟨b, o, s⟩ := a
  subst h
  simp only [Addr.add]; split <;> simp_all

/-- a slice of strings, read as data -/
theorem read_strs {H : Type} {enc : TypeId × Value → H} {P : Program} {W : World} {t e : TypeId} (ht : P.underlying t = some (.slice e)) (he : P.underlying e = some .string) (hc : P.cellsOf e = 1) {v : Value} {d : DataW H} {p : List MemPlace} {base : Nat} {o : Nat}
    (hok : ∃ a len cap, v = .slice a len cap) (h : DataW.Trod enc P W 0 (fun _ => true) true t v d p) (hlt : ∀ x ∈ p, x.block < W.heap.size) :
    ∃ ss : List (List UInt8), Row W.heap.size W 1 v ss.length (ss.map fun s => Value.string ⟨s.toArray⟩) ∧ (∀ s ∈ ss, s.length ≤ maxLen) ∧ ss.length ≤ maxLen ∧
      ((d = .nil ∧ ss = []) ∨ ∃ sp, d = .slice (ss.map fun s => .lit (.string s)) sp) := by
  obtain ⟨a0, len, cap, rfl⟩ := hok
  obtain ⟨fuel, hf⟩ := h
  rcases open_strings ht he hc hf with ⟨hcs, hx⟩ | ⟨a, len', cap', ss, hcs, _, hl, hm, hz, hx, hcell, hws⟩
  · simp [Value.cells] at hcs
    obtain ⟨rfl, rfl, rfl⟩ := hcs
    simp only [Prod.mk.injEq] at hx
    exact ⟨[], Row.nil _ _ _ _, by simp, by simp, Or.inl ⟨hx.1, rfl⟩⟩
  · simp [Value.cells] at hcs
    obtain ⟨rfl, rfl, rfl⟩ := hcs
    simp only [Prod.mk.injEq] at hx
    obtain ⟨rfl, rfl⟩ := hx
    simp only [if_true] at hz
    have hlen : (ss.take len).length = len := by rw [List.length_take]; omega
    refine ⟨(ss.take len).map (·.data.toList), ?_, ?_, by rw [List.length_map, hlen]; omega, Or.inr ⟨strs (ss.drop len), ?_⟩⟩
    · rw [List.length_map, hlen, List.map_map]
      refine ⟨some a, cap, a.block, a.off, rfl, by rw [List.length_map, hlen]; simp, fun h0 => ?_, fun j hj => ?_⟩
      · have hs := World.cell?_spot (hcell 0 (by omega))
        have : a.spot = none := by simpa [Addr.add] using hs
        refine ⟨by obtain ⟨b, o, s⟩ := a; subst this; rfl, ?_⟩
        exact hlt (.cell a.block (a.off + 0)) (MemPlace.mem_row.2 ⟨0, by omega, by simp⟩)
      · rw [List.length_map, hlen] at hj
        have h1 := hcell j (by omega)
        have hs := World.cell?_spot (hcell 0 (by omega))
        have hs' : a.spot = none := by simpa [Addr.add] using hs
        rw [plain_add hs'] at h1
        rw [h1]
        have hj2 : j < ss.length := by omega
        simp [List.getD, List.getElem?_eq_getElem hj2]
    · intro s hs
      simp only [List.mem_map] at hs
      obtain ⟨b, hb, rfl⟩ := hs
      have := hws b (List.mem_of_mem_take hb)
      have e : b.data.toList.length = b.size := by rw [Array.length_toList]; rfl
      omega
    · simp [strs, Function.comp_def]

/-- a slice of integers, read as data -/
theorem read_ints {H : Type} {enc : TypeId × Value → H} {P : Program} {W : World} {t e : TypeId} {k : IntKind} (ht : P.underlying t = some (.slice e)) (he : P.underlying e = some (.int k)) (hc : P.cellsOf e = 1) {v : Value} {d : DataW H} {p : List MemPlace}
    (hok : ∃ a len cap, v = .slice a len cap) (h : DataW.Trod enc P W 0 (fun _ => true) true t v d p) (hlt : ∀ x ∈ p, x.block < W.heap.size) :
    ∃ zs : List Int, Row W.heap.size W 1 v zs.length (zs.map (Value.int k)) ∧ (∀ z ∈ zs, (Lit.int k z).wf = true) ∧ zs.length ≤ maxLen ∧
      ((d = .nil ∧ zs = []) ∨ ∃ sp, d = .slice (zs.map fun z => .lit (.int k z)) sp) := by
  obtain ⟨a0, len, cap, rfl⟩ := hok
  obtain ⟨fuel, hf⟩ := h
  rcases open_ints ht he hc hf with ⟨hcs, hx⟩ | ⟨a, len', cap', ss, hcs, _, hl, hm, hz, hx, hcell, hws⟩
  · simp [Value.cells] at hcs
    obtain ⟨rfl, rfl, rfl⟩ := hcs
    simp only [Prod.mk.injEq] at hx
    exact ⟨[], Row.nil _ _ _ _, by simp, by simp, Or.inl ⟨hx.1, rfl⟩⟩
  · simp [Value.cells] at hcs
    obtain ⟨rfl, rfl, rfl⟩ := hcs
    simp only [Prod.mk.injEq] at hx
    obtain ⟨rfl, rfl⟩ := hx
    simp only [if_true] at hz
    have hlen : (ss.take len).length = len := by rw [List.length_take]; omega
    refine ⟨ss.take len, ?_, fun z hz => hws z (List.mem_of_mem_take hz), by rw [hlen]; omega, Or.inr ⟨lits k (ss.drop len), ?_⟩⟩
    · rw [hlen]
      refine ⟨some a, cap, a.block, a.off, rfl, by rw [List.length_map, hlen]; simp, fun h0 => ?_, fun j hj => ?_⟩
      · have hs := World.cell?_spot (hcell 0 (by omega))
        have : a.spot = none := by simpa [Addr.add] using hs
        refine ⟨by obtain ⟨b, o, s⟩ := a; subst this; rfl, ?_⟩
        exact hlt (.cell a.block (a.off + 0)) (MemPlace.mem_row.2 ⟨0, by omega, by simp⟩)
      · rw [List.length_map, hlen] at hj
        have h1 := hcell j (by omega)
        have hs := World.cell?_spot (hcell 0 (by omega))
        have hs' : a.spot = none := by simpa [Addr.add] using hs
        rw [plain_add hs'] at h1
        rw [h1]
        have hj2 : j < ss.length := by omega
        simp [List.getD, List.getElem?_eq_getElem hj2]
    · simp [lits]
end Go.Proofs.YtnbhpicmflagcaaDoor
