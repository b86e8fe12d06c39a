/- value.valid, value.Right. -/
import Derived.Test.YtnbhpicmflagcaaDoorMatD
set_option linter.unusedVariables false
set_option linter.unusedSimpArgs false
namespace Go.Proofs.YtnbhpicmflagcaaDoor
open Go.RowKit
open Go.Lib (hid)
/-- how many nodes are left behind a value, where all are right -/
def vldG : Nat → Val → Nat → Option Nat
  | 0, _, _ => none
  | f + 1, x, left => if left = 0 then none else if nodeF x then (x.l.foldl (fun o y => o.bind (vldG f y)) (some (left - 1))) else none
noncomputable def vldF (x : Val) (left : Nat) : Option Nat := vldG (SizeOf.sizeOf x) x left
noncomputable def rightF (x : Val) : Bool := (vldF x 16384).isSome
theorem foldl_none {α : Type} (g : α → Nat → Option Nat) (l : List α) : l.foldl (fun o y => o.bind (g y)) none = none := by
  induction l with
  | nil => rfl
  | cons a r ih => simpa using ih
theorem foldl_congr' {α : Type} {g h : α → Nat → Option Nat} : ∀ (l : List α) (o : Option Nat), (∀ y ∈ l, g y = h y) → l.foldl (fun o y => o.bind (g y)) o = l.foldl (fun o y => o.bind (h y)) o
  | [], _, _ => rfl
  | a :: r, o, H => by
    simp only [List.foldl_cons]
    rw [H a (by simp)]
    exact foldl_congr' r _ fun y hy => H y (by simp [hy])
theorem vldG_eq : ∀ (f g : Nat) (x : Val) (left : Nat), SizeOf.sizeOf x ≤ f → SizeOf.sizeOf x ≤ g → vldG f x left = vldG g x left
  | 0, _, x, _, h, _ => by cases x; simp at h
  | _ + 1, 0, x, _, _, h => by cases x; simp at h
  | f + 1, g + 1, x, left, hf, hg => by
    simp only [vldG]
    rw [foldl_congr' (g := vldG f) (h := vldG g) x.l _ fun y hy => by
      have := val_mem_lt hy
      funext n
      exact vldG_eq f g y n (by omega) (by omega)]
theorem vldF_eq (x : Val) (left : Nat) : vldF x left = if left = 0 then none else if nodeF x then (x.l.foldl (fun o y => o.bind (vldF y)) (some (left - 1))) else none := by
  obtain ⟨f, hf⟩ : ∃ f, SizeOf.sizeOf x = f + 1 := ⟨SizeOf.sizeOf x - 1, by cases x; simp; omega⟩
  unfold vldF
  rw [hf, vldG]
  rw [foldl_congr' (g := vldG f) (h := fun y => vldG (SizeOf.sizeOf y) y) x.l _ fun y hy => by
      have := val_mem_lt hy
      funext n
      exact vldG_eq _ _ y n (by omega) (Nat.le_refl _)]
/-- behind the first k elements -/
noncomputable def vldK (l : List Val) (k left : Nat) : Option Nat := (l.take k).foldl (fun o y => o.bind (vldF y)) (some left)
theorem vldK_succ {l : List Val} {k left : Nat} {x : Val} (hx : l[k]? = some x) : vldK l (k + 1) left = (vldK l k left).bind (vldF x) := by
  unfold vldK
  rw [List.take_add_one, hx, List.foldl_append]
  rfl
theorem vldK_all (l : List Val) (left : Nat) : vldK l l.length left = l.foldl (fun o y => o.bind (vldF y)) (some left) := by unfold vldK; rw [List.take_length]
theorem vldK_none {l : List Val} {k left : Nat} (h : vldK l k left = none) : l.foldl (fun o y => o.bind (vldF y)) (some left) = none := by
  have := (List.take_append_drop k l)
  rw [← this, List.foldl_append]
  show (l.drop k).foldl _ (vldK l k left) = none
  rw [h]
  exact foldl_none _ _
theorem vldK_le : ∀ (l : List Val) (H : ∀ y ∈ l, ∀ a b, vldF y a = some b → b ≤ a) (o : Nat) (c : Nat), l.foldl (fun o y => o.bind (vldF y)) (some o) = some c → c ≤ o
  | [], _, o, c, h => by simp at h; omega
  | y :: r, H, o, c, h => by
    simp only [List.foldl_cons, Option.bind_some] at h
    cases hy : vldF y o with
    | none => rw [hy, foldl_none] at h; cases h
    | some b =>
      rw [hy] at h
      have h1 := H y (by simp) o b hy
      have h2 := vldK_le r (fun z hz => H z (by simp [hz])) b c h
      omega
theorem vldF_le : ∀ (n : Nat) (x : Val), SizeOf.sizeOf x < n → ∀ a b, vldF x a = some b → b ≤ a
  | 0, x, h, _, _, _ => by omega
  | n + 1, x, hn, a, b, h => by
    rw [vldF_eq] at h
    split at h
    · cases h
    · split at h
      · have := vldK_le x.l (fun y hy => vldF_le n y (by have := val_mem_lt hy; omega)) (a - 1) b h
        omega
      · cases h
def VldPost (x : Val) (P left : Nat) (w : World) (e : Ending) (w' : World) : Prop :=
  Fr (one P) w w' ∧ ((∃ l', vldF x left = some l' ∧ e = .returned (.bool true) ∧ w'.heap[P]? = some (.cells #[iv l'] 3 (0, 0))) ∨ (vldF x left = none ∧ e = .returned (.bool false)))
abbrev nodeV : Value := .func (Fn.func 46) #[] #[]
set_option maxHeartbeats 4000000 in
set_option maxRecDepth 100000 in
theorem valid_of (x : Val) (hx : ValB x) (P : Nat)
    (hv : ∀ y ∈ x.l, ∀ (S : Foot) (cs : List Value) (left : Nat) (W : World), ValR S W y cs → ¬ S P → left ≤ 16384 → W.heap[P]? = some (.cells #[iv left] 3 (0, 0)) → Calls Tryd.prog 45 #[.agg cs.toArray, pt P, nodeV] W (VldPost y P left W))
    (S : Foot) (cs : List Value) (left : Nat) (w : World) (hR : ValR S w x cs) (hS : ¬ S P) (hl : left ≤ 16384) (hP : w.heap[P]? = some (.cells #[iv left] 3 (0, 0))) :
    Calls Tryd.prog 45 #[.agg cs.toArray, pt P, nodeV] w (VldPost x P left w) := by
  have hlt := lt_of_heap hP
  have hxl := hx.len
  have cP : w.cell? ⟨P, 0, none⟩ = some (iv left) := (cell_of hP).trans rfl
  have hw1 : ∀ o, Below w.heap.size w (w.alloc o) := fun o => (Below.refl _ w).alloc (Nat.le_refl _) o
  have hne : ¬ w.heap.size = P := by omega
  have hne' : ¬ P = w.heap.size := by omega
  have hpost : ∀ W, Fr (one P) w W → vldF x left = none → VldPost x P left w (.returned (.bool false)) W := fun W h1 h2 => ⟨h1, Or.inr ⟨h2, rfl⟩⟩
  replace hpost := hid hpost
  replace hv := hid hv
  by_cases h0 : left = 0
  · subst h0
    have hn : vldF x 0 = none := by rw [vldF_eq, if_pos rfl]
    replace hn := hid hn
    clear hP
    have hfin := hid (fun o => hpost.out _ (Fr.of_below (hw1 o) _) hn.out)
    clear hw1
    go_enter Tryd.func45, Tryd.ntmps45
    go_wp2_with fail
    go_ret
    exact hfin.out _
  · have q0 : ((left : Int) == 0) = false := by simpa using h0
    have q0' : ¬ ((left : Int) = 0) := by omega
    have hnode := hid (fun o => node_any x hx S cs (w.alloc o) (goodVal.below hR (hw1 o)))
    obtain ⟨a1, k1, rfl, hvs⟩ := valR_open hR
    replace hvs := hid hvs
    replace hP := hid hP
    clear hR
    cases hnd : nodeF x with
    | false =>
      have hn : vldF x left = none := by rw [vldF_eq, if_neg h0, hnd]; rfl
      replace hn := hid hn
      rw [hnd] at hnode
      clear hnd hP
      go_enter Tryd.func45, Tryd.ntmps45
      go_wp2_with fail
      refine (hnode.out _).mono ?_
      rintro e w2 ⟨rfl, hb2⟩
      have hfin := hid (hpost.out w2 ((Fr.of_below (hw1 _) _).trans (Fr.of_below hb2 _)) hn.out)
      go_wp2_with fail
      go_ret
      exact hfin.out
    | true =>
      have hv0 := hid (vldF_eq x left)
      rw [if_neg h0, hnd, if_pos rfl] at hv0
      rw [hnd] at hnode
      clear hnd
      go_enter Tryd.func45, Tryd.ntmps45
      go_wp2_with fail
      refine (hnode.out _).mono ?_
      rintro e w2 ⟨rfl, hb2⟩
      have hB2 : Below w.heap.size w w2 := (hw1 _).trans (hb2.mono (by simp))
      have hP2 := below_keep hB2 hP.out hlt
      have d0 : w2.cell? ⟨P, 0, none⟩ = some (iv left) := (cell_of hP2).trans rfl
      have f0 : w2.frozen? ⟨P, 0, none⟩ = false := free_of hP2
      have hrow := (hb2.block w.heap.size (by simp)).trans (heap_alloc_new' _ _)
      have c5 : w2.cell? ⟨w.heap.size, 5, none⟩ = some (.slice a1 x.l.length k1) := (cell_of (i := 5) hrow).trans rfl
      have e1 : IntKind.i64.wrap ((left : Int) - 1) = ((left - 1 : Nat) : Int) := by rw [i64_wrap_id _ (by omega) (by omega)]; omega
      have hP3 := heap_setCell_same (i := 0) hP2 (iv ((left - 1 : Nat) : Int))
      have hF3 := (Fr.of_below hB2 (one P)).setCell (p := ⟨P, 0, none⟩) (Or.inl rfl) (iv ((left - 1 : Nat) : Int))
      replace hP3 : (w2.setCell ⟨P, 0, none⟩ (iv ((left - 1 : Nat) : Int))).heap[P]? = some (.cells #[iv ((left - 1 : Nat) : Int)] 3 (0, 0)) := hP3
      replace hP3 := hid hP3
      replace hF3 := hid hF3
      clear hrow hB2 hnode hb2 cP hw1 hP hP2
      obtain ⟨lf, hlf⟩ : ∃ lf, lf = left - 1 := ⟨_, rfl⟩
      have hlf2 : lf ≤ 16384 := by omega
      rw [← hlf] at hv0 e1 hP3 hF3
      clear hlf
      go_wp2_with fail
      go_loopw [27] (fun i wr => ∃ k l' : Nat, i = .int .i64 k ∧ k ≤ x.l.length ∧ l' ≤ 16384 ∧ Hid (vldK x.l k lf = some l') ∧ Hid (wr.heap[P]? = some (.cells #[iv l'] 3 (0, 0))) ∧ Hid (Fr (one P) w wr)) (fun i _ => x.l.length - (intOf i).toNat)
      case atStart => exact ⟨0, lf, rfl, Nat.zero_le _, hlf2, hid rfl, hP3, hF3⟩
      case round =>
        clear hP3 hF3 c5 d0 f0
        obtain ⟨k, l', rfl, hk, hl', hK, hPr, hFr⟩ := hrel
        have hszr := hFr.out.size
        by_cases hlt2 : k < x.l.length
        · obtain ⟨y, hy⟩ : ∃ y, x.l[k]? = some y := ⟨_, List.getElem?_eq_getElem hlt2⟩
          have hSne : ∀ q, S q → ¬ one P q := fun q h1 h2 => hS (by rw [← show q = P from h2]; exact h1)
          obtain ⟨g, o, cs, hidx, hSg, hg, hc, hr⟩ := (hvs.out.fr goodVal hFr.out hSne).at (P := Tryd.prog) (t := 23) (by kernel_rfl) (fun _ => by kernel_rfl) hy
          have hb1 : ∀ o, Below wr.heap.size wr (wr.alloc o) := fun o => (Below.refl _ wr).alloc (Nat.le_refl _) o
          have hcall := hid (fun o => hv.out y (List.mem_of_getElem? hy) S cs l' _ (goodVal.below hr (hb1 o)) hS hl' (below_keep (hb1 o) hPr.out (lt_of_heap hPr.out)))
          have hnx := hid (vldK_succ (left := lf) hy)
          rw [hK.out, Option.bind_some] at hnx
          have hle := hid (fun b => vldF_le _ y (Nat.lt_succ_self _) l' b)
          obtain ⟨a2, k2, rfl, -⟩ := valR_open hr
          have c0 := hc 0 _ rfl
          have c1 := hc 1 _ rfl
          have c2 := hc 2 _ rfl
          have c3 := hc 3 _ rfl
          have c4 := hc 4 _ rfl
          have c5 := hc 5 _ rfl
          rw [Nat.add_zero] at c0
          clear hc hr hSne hy
          go_wp2_with fail
          refine (hcall.out _).mono ?_
          rintro e w3 ⟨hF, hor⟩
          have hF4 := hid (hFr.out.trans ((Fr.of_below (hb1 _) (one P)).trans hF))
          clear hF hb1 c0 c1 c2 c3 c4 c5 hidx hcall
          rcases hor with ⟨l2, h1, rfl, h2⟩ | ⟨h1, rfl⟩
          · have hl2 := hle.out l2 h1
            replace h2 := hid h2
            have hnx2 := hid (show vldK x.l (k + 1) lf = some l2 by rw [hnx.out, h1])
            clear h1 hnx hle hPr hK hFr
            go_wp2_with fail
            exact ⟨⟨k + 1, l2, by go_num, by omega, by omega, hnx2, h2, hF4⟩, by simp [intOf]; omega⟩
          · have hn : vldF x left = none := by
              rw [hv0.out]
              exact vldK_none (k := k + 1) (by rw [hnx.out, h1])
            have hfin := hid (hpost.out w3 hF4.out hn)
            clear h1 hn
            go_wp2_with fail
            go_ret
            exact hfin.out
        · have hkl : k = x.l.length := by omega
          subst hkl
          have hK2 := hK.out
          rw [vldK_all, ← hv0.out] at hK2
          have hfin := hid (show VldPost x P left w (.returned (.bool true)) wr from ⟨hFr.out, Or.inl ⟨l', hK2, rfl, hPr.out⟩⟩)
          clear hK2
          go_wp2_with fail
          go_ret
          exact hfin.out
theorem valid_any (x : Val) (hx : ValB x) (P : Nat) (S : Foot) (cs : List Value) (left : Nat) (w : World) (hR : ValR S w x cs) (hS : ¬ S P) (hl : left ≤ 16384) (hP : w.heap[P]? = some (.cells #[iv left] 3 (0, 0))) :
    Calls Tryd.prog 45 #[.agg cs.toArray, pt P, nodeV] w (VldPost x P left w) := by
  suffices h : ∀ n (x : Val), SizeOf.sizeOf x < n → ValB x → ∀ (S : Foot) (cs : List Value) (left : Nat) (w : World), ValR S w x cs → ¬ S P → left ≤ 16384 → w.heap[P]? = some (.cells #[iv left] 3 (0, 0)) → Calls Tryd.prog 45 #[.agg cs.toArray, pt P, nodeV] w (VldPost x P left w) from h _ x (Nat.lt_succ_self _) hx S cs left w hR hS hl hP
  intro n
  induction n with
  | zero => intro x h; omega
  | succ n ih =>
    intro x hn hx S cs left w hR hS hl hP
    exact valid_of x hx P (fun y hy S cs left W h1 h2 h3 h4 => ih y (by have := val_mem_lt hy; omega) (hx.mem hy) S cs left W h1 h2 h3 h4) S cs left w hR hS hl hP
set_option maxHeartbeats 4000000 in
set_option maxRecDepth 100000 in
theorem right_any (x : Val) (hx : ValB x) (S : Foot) (cs : List Value) (w : World) (hR0 : ValR S w x cs) :
    Calls Tryd.prog 24 #[.agg cs.toArray] w fun e w' => e = .returned (.bool (rightF x)) ∧ Below w.heap.size w w' := by
  have hR := goodVal.mono (T := fun q => S q ∧ q < w.heap.size) hR0 (fun k hk hs => ⟨hs, hk⟩)
  clear hR0
  have hw : ∀ o, Below w.heap.size w (w.alloc o) := fun o => (Below.refl _ w).alloc (Nat.le_refl _) o
  have hw2 : ∀ o o', Below w.heap.size w ((w.alloc o).alloc o') := fun o o' => (hw o).alloc (by simp) o'
  have hcall := hid (fun o => valid_any x hx (w.heap.size + 1) _ cs 16384 ((w.alloc o).alloc (.cells #[iv 16384] 3 (0, 0))) (goodVal.below hR (hw2 _ _)) (fun h => by have := h.2; omega) (Nat.le_refl _) (by
    have := heap_alloc_new' (w.alloc o) (.cells #[iv 16384] 3 (0, 0))
    simpa using this))
  have hfr := hid (fun o o' W (h : Fr (one (w.heap.size + 1)) ((w.alloc o).alloc o') W) => (hw2 o o').trans (h.to_below (B := w.heap.size) (by simp; omega) (fun k hk e => by have : k = w.heap.size + 1 := e; omega)))
  obtain ⟨a1, k1, rfl, -⟩ := valR_open hR
  clear hR hw hw2
  go_enter Tryd.func24, Tryd.ntmps24
  go_wp2_with fail
  refine (hcall.out _).mono ?_
  rintro e w3 ⟨hF, hor⟩
  have hB := hid (hfr.out _ _ _ hF)
  rcases hor with ⟨l2, h1, rfl, h2⟩ | ⟨h1, rfl⟩
  · have hfin := hid (show rightF x = true by unfold rightF; rw [h1]; rfl)
    clear h1 h2 hF
    go_wp2_with fail
    go_ret
    exact ⟨by rw [hfin.out]; rfl, hB.out⟩
  · have hfin := hid (show rightF x = false by unfold rightF; rw [h1]; rfl)
    clear h1 hF
    go_wp2_with fail
    go_ret
    exact ⟨by rw [hfin.out]; rfl, hB.out⟩
end Go.Proofs.YtnbhpicmflagcaaDoor
