/- Chapter 05 (disk): a Disk in memory. -/
import Derived.Test.YtffmmhofgocldaaChecked
import Derived.Test.YtffmmhofgocldaaStr
import Derived.Test.YtffmmhofgocldaaRel
import Derived.Test.YtffmmhofgocldaaDiskM
import Derived.Lib.AppendStr
import Derived.Deep.RegionWith
import Derived.Deep.RegionLaw
import Derived.Deep.QuietTactic
import Derived.BigQuiet
import Derived.BigRegion
set_option linter.unusedVariables false
namespace Go.Proofs.Ytffmmhofgocldaa
open Go.RowKit
open Go.Lib (hid)
abbrev u8s (l : List UInt8) : List Value := l.map fun b => Value.int .u8 b.toNat
def dCells (vs : Nat → Value) (d : DS) : List Value :=
  [vs 0, iv (d.dur 0), vs 1, iv (d.dur 1), vs 2, iv (d.dur 2), vs 3, iv (d.dur 3), vs 4, iv (d.dur 4), vs 5, iv (d.dur 5), vs 6, iv (d.dur 6), vs 7, iv (d.dur 7),
   .bool d.down, iv d.lost, iv d.armed, iv (d.keep 0), iv (d.keep 1), iv (d.keep 2), iv (d.keep 3), iv (d.keep 4), iv (d.keep 5), iv (d.keep 6), iv (d.keep 7)]
theorem lt8 {P : Nat → Prop} (h0 : P 0) (h1 : P 1) (h2 : P 2) (h3 : P 3) (h4 : P 4) (h5 : P 5) (h6 : P 6) (h7 : P 7) : ∀ f, f < 8 → P f
  | 0, _ => h0 | 1, _ => h1 | 2, _ => h2 | 3, _ => h3 | 4, _ => h4 | 5, _ => h5 | 6, _ => h6 | 7, _ => h7
  | n + 8, h => by omega
theorem dCells_data (vs : Nat → Value) (d : DS) : ∀ f, f < 8 → (dCells vs d).toArray[f * 2]? = some (vs f) := lt8 rfl rfl rfl rfl rfl rfl rfl rfl
theorem dCells_dur (vs : Nat → Value) (d : DS) : ∀ f, f < 8 → (dCells vs d).toArray[f * 2 + 1]? = some (iv (d.dur f)) := lt8 rfl rfl rfl rfl rfl rfl rfl rfl
theorem dCells_keep (vs : Nat → Value) (d : DS) : ∀ f, f < 8 → (dCells vs d).toArray[19 + f]? = some (iv (d.keep f)) := lt8 rfl rfl rfl rfl rfl rfl rfl rfl
theorem dCells_set_data (vs : Nat → Value) (d : DS) (v : Value) (x : List UInt8) : ∀ f, f < 8 → (dCells vs d).toArray.setIfInBounds (f * 2) v = (dCells (upd vs f v) { d with data := upd d.data f x }).toArray :=
  lt8 rfl rfl rfl rfl rfl rfl rfl rfl
theorem dCells_set_dur (vs : Nat → Value) (d : DS) (n : Nat) : ∀ f, f < 8 → (dCells vs d).toArray.setIfInBounds (f * 2 + 1) (iv n) = (dCells vs { d with dur := upd d.dur f n }).toArray :=
  lt8 rfl rfl rfl rfl rfl rfl rfl rfl

/-- block b of type T is the Disk d; the files' rows (elements of type E) are vs -/
structure DV (T E : TypeId) (b : Nat) (vs : Nat → Value) (d : DS) (w : World) : Prop where
  blk : w.heap[b]? = some (.cells (dCells vs d).toArray T (0, 0))
  own : ∀ f, f < 8 → w.ownsRow 0 E 1 (vs f) (d.data f).length (u8s (d.data f))
  apart : ∀ f g, f < 8 → g < 8 → f ≠ g → (vs f).ownBlock = none ∨ (vs f).ownBlock ≠ (vs g).ownBlock
def foot (vs : Nat → Value) (b : Nat) (k : Nat) : Prop := k = b ∨ ∃ f, f < 8 ∧ (vs f).ownBlock = some k
theorem own_type {w : World} {base : Nat} {e : TypeId} {sz n : Nat} {v : Value} {xs : List Value} (h : w.ownsRow base e sz v n xs) {k : Nat} (hk : v.ownBlock = some k) : ∃ cur, w.heap[k]? = some (.cells cur e (0, 0)) := by
  rcases h.2 with ⟨rfl, _⟩ | ⟨g, cap, cur, rfl, _, hg, _⟩
  · simp [Value.ownBlock] at hk
  · simp [Value.ownBlock] at hk; subst hk; exact ⟨cur, hg⟩
theorem owns_blk {w w' : World} {base base' : Nat} {e : TypeId} {sz n : Nat} {v : Value} {xs : List Value} (h : w.ownsRow base e sz v n xs) (hk : ∀ k, v.ownBlock = some k → w'.heap[k]? = w.heap[k]?) (hb : ∀ k, v.ownBlock = some k → base' ≤ k) : w'.ownsRow base' e sz v n xs := by
  obtain ⟨h1, h2⟩ := h
  refine ⟨h1, ?_⟩
  rcases h2 with h2 | ⟨g, cap, cur, rfl, _, hg, rest⟩
  · exact Or.inl h2
  · exact Or.inr ⟨g, cap, cur, rfl, hb g rfl, (hk g rfl).trans hg, rest⟩
section
variable {T E : TypeId} {b : Nat} {vs : Nat → Value} {d : DS} {w w' : World}
theorem DV.cell (h : DV T E b vs d w) (i : Nat) : w.cell? ⟨b, i, none⟩ = (dCells vs d).toArray[i]? := cell_of h.blk
theorem DV.free (h : DV T E b vs d w) (i : Nat) : w.frozen? ⟨b, i, none⟩ = false := free_of h.blk
theorem DV.lt (h : DV T E b vs d w) : b < w.heap.size := lt_of_heap h.blk
theorem DV.ne (h : DV T E b vs d w) (hTE : T ≠ E) {f : Nat} (hf : f < 8) : (vs f).ownBlock ≠ some b := by
  intro e
  obtain ⟨cur, hc⟩ := own_type (h.own f hf) e
  rw [h.blk] at hc
  injection hc with hc
  injection hc with _ ht
  exact hTE ht
theorem DV.foot_lt (h : DV T E b vs d w) {k : Nat} (hk : foot vs b k) : k < w.heap.size := by
  rcases hk with rfl | ⟨f, hf, he⟩
  · exact h.lt
  · obtain ⟨cur, hc⟩ := own_type (h.own f hf) he
    exact lt_of_heap hc
theorem DV.fr (h : DV T E b vs d w) {S : Nat → Prop} (hf : Fr S w w') (hs : ∀ k, foot vs b k → ¬ S k) : DV T E b vs d w' :=
  ⟨hf.keep h.blk (hs b (Or.inl rfl)), fun f hf8 => owns_blk (h.own f hf8) (fun k hk => hf.block k (h.foot_lt (Or.inr ⟨f, hf8, hk⟩)) (hs k (Or.inr ⟨f, hf8, hk⟩))) (fun _ _ => Nat.zero_le _), h.apart⟩
/-- one cell of the block is set, the rows stay -/
theorem DV.set (h : DV T E b vs d w) (hTE : T ≠ E) (i : Nat) (v : Value) {d' : DS} (he : (dCells vs d).toArray.setIfInBounds i v = (dCells vs d').toArray) (hd : d'.data = d.data) : DV T E b vs d' (w.setCell ⟨b, i, none⟩ v) :=
  ⟨by rw [← he]; exact heap_setCell_same h.blk v, fun f hf => by rw [hd]; exact owns_blk (h.own f hf) (fun k hk => heap_setCell_other v (fun e => h.ne hTE hf (by rw [hk, e]))) (fun _ _ => Nat.zero_le _), h.apart⟩
/-- the row of file f is another -/
theorem DV.setData (h : DV T E b vs d w) (hTE : T ≠ E) (f : Nat) (hf : f < 8) (v : Value) (x : List UInt8) (hv : w.ownsRow 0 E 1 v x.length (u8s x)) (ha : ∀ g, g < 8 → g ≠ f → v.ownBlock = none ∨ v.ownBlock ≠ (vs g).ownBlock) :
    DV T E b (upd vs f v) { d with data := upd d.data f x } (w.setCell ⟨b, f * 2, none⟩ v) := by
  have hvb : v.ownBlock ≠ some b := by
    intro e
    obtain ⟨cur, hc⟩ := own_type hv e
    rw [h.blk] at hc
    injection hc with hc
    injection hc with _ ht
    exact hTE ht
  refine ⟨by rw [← dCells_set_data vs d v x f hf]; exact heap_setCell_same h.blk v, fun g hg => ?_, fun g k hg hk hne => ?_⟩
  · show (w.setCell ⟨b, f * 2, none⟩ v).ownsRow 0 E 1 (upd vs f v g) (upd d.data f x g).length (u8s (upd d.data f x g))
    unfold upd
    split
    · exact owns_blk hv (fun k hk => heap_setCell_other v (fun e => hvb (by rw [hk, e]))) (fun _ _ => Nat.zero_le _)
    · exact owns_blk (h.own g hg) (fun k hk => heap_setCell_other v (fun e => h.ne hTE hg (by rw [hk, e]))) (fun _ _ => Nat.zero_le _)
  · unfold upd
    split
    · rename_i e1; subst e1
      split
      · rename_i e2; exact absurd e2.symm hne
      · exact ha k hk (fun e => hne e.symm)
    · split
      · rename_i e1 e2; subst e2
        rcases ha g hg e1 with h9 | h9
        · rw [h9]
          rcases Option.eq_none_or_eq_some (vs g).ownBlock with h8 | ⟨k8, h8⟩
          · exact Or.inl h8
          · exact Or.inr (by rw [h8]; simp)
        · exact Or.inr (fun e => h9 e.symm)
      · exact h.apart g k hg hk hne
end

/-- after an append to file n's row (which lies elsewhere now, perhaps) and the store of the new slice -/
theorem append_end {T E : TypeId} (hTE : T ≠ E) {b n : Nat} {vs : Nat → Value} {d : DS} {w1 : World} {v' : Value} {x : List UInt8} (hn : n < 8) (hblk : w1.heap[b]? = some (.cells (dCells vs d).toArray T (0, 0)))
    (hown1 : ∀ g, g < 8 → g ≠ n → w1.ownsRow 0 E 1 (vs g) (d.data g).length (u8s (d.data g))) (hown : w1.ownsRow 0 E 1 v' x.length (u8s x)) (hva : ∀ g, g < 8 → g ≠ n → v'.ownBlock = none ∨ v'.ownBlock ≠ (vs g).ownBlock)
    (hap : ∀ f g, f < 8 → g < 8 → f ≠ g → (vs f).ownBlock = none ∨ (vs f).ownBlock ≠ (vs g).ownBlock) : DV T E b (upd vs n v') { d with data := upd d.data n x } (w1.setCell ⟨b, n * 2, none⟩ v') := by
  have nb : ∀ {v : Value} {m : Nat} {xs : List Value}, w1.ownsRow 0 E 1 v m xs → v.ownBlock ≠ some b := fun h9 e => by
    obtain ⟨cur, hc⟩ := own_type h9 e
    rw [hblk] at hc
    injection hc with hc
    injection hc with _ ht
    exact hTE ht
  refine ⟨by rw [← dCells_set_data vs d v' x n hn]; exact heap_setCell_same hblk v', fun g hg => ?_, fun g k hg hk hne => ?_⟩
  · show (w1.setCell ⟨b, n * 2, none⟩ v').ownsRow 0 E 1 (upd vs n v' g) (upd d.data n x g).length (u8s (upd d.data n x g))
    unfold upd
    split
    · exact owns_blk hown (fun k hk => heap_setCell_other v' (fun e => nb hown (by rw [hk, e]))) (fun _ _ => Nat.zero_le _)
    · rename_i hgn
      exact owns_blk (hown1 g hg hgn) (fun k hk => heap_setCell_other v' (fun e => nb (hown1 g hg hgn) (by rw [hk, e]))) (fun _ _ => Nat.zero_le _)
  · unfold upd
    split
    · rename_i e1; subst e1
      split
      · rename_i e2; exact absurd e2.symm hne
      · exact hva k hk (fun e => hne e.symm)
    · split
      · rename_i e1 e2; subst e2
        rcases hva g hg e1 with h9 | h9
        · rw [h9]
          rcases Option.eq_none_or_eq_some (vs g).ownBlock with h8 | ⟨k8, h8⟩
          · exact Or.inl h8
          · exact Or.inr (by rw [h8]; simp)
        · exact Or.inr (fun e => h9 e.symm)
      · exact hap g k hg hk hne

/-- block b is the Disk d, in memory of F alone -/
def Dk (T E : TypeId) (F : Nat → Prop) (b : Nat) (d : DS) (w : World) : Prop := Ok d ∧ ∃ vs, DV T E b vs d w ∧ ∀ k, foot vs b k → F k
theorem Dk.fr {T E : TypeId} {F : Nat → Prop} {b : Nat} {d : DS} {w w' : World} (h : Dk T E F b d w) {S : Nat → Prop} (hf : Fr S w w') (hs : ∀ k, F k → ¬ S k) : Dk T E F b d w' := by
  obtain ⟨ho, vs, h1, h2⟩ := h
  exact ⟨ho, vs, h1.fr hf (fun k hk => hs k (h2 k hk)), h2⟩
theorem Dk.mono {T E : TypeId} {F G : Nat → Prop} {b : Nat} {d : DS} {w : World} (h : Dk T E F b d w) (hs : ∀ k, k < w.heap.size → F k → G k) : Dk T E G b d w := by
  obtain ⟨ho, vs, h1, h2⟩ := h
  exact ⟨ho, vs, h1, fun k hk => hs k (h1.foot_lt hk) (h2 k hk)⟩
/-- what a method of a Disk does: it returns v; the Disk is then d'; nothing but its own memory has changed -/
def DP (T E : TypeId) (F : Nat → Prop) (b : Nat) (w : World) (v : Value) (d' : DS) (e : Ending) (w' : World) : Prop :=
  e = .returned v ∧ ∃ F', Dk T E F' b d' w' ∧ Fr F w w' ∧ ∀ k, F' k → F k ∨ w.heap.size ≤ k
/-- all memory of the Disk lies from B on -/
theorem DP.solo {T E : TypeId} {B b : Nat} {w : World} {v : Value} {d' : DS} {e : Ending} {w' : World} (h : DP T E (from_ B) b w v d' e w') (hB : B ≤ w.heap.size) : e = .returned v ∧ Dk T E (from_ B) b d' w' ∧ Below B w w' := by
  obtain ⟨he, F', h1, h2, h3⟩ := h
  exact ⟨he, h1.mono (fun k _ hk => by rcases h3 k hk with h | h; exact h; exact Nat.le_trans hB h), h2.to_below hB (fun k hk hs => by unfold from_ at hs; omega)⟩
theorem ok_of {T E : TypeId} {F : Nat → Prop} {b : Nat} {d : DS} {w : World} (h : Dk T E F b d w) : Ok d := h.1

theorem append_str {P : Program} (w : World) (base : Nat) (t u ty e : TypeId) (i : TypeInfo) (ht : P.underlying t = some (.slice e)) (hu : P.underlying u = some .string) (hi : P.info? e = some i) (hz : i.zero = some (.int .u8 0))
    (hsize : i.size = 1) (hby : i.bytes = 1) (v : Value) (l s : List UInt8) (hown : w.ownsRow base e 1 v l.length (u8s l)) (hl : l.length + s.length ≤ 140737488355328) (hbase : base ≤ w.heap.size) :
    ∃ v' w', (Builtin.append_ #[t, u] ty #[v, sv s]).run P w = .ok v' w' ∧ w'.ownsRow base e 1 v' (l ++ s).length (u8s (l ++ s)) ∧ w.grownBy w' v.ownBlock ∧ (v'.ownBlock = v.ownBlock ∨ v'.ownBlock = some w.heap.size ∨ v'.ownBlock = none) := by
  have hsz : (ByteArray.mk s.toArray).size = s.length := by rw [ByteArray.size_mk', List.size_toArray]
  have hmx : l.length + s.length ≤ maxLen := by simp only [maxLen]; omega
  obtain ⟨v', w', hrun, h2, h3, h4⟩ := Lib.run_append_own_string (P := P) w base t u ty e i ht hu hi hz hsize hby v l.length (u8s l) hown ⟨s.toArray⟩ (by rw [hsz]; exact hmx) (by rw [hsz]; exact hl) hbase
  have hc : Lib.strCells ⟨s.toArray⟩ = u8s s := by simp [Lib.strCells]
  rw [hsz, hc] at h2
  refine ⟨v', w', hrun, by simpa using h2, h3, ?_⟩
  rcases hown.2 with ⟨rfl, hn⟩ | ⟨g, cap, cur, rfl, hbg, hg, hnc, hcm, hcs, htake⟩
  · by_cases hm : s.length = 0
    · right; right
      rw [h4.2 ⟨rfl, by rw [hsz]; exact hm⟩]; rfl
    · have hr := run_append_nil_string (P := P) w t u ty e i (.int .u8 0) ht hu hi hz ⟨s.toArray⟩ (by rw [hsz]; omega) (by rw [hsz]; omega) (by rw [hby, hsz]; omega)
      rw [hrun] at hr
      injection hr with hr _
      right; left
      rw [hr]; rfl
  · by_cases hroom : l.length + s.length ≤ cap
    · have hcs' : cur.size = cap := by simpa using hcs
      have hr := Lib.run_append_room_string (P := P) w t u ty e i ht hu hi hsize g l.length cap cur hg ⟨s.toArray⟩ (by rw [hsz]; exact hroom) (by rw [hsz]; omega)
      rw [hrun] at hr
      injection hr with hr _
      left
      rw [hr]; rfl
    · have holds : ∀ j u, (u8s l)[j]? = some u → w.cell? ((⟨g, 0, none⟩ : Addr).add j) = some u := hown.cells (g := g) rfl
      have hr := Lib.run_append_grow_string (P := P) w t u ty e i (.int .u8 0) ht hu hi hz ⟨g, 0, none⟩ l.length cap (u8s l) (by rw [hsize]; simp) holds ⟨s.toArray⟩ (by rw [hsz]; omega) (by rw [hsz]; omega) (by rw [hby, hsz]; exact growslice_fits (by omega) (by omega))
      rw [hrun] at hr
      injection hr with hr _
      right; left
      rw [hr]; rfl
end Go.Proofs.Ytffmmhofgocldaa
