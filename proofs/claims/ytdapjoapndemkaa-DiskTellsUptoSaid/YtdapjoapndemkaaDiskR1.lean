/- Chapter 05 (disk): the reference's Disk in memory; its small methods. -/
import Derived.Test.YtdapjoapndemkaaDiskR0
import Derived.Test.YtdapjoapndemkaaDiskW12
set_option linter.unusedVariables false
namespace Go.Proofs.Ytdapjoapndemkaa
open Go.RowKit
open Go.Lib (hid)
def rCells (fb cap : Nat) (vk : Value) (x : RS) : Array Value := #[.slice (some ⟨fb, 0, none⟩) 8 cap, iv x.lost, .bool x.down, iv x.armed, vk]
def FCells (cur : Array Value) (ls rs : Nat → List UInt8) : Prop := ∀ f, f < 8 → cur[f * 2]? = some (sv (ls f)) ∧ cur[f * 2 + 1]? = some (sv (rs f))
theorem FCells.lt {cur : Array Value} {ls rs : Nat → List UInt8} (h : FCells cur ls rs) : 16 ≤ cur.size := by
  have := (h 7 (by omega)).2
  have := (Array.getElem?_eq_some_iff.1 this).1
  omega
theorem FCells.setL {cur : Array Value} {ls rs : Nat → List UInt8} (h : FCells cur ls rs) (f : Nat) (hf : f < 8) (l : List UInt8) : FCells (cur.setIfInBounds (f * 2) (sv l)) (upd ls f l) rs := by
  intro g hg
  have hz := h.lt
  rw [Array.getElem?_setIfInBounds, Array.getElem?_setIfInBounds]
  unfold upd
  by_cases e : g = f
  · subst e
    rw [if_pos rfl, if_pos rfl, if_pos (by omega), if_neg (by omega)]
    exact ⟨rfl, (h g hg).2⟩
  · rw [if_neg (by omega), if_neg e, if_neg (by omega)]
    exact h g hg
theorem FCells.setR {cur : Array Value} {ls rs : Nat → List UInt8} (h : FCells cur ls rs) (f : Nat) (hf : f < 8) (l : List UInt8) : FCells (cur.setIfInBounds (f * 2 + 1) (sv l)) ls (upd rs f l) := by
  intro g hg
  have hz := h.lt
  rw [Array.getElem?_setIfInBounds, Array.getElem?_setIfInBounds]
  unfold upd
  by_cases e : g = f
  · subst e
    rw [if_neg (by omega), if_pos rfl, if_pos (by omega), if_pos rfl]
    exact ⟨(h g hg).1, rfl⟩
  · rw [if_neg (by omega), if_neg (by omega), if_neg e]
    exact h g hg

/-- block b is the reference's Disk x, its files lie in block fb -/
structure RV (b fb cap : Nat) (vk : Value) (x : RS) (w : World) : Prop where
  blk : w.heap[b]? = some (.cells (rCells fb cap vk x) 64 (0, 0))
  fls : ∃ cur, w.heap[fb]? = some (.cells cur 66 (0, 0)) ∧ FCells cur x.ls x.rs
  cap : 8 ≤ cap ∧ cap ≤ maxLen
  own : w.ownsRow 0 3 1 vk x.keep.length (x.keep.map iv)
def rfoot (b fb : Nat) (vk : Value) (k : Nat) : Prop := k = b ∨ k = fb ∨ vk.ownBlock = some k
section
variable {b fb cap : Nat} {vk : Value} {x : RS} {w w' : World}
theorem RV.cell (h : RV b fb cap vk x w) (i : Nat) : w.cell? ⟨b, i, none⟩ = (rCells fb cap vk x)[i]? := cell_of h.blk
theorem RV.free (h : RV b fb cap vk x w) (i : Nat) : w.frozen? ⟨b, i, none⟩ = false := free_of h.blk
theorem RV.ffree (h : RV b fb cap vk x w) (i : Nat) : w.frozen? ⟨fb, i, none⟩ = false := by obtain ⟨cur, h1, _⟩ := h.fls; exact free_of h1
theorem RV.fcell (h : RV b fb cap vk x w) {f : Nat} (hf : f < 8) : w.cell? ⟨fb, f * 2, none⟩ = some (sv (x.ls f)) ∧ w.cell? ⟨fb, f * 2 + 1, none⟩ = some (sv (x.rs f)) := by
  obtain ⟨cur, h1, h2⟩ := h.fls
  rw [cell_of h1, cell_of h1]; exact h2 f hf
theorem RV.ne (h : RV b fb cap vk x w) : b ≠ fb := by
  intro e
  obtain ⟨cur, h1, _⟩ := h.fls
  have := h.blk
  rw [e, h1] at this
  injection this with this
  injection this with _ ht
  exact absurd ht (by decide)
theorem RV.nek (h : RV b fb cap vk x w) : vk.ownBlock ≠ some b ∧ vk.ownBlock ≠ some fb := by
  constructor
  · intro e
    obtain ⟨cur, hc⟩ := own_type h.own e
    rw [h.blk] at hc
    injection hc with hc
    injection hc with _ ht
    exact absurd ht (by decide)
  · intro e
    obtain ⟨cur, hc⟩ := own_type h.own e
    obtain ⟨cur2, h1, _⟩ := h.fls
    rw [h1] at hc
    injection hc with hc
    injection hc with _ ht
    exact absurd ht (by decide)
theorem RV.foot_lt (h : RV b fb cap vk x w) {k : Nat} (hk : rfoot b fb vk k) : k < w.heap.size := by
  rcases hk with rfl | rfl | he
  · exact lt_of_heap h.blk
  · obtain ⟨cur, h1, _⟩ := h.fls; exact lt_of_heap h1
  · obtain ⟨cur, hc⟩ := own_type h.own he; exact lt_of_heap hc
theorem RV.fr (h : RV b fb cap vk x w) {S : Nat → Prop} (hf : Fr S w w') (hs : ∀ k, rfoot b fb vk k → ¬ S k) : RV b fb cap vk x w' :=
  ⟨hf.keep h.blk (hs b (Or.inl rfl)), by obtain ⟨cur, h1, h2⟩ := h.fls; exact ⟨cur, hf.keep h1 (hs fb (Or.inr (Or.inl rfl))), h2⟩, h.cap,
   owns_blk h.own (fun k hk => hf.block k (h.foot_lt (Or.inr (Or.inr hk))) (hs k (Or.inr (Or.inr hk)))) (fun _ _ => Nat.zero_le _)⟩
/-- one cell of the block is set -/
theorem RV.set (h : RV b fb cap vk x w) (i : Nat) (v : Value) {x' : RS} (he : (rCells fb cap vk x).setIfInBounds i v = rCells fb cap vk x') (h1 : x'.ls = x.ls) (h2 : x'.rs = x.rs) (h3 : x'.keep = x.keep) : RV b fb cap vk x' (w.setCell ⟨b, i, none⟩ v) :=
  ⟨by rw [← he]; exact heap_setCell_same h.blk v, by
    obtain ⟨cur, h4, h5⟩ := h.fls
    exact ⟨cur, by rw [heap_setCell_other v (Ne.symm h.ne)]; exact h4, by rw [h1, h2]; exact h5⟩, h.cap, by
    rw [h3]; exact owns_blk h.own (fun k hk => heap_setCell_other v (fun e => h.nek.1 (by rw [hk, e]))) (fun _ _ => Nat.zero_le _)⟩
theorem RV.setL (h : RV b fb cap vk x w) {f : Nat} (hf : f < 8) (l : List UInt8) : RV b fb cap vk { x with ls := upd x.ls f l } (w.setCell ⟨fb, f * 2, none⟩ (sv l)) :=
  ⟨by rw [heap_setCell_other _ h.ne]; exact h.blk, by
    obtain ⟨cur, h4, h5⟩ := h.fls
    exact ⟨_, heap_setCell_same h4 _, h5.setL f hf l⟩, h.cap, owns_blk h.own (fun k hk => heap_setCell_other _ (fun e => h.nek.2 (by rw [hk, e]))) (fun _ _ => Nat.zero_le _)⟩
theorem RV.setR (h : RV b fb cap vk x w) {f : Nat} (hf : f < 8) (l : List UInt8) : RV b fb cap vk { x with rs := upd x.rs f l } (w.setCell ⟨fb, f * 2 + 1, none⟩ (sv l)) :=
  ⟨by rw [heap_setCell_other _ h.ne]; exact h.blk, by
    obtain ⟨cur, h4, h5⟩ := h.fls
    exact ⟨_, heap_setCell_same h4 _, h5.setR f hf l⟩, h.cap, owns_blk h.own (fun k hk => heap_setCell_other _ (fun e => h.nek.2 (by rw [hk, e]))) (fun _ _ => Nat.zero_le _)⟩
theorem RV.setLR (h : RV b fb cap vk x w) {f : Nat} (hf : f < 8) (l r : List UInt8) : RV b fb cap vk (rSet f l r x) ((w.setCell ⟨fb, f * 2, none⟩ (sv l)).setCell ⟨fb, f * 2 + 1, none⟩ (sv r)) := (h.setL hf l).setR hf r
theorem RV.drewN (h : RV b fb cap vk x w) (n : Nat) : RV b fb cap vk x (w.drewN n) := ⟨h.blk, h.fls, h.cap, h.own⟩
theorem RV.drew (h : RV b fb cap vk x w) : RV b fb cap vk x w.drew := ⟨h.blk, h.fls, h.cap, h.own⟩
end
def Rk (F : Nat → Prop) (b : Nat) (x : RS) (w : World) : Prop := ROk x ∧ ∃ fb cap vk, RV b fb cap vk x w ∧ ∀ k, rfoot b fb vk k → F k
theorem Rk.fr {F : Nat → Prop} {b : Nat} {x : RS} {w w' : World} (h : Rk F b x w) {S : Nat → Prop} (hf : Fr S w w') (hs : ∀ k, F k → ¬ S k) : Rk F b x w' := by
  obtain ⟨ho, fb, cap, vk, h1, h2⟩ := h
  exact ⟨ho, fb, cap, vk, h1.fr hf (fun k hk => hs k (h2 k hk)), h2⟩
theorem Rk.mono {F G : Nat → Prop} {b : Nat} {x : RS} {w : World} (h : Rk F b x w) (hs : ∀ k, k < w.heap.size → F k → G k) : Rk G b x w := by
  obtain ⟨ho, fb, cap, vk, h1, h2⟩ := h
  exact ⟨ho, fb, cap, vk, h1, fun k hk => hs k (h1.foot_lt hk) (h2 k hk)⟩
/-- what a method does: it returns v; the Disk is then x'; F keeps all its memory (new memory lies in F) -/
def RP (F : Nat → Prop) (b : Nat) (w : World) (v : Value) (x' : RS) (e : Ending) (w' : World) : Prop := e = .returned v ∧ Rk F b x' w' ∧ Fr F w w'
theorem RV.idx {fb cap : Nat} {f : Nat} (hf : f < 8) : ∀ kd W, (Instr.indexAt 62 (.slice (some ⟨fb, 0, none⟩) 8 cap) (.int kd f)).run Try.prog W = .ok (.pointer (some ⟨fb, f * 2, none⟩)) W := fun kd W => by
  have := row_idx (P := Try.prog) (t := 62) (sz := 2) (by kernel_rfl) (fun _ => by kernel_rfl) (rfl : (some ⟨fb, 0, none⟩ : Option Addr) = some ⟨fb, 0, none⟩) 8 cap f hf kd W
  simpa using this
theorem bcat (l r : List UInt8) : (⟨l.toArray⟩ : ByteArray) ++ ⟨r.toArray⟩ = ⟨(l ++ r).toArray⟩ := by
  apply ByteArray.ext
  simp
theorem ROk.len1 {x : RS} (h : ROk x) {f : Nat} (hf : f < 8) : (x.ls f).length ≤ 16777216 ∧ (x.rs f).length ≤ 16777216 := by have := h.len f hf; omega

set_option maxRecDepth 100000 in
theorem rdown_any (F : Nat → Prop) (b : Nat) (x : RS) (w : World) (h : Rk F b x w) : Calls Try.prog 29 #[pt b] w fun e w' => e = .returned (.bool x.down) ∧ w = w' := by
  obtain ⟨ho, fb, cap, vk, hv, hF⟩ := h
  have c2 := hv.cell 2
  rw [show (rCells fb cap vk x)[2]? = some (.bool x.down) from rfl] at c2
  clear hv hF ho
  go_enter Try.func29, Try.ntmps29
  go_wp2
  go_ret
  exact ⟨rfl, rfl⟩

set_option maxRecDepth 100000 in
theorem rmay_any (F : Nat → Prop) (b : Nat) (x : RS) (f : Int) (w : World) (h : Rk F b x w) : Calls Try.prog 47 #[pt b, iv f] w fun e w' => e = .returned (iv (rMay f x)) ∧ w = w' := by
  obtain ⟨ho, fb, cap, vk, hv, hF⟩ := h
  have c2 := hv.cell 2
  rw [show (rCells fb cap vk x)[2]? = some (.bool x.down) from rfl] at c2
  clear hv hF ho
  cases hd : x.down with
  | true =>
    rw [rMay_down hd]
    rw [hd] at c2
    clear hd
    go_enter Try.func47, Try.ntmps47
    go_wp2
    go_ret
    exact ⟨rfl, rfl⟩
  | false =>
    rw [rMay_up hd]
    rw [hd] at c2
    clear hd
    cases hf : vF f with
    | true =>
      rw [vF_iff] at hf
      obtain ⟨h1, h2⟩ := hf
      go_enter Try.func47, Try.ntmps47
      go_wp2
      go_ret
      exact ⟨rfl, rfl⟩
    | false =>
      rw [vF_not] at hf
      by_cases h1 : f < 0
      all_goals
        go_enter Try.func47, Try.ntmps47
        go_wp2
        go_ret
        exact ⟨rfl, rfl⟩
set_option maxRecDepth 100000 in
theorem rsize_any (F : Nat → Prop) (b : Nat) (x : RS) (f : Int) (w : World) (h : Rk F b x w) : Calls Try.prog 30 #[pt b, iv f] w fun e w' => e = .returned (iv (rSize f x)) ∧ ∃ n, w' = w.drewN n := by
  obtain ⟨ho, fb, cap, vk, hv, hF⟩ := h
  cases hf : vF f with
  | true =>
    obtain ⟨n, hn, rfl, hn2⟩ := idx8 (F := F) f hf
    have hnI : (n : Int) < 8 := by omega
    have e1 := hid (show rSize (n : Int) x = (x.ls n).length + (x.rs n).length by unfold rSize; rw [hf, hn2]; rfl)
    have c0 := hv.cell 0
    rw [show (rCells fb cap vk x)[0]? = some (.slice (some ⟨fb, 0, none⟩) 8 cap) from rfl] at c0
    obtain ⟨c1, c2⟩ := hv.fcell hn
    have hl := ho.len n hn
    have hw : IntKind.i64.wrap ((x.ls n).length + (x.rs n).length : Int) = ((x.ls n).length + (x.rs n).length : Int) := by rw [IntKind.wrap_i64]; omega
    have hi := RV.idx (fb := fb) (cap := cap) hn
    clear hv hF ho hl
    go_enter Try.func30, Try.ntmps30
    go_wp2
    go_quiet (fail)
    go_wp2
    go_ret
    rw [e1.out]
    exact ⟨ret_int (by simp), _, rfl⟩
  | false =>
    have e1 := hid (show rSize f x = 0 by unfold rSize; rw [hf]; rfl)
    clear hv hF ho
    rw [vF_not] at hf
    by_cases h1 : f < 0
    all_goals
      go_enter Try.func30, Try.ntmps30
      go_wp2
      go_ret
      rw [e1.out]
      exact ⟨rfl, 0, rfl⟩
set_option maxRecDepth 100000 in
theorem rread_any (F : Nat → Prop) (b : Nat) (x : RS) (f : Int) (w : World) (h : Rk F b x w) : Calls Try.prog 32 #[pt b, iv f] w fun e w' => e = .returned (.tuple #[sv (rRead2 f x), iv (rMay f x)]) ∧ ∃ n, w' = w.drewN n := by
  have hh := hid h
  by_cases hm : rMay f x = 0
  · obtain ⟨ho, fb, cap, vk, hv, hF⟩ := h
    obtain ⟨hd, hf⟩ := rMay_zero hm
    obtain ⟨n, hn, rfl, hn2⟩ := idx8 (F := F) f hf
    have hnI : (n : Int) < 8 := by omega
    have e1 := hid (show rRead2 (n : Int) x = x.ls n ++ x.rs n by unfold rRead2; rw [hm, hn2]; rfl)
    have c0 := hv.cell 0
    rw [show (rCells fb cap vk x)[0]? = some (.slice (some ⟨fb, 0, none⟩) 8 cap) from rfl] at c0
    obtain ⟨c1, c2⟩ := hv.fcell hn
    have hi := RV.idx (fb := fb) (cap := cap) hn
    have hl := ho.len n hn
    clear hv hF ho hd
    go_enter Try.func32, Try.ntmps32
    go_wp2_with fail
    refine (rmay_any F b x n _ hh.out).mono ?_
    rintro e w1 ⟨rfl, rfl⟩
    rw [hm]
    replace hm := hid hm
    go_wp2
    go_quiet (fail)
    go_wp2
    go_ret2
    rw [e1.out]
    exact ⟨by rw [hm.out]; simp [bcat], _, rfl⟩
  · have hm2 : rMay f x = 12 ∨ rMay f x = 1 := by unfold rMay at hm ⊢; split; exact Or.inl rfl; split; rename_i h1 h2; rw [if_neg h1, if_pos h2] at hm; exact absurd rfl hm; exact Or.inr rfl
    have e1 := hid (show rRead2 f x = [] by unfold rRead2; rw [if_neg hm])
    clear h hm
    rcases hm2 with hm | hm
    all_goals
      go_enter Try.func32, Try.ntmps32
      go_wp2_with fail
      refine (rmay_any F b x f _ hh.out).mono ?_
      rintro e w1 ⟨rfl, rfl⟩
      rw [hm]
      go_wp2
      go_ret2
      rw [e1.out]
      exact ⟨by simp [hm], 0, rfl⟩
theorem Rk.set {F : Nat → Prop} {b : Nat} {x x' : RS} {w : World} (h : Rk F b x w) (i : Nat) (v : Value) (he : ∀ fb cap vk, (rCells fb cap vk x).setIfInBounds i v = rCells fb cap vk x') (h1 : x'.ls = x.ls) (h2 : x'.rs = x.rs) (h3 : x'.keep = x.keep) (hok : ROk x') : Rk F b x' (w.setCell ⟨b, i, none⟩ v) := by
  obtain ⟨ho, fb, cap, vk, hv, hF⟩ := h
  exact ⟨hok, fb, cap, vk, hv.set i v (he fb cap vk) h1 h2 h3, hF⟩
theorem Rk.mem {F : Nat → Prop} {b : Nat} {x : RS} {w : World} (h : Rk F b x w) : F b := by
  obtain ⟨ho, fb, cap, vk, hv, hF⟩ := h
  exact hF b (Or.inl rfl)
theorem Rk.cells {F : Nat → Prop} {b : Nat} {x : RS} {w : World} (h : Rk F b x w) : w.cell? ⟨b, 1, none⟩ = some (iv x.lost) ∧ w.cell? ⟨b, 2, none⟩ = some (.bool x.down) ∧ w.cell? ⟨b, 3, none⟩ = some (iv x.armed) ∧ w.frozen? ⟨b, 1, none⟩ = false ∧ w.frozen? ⟨b, 2, none⟩ = false ∧ w.frozen? ⟨b, 3, none⟩ = false := by
  obtain ⟨ho, fb, cap, vk, hv, hF⟩ := h
  exact ⟨hv.cell 1, hv.cell 2, hv.cell 3, hv.free 1, hv.free 2, hv.free 3⟩
set_option maxRecDepth 100000 in
theorem rlose_any (F : Nat → Prop) (b : Nat) (x : RS) (n : Int) (w : World) (h : Rk F b x w) (hn : n ≤ 9223372036854775807) : Calls Try.prog 45 #[pt b, iv n] w (RP F b w (.tuple #[]) (rLose n x)) := by
  have hm := h.mem
  obtain ⟨c1, c2, c3, f1, f2, f3⟩ := h.cells
  have hok : ROk (rLose n x) := ⟨h.1.len, by show n.toNat ≤ _; omega, h.1.armed, h.1.keep⟩
  by_cases h0 : 0 < n
  · have h9 := hid ((h.set 1 (iv 0) (x' := { x with lost := 0 }) (fun _ _ _ => rfl) rfl rfl rfl ⟨h.1.len, by show 0 ≤ _; omega, h.1.armed, h.1.keep⟩).set 1 (iv n) (x' := rLose n x) (fun _ _ _ => by unfold rCells rLose; simp; omega) rfl rfl rfl hok)
    clear h hok c2 c3 f2 f3
    go_enter Try.func45, Try.ntmps45
    go_wp2
    go_end0
    exact ⟨rfl, h9.out, ((Fr.refl _ _).setCell (Or.inl hm) _).setCell (Or.inl hm) _⟩
  · have h9 := hid (h.set 1 (iv 0) (x' := rLose n x) (fun _ _ _ => by unfold rCells rLose; simp; omega) rfl rfl rfl hok)
    clear h hok c2 c3 f2 f3
    go_enter Try.func45, Try.ntmps45
    go_wp2
    go_end0
    exact ⟨rfl, h9.out, (Fr.refl _ _).setCell (Or.inl hm) _⟩
set_option maxRecDepth 100000 in
theorem rstart_any (F : Nat → Prop) (b : Nat) (x : RS) (w : World) (h : Rk F b x w) : Calls Try.prog 31 #[pt b] w (RP F b w (.tuple #[]) (rStart x)) := by
  have hm := h.mem
  obtain ⟨c1, c2, c3, f1, f2, f3⟩ := h.cells
  have hok : ROk (rStart x) := ⟨h.1.len, h.1.lost, h.1.armed, h.1.keep⟩
  have h9 := hid (h.set 2 (.bool false) (x' := rStart x) (fun _ _ _ => rfl) rfl rfl rfl hok)
  clear h hok c1 c3 f1 f3
  go_enter Try.func31, Try.ntmps31
  go_wp2
  go_end0
  exact ⟨rfl, h9.out, (Fr.refl _ _).setCell (Or.inl hm) _⟩
def fNew : Array Value := #[sv [], sv [], sv [], sv [], sv [], sv [], sv [], sv [], sv [], sv [], sv [], sv [], sv [], sv [], sv [], sv []]
theorem fNew_cells : FCells fNew (fun _ => []) (fun _ => []) := lt8 ⟨rfl, rfl⟩ ⟨rfl, rfl⟩ ⟨rfl, rfl⟩ ⟨rfl, rfl⟩ ⟨rfl, rfl⟩ ⟨rfl, rfl⟩ ⟨rfl, rfl⟩ ⟨rfl, rfl⟩
theorem mkF (w : World) : (Instr.makeSlice 62 (.int .i64 8) (.int .i64 8)).run Try.prog w = .ok (.slice (some ⟨w.heap.size, 0, none⟩) 8 8) (w.alloc (.cells fNew 66)) := by kernel_rfl
set_option maxRecDepth 100000 in
theorem rnew_any (w : World) : Calls Try.prog 26 #[] w fun e w' => e = .returned (pt (w.heap.size + 1)) ∧ Rk (from_ w.heap.size) (w.heap.size + 1) rNew w' ∧ Below w.heap.size w w' := by
  have hmk := mkF w
  go_enter Try.func26, Try.ntmps26
  go_wp2
  go_ret
  have h1 := heap_alloc_new' w (.cells fNew 66)
  have h2 := heap_alloc_new' (w.alloc (.cells fNew 66)) (.cells (rCells w.heap.size 8 (.slice none 0 0) rNew) 64)
  simp only [World.size_alloc] at h2
  refine ⟨rfl, ⟨⟨fun _ _ => by simp [rNew], by simp [rNew], by simp [rNew], by simp [rNew]⟩, w.heap.size, 8, .slice none 0 0, ⟨h2, ⟨fNew, heap_alloc_lt h1, fNew_cells⟩, by unfold maxLen; omega, World.ownsRow_nil _ _ _ _⟩, ?_⟩, (((Below.refl _ _).alloc (Nat.le_refl _) _).alloc (by simp) _)⟩
  intro k hk
  rcases hk with rfl | rfl | hk
  · unfold from_; omega
  · unfold from_; omega
  · simp [Value.ownBlock] at hk
end Go.Proofs.Ytdapjoapndemkaa
