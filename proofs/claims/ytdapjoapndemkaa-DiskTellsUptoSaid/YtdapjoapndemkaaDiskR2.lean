/- Chapter 05 (disk): the reference's Crash and comes. -/
import Derived.Test.YtdapjoapndemkaaDiskR1
set_option linter.unusedVariables false
namespace Go.Proofs.Ytdapjoapndemkaa
open Go.RowKit
open Go.Lib (hid)
theorem scat {P : Program} (x y : List UInt8) (h : x.length + y.length ≤ 9223372036854775807) (W : World) : (Op.stringOp .add ⟨x.toArray⟩ ⟨y.toArray⟩).run P W = .ok (.string ⟨(x ++ y).toArray⟩) W := by
  rw [run_string_add_sum W _ _ (by simp [ByteArray.size]; omega), ByteArray.mk_append_mk]
/-- the crash has come to file k -/
def rPart (l : List Int) (x : RS) (k : Nat) : RS := { x with down := true, armed := 0, ls := fun f => if f < k then x.ls f ++ (x.rs f).take (keepN l (x.rs f) f) else x.ls f, rs := fun f => if f < k then [] else x.rs f }
theorem rPart_next (l : List Int) (x : RS) (k : Nat) : rSet k ((rPart l x k).ls k ++ ((rPart l x k).rs k).take (keepN l (x.rs k) k)) [] (rPart l x k) = rPart l x (k + 1) := by
  unfold rSet rPart
  congr 1
  · funext f
    simp only [upd]
    by_cases e : f = k
    · subst e; simp
    · by_cases h : f < k
      · simp [e, h, show f < k + 1 by omega]
      · simp [e, h, show ¬ f < k + 1 by omega]
  · funext f
    simp only [upd]
    by_cases e : f = k
    · subst e; simp
    · by_cases h : f < k
      · simp [e, h, show f < k + 1 by omega]
      · simp [e, h, show ¬ f < k + 1 by omega]
theorem rPart_ok {x : RS} (h : ROk x) (l : List Int) (k : Nat) : ROk (rPart l x k) := by
  refine ⟨fun f hf => ?_, h.lost, by show 0 ≤ _; omega, h.keep⟩
  have := h.len f hf
  show (if f < k then _ else _ : List UInt8).length + (if f < k then _ else _ : List UInt8).length ≤ _
  split
  · simp only [List.length_append, List.length_take, List.length_nil]; omega
  · exact this
theorem rFall_ok {x : RS} (h : ROk x) (l : List Int) : ROk (rFall l x) := by
  refine ⟨fun f hf => ?_, h.lost, by show 0 ≤ _; omega, h.keep⟩
  have := h.len f hf
  show (x.ls f ++ _).length + ([] : List UInt8).length ≤ _
  simp only [List.length_append, List.length_take, List.length_nil]; omega
theorem RV.last {b fb cap : Nat} {vk : Value} {x : RS} {w : World} {l : List Int} (hv : RV b fb cap vk (rPart l x 8) w) : RV b fb cap vk (rFall l x) w := by
  refine ⟨hv.blk, ?_, hv.cap, hv.own⟩
  obtain ⟨cur, h1, h2⟩ := hv.fls
  refine ⟨cur, h1, fun f hf => ?_⟩
  have := h2 f hf
  simp only [rPart, if_pos hf] at this
  exact this
theorem RV.alloc {b fb cap : Nat} {vk : Value} {x : RS} {w : World} (h : RV b fb cap vk x w) (o : Obj) : RV b fb cap vk x (w.alloc o) := h.fr ((Fr.refl (fun _ => False) w).alloc o) (fun _ _ h => h)
/-- what the methods write: the block and the files' block -/
def ff (b fb : Nat) (k : Nat) : Prop := k = b ∨ k = fb
def VP (b fb cap : Nat) (vk : Value) (w : World) (v : Value) (x' : RS) (e : Ending) (w' : World) : Prop := e = .returned v ∧ RV b fb cap vk x' w' ∧ Fr (ff b fb) w w'
/-- the cells of file f -/
theorem RV.file {b fb cap : Nat} {vk : Value} {x : RS} {w : World} (hv : RV b fb cap vk x w) {f : Nat} (hf : f < 8) : fb < w.heap.size ∧ b < w.heap.size ∧ w.cell? ⟨b, 0, none⟩ = some (.slice (some ⟨fb, 0, none⟩) 8 cap) ∧ w.cell? ⟨fb, f * 2, none⟩ = some (sv (x.ls f)) ∧ w.cell? ⟨fb, f * 2 + 1, none⟩ = some (sv (x.rs f)) ∧
    w.frozen? ⟨fb, f * 2, none⟩ = false ∧ w.frozen? ⟨fb, f * 2 + 1, none⟩ = false := by
  obtain ⟨c1, c2⟩ := hv.fcell hf
  exact ⟨hv.foot_lt (Or.inr (Or.inl rfl)), hv.foot_lt (Or.inl rfl), hv.cell 0, c1, c2, hv.ffree _, hv.ffree _⟩
theorem RV.head {b fb cap : Nat} {vk : Value} {x : RS} {w : World} (hv : RV b fb cap vk x w) : w.cell? ⟨b, 1, none⟩ = some (iv x.lost) ∧ w.cell? ⟨b, 2, none⟩ = some (.bool x.down) ∧ w.cell? ⟨b, 3, none⟩ = some (iv x.armed) ∧ w.cell? ⟨b, 4, none⟩ = some vk ∧ w.frozen? ⟨b, 1, none⟩ = false ∧ w.frozen? ⟨b, 2, none⟩ = false ∧ w.frozen? ⟨b, 3, none⟩ = false :=
  ⟨hv.cell 1, hv.cell 2, hv.cell 3, hv.cell 4, hv.free 1, hv.free 2, hv.free 3⟩

set_option maxHeartbeats 4000000 in
set_option maxRecDepth 100000 in
theorem rcrash_any (b fb cp : Nat) (vk : Value) (x : RS) (l : List Int) (v : Value) (w : World) (h : RV b fb cp vk x w) (ho : ROk x) (hv : ∀ w', Fr (ff b fb) w w' → Row w'.heap.size w' 1 v l.length (l.map iv)) (hl : l.length ≤ 1048576) (hlx : ∀ z ∈ l, z ≤ 9223372036854775807) :
    Calls Try.prog 44 #[pt b, v] w (VP b fb cp vk w (.tuple #[]) (rCrash l x)) := by
  obtain ⟨c1, c2, c3, -, f1, f2, f3⟩ := h.head
  unfold rCrash
  cases hd : x.down with
  | true =>
    have hh := hid h
    rw [hd] at c2
    clear h hd
    go_enter Try.func44, Try.ntmps44
    go_wp2
    go_end0
    exact ⟨rfl, hh.out, Fr.refl _ _⟩
  | false =>
    rw [hd] at c2
    have hox := hid ho
    have h1 := (h.set 2 (.bool true) (x' := { x with down := true }) rfl rfl rfl rfl).set 3 (iv 0) (x' := rPart l x 0) rfl rfl rfl rfl
    have hf1 : Fr (ff b fb) w ((w.setCell ⟨b, 2, none⟩ (.bool true)).setCell ⟨b, 3, none⟩ (iv 0)) := ((Fr.refl _ _).setCell (Or.inl (Or.inl rfl)) _).setCell (Or.inl (Or.inl rfl)) _
    replace h1 := hid h1
    replace hf1 := hid hf1
    obtain ⟨a, cap, vb, vo, rfl, -⟩ := hv w (Fr.refl _ _)
    replace hv := hid hv
    replace hlx := hid hlx
    clear h hd
    go_enter Try.func44, Try.ntmps44
    go_wp2
    go_loopw [4] (fun i wr => ∃ k : Nat, i = .int .i64 k ∧ k ≤ 8 ∧ RV b fb cp vk (rPart l x k) wr ∧ Fr (ff b fb) w wr) (fun i _ => 8 - (intOf i).toNat)
    case atStart => exact ⟨0, rfl, by omega, h1.out, hf1.out⟩
    case round =>
      clear h1 hf1 c1 c2 c3 f1 f2 f3
      obtain ⟨k, rfl, hk, hr, hf⟩ := hrel
      by_cases hlt : k < 8
      · obtain ⟨hfs, hbs, c0, d1, d2, g1, g2⟩ := hr.file hlt
        have hi := RV.idx (fb := fb) (cap := cp) hlt
        have hset := fun l r => hr.setLR hlt l r
        have hkI : (k : Int) < 8 := by omega
        have hle := (rPart_ok hox.out l k).len k hlt
        have hnx := hid (rPart_next l x k)
        replace hset := hid hset
        generalize hL : (rPart l x k).ls k = L at *
        generalize hR : (rPart l x k).rs k = R at *
        have hRk : R = x.rs k := by rw [← hR]; simp [rPart]
        have hR9 := hid hRk
        clear hL hR hr hRk
        have hcl := hid (fun (n : Nat) (hn : n ≤ R.length) W => scat (P := Try.prog) L (R.take n) (by rw [List.length_take]; omega) W)
        have hex := hid (fun n => ext_take R n)
        rcases (by omega : l.length ≤ k ∨ k < l.length) with hkl | hkl
        · have hkn : keepN l (x.rs k) k = 0 := by unfold keepN; rw [List.getD_eq_getElem?_getD, List.getElem?_eq_none hkl]; simp
          have hdk : decide ((k : Int) < l.length) = false := by simp; omega
          rw [hkn] at hnx
          clear hkn
          go_wp2
          go_region
          go_wp2
          exact ⟨⟨k + 1, by go_num, by omega, by have h9 := ((hset.out L []).alloc (.cells #[sv L, sv R] 66)).drew; rw [← hnx.out]; simpa using h9, (((hf.setCell (Or.inl (Or.inr rfl)) _).setCell (Or.inl (Or.inr rfl)) _).alloc _).drew⟩, by simp [intOf]; omega⟩
        · have hdk : decide ((k : Int) < l.length) = true := by simp; omega
          obtain ⟨z, hz⟩ : ∃ z, l[k]? = some z := ⟨_, List.getElem?_eq_getElem hkl⟩
          have hzl := hlx.out z (List.mem_of_getElem? hz)
          obtain ⟨a', cap', vb', vo', e, r2, r3, r4⟩ := hv.out wr hf
          simp only [Value.slice.injEq] at e
          obtain ⟨rfl, -, rfl⟩ := e
          obtain ⟨hid1, hce⟩ := row_at1 (P := Try.prog) (t := 22) (by kernel_rfl) (fun _ => by kernel_rfl) (by simp) r3 r4 (Below.refl _ _) cap k hkl (u := iv z) (by simp [hz])
          have hvl : vb' < wr.heap.size := (r3 (by omega)).2
          have hkn : keepN l (x.rs k) k = min z.toNat R.length := by unfold keepN; rw [hR9.out, List.getD_eq_getElem?_getD, hz]; rfl
          clear hz r2 r3 r4
          rcases (by omega : z < 0 ∨ (0 ≤ z ∧ z ≤ (R.length : Int)) ∨ (0 ≤ z ∧ (R.length : Int) < z)) with hc | hc | hc
          · have hkn2 : keepN l (x.rs k) k = 0 := by omega
            rw [hkn2] at hnx
            clear hkn hkn2
            go_wp2
            go_region
            go_wp2
            exact ⟨⟨k + 1, by go_num, by omega, by have h9 := ((hset.out L []).alloc (.cells #[sv L, sv R] 66)).drew; rw [← hnx.out]; simpa using h9, (((hf.setCell (Or.inl (Or.inr rfl)) _).setCell (Or.inl (Or.inr rfl)) _).alloc _).drew⟩, by simp [intOf]; omega⟩
          · obtain ⟨hc0, hc9⟩ := hc
            obtain ⟨m, rfl⟩ : ∃ m : Nat, z = (m : Int) := ⟨z.toNat, by omega⟩
            have hkn2 : keepN l (x.rs k) k = m := by omega
            have hmR : m ≤ R.length := by omega
            have hc1 := hcl.out m hmR
            have hx1 := hex.out m
            have hdz : decide ((R.length : Int) < (m : Int)) = false := by simp; omega
            rw [hkn2] at hnx
            clear hkn hkn2
            go_wp2
            go_region
            go_wp2
            exact ⟨⟨k + 1, by go_num, by omega, by have h9 := ((hset.out (L ++ R.take m) []).alloc (.cells #[sv L, sv R] 66)).drew; rw [← hnx.out]; exact h9, (((hf.setCell (Or.inl (Or.inr rfl)) _).setCell (Or.inl (Or.inr rfl)) _).alloc _).drew⟩, by simp [intOf]; omega⟩
          · obtain ⟨hc0, hc9⟩ := hc
            have hkn2 : keepN l (x.rs k) k = R.length := by omega
            have hc1 := hcl.out R.length (Nat.le_refl _)
            have hx1 := hex.out R.length
            have htk : R.take R.length = R := List.take_length
            rw [htk] at hc1 hx1
            rw [hkn2, htk] at hnx
            clear hkn hkn2 htk
            go_wp2
            go_region
            go_wp2
            exact ⟨⟨k + 1, by go_num, by omega, by have h9 := ((hset.out (L ++ R) []).alloc (.cells #[sv L, sv R] 66)).drew; rw [← hnx.out]; exact h9, (((hf.setCell (Or.inl (Or.inr rfl)) _).setCell (Or.inl (Or.inr rfl)) _).alloc _).drew⟩, by simp [intOf]; omega⟩
      · have hk8 : k = 8 := by omega
        subst hk8
        have h9 := hid hr.last
        clear hr
        go_wp2
        go_end0
        exact ⟨rfl, h9.out, hf⟩
end Go.Proofs.Ytdapjoapndemkaa
