/- Chapter 06 (wal): a Log and its Disk in the law's own memory; the example 'small'. -/
import Derived.Test.YtffmmhofgocldaaWalL0
import Derived.Test.YtffmmhofgocldaaWalS
set_option linter.unusedVariables false
namespace Go.Proofs.Ytffmmhofgocldaa
open Go.RowKit
open Go.Lib (hid byteCells)
/-- a Disk in the memory S, which holds all new memory -/
def DSt (S : Foot) (db : Nat) (d : DS) (w : World) : Prop := DkD S db d w ∧ ∀ k, w.heap.size ≤ k → S k
def WSt (S : Foot) (db b f : Nat) (rows : List (List UInt8)) (d : DS) (w : World) : Prop := ∃ v, DkD S db d w ∧ LV b db f v rows w ∧ (∀ k, footL v b k → S k) ∧ ∀ k, w.heap.size ≤ k → S k
section
variable {S : Foot} {db b f : Nat} {rows : List (List UInt8)} {d : DS} {w w' : World}
theorem WSt.dst (h : WSt S db b f rows d w) : DSt S db d w := by obtain ⟨v, h1, h2, h3, h4⟩ := h; exact ⟨h1, h4⟩
theorem DSt.below (h : DSt S db d w) (hb : Below w.heap.size w w') : DSt S db d w' := ⟨h.1.fr (Fr.of_below hb (fun _ => False)) (fun _ _ h => h), fun k hk => h.2 k (Nat.le_trans hb.size hk)⟩
theorem WSt.below (h : WSt S db b f rows d w) (hb : Below w.heap.size w w') : WSt S db b f rows d w' := by
  obtain ⟨v, h1, h2, h3, h4⟩ := h
  exact ⟨v, h1.fr (Fr.of_below hb (fun _ => False)) (fun _ _ h => h), h2.below hb, h3, fun k hk => h4 k (Nat.le_trans hb.size hk)⟩
/-- what was laid since w stays apart -/
abbrev but (S : Foot) (m n : Nat) : Foot := fun k => S k ∧ ¬ (m ≤ k ∧ k < n)
theorem WSt.shrink (h : WSt S db b f rows d w) (hb : Below w.heap.size w w') : WSt (but S w.heap.size w'.heap.size) db b f rows d w' := by
  obtain ⟨v, h1, h2, h3, h4⟩ := h
  exact ⟨v, (h1.mono (fun k hk hs => ⟨hs, fun h => by omega⟩)).fr (Fr.of_below hb (fun _ => False)) (fun _ _ h => h), h2.below hb, fun k hk => ⟨h3 k hk, fun h => by have := h2.foot_lt hk; omega⟩, fun k hk => ⟨h4 k (Nat.le_trans hb.size hk), fun h => by omega⟩⟩
theorem WSt.mono (h : WSt S db b f rows d w) {T : Foot} (hS : ∀ k, S k → T k) : WSt T db b f rows d w := by
  obtain ⟨v, h1, h2, h3, h4⟩ := h
  exact ⟨v, h1.mono (fun k _ hk => hS k hk), h2, fun k hk => hS k (h3 k hk), fun k hk => hS k (h4 k hk)⟩
theorem LP.wst {v : Value} {r : Value} {d' : DS} {rows' : List (List UInt8)} {e : Ending} (h : LP S b db f v w r d' rows' e w') (hv : ∀ k, footL v b k → S k) (hB : ∀ k, w.heap.size ≤ k → S k) : e = .returned r ∧ WSt S db b f rows' d' w' ∧ Fr S w w' := by
  obtain ⟨he, F', v', h1, h2, h3, h4, h5⟩ := h
  refine ⟨he, ⟨v', h1.mono (fun k _ hk => ?_), h2, fun k hk => ?_, fun k hk => hB k (Nat.le_trans h3.size hk)⟩, h3.mono (fun k hk hs => ?_)⟩
  · rcases h4 k hk with h | h
    · exact h
    · exact hB k h
  · rcases h5 k hk with h | h
    · exact hv k h
    · exact hB k h
  · rcases hs with h | h
    · exact h
    · exact hv k h
theorem fr_from {B : Nat} (h : Fr S w w') (hS : ∀ k, S k → B ≤ k) (hB : B ≤ w.heap.size) : Below B w w' := h.to_below hB (fun k hk hs => by have := hS k hs; omega)
theorem wst_append (h : WSt S db b f rows d w) (s : List UInt8) (hn : rows.length ≤ 1000000) (hs : s.length ≤ 140737488355328) :
    Calls Try.prog 19 #[pt b, sv s] w fun e w' => e = .returned (iv (wapp1 f s d)) ∧ WSt S db b f (wrow s rows (wapp1 f s d)) (wapp2 f s d) w' ∧ Fr S w w' := by
  obtain ⟨v, h1, h2, h3, h4⟩ := h
  exact (lappend_any S b db f v rows d s w h1 h2 hn hs).mono fun e w' h => h.wst h3 h4
/-- the rows lie outside the Log's and the Disk's memory -/
theorem wst_rewrite (h : WSt S db b f rows d w) (m : List (List UInt8)) (mv : Value) (hf : f ≤ 6) (hn : m.length ≤ 1000000) (hp : Pay m) (hX : (recs m).length ≤ 100000000) (hm : ∀ w', Fr S w w' → StrsR w' mv m) :
    Calls Try.prog 17 #[pt b, mv] w fun e w' => e = .returned (iv (rew1 f m d)) ∧ WSt S db b f (rewR f m rows d) (rew2 f m d) w' ∧ Fr S w w' := by
  obtain ⟨v, h1, h2, h3, h4⟩ := h
  refine (rewrite_any S b db f v rows m mv d w h1 h2 hf hn hp hX (fun w' hf => hm w' (hf.mono (fun k _ hs => hs.elim id (h3 k))))).mono fun e w' h => h.wst h3 h4
theorem wst_flush (h : WSt S db b f rows d w) :
    Calls Try.prog 20 #[pt b] w fun e w' => e = .returned (iv (flush1 f d)) ∧ WSt S db b f rows (flush2 f d) w' ∧ Fr S w w' := by
  obtain ⟨v, h1, h2, h3, h4⟩ := h
  obtain ⟨G, g1, g2, g3⟩ := DL.next (DL.start h1 h2)
  refine (lflush_any G b db f v rows d w g1 g2).mono fun e w' h => ?_
  obtain ⟨rfl, h5⟩ := g3 _ _ _ _ h
  exact LP.wst (h5.lp _) h3 h4
theorem wst_all (h : WSt S db b f rows d w) (hn : rows.length ≤ 1000000) :
    Calls Try.prog 15 #[pt b] w fun e w' => ∃ v', e = .returned v' ∧ w'.ownsRow w.heap.size 9 1 v' rows.length (rows.map sv) ∧ Below w.heap.size w w' := by
  obtain ⟨v, h1, h2, h3, h4⟩ := h
  exact all_any b db f v rows w h2 hn
theorem wst_len (h : WSt S db b f rows d w) : Calls Try.prog 27 #[pt b] w fun e w' => e = .returned (iv rows.length) ∧ w = w' := by
  obtain ⟨v, h1, h2, h3, h4⟩ := h
  exact len_any b db f v rows w h2
/-- a call of the Disk's own, beside the Log -/
theorem wst_disk (h : WSt S db b f rows d w) : ∃ G : Foot, DkD G db d w ∧ (∀ k, G k → S k) ∧ ∀ r d' e w2, DPD G db w r d' e w2 → e = .returned r ∧ WSt S db b f rows d' w2 ∧ Fr S w w2 := by
  obtain ⟨v, h1, h2, h3, h4⟩ := h
  obtain ⟨G, k1, k2, k3, k4⟩ := dk_exact h1
  refine ⟨G, k1, k2, fun r d' e w2 ⟨he, F2, m1, m2, m3⟩ => ?_⟩
  have hl2 := h2.fr m2 (k4 b db f v rows h2)
  refine ⟨he, ⟨v, m1.mono (fun k _ hk => (m3 k hk).elim (k2 k) (h4 k)), hl2, h3, fun k hk => h4 k (Nat.le_trans m2.size hk)⟩, m2.mono (fun k _ hk => k2 k hk)⟩
theorem dst_disk (h : DSt S db d w) : ∀ r d' e w2, DPD S db w r d' e w2 → e = .returned r ∧ DSt S db d' w2 ∧ Fr S w w2 := fun r d' e w2 ⟨he, F2, m1, m2, m3⟩ =>
  ⟨he, ⟨m1.mono (fun k _ hk => (m3 k hk).elim id (h.2 k)), fun k hk => h.2 k (Nat.le_trans m2.size hk)⟩, m2⟩
theorem dst_open (h : DSt S db d w) (hf : f ≤ 6) :
    Calls Try.prog 14 #[pt db, iv f] w fun e w' => Fr S w w' ∧ DSt S db (opn2 f d) w' ∧
      ((opn1 f d = 0 ∧ ∃ b, e = .returned (.tuple #[pt b, iv 0]) ∧ WSt S db b f (rowsOf (d.data f)) (opn2 f d) w') ∨ (opn1 f d ≠ 0 ∧ e = .returned (.tuple #[.pointer none, iv (opn1 f d)]))) := by
  have hc : Calls Try.prog 14 #[pt db, iv f] w (OP S db f d w) := by
    by_cases hr : read1 f d = 0
    · exact open_ok _ db f d w h.1 hf hr
    · exact open_fail _ db f d w h.1 hf hr
  refine hc.mono fun e w' ⟨F', h1, h2, h3, h4⟩ => ?_
  have hd : DkD S db (opn2 f d) w' := h1.mono (fun k _ hk => by
    rcases h3 k hk with h9 | h9
    · exact h9
    · exact h.2 k h9)
  have hsz : ∀ k, w'.heap.size ≤ k → S k := fun k hk => h.2 k (Nat.le_trans h2.size hk)
  refine ⟨h2, ⟨hd, hsz⟩, ?_⟩
  rcases h4 with ⟨h5, b, v, he, h6, h7⟩ | ⟨h5, he⟩
  · exact Or.inl ⟨h5, b, he, v, hd, h6, fun k hk => h.2 k (h7 k hk), hsz⟩
  · exact Or.inr ⟨h5, he⟩
/-- an Open that succeeds -/
theorem dst_opens (h : DSt S db d w) (hf : f ≤ 6) (h0 : opn1 f d = 0) :
    Calls Try.prog 14 #[pt db, iv f] w fun e w' => ∃ b, e = .returned (.tuple #[pt b, iv 0]) ∧ WSt S db b f (rowsOf (d.data f)) (opn2 f d) w' ∧ Fr S w w' := by
  refine (dst_open h hf).mono fun e w' ⟨h1, h2, h3⟩ => ?_
  rcases h3 with ⟨_, b, he, h4⟩ | ⟨h5, _⟩
  · exact ⟨b, he, h4, h1⟩
  · exact absurd h0 h5
end
theorem dst_new {w w1 : World} (hd : DkD (from_ w.heap.size) w.heap.size dNew w1) (hs : w.heap.size ≤ w1.heap.size) : DSt (from_ w.heap.size) w.heap.size dNew w1 := ⟨hd, fun k hk => Nat.le_trans hs hk⟩
theorem own_strs {w : World} {base : Nat} {v : Value} {l : List (List UInt8)} (h : w.ownsRow base 9 1 v l.length (l.map sv)) : StrsR w v l := Row.of_owns h
theorem own_cap {w : World} {base : Nat} {v : Value} {l : List (List UInt8)} (h : w.ownsRow base 9 1 v l.length (l.map sv)) : ∀ a n c, v = .slice a n c → n ≤ c := fun a n c e => by
  obtain ⟨a', c', e2, h3, _⟩ := owns_form h
  rw [e2] at e
  simp only [Value.slice.injEq] at e
  omega
theorem own_fr {S : Foot} {w w' : World} {base : Nat} {v : Value} {l : List (List UInt8)} (h : w.ownsRow base 9 1 v l.length (l.map sv)) (hf : Fr S w w') (hs : ∀ k, v.ownBlock = some k → ¬ S k) : w'.ownsRow 0 9 1 v l.length (l.map sv) :=
  owns_move h (fun k hk => hf.block k (h.lt k hk).2 (hs k hk)) (fun _ _ => Nat.zero_le _)
/-- a literal's row -/
theorem lit_strs {w : World} {b : Nat} {l : List (List UInt8)} {t : TypeId} (h : w.heap[b]? = some (.cells (l.map sv).toArray t (0, 0))) (n : Nat) (hn : n = l.length) : StrsR w (.slice (some ⟨b, 0, none⟩) n n) l := by
  subst hn
  refine ⟨_, _, b, 0, rfl, by simp, fun _ => ⟨rfl, lt_of_heap h⟩, fun j hj => ?_⟩
  rw [Nat.zero_add, cell_of h]; simp
theorem lit_new (w : World) (l : List (List UInt8)) (n : Nat) (hn : n = l.length) (t : TypeId) : StrsR (w.alloc (.cells (l.map sv).toArray t)) (.slice (some ⟨w.heap.size, 0, none⟩) n n) l := lit_strs (heap_alloc_new' _ _) n hn
set_option maxHeartbeats 4000000 in
set_option maxRecDepth 100000 in
theorem small_any (w : World) : Calls Try.prog 7 #[] w fun e w' => e = .returned (.bool true) ∧ Below w.heap.size w w' := by
  have hnew := hid (new_any w)
  generalize hBB : w.heap.size = B at *
  go_enter Try.func7, Try.ntmps7
  go_wp2_with fail
  refine hnew.out.mono ?_
  rintro e w1 ⟨rfl, hd, hb, hs1⟩
  have hS : DSt (from_ B) B dNew w1 := ⟨hd, fun k hk => by unfold from_; omega⟩
  have hB := hid hb
  clear hnew hd hb
  have hcall := hid (dst_opens (f := 2) hS (by decide) sk1)
  clear hS
  go_wp2_with fail
  refine hcall.out.mono ?_
  rintro e w2 ⟨b1, rfl, hW, hb2⟩
  rw [sr1] at hW
  replace hB := hid (hB.out.trans (fr_from hb2 (fun _ h => h) (by have := hB.out.size; rw [hBB] at this; exact this)))
  replace hW := hid hW
  clear hcall hb2
  have hcall := hid (open_arg (some ⟨B, 0, none⟩) 7 w2 (Or.inr (Or.inr (by decide))))
  go_wp2_with fail
  refine hcall.out.mono ?_
  rintro e w3 ⟨rfl, rfl⟩
  clear hcall
  have hcall := hid (open_arg none 2 w2 (Or.inl rfl))
  go_wp2_with fail
  refine hcall.out.mono ?_
  rintro e w3 ⟨rfl, rfl⟩
  clear hcall
  have hcall := wst_append hW.out [97] (by decide) (by decide)
  have e2 : wapp2 2 [97] (opn2 2 dNew) = sd2 := rfl
  have e1 : wapp1 2 [97] (opn2 2 dNew) = 0 := sk2
  rw [e1, e2] at hcall
  replace hcall := hid hcall
  clear e1 e2 hW
  go_wp2_with fail
  refine hcall.out.mono ?_
  rintro e w3 ⟨rfl, hW, hb3⟩
  replace hB := hid (hB.out.trans (fr_from hb3 (fun _ h => h) (by have := hB.out.size; rw [hBB] at this; exact this)))
  replace hW := hid (show WSt (from_ B) B b1 2 [[97]] sd2 w3 from hW)
  clear hcall hb3
  have hcall := wst_flush hW.out
  have e2 : flush2 (2 : Nat) sd2 = sd3 := rfl
  have e1 : flush1 (2 : Nat) sd2 = 0 := sk3
  rw [e1, e2] at hcall
  replace hcall := hid hcall
  clear e1 e2 hW
  go_wp2_with fail
  refine hcall.out.mono ?_
  rintro e w4 ⟨rfl, hW, hb4⟩
  replace hB := hid (hB.out.trans (fr_from hb4 (fun _ h => h) (by have := hB.out.size; rw [hBB] at this; exact this)))
  replace hW := hid hW
  clear hcall hb4
  have hcall := wst_append hW.out [98] (by decide) (by decide)
  have e2 : wapp2 2 [98] sd3 = sd4 := rfl
  have e1 : wapp1 2 [98] sd3 = 0 := sk4
  rw [e1, e2] at hcall
  replace hcall := hid hcall
  clear e1 e2 hW
  go_wp2_with fail
  refine hcall.out.mono ?_
  rintro e w5 ⟨rfl, hW, hb5⟩
  replace hB := hid (hB.out.trans (fr_from hb5 (fun _ h => h) (by have := hB.out.size; rw [hBB] at this; exact this)))
  replace hW := hid (show WSt (from_ B) B b1 2 [[97], [98]] sd4 w5 from hW)
  clear hcall hb5
  have hcall := hid (wst_len hW.out)
  go_wp2_with fail
  refine hcall.out.mono ?_
  rintro e w6 ⟨rfl, rfl⟩
  clear hcall
  obtain ⟨G, hdG, -, hst⟩ := wst_disk hW.out
  have hcall := hid (crash_any G B sd4 [] (.slice none 0 0) w5 hdG (Row.nil _ _ _ _) (by decide) (by simp))
  replace hst := hid hst
  clear hdG hW
  go_wp2_with fail
  refine hcall.out.mono ?_
  rintro e w6 h6
  obtain ⟨rfl, hW, hb6⟩ := hst.out _ _ _ _ h6
  replace hB := hid (hB.out.trans (fr_from hb6 (fun _ h => h) (by have := hB.out.size; rw [hBB] at this; exact this)))
  clear hcall hst h6 hb6
  have hcall := wst_append hW [99] (by decide) (by decide)
  have e2 : wapp2 2 [99] (dCrash [] sd4) = sd6 := rfl
  have e1 : wapp1 2 [99] (dCrash [] sd4) = 12 := sk6
  rw [e1, e2] at hcall
  replace hcall := hid hcall
  clear e1 e2 hW
  go_wp2_with fail
  refine hcall.out.mono ?_
  rintro e w7 ⟨rfl, hW, hb7⟩
  replace hB := hid (hB.out.trans (fr_from hb7 (fun _ h => h) (by have := hB.out.size; rw [hBB] at this; exact this)))
  have hS := hW.dst
  clear hcall hb7 hW
  have hcall := hid (start_any (from_ B) B sd6 w7 hS.1)
  replace hS := hid hS
  go_wp2_with fail
  refine hcall.out.mono ?_
  rintro e w8 h8
  obtain ⟨rfl, hS8, hb8⟩ := dst_disk hS.out _ _ _ _ h8
  replace hB := hid (hB.out.trans (fr_from hb8 (fun _ h => h) (by have := hB.out.size; rw [hBB] at this; exact this)))
  clear hcall hS h8 hb8
  have hcall := hid (dst_opens (f := 2) (show DSt (from_ B) B sd7 w8 from hS8) (by decide) sk8)
  rw [sr8] at hcall
  clear hS8
  go_wp2_with fail
  refine hcall.out.mono ?_
  rintro e w9 ⟨b2, rfl, hW, hb9⟩
  replace hB := hid (hB.out.trans (fr_from hb9 (fun _ h => h) (by have := hB.out.size; rw [hBB] at this; exact this)))
  replace hW := hid hW
  clear hcall hb9
  have hcall := hid (wst_all hW.out (by decide))
  go_wp2_with fail
  refine hcall.out.mono ?_
  rintro e w10 ⟨va, rfl, hall, hb10⟩
  obtain ⟨aa, ca, rfl, -, -⟩ := owns_form hall
  have hs9 : B ≤ w9.heap.size := by have := hB.out.size; rw [hBB] at this; exact this
  have hs10 := hb10.size
  have hb10' : Below w9.heap.size w9 (w10.alloc (.cells #[.string ⟨#[120]⟩, .string ⟨#[]⟩, .string ⟨#[97]⟩] 9)) := hb10.alloc hs10 _
  have hO11 := own_fr hall ((Fr.refl (fun _ => False) w10).alloc (.cells #[.string ⟨#[120]⟩, .string ⟨#[]⟩, .string ⟨#[97]⟩] 9)) (fun _ _ h => h)
  have hW11 := hW.out.shrink hb10'
  have hlit := heap_alloc_new' w10 (.cells #[.string ⟨#[120]⟩, .string ⟨#[]⟩, .string ⟨#[97]⟩] 9)
  have hsz11 : (w10.alloc (.cells #[.string ⟨#[120]⟩, .string ⟨#[]⟩, .string ⟨#[97]⟩] 9)).heap.size = w10.heap.size + 1 := by simp
  replace hB := hid (hB.out.trans (hb10'.mono hs9))
  have hOn : ∀ k, (Value.slice aa 1 ca).ownBlock = some k → ¬ but (from_ B) w9.heap.size (w10.alloc (.cells #[.string ⟨#[120]⟩, .string ⟨#[]⟩, .string ⟨#[97]⟩] 9)).heap.size k := fun k hk hs => hs.2 ⟨(hall.lt k hk).1, by have := (hall.lt k hk).2; omega⟩
  have hln : ¬ but (from_ B) w9.heap.size (w10.alloc (.cells #[.string ⟨#[120]⟩, .string ⟨#[]⟩, .string ⟨#[97]⟩] 9)).heap.size w10.heap.size := fun hs => hs.2 ⟨hs10, by omega⟩
  have hSB : ∀ k, but (from_ B) w9.heap.size (w10.alloc (.cells #[.string ⟨#[120]⟩, .string ⟨#[]⟩, .string ⟨#[97]⟩] 9)).heap.size k → B ≤ k := fun k hk => hk.1
  generalize but (from_ B) w9.heap.size (w10.alloc (.cells #[.string ⟨#[120]⟩, .string ⟨#[]⟩, .string ⟨#[97]⟩] 9)).heap.size = S at *
  have hcall2 := wst_rewrite hW11 sm (.slice (some ⟨w10.heap.size, 0, none⟩) 3 3) (by decide) (by decide) (by intro p hp; simp [sm] at hp; rcases hp with rfl | rfl | rfl <;> decide) (by decide +kernel) (fun w' hf => lit_strs (l := sm) (hf.keep hlit hln) 3 rfl)
  have e2 : rew2 2 sm (opn2 2 sd7) = sd9 := rfl
  have e1 : rew1 2 sm (opn2 2 sd7) = 0 := sk9
  rw [e1, e2] at hcall2
  replace hcall2 := hid hcall2
  replace hO11 := hid hO11
  replace hOn := hid hOn
  replace hSB := hid hSB
  clear e1 e2 hall hcall hb10 hb10' hW hW11 hlit hln hs10 hsz11 hs9
  go_wp2_with fail
  generalize w10.alloc (.cells #[.string ⟨#[120]⟩, .string ⟨#[]⟩, .string ⟨#[97]⟩] 9) = w11 at *
  refine hcall2.out.mono ?_
  rintro e w12 ⟨rfl, hW, hf⟩
  have hO12 := hid (own_fr (l := [[97]]) hO11.out hf hOn.out)
  replace hB := hid (hB.out.trans (fr_from hf hSB.out (by have := hB.out.size; rw [hBB] at this; exact this)))
  have hS := hid hW.dst
  clear hcall2 hf hW hO11
  have hcall := hid (crash_any S B sd9 [] (.slice none 0 0) w12 hS.out.1 (Row.nil _ _ _ _) (by decide) (by simp))
  go_wp2_with fail
  refine hcall.out.mono ?_
  rintro e w13 h
  obtain ⟨rfl, hS13, hf⟩ := dst_disk hS.out _ _ _ _ h
  have hO13 := hid (own_fr (l := [[97]]) hO12.out hf hOn.out)
  replace hB := hid (hB.out.trans (fr_from hf hSB.out (by have := hB.out.size; rw [hBB] at this; exact this)))
  replace hS13 := hid hS13
  clear hcall h hf hO12 hS
  have hcall := hid (start_any S B sd10 w13 hS13.out.1)
  go_wp2_with fail
  refine hcall.out.mono ?_
  rintro e w14 h
  obtain ⟨rfl, hS14, hf⟩ := dst_disk hS13.out _ _ _ _ h
  have hO14 := hid (own_fr (l := [[97]]) hO13.out hf hOn.out)
  replace hB := hid (hB.out.trans (fr_from hf hSB.out (by have := hB.out.size; rw [hBB] at this; exact this)))
  clear hcall h hf hO13 hS13
  have hcall := hid (dst_opens (f := 2) (show DSt S B sd11 w14 from hS14) (by decide) sk12)
  rw [sr12] at hcall
  clear hS14
  go_wp2_with fail
  refine hcall.out.mono ?_
  rintro e w15 ⟨b3, rfl, hW, hf⟩
  have hO15 := own_fr (l := [[97]]) hO14.out hf hOn.out
  replace hB := hid (hB.out.trans (fr_from hf hSB.out (by have := hB.out.size; rw [hBB] at this; exact this)))
  clear hcall hf hO14
  have hsame := same_yes [[97]] (.slice aa 1 ca) (.slice (some ⟨w15.heap.size, 0, none⟩) 1 1) (w15.alloc (.cells #[.string ⟨#[97]⟩] 9)) ((own_strs hO15).below ((Below.refl _ _).alloc (Nat.le_refl _) _)) (lit_new w15 [[97]] 1 rfl 9) (by decide)
  have hB16 : Below w15.heap.size w15 (w15.alloc (.cells #[.string ⟨#[97]⟩] 9)) := (Below.refl _ _).alloc (Nat.le_refl _) _
  have hW16 := hid (hW.below hB16)
  have hB15 : B ≤ w15.heap.size := by have := hB.out.size; rw [hBB] at this; exact this
  replace hB := hid (hB.out.trans (hB16.mono hB15))
  replace hsame := hid hsame
  clear hO15 hW hB16 hOn
  go_wp2_with fail
  generalize w15.alloc (.cells #[.string ⟨#[97]⟩] 9) = w16 at *
  refine hsame.out.mono ?_
  rintro e w17 ⟨rfl, hb17⟩
  have hs16 : B ≤ w16.heap.size := by have := hB.out.size; rw [hBB] at this; exact this
  have hs17 : B ≤ w17.heap.size := Nat.le_trans hs16 hb17.size
  replace hB := hid (hB.out.trans (hb17.mono hs16))
  have hW17 := hid (hW16.out.below hb17)
  clear hsame hW16 hb17
  have hcall := hid (wst_all hW17.out (by decide))
  go_wp2_with fail
  refine hcall.out.mono ?_
  rintro e w18 ⟨vb, rfl, hallb, hb18⟩
  have hs18 : B ≤ w18.heap.size := Nat.le_trans hs17 hb18.size
  replace hB := hid (hB.out.trans (hb18.mono hs17))
  have hB19 : Below w18.heap.size w18 (w18.alloc (.cells #[.string ⟨#[120]⟩, .string ⟨#[]⟩, .string ⟨#[97]⟩] 9)) := (Below.refl _ _).alloc (Nat.le_refl _) _
  have hW19 := hid ((hW17.out.below hb18).below hB19)
  have hsame := hid (same_yes sm vb (.slice (some ⟨w18.heap.size, 0, none⟩) 3 3) (w18.alloc (.cells #[.string ⟨#[120]⟩, .string ⟨#[]⟩, .string ⟨#[97]⟩] 9)) ((own_strs hallb).below hB19) (lit_new w18 sm 3 rfl 9) (by decide))
  replace hB := hid (hB.out.trans (hB19.mono hs18))
  clear hcall hallb hb18 hW17 hB19
  go_wp2_with fail
  generalize w18.alloc (.cells #[.string ⟨#[120]⟩, .string ⟨#[]⟩, .string ⟨#[97]⟩] 9) = w19 at *
  refine hsame.out.mono ?_
  rintro e w20 ⟨rfl, hb20⟩
  have hs19 : B ≤ w19.heap.size := by have := hB.out.size; rw [hBB] at this; exact this
  replace hB := hid (hB.out.trans (hb20.mono hs19))
  have hcall := hid (wst_len (hW19.out.below hb20))
  clear hsame hW19 hb20
  go_wp2_with fail
  refine hcall.out.mono ?_
  rintro e w21 ⟨rfl, rfl⟩
  clear hcall
  go_wp2_with fail
  go_ret
  exact ⟨rfl, hB.out⟩
end Go.Proofs.Ytffmmhofgocldaa
