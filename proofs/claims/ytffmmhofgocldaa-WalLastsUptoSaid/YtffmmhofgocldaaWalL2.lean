/- Chapter 06 (wal): file, rows. -/
import Derived.Test.YtffmmhofgocldaaWalL1
import Derived.Test.YtffmmhofgocldaaWalP
set_option linter.unusedVariables false
namespace Go.Proofs.Ytffmmhofgocldaa
open Go.RowKit
open Go.Lib (hid byteCells)
theorem rows_nil : rowsOf [] = [] := rows_recs [] (fun p hp => by simp at hp)
theorem take_pay {l : List (List UInt8)} (h : Pay l) (k : Nat) : Pay (l.take k) := fun p hp => h p (List.mem_of_mem_take hp)
theorem recs_take1 {m : List (List UInt8)} {k : Nat} {x : List UInt8} (h : m[k]? = some x) : (recs (m.take k)).length + (recF x).length ≤ (recs m).length := by
  have := recs_take_le m (k + 1)
  rwa [recs_take h, List.length_append] at this
set_option maxHeartbeats 4000000 in
set_option maxRecDepth 100000 in
theorem file_any (l : List (List UInt8)) (v : Value) (w : World) (hv : StrsR w v l) (hp : Pay l) (hn : l.length ≤ 1000000) (hX : (recs l).length ≤ 16777216) :
    Calls Try.prog 8 #[v] w fun e w' => e = .returned (.tuple #[sv (recs l), .bool true]) ∧ Below w.heap.size w w' := by
  have hnew := hid (new_any w)
  obtain ⟨a, c, rfl⟩ := hv.slice
  replace hv := hid hv
  generalize hBB : w.heap.size = B at *
  go_enter Try.func8, Try.ntmps8
  go_wp2_with fail
  refine hnew.out.mono ?_
  rintro e w1 ⟨rfl, hd, hb, hs1⟩
  have hS : DSt (from_ B) B dNew w1 := ⟨hd, fun k hk => by unfold from_; omega⟩
  have hB := hid hb
  clear hnew hd hb
  obtain ⟨o1, o2, o3⟩ := calm_new.opn (f := 0) (by decide)
  have hcall := dst_opens (f := 0) hS (by decide) o1
  have hr0 : rowsOf (dNew.data 0) = [] := rows_nil
  rw [hr0] at hcall
  have hd0 : (opn2 0 dNew).data 0 = [] := by rw [o3, hr0]; rfl
  generalize opn2 0 dNew = d1 at *
  replace hcall := hid hcall
  clear hS hr0 o3 o1
  go_wp2_with fail
  refine hcall.out.mono ?_
  rintro e w2 ⟨b, rfl, hW, hf⟩
  replace hB := hid (hB.out.trans (fr_from hf (fun _ h => h) (by omega)))
  replace hW := hid hW
  replace o2 := hid o2
  replace hd0 := hid hd0
  clear hcall hf
  go_wp2_with fail
  go_loopw [7] (fun i wr => ∃ (k : Nat) (d : DS), i = .int .i64 k ∧ k ≤ l.length ∧ Hid (Calm d) ∧ Hid (d.data 0 = recs (l.take k)) ∧ Hid (WSt (from_ B) B b 0 (l.take k) d wr) ∧ Hid (Below B w wr)) (fun i _ => l.length - (intOf i).toNat)
  case atStart => exact ⟨0, d1, rfl, Nat.zero_le _, o2, hd0, hW, hB⟩
  case round =>
    clear o2 hd0 hW hB
    obtain ⟨k, d, rfl, hk, hc, hd0, hW, hB⟩ := hrel
    have hBw : B ≤ wr.heap.size := by have := hB.out.size; rw [hBB] at this; exact this
    by_cases hlt : k < l.length
    · have q1 : decide ((k : Int) < (l.length : Int)) = true := decide_eq_true (by omega)
      have q1' : decide (k < l.length) = true := decide_eq_true hlt
      obtain ⟨x, hx⟩ : ∃ x, l[k]? = some x := ⟨_, List.getElem?_eq_getElem hlt⟩
      obtain ⟨g, o, hidx, hcell⟩ := strs_at (hv.out.below (hBB ▸ hB.out)) hx
      have hxp := hp x (List.mem_of_getElem? hx)
      have hrt := recs_take1 hx
      obtain ⟨a1, a2, a3⟩ := hc.out.wapp (f := 0) (by decide) x hxp (by rw [hd0.out]; omega)
      have hcall := wst_append hW.out x (by rw [List.length_take]; omega) (by omega)
      have hwr : wrow x (l.take k) 0 = l.take (k + 1) := by rw [List.take_add_one, hx]; rfl
      rw [a1, hwr] at hcall
      rw [hd0.out] at a3
      have hd1 : (wapp2 0 x d).data 0 = recs (l.take (k + 1)) := by rw [a3, upd_same]; exact (recs_take hx).symm
      generalize wapp2 0 x d = d2 at *
      replace hcall := hid hcall
      replace a2 := hid a2
      replace hd1 := hid hd1
      clear a3 hx hwr hW hc hd0 a1
      go_wp2_with fail
      refine hcall.out.mono ?_
      rintro e w3 ⟨rfl, hW, hf⟩
      replace hB := hid (hB.out.trans (fr_from hf (fun _ h => h) hBw))
      replace hW := hid hW
      clear hcall hf hidx hcell
      go_wp2_with fail
      exact ⟨⟨k + 1, d2, by go_num, by omega, a2, hd1, hW, hB⟩, by simp [intOf]; omega⟩
    · have hkl : k = l.length := by omega
      subst hkl
      have hd1 := hd0.out
      rw [List.take_length] at hd1
      obtain ⟨r1, r2⟩ := hc.out.read (f := 0) (by decide)
      have hcall := read_any (from_ B) B d ((0 : Nat) : Int) wr hW.out.dst.1
      rw [r1, r2, hd1] at hcall
      replace hcall := hid hcall
      clear hd1 r1 r2 hd0 hW hc
      go_wp2_with fail
      refine hcall.out.mono ?_
      rintro e w3 ⟨rfl, rfl⟩
      clear hcall
      go_wp2_with fail
      go_ret2
      exact ⟨rfl, hB.out⟩
set_option maxHeartbeats 4000000 in
set_option maxRecDepth 100000 in
theorem rows_any (s : List UInt8) (w : World) (hs : s.length ≤ 1000000) :
    Calls Try.prog 9 #[sv s] w fun e w' => ∃ v', e = .returned (.tuple #[v', .bool true]) ∧ w'.ownsRow w.heap.size 9 1 v' (rowsOf s).length ((rowsOf s).map sv) ∧ Below w.heap.size w w' := by
  have hnew := hid (new_any w)
  have hrn : (rowsOf s).length ≤ 1000000 := by
    obtain ⟨r, e, _, _⟩ := rows_spec s
    have h1 := recs_len_ge (rowsOf s)
    have h2 := congrArg List.length e
    rw [List.length_append] at h2
    omega
  generalize hBB : w.heap.size = B at *
  go_enter Try.func9, Try.ntmps9
  go_wp2_with fail
  refine hnew.out.mono ?_
  rintro e w1 ⟨rfl, hd, hb, hs1⟩
  have hS : DSt (from_ B) B dNew w1 := ⟨hd, fun k hk => by unfold from_; omega⟩
  have hB := hid hb
  obtain ⟨p1, p2⟩ := calm_new.app (f := 0) (by decide) s (by simp [dNew]; omega)
  have hcall := append_any (from_ B) B dNew ((0 : Nat) : Int) s w1 hd (by omega)
  have hst := dst_disk hS
  rw [p1, p2] at hcall
  replace hcall := hid hcall
  replace hst := hid hst
  clear hnew hd hb hS p1 p2
  go_wp2_with fail
  refine hcall.out.mono ?_
  rintro e w2 h2
  obtain ⟨rfl, hS2, hf⟩ := hst.out _ _ _ _ h2
  replace hB := hid (hB.out.trans (fr_from hf (fun _ h => h) (by omega)))
  have hsz2 := hf.size
  clear hcall hst h2 hf
  have hc2 : Calm { dNew with data := upd dNew.data 0 (dNew.data 0 ++ s) } := ⟨rfl, rfl, rfl⟩
  have hdd : ({ dNew with data := upd dNew.data 0 (dNew.data 0 ++ s) } : DS).data 0 = s := by show upd dNew.data 0 (dNew.data 0 ++ s) 0 = s; rw [upd_same]; rfl
  have ho := (hc2.opn (f := 0) (by decide)).1
  have hcall := dst_opens (f := 0) hS2 (by decide) ho
  rw [hdd] at hcall
  generalize opn2 0 { dNew with data := upd dNew.data 0 (dNew.data 0 ++ s) } = d2 at *
  replace hcall := hid hcall
  clear hc2 hdd ho hS2
  go_wp2_with fail
  refine hcall.out.mono ?_
  rintro e w3 ⟨b, rfl, hW, hf⟩
  replace hB := hid (hB.out.trans (fr_from hf (fun _ h => h) (by omega)))
  have hsz3 := hf.size
  clear hcall hf
  have hcall := hid (wst_all hW hrn)
  clear hW
  go_wp2_with fail
  refine hcall.out.mono ?_
  rintro e w4 ⟨v', rfl, hown, hb4⟩
  replace hB := hid (hB.out.trans (hb4.mono (by omega)))
  have hown2 : w4.ownsRow B 9 1 v' (rowsOf s).length ((rowsOf s).map sv) := owns_move hown (fun _ _ => rfl) (fun k hk => Nat.le_trans (by omega) (hown.lt k hk).1)
  obtain ⟨a', c', rfl, -, -⟩ := owns_form hown
  replace hown2 := hid hown2
  clear hcall hown hb4
  go_wp2_with fail
  go_ret2
  exact ⟨_, rfl, hown2.out, hB.out⟩
end Go.Proofs.Ytffmmhofgocldaa
