/- match.Ord, match.Find. -/
import Derived.Test.YtnbhpicmflagcaaDoorMatA
set_option linter.unusedVariables false
namespace Go.Proofs.YtnbhpicmflagcaaDoor
open Go.RowKit
open Go.Lib (hid)
section
variable {α : Type} {p : α → Bool} {l : List α} {k : Nat} {x : α}
theorem first_hit (hx : l[k]? = some x) (hp : p x = true) (hn : ∀ i y, i < k → l[i]? = some y → p y = false) : l.findIdx? p = some k := by
  obtain ⟨h1, h2⟩ := List.getElem?_eq_some_iff.1 hx
  rw [List.findIdx?_eq_some_iff_getElem]
  refine ⟨h1, by rw [h2]; exact hp, fun j hj => ?_⟩
  have := hn j l[j] hj (List.getElem?_eq_getElem (by omega))
  simp [this]
theorem first_miss (hn : ∀ i y, i < l.length → l[i]? = some y → p y = false) : l.findIdx? p = none := by
  rw [List.findIdx?_eq_none_iff]
  intro y hy
  obtain ⟨i, hi⟩ := List.getElem?_of_mem hy
  exact hn i y (List.getElem?_eq_some_iff.1 hi).1 hi
theorem hit_next (hx : l[k]? = some x) (hp : p x = false) (hn : ∀ i y, i < k → l[i]? = some y → p y = false) : ∀ i y, i < k + 1 → l[i]? = some y → p y = false := fun i y hi hy => by
  by_cases e : i = k
  · subst e; rw [hx] at hy; injection hy with hy; rw [← hy]; exact hp
  · exact hn i y (by omega) hy
theorem count_next (hx : l[k]? = some x) : (l.take (k + 1)).countP p = (l.take k).countP p + (if p x then 1 else 0) := by
  rw [List.take_add_one, hx, List.countP_append]
  simp [List.countP_cons]
end
noncomputable def fitB (path name : List UInt8) (args : List Val) (r : Req) : Bool := dec (FitsP r path name args)
noncomputable def ordF (l : List Req) (path name : List UInt8) (args : List Val) : Nat := l.countP (fitB path name args)
noncomputable def fitO (path name : List UInt8) (args : List Val) (ord : Int) (r : Req) : Bool := dec (r.ord = ord ∧ FitsP r path name args)
noncomputable def findF (l : List Req) (path name : List UInt8) (args : List Val) (ord : Int) : Option Nat := l.findIdx? (fitO path name args ord)
def findV (o : Option Nat) : Value := .tuple #[iv (o.getD 0), .bool o.isSome]
set_option maxHeartbeats 4000000 in
set_option maxRecDepth 100000 in
theorem ord_any (l : List Req) (path name : List UInt8) (args : List Val) (hl : ReqsB l) (ha : ValsB args) (S T : Foot) (v va : Value) (w : World) (hR : ReqsR S w l v) (hA : ValsR T w args va) :
    Calls Tryd.prog 13 #[v, sv path, sv name, va] w fun e w' => e = .returned (iv (ordF l path name args)) ∧ Below w.heap.size w w' := by
  obtain ⟨a, c, rfl, -⟩ := hR.slice
  obtain ⟨a', c', rfl, -⟩ := hA.slice
  have hln := hl.1
  replace hR := hid hR
  replace hA := hid hA
  replace hl := hid hl
  replace ha := hid ha
  obtain ⟨res, hres⟩ : ∃ res, res = ordF l path name args := ⟨_, rfl⟩
  rw [← hres]
  replace hres := hid hres
  go_enter Tryd.func13, Tryd.ntmps13
  go_wp2_with fail
  go_loopw [9, 14] (fun n i wr => ∃ k : Nat, i = .int .i64 k ∧ n = iv (((l.take k).countP (fitB path name args) : Nat) : Int) ∧ k ≤ l.length ∧ Below w.heap.size w wr) (fun _ i _ => l.length - (intOf i).toNat)
  case atStart => exact ⟨0, rfl, rfl, Nat.zero_le _, Below.refl _ _⟩
  case round =>
    obtain ⟨k, rfl, rfl, hk, hB⟩ := hrel
    by_cases hlt : k < l.length
    · obtain ⟨x, hx⟩ : ∃ x, l[k]? = some x := ⟨_, List.getElem?_eq_getElem hlt⟩
      obtain ⟨g, o, cs, hidx, hS, hg, hc, hr⟩ := (hR.out.below goodReq hB).at (P := Tryd.prog) (t := 22) (by kernel_rfl) (fun _ => by kernel_rfl) hx
      have hb1 : ∀ o, Below wr.heap.size wr (wr.alloc o) := fun o => (Below.refl _ wr).alloc (Nat.le_refl _) o
      have hcall := hid (fun o => fits_any x path name args (hl.out.2 x (List.mem_of_getElem? hx)) ha.out S T cs _ _ (goodReq.below hr (hb1 o)) ((hA.out.below goodVal hB).below goodVal (hb1 o)))
      have hle : (l.take k).countP (fitB path name args) ≤ l.length := Nat.le_trans List.countP_le_length (by simp; omega)
      have hnx := hid (count_next (p := fitB path name args) hx)
      obtain ⟨a1, k1, rfl, -⟩ := hr
      have c0 := hc 0 _ rfl
      have c1 := hc 1 _ rfl
      have c2 := hc 2 _ rfl
      have c3 := hc 3 _ rfl
      have c4 := hc 4 _ rfl
      have c5 := hc 5 _ rfl
      have c6 := hc 6 _ rfl
      have c7 := hc 7 _ rfl
      rw [Nat.add_zero] at c0
      clear hc hb1
      replace hx := hid hx
      generalize (l.take k).countP (fitB path name args) = m at *
      go_wp2_with fail
      refine (hcall.out _).mono ?_
      rintro e w2 ⟨rfl, hb2⟩
      have hB2 := hB.trans ((((Below.refl _ wr).alloc (Nat.le_refl _) _).trans (hb2.mono (by simp))).mono hB.size)
      clear c0 c1 c2 c3 c4 c5 c6 c7 hcall hb2 hidx
      have e1 : dec (FitsP x path name args) = fitB path name args x := rfl
      rw [e1]
      clear e1
      cases hp : fitB path name args x with
      | true =>
        rw [hp] at hnx
        have hw : IntKind.i64.wrap ((m : Int) + 1) = (((m + 1 : Nat)) : Int) := by rw [i64_wrap_id _ (by omega) (by omega)]; omega
        clear hp
        go_wp2_with fail
        exact ⟨⟨k + 1, by go_num, by rw [hnx.out]; rfl, by omega, hB2⟩, by simp [intOf]; omega⟩
      | false =>
        rw [hp] at hnx
        clear hp
        go_wp2_with fail
        exact ⟨⟨k + 1, by go_num, by rw [hnx.out]; rfl, by omega, hB2⟩, by simp [intOf]; omega⟩
    · have hkl : k = l.length := by omega
      subst hkl
      rw [List.take_length]
      have hfin : l.countP (fitB path name args) = res := hres.out.symm
      rw [hfin]
      clear hfin
      go_wp2_with fail
      go_ret
      exact ⟨rfl, hB⟩
set_option maxHeartbeats 4000000 in
set_option maxRecDepth 100000 in
theorem find_any (l : List Req) (path name : List UInt8) (args : List Val) (ord : Int) (hl : ReqsB l) (ha : ValsB args) (S T : Foot) (v va : Value) (w : World) (hR : ReqsR S w l v) (hA : ValsR T w args va) :
    Calls Tryd.prog 9 #[v, sv path, sv name, va, iv ord] w fun e w' => e = .returned (findV (findF l path name args ord)) ∧ Below w.heap.size w w' := by
  obtain ⟨a, c, rfl, -⟩ := hR.slice
  obtain ⟨a', c', rfl, -⟩ := hA.slice
  have hln := hl.1
  replace hR := hid hR
  replace hA := hid hA
  replace hl := hid hl
  replace ha := hid ha
  obtain ⟨res, hres⟩ : ∃ res, res = findF l path name args ord := ⟨_, rfl⟩
  rw [← hres]
  replace hres := hid hres
  go_enter Tryd.func9, Tryd.ntmps9
  go_wp2_with fail
  go_loopw [16] (fun i wr => ∃ k : Nat, i = .int .i64 k ∧ k ≤ l.length ∧ Hid (∀ i y, i < k → l[i]? = some y → fitO path name args ord y = false) ∧ Below w.heap.size w wr) (fun i _ => l.length - (intOf i).toNat)
  case atStart => exact ⟨0, rfl, Nat.zero_le _, hid (fun i y h => absurd h (by omega)), Below.refl _ _⟩
  case round =>
    obtain ⟨k, rfl, hk, hn, hB⟩ := hrel
    by_cases hlt : k < l.length
    · obtain ⟨x, hx⟩ : ∃ x, l[k]? = some x := ⟨_, List.getElem?_eq_getElem hlt⟩
      obtain ⟨g, o, cs, hidx, hS, hg, hc, hr⟩ := (hR.out.below goodReq hB).at (P := Tryd.prog) (t := 22) (by kernel_rfl) (fun _ => by kernel_rfl) hx
      have hb1 : ∀ o, Below wr.heap.size wr (wr.alloc o) := fun o => (Below.refl _ wr).alloc (Nat.le_refl _) o
      have hcall := hid (fun o => fits_any x path name args (hl.out.2 x (List.mem_of_getElem? hx)) ha.out S T cs _ _ (goodReq.below hr (hb1 o)) ((hA.out.below goodVal hB).below goodVal (hb1 o)))
      obtain ⟨a1, k1, rfl, -⟩ := hr
      have c0 := hc 0 _ rfl
      have c1 := hc 1 _ rfl
      have c2 := hc 2 _ rfl
      have c3 := hc 3 _ rfl
      have c4 := hc 4 _ rfl
      have c5 := hc 5 _ rfl
      have c6 := hc 6 _ rfl
      have c7 := hc 7 _ rfl
      rw [Nat.add_zero] at c0
      clear hc hb1
      replace hx := hid hx
      by_cases ho : x.ord = ord
      · have bo : (x.ord == ord) = true := by simpa using ho
        replace ho := hid ho
        go_wp2_with fail
        refine (hcall.out _).mono ?_
        rintro e w2 ⟨rfl, hb2⟩
        have hB2 := hB.trans ((((Below.refl _ wr).alloc (Nat.le_refl _) _).trans (hb2.mono (by simp))).mono hB.size)
        clear c0 c1 c2 c3 c4 c5 c6 c7 hcall hb2 hidx bo
        have e1 : dec (FitsP x path name args) = fitO path name args ord x := dec_iff ⟨fun h => ⟨ho.out, h⟩, fun h => h.2⟩
        rw [e1]
        clear e1
        cases hp : fitO path name args ord x with
        | true =>
          have hfin : findF l path name args ord = some k := first_hit hx.out hp hn.out
          rw [← hres.out] at hfin
          replace hfin := hid hfin
          clear hp
          go_wp2_with fail
          go_ret2
          exact ⟨by rw [hfin.out]; rfl, hB2⟩
        | false =>
          have hn2 := hid (hit_next hx.out hp hn.out)
          clear hp
          go_wp2_with fail
          exact ⟨⟨k + 1, by go_num, by omega, hn2, hB2⟩, by simp [intOf]; omega⟩
      · have bo : (x.ord == ord) = false := by simpa using ho
        have hp : fitO path name args ord x = false := dec_false fun h => ho h.1
        have hn2 := hid (hit_next hx.out hp hn.out)
        clear hp hcall
        replace ho := hid ho
        go_wp2_with fail
        exact ⟨⟨k + 1, by go_num, by omega, hn2, hB.alloc hB.size _⟩, by simp [intOf]; omega⟩
    · have hkl : k = l.length := by omega
      subst hkl
      have hfin : findF l path name args ord = none := first_miss hn.out
      rw [← hres.out] at hfin
      replace hfin := hid hfin
      go_wp2_with fail
      go_ret2
      exact ⟨by rw [hfin.out]; rfl, hB⟩
end Go.Proofs.YtnbhpicmflagcaaDoor
