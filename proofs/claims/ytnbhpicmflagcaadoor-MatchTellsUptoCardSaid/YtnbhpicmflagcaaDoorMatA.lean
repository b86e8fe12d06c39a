/- MatAx: MatA, MatB, MatH, in one text. -/
import Derived.Test.YtnbhpicmflagcaaDoorEqualV
set_option linter.unusedVariables false
namespace Go.Proofs.YtnbhpicmflagcaaDoor
open Go.RowKit
open Go.Lib (hid)
structure Req where
  path : List UInt8
  name : List UInt8
  args : List Val
  ord : Int
  reply : List UInt8
  sent : Int
  tick : Int
  opn : Bool
abbrev reqCs (r : Req) (v : Value) : List Value := [sv r.path, sv r.name, v, iv r.ord, sv r.reply, iv r.sent, iv r.tick, .bool r.opn]
def ReqR : Rel Req := fun S w r cs => ∃ a cap, cs = reqCs r (.slice a r.args.length cap) ∧ ValsR S w r.args (.slice a r.args.length cap)
theorem goodReq : Good 8 ReqR := by
  refine ⟨fun h => by obtain ⟨a, c, rfl, _⟩ := h; rfl, fun h u hu => ?_, fun h hm => ?_⟩
  · obtain ⟨a, c, rfl, _⟩ := h
    simp only [List.mem_cons, List.not_mem_nil, or_false] at hu
    rcases hu with rfl | rfl | rfl | rfl | rfl | rfl | rfl | rfl <;> rfl
  · obtain ⟨a, c, rfl, h⟩ := h
    exact ⟨a, c, rfl, h.move goodVal hm⟩
theorem reqR_shut {S : Foot} {w : World} {o : Req} {v : Value} (h : ValsR S w o.args v) : ReqR S w o (reqCs o v) := by
  obtain ⟨a, cap, rfl, _⟩ := h.slice
  exact ⟨a, cap, rfl, h⟩
theorem infoReq : (Tryd.prog.info? 25).map (fun i => (i.zero, i.size)) = some (some (.agg #[.string .empty, .string .empty, .slice none 0 0, .int .i64 0, .string .empty, .int .i64 0, .int .i64 0, .bool false]), 8) := by kernel_rfl
/-- sizes that a machine can hold -/
def ReqB (r : Req) : Prop := ValsB r.args ∧ r.path.length ≤ 1048576 ∧ r.name.length ≤ 1048576 ∧ r.reply.length ≤ 1048576
def ReqsB (l : List Req) : Prop := l.length ≤ 1048576 ∧ ∀ x ∈ l, ReqB x
abbrev ReqsR : Foot → World → List Req → Value → Prop := SlR 8 ReqR
/-- the same path, effect, arguments -/
def FitsP (r : Req) (path name : List UInt8) (args : List Val) : Prop := r.path = path ∧ r.name = name ∧ r.args = args
def AlikeP (a b : Req) : Prop := a.ord = b.ord ∧ FitsP a b.path b.name b.args
set_option maxHeartbeats 2000000 in
set_option maxRecDepth 100000 in
theorem fits_any (r : Req) (path name : List UInt8) (args : List Val) (hr : ReqB r) (ha : ValsB args) (S T : Foot) (cs : List Value) (v : Value) (w : World) (hR : ReqR S w r cs) (hv : ValsR T w args v) :
    Calls Tryd.prog 27 #[.agg cs.toArray, sv path, sv name, v] w fun e w' => e = .returned (.bool (dec (FitsP r path name args))) ∧ Below w.heap.size w w' := by
  obtain ⟨a1, k1, rfl, hra⟩ := hR
  have hb : Below w.heap.size w (w.alloc (.cells (reqCs r (.slice a1 r.args.length k1)).toArray 25)) := (Below.refl _ w).alloc (Nat.le_refl _) _
  by_cases h1 : r.path = path
  · have b1 : (r.path == path) = true := by simpa using h1
    by_cases h2 : r.name = name
    · have b2 : (r.name == name) = true := by simpa using h2
      have hc := hid (vSame_any r.args args hr.1 ha S T _ v _ (hra.below goodVal hb) (hv.below goodVal hb))
      have he := hid (dec_iff (show FitsP r path name args ↔ r.args = args from ⟨fun h => h.2.2, fun h => ⟨h1, h2, h⟩⟩))
      subst h1 h2
      go_enter Tryd.func27, Tryd.ntmps27
      go_wp2_with fail
      refine hc.out.mono ?_
      rintro e w3 ⟨rfl, hb3⟩
      go_wp2_with fail
      go_ret
      rw [he.out]
      exact ⟨rfl, hb.trans (hb3.mono hb.size)⟩
    · have hne : dec (FitsP r path name args) = false := dec_false fun h => h2 h.2.1
      have b2 : (r.name == name) = false := by simpa using h2
      rw [hne]
      go_enter Tryd.func27, Tryd.ntmps27
      go_wp2_with fail
      all_goals
        go_ret
        exact ⟨rfl, hb⟩
  · have hne : dec (FitsP r path name args) = false := dec_false fun h => h1 h.1
    have b1 : (r.path == path) = false := by simpa using h1
    rw [hne]
    go_enter Tryd.func27, Tryd.ntmps27
    go_wp2_with fail
    all_goals
      go_ret
      exact ⟨rfl, hb⟩
set_option maxHeartbeats 2000000 in
set_option maxRecDepth 100000 in
theorem alike_any (a b : Req) (ha : ReqB a) (hb : ReqB b) (S T : Foot) (ca cb : List Value) (w : World) (hRa : ReqR S w a ca) (hRb : ReqR T w b cb) :
    Calls Tryd.prog 15 #[.agg ca.toArray, .agg cb.toArray] w fun e w' => e = .returned (.bool (dec (AlikeP a b))) ∧ Below w.heap.size w w' := by
  have hB : Below w.heap.size w ((w.alloc (.cells ca.toArray 25)).alloc (.cells cb.toArray 25)) := ((Below.refl _ w).alloc (Nat.le_refl _) _).alloc (by simp) _
  obtain ⟨a2, k2, rfl, hrb⟩ := id hRb
  have hc := hid (fits_any a b.path b.name b.args ha hb.1 S T ca _ _ (goodReq.below hRa hB) (hrb.below goodVal hB))
  obtain ⟨a1, k1, rfl, hra⟩ := hRa
  by_cases h1 : a.ord = b.ord
  · have he := hid (dec_iff (show AlikeP a b ↔ FitsP a b.path b.name b.args from ⟨fun h => h.2, fun h => ⟨h1, h⟩⟩))
    have b1 : (a.ord == b.ord) = true := by simpa using h1
    replace h1 := hid h1
    clear hra hrb hRb
    replace hB := hid hB
    go_enter Tryd.func15, Tryd.ntmps15
    go_wp2_with fail
    refine hc.out.mono ?_
    rintro e w3 ⟨rfl, hb3⟩
    go_wp2_with fail
    go_ret
    rw [he.out]
    exact ⟨rfl, hB.out.trans (hb3.mono hB.out.size)⟩
  · have hne : dec (AlikeP a b) = false := dec_false fun h => h1 h.1
    have b1 : (a.ord == b.ord) = false := by simpa using h1
    rw [hne]
    clear hra hrb hRb hc
    go_enter Tryd.func15, Tryd.ntmps15
    go_wp2_with fail
    all_goals
      go_ret
      exact ⟨rfl, hB⟩
end Go.Proofs.YtnbhpicmflagcaaDoor
namespace Go.Proofs.YtnbhpicmflagcaaDoor
open Go.RowKit
open Go.Lib (hid)
section
variable {α : Type} {p : α → Bool} {l : List α} {k : Nat} {x : α}
theorem first_hit (hx : l[k]? = some x) (hp : p x = true) (hn : ∀ i y, i < k → l[i]? = some y → p y = false) : l.findIdx? p = some k := by
  obtain ⟨h1, h2⟩ := List.getElem?_eq_some_iff.1 hx
  rw [List.findIdx?_eq_some_iff_getElem]
  refine ⟨h1, by rw [h2]; exact hp, fun j hj => ?_⟩
  have := hn j l[j] hj (List.getElem?_eq_getElem (by omega))
  simp [this]
theorem first_miss (hn : ∀ i y, i < l.length → l[i]? = some y → p y = false) : l.findIdx? p = none := by
  rw [List.findIdx?_eq_none_iff]
  intro y hy
  obtain ⟨i, hi⟩ := List.getElem?_of_mem hy
  exact hn i y (List.getElem?_eq_some_iff.1 hi).1 hi
theorem hit_next (hx : l[k]? = some x) (hp : p x = false) (hn : ∀ i y, i < k → l[i]? = some y → p y = false) : ∀ i y, i < k + 1 → l[i]? = some y → p y = false := fun i y hi hy => by
  by_cases e : i = k
  · subst e; rw [hx] at hy; injection hy with hy; rw [← hy]; exact hp
  · exact hn i y (by omega) hy
theorem count_next (hx : l[k]? = some x) : (l.take (k + 1)).countP p = (l.take k).countP p + (if p x then 1 else 0) := by
  rw [List.take_add_one, hx, List.countP_append]
  simp [List.countP_cons]
end
noncomputable def fitB (path name : List UInt8) (args : List Val) (r : Req) : Bool := dec (FitsP r path name args)
noncomputable def ordF (l : List Req) (path name : List UInt8) (args : List Val) : Nat := l.countP (fitB path name args)
noncomputable def fitO (path name : List UInt8) (args : List Val) (ord : Int) (r : Req) : Bool := dec (r.ord = ord ∧ FitsP r path name args)
noncomputable def findF (l : List Req) (path name : List UInt8) (args : List Val) (ord : Int) : Option Nat := l.findIdx? (fitO path name args ord)
def findV (o : Option Nat) : Value := .tuple #[iv (o.getD 0), .bool o.isSome]
set_option maxHeartbeats 4000000 in
set_option maxRecDepth 100000 in
theorem ord_any (l : List Req) (path name : List UInt8) (args : List Val) (hl : ReqsB l) (ha : ValsB args) (S T : Foot) (v va : Value) (w : World) (hR : ReqsR S w l v) (hA : ValsR T w args va) :
    Calls Tryd.prog 13 #[v, sv path, sv name, va] w fun e w' => e = .returned (iv (ordF l path name args)) ∧ Below w.heap.size w w' := by
  obtain ⟨a, c, rfl, -⟩ := hR.slice
  obtain ⟨a', c', rfl, -⟩ := hA.slice
  have hln := hl.1
  replace hR := hid hR
  replace hA := hid hA
  replace hl := hid hl
  replace ha := hid ha
  obtain ⟨res, hres⟩ : ∃ res, res = ordF l path name args := ⟨_, rfl⟩
  rw [← hres]
  replace hres := hid hres
  go_enter Tryd.func13, Tryd.ntmps13
  go_wp2_with fail
  go_loopw [9, 14] (fun n i wr => ∃ k : Nat, i = .int .i64 k ∧ n = iv (((l.take k).countP (fitB path name args) : Nat) : Int) ∧ k ≤ l.length ∧ Below w.heap.size w wr) (fun _ i _ => l.length - (intOf i).toNat)
  case atStart => exact ⟨0, rfl, rfl, Nat.zero_le _, Below.refl _ _⟩
  case round =>
    obtain ⟨k, rfl, rfl, hk, hB⟩ := hrel
    by_cases hlt : k < l.length
    · obtain ⟨x, hx⟩ : ∃ x, l[k]? = some x := ⟨_, List.getElem?_eq_getElem hlt⟩
      obtain ⟨g, o, cs, hidx, hS, hg, hc, hr⟩ := (hR.out.below goodReq hB).at (P := Tryd.prog) (t := 22) (by kernel_rfl) (fun _ => by kernel_rfl) hx
      have hb1 : ∀ o, Below wr.heap.size wr (wr.alloc o) := fun o => (Below.refl _ wr).alloc (Nat.le_refl _) o
      have hcall := hid (fun o => fits_any x path name args (hl.out.2 x (List.mem_of_getElem? hx)) ha.out S T cs _ _ (goodReq.below hr (hb1 o)) ((hA.out.below goodVal hB).below goodVal (hb1 o)))
      have hle : (l.take k).countP (fitB path name args) ≤ l.length := Nat.le_trans List.countP_le_length (by simp; omega)
      have hnx := hid (count_next (p := fitB path name args) hx)
      obtain ⟨a1, k1, rfl, -⟩ := hr
      have c0 := hc 0 _ rfl
      have c1 := hc 1 _ rfl
      have c2 := hc 2 _ rfl
      have c3 := hc 3 _ rfl
      have c4 := hc 4 _ rfl
      have c5 := hc 5 _ rfl
      have c6 := hc 6 _ rfl
      have c7 := hc 7 _ rfl
      rw [Nat.add_zero] at c0
      clear hc hb1
      replace hx := hid hx
      generalize (l.take k).countP (fitB path name args) = m at *
      go_wp2_with fail
      refine (hcall.out _).mono ?_
      rintro e w2 ⟨rfl, hb2⟩
      have hB2 := hB.trans ((((Below.refl _ wr).alloc (Nat.le_refl _) _).trans (hb2.mono (by simp))).mono hB.size)
      clear c0 c1 c2 c3 c4 c5 c6 c7 hcall hb2 hidx
      have e1 : dec (FitsP x path name args) = fitB path name args x := rfl
      rw [e1]
      clear e1
      cases hp : fitB path name args x with
      | true =>
        rw [hp] at hnx
        have hw : IntKind.i64.wrap ((m : Int) + 1) = (((m + 1 : Nat)) : Int) := by rw [i64_wrap_id _ (by omega) (by omega)]; omega
        clear hp
        go_wp2_with fail
        exact ⟨⟨k + 1, by go_num, by rw [hnx.out]; rfl, by omega, hB2⟩, by simp [intOf]; omega⟩
      | false =>
        rw [hp] at hnx
        clear hp
        go_wp2_with fail
        exact ⟨⟨k + 1, by go_num, by rw [hnx.out]; rfl, by omega, hB2⟩, by simp [intOf]; omega⟩
    · have hkl : k = l.length := by omega
      subst hkl
      rw [List.take_length]
      have hfin : l.countP (fitB path name args) = res := hres.out.symm
      rw [hfin]
      clear hfin
      go_wp2_with fail
      go_ret
      exact ⟨rfl, hB⟩
set_option maxHeartbeats 4000000 in
set_option maxRecDepth 100000 in
theorem find_any (l : List Req) (path name : List UInt8) (args : List Val) (ord : Int) (hl : ReqsB l) (ha : ValsB args) (S T : Foot) (v va : Value) (w : World) (hR : ReqsR S w l v) (hA : ValsR T w args va) :
    Calls Tryd.prog 9 #[v, sv path, sv name, va, iv ord] w fun e w' => e = .returned (findV (findF l path name args ord)) ∧ Below w.heap.size w w' := by
  obtain ⟨a, c, rfl, -⟩ := hR.slice
  obtain ⟨a', c', rfl, -⟩ := hA.slice
  have hln := hl.1
  replace hR := hid hR
  replace hA := hid hA
  replace hl := hid hl
  replace ha := hid ha
  obtain ⟨res, hres⟩ : ∃ res, res = findF l path name args ord := ⟨_, rfl⟩
  rw [← hres]
  replace hres := hid hres
  go_enter Tryd.func9, Tryd.ntmps9
  go_wp2_with fail
  go_loopw [16] (fun i wr => ∃ k : Nat, i = .int .i64 k ∧ k ≤ l.length ∧ Hid (∀ i y, i < k → l[i]? = some y → fitO path name args ord y = false) ∧ Below w.heap.size w wr) (fun i _ => l.length - (intOf i).toNat)
  case atStart => exact ⟨0, rfl, Nat.zero_le _, hid (fun i y h => absurd h (by omega)), Below.refl _ _⟩
  case round =>
    obtain ⟨k, rfl, hk, hn, hB⟩ := hrel
    by_cases hlt : k < l.length
    · obtain ⟨x, hx⟩ : ∃ x, l[k]? = some x := ⟨_, List.getElem?_eq_getElem hlt⟩
      obtain ⟨g, o, cs, hidx, hS, hg, hc, hr⟩ := (hR.out.below goodReq hB).at (P := Tryd.prog) (t := 22) (by kernel_rfl) (fun _ => by kernel_rfl) hx
      have hb1 : ∀ o, Below wr.heap.size wr (wr.alloc o) := fun o => (Below.refl _ wr).alloc (Nat.le_refl _) o
      have hcall := hid (fun o => fits_any x path name args (hl.out.2 x (List.mem_of_getElem? hx)) ha.out S T cs _ _ (goodReq.below hr (hb1 o)) ((hA.out.below goodVal hB).below goodVal (hb1 o)))
      obtain ⟨a1, k1, rfl, -⟩ := hr
      have c0 := hc 0 _ rfl
      have c1 := hc 1 _ rfl
      have c2 := hc 2 _ rfl
      have c3 := hc 3 _ rfl
      have c4 := hc 4 _ rfl
      have c5 := hc 5 _ rfl
      have c6 := hc 6 _ rfl
      have c7 := hc 7 _ rfl
      rw [Nat.add_zero] at c0
      clear hc hb1
      replace hx := hid hx
      by_cases ho : x.ord = ord
      · have bo : (x.ord == ord) = true := by simpa using ho
        replace ho := hid ho
        go_wp2_with fail
        refine (hcall.out _).mono ?_
        rintro e w2 ⟨rfl, hb2⟩
        have hB2 := hB.trans ((((Below.refl _ wr).alloc (Nat.le_refl _) _).trans (hb2.mono (by simp))).mono hB.size)
        clear c0 c1 c2 c3 c4 c5 c6 c7 hcall hb2 hidx bo
        have e1 : dec (FitsP x path name args) = fitO path name args ord x := dec_iff ⟨fun h => ⟨ho.out, h⟩, fun h => h.2⟩
        rw [e1]
        clear e1
        cases hp : fitO path name args ord x with
        | true =>
          have hfin : findF l path name args ord = some k := first_hit hx.out hp hn.out
          rw [← hres.out] at hfin
          replace hfin := hid hfin
          clear hp
          go_wp2_with fail
          go_ret2
          exact ⟨by rw [hfin.out]; rfl, hB2⟩
        | false =>
          have hn2 := hid (hit_next hx.out hp hn.out)
          clear hp
          go_wp2_with fail
          exact ⟨⟨k + 1, by go_num, by omega, hn2, hB2⟩, by simp [intOf]; omega⟩
      · have bo : (x.ord == ord) = false := by simpa using ho
        have hp : fitO path name args ord x = false := dec_false fun h => ho h.1
        have hn2 := hid (hit_next hx.out hp hn.out)
        clear hp hcall
        replace ho := hid ho
        go_wp2_with fail
        exact ⟨⟨k + 1, by go_num, by omega, hn2, hB.alloc hB.size _⟩, by simp [intOf]; omega⟩
    · have hkl : k = l.length := by omega
      subst hkl
      have hfin : findF l path name args ord = none := first_miss hn.out
      rw [← hres.out] at hfin
      replace hfin := hid hfin
      go_wp2_with fail
      go_ret2
      exact ⟨by rw [hfin.out]; rfl, hB⟩
end Go.Proofs.YtnbhpicmflagcaaDoor
namespace Go.Proofs.YtnbhpicmflagcaaDoor
open Go.RowKit
open Go.Lib (hid)
set_option maxHeartbeats 2000000 in
set_option maxRecDepth 100000 in
theorem ralike_any (a b : Req) (ha : ReqB a) (hb : ReqB b) (S T : Foot) (ca cb : List Value) (w : World) (hRa : ReqR S w a ca) (hRb : ReqR T w b cb) :
    Calls Tryd.prog 16 #[.agg ca.toArray, .agg cb.toArray] w fun e w' => e = .returned (.bool (dec (AlikeP a b))) ∧ Below w.heap.size w w' := by
  have hB : Below w.heap.size w ((w.alloc (.cells ca.toArray 25)).alloc (.cells cb.toArray 25)) := ((Below.refl _ w).alloc (Nat.le_refl _) _).alloc (by simp) _
  obtain ⟨a1, k1, rfl, hra⟩ := hRa
  obtain ⟨a2, k2, rfl, hrb⟩ := hRb
  have hc := hid (rSame_any a.args b.args ha.1 hb.1 S T _ _ _ (hra.below goodVal hB) (hrb.below goodVal hB))
  obtain ⟨res, hres⟩ : ∃ res, dec (AlikeP a b) = res := ⟨_, rfl⟩
  rw [hres]
  clear hra hrb
  replace hB := hid hB
  by_cases h1 : a.path = b.path
  · have b1 : (a.path == b.path) = true := by simpa using h1
    by_cases h2 : a.name = b.name
    · have b2 : (a.name == b.name) = true := by simpa using h2
      by_cases h3 : a.ord = b.ord
      · have b3 : (a.ord == b.ord) = true := by simpa using h3
        have he := hid (show dec (a.args = b.args) = res by rw [← hres]; exact dec_iff ⟨fun h => ⟨h3, h1, h2, h⟩, fun h => h.2.2.2⟩)
        replace hres := hid hres
        replace h1 := hid h1
        replace h2 := hid h2
        replace h3 := hid h3
        go_enter Tryd.func16, Tryd.ntmps16
        go_wp2_with fail
        refine hc.out.mono ?_
        rintro e w3 ⟨rfl, hb3⟩
        go_wp2_with fail
        go_ret
        rw [← he.out]
        exact ⟨rfl, hB.out.trans (hb3.mono hB.out.size)⟩
      · have b3 : (a.ord == b.ord) = false := by simpa using h3
        have he := hid (show res = false by rw [← hres]; exact dec_false fun h => h3 h.1)
        replace hres := hid hres
        replace h1 := hid h1
        replace h2 := hid h2
        replace h3 := hid h3
        go_enter Tryd.func16, Tryd.ntmps16
        go_wp2_with fail
        go_ret
        rw [he.out]
        exact ⟨rfl, hB.out⟩
    · have b2 : (a.name == b.name) = false := by simpa using h2
      have he := hid (show res = false by rw [← hres]; exact dec_false fun h => h2 h.2.2.1)
      replace hres := hid hres
      replace h1 := hid h1
      replace h2 := hid h2
      go_enter Tryd.func16, Tryd.ntmps16
      go_wp2_with fail
      go_ret
      rw [he.out]
      exact ⟨rfl, hB.out⟩
  · have b1 : (a.path == b.path) = false := by simpa using h1
    have he := hid (show res = false by rw [← hres]; exact dec_false fun h => h1 h.2.1)
    replace hres := hid hres
    replace h1 := hid h1
    go_enter Tryd.func16, Tryd.ntmps16
    go_wp2_with fail
    go_ret
    rw [he.out]
    exact ⟨rfl, hB.out⟩
/-- a class: its first request, what is not matched yet -/
structure Cls where
  first : Req
  free : List Nat
/-- a row of indices that nothing writes into while it is read -/
def NatR : Rel Nat := fun _ _ n cs => cs = [iv n]
theorem goodNat : Good 1 NatR := ⟨fun h => by rw [h]; rfl, fun h => by rw [h]; exact one1 rfl, fun h _ => h⟩
def ClsR : Rel Cls := fun S w c cs => ∃ ca a n, cs = ca ++ [.slice a c.free.length n] ∧ ReqR S w c.first ca ∧ SlR 1 NatR S w c.free (.slice a c.free.length n)
theorem goodCls : Good 9 ClsR := by
  refine ⟨fun h => by obtain ⟨ca, a, n, rfl, h1, _⟩ := h; simp [goodReq.len h1], fun h u hu => ?_, fun h hm => ?_⟩
  · obtain ⟨ca, a, n, rfl, h1, _⟩ := h
    rcases List.mem_append.1 hu with hu | hu
    · exact goodReq.one h1 u hu
    · rw [List.mem_singleton.1 hu]; rfl
  · obtain ⟨ca, a, n, rfl, h1, h2⟩ := h
    exact ⟨ca, a, n, rfl, goodReq.move h1 hm, h2.move goodNat hm⟩
noncomputable def likeB (r : Req) (c : Cls) : Bool := dec (AlikeP c.first r)
noncomputable def clsF (l : List Cls) (r : Req) : Option Nat := l.findIdx? (likeB r)
def ixV (o : Option Nat) : Value := iv (match o with | some k => (k : Int) | none => -1)
set_option maxHeartbeats 4000000 in
set_option maxRecDepth 100000 in
theorem cfind_any (l : List Cls) (r : Req) (hl : l.length ≤ 1048576) (hlB : ∀ c ∈ l, ReqB c.first) (hr : ReqB r) (S T : Foot) (v : Value) (cr : List Value) (w : World) (hR : SlR 9 ClsR S w l v) (hr' : ReqR T w r cr) :
    Calls Tryd.prog 44 #[v, .agg cr.toArray] w fun e w' => e = .returned (ixV (clsF l r)) ∧ Below w.heap.size w w' := by
  obtain ⟨a, c, rfl, -⟩ := hR.slice
  obtain ⟨a9, k9, rfl, -⟩ := id hr'
  replace hR := hid hR
  replace hr' := hid hr'
  replace hlB := hid hlB
  obtain ⟨res, hres⟩ : ∃ res, res = clsF l r := ⟨_, rfl⟩
  rw [← hres]
  replace hres := hid hres
  have hw1 : ∀ o, Below w.heap.size w (w.alloc o) := fun o => (Below.refl _ w).alloc (Nat.le_refl _) o
  have hbx := hid (heap_alloc_new' w (.cells (reqCs r (.slice a9 r.args.length k9)).toArray 25 (0, 0)))
  go_enter Tryd.func44, Tryd.ntmps44
  go_wp2_with fail
  go_loopw [9] (fun i wr => ∃ k : Nat, i = .int .i64 k ∧ k ≤ l.length ∧ Hid (∀ i y, i < k → l[i]? = some y → likeB r y = false) ∧ Hid (wr.heap[w.heap.size]? = some (.cells (reqCs r (.slice a9 r.args.length k9)).toArray 25 (0, 0))) ∧ Below w.heap.size w wr) (fun i _ => l.length - (intOf i).toNat)
  case atStart => exact ⟨0, rfl, Nat.zero_le _, hid (fun i y h => absurd h (by omega)), hbx, hw1 _⟩
  case round =>
    clear hbx hw1
    obtain ⟨k, rfl, hk, hn, hbx, hB⟩ := hrel
    have d0 : wr.cell? ⟨w.heap.size, 0, none⟩ = some (sv r.path) := (cell_of (i := 0) hbx.out).trans rfl
    have d1 : wr.cell? ⟨w.heap.size, 1, none⟩ = some (sv r.name) := (cell_of (i := 1) hbx.out).trans rfl
    have d2 : wr.cell? ⟨w.heap.size, 2, none⟩ = some (.slice a9 r.args.length k9) := (cell_of (i := 2) hbx.out).trans rfl
    have d3 : wr.cell? ⟨w.heap.size, 3, none⟩ = some (iv r.ord) := (cell_of (i := 3) hbx.out).trans rfl
    have d4 : wr.cell? ⟨w.heap.size, 4, none⟩ = some (sv r.reply) := (cell_of (i := 4) hbx.out).trans rfl
    have d5 : wr.cell? ⟨w.heap.size, 5, none⟩ = some (iv r.sent) := (cell_of (i := 5) hbx.out).trans rfl
    have d6 : wr.cell? ⟨w.heap.size, 6, none⟩ = some (iv r.tick) := (cell_of (i := 6) hbx.out).trans rfl
    have d7 : wr.cell? ⟨w.heap.size, 7, none⟩ = some (.bool r.opn) := (cell_of (i := 7) hbx.out).trans rfl
    have hlw := lt_of_heap hbx.out
    have hnw : ¬ wr.heap.size = w.heap.size := by omega
    have hnw' : ¬ w.heap.size = wr.heap.size := by omega
    by_cases hlt : k < l.length
    · obtain ⟨x, hx⟩ : ∃ x, l[k]? = some x := ⟨_, List.getElem?_eq_getElem hlt⟩
      obtain ⟨g, o, cs, hidx, hS, hg, hc, hx'⟩ := (hR.out.below goodCls hB).at (P := Tryd.prog) (t := 69) (by kernel_rfl) (fun _ => by kernel_rfl) hx
      have hb1 : ∀ o, Below wr.heap.size wr (wr.alloc o) := fun o => (Below.refl _ wr).alloc (Nat.le_refl _) o
      obtain ⟨ca, af, nf, rfl, hra, -⟩ := hx'
      have hcall := hid (fun o => alike_any x.first r (hlB.out x (List.mem_of_getElem? hx)) hr S T ca _ (wr.alloc o) (goodReq.below hra (hb1 o)) (goodReq.below (goodReq.below hr'.out hB) (hb1 o)))
      obtain ⟨a1, k1, rfl, -⟩ := hra
      have c0 := hc 0 _ rfl
      have c1 := hc 1 _ rfl
      have c2 := hc 2 _ rfl
      have c3 := hc 3 _ rfl
      have c4 := hc 4 _ rfl
      have c5 := hc 5 _ rfl
      have c6 := hc 6 _ rfl
      have c7 := hc 7 _ rfl
      have c8 := hc 8 _ rfl
      rw [Nat.add_zero] at c0
      have hkeep := hid (fun W (h : Below wr.heap.size wr W) => below_keep h hbx.out hlw)
      clear hc hbx
      replace hx := hid hx
      go_wp2_with fail
      refine (hcall.out _).mono ?_
      rintro e w2 ⟨rfl, hb2⟩
      have hb2' := (hb1 _).trans (hb2.mono (hb1 _).size)
      have hB2 := hB.trans (hb2'.mono hB.size)
      have hbx2 := hid (hkeep.out _ hb2')
      clear c0 c1 c2 c3 c4 c5 c6 c7 c8 d0 d1 d2 d3 d4 d5 d6 d7 hcall hb2 hb2' hb1 hidx hkeep
      have e1 : dec (AlikeP x.first r) = likeB r x := rfl
      rw [e1]
      clear e1
      cases hp : likeB r x with
      | true =>
        have hfin : clsF l r = some k := first_hit hx.out hp hn.out
        rw [← hres.out] at hfin
        replace hfin := hid hfin
        clear hp
        go_wp2_with fail
        go_ret
        exact ⟨by rw [hfin.out]; rfl, hB2⟩
      | false =>
        have hn2 := hid (hit_next hx.out hp hn.out)
        clear hp
        go_wp2_with fail
        exact ⟨⟨k + 1, by go_num, by omega, hn2, hbx2, hB2⟩, by simp [intOf]; omega⟩
    · have hkl : k = l.length := by omega
      subst hkl
      have hfin : clsF l r = none := first_miss hn.out
      rw [← hres.out] at hfin
      replace hfin := hid hfin
      clear d0 d1 d2 d3 d4 d5 d6 d7
      go_wp2_with fail
      go_ret
      exact ⟨by rw [hfin.out]; rfl, hB⟩
end Go.Proofs.YtnbhpicmflagcaaDoor
