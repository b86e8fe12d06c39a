/- Requests as data; match.fits, match.Alike. -/
import Derived.Test.YtnbhpicmflagcaaDoorEqualV
set_option linter.unusedVariables false
namespace Go.Proofs.YtnbhpicmflagcaaDoor
open Go.RowKit
open Go.Lib (hid)
structure Req where
  path : List UInt8
  name : List UInt8
  args : List Val
  ord : Int
  reply : List UInt8
  sent : Int
  tick : Int
  opn : Bool
abbrev reqCs (r : Req) (v : Value) : List Value := [sv r.path, sv r.name, v, iv r.ord, sv r.reply, iv r.sent, iv r.tick, .bool r.opn]
def ReqR : Rel Req := fun S w r cs => ∃ a cap, cs = reqCs r (.slice a r.args.length cap) ∧ ValsR S w r.args (.slice a r.args.length cap)
theorem goodReq : Good 8 ReqR := by
  refine ⟨fun h => by obtain ⟨a, c, rfl, _⟩ := h; rfl, fun h u hu => ?_, fun h hm => ?_⟩
  · obtain ⟨a, c, rfl, _⟩ := h
    simp only [List.mem_cons, List.not_mem_nil, or_false] at hu
    rcases hu with rfl | rfl | rfl | rfl | rfl | rfl | rfl | rfl <;> rfl
  · obtain ⟨a, c, rfl, h⟩ := h
    exact ⟨a, c, rfl, h.move goodVal hm⟩
theorem reqR_shut {S : Foot} {w : World} {o : Req} {v : Value} (h : ValsR S w o.args v) : ReqR S w o (reqCs o v) := by
  obtain ⟨a, cap, rfl, _⟩ := h.slice
  exact ⟨a, cap, rfl, h⟩
theorem infoReq : (Tryd.prog.info? 25).map (fun i => (i.zero, i.size)) = some (some (.agg #[.string .empty, .string .empty, .slice none 0 0, .int .i64 0, .string .empty, .int .i64 0, .int .i64 0, .bool false]), 8) := by kernel_rfl
/-- sizes that a machine can hold -/
def ReqB (r : Req) : Prop := ValsB r.args ∧ r.path.length ≤ 1048576 ∧ r.name.length ≤ 1048576 ∧ r.reply.length ≤ 1048576
def ReqsB (l : List Req) : Prop := l.length ≤ 1048576 ∧ ∀ x ∈ l, ReqB x
abbrev ReqsR : Foot → World → List Req → Value → Prop := SlR 8 ReqR
/-- the same path, effect, arguments -/
def FitsP (r : Req) (path name : List UInt8) (args : List Val) : Prop := r.path = path ∧ r.name = name ∧ r.args = args
def AlikeP (a b : Req) : Prop := a.ord = b.ord ∧ FitsP a b.path b.name b.args
set_option maxHeartbeats 2000000 in
set_option maxRecDepth 100000 in
theorem fits_any (r : Req) (path name : List UInt8) (args : List Val) (hr : ReqB r) (ha : ValsB args) (S T : Foot) (cs : List Value) (v : Value) (w : World) (hR : ReqR S w r cs) (hv : ValsR T w args v) :
    Calls Tryd.prog 27 #[.agg cs.toArray, sv path, sv name, v] w fun e w' => e = .returned (.bool (dec (FitsP r path name args))) ∧ Below w.heap.size w w' := by
  obtain ⟨a1, k1, rfl, hra⟩ := hR
  have hb : Below w.heap.size w (w.alloc (.cells (reqCs r (.slice a1 r.args.length k1)).toArray 25)) := (Below.refl _ w).alloc (Nat.le_refl _) _
  by_cases h1 : r.path = path
  · have b1 : (r.path == path) = true := by simpa using h1
    by_cases h2 : r.name = name
    · have b2 : (r.name == name) = true := by simpa using h2
      have hc := hid (vSame_any r.args args hr.1 ha S T _ v _ (hra.below goodVal hb) (hv.below goodVal hb))
      have he := hid (dec_iff (show FitsP r path name args ↔ r.args = args from ⟨fun h => h.2.2, fun h => ⟨h1, h2, h⟩⟩))
      subst h1 h2
      go_enter Tryd.func27, Tryd.ntmps27
      go_wp2_with fail
      refine hc.out.mono ?_
      rintro e w3 ⟨rfl, hb3⟩
      go_wp2_with fail
      go_ret
      rw [he.out]
      exact ⟨rfl, hb.trans (hb3.mono hb.size)⟩
    · have hne : dec (FitsP r path name args) = false := dec_false fun h => h2 h.2.1
      have b2 : (r.name == name) = false := by simpa using h2
      rw [hne]
      go_enter Tryd.func27, Tryd.ntmps27
      go_wp2_with fail
      all_goals
        go_ret
        exact ⟨rfl, hb⟩
  · have hne : dec (FitsP r path name args) = false := dec_false fun h => h1 h.1
    have b1 : (r.path == path) = false := by simpa using h1
    rw [hne]
    go_enter Tryd.func27, Tryd.ntmps27
    go_wp2_with fail
    all_goals
      go_ret
      exact ⟨rfl, hb⟩
set_option maxHeartbeats 2000000 in
set_option maxRecDepth 100000 in
theorem alike_any (a b : Req) (ha : ReqB a) (hb : ReqB b) (S T : Foot) (ca cb : List Value) (w : World) (hRa : ReqR S w a ca) (hRb : ReqR T w b cb) :
    Calls Tryd.prog 15 #[.agg ca.toArray, .agg cb.toArray] w fun e w' => e = .returned (.bool (dec (AlikeP a b))) ∧ Below w.heap.size w w' := by
  have hB : Below w.heap.size w ((w.alloc (.cells ca.toArray 25)).alloc (.cells cb.toArray 25)) := ((Below.refl _ w).alloc (Nat.le_refl _) _).alloc (by simp) _
  obtain ⟨a2, k2, rfl, hrb⟩ := id hRb
  have hc := hid (fits_any a b.path b.name b.args ha hb.1 S T ca _ _ (goodReq.below hRa hB) (hrb.below goodVal hB))
  obtain ⟨a1, k1, rfl, hra⟩ := hRa
  by_cases h1 : a.ord = b.ord
  · have he := hid (dec_iff (show AlikeP a b ↔ FitsP a b.path b.name b.args from ⟨fun h => h.2, fun h => ⟨h1, h⟩⟩))
    have b1 : (a.ord == b.ord) = true := by simpa using h1
    replace h1 := hid h1
    clear hra hrb hRb
    replace hB := hid hB
    go_enter Tryd.func15, Tryd.ntmps15
    go_wp2_with fail
    refine hc.out.mono ?_
    rintro e w3 ⟨rfl, hb3⟩
    go_wp2_with fail
    go_ret
    rw [he.out]
    exact ⟨rfl, hB.out.trans (hb3.mono hB.out.size)⟩
  · have hne : dec (AlikeP a b) = false := dec_false fun h => h1 h.1
    have b1 : (a.ord == b.ord) = false := by simpa using h1
    rw [hne]
    clear hra hrb hRb hc
    go_enter Tryd.func15, Tryd.ntmps15
    go_wp2_with fail
    all_goals
      go_ret
      exact ⟨rfl, hB⟩
end Go.Proofs.YtnbhpicmflagcaaDoor
