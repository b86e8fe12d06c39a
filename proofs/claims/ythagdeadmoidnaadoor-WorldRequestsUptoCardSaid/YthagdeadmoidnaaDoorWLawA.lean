/- The helpers of the laws: flat, few, has, pay. -/
import Derived.Test.YthagdeadmoidnaaDoorEqual
import Derived.Test.YthagdeadmoidnaaDoorWorld2
set_option linter.unusedVariables false
namespace Go.Proofs.YthagdeadmoidnaaDoor
open Go.RowKit
open Go.Lib (hid)
def BoolBelow (w : World) (e : Ending) (w' : World) : Prop := ∃ r : Bool, e = .returned (.bool r) ∧ Below w.heap.size w w'
set_option maxHeartbeats 4000000 in
set_option maxRecDepth 100000 in
theorem flat_of (l : List Val) (d : Nat) (S : Foot) (v : Value) (w : World) (hx : ValsR S w l v) (hl : l.length ≤ 1048576) (hd : d ≤ 100)
    (he : 1 ≤ d → ∀ a ∈ l, ∀ (va : Value) (W : World), ValsR S W a.l va → Calls Tryd.prog 6 #[va, iv ((d : Int) - 1)] W (BoolBelow W)) :
    Calls Tryd.prog 6 #[v, iv (d : Int)] w (BoolBelow w) := by
  obtain ⟨ax, kx, rfl, -⟩ := hx.slice
  replace hx := hid hx
  replace he := hid he
  by_cases h5 : 5 < l.length
  · go_enter Tryd.func6, Tryd.ntmps6
    go_wp2
    go_ret
    exact ⟨false, rfl, Below.refl _ _⟩
  by_cases h0 : 0 < l.length
  · by_cases hd0 : d = 0
    · subst hd0
      go_enter Tryd.func6, Tryd.ntmps6
      go_wp2
      go_ret
      exact ⟨false, rfl, Below.refl _ _⟩
    · have hdz : ¬ (d : Int) = 0 := by omega
      have hdz2 : ((d : Int) == 0) = false := by simpa using hdz
      have h5i : ¬ (5 : Int) < (l.length : Int) := by omega
      have h0i : (0 : Int) < (l.length : Int) := by omega
      have hw : IntKind.i64.wrap ((d : Int) - 1) = (d : Int) - 1 := by rw [IntKind.wrap_i64]; omega
      go_enter Tryd.func6, Tryd.ntmps6
      go_wp2
      go_loopw [5] (fun i wr => ∃ k : Nat, i = .int .i64 k ∧ k ≤ l.length ∧ Below w.heap.size w wr) (fun i _ => l.length - (intOf i).toNat)
      case atStart => exact ⟨0, rfl, Nat.zero_le _, Below.refl _ _⟩
      case round =>
        obtain ⟨k, rfl, hk, hB⟩ := hrel
        by_cases hlt : k < l.length
        · obtain ⟨a, ha⟩ : ∃ a, l[k]? = some a := ⟨_, List.getElem?_eq_getElem hlt⟩
          obtain ⟨g, o, cs, hidx, hS, hg, hc, hR⟩ := (hx.out.below goodVal hB).at (P := Tryd.prog) (t := 26) (by kernel_rfl) (fun _ => by kernel_rfl) ha
          obtain ⟨a1, k1, rfl, hv⟩ := valR_open hR
          have hcall := hid (he.out (by omega) a (List.mem_of_getElem? ha) _ _ hv)
          have c1 := hc 1 _ rfl
          have c4 := hc 4 _ rfl
          have c5 := hc 5 _ rfl
          clear hc hR ha hv
          by_cases hs : 100 < a.s.length
          · have hsi : (100 : Int) < (a.s.length : Int) := by omega
            go_wp2
            go_ret
            exact ⟨false, rfl, hB⟩
          · have hsi : ¬ (100 : Int) < (a.s.length : Int) := by omega
            by_cases ht : 100 < a.t.length
            · have hti : (100 : Int) < (a.t.length : Int) := by omega
              go_wp2
              go_ret
              exact ⟨false, rfl, hB⟩
            · have hti : ¬ (100 : Int) < (a.t.length : Int) := by omega
              go_wp2_with fail
              refine hcall.out.mono ?_
              rintro e w2 ⟨r, rfl, hb2⟩
              have hB2 := hB.trans (hb2.mono hB.size)
              clear c1 c4 c5 hcall hidx
              cases r with
              | true =>
                go_wp2
                exact ⟨⟨k + 1, by go_num, by omega, hB2⟩, by simp [intOf]; omega⟩
              | false =>
                go_wp2
                go_ret
                exact ⟨false, rfl, hB2⟩
        · have hkl : k = l.length := by omega
          subst hkl
          go_wp2
          go_ret
          exact ⟨true, rfl, hB⟩
  · have h0z : l.length = 0 := by omega
    go_enter Tryd.func6, Tryd.ntmps6
    go_wp2
    go_loopw [5] (fun i wr => i = .int .i64 0 ∧ Below w.heap.size w wr) (fun i _ => 0)
    case atStart => exact ⟨rfl, Below.refl _ _⟩
    case round =>
      obtain ⟨rfl, hB⟩ := hrel
      go_wp2
      go_ret
      exact ⟨true, rfl, hB⟩
theorem flat_any (d : Nat) (hd : d ≤ 100) : ∀ (l : List Val) (S : Foot) (v : Value) (w : World), ValsB l → ValsR S w l v → Calls Tryd.prog 6 #[v, iv (d : Int)] w (BoolBelow w) := by
  induction d with
  | zero => intro l S v w hb hr; exact flat_of l 0 S v w hr hb.1 hd fun h => absurd h (by omega)
  | succ d ih =>
    intro l S v w hb hr
    refine flat_of l (d + 1) S v w hr hb.1 hd fun _ a ha va W hW => ?_
    have := ih (by omega) a.l S va W (hb.2 a ha).l hW
    rw [show ((d + 1 : Nat) : Int) - 1 = (d : Int) by omega]
    exact this
/-- a delivery: a command and what happens to it -/
structure Dlv where
  c : Cmd
  how : Int
def DlvR : Rel Dlv := fun S w d cs => ∃ a cap, cs = [sv d.c.key, iv d.c.kind, sv d.c.of, sv d.c.new, sv d.c.name, .slice a d.c.args.length cap, iv d.how] ∧ ValsR S w d.c.args (.slice a d.c.args.length cap)
theorem goodDlv : Good 7 DlvR := by
  refine ⟨fun h => by obtain ⟨a, c, rfl, _⟩ := h; rfl, fun h u hu => ?_, fun h hm => ?_⟩
  · obtain ⟨a, c, rfl, _⟩ := h
    simp only [List.mem_cons, List.not_mem_nil, or_false] at hu
    rcases hu with rfl | rfl | rfl | rfl | rfl | rfl | rfl <;> rfl
  · obtain ⟨a, c, rfl, h⟩ := h
    exact ⟨a, c, rfl, h.move goodVal hm⟩
def DlvsB (l : List Dlv) : Prop := l.length ≤ 1048576 ∧ ∀ d ∈ l, CmdB d.c
theorem isKnown_no {l : List Cmd} {key : List UInt8} (h : ∀ j c, j < l.length → l[j]? = some c → c.key ≠ key) : isKnown l key = false := by
  cases e : isKnown l key with
  | false => rfl
  | true =>
    obtain ⟨c, hc, hk⟩ := isKnown_iff.1 e
    obtain ⟨j, hj, rfl⟩ := List.getElem_of_mem hc
    exact absurd hk (h j _ hj (List.getElem?_eq_getElem hj))
/-- the command that pay returns -/
def payV (n : Int) : Val := ⟨3, [], n, 0, [], []⟩
def payC (key : List UInt8) (n : Int) : Cmd := ⟨key, 1, [], key, [112, 97, 121], [payV n]⟩
set_option maxRecDepth 100000 in
theorem pay_any (key : List UInt8) (n : Int) (w : World) :
    Calls Tryd.prog 12 #[sv key, iv n] w fun e w' => ∃ cs, e = .returned (.agg cs.toArray) ∧ CmdR (from_ w.heap.size) w' (payC key n) cs ∧ Below w.heap.size w w' := by
  have hB : Below w.heap.size w ((w.alloc (.cells (cmdCs (payC key n) (.slice (some ⟨w.heap.size + 1, 0, none⟩) 1 1)).toArray 36)).alloc (.cells (valCs (payV n) (.slice none 0 0)).toArray 44)) := ((Below.refl _ w).alloc (Nat.le_refl _) _).alloc (by simp) _
  have hq2 := heap_alloc_new' (w.alloc (.cells (cmdCs (payC key n) (.slice (some ⟨w.heap.size + 1, 0, none⟩) 1 1)).toArray 36)) (.cells (valCs (payV n) (.slice none 0 0)).toArray 44)
  rw [show (w.alloc (.cells (cmdCs (payC key n) (.slice (some ⟨w.heap.size + 1, 0, none⟩) 1 1)).toArray 36)).heap.size = w.heap.size + 1 by simp] at hq2
  have hfin : CmdR (from_ w.heap.size) ((w.alloc (.cells (cmdCs (payC key n) (.slice (some ⟨w.heap.size + 1, 0, none⟩) 1 1)).toArray 36)).alloc (.cells (valCs (payV n) (.slice none 0 0)).toArray 44)) (payC key n) (cmdCs (payC key n) (.slice (some ⟨w.heap.size + 1, 0, none⟩) 1 1)) :=
    cmdR_shut (SlR.single hq2 (show w.heap.size ≤ _ by omega) (valR_shut (SlR.nil _ _ _ _ _)))
  have hq := heap_alloc_lt (o' := .cells (valCs (payV n) (.slice none 0 0)).toArray 44) (heap_alloc_new' w (.cells (cmdCs (payC key n) (.slice (some ⟨w.heap.size + 1, 0, none⟩) 1 1)).toArray 36))
  have hfin2 := hid hfin
  have hB2 := hid hB
  have hq3 := hid hq
  clear hfin hB hq2 hq
  go_enter Tryd.func12, Tryd.ntmps12
  go_wp2_with fail
  refine bodyPost_ret (v := .agg #[sv key, iv 1, sv [], sv key, sv [112, 97, 121], .slice (some ⟨w.heap.size + 1, 0, none⟩) 1 1]) ?_ rfl ⟨[sv key, iv 1, sv [], sv key, sv [112, 97, 121], .slice (some ⟨w.heap.size + 1, 0, none⟩) 1 1], rfl, hfin2.out, hB2.out⟩
  simp [results, Tryd.results12, go_sem]
end Go.Proofs.YthagdeadmoidnaaDoor
