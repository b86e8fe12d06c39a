/- plan, walks: num.Clamp; catalog: Can, Find. -/
import Derived.Test.YtdmgfnnpjoihfaaDoorPlC
import Derived.Deep.RegionHeld3
import Derived.Deep.LoopGhost
import Derived.Test.YtdmgfnnpjoihfaaDoorPlP
set_option linter.unusedVariables false
set_option linter.unusedSimpArgs false
namespace Go.Proofs.YtdmgfnnpjoihfaaDoor
open Go.RowKit
open Go.Lib (hid)
def clampF (n lo hi:Int):Int := if n < lo then lo else if hi < n then hi else n
set_option maxRecDepth 100000 in
theorem clamp_any (n lo hi:Int) (w:World):Calls Tryd.prog 76 #[iv n, iv lo, iv hi] w fun e w' => e=.returned (iv (clampF n lo hi))∧w'=w := by
  by_cases h1:n < lo
  · have e:clampF n lo hi=lo := if_pos h1
    rw [e]
    have q1:decide (n < lo)=true := decide_eq_true h1
    go_enter Tryd.func76, Tryd.ntmps76
    go_wp2_with fail
    go_ret
    exact ⟨rfl, rfl⟩
  · have q1:decide (n < lo)=false := decide_eq_false h1
    by_cases h2:hi < n
    · have e:clampF n lo hi=hi := by unfold clampF; rw [if_neg h1, if_pos h2]
      rw [e]
      have q2:decide (hi < n)=true := decide_eq_true h2
      go_enter Tryd.func76, Tryd.ntmps76
      go_wp2_with fail
      go_ret
      exact ⟨rfl, rfl⟩
    · have e:clampF n lo hi=n := by unfold clampF; rw [if_neg h1, if_neg h2]
      rw [e]
      have q2:decide (hi < n)=false := decide_eq_false h2
      go_enter Tryd.func76, Tryd.ntmps76
      go_wp2_with fail
      go_ret
      exact ⟨rfl, rfl⟩
theorem clampF_in (n:Int):0≤clampF n 0 1073741824∧clampF n 0 1073741824≤1073741824 := by unfold clampF; split; omega; split <;> omega
def canF (o:Offer) (tick clock:Int):Bool := decide (o.undo≠-1) && (decide (clampF o.due 0 1073741824=0) || decide (clampF clock 0 1073741824≤clampF tick 0 1073741824+clampF o.due 0 1073741824))
set_option maxHeartbeats 4000000 in
set_option maxRecDepth 100000 in
theorem can_any (o:Offer) (tick clock:Int) (w:World):Calls Tryd.prog 67 #[.agg (offCs o).toArray, iv tick, iv clock] w fun e w' => e=.returned (.bool (canF o tick clock))∧Below w.heap.size w w' := by
  have hb:Below w.heap.size w (w.alloc (.cells (offCs o).toArray 44 (0, 0))) := (Below.refl _ w).alloc (Nat.le_refl _) _
  have hbk := heap_alloc_new' w (.cells (offCs o).toArray 44 (0, 0))
  obtain ⟨ud, hu⟩:∃ x, x=o.undo := ⟨_, rfl⟩
  obtain ⟨du, hd⟩:∃ x, x=o.due := ⟨_, rfl⟩
  have c2:(w.alloc (.cells (offCs o).toArray 44 (0, 0))).cell? ⟨w.heap.size, 2, none⟩=some (iv ud) := (cell_of hbk).trans (by rw [hu]; rfl)
  have c3:(w.alloc (.cells (offCs o).toArray 44 (0, 0))).cell? ⟨w.heap.size, 3, none⟩=some (iv du) := (cell_of hbk).trans (by rw [hd]; rfl)
  have h1 := hid (fun W => clamp_any tick 0 1073741824 W)
  have h2 := hid (fun W => clamp_any clock 0 1073741824 W)
  have h3 := hid (fun W => clamp_any du 0 1073741824 W)
  obtain ⟨res, hres⟩:∃ r, r=canF o tick clock := ⟨_, rfl⟩
  rw [← hres]
  unfold canF at hres
  rw [← hu, ← hd] at hres
  have k1 := clampF_in tick
  have k2 := clampF_in clock
  have k3 := clampF_in du
  generalize clampF tick 0 1073741824=T at *
  generalize clampF clock 0 1073741824=C at *
  generalize clampF du 0 1073741824=D at *
  have w1:IntKind.i64.wrap (T+D)=T+D := by rw [IntKind.wrap_i64]; omega
  obtain ⟨b1, p1⟩:∃ b, decide (ud≠-1)=b := ⟨_, rfl⟩
  obtain ⟨b2, p2⟩:∃ b, decide (D=0)=b := ⟨_, rfl⟩
  obtain ⟨b3, p3⟩:∃ b, decide (C≤T+D)=b := ⟨_, rfl⟩
  rw [p1, p2, p3] at hres
  have r1:(ud == -1) = !b1 := by rw [← p1]; by_cases e:ud = -1 <;> simp [e]
  have r5:(ud != -1)=b1 := by rw [← p1]; by_cases e:ud = -1 <;> simp [e]
  have r2:(D == 0)=b2 := by rw [← p2]; by_cases e:D=0 <;> simp [e]
  replace hb := hid hb
  clear hbk k1 k2 k3 hu hd
  cases b1 <;> cases b2 <;> cases b3
  all_goals replace hres := hid hres
  all_goals first | (have r3:ud = -1 := by simpa using r1
                     clear p1 r1
                     subst r3) | (have r3:¬ ud = -1 := by simpa using r1
                                  clear p1)
  all_goals first | (have r4:D=0 := by simpa using r2
                     clear p2 r2
                     subst r4) | (have r4:¬ D=0 := by simpa using r2
                                  clear p2)
  all_goals go_enter Tryd.func67, Tryd.ntmps67
  all_goals go_wp2_with fail
  all_goals (with_reducible refine (h1.out _).mono ?_)
  all_goals rintro e w1 ⟨rfl, rfl⟩
  all_goals go_wp2_with fail
  all_goals (with_reducible refine (h2.out _).mono ?_)
  all_goals rintro e w1 ⟨rfl, rfl⟩
  all_goals go_wp2_with fail
  all_goals (with_reducible refine (h3.out _).mono ?_)
  all_goals rintro e w1 ⟨rfl, rfl⟩
  all_goals go_wp2_with fail
  all_goals go_ret
  all_goals exact ⟨by rw [hres.out]; first | rfl | (rw [show (Value.bool (true && (false || true)))=Value.bool (ud != -1) from by rw [r5]; rfl]; rfl) | (rw [show (Value.bool (true && (true || false)))=Value.bool (ud != -1) from by rw [r5]; rfl]; rfl) | (rw [show (Value.bool (true && (true || true)))=Value.bool (ud != -1) from by rw [r5]; rfl]; rfl), hb.out⟩
def findF (l:List Offer) (name:List UInt8):Option Offer := l.find? fun o => decide (o.name=name)
theorem off_cells {w:World} {R:Nat} {o:Offer} (h:w.heap[R]? = some (.cells (offCs o).toArray 44 (0, 0))):w.cell? ⟨R, 0, none⟩=some (sv o.name)∧w.cell? ⟨R, 1, none⟩=some (iv o.do)∧w.cell? ⟨R, 2, none⟩=some (iv o.undo)∧w.cell? ⟨R, 3, none⟩=some (iv o.due)∧w.cell? ⟨R, 4, none⟩=some (iv o.part)∧w.cell? ⟨R, 5, none⟩=some (iv o.amend)∧∀ i, w.frozen? ⟨R, i, none⟩=false :=
  ⟨(cell_of h).trans rfl, (cell_of h).trans rfl, (cell_of h).trans rfl, (cell_of h).trans rfl, (cell_of h).trans rfl, (cell_of h).trans rfl, fun i => free_of h⟩
theorem findF_hit {l:List Offer} {name:List UInt8} {k:Nat} {x:Offer} (hx:l[k]? = some x) (hp:x.name=name) (hn:∀ i y, i < k→l[i]? = some y→y.name≠name):findF l name=some x := by
  unfold findF
  rw [List.find?_eq_some_iff_getElem]
  obtain ⟨hk, rfl⟩ := List.getElem?_eq_some_iff.1 hx
  exact ⟨decide_eq_true hp, k, hk, rfl, fun j hj => by simpa using hn j _ hj (List.getElem?_eq_getElem (by omega))⟩
theorem findF_miss {l:List Offer} {name:List UInt8} (hn:∀ i y, i < l.length→l[i]? = some y→y.name≠name):findF l name=none := by
  unfold findF
  rw [List.find?_eq_none]
  intro x hx
  obtain ⟨i, hi⟩ := List.getElem?_of_mem hx
  simpa using hn i x (List.getElem?_eq_some_iff.1 hi).1 hi
def off0:Offer := ⟨[], 0, 0, 0, 0, 0⟩
theorem results_off {fn:Func} {p u:Tmp} (h:fn.results=#[.cell p 44, .tmp u]) (tmps:Array Value) (w:World) (R:Nat) (o:Offer) (x:Bool) (hp:tmps.getD p undef=.pointer (some ⟨R, 0, none⟩)) (hu:tmps.getD u undef=.bool x) (hR:w.heap[R]? = some (.cells (offCs o).toArray 44 (0, 0))) :
    (results fn tmps).run Tryd.prog w=.ok (.tuple #[.agg (offCs o).toArray, .bool x]) w := by
  rw [results_cell_tmp h, hp, hu]
  simp only [asAddr, Sem.run_pure, Result.andThen_ok]
  rw [run_loadVar_row w R 44 44 _ (0, 0) _ hR Tryd.underlying44 rfl (by kernel_rfl)]
  rfl
abbrev setOff (w:World) (R:Nat) (o:Offer):World := (((((w.setCell ⟨R, 0, none⟩ (sv o.name)).setCell ⟨R, 1, none⟩ (iv o.do)).setCell ⟨R, 2, none⟩ (iv o.undo)).setCell ⟨R, 3, none⟩ (iv o.due)).setCell ⟨R, 4, none⟩ (iv o.part)).setCell ⟨R, 5, none⟩ (iv o.amend)
theorem off_set {w:World} {R:Nat} {o0:Offer} (h:w.heap[R]? = some (.cells (offCs o0).toArray 44 (0, 0))) (o:Offer):(setOff w R o).heap[R]? = some (.cells (offCs o).toArray 44 (0, 0)) := by
  have a0 := heap_setCell_same h (i := 0) (sv o.name)
  have a1 := heap_setCell_same a0 (i := 1) (iv o.do)
  have a2 := heap_setCell_same a1 (i := 2) (iv o.undo)
  have a3 := heap_setCell_same a2 (i := 3) (iv o.due)
  have a4 := heap_setCell_same a3 (i := 4) (iv o.part)
  have a5 := heap_setCell_same a4 (i := 5) (iv o.amend)
  simpa using a5
theorem below_setOff {R:Nat} {a w:World} (h:Below a.heap.size a w) (hR:a.heap.size≤R) (o:Offer):Below a.heap.size a (setOff w R o) :=
  below_set (below_set (below_set (below_set (below_set (below_set h hR _) hR _) hR _) hR _) hR _) hR _
set_option maxHeartbeats 4000000 in
set_option maxRecDepth 100000 in
theorem cfind_any (l:List Offer) (name:List UInt8) (S:Foot) (v:Value) (w:World) (hl:l.length≤1048576) (hr:SlR 6 OffR S w l v) :
    Calls Tryd.prog 43 #[v, sv name] w fun e w' => e=.returned (.tuple #[.agg (offCs ((findF l name).getD off0)).toArray, .bool (findF l name).isSome])∧Below w.heap.size w w' := by
  obtain ⟨a, c, rfl, -⟩ := hr.slice
  obtain ⟨res, hres⟩:∃ r, r=findF l name := ⟨_, rfl⟩
  rw [← hres]
  have hb:Below w.heap.size w (w.alloc (.cells #[.string ⟨#[]⟩, .int .i64 0, .int .i64 0, .int .i64 0, .int .i64 0, .int .i64 0] 44 (0, 0))) := (Below.refl _ w).alloc (Nat.le_refl _) _
  have hrow:(w.alloc (.cells #[.string ⟨#[]⟩, .int .i64 0, .int .i64 0, .int .i64 0, .int .i64 0, .int .i64 0] 44 (0, 0))).heap[w.heap.size]? = some (.cells (offCs off0).toArray 44 (0, 0)) := heap_alloc_new' w _
  have hrow' := hid hrow
  have hb' := hid hb
  replace hres := hid hres
  replace hr := hid hr
  clear hb hrow
  go_enter Tryd.func43, Tryd.ntmps43
  go_wp2_with fail
  go_loopg [7, 10] l.length (fun f v7 v10 wr => ∃ i:Nat, v10=iv i∧i+f=l.length∧Hid (∀ j y, j < i→l[j]? = some y→y.name≠name)∧Hid (wr.heap[w.heap.size]? = some (.cells (offCs off0).toArray 44 (0, 0)))∧Hid (Below w.heap.size w wr))
  case atStart => exact ⟨0, rfl, by omega, hid (fun j y h => by omega), hrow', hb'⟩
  case round =>
    obtain ⟨i, rfl, hif, hn, hrow, hB⟩ := hrel
    clear hrow' hb'
    by_cases hin:i < l.length
    · have q1:decide ((i:Int) < (l.length:Int))=true := decide_eq_true (by omega)
      have q1':decide (i < l.length)=true := decide_eq_true hin
      obtain ⟨x, hx⟩:∃ x, l[i]? = some x := ⟨_, List.getElem?_eq_getElem hin⟩
      obtain ⟨g, o, cs, hidx, hS, hg, hc, hR⟩ := (hr.out.below goodOff hB.out).at (P := Tryd.prog) (t := 22) (by kernel_rfl) (fun _ => by kernel_rfl) hx
      have hcs:cs=offCs x := hR
      subst hcs
      have c0 := hc 0 _ rfl
      have c1 := hc 1 _ rfl
      have c2 := hc 2 _ rfl
      have c3 := hc 3 _ rfl
      have c4 := hc 4 _ rfl
      have c5 := hc 5 _ rfl
      rw [Nat.add_zero] at c0
      have hb3:Below w.heap.size w (wr.alloc (.cells #[sv x.name, iv x.do, iv x.undo, iv x.due, iv x.part, iv x.amend] 44 (0, 0))) := hB.out.alloc hB.out.size _
      have hrow3:(wr.alloc (.cells #[sv x.name, iv x.do, iv x.undo, iv x.due, iv x.part, iv x.amend] 44 (0, 0))).heap[w.heap.size]? = some (.cells (offCs off0).toArray 44 (0, 0)) := by
        rw [Below.heap_alloc _ _ _ (lt_of_heap hrow.out)]; exact hrow.out
      replace hb3 := hid hb3
      replace hrow3 := hid hrow3
      clear hc hR hS hg
      by_cases he:x.name=name
      · have hfin := hid (hres.out.trans (findF_hit hx he hn.out))
        subst he
        clear hn hx hres
        obtain ⟨z0, z1, z2, z3, z4, z5, fz⟩ := off_cells hrow3.out
        go_wp2_with fail
        refine bodyPost_ret (v := .tuple #[.agg (offCs x).toArray, .bool true]) (results_off (by rfl) _ _ w.heap.size x true (by rfl) (by rfl) (off_set hrow3.out x)) rfl ⟨by rw [hfin.out]; rfl, below_setOff hb3.out (Nat.le_refl _) x⟩
      · have hn2 := hid (show ∀ j y, j < i+1→l[j]? = some y→y.name≠name from fun j y hj hy => by
          by_cases e:j=i
          · subst e; rw [hx] at hy; injection hy with hy; rw [← hy]; exact he
          · exact hn.out j y (by omega) hy)
        have he2:(x.name == name)=false := by simpa using he
        clear hn hx
        go_wp2_with fail
        go_roundg (l.length - (i+1))
        case measure => omega
        case rel => exact ⟨i+1, by go_num, by omega, hn2, hrow3, hb3⟩
    · have q1:decide ((i:Int) < (l.length:Int))=false := decide_eq_false (by omega)
      have q1':decide (i < l.length)=false := decide_eq_false hin
      have hfin := hid (hres.out.trans (findF_miss fun j y hj hy => hn.out j y (by omega) hy))
      clear hn
      obtain ⟨z0, z1, z2, z3, z4, z5, fz⟩ := off_cells hrow.out
      go_wp2_with fail
      refine bodyPost_ret (v := .tuple #[.agg (offCs off0).toArray, .bool false]) (results_off (by rfl) _ _ w.heap.size off0 false (by rfl) (by rfl) (off_set hrow.out off0)) rfl ⟨by rw [hfin.out]; rfl, below_setOff hB.out (Nat.le_refl _) off0⟩
end Go.Proofs.YtdmgfnnpjoihfaaDoor
