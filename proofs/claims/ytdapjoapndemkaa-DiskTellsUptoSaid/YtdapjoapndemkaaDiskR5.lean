/- Chapter 05 (disk): the reference's Arm and Copy. -/
import Derived.Test.YtdapjoapndemkaaDiskR4
import Derived.Maps.AppendAt
import Derived.Deep.RegionHeld3
set_option linter.unusedVariables false
namespace Go.Proofs.Ytdapjoapndemkaa
open Go.RowKit
open Go.Lib (hid)
/-- append(v, vs...): v a row of the call's own, vs any row, nil let in -/
theorem append_row {P : Program} (w : World) (base : Nat) (t ty e : TypeId) (i : TypeInfo) (z : Value) (size bytes : Nat) (ht : P.underlying t = some (.slice e)) (hi : P.info? e = some i) (hz : i.zero = some z)
    (hsize : i.size = size) (hby : i.bytes = bytes) (hzs : z.cells.size = size) (hsz : 0 < size) (v : Value) (n : Nat) (xs : List Value) (hown : w.ownsRow base e size v n xs)
    (B : Nat) (vs : Value) (m : Nat) (news : List Value) (hr : Row B w size vs m news) (h1 : ∀ u ∈ news, u.oneCell' = true) (h63 : n + m ≤ maxLen) (hbytes : (n + m) * bytes ≤ 140737488355328) (hbase : base ≤ w.heap.size) :
    ∃ v' w', (Builtin.append_ #[t, t] ty #[v, vs]).run P w = .ok v' w' ∧ w'.ownsRow base e size v' (n + m) (xs ++ news) ∧ w.grownBy w' v.ownBlock ∧ (v'.ownBlock = v.ownBlock ∨ v'.ownBlock = some w.heap.size) := by
  obtain ⟨a, cap, b, off, rfl, hl, ha, hc⟩ := hr
  rcases a with _ | ad
  · have hm : m = 0 := by
      rcases Nat.eq_zero_or_pos m with h | h
      · exact h
      · cases (ha h).1
    subst hm
    have hn : news = [] := List.eq_nil_of_length_eq_zero (by simpa using hl)
    subst hn
    refine ⟨v, w, ?_, by simpa using hown, World.grownBy.refl w _, .inl rfl⟩
    rcases hown.2 with ⟨rfl, rfl⟩ | ⟨g, cap, cur, rfl, _, _, hnc, _⟩
    · simp [Builtin.append_, run_underlying ht, sizeOf, typeInfo, hi, Builtin.lenOf, Builtin.firstCells]
    · simp [Builtin.append_, run_underlying ht, sizeOf, typeInfo, hi, Builtin.lenOf, Builtin.firstCells, hnc, storeCells]
  · have hcells : ∀ j u, news[j]? = some u → w.cell? (ad.add j) = some u := by
      intro j u hu
      obtain ⟨hj, rfl⟩ := List.getElem?_eq_some_iff.1 hu
      have hm : 0 < m := by
        rcases Nat.eq_zero_or_pos m with h | h
        · rw [hl, h, Nat.zero_mul] at hj; omega
        · exact h
      have e := (ha hm).1
      injection e with e
      subst e
      have e2 : (⟨b, off, none⟩ : Addr).add j = ⟨b, off + j, none⟩ := by simp only [Addr.add]; split <;> simp_all
      rw [e2]
      exact hc j hj
    obtain ⟨v', w', hrun, h2, h3, h4, h5⟩ := run_append_own_at (P := P) w base t ty e i z size bytes ht hi hz hsize hby hzs hsz v n xs hown ad m cap news hl hcells h1 h63 hbytes hbase
    exact ⟨v', w', hrun, h2, h3, h5⟩
theorem infoInt : (Try.prog.info? 3).map (fun i => (i.zero, i.size, i.bytes)) = some (some (.int .i64 0), 1, 8) := by kernel_rfl
theorem infoFile : (Try.prog.info? 66).map (fun i => (i.zero, i.size, i.bytes)) = some (some (.agg #[.string .empty, .string .empty]), 2, 32) := by kernel_rfl
theorem empty_own (w : World) (e : TypeId) (size base : Nat) (hb : base ≤ w.heap.size) : (w.alloc (.cells #[] e)).ownsRow base e size (.slice (some ⟨w.heap.size, 0, none⟩) 0 0) 0 [] :=
  World.ownsRow_made w #[] 0 hb (by unfold maxLen; omega) (by simp)
theorem iv_one (l : List Int) : ∀ u ∈ l.map iv, u.oneCell' = true := by
  intro u hu; rw [List.mem_map] at hu; obtain ⟨x, _, rfl⟩ := hu; rfl
/-- append([]int{}, l...) -/
theorem ints_copy (w : World) (B : Nat) (v : Value) (l : List Int) (hr : Row B w 1 v l.length (l.map iv)) (hB : B ≤ w.heap.size) (hl : l.length ≤ 1048576) :
    ∃ v' w', (Builtin.append_ #[22, 22] 22 #[.slice (some ⟨w.heap.size, 0, none⟩) 0 0, v]).run Try.prog (w.alloc (.cells #[] 3)) = .ok v' w' ∧ w'.ownsRow w.heap.size 3 1 v' l.length (l.map iv) ∧ Below w.heap.size w w' := by
  obtain ⟨i0, hi, hz0, hz1, hz2⟩ := info_parts infoInt
  have hb := (Below.refl w.heap.size w).alloc (Nat.le_refl _) (.cells #[] 3)
  obtain ⟨v', w', h1, h2, h3, h4⟩ := append_row (P := Try.prog) (w.alloc (.cells #[] 3)) w.heap.size 22 22 3 i0 (.int .i64 0) 1 8 (by kernel_rfl) hi hz0 hz1 hz2 rfl (by decide) _ 0 [] (empty_own w 3 1 w.heap.size (Nat.le_refl _)) B v l.length (l.map iv)
    (hr.below hb hB) (iv_one l) (by unfold maxLen; omega) (by omega) (by simp)
  rw [Nat.zero_add, List.nil_append] at h2
  exact ⟨v', w', h1, h2, hb.grown h3 (by simp) (fun k hk => by simp [Value.ownBlock] at hk; omega)⟩
theorem own_mono {w : World} {base base' : Nat} {e : TypeId} {sz n : Nat} {v : Value} {xs : List Value} (h : w.ownsRow base e sz v n xs) (hb : base' ≤ base) : w.ownsRow base' e sz v n xs := by
  refine owns_blk h (fun _ _ => rfl) (fun k hk => ?_)
  have := (h.lt k hk).1
  omega
set_option maxHeartbeats 1000000 in
set_option maxRecDepth 100000 in
theorem rarm_any (b fb cp : Nat) (vk : Value) (x : RS) (n : Int) (l : List Int) (v : Value) (w : World) (h : RV b fb cp vk x w) (hn : n ≤ 9223372036854775807) (hv : ∀ w', Fr (ff b fb) w w' → Row w'.heap.size w' 1 v l.length (l.map iv)) (hl : l.length ≤ 1048576) :
    Calls Try.prog 46 #[pt b, iv n, v] w fun e w' => e = .returned (.tuple #[]) ∧ (∃ vk', RV b fb cp vk' (rArm n l x) w' ∧ ∀ k, vk'.ownBlock = some k → w.heap.size ≤ k) ∧ Fr (ff b fb) w w' := by
  obtain ⟨c1, c2, c3, c4, f1, f2, f3⟩ := h.head
  have g4 := h.free 4
  have h1 := h.set 3 (iv (n.toNat : Nat)) (x' := { x with armed := n.toNat }) rfl rfl rfl rfl
  have hf1 : Fr (ff b fb) w (w.setCell ⟨b, 3, none⟩ (iv (n.toNat : Nat))) := (Fr.refl _ _).setCell (Or.inl (Or.inl rfl)) _
  obtain ⟨v', w2, hrun, hown, hb⟩ := ints_copy _ _ v l (hv _ hf1) (Nat.le_refl _) hl
  have h2 := h1.fr (Fr.of_below hb (fun _ => False)) (fun _ _ h => h)
  have hf2 := hf1.trans (Fr.of_below hb (ff b fb))
  have hnb : v'.ownBlock ≠ some b ∧ v'.ownBlock ≠ some fb := by
    have hsz : (w.setCell ⟨b, 3, none⟩ (iv (n.toNat : Nat))).heap.size = w.heap.size := by simp
    refine ⟨fun e => ?_, fun e => ?_⟩
    · have h8 := (hown.lt _ e).1; have h9 := h.foot_lt (Or.inl rfl); omega
    · have h8 := (hown.lt _ e).1; have h9 := h.foot_lt (Or.inr (Or.inl rfl)); omega
  have h3 : RV b fb cp v' (rArm n l x) (w2.setCell ⟨b, 4, none⟩ v') := by
    refine ⟨heap_setCell_same h2.blk v', ?_, h2.cap, owns_blk hown (fun k hk => heap_setCell_other v' (fun e => hnb.1 (by rw [hk, e]))) (fun _ _ => Nat.zero_le _)⟩
    obtain ⟨cur, q1, q2⟩ := h2.fls
    exact ⟨cur, by rw [heap_setCell_other v' (Ne.symm h2.ne)]; exact q1, q2⟩
  have g5 := h2.free 4
  have c5 := h2.cell 4
  rw [show (rCells fb cp vk { x with armed := n.toNat })[4]? = some vk from rfl] at c5
  have hlow := hid (show ∀ k, v'.ownBlock = some k → w.heap.size ≤ k from fun k hk => by have := (hown.lt k hk).1; simpa using this)
  obtain ⟨va, vc, rfl, -, -⟩ := own_len hown
  obtain ⟨a, cap, vb, vo, rfl, -⟩ := hv w (Fr.refl _ _)
  rw [show (w.setCell ⟨b, 3, none⟩ (iv (n.toNat : Nat))).heap.size = w.heap.size by simp] at hrun
  have hw2 : b < w.heap.size := h.foot_lt (Or.inl rfl)
  replace h3 := hid h3
  replace hf2 := hid hf2
  clear h2 h1 hown hb hnb hf1 h hv c1 c2
  rcases (by omega : n < 0 ∨ 0 ≤ n) with h0 | h0
  · have hn0 : n.toNat = 0 := by omega
    rw [hn0] at hrun
    replace hrun : (Builtin.append_ #[22, 22] 22 #[.slice (some ⟨w.heap.size, 0, none⟩) 0 0, .slice a l.length cap]).run Try.prog ((w.setCell ⟨b, 3, none⟩ (iv 0)).alloc (.cells #[] 3)) = .ok (.slice va l.length vc) w2 := hrun
    go_enter Try.func46, Try.ntmps46
    go_wp2_with (first | (at_builtin; refine wpList_append_run rfl (.tmp 12) (.tmp 13) 22 22 rfl rfl rfl hrun ?_))
    go_end0
    exact ⟨rfl, ⟨_, h3.out, hlow.out⟩, hf2.out.setCell (Or.inl (Or.inl rfl)) _⟩
  · obtain ⟨m, rfl⟩ : ∃ m : Nat, n = (m : Int) := ⟨n.toNat, by omega⟩
    have h63 : (m : Int) ≤ 9223372036854775807 := hn
    rw [Int.toNat_natCast] at hrun
    clear hn
    go_enter Try.func46, Try.ntmps46
    go_wp2_with (first | (at_builtin; refine wpList_append_run rfl (.tmp 12) (.tmp 13) 22 22 rfl rfl rfl hrun ?_))
    go_end0
    exact ⟨rfl, ⟨_, h3.out, hlow.out⟩, hf2.out.setCell (Or.inl (Or.inl rfl)) _⟩
/-- the same onto an empty row that lies anywhere -/
theorem ints_app (W : World) (base g0 : Nat) (hown : W.ownsRow base 3 1 (.slice (some ⟨g0, 0, none⟩) 0 0) 0 []) (hbase : base ≤ W.heap.size) (B : Nat) (v : Value) (l : List Int) (hr : Row B W 1 v l.length (l.map iv)) (hl : l.length ≤ 1048576) :
    ∃ v' w', (Builtin.append_ #[22, 22] 22 #[.slice (some ⟨g0, 0, none⟩) 0 0, v]).run Try.prog W = .ok v' w' ∧ w'.ownsRow base 3 1 v' l.length (l.map iv) ∧ W.grownBy w' (some g0) := by
  obtain ⟨i0, hi, hz0, hz1, hz2⟩ := info_parts infoInt
  obtain ⟨v', w', h1, h2, h3, h4⟩ := append_row (P := Try.prog) W base 22 22 3 i0 (.int .i64 0) 1 8 (by kernel_rfl) hi hz0 hz1 hz2 rfl (by decide) _ 0 [] hown B v l.length (l.map iv)
    hr (iv_one l) (by unfold maxLen; omega) (by omega) hbase
  rw [Nat.zero_add, List.nil_append] at h2
  exact ⟨v', w', h1, h2, h3⟩
/-- append([]File{}, d.Files...) -/
theorem files_app (w : World) (base g0 : Nat) (hown : w.ownsRow base 66 2 (.slice (some ⟨g0, 0, none⟩) 0 0) 0 []) (hbase : base ≤ w.heap.size) (fb cp : Nat) (cur : Array Value) (x : RS) (hb : w.heap[fb]? = some (.cells cur 66 (0, 0))) (hc : FCells cur x.ls x.rs) :
    ∃ g cp' cur' w', (Builtin.append_ #[62, 62] 62 #[.slice (some ⟨g0, 0, none⟩) 0 0, .slice (some ⟨fb, 0, none⟩) 8 cp]).run Try.prog w = .ok (.slice (some ⟨g, 0, none⟩) 8 cp') w' ∧
      8 ≤ cp' ∧ cp' ≤ maxLen ∧ base ≤ g ∧ w'.heap[g]? = some (.cells cur' 66 (0, 0)) ∧ FCells cur' x.ls x.rs ∧ w.grownBy w' (some g0) := by
  obtain ⟨i0, hi, hz0, hz1, hz2⟩ := info_parts infoFile
  have hlt := lt_of_heap hb
  have hsz := hc.lt
  have hcs : ∀ j, j < 16 → ∃ u : List UInt8, (cur.toList.take 16)[j]? = some (sv u) ∧ cur[j]? = some (sv u) := by
    intro j hj
    have e : (cur.toList.take 16)[j]? = cur[j]? := by rw [List.getElem?_take_of_lt hj, Array.getElem?_toList]
    rcases Nat.mod_two_eq_zero_or_one j with h | h
    · have h2 := (hc (j / 2) (by omega)).1
      rw [show j / 2 * 2 = j by omega] at h2
      exact ⟨_, e.trans h2, h2⟩
    · have h2 := (hc (j / 2) (by omega)).2
      rw [show j / 2 * 2 + 1 = j by omega] at h2
      exact ⟨_, e.trans h2, h2⟩
  have hl16 : (cur.toList.take 16).length = 8 * 2 := by rw [List.length_take]; simp; omega
  have hrow : Row w.heap.size w 2 (.slice (some ⟨fb, 0, none⟩) 8 cp) 8 (cur.toList.take 16) := by
    refine ⟨_, _, fb, 0, rfl, hl16, fun _ => ⟨rfl, hlt⟩, fun j hj => ?_⟩
    obtain ⟨u, h1, h2⟩ := hcs j (by omega)
    rw [Nat.zero_add, cell_of hb, h2]
    rw [List.getElem?_eq_getElem hj] at h1
    exact h1.symm
  have hone : ∀ u ∈ cur.toList.take 16, u.oneCell' = true := by
    intro u hu
    obtain ⟨j, hj⟩ := List.mem_iff_getElem?.1 hu
    obtain ⟨v, h1, h2⟩ := hcs j (by have := (List.getElem?_eq_some_iff.1 hj).1; omega)
    rw [hj] at h1
    injection h1 with h1
    subst h1; rfl
  obtain ⟨v', w', h1, h2, h3, h4⟩ := append_row (P := Try.prog) w base 62 62 66 i0 _ 2 32 (by kernel_rfl) hi hz0 hz1 hz2 rfl (by decide) _ 0 [] hown w.heap.size _ 8 _
    hrow hone (by unfold maxLen; omega) (by omega) hbase
  rw [Nat.zero_add, List.nil_append] at h2
  rcases h2.2 with ⟨_, h⟩ | ⟨g, cap, cur', rfl, hg1, hg2, hn, hm, hs, ht⟩
  · cases h
  · refine ⟨g, cap, cur', w', h1, hn, hm, hg1, hg2, fun f hf => ?_, h3⟩
    have e : ∀ j, j < 16 → cur'[j]? = cur[j]? := by
      intro j hj
      have := congrArg (fun l => l[j]?) ht
      rw [List.getElem?_take_of_lt (by omega), List.getElem?_take_of_lt hj, Array.getElem?_toList, Array.getElem?_toList] at this
      exact this
    rw [e _ (by omega), e _ (by omega)]
    exact hc f hf
theorem copy_fin {w w1 w2 : World} {b fb cp g cp' : Nat} {vk v' : Value} {x : RS} {cur' : Array Value} (ho : ROk x) (q1 : 8 ≤ cp') (q2 : cp' ≤ maxLen) (q3 : w.heap.size ≤ g) (q4 : w2.heap[g]? = some (.cells cur' 66 (0, 0))) (q5 : FCells cur' x.ls x.rs)
    (hown : w2.ownsRow w.heap.size 3 1 v' x.keep.length (x.keep.map iv)) (hb : Below w.heap.size w w2) :
    Rk (from_ w.heap.size) w2.heap.size x (w2.alloc (.cells (rCells g cp' v' x) 64)) ∧ Below w.heap.size w (w2.alloc (.cells (rCells g cp' v' x) 64)) := by
  have hz := hb.size
  refine ⟨⟨ho, g, cp', v', ⟨heap_alloc_new' _ _, ⟨cur', heap_alloc_lt q4, q5⟩, ⟨q1, q2⟩, own_mono (hown.alloc _) (Nat.zero_le _)⟩, fun k hk => ?_⟩, hb.alloc hz _⟩
  show w.heap.size ≤ k
  rcases hk with rfl | rfl | hk
  · exact hz
  · exact q3
  · exact (hown.lt k hk).1
/-- the copy's two rows, in one of the orders in which they are made: W the world ahead of the first append, e1 and e2 the empty rows; keep block W.heap.size.. apart -/
theorem copy_two {w W : World} {b fb cp : Nat} {vk : Value} {x : RS} (h : RV b fb cp vk x w) (ho : ROk x) (hW : Below w.heap.size w W) (g0 : Nat) (h0 : W.ownsRow w.heap.size 66 2 (.slice (some ⟨g0, 0, none⟩) 0 0) 0 []) :
    ∃ g cp' w1, (Builtin.append_ #[62, 62] 62 #[.slice (some ⟨g0, 0, none⟩) 0 0, .slice (some ⟨fb, 0, none⟩) 8 cp]).run Try.prog W = .ok (.slice (some ⟨g, 0, none⟩) 8 cp') w1 ∧ W.grownBy w1 (some g0) ∧ Below w.heap.size w w1 ∧ RV b fb cp vk x w1 ∧
      ∀ (W2 : World) (g2 : Nat), Below w1.heap.size w1 W2 → W2.ownsRow w.heap.size 3 1 (.slice (some ⟨g2, 0, none⟩) 0 0) 0 [] → ∃ v' w2, (Builtin.append_ #[22, 22] 22 #[.slice (some ⟨g2, 0, none⟩) 0 0, vk]).run Try.prog W2 = .ok v' w2 ∧ RV b fb cp vk x w2 ∧ (∃ va vc, v' = .slice va x.keep.length vc) ∧
        Rk (from_ w.heap.size) w2.heap.size x (w2.alloc (.cells (rCells g cp' v' x) 64)) ∧ Below w.heap.size w (w2.alloc (.cells (rCells g cp' v' x) 64)) := by
  have hWv : RV b fb cp vk x W := h.fr (Fr.of_below hW (fun _ => False)) (fun _ _ h => h)
  obtain ⟨cur, hf1, hf2⟩ := hWv.fls
  obtain ⟨g, cp', cur', w1, hrun1, q1, q2, q3, q4, q5, hg1⟩ := files_app W w.heap.size g0 h0 hW.size fb cp cur x hf1 hf2
  have hlow : w.heap.size ≤ g0 := (h0.lt g0 rfl).1
  have hb1 : Below w.heap.size w w1 := hW.grown hg1 hW.size (fun k hk => by injection hk with hk; omega)
  have h1 : RV b fb cp vk x w1 := h.fr (Fr.of_below hb1 (fun _ => False)) (fun _ _ h => h)
  refine ⟨g, cp', w1, hrun1, hg1, hb1, h1, fun W2 g2 hW2 h2 => ?_⟩
  have hW2b : Below w.heap.size w W2 := hb1.trans (hW2.mono hb1.size)
  have hW2v : RV b fb cp vk x W2 := h.fr (Fr.of_below hW2b (fun _ => False)) (fun _ _ h => h)
  obtain ⟨v', w2, hrun2, hown, hg2⟩ := ints_app W2 w.heap.size g2 h2 hW2b.size W2.heap.size vk x.keep (Row.of_owns hW2v.own) ho.keep.1
  have hlow2 : w.heap.size ≤ g2 := (h2.lt g2 rfl).1
  have hb2 : Below w.heap.size w w2 := hW2b.grown hg2 hW2b.size (fun k hk => by injection hk with hk; omega)
  have hv2 : RV b fb cp vk x w2 := h.fr (Fr.of_below hb2 (fun _ => False)) (fun _ _ h => h)
  have q4' : W2.heap[g]? = some (.cells cur' 66 (0, 0)) := below_keep hW2 q4 (lt_of_heap q4)
  have q6 : w2.heap[g]? = some (.cells cur' 66 (0, 0)) := by
    have hne : (some g : Option Nat) ≠ some g2 := by
      intro e
      injection e with e
      subst e
      obtain ⟨c9, hc9⟩ := own_type h2 (k := g) rfl
      rw [q4'] at hc9
      injection hc9 with hc9
      injection hc9 with _ ht
      exact absurd ht (by decide)
    rw [hg2.block g (lt_of_heap q4') hne]; exact q4'
  obtain ⟨va, vc, hvf, -, -⟩ := own_len hown
  have hfin := copy_fin (w := w) (w1 := w1) (b := b) (fb := fb) (cp := cp) (vk := vk) ho q1 q2 q3 q6 q5 hown hb2
  exact ⟨v', w2, hrun2, hv2, ⟨va, vc, hvf⟩, hfin.1, hfin.2⟩
/-- a run of append, closed to unfolding -/
structure AppRun (P : Program) (t u ty : TypeId) (vs vx v' : Value) (W W' : World) : Prop where
  out : (Builtin.append_ #[t, u] ty #[vs, vx]).run P W = .ok v' W'
theorem step_append_shut {P : Program} {ops : Array Oper} {o : Oper} {a : Act} {w w' : World} {K : Act → World → Prop} {Q : Exit → Act → World → Prop} {E : Prop} (hg : o.guard = none) (s x : Operand) {t u : TypeId}
    (hop : o.op = Op.call { callee := Callee.builtin Builtin.append, args := #[s, x], argTypes := #[t, u] }) {vs vx v' : Value} (hs : a.eval s = vs) (hx : a.eval x = vx)
    (hrun : AppRun P t u o.type vs vx v' w w') (hK : K (a.put o.dst v') w') : if Region.wanted o (yielded ops a.tmps) = true then Oper.wp P o a w K Q else E :=
  step_append_run hg s x t u hop hs hx hrun.out hK
theorem RV.five {b fb cap : Nat} {vk : Value} {x : RS} {w : World} (hv : RV b fb cap vk x w) : w.cell? ⟨b, 0, none⟩ = some (.slice (some ⟨fb, 0, none⟩) 8 cap) ∧ w.cell? ⟨b, 1, none⟩ = some (iv x.lost) ∧ w.cell? ⟨b, 2, none⟩ = some (.bool x.down) ∧ w.cell? ⟨b, 3, none⟩ = some (iv x.armed) ∧ w.cell? ⟨b, 4, none⟩ = some vk :=
  ⟨hv.cell 0, hv.cell 1, hv.cell 2, hv.cell 3, hv.cell 4⟩

set_option maxHeartbeats 4000000 in
set_option maxRecDepth 100000 in
theorem rcopy_any (b fb cp : Nat) (vk : Value) (x : RS) (w : World) (h : RV b fb cp vk x w) (ho : ROk x) :
    Calls Try.prog 27 #[pt b] w fun e w' => ∃ b', e = .returned (pt b') ∧ Rk (from_ w.heap.size) b' x w' ∧ Below w.heap.size w w' := by
  have hbl := h.foot_lt (Or.inl rfl)
  have hE : ∀ W : World, (W.alloc (.cells #[] 66)).heap.size = W.heap.size + 1 := fun W => by simp
  have hI : ∀ W : World, (W.alloc (.cells #[] 3)).heap.size = W.heap.size + 1 := fun W => by simp
  have hB0 : Below w.heap.size w w.drew := (Below.refl _ w).drew
  -- the file row made and filled, then the other
  obtain ⟨gA, cA, wA, runA1, grA, bA, vA, restA⟩ := copy_two h ho (hB0.alloc (Nat.le_refl _) (.cells #[] 66)) w.heap.size (empty_own w.drew 66 2 w.heap.size (Nat.le_refl _))
  obtain ⟨kA, wA2, runA2, vA2, ⟨kAa, kAc, rfl⟩, finA, belA⟩ := restA (wA.alloc (.cells #[] 3)) wA.heap.size ((Below.refl _ _).alloc (Nat.le_refl _) _) (empty_own wA 3 1 w.heap.size bA.size)
  -- both made, the file row first
  have oB1 : ((w.drew.alloc (.cells #[] 66)).alloc (.cells #[] 3)).ownsRow w.heap.size 3 1 (.slice (some ⟨w.heap.size + 1, 0, none⟩) 0 0) 0 [] := by
    have := empty_own (w.drew.alloc (.cells #[] 66)) 3 1 w.heap.size (by rw [hE]; exact Nat.le_succ _)
    rw [hE] at this; exact this
  obtain ⟨gB, cB, wB, runB1, grB, bB, vB, restB⟩ := copy_two h ho ((hB0.alloc (Nat.le_refl _) (.cells #[] 66)).alloc (by rw [hE]; exact Nat.le_succ _) (.cells #[] 3)) w.heap.size ((empty_own w.drew 66 2 w.heap.size (Nat.le_refl _)).alloc _)
  obtain ⟨kB, wB2, runB2, vB2, ⟨kBa, kBc, rfl⟩, finB, belB⟩ := restB wB (w.heap.size + 1) (Below.refl _ _) (oB1.kept grB (Or.inr (by simp [Value.ownBlock])))
  -- both made, the other row first
  have oC0 : ((w.drew.alloc (.cells #[] 3)).alloc (.cells #[] 66)).ownsRow w.heap.size 66 2 (.slice (some ⟨w.heap.size + 1, 0, none⟩) 0 0) 0 [] := by
    have := empty_own (w.drew.alloc (.cells #[] 3)) 66 2 w.heap.size (by rw [hI]; exact Nat.le_succ _)
    rw [hI] at this; exact this
  obtain ⟨gC, cC, wC, runC1, grC, bC, vC, restC⟩ := copy_two h ho ((hB0.alloc (Nat.le_refl _) (.cells #[] 3)).alloc (by rw [hI]; exact Nat.le_succ _) (.cells #[] 66)) (w.heap.size + 1) oC0
  obtain ⟨kC, wC2, runC2, vC2, ⟨kCa, kCc, rfl⟩, finC, belC⟩ := restC wC w.heap.size (Below.refl _ _) (((empty_own w.drew 3 1 w.heap.size (Nat.le_refl _)).alloc _).kept grC (Or.inr (by simp [Value.ownBlock])))
  have sA := bA.size
  have sB := bB.size
  have sC := bC.size
  have f0 := h.five
  have fA := vA.five
  have fA2 := vA2.five
  have fB := vB.five
  have fB2 := vB2.five
  have fC := vC.five
  have fC2 := vC2.five
  obtain ⟨ka, kc, rfl, -, -⟩ := own_len h.own
  replace finA := hid finA
  replace finB := hid finB
  replace finC := hid finC
  replace belA := hid belA
  replace belB := hid belB
  replace belC := hid belC
  have lA : b < wA.heap.size := by omega
  have lB : b < wB.heap.size := by omega
  have lC : b < wC.heap.size := by omega
  have lA2 : b < wA2.heap.size := vA2.foot_lt (Or.inl rfl)
  have lB2 : b < wB2.heap.size := vB2.foot_lt (Or.inl rfl)
  have lC2 : b < wC2.heap.size := vC2.foot_lt (Or.inl rfl)
  have shA1 : AppRun Try.prog 62 62 62 (.slice (some ⟨w.heap.size, 0, none⟩) 0 0) (.slice (some ⟨fb, 0, none⟩) 8 cp) (.slice (some ⟨gA, 0, none⟩) 8 cA) ((w.alloc (.cells #[] 66)).drew) wA := ⟨runA1⟩
  have shB1 : AppRun Try.prog 62 62 62 (.slice (some ⟨w.heap.size, 0, none⟩) 0 0) (.slice (some ⟨fb, 0, none⟩) 8 cp) (.slice (some ⟨gB, 0, none⟩) 8 cB) (((w.alloc (.cells #[] 66)).alloc (.cells #[] 3)).drew) wB := ⟨runB1⟩
  have shC1 : AppRun Try.prog 62 62 62 (.slice (some ⟨w.heap.size + 1, 0, none⟩) 0 0) (.slice (some ⟨fb, 0, none⟩) 8 cp) (.slice (some ⟨gC, 0, none⟩) 8 cC) (((w.alloc (.cells #[] 3)).alloc (.cells #[] 66)).drew) wC := ⟨runC1⟩
  have shA2 : AppRun Try.prog 22 22 22 (.slice (some ⟨wA.heap.size, 0, none⟩) 0 0) (.slice ka x.keep.length kc) (.slice kAa x.keep.length kAc) (wA.alloc (.cells #[] 3)) wA2 := ⟨runA2⟩
  have shB2 : AppRun Try.prog 22 22 22 (.slice (some ⟨w.heap.size + 1, 0, none⟩) 0 0) (.slice ka x.keep.length kc) (.slice kBa x.keep.length kBc) wB wB2 := ⟨runB2⟩
  have shC2 : AppRun Try.prog 22 22 22 (.slice (some ⟨w.heap.size, 0, none⟩) 0 0) (.slice ka x.keep.length kc) (.slice kCa x.keep.length kCc) wC wC2 := ⟨runC2⟩
  obtain ⟨c0, c1, c2, c3, c4⟩ := f0
  clear runA1 runA2 runB1 runB2 runC1 runC2
  clear h vA vA2 vB vB2 vC vC2 oB1 oC0 restA restB restC grA grB grC bA bB bC hB0 hE hI ho sA sB sC
  go_enter Try.func27, Try.ntmps27
  go_wp2_with fail
  go_region_held3 (fun w' => w'.cell? ⟨b, 0, none⟩ = some (.slice (some ⟨fb, 0, none⟩) 8 cp) ∧ w'.cell? ⟨b, 1, none⟩ = some (iv x.lost) ∧ w'.cell? ⟨b, 2, none⟩ = some (.bool x.down) ∧ w'.cell? ⟨b, 3, none⟩ = some (iv x.armed) ∧ w'.cell? ⟨b, 4, none⟩ = some (.slice ka x.keep.length kc)) (first | exact fA | exact fB | exact fC | exact fA2 | exact fB2 | exact fC2 | go_keep) (first | (refine step_append_shut (by rfl) (.tmp 3) (.tmp 7) (by rfl) (by rfl) (by rfl) shA1 ?_) | (refine step_append_shut (by rfl) (.tmp 3) (.tmp 7) (by rfl) (by rfl) (by rfl) shB1 ?_) | (refine step_append_shut (by rfl) (.tmp 3) (.tmp 7) (by rfl) (by rfl) (by rfl) shC1 ?_) | (refine step_append_shut (by rfl) (.tmp 21) (.tmp 25) (by rfl) (by rfl) (by rfl) shA2 ?_) | (refine step_append_shut (by rfl) (.tmp 21) (.tmp 25) (by rfl) (by rfl) (by rfl) shB2 ?_) | (refine step_append_shut (by rfl) (.tmp 21) (.tmp 25) (by rfl) (by rfl) (by rfl) shC2 ?_))
  all_goals go_wp2_with fail
  all_goals go_ret
  · exact ⟨_, rfl, finA.out, belA.out⟩
  · exact ⟨_, rfl, finB.out, belB.out⟩
  · exact ⟨_, rfl, finC.out, belC.out⟩
end Go.Proofs.Ytdapjoapndemkaa
