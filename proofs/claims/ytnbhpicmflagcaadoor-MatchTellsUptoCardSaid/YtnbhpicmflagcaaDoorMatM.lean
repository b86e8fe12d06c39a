/- match.group: the classes of a list of requests, by key. -/
import Derived.Test.YtnbhpicmflagcaaDoorMatJ
set_option linter.unusedVariables false
set_option linter.unusedSimpArgs false
namespace Go.Proofs.YtnbhpicmflagcaaDoor
open Go.RowKit
open Go.Lib (hid)
theorem keyW (s : List UInt8) (h : s.length ≤ 1048576) : keyOf Tryd.prog 9 (sv s) = some (.string s) := by
  have := WideMaps.keyOf_string_mk (P := Tryd.prog) (k := 9) Tryd.underlying9 (s := ⟨s.toArray⟩) (by rw [ByteArray.size_mk', List.size_toArray]; unfold maxLen; omega)
  simpa using this
theorem keyedS : Maps.Keyed Tryd.prog 9 := by exact Maps.string_keyed Tryd.underlying9
theorem keyF_len (r : Req) : (keyF r).length = 64 := by simp [keyF, hexF]
theorem infoIntG : (Tryd.prog.info? 3).map (fun i => (i.zero, i.size, i.bytes)) = some (some (.int .i64 0), 1, 8) := by kernel_rfl
theorem infoCls : (Tryd.prog.info? 73).map (fun i => (i.zero, i.size, i.bytes)) = some (some (.agg #[.string .empty, .string .empty, .slice none 0 0, .int .i64 0, .string .empty, .int .i64 0, .int .i64 0, .bool false, .slice none 0 0]), 9, 128) := by kernel_rfl
/-- the class i of a key: where it lies -/
theorem KeyR.form {Q : Foot → World → List Nat → Value → Prop} {t : Tags} {B mb : Nat} {s : List UInt8} {w : World} {l : List GCl} {v : Value} {i : Nat} {x : GCl} (hQ : GoodQ Q) (h : KeyR Q t B mb s w l v) (hi : l[i]? = some x) :
    ∃ g cap u, v = .slice (some ⟨g, 0, none⟩) l.length cap ∧ B ≤ g ∧ g < w.heap.size ∧ w.cell? ⟨g, i * 9 + 8, none⟩ = some u ∧ w.frozen? ⟨g, i * 9 + 8, none⟩ = false ∧ Q (fun k => (FootG t B mb s k ∧ k ≠ g) ∧ B ≤ k ∧ t.ti k = x.id) w x.free u ∧
      (∀ kd W, (Instr.indexAt 69 v (.int kd i)).run Tryd.prog W = .ok (.pointer (some ⟨g, i * 9, none⟩)) W) := by
  obtain ⟨⟨xs, h1, h2, h3⟩, hB⟩ := h
  have hlt := (List.getElem?_eq_some_iff.1 hi).1
  rcases id h1.2 with ⟨rfl, h0⟩ | ⟨g, cap, cur, rfl, _, hg, hn, _, hs, _⟩
  · omega
  · obtain ⟨cs, h4, ca, u, rfl, h5, h6⟩ := h3 i x hi
    have hl := goodReq.len h5
    have hu := h4 8 u (by rw [List.getElem?_append_right (by omega), hl]; rfl)
    have hlt2 : i * 9 + 8 < l.length * 9 := by omega
    refine ⟨g, cap, u, rfl, hB g rfl, lt_of_some hg, (h1.cellAt _ hlt2).trans hu, h1.frozenAt _, hQ.move h6 fun k _ hk => ⟨⟨⟨hk.1.1, fun e => hk.1.2 (by rw [e]; rfl)⟩, hk.2⟩, rfl⟩, fun kd W => ?_⟩
    have := row_idx (P := Tryd.prog) (t := 69) (sz := 9) (by kernel_rfl) (fun _ => by kernel_rfl) (rfl : (some ⟨g, 0, none⟩ : Option Addr) = some ⟨g, 0, none⟩) l.length cap i hlt kd W
    simpa using this

abbrev clsCs (r : Req) (v u : Value) : List Value := [sv r.path, sv r.name, v, iv r.ord, sv r.reply, iv r.sent, iv r.tick, .bool r.opn, u]
theorem natLit (S : Foot) (w : World) (k : Nat) (hS : S w.heap.size) : FreO S (w.alloc (.cells #[iv k] 3)) [k] (.slice (some ⟨w.heap.size, 0, none⟩) 1 1) := by
  refine ⟨[iv k], World.ownsRow_lit w #[iv k] 1 (Nat.zero_le _) (by unfold maxLen; omega) rfl, fun q hq => ?_, fun i x hx => ?_⟩
  · injection hq with hq; subst hq; exact hS
  · match i, hx with
    | 0, hx => simp at hx; subst hx; exact ⟨[iv k], fun j u hu => by rw [Nat.zero_mul, Nat.zero_add]; exact hu, rfl⟩
    | i + 1, hx => simp at hx
def BoxA (b : Nat) (cs : List Value) (w : World) : Prop := w.heap[b]? = some (.cells cs.toArray 25 (0, 0))
/-- group's state: the classes of the first k requests -/
def GrpSt (l : List Req) (B mb k : Nat) (w : World) : Prop := ∃ t N, N ≤ k ∧ GM FreO t B mb N (grpF l k (freF l k)) w
theorem GrpSt.start (l : List Req) (w : World) : GrpSt l w.heap.size w.heap.size 0 (w.alloc (.map #[] 0)) := ⟨_, 0, Nat.le_refl _, (GM.start w).congr fun s => rfl⟩
theorem GrpSt.below {l : List Req} {B mb k : Nat} {w w' : World} (h : GrpSt l B mb k w) (hb : Below w.heap.size w w') : GrpSt l B mb k w' := by
  obtain ⟨t, N, h1, h2⟩ := h
  exact ⟨t, N, h1, h2.below goodO hb⟩
theorem clsF_hit (l : List GCl) (r : Req) : clsF (l.map fun c => ⟨c.rq, c.free⟩) r = hitG l r := by
  unfold clsF hitG
  rw [List.findIdx?_map]
  rfl
set_option maxHeartbeats 4000000 in
set_option maxRecDepth 100000 in
theorem group_any (l : List Req) (hl : ReqsB l) (hK : ∀ x ∈ l, (keyS x).length ≤ 1048576) (S : Foot) (v : Value) (w : World) (ht : TabR w) (hR : ReqsR S w l v) :
    Calls Tryd.prog 43 #[v] w fun e w' => e = .returned (.map (some w.heap.size)) ∧ GrpSt l w.heap.size w.heap.size l.length w' ∧ Below w.heap.size w w' := by
  obtain ⟨a, c, rfl, -⟩ := hR.slice
  have hln := hl.1
  replace hR := hid (hR.mono goodReq (T := fun k => k < w.heap.size) fun k hk _ => hk)
  replace hl := hid hl
  replace hK := hid hK
  replace ht := hid ht
  have h0 := hid (GrpSt.start l w)
  have hb0 : Below w.heap.size w (w.alloc (.map #[] 0)) := (Below.refl _ w).alloc (Nat.le_refl _) _
  have hmm := @run_makeMap Tryd.prog
  go_enter Tryd.func43, Tryd.ntmps43
  go_wp2_with fail
  go_loopw [12] (fun i wr => ∃ k : Nat, i = .int .i64 k ∧ k ≤ l.length ∧ Hid (GrpSt l w.heap.size w.heap.size k wr) ∧ Below w.heap.size w wr) (fun i _ => l.length - (intOf i).toNat)
  case atStart => exact ⟨0, rfl, Nat.zero_le _, h0, hb0⟩
  case round =>
    clear h0 hb0
    obtain ⟨k, rfl, hk, hG, hB⟩ := hrel
    by_cases hlt : k < l.length
    · obtain ⟨x, hx⟩ : ∃ x, l[k]? = some x := ⟨_, List.getElem?_eq_getElem hlt⟩
      obtain ⟨g, o, cs, hidx, hS, hg, hc, hr⟩ := (hR.out.below goodReq hB).at (P := Tryd.prog) (t := 22) (by kernel_rfl) (fun _ => by kernel_rfl) hx
      have hb1 : ∀ o, Below wr.heap.size wr (wr.alloc o) := fun o => (Below.refl _ wr).alloc (Nat.le_refl _) o
      have hxm := List.mem_of_getElem? hx
      have hcall := hid (fun o => key_any x (hl.out.2 x hxm) (hK.out x hxm) _ cs (wr.alloc o) ((ht.out.below hB (Nat.le_refl _)).below (hb1 o) (Nat.le_refl _)) (goodReq.below hr (hb1 o)))
      obtain ⟨a1, k1, rfl, -⟩ := id hr
      have c0 := hc 0 _ rfl
      have c1 := hc 1 _ rfl
      have c2 := hc 2 _ rfl
      have c3 := hc 3 _ rfl
      have c4 := hc 4 _ rfl
      have c5 := hc 5 _ rfl
      have c6 := hc 6 _ rfl
      have c7 := hc 7 _ rfl
      rw [Nat.add_zero] at c0
      clear hc
      have hbx := hid (heap_alloc_new' wr (.cells (reqCs x (.slice a1 x.args.length k1)).toArray 25 (0, 0)))
      replace hb1 := hid hb1
      replace hr := hid hr
      go_wp2_with fail
      refine (hcall.out _).mono ?_
      rintro e w2 ⟨rfl, hb2⟩
      obtain ⟨s, hs⟩ : ∃ s, s = keyF x := ⟨_, rfl⟩
      have hsl : s.length ≤ 1048576 := by rw [hs, keyF_len]; decide
      rw [← hs]
      have hlw2 := Nat.lt_of_lt_of_le (lt_of_heap hbx.out) hb2.size
      obtain ⟨t, N, hN, hGM⟩ := (hG.out.below (hb1.out _)).below hb2
      obtain ⟨f, hf, hmb, hks⟩ := id hGM
      have hkv := hks s
      obtain ⟨kv, hkve⟩ : ∃ kv, (f (.string s)).getD (.slice none 0 0) = kv := ⟨_, rfl⟩
      have hlook := hf.look keyedS (t := 67) (e := 69) Tryd.underlying67 (z := .slice none 0 0) (by kernel_rfl) (keyW s hsl) trivial
      rw [hkve] at hlook hkv
      obtain ⟨av, cv, rfl, -, -⟩ := hkv.1.slice
      have hbx2 := below_keep hb2 hbx.out (lt_of_heap hbx.out)
      have d0 : w2.cell? ⟨wr.heap.size, 0, none⟩ = some (sv x.path) := (cell_of hbx2).trans rfl
      have d1 : w2.cell? ⟨wr.heap.size, 1, none⟩ = some (sv x.name) := (cell_of hbx2).trans rfl
      have d2 : w2.cell? ⟨wr.heap.size, 2, none⟩ = some (.slice a1 x.args.length k1) := (cell_of hbx2).trans rfl
      have d3 : w2.cell? ⟨wr.heap.size, 3, none⟩ = some (iv x.ord) := (cell_of hbx2).trans rfl
      have d4 : w2.cell? ⟨wr.heap.size, 4, none⟩ = some (sv x.reply) := (cell_of hbx2).trans rfl
      have d5 : w2.cell? ⟨wr.heap.size, 5, none⟩ = some (iv x.sent) := (cell_of hbx2).trans rfl
      have d6 : w2.cell? ⟨wr.heap.size, 6, none⟩ = some (iv x.tick) := (cell_of hbx2).trans rfl
      have d7 : w2.cell? ⟨wr.heap.size, 7, none⟩ = some (.bool x.opn) := (cell_of hbx2).trans rfl
      have hr2 := goodReq.below (goodReq.below hr.out (hb1.out (.cells (reqCs x (.slice a1 x.args.length k1)).toArray 25 (0, 0)))) hb2
      obtain ⟨G, hGe⟩ : ∃ G, G = grpF l k (freF l k) := ⟨_, rfl⟩
      rw [← hGe] at hkv hks hGM hlook hkve
      have hGl : (G s).length ≤ k := by rw [hGe]; unfold grpF; rw [List.length_map]; exact ids_len _ _ _
      have hfind := hid (cfind_any ((G s).map fun c => ⟨c.rq, c.free⟩) x (by rw [List.length_map]; omega) (fun c hc => by
        obtain ⟨y, hy, rfl⟩ := List.mem_map.1 hc
        rw [hGe] at hy
        obtain ⟨j, hj, rfl⟩ := List.mem_map.1 hy
        have hjk := (mem_ids.1 hj).1
        exact hl.out.2 _ (List.mem_of_getElem? (at_rq (by omega)))) (hl.out.2 x hxm) _ _ _ _ w2 (hkv.sl goodO) hr2)
      have hB2 := hid (hB.trans (((hb1.out (.cells (reqCs x (.slice a1 x.args.length k1)).toArray 25 (0, 0))).trans (hb2.mono (by simp))).mono hB.size))
      replace hkve := hid hkve
      replace hbx2 := hid hbx2
      replace hr2 := hid hr2
      replace hs := hid hs
      replace hGe := hid hGe
      replace hGM := hid hGM
      replace hks := hid hks
      replace hkv := hid hkv
      replace hf := hid hf
      clear c0 c1 c2 c3 c4 c5 c6 c7 hcall hidx hr hbx hb1 hB hG
      go_wp2_with fail
      refine hfind.out.mono ?_
      rintro e w3 ⟨rfl, hb3⟩
      rw [clsF_hit]
      have hB3 := hid (hB2.out.trans (hb3.mono hB2.out.size))
      have hks3 := hid (fun s => (hks.out s).below goodO hb3)
      have hkv3 := hkv.out.below goodO hb3
      have hf3 := hid (hf.out.below hb3 hf.out.lt)
      have hbx3 := hid (below_keep hb3 hbx2.out hlw2)
      have hr3 := hid (goodReq.below hr2.out hb3)
      have hlw3 := Nat.lt_of_lt_of_le hlw2 hb3.size
      have hsz3 := hB3.out.size
      clear hb2 hb3 hB2 hks hkv hf hbx2 hr2 d0 d1 d2 d3 d4 d5 d6 d7 hlook hGM hlw2 hfind
      rcases hh : hitG (G s) x with _ | p
      · have hnone := hid (hit_none (b := l) (k := k) (F := freF l k) (r := x) (by rw [← hs.out, ← hGe.out]; exact hh))
        have d0 : w3.cell? ⟨wr.heap.size, 0, none⟩ = some (sv x.path) := (cell_of hbx3.out).trans rfl
        have d1 : w3.cell? ⟨wr.heap.size, 1, none⟩ = some (sv x.name) := (cell_of hbx3.out).trans rfl
        have d2 : w3.cell? ⟨wr.heap.size, 2, none⟩ = some (.slice a1 x.args.length k1) := (cell_of hbx3.out).trans rfl
        have d3 : w3.cell? ⟨wr.heap.size, 3, none⟩ = some (iv x.ord) := (cell_of hbx3.out).trans rfl
        have d4 : w3.cell? ⟨wr.heap.size, 4, none⟩ = some (sv x.reply) := (cell_of hbx3.out).trans rfl
        have d5 : w3.cell? ⟨wr.heap.size, 5, none⟩ = some (iv x.sent) := (cell_of hbx3.out).trans rfl
        have d6 : w3.cell? ⟨wr.heap.size, 6, none⟩ = some (iv x.tick) := (cell_of hbx3.out).trans rfl
        have d7 : w3.cell? ⟨wr.heap.size, 7, none⟩ = some (.bool x.opn) := (cell_of hbx3.out).trans rfl
        clear hh
        rw [show ixV none = iv (-1) from rfl]
        obtain ⟨i0, hi, hz0, hz1, hz2⟩ := info_parts infoCls
        have hb4 : Below w3.heap.size w3 (w3.alloc (.cells #[iv k] 3)) := (Below.refl _ _).alloc (Nat.le_refl _) _
        obtain ⟨CS, hCS⟩ : ∃ CS, CS = clsCs x (.slice a1 x.args.length k1) (.slice (some ⟨w3.heap.size, 0, none⟩) 1 1) := ⟨_, rfl⟩
        have hb5 : Below w3.heap.size w3 ((w3.alloc (.cells #[iv k] 3)).alloc (.cells CS.toArray 73)) := hb4.alloc (by simp) _
        have hz := heap_alloc_new' (w3.alloc (.cells #[iv k] 3)) (.cells CS.toArray 73)
        obtain ⟨xs, hown, hS1, hel⟩ := (hkv3.below goodO hb5).1
        have hone : ∀ u ∈ CS, u.oneCell' = true := fun u hu => by rw [hCS] at hu; simp at hu; rcases hu with rfl | rfl | rfl | rfl | rfl | rfl | rfl | rfl | rfl <;> rfl
        obtain ⟨v', W6, hrun, hown6, hg6, hvv⟩ := append_row _ 0 69 69 73 i0 _ 9 128 (by kernel_rfl) hi hz0 hz1 hz2 rfl (by decide) _ _ xs hown _ _ 1 _ (row_of_block hz (by rw [hCS]; rfl)) hone (by unfold maxLen; omega) (by omega) (Nat.zero_le _)
        have hf6 : MapV Tryd.prog 9 w.heap.size N f W6 := (hf3.out.below hb5 hf3.out.lt).same (hg6.block _ (Nat.lt_of_lt_of_le hf3.out.lt hb5.size) (fun e => by
          rcases hS1 _ e.symm with h1 | ⟨_, h1, _⟩
          · omega
          · exact h1 rfl))
        obtain ⟨W7, hput, hf7, hg7⟩ := hf6.put keyedS (t := 67) (e := 69) Tryd.underlying67 (by unfold maxLen; omega) (keyW s hsl) trivial v'
        have hsz5 : ((w3.alloc (.cells #[iv k] 3)).alloc (.cells CS.toArray 73)).heap.size = w3.heap.size + 1 + 1 := by simp
        have hadd := hid (GM.add (G' := grpF l (k + 1) (freF l (k + 1))) (c := ⟨k, x, [k]⟩) hf3.out (Nat.le_refl _) hsz3 hks3.out hkve.out hb5 (cs := CS) (by
          refine ⟨reqCs x (.slice a1 x.args.length k1), _, by rw [hCS]; rfl, goodReq.move hr3.out (fun q hq hs => ⟨⟨⟨Or.inl hs, fun e => ?_, Nat.lt_of_lt_of_le hq hb5.size⟩, hs⟩, hb5.block q hq⟩), ?_⟩
          · have := hkv3.2 q e
            omega
          · refine OwnR.move goodNat (natLit (fun q => q = w3.heap.size) w3 k rfl) fun q hq hs => ⟨⟨⟨Or.inr ⟨?_, ?_, ?_⟩, ?_, ?_⟩, ?_, ?_⟩, ?_⟩
            · omega
            · have h9 := hf3.out.lt; intro e; omega
            · show (if q < w3.heap.size then _ else _) = some s
              rw [if_neg (by omega)]
            · intro e
              have hl5 := (World.ownsRow.lt hkv3.1.choose_spec.1 q e).2
              omega
            · rw [hsz5]; omega
            · omega
            · show (if q < w3.heap.size then _ else _) = k
              rw [if_neg (by omega)]
            · exact Below.heap_alloc _ _ _ hq) (fun ys hys => by
            obtain ⟨v2, w2', hr2, ho2, _⟩ := append_row _ 0 69 69 73 i0 _ 9 128 (by kernel_rfl) hi hz0 hz1 hz2 rfl (by decide) _ _ ys hys _ _ 1 _ (row_of_block hz (by rw [hCS]; rfl)) hone (by unfold maxLen; omega) (by omega) (Nat.zero_le _)
            rw [hrun] at hr2
            injection hr2 with e1 e2
            subst e1 e2
            exact ho2) hg6 hvv hf7 hg7 (fun y => by
          unfold putF
          by_cases h : y = s
          · subst h; rw [if_pos rfl, if_pos rfl]
          · rw [if_neg h, if_neg (fun e => h (by injection e))]) (by
          rw [hs.out, hGe.out]; exact grp_new (rq_at hx) hnone.out) (fun s' hs' => by
          rw [hGe.out]; exact grp_new_other (rq_at hx) hnone.out (by rw [← hs.out]; exact hs')))
        have hB7 : Below w.heap.size w W7 := by
          have h6 : Below w.heap.size w3 W6 := (hb5.mono hsz3).trans ⟨hg6.os, hg6.tape, hg6.output, hg6.size, fun q hq => hg6.block q (by rw [hsz5]; omega) (fun e => by have := hkv3.2 q e.symm; omega)⟩
          exact (hB3.out.trans h6).trans ⟨hg7.os, hg7.tape, hg7.output, hg7.size, fun q hq => hg7.block q (Nat.lt_of_lt_of_le hq (Nat.le_trans hsz3 h6.size)) (fun e => by injection e with e; omega)⟩
        have e6 : (w3.alloc (.cells #[iv k] 3)).heap.size = w3.heap.size + 1 := by simp
        replace hrun : AppRun Tryd.prog 69 69 69 _ _ v' _ W6 := ⟨hrun⟩
        clear hf6 hf7 hown6 hg6 hg7 hvv hel hS1 hown hkv3 hi hz0 hz1 hz2 hb4 hb5 hz
        rw [hCS, e6] at hrun
        clear e6 hsz5 hone
        replace hCS := hid hCS
        go_wp2_with (first | (at_builtin; refine wpList_append_shut rfl (.tmp 41) (.tmp 46) rfl rfl rfl hrun ?_))
        exact ⟨⟨k + 1, by go_num, by omega, hid ⟨_, N + 1, by omega, hadd.out⟩, hB7⟩, by simp [intOf]; omega⟩
      · obtain ⟨j, hj, hal⟩ := hit_some (b := l) (k := k) (F := freF l k) (s := s) (r := x) (c := p) (by rw [← hGe.out]; exact hh)
        have hat := grp_at (F := freF l k) hj
        rw [← hGe.out] at hat
        obtain ⟨g9, cap9, u, hv9, hBg, hg9, hcu, hfu, hQ, hidx9⟩ := hkv3.form goodO hat
        injection hv9 with ea el ec
        subst ea ec
        clear el
        dsimp only at hQ
        have hfl := fre_len l k (rq l j)
        obtain ⟨fr, hfr⟩ : ∃ fr, fr = freF l k (rq l j) := ⟨_, rfl⟩
        rw [← hfr] at hQ hat hfl
        obtain ⟨a2, c2, rfl, hlc2, hcm2⟩ := hQ.slice
        rw [show ixV (some p) = iv (p : Int) from rfl]
        have hpk : p < (G s).length := (List.getElem?_eq_some_iff.1 hat).1
        have q1 : decide ((p : Int) ≥ 0) = true := decide_eq_true (by omega)
        obtain ⟨i0, hi, hz0, hz1, hz2⟩ := info_parts infoIntG
        have hb4 : Below w3.heap.size w3 (w3.alloc (.cells #[iv k] 3)) := (Below.refl _ _).alloc (Nat.le_refl _) _
        have hQ4 : OwnR 3 1 NatR (fun q => w.heap.size ≤ q ∧ q ≠ g9 ∧ q ≠ w.heap.size ∧ (t.new w3.heap.size s j).tk q = some s ∧ (t.new w3.heap.size s j).ti q = j) (w3.alloc (.cells #[iv k] 3)) fr (.slice a2 fr.length c2) := (OwnR.mono goodNat hQ (fun q hq hs => by
          obtain ⟨⟨hf1, hf2⟩, hf3, hf4⟩ := hs
          rcases hf1 with h1 | ⟨h0, h1, h2⟩
          · omega
          · refine ⟨hf3, hf2, h1, ?_, ?_⟩
            · show (if q < w3.heap.size then _ else _) = some s
              rw [if_pos hq]; exact h2
            · show (if q < w3.heap.size then _ else _) = j
              rw [if_pos hq]; exact hf4)).below goodNat hb4
        obtain ⟨v', W5, hap, hO5, hF5⟩ := OwnR.append1 (t := 71) (ty := 71) (x := k) goodNat (by kernel_rfl) hi hz0 hz1 hz2 rfl (by decide) hQ4 (row_of_block (cs := [iv k]) (heap_alloc_new' w3 (.cells #[iv k] 3)) rfl) rfl (by unfold maxLen; omega) (by omega) (fun q hq => by
          simp at hq
          refine ⟨by omega, by omega, by omega, ?_, ?_⟩
          · show (if q < w3.heap.size then _ else _) = some s
            rw [if_neg (by omega)]
          · show (if q < w3.heap.size then _ else _) = j
            rw [if_neg (by omega)])
        have hg5 : W5.heap[g9]? = w3.heap[g9]? := (hF5.block g9 (Nat.lt_of_lt_of_le hg9 hb4.size) (fun h => h.2.1 rfl)).trans (hb4.block g9 hg9)
        have hcu5 : W5.cell? ⟨g9, p * 9 + 8, none⟩ = some (.slice a2 fr.length c2) := (World.cell?_of_block hg5).trans hcu
        have hfu5 : W5.frozen? ⟨g9, p * 9 + 8, none⟩ = false := (World.frozen?_of_block hg5).trans hfu
        have hstep := hid (GM.step (G' := grpF l (k + 1) (freF l (k + 1))) (fr' := fr ++ [k]) (u := v') (w1 := W5) goodO hf3.out hmb hsz3 hks3.out hkve.out hat (fun q z hq hz e => by
          rw [hGe.out] at hz
          unfold grpF at hz
          rw [List.getElem?_map] at hz
          rcases hy : (idsF l k s)[q]? with _ | y
          · rw [hy] at hz; simp at hz
          · rw [hy] at hz
            simp only [Option.map_some, Option.some.injEq] at hz
            have e2 : y = j := by rw [← hz] at e; exact e
            subst e2
            exact hq ((List.getElem?_inj (List.getElem?_eq_some_iff.1 hy).1 (ids_nodup _ _ _)).1 (hy.trans hj.symm))) (fun q hq hc => by
          refine (hF5.block q (Nat.lt_of_lt_of_le hq hb4.size) (fun h => ?_)).trans (hb4.block q hq)
          obtain ⟨h1, h2, h3, h4, h5⟩ := h
          have e4 : t.tk q = some s := (if_pos hq).symm.trans (show (if q < w3.heap.size then t.tk q else some s) = some s from h4)
          have e5 : t.ti q = j := (if_pos hq).symm.trans (show (if q < w3.heap.size then t.ti q else j) = j from h5)
          rcases hc with hc | hc | hc | hc | hc
          · omega
          · exact h3 hc
          · exact h2 hc
          · exact hc e4
          · exact hc e5) (OwnR.move goodNat hO5 fun q hq hs => ⟨hs, heap_setCell_other _ hs.2.1⟩) (by
          rw [hs.out, hGe.out, hfr]; exact grp_push (rq_at hx) (by rw [← hs.out]; exact hj) hal) (fun s' hs' => by
          rw [hGe.out]; exact grp_push_other (rq_at hx) (by rw [← hs.out]; exact hj) hal (by rw [← hs.out]; exact hs')))
        obtain ⟨a5, c5, rfl, -, -⟩ := hO5.slice
        have hB5 : Below w.heap.size w (W5.setCell ⟨g9, p * 9 + 8, none⟩ (.slice a5 (fr ++ [k]).length c5)) := by
          have h5 : Below w.heap.size w3 W5 := (hb4.mono hsz3).trans ⟨hF5.os, hF5.tape, hF5.output, hF5.size, fun q hq => hF5.block q (Nat.lt_of_lt_of_le hq (Nat.le_trans hsz3 hb4.size)) (fun h => by omega)⟩
          exact (hB3.out.trans h5).setCell hBg _
        rw [List.length_append, List.length_singleton] at hstep hap hB5
        replace hfr := hid hfr
        replace hat := hid hat
        clear hi hz0 hz1 hz2 hQ4 hO5 hb4 hQ hcm2 hlc2 hF5 hg5 hkv3
        go_wp2_with (first | (at_builtin; refine wpList_append_shut rfl (.tmp 33) (.tmp 35) rfl rfl rfl hap ?_))
        exact ⟨⟨k + 1, by go_num, by omega, hid ⟨_, N, by omega, hstep.out⟩, hB5⟩, by simp [intOf]; omega⟩
    · have hkl : k = l.length := by omega
      subst hkl
      go_wp2_with fail
      go_ret
      exact ⟨rfl, hG.out, hB⟩
end Go.Proofs.YtnbhpicmflagcaaDoor
