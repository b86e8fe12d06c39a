/- MatchKeys walked. -/
import Derived.Test.YtnbhpicmflagcaaDoorMatS
import Derived.Test.YtnbhpicmflagcaaDoorMatE
set_option linter.unusedVariables false
set_option linter.unusedSimpArgs false
namespace Go.Proofs.YtnbhpicmflagcaaDoor
open Go.RowKit
open Go.Lib (hid)
/-- what Few lets in has a short key -/
theorem few_key {r : Req} (h : FewR r) : (keyS r).length ≤ 1048576 := by
  obtain ⟨h1, h2, h3⟩ := h
  have hb : ∀ l : List Val, (∀ a ∈ l, FewV a) → ((l.map argF).flatten).length ≤ 6609 * l.length := by
    intro l hl
    induction l with
    | nil => simp
    | cons x l ih =>
      have hx : FewV x := hl x List.mem_cons_self
      have h4 : (argF x).length ≤ 9 + (bytesF x).length := tenc_le _
      have h5 : (bytesF x).length ≤ (encF x).length := by unfold bytesF; split; exact Nat.le_refl _; simp
      have h6 := ih fun a ha => hl a (List.mem_cons_of_mem _ ha)
      unfold FewV at hx
      rw [List.map_cons, List.flatten_cons, List.length_append, List.length_cons]
      omega
  have h4 := hb r.args h3
  unfold keyS headK
  simp only [List.length_append]
  have a1 := tenc_le r.path
  have a2 := tenc_le r.name
  have a3 := ienc_bound r.ord
  have a4 := nenc_le r.args.length
  have h7 : 6609 * r.args.length ≤ 6609 * 10 := Nat.mul_le_mul_left _ h1
  omega
theorem reqs2 {W : World} {b : Nat} {x y : Req} {cx cy : List Value} (hx : ReqR (fun _ => True) W x cx) (hy : ReqR (fun _ => True) W y cy) (h : W.heap[b]? = some (.cells (cx ++ cy).toArray 25 (0, 0))) : ReqsR (fun _ => True) W [x, y] (.slice (some ⟨b, 0, none⟩) 2 2) :=
  SlR.of_block (css := [cx, cy]) rfl (fun cs hc => by simp at hc; rcases hc with rfl | rfl; exact goodReq.len hx; exact goodReq.len hy) (by simpa using h) trivial (fun i z cs h1 h2 => by
    match i, h1, h2 with
    | 0, h1, h2 => simp at h1 h2; subst h1 h2; exact hx
    | 1, h1, h2 => simp at h1 h2; subst h1 h2; exact hy
    | i + 2, h1, _ => simp at h1)
theorem valsR_of {S : Foot} {w : World} {r : Req} {v : Value} (h : ReqR S w r (reqCs r v)) : ValsR S w r.args v := by
  obtain ⟨a, k, e, h1⟩ := h
  simp only [List.cons.injEq] at e
  obtain ⟨-, -, rfl, -⟩ := e
  exact h1
/-- the boxes of a and b -/
structure KM (n : Nat) (a b : Req) (ca cb : List Value) (W : World) : Prop where
  ha : W.heap[n]? = some (.cells ca.toArray 25 (0, 0))
  hb : W.heap[n + 1]? = some (.cells cb.toArray 25 (0, 0))
  ra : ReqR (fun _ => True) W a ca
  rb : ReqR (fun _ => True) W b cb
theorem KM.below {n : Nat} {a b : Req} {ca cb : List Value} {W W' : World} (h : KM n a b ca cb W) (hb : Below W.heap.size W W') : KM n a b ca cb W' :=
  ⟨below_keep hb h.ha (lt_of_some h.ha), below_keep hb h.hb (lt_of_some h.hb), goodReq.below h.ra hb, goodReq.below h.rb hb⟩
def withC (a : Req) (reply : List UInt8) (at_ : Int) (o : Bool) : Req := ⟨a.path, a.name, a.args, a.ord, reply, at_, at_, o⟩
theorem withC_key (a : Req) (reply : List UInt8) (at_ : Int) (o : Bool) : keyF (withC a reply at_ o) = keyF a := rfl
theorem withC_keyS (a : Req) (reply : List UInt8) (at_ : Int) (o : Bool) : keyS (withC a reply at_ o) = keyS a := rfl
/-- a region's memory: the boxes, c's box -/
structure KC (n nc : Nat) (a b c : Req) (ca cb cc : List Value) (w0 W : World) : Prop where
  km : KM n a b ca cb W
  hc : W.heap[nc]? = some (.cells cc.toArray 25 (0, 0))
  rc : ReqR (fun _ => True) W c cc
  bel : Below w0.heap.size w0 W
theorem KC.next {n nc : Nat} {a b c : Req} {ca cb cc : List Value} {w0 W W' : World} (h : KC n nc a b c ca cb cc w0 W) (hb : Below W.heap.size W W') : KC n nc a b c ca cb cc w0 W' :=
  ⟨h.km.below hb, below_keep hb h.hc (lt_of_some h.hc), goodReq.below h.rc hb, h.bel.trans (hb.mono h.bel.size)⟩
set_option maxHeartbeats 8000000 in
set_option maxRecDepth 100000 in
theorem MatchKeys_walk (a b : Req) (reply : List UInt8) (at_ : Int) (o : Bool) (csa csb : List Value) (w0 : World) (ht : TabR w0) (haB : ReqB a) (hbB : ReqB b) (hrl : reply.length ≤ 1048576) (hra : ReqR (fun _ => True) w0 a csa) (hrb : ReqR (fun _ => True) w0 b csb) :
    Calls Tryd.prog 5 #[.agg csa.toArray, .agg csb.toArray, sv reply, iv at_, .bool o] w0 fun e w' => e = .returned (.bool true) ∧ Below w0.heap.size w0 w' := by
  obtain ⟨va, ka, rfl, hva⟩ := id hra
  obtain ⟨vb, kb, rfl, hvb⟩ := id hrb
  obtain ⟨wB, hwB⟩ : ∃ wB, wB = (w0.alloc (.cells (reqCs a (.slice va a.args.length ka)).toArray 25 (0, 0))).alloc (.cells (reqCs b (.slice vb b.args.length kb)).toArray 25 (0, 0)) := ⟨_, rfl⟩
  have hbB0 : Below w0.heap.size w0 wB := by rw [hwB]; exact ((Below.refl _ w0).alloc (Nat.le_refl _) _).alloc (by simp) _
  have hK : KM w0.heap.size a b (reqCs a (.slice va a.args.length ka)) (reqCs b (.slice vb b.args.length kb)) wB := by
    have e := heap_alloc_new' (w0.alloc (.cells (reqCs a (.slice va a.args.length ka)).toArray 25 (0, 0))) (.cells (reqCs b (.slice vb b.args.length kb)).toArray 25 (0, 0))
    have e2 : (w0.alloc (.cells (reqCs a (.slice va a.args.length ka)).toArray 25 (0, 0))).heap.size = w0.heap.size + 1 := by simp
    rw [e2] at e
    refine ⟨?_, by rw [hwB]; exact e, goodReq.below hra hbB0, goodReq.below hrb hbB0⟩
    rw [hwB]; exact heap_alloc_lt (heap_alloc_new' _ _)
  have htB := hid (ht.below hbB0 (Nat.le_refl _))
  replace ht := hid ht
  replace hra := hid hra
  replace hrb := hid hrb
  replace hva := hid hva
  replace hvb := hid hvb
  go_enter Tryd.func5, Tryd.ntmps5
  replace hwB := hid hwB
  go_wp2_with fail
  rw [← hwB.out]
  clear hwB
  refine (small_any wB htB.out).mono ?_
  rintro e w1 ⟨rfl, hb⟩
  have hK1 := hK.below hb
  have hB1 := hid (hbB0.trans (hb.mono hbB0.size))
  have hT1 := hid (htB.out.below hb (Nat.le_refl _))
  clear hb hbB0 hK htB
  have b0 : w1.cell? ⟨w0.heap.size, 0, none⟩ = some (sv a.path) := (cell_of (i := 0) hK1.ha).trans rfl
  have b1 : w1.cell? ⟨w0.heap.size, 1, none⟩ = some (sv a.name) := (cell_of (i := 1) hK1.ha).trans rfl
  have b2 : w1.cell? ⟨w0.heap.size, 2, none⟩ = some (.slice va a.args.length ka) := (cell_of (i := 2) hK1.ha).trans rfl
  have b3 : w1.cell? ⟨w0.heap.size, 3, none⟩ = some (iv a.ord) := (cell_of (i := 3) hK1.ha).trans rfl
  have b4 : w1.cell? ⟨w0.heap.size, 4, none⟩ = some (sv a.reply) := (cell_of (i := 4) hK1.ha).trans rfl
  have b5 : w1.cell? ⟨w0.heap.size, 5, none⟩ = some (iv a.sent) := (cell_of (i := 5) hK1.ha).trans rfl
  have b6 : w1.cell? ⟨w0.heap.size, 6, none⟩ = some (iv a.tick) := (cell_of (i := 6) hK1.ha).trans rfl
  have b7 : w1.cell? ⟨w0.heap.size, 7, none⟩ = some (.bool a.opn) := (cell_of (i := 7) hK1.ha).trans rfl
  have c0 : w1.cell? ⟨w0.heap.size + 1, 0, none⟩ = some (sv b.path) := (cell_of (i := 0) hK1.hb).trans rfl
  have c1 : w1.cell? ⟨w0.heap.size + 1, 1, none⟩ = some (sv b.name) := (cell_of (i := 1) hK1.hb).trans rfl
  have c2 : w1.cell? ⟨w0.heap.size + 1, 2, none⟩ = some (.slice vb b.args.length kb) := (cell_of (i := 2) hK1.hb).trans rfl
  have c3 : w1.cell? ⟨w0.heap.size + 1, 3, none⟩ = some (iv b.ord) := (cell_of (i := 3) hK1.hb).trans rfl
  have c4 : w1.cell? ⟨w0.heap.size + 1, 4, none⟩ = some (sv b.reply) := (cell_of (i := 4) hK1.hb).trans rfl
  have c5 : w1.cell? ⟨w0.heap.size + 1, 5, none⟩ = some (iv b.sent) := (cell_of (i := 5) hK1.hb).trans rfl
  have c6 : w1.cell? ⟨w0.heap.size + 1, 6, none⟩ = some (iv b.tick) := (cell_of (i := 6) hK1.hb).trans rfl
  have c7 : w1.cell? ⟨w0.heap.size + 1, 7, none⟩ = some (.bool b.opn) := (cell_of (i := 7) hK1.hb).trans rfl
  have hbO : Below w1.heap.size w1 (w1.alloc (.cells (reqCs a (.slice va a.args.length ka) ++ reqCs b (.slice vb b.args.length kb)).toArray 25 (0, 0))) := (Below.refl _ _).alloc (Nat.le_refl _) _
  have hK2 := hid (hK1.below hbO)
  have hrows := reqs2 hK2.out.ra hK2.out.rb (heap_alloc_new' w1 (.cells (reqCs a (.slice va a.args.length ka) ++ reqCs b (.slice vb b.args.length kb)).toArray 25 (0, 0)))
  have hB2 := hid (hB1.out.trans (hbO.mono hB1.out.size))
  have hT2 := hid (hT1.out.below hbO (Nat.le_refl _))
  replace hK1 := hid hK1
  go_wp2_with fail
  refine (few_any [a, b] ⟨by simp, fun x h => by simp at h; rcases h with rfl | rfl; exact haB; exact hbB⟩ _ _ (w1.alloc (.cells (reqCs a (.slice va a.args.length ka) ++ reqCs b (.slice vb b.args.length kb)).toArray 25 (0, 0))) hrows).mono ?_
  rintro e w3 ⟨f, rfl, hf, hb⟩
  have hK3 := hK2.out.below hb
  have hB3 := hid (hB2.out.trans (hb.mono hB2.out.size))
  have hT3 := hid (hT2.out.below hb (Nat.le_refl _))
  clear hK1 hK2 hB1 hB2 hT1 hT2 hrows hbO hb b0 b1 b2 b3 b4 b5 b6 b7 c0 c1 c2 c3 c4 c5 c6 c7
  cases f with
  | false =>
    replace hK3 := hid hK3
    clear hf
    go_wp2_with fail
    go_ret
    exact ⟨rfl, hB3.out⟩
  | true =>
    obtain ⟨-, hf2⟩ := hf rfl
    have hfa := few_key (hf2 a (by simp))
    have hfb := few_key (hf2 b (by simp))
    replace hf2 := hid hf2
    clear hf
    have b0 : w3.cell? ⟨w0.heap.size, 0, none⟩ = some (sv a.path) := (cell_of (i := 0) hK3.ha).trans rfl
    have b1 : w3.cell? ⟨w0.heap.size, 1, none⟩ = some (sv a.name) := (cell_of (i := 1) hK3.ha).trans rfl
    have b2 : w3.cell? ⟨w0.heap.size, 2, none⟩ = some (.slice va a.args.length ka) := (cell_of (i := 2) hK3.ha).trans rfl
    have b3 : w3.cell? ⟨w0.heap.size, 3, none⟩ = some (iv a.ord) := (cell_of (i := 3) hK3.ha).trans rfl
    have b4 : w3.cell? ⟨w0.heap.size, 4, none⟩ = some (sv a.reply) := (cell_of (i := 4) hK3.ha).trans rfl
    have b5 : w3.cell? ⟨w0.heap.size, 5, none⟩ = some (iv a.sent) := (cell_of (i := 5) hK3.ha).trans rfl
    have b6 : w3.cell? ⟨w0.heap.size, 6, none⟩ = some (iv a.tick) := (cell_of (i := 6) hK3.ha).trans rfl
    have b7 : w3.cell? ⟨w0.heap.size, 7, none⟩ = some (.bool a.opn) := (cell_of (i := 7) hK3.ha).trans rfl
    replace hK3 := hid hK3
    obtain ⟨c, hc⟩ : ∃ c, c = withC a reply at_ o := ⟨_, rfl⟩
    have hbc : Below w3.heap.size w3 (w3.alloc (.cells (reqCs c (.slice va a.args.length ka)).toArray 25 (0, 0))) := (Below.refl _ _).alloc (Nat.le_refl _) _
    have hcB : ReqB c := by rw [hc]; exact ⟨haB.1, haB.2.1, haB.2.2.1, hrl⟩
    have hkc : (keyS c).length ≤ 1048576 := by rw [hc, withC_keyS]; exact hfa
    have hkey : keyF c = keyF a := by rw [hc]; rfl
    have hal : AlikeP a c := by rw [hc]; exact ⟨rfl, rfl, rfl, rfl⟩
    have hZ0 : KC w0.heap.size w3.heap.size a b c (reqCs a (.slice va a.args.length ka)) (reqCs b (.slice vb b.args.length kb)) (reqCs c (.slice va a.args.length ka)) (w3.alloc (.cells (reqCs c (.slice va a.args.length ka)).toArray 25 (0, 0))) (w3.alloc (.cells (reqCs c (.slice va a.args.length ka)).toArray 25 (0, 0))) := by
      have hrc : ReqR (fun _ => True) w3 c (reqCs c (.slice va a.args.length ka)) := by
        have hv := valsR_of hK3.out.ra
        rw [hc]; exact reqR_shut (o := withC a reply at_ o) hv
      exact ⟨hK3.out.below hbc, heap_alloc_new' _ _, goodReq.below hrc hbc, Below.refl _ _⟩
    obtain ⟨wc, hwc⟩ : ∃ wc, wc = w3.alloc (.cells (reqCs c (.slice va a.args.length ka)).toArray 25 (0, 0)) := ⟨_, rfl⟩
    rw [← hwc] at hZ0 hbc
    rw [hc] at hwc
    replace hwc := hid hwc
    have hTc := hid (hT3.out.below hbc (Nat.le_refl _))
    have hBc := hid (hB3.out.trans (hbc.mono hB3.out.size))
    have hkl := keyF_len a
    replace hc := hid hc
    go_wp2_with fail
    show Code.wp _ _ _ _ (w3.alloc (.cells (reqCs (withC a reply at_ o) (.slice va a.args.length ka)).toArray 25 (0, 0)))
    rw [← hwc.out]
    clear hwc b0 b1 b2 b3 b4 b5 b6 b7 hK3 hB3 hT3 hbc
    refine wp_region_held_drew (S := (KC w0.heap.size w3.heap.size a b c (reqCs a (.slice va a.args.length ka)) (reqCs b (.slice vb b.args.length kb)) (reqCs c (.slice va a.args.length ka)) wc)) (by kernel_rfl) ?_ (fun hHeld => ?_)
    · exact hZ0.next (Below.refl _ _).drew
    generalize wc.drew = wd at *
    refine wpAnyH_take (i := 0) (oi := ⟨_, _, _, _, _, _⟩) (v := ?_) rfl (by kernel_rfl) (by kernel_rfl) (by kernel_rfl) (fun _ _ _ h => h) (Or.inl ⟨by rfl, ?hy⟩) (by assumption) ?_
    case hy =>
      intro w hSw
      have b0 : w.cell? ⟨w0.heap.size, 0, none⟩ = some (sv a.path) := (cell_of (i := 0) hSw.km.ha).trans rfl
      have b1 : w.cell? ⟨w0.heap.size, 1, none⟩ = some (sv a.name) := (cell_of (i := 1) hSw.km.ha).trans rfl
      have b2 : w.cell? ⟨w0.heap.size, 2, none⟩ = some (.slice va a.args.length ka) := (cell_of (i := 2) hSw.km.ha).trans rfl
      have b3 : w.cell? ⟨w0.heap.size, 3, none⟩ = some (iv a.ord) := (cell_of (i := 3) hSw.km.ha).trans rfl
      have b4 : w.cell? ⟨w0.heap.size, 4, none⟩ = some (sv a.reply) := (cell_of (i := 4) hSw.km.ha).trans rfl
      have b5 : w.cell? ⟨w0.heap.size, 5, none⟩ = some (iv a.sent) := (cell_of (i := 5) hSw.km.ha).trans rfl
      have b6 : w.cell? ⟨w0.heap.size, 6, none⟩ = some (iv a.tick) := (cell_of (i := 6) hSw.km.ha).trans rfl
      have b7 : w.cell? ⟨w0.heap.size, 7, none⟩ = some (.bool a.opn) := (cell_of (i := 7) hSw.km.ha).trans rfl
      go_simp
      all_goals with_reducible rfl
    try simp only [Act.put, List.setIfInBounds_toArray, List.set_cons_zero, List.set_cons_succ]
    refine wpAnyH_take (i := 2) (oi := ⟨_, _, _, _, _, _⟩) (v := ?_) rfl (by kernel_rfl) (by kernel_rfl) (by kernel_rfl) (fun _ _ _ h => h) (Or.inl ⟨by rfl, ?hy⟩) (by assumption) ?_
    case hy =>
      intro w hSw
      have b0 : w.cell? ⟨w3.heap.size, 0, none⟩ = some (sv c.path) := (cell_of (i := 0) hSw.hc).trans rfl
      have b1 : w.cell? ⟨w3.heap.size, 1, none⟩ = some (sv c.name) := (cell_of (i := 1) hSw.hc).trans rfl
      have b2 : w.cell? ⟨w3.heap.size, 2, none⟩ = some (.slice va a.args.length ka) := (cell_of (i := 2) hSw.hc).trans rfl
      have b3 : w.cell? ⟨w3.heap.size, 3, none⟩ = some (iv c.ord) := (cell_of (i := 3) hSw.hc).trans rfl
      have b4 : w.cell? ⟨w3.heap.size, 4, none⟩ = some (sv c.reply) := (cell_of (i := 4) hSw.hc).trans rfl
      have b5 : w.cell? ⟨w3.heap.size, 5, none⟩ = some (iv c.sent) := (cell_of (i := 5) hSw.hc).trans rfl
      have b6 : w.cell? ⟨w3.heap.size, 6, none⟩ = some (iv c.tick) := (cell_of (i := 6) hSw.hc).trans rfl
      have b7 : w.cell? ⟨w3.heap.size, 7, none⟩ = some (.bool c.opn) := (cell_of (i := 7) hSw.hc).trans rfl
      go_simp
      all_goals with_reducible rfl
    try simp only [Act.put, List.setIfInBounds_toArray, List.set_cons_zero, List.set_cons_succ]
    obtain ⟨kA, hkA⟩ : ∃ kA, kA = keyF a := ⟨_, rfl⟩
    rw [← hkA] at hkl hkey
    have q64 : ((kA.length : Int) != 64) = false := by rw [hkl]; rfl
    replace hkA := hid hkA
    refine wpAnyH_ready (rs := [1]) (by kernel_rfl) (by simp) ?_
    refine AllReadyH.cons (o := ⟨_, _, _, _, _, _⟩) rfl (fun K hK => ?_) AllReadyH.nil
    go_simp
    go_at_call 11
    refine (key_any a haB hfa _ (reqCs a (.slice va a.args.length ka)) wd (hTc.out.below hHeld.bel (Nat.le_refl _)) hHeld.km.ra).mono ?_
    rintro e w4 ⟨rfl, hb⟩
    rw [← hkA.out]
    have hZ := hHeld.next hb
    refine hK.out _ _ ?_ (fun hHeld2 => ?_)
    · exact hZ
    clear hK K
    clear hHeld
    have hHeld := hHeld2
    clear hHeld2
    try simp only [Act.put, List.setIfInBounds_toArray, List.set_cons_zero, List.set_cons_succ]
    refine wpAnyH_ready (rs := [3]) (by kernel_rfl) (by simp) ?_
    refine AllReadyH.cons (o := ⟨_, _, _, _, _, _⟩) rfl (fun K hK => ?_) AllReadyH.nil
    go_simp
    go_at_call 11
    refine (key_any c hcB hkc _ (reqCs c (.slice va a.args.length ka)) w4 (hTc.out.below hHeld.bel (Nat.le_refl _)) hHeld.rc).mono ?_
    rintro e w5 ⟨rfl, hb⟩
    rw [hkey]
    have hZ := hHeld.next hb
    refine hK.out _ _ ?_ (fun hHeld2 => ?_)
    · exact hZ
    clear hK K
    clear hHeld
    have hHeld := hHeld2
    clear hHeld2
    try simp only [Act.put, List.setIfInBounds_toArray, List.set_cons_zero, List.set_cons_succ]
    refine wpAnyH_take (i := 4) (oi := ⟨_, _, _, _, _, _⟩) (v := ?_) rfl (by kernel_rfl) (by kernel_rfl) (by kernel_rfl) (fun _ _ _ h => h) (Or.inl ⟨by rfl, ?hy⟩) (by assumption) ?_
    case hy =>
      intro w hSw
      skip
      go_simp
      all_goals with_reducible rfl
    try simp only [Act.put, List.setIfInBounds_toArray, List.set_cons_zero, List.set_cons_succ]
    refine wpAnyH_take (i := 5) (oi := ⟨_, _, _, _, _, _⟩) (v := ?_) rfl (by kernel_rfl) (by kernel_rfl) (by kernel_rfl) (fun _ _ _ h => h) (Or.inl ⟨by rfl, ?hy⟩) (by assumption) ?_
    case hy =>
      intro w hSw
      skip
      go_simp
      all_goals with_reducible rfl
    try simp only [Act.put, List.setIfInBounds_toArray, List.set_cons_zero, List.set_cons_succ]
    refine wpAnyH_take (i := 6) (oi := ⟨_, _, _, _, _, _⟩) (v := ?_) rfl (by kernel_rfl) (by kernel_rfl) (by kernel_rfl) (fun _ _ _ h => h) (Or.inl ⟨by rfl, ?hy⟩) (by assumption) ?_
    case hy =>
      intro w hSw
      have b0 : w.cell? ⟨w0.heap.size, 0, none⟩ = some (sv a.path) := (cell_of (i := 0) hSw.km.ha).trans rfl
      have b1 : w.cell? ⟨w0.heap.size, 1, none⟩ = some (sv a.name) := (cell_of (i := 1) hSw.km.ha).trans rfl
      have b2 : w.cell? ⟨w0.heap.size, 2, none⟩ = some (.slice va a.args.length ka) := (cell_of (i := 2) hSw.km.ha).trans rfl
      have b3 : w.cell? ⟨w0.heap.size, 3, none⟩ = some (iv a.ord) := (cell_of (i := 3) hSw.km.ha).trans rfl
      have b4 : w.cell? ⟨w0.heap.size, 4, none⟩ = some (sv a.reply) := (cell_of (i := 4) hSw.km.ha).trans rfl
      have b5 : w.cell? ⟨w0.heap.size, 5, none⟩ = some (iv a.sent) := (cell_of (i := 5) hSw.km.ha).trans rfl
      have b6 : w.cell? ⟨w0.heap.size, 6, none⟩ = some (iv a.tick) := (cell_of (i := 6) hSw.km.ha).trans rfl
      have b7 : w.cell? ⟨w0.heap.size, 7, none⟩ = some (.bool a.opn) := (cell_of (i := 7) hSw.km.ha).trans rfl
      go_simp
      all_goals with_reducible rfl
    try simp only [Act.put, List.setIfInBounds_toArray, List.set_cons_zero, List.set_cons_succ]
    refine wpAnyH_take (i := 7) (oi := ⟨_, _, _, _, _, _⟩) (v := ?_) rfl (by kernel_rfl) (by kernel_rfl) (by kernel_rfl) (fun _ _ _ h => h) (Or.inl ⟨by rfl, ?hy⟩) (by assumption) ?_
    case hy =>
      intro w hSw
      have b0 : w.cell? ⟨w3.heap.size, 0, none⟩ = some (sv c.path) := (cell_of (i := 0) hSw.hc).trans rfl
      have b1 : w.cell? ⟨w3.heap.size, 1, none⟩ = some (sv c.name) := (cell_of (i := 1) hSw.hc).trans rfl
      have b2 : w.cell? ⟨w3.heap.size, 2, none⟩ = some (.slice va a.args.length ka) := (cell_of (i := 2) hSw.hc).trans rfl
      have b3 : w.cell? ⟨w3.heap.size, 3, none⟩ = some (iv c.ord) := (cell_of (i := 3) hSw.hc).trans rfl
      have b4 : w.cell? ⟨w3.heap.size, 4, none⟩ = some (sv c.reply) := (cell_of (i := 4) hSw.hc).trans rfl
      have b5 : w.cell? ⟨w3.heap.size, 5, none⟩ = some (iv c.sent) := (cell_of (i := 5) hSw.hc).trans rfl
      have b6 : w.cell? ⟨w3.heap.size, 6, none⟩ = some (iv c.tick) := (cell_of (i := 6) hSw.hc).trans rfl
      have b7 : w.cell? ⟨w3.heap.size, 7, none⟩ = some (.bool c.opn) := (cell_of (i := 7) hSw.hc).trans rfl
      go_simp
      all_goals with_reducible rfl
    try simp only [Act.put, List.setIfInBounds_toArray, List.set_cons_zero, List.set_cons_succ]
    refine wpAnyH_ready (rs := [8]) (by kernel_rfl) (by simp) ?_
    refine AllReadyH.cons (o := ⟨_, _, _, _, _, _⟩) rfl (fun K hK => ?_) AllReadyH.nil
    go_simp
    go_at_call 15
    refine (alike_any a c haB hcB _ _ (reqCs a (.slice va a.args.length ka)) (reqCs c (.slice va a.args.length ka)) w5 hHeld.km.ra hHeld.rc).mono ?_
    rintro e w6 ⟨rfl, hb⟩
    rw [show dec (AlikeP a c) = true from dec_true hal]
    have hZ := hHeld.next hb
    refine hK.out _ _ ?_ (fun hHeld2 => ?_)
    · exact hZ
    clear hK K
    clear hHeld
    have hHeld := hHeld2
    clear hHeld2
    try simp only [Act.put, List.setIfInBounds_toArray, List.set_cons_zero, List.set_cons_succ]
    refine wpAnyH_take (i := 9) (oi := ⟨_, _, _, _, _, _⟩) (v := ?_) rfl (by kernel_rfl) (by kernel_rfl) (by kernel_rfl) (fun _ _ _ h => h) (Or.inl ⟨by rfl, ?hy⟩) (by assumption) ?_
    case hy =>
      intro w hSw
      skip
      go_simp
      all_goals with_reducible rfl
    try simp only [Act.put, List.setIfInBounds_toArray, List.set_cons_zero, List.set_cons_succ]
    refine wpAnyH_take (i := 10) (oi := ⟨_, _, _, _, _, _⟩) (v := ?_) rfl (by kernel_rfl) (by kernel_rfl) (by kernel_rfl) (fun _ _ _ h => h) (Or.inl ⟨by rfl, ?hy⟩) (by assumption) ?_
    case hy =>
      intro w hSw
      skip
      go_simp
      all_goals with_reducible rfl
    try simp only [Act.put, List.setIfInBounds_toArray, List.set_cons_zero, List.set_cons_succ]
    refine wpAnyH_take (i := 11) (oi := ⟨_, _, _, _, _, _⟩) (v := ?_) rfl (by kernel_rfl) (by kernel_rfl) (by kernel_rfl) (fun _ _ _ h => h) (Or.inl ⟨by rfl, ?hy⟩) (by assumption) ?_
    case hy =>
      intro w hSw
      skip
      go_simp
      all_goals with_reducible rfl
    try simp only [Act.put, List.setIfInBounds_toArray, List.set_cons_zero, List.set_cons_succ]
    refine wpAnyH_take (i := 12) (oi := ⟨_, _, _, _, _, _⟩) (v := ?_) rfl (by kernel_rfl) (by kernel_rfl) (by kernel_rfl) (fun _ _ _ h => h) (Or.inl ⟨by rfl, ?hy⟩) (by assumption) ?_
    case hy =>
      intro w hSw
      have b0 : w.cell? ⟨w0.heap.size, 0, none⟩ = some (sv a.path) := (cell_of (i := 0) hSw.km.ha).trans rfl
      have b1 : w.cell? ⟨w0.heap.size, 1, none⟩ = some (sv a.name) := (cell_of (i := 1) hSw.km.ha).trans rfl
      have b2 : w.cell? ⟨w0.heap.size, 2, none⟩ = some (.slice va a.args.length ka) := (cell_of (i := 2) hSw.km.ha).trans rfl
      have b3 : w.cell? ⟨w0.heap.size, 3, none⟩ = some (iv a.ord) := (cell_of (i := 3) hSw.km.ha).trans rfl
      have b4 : w.cell? ⟨w0.heap.size, 4, none⟩ = some (sv a.reply) := (cell_of (i := 4) hSw.km.ha).trans rfl
      have b5 : w.cell? ⟨w0.heap.size, 5, none⟩ = some (iv a.sent) := (cell_of (i := 5) hSw.km.ha).trans rfl
      have b6 : w.cell? ⟨w0.heap.size, 6, none⟩ = some (iv a.tick) := (cell_of (i := 6) hSw.km.ha).trans rfl
      have b7 : w.cell? ⟨w0.heap.size, 7, none⟩ = some (.bool a.opn) := (cell_of (i := 7) hSw.km.ha).trans rfl
      go_simp
      all_goals with_reducible rfl
    try simp only [Act.put, List.setIfInBounds_toArray, List.set_cons_zero, List.set_cons_succ]
    refine wpAnyH_ready (rs := [13]) (by kernel_rfl) (by simp) ?_
    refine AllReadyH.cons (o := ⟨_, _, _, _, _, _⟩) rfl (fun K hK => ?_) AllReadyH.nil
    go_simp
    go_at_call 11
    refine (key_any a haB hfa _ (reqCs a (.slice va a.args.length ka)) w6 (hTc.out.below hHeld.bel (Nat.le_refl _)) hHeld.km.ra).mono ?_
    rintro e w7 ⟨rfl, hb⟩
    rw [← hkA.out]
    have hZ := hHeld.next hb
    refine hK.out _ _ ?_ (fun hHeld2 => ?_)
    · exact hZ
    clear hK K
    clear hHeld
    have hHeld := hHeld2
    clear hHeld2
    try simp only [Act.put, List.setIfInBounds_toArray, List.set_cons_zero, List.set_cons_succ]
    refine wpAnyH_take (i := 14) (oi := ⟨_, _, _, _, _, _⟩) (v := ?_) rfl (by kernel_rfl) (by kernel_rfl) (by kernel_rfl) (fun _ _ _ h => h) (Or.inl ⟨by rfl, ?hy⟩) (by assumption) ?_
    case hy =>
      intro w hSw
      skip
      go_simp
      all_goals with_reducible rfl
    try simp only [Act.put, List.setIfInBounds_toArray, List.set_cons_zero, List.set_cons_succ]
    refine wpAnyH_take (i := 15) (oi := ⟨_, _, _, _, _, _⟩) (v := ?_) rfl (by kernel_rfl) (by kernel_rfl) (by kernel_rfl) (fun _ _ _ h => h) (Or.inl ⟨by rfl, ?hy⟩) (by assumption) ?_
    case hy =>
      intro w hSw
      skip
      go_simp
      all_goals with_reducible rfl
    try simp only [Act.put, List.setIfInBounds_toArray, List.set_cons_zero, List.set_cons_succ]
    refine wpAnyH_take (i := 16) (oi := ⟨_, _, _, _, _, _⟩) (v := ?_) rfl (by kernel_rfl) (by kernel_rfl) (by kernel_rfl) (fun _ _ _ h => h) (Or.inl ⟨by rfl, ?hy⟩) (by assumption) ?_
    case hy =>
      intro w hSw
      skip
      go_simp
      all_goals with_reducible rfl
    try simp only [Act.put, List.setIfInBounds_toArray, List.set_cons_zero, List.set_cons_succ]
    refine wpAnyH_done (by kernel_rfl) ?_ _
    have hZ7 := hid hHeld
    clear hHeld hZ0 hkey hkl q64 hal hcB hkc
    go_wp2_with fail
    go_loopw [13] (fun i wr => ∃ k : Nat, i = .int .i64 k ∧ k ≤ a.args.length ∧ Hid (KC w0.heap.size w3.heap.size a b c (reqCs a (.slice va a.args.length ka)) (reqCs b (.slice vb b.args.length kb)) (reqCs c (.slice va a.args.length ka)) wc wr)) (fun i _ => a.args.length - (intOf i).toNat)
    case atStart => exact ⟨0, rfl, Nat.zero_le _, hZ7⟩
    case round =>
      clear hZ7
      obtain ⟨k, rfl, hk, hZ⟩ := hrel
      have d2 : wr.cell? ⟨w0.heap.size, 2, none⟩ = some (.slice va a.args.length ka) := (cell_of (i := 2) hZ.out.km.ha).trans rfl
      have hln := haB.1.1
      by_cases hlt : k < a.args.length
      · obtain ⟨y, hy⟩ : ∃ y, a.args[k]? = some y := ⟨_, List.getElem?_eq_getElem hlt⟩
        have hym := List.mem_of_getElem? hy
        obtain ⟨g, q, cs, hidx, -, hg, hc', hr⟩ := (valsR_of hZ.out.km.ra).at (P := Tryd.prog) (t := 23) (by kernel_rfl) (fun _ => by kernel_rfl) hy
        have hcall := hid (right_any y (haB.1.2 y hym) _ cs wr hr)
        obtain ⟨a1, k1, rfl, -⟩ := valR_open hr
        have c0 := hc' 0 _ rfl
        have c1 := hc' 1 _ rfl
        have c2 := hc' 2 _ rfl
        have c3 := hc' 3 _ rfl
        have c4 := hc' 4 _ rfl
        have c5 := hc' 5 _ rfl
        rw [Nat.add_zero] at c0
        clear hc' hr
        go_wp2_with fail
        refine hcall.out.mono ?_
        rintro e w8 ⟨rfl, hb8⟩
        have hZ8 := hid (hZ.out.next hb8)
        clear c0 c1 c2 c3 c4 c5 hidx hb8 hcall d2 hZ
        cases rightF y with
        | true =>
          go_wp2_with fail
          exact ⟨⟨k + 1, by go_num, by omega, hZ8⟩, by simp [intOf]; omega⟩
        | false =>
          have hB8 := hid (hBc.out.trans (hZ8.out.bel.mono hBc.out.size))
          go_wp2_with fail
          go_ret
          exact ⟨rfl, hB8.out⟩
      · have hkl : k = a.args.length := by omega
        subst hkl
        rcases dec_cases (AlikeP a b) with ⟨hab, hd⟩ | ⟨hab, hd⟩
        · have hkab := key_alike hab
          have hd2 : dec (AlikeP b a) = true := dec_true hab.symm'
          have hd3 : dec (AlikeP a a) = true := dec_true (AlikeP.rfl' a)
          replace hd := hid hd
          replace hd2 := hid hd2
          replace hd3 := hid hd3
          clear hab
          go_wp2_with fail
          refine wp_region_held_drew (S := (KC w0.heap.size w3.heap.size a b c (reqCs a (.slice va a.args.length ka)) (reqCs b (.slice vb b.args.length kb)) (reqCs c (.slice va a.args.length ka)) wc)) (by kernel_rfl) ?_ (fun hHeld => ?_)
          · exact hZ.out.next (Below.refl _ _).drew
          generalize wr.drew = wd2 at *
          obtain ⟨kB, hkB⟩ : ∃ kB, kB = keyF b := ⟨_, rfl⟩
          rw [← hkB] at hkab
          replace hkB := hid hkB
          replace hkab := hid hkab
          have hkk : (kB == kB) = true := by simp
          refine wpAnyH_take (i := 0) (oi := ⟨_, _, _, _, _, _⟩) (v := ?_) rfl (by kernel_rfl) (by kernel_rfl) (by kernel_rfl) (fun _ _ _ h => h) (Or.inl ⟨by rfl, ?hy⟩) (by assumption) ?_
          case hy =>
            intro w hSw
            skip
            go_simp
            all_goals with_reducible rfl
          try simp only [Act.put, List.setIfInBounds_toArray, List.set_cons_zero, List.set_cons_succ]
          refine wpAnyH_take (i := 1) (oi := ⟨_, _, _, _, _, _⟩) (v := ?_) rfl (by kernel_rfl) (by kernel_rfl) (by kernel_rfl) (fun _ _ _ h => h) (Or.inl ⟨by rfl, ?hy⟩) (by assumption) ?_
          case hy =>
            intro w hSw
            skip
            go_simp
            all_goals with_reducible rfl
          try simp only [Act.put, List.setIfInBounds_toArray, List.set_cons_zero, List.set_cons_succ]
          refine wpAnyH_take (i := 2) (oi := ⟨_, _, _, _, _, _⟩) (v := ?_) rfl (by kernel_rfl) (by kernel_rfl) (by kernel_rfl) (fun _ _ _ h => h) (Or.inl ⟨by rfl, ?hy⟩) (by assumption) ?_
          case hy =>
            intro w hSw
            have b0 : w.cell? ⟨w0.heap.size, 0, none⟩ = some (sv a.path) := (cell_of (i := 0) hSw.km.ha).trans rfl
            have b1 : w.cell? ⟨w0.heap.size, 1, none⟩ = some (sv a.name) := (cell_of (i := 1) hSw.km.ha).trans rfl
            have b2 : w.cell? ⟨w0.heap.size, 2, none⟩ = some (.slice va a.args.length ka) := (cell_of (i := 2) hSw.km.ha).trans rfl
            have b3 : w.cell? ⟨w0.heap.size, 3, none⟩ = some (iv a.ord) := (cell_of (i := 3) hSw.km.ha).trans rfl
            have b4 : w.cell? ⟨w0.heap.size, 4, none⟩ = some (sv a.reply) := (cell_of (i := 4) hSw.km.ha).trans rfl
            have b5 : w.cell? ⟨w0.heap.size, 5, none⟩ = some (iv a.sent) := (cell_of (i := 5) hSw.km.ha).trans rfl
            have b6 : w.cell? ⟨w0.heap.size, 6, none⟩ = some (iv a.tick) := (cell_of (i := 6) hSw.km.ha).trans rfl
            have b7 : w.cell? ⟨w0.heap.size, 7, none⟩ = some (.bool a.opn) := (cell_of (i := 7) hSw.km.ha).trans rfl
            go_simp
            all_goals with_reducible rfl
          try simp only [Act.put, List.setIfInBounds_toArray, List.set_cons_zero, List.set_cons_succ]
          refine wpAnyH_take (i := 3) (oi := ⟨_, _, _, _, _, _⟩) (v := ?_) rfl (by kernel_rfl) (by kernel_rfl) (by kernel_rfl) (fun _ _ _ h => h) (Or.inl ⟨by rfl, ?hy⟩) (by assumption) ?_
          case hy =>
            intro w hSw
            have b0 : w.cell? ⟨w0.heap.size + 1, 0, none⟩ = some (sv b.path) := (cell_of (i := 0) hSw.km.hb).trans rfl
            have b1 : w.cell? ⟨w0.heap.size + 1, 1, none⟩ = some (sv b.name) := (cell_of (i := 1) hSw.km.hb).trans rfl
            have b2 : w.cell? ⟨w0.heap.size + 1, 2, none⟩ = some (.slice vb b.args.length kb) := (cell_of (i := 2) hSw.km.hb).trans rfl
            have b3 : w.cell? ⟨w0.heap.size + 1, 3, none⟩ = some (iv b.ord) := (cell_of (i := 3) hSw.km.hb).trans rfl
            have b4 : w.cell? ⟨w0.heap.size + 1, 4, none⟩ = some (sv b.reply) := (cell_of (i := 4) hSw.km.hb).trans rfl
            have b5 : w.cell? ⟨w0.heap.size + 1, 5, none⟩ = some (iv b.sent) := (cell_of (i := 5) hSw.km.hb).trans rfl
            have b6 : w.cell? ⟨w0.heap.size + 1, 6, none⟩ = some (iv b.tick) := (cell_of (i := 6) hSw.km.hb).trans rfl
            have b7 : w.cell? ⟨w0.heap.size + 1, 7, none⟩ = some (.bool b.opn) := (cell_of (i := 7) hSw.km.hb).trans rfl
            go_simp
            all_goals with_reducible rfl
          try simp only [Act.put, List.setIfInBounds_toArray, List.set_cons_zero, List.set_cons_succ]
          refine wpAnyH_ready (rs := [4]) (by kernel_rfl) (by simp) ?_
          refine AllReadyH.cons (o := ⟨_, _, _, _, _, _⟩) rfl (fun K hK => ?_) AllReadyH.nil
          go_simp
          go_at_call 15
          refine (alike_any a b haB hbB _ _ (reqCs a (.slice va a.args.length ka)) (reqCs b (.slice vb b.args.length kb)) wd2 hHeld.km.ra hHeld.km.rb).mono ?_
          rintro e wa ⟨rfl, hb⟩
          rw [hd.out]
          have hZ := hHeld.next hb
          refine hK.out _ _ ?_ (fun hHeld2 => ?_)
          · exact hZ
          clear hK K
          clear hHeld
          have hHeld := hHeld2
          clear hHeld2
          try simp only [Act.put, List.setIfInBounds_toArray, List.set_cons_zero, List.set_cons_succ]
          refine wpAnyH_take (i := 5) (oi := ⟨_, _, _, _, _, _⟩) (v := ?_) rfl (by kernel_rfl) (by kernel_rfl) (by kernel_rfl) (fun _ _ _ h => h) (Or.inl ⟨by rfl, ?hy⟩) (by assumption) ?_
          case hy =>
            intro w hSw
            skip
            go_simp
            all_goals with_reducible rfl
          try simp only [Act.put, List.setIfInBounds_toArray, List.set_cons_zero, List.set_cons_succ]
          refine wpAnyH_take (i := 6) (oi := ⟨_, _, _, _, _, _⟩) (v := ?_) rfl (by kernel_rfl) (by kernel_rfl) (by kernel_rfl) (fun _ _ _ h => h) (Or.inl ⟨by rfl, ?hy⟩) (by assumption) ?_
          case hy =>
            intro w hSw
            skip
            go_simp
            all_goals with_reducible rfl
          try simp only [Act.put, List.setIfInBounds_toArray, List.set_cons_zero, List.set_cons_succ]
          refine wpAnyH_take (i := 7) (oi := ⟨_, _, _, _, _, _⟩) (v := ?_) rfl (by kernel_rfl) (by kernel_rfl) (by kernel_rfl) (fun _ _ _ h => h) (Or.inl ⟨by rfl, ?hy⟩) (by assumption) ?_
          case hy =>
            intro w hSw
            have b0 : w.cell? ⟨w0.heap.size, 0, none⟩ = some (sv a.path) := (cell_of (i := 0) hSw.km.ha).trans rfl
            have b1 : w.cell? ⟨w0.heap.size, 1, none⟩ = some (sv a.name) := (cell_of (i := 1) hSw.km.ha).trans rfl
            have b2 : w.cell? ⟨w0.heap.size, 2, none⟩ = some (.slice va a.args.length ka) := (cell_of (i := 2) hSw.km.ha).trans rfl
            have b3 : w.cell? ⟨w0.heap.size, 3, none⟩ = some (iv a.ord) := (cell_of (i := 3) hSw.km.ha).trans rfl
            have b4 : w.cell? ⟨w0.heap.size, 4, none⟩ = some (sv a.reply) := (cell_of (i := 4) hSw.km.ha).trans rfl
            have b5 : w.cell? ⟨w0.heap.size, 5, none⟩ = some (iv a.sent) := (cell_of (i := 5) hSw.km.ha).trans rfl
            have b6 : w.cell? ⟨w0.heap.size, 6, none⟩ = some (iv a.tick) := (cell_of (i := 6) hSw.km.ha).trans rfl
            have b7 : w.cell? ⟨w0.heap.size, 7, none⟩ = some (.bool a.opn) := (cell_of (i := 7) hSw.km.ha).trans rfl
            go_simp
            all_goals with_reducible rfl
          try simp only [Act.put, List.setIfInBounds_toArray, List.set_cons_zero, List.set_cons_succ]
          refine wpAnyH_take (i := 9) (oi := ⟨_, _, _, _, _, _⟩) (v := ?_) rfl (by kernel_rfl) (by kernel_rfl) (by kernel_rfl) (fun _ _ _ h => h) (Or.inl ⟨by rfl, ?hy⟩) (by assumption) ?_
          case hy =>
            intro w hSw
            have b0 : w.cell? ⟨w0.heap.size + 1, 0, none⟩ = some (sv b.path) := (cell_of (i := 0) hSw.km.hb).trans rfl
            have b1 : w.cell? ⟨w0.heap.size + 1, 1, none⟩ = some (sv b.name) := (cell_of (i := 1) hSw.km.hb).trans rfl
            have b2 : w.cell? ⟨w0.heap.size + 1, 2, none⟩ = some (.slice vb b.args.length kb) := (cell_of (i := 2) hSw.km.hb).trans rfl
            have b3 : w.cell? ⟨w0.heap.size + 1, 3, none⟩ = some (iv b.ord) := (cell_of (i := 3) hSw.km.hb).trans rfl
            have b4 : w.cell? ⟨w0.heap.size + 1, 4, none⟩ = some (sv b.reply) := (cell_of (i := 4) hSw.km.hb).trans rfl
            have b5 : w.cell? ⟨w0.heap.size + 1, 5, none⟩ = some (iv b.sent) := (cell_of (i := 5) hSw.km.hb).trans rfl
            have b6 : w.cell? ⟨w0.heap.size + 1, 6, none⟩ = some (iv b.tick) := (cell_of (i := 6) hSw.km.hb).trans rfl
            have b7 : w.cell? ⟨w0.heap.size + 1, 7, none⟩ = some (.bool b.opn) := (cell_of (i := 7) hSw.km.hb).trans rfl
            go_simp
            all_goals with_reducible rfl
          try simp only [Act.put, List.setIfInBounds_toArray, List.set_cons_zero, List.set_cons_succ]
          refine wpAnyH_ready (rs := [8]) (by kernel_rfl) (by simp) ?_
          refine AllReadyH.cons (o := ⟨_, _, _, _, _, _⟩) rfl (fun K hK => ?_) AllReadyH.nil
          go_simp
          go_at_call 11
          refine (key_any a haB hfa _ (reqCs a (.slice va a.args.length ka)) wa (hTc.out.below hHeld.bel (Nat.le_refl _)) hHeld.km.ra).mono ?_
          rintro e wb ⟨rfl, hb⟩
          rw [hkab.out]
          have hZ := hHeld.next hb
          refine hK.out _ _ ?_ (fun hHeld2 => ?_)
          · exact hZ
          clear hK K
          clear hHeld
          have hHeld := hHeld2
          clear hHeld2
          try simp only [Act.put, List.setIfInBounds_toArray, List.set_cons_zero, List.set_cons_succ]
          refine wpAnyH_ready (rs := [10]) (by kernel_rfl) (by simp) ?_
          refine AllReadyH.cons (o := ⟨_, _, _, _, _, _⟩) rfl (fun K hK => ?_) AllReadyH.nil
          go_simp
          go_at_call 11
          refine (key_any b hbB hfb _ (reqCs b (.slice vb b.args.length kb)) wb (hTc.out.below hHeld.bel (Nat.le_refl _)) hHeld.km.rb).mono ?_
          rintro e wc2 ⟨rfl, hb⟩
          rw [← hkB.out]
          have hZ := hHeld.next hb
          refine hK.out _ _ ?_ (fun hHeld2 => ?_)
          · exact hZ
          clear hK K
          clear hHeld
          have hHeld := hHeld2
          clear hHeld2
          try simp only [Act.put, List.setIfInBounds_toArray, List.set_cons_zero, List.set_cons_succ]
          refine wpAnyH_take (i := 11) (oi := ⟨_, _, _, _, _, _⟩) (v := ?_) rfl (by kernel_rfl) (by kernel_rfl) (by kernel_rfl) (fun _ _ _ h => h) (Or.inl ⟨by rfl, ?hy⟩) (by assumption) ?_
          case hy =>
            intro w hSw
            skip
            go_simp
            all_goals with_reducible rfl
          try simp only [Act.put, List.setIfInBounds_toArray, List.set_cons_zero, List.set_cons_succ]
          refine wpAnyH_take (i := 12) (oi := ⟨_, _, _, _, _, _⟩) (v := ?_) rfl (by kernel_rfl) (by kernel_rfl) (by kernel_rfl) (fun _ _ _ h => h) (Or.inl ⟨by rfl, ?hy⟩) (by assumption) ?_
          case hy =>
            intro w hSw
            skip
            go_simp
            all_goals with_reducible rfl
          try simp only [Act.put, List.setIfInBounds_toArray, List.set_cons_zero, List.set_cons_succ]
          refine wpAnyH_take (i := 13) (oi := ⟨_, _, _, _, _, _⟩) (v := ?_) rfl (by kernel_rfl) (by kernel_rfl) (by kernel_rfl) (fun _ _ _ h => h) (Or.inl ⟨by rfl, ?hy⟩) (by assumption) ?_
          case hy =>
            intro w hSw
            skip
            go_simp
            all_goals with_reducible rfl
          try simp only [Act.put, List.setIfInBounds_toArray, List.set_cons_zero, List.set_cons_succ]
          refine wpAnyH_take (i := 14) (oi := ⟨_, _, _, _, _, _⟩) (v := ?_) rfl (by kernel_rfl) (by kernel_rfl) (by kernel_rfl) (fun _ _ _ h => h) (Or.inl ⟨by rfl, ?hy⟩) (by assumption) ?_
          case hy =>
            intro w hSw
            skip
            go_simp
            all_goals with_reducible rfl
          try simp only [Act.put, List.setIfInBounds_toArray, List.set_cons_zero, List.set_cons_succ]
          refine wpAnyH_take (i := 15) (oi := ⟨_, _, _, _, _, _⟩) (v := ?_) rfl (by kernel_rfl) (by kernel_rfl) (by kernel_rfl) (fun _ _ _ h => h) (Or.inl ⟨by rfl, ?hy⟩) (by assumption) ?_
          case hy =>
            intro w hSw
            have b0 : w.cell? ⟨w0.heap.size, 0, none⟩ = some (sv a.path) := (cell_of (i := 0) hSw.km.ha).trans rfl
            have b1 : w.cell? ⟨w0.heap.size, 1, none⟩ = some (sv a.name) := (cell_of (i := 1) hSw.km.ha).trans rfl
            have b2 : w.cell? ⟨w0.heap.size, 2, none⟩ = some (.slice va a.args.length ka) := (cell_of (i := 2) hSw.km.ha).trans rfl
            have b3 : w.cell? ⟨w0.heap.size, 3, none⟩ = some (iv a.ord) := (cell_of (i := 3) hSw.km.ha).trans rfl
            have b4 : w.cell? ⟨w0.heap.size, 4, none⟩ = some (sv a.reply) := (cell_of (i := 4) hSw.km.ha).trans rfl
            have b5 : w.cell? ⟨w0.heap.size, 5, none⟩ = some (iv a.sent) := (cell_of (i := 5) hSw.km.ha).trans rfl
            have b6 : w.cell? ⟨w0.heap.size, 6, none⟩ = some (iv a.tick) := (cell_of (i := 6) hSw.km.ha).trans rfl
            have b7 : w.cell? ⟨w0.heap.size, 7, none⟩ = some (.bool a.opn) := (cell_of (i := 7) hSw.km.ha).trans rfl
            go_simp
            all_goals with_reducible rfl
          try simp only [Act.put, List.setIfInBounds_toArray, List.set_cons_zero, List.set_cons_succ]
          refine wpAnyH_take (i := 16) (oi := ⟨_, _, _, _, _, _⟩) (v := ?_) rfl (by kernel_rfl) (by kernel_rfl) (by kernel_rfl) (fun _ _ _ h => h) (Or.inl ⟨by rfl, ?hy⟩) (by assumption) ?_
          case hy =>
            intro w hSw
            have b0 : w.cell? ⟨w0.heap.size + 1, 0, none⟩ = some (sv b.path) := (cell_of (i := 0) hSw.km.hb).trans rfl
            have b1 : w.cell? ⟨w0.heap.size + 1, 1, none⟩ = some (sv b.name) := (cell_of (i := 1) hSw.km.hb).trans rfl
            have b2 : w.cell? ⟨w0.heap.size + 1, 2, none⟩ = some (.slice vb b.args.length kb) := (cell_of (i := 2) hSw.km.hb).trans rfl
            have b3 : w.cell? ⟨w0.heap.size + 1, 3, none⟩ = some (iv b.ord) := (cell_of (i := 3) hSw.km.hb).trans rfl
            have b4 : w.cell? ⟨w0.heap.size + 1, 4, none⟩ = some (sv b.reply) := (cell_of (i := 4) hSw.km.hb).trans rfl
            have b5 : w.cell? ⟨w0.heap.size + 1, 5, none⟩ = some (iv b.sent) := (cell_of (i := 5) hSw.km.hb).trans rfl
            have b6 : w.cell? ⟨w0.heap.size + 1, 6, none⟩ = some (iv b.tick) := (cell_of (i := 6) hSw.km.hb).trans rfl
            have b7 : w.cell? ⟨w0.heap.size + 1, 7, none⟩ = some (.bool b.opn) := (cell_of (i := 7) hSw.km.hb).trans rfl
            go_simp
            all_goals with_reducible rfl
          try simp only [Act.put, List.setIfInBounds_toArray, List.set_cons_zero, List.set_cons_succ]
          refine wpAnyH_take (i := 18) (oi := ⟨_, _, _, _, _, _⟩) (v := ?_) rfl (by kernel_rfl) (by kernel_rfl) (by kernel_rfl) (fun _ _ _ h => h) (Or.inl ⟨by rfl, ?hy⟩) (by assumption) ?_
          case hy =>
            intro w hSw
            have b0 : w.cell? ⟨w0.heap.size + 1, 0, none⟩ = some (sv b.path) := (cell_of (i := 0) hSw.km.hb).trans rfl
            have b1 : w.cell? ⟨w0.heap.size + 1, 1, none⟩ = some (sv b.name) := (cell_of (i := 1) hSw.km.hb).trans rfl
            have b2 : w.cell? ⟨w0.heap.size + 1, 2, none⟩ = some (.slice vb b.args.length kb) := (cell_of (i := 2) hSw.km.hb).trans rfl
            have b3 : w.cell? ⟨w0.heap.size + 1, 3, none⟩ = some (iv b.ord) := (cell_of (i := 3) hSw.km.hb).trans rfl
            have b4 : w.cell? ⟨w0.heap.size + 1, 4, none⟩ = some (sv b.reply) := (cell_of (i := 4) hSw.km.hb).trans rfl
            have b5 : w.cell? ⟨w0.heap.size + 1, 5, none⟩ = some (iv b.sent) := (cell_of (i := 5) hSw.km.hb).trans rfl
            have b6 : w.cell? ⟨w0.heap.size + 1, 6, none⟩ = some (iv b.tick) := (cell_of (i := 6) hSw.km.hb).trans rfl
            have b7 : w.cell? ⟨w0.heap.size + 1, 7, none⟩ = some (.bool b.opn) := (cell_of (i := 7) hSw.km.hb).trans rfl
            go_simp
            all_goals with_reducible rfl
          try simp only [Act.put, List.setIfInBounds_toArray, List.set_cons_zero, List.set_cons_succ]
          refine wpAnyH_take (i := 19) (oi := ⟨_, _, _, _, _, _⟩) (v := ?_) rfl (by kernel_rfl) (by kernel_rfl) (by kernel_rfl) (fun _ _ _ h => h) (Or.inl ⟨by rfl, ?hy⟩) (by assumption) ?_
          case hy =>
            intro w hSw
            have b0 : w.cell? ⟨w0.heap.size, 0, none⟩ = some (sv a.path) := (cell_of (i := 0) hSw.km.ha).trans rfl
            have b1 : w.cell? ⟨w0.heap.size, 1, none⟩ = some (sv a.name) := (cell_of (i := 1) hSw.km.ha).trans rfl
            have b2 : w.cell? ⟨w0.heap.size, 2, none⟩ = some (.slice va a.args.length ka) := (cell_of (i := 2) hSw.km.ha).trans rfl
            have b3 : w.cell? ⟨w0.heap.size, 3, none⟩ = some (iv a.ord) := (cell_of (i := 3) hSw.km.ha).trans rfl
            have b4 : w.cell? ⟨w0.heap.size, 4, none⟩ = some (sv a.reply) := (cell_of (i := 4) hSw.km.ha).trans rfl
            have b5 : w.cell? ⟨w0.heap.size, 5, none⟩ = some (iv a.sent) := (cell_of (i := 5) hSw.km.ha).trans rfl
            have b6 : w.cell? ⟨w0.heap.size, 6, none⟩ = some (iv a.tick) := (cell_of (i := 6) hSw.km.ha).trans rfl
            have b7 : w.cell? ⟨w0.heap.size, 7, none⟩ = some (.bool a.opn) := (cell_of (i := 7) hSw.km.ha).trans rfl
            go_simp
            all_goals with_reducible rfl
          try simp only [Act.put, List.setIfInBounds_toArray, List.set_cons_zero, List.set_cons_succ]
          refine wpAnyH_ready (rs := [17]) (by kernel_rfl) (by simp) ?_
          refine AllReadyH.cons (o := ⟨_, _, _, _, _, _⟩) rfl (fun K hK => ?_) AllReadyH.nil
          go_simp
          go_at_call 15
          refine (alike_any a b haB hbB _ _ (reqCs a (.slice va a.args.length ka)) (reqCs b (.slice vb b.args.length kb)) wc2 hHeld.km.ra hHeld.km.rb).mono ?_
          rintro e we ⟨rfl, hb⟩
          rw [hd.out]
          have hZ := hHeld.next hb
          refine hK.out _ _ ?_ (fun hHeld2 => ?_)
          · exact hZ
          clear hK K
          clear hHeld
          have hHeld := hHeld2
          clear hHeld2
          try simp only [Act.put, List.setIfInBounds_toArray, List.set_cons_zero, List.set_cons_succ]
          refine wpAnyH_ready (rs := [20]) (by kernel_rfl) (by simp) ?_
          refine AllReadyH.cons (o := ⟨_, _, _, _, _, _⟩) rfl (fun K hK => ?_) AllReadyH.nil
          go_simp
          go_at_call 15
          refine (alike_any b a hbB haB _ _ (reqCs b (.slice vb b.args.length kb)) (reqCs a (.slice va a.args.length ka)) we hHeld.km.rb hHeld.km.ra).mono ?_
          rintro e wf ⟨rfl, hb⟩
          rw [hd2.out]
          have hZ := hHeld.next hb
          refine hK.out _ _ ?_ (fun hHeld2 => ?_)
          · exact hZ
          clear hK K
          clear hHeld
          have hHeld := hHeld2
          clear hHeld2
          try simp only [Act.put, List.setIfInBounds_toArray, List.set_cons_zero, List.set_cons_succ]
          refine wpAnyH_take (i := 21) (oi := ⟨_, _, _, _, _, _⟩) (v := ?_) rfl (by kernel_rfl) (by kernel_rfl) (by kernel_rfl) (fun _ _ _ h => h) (Or.inl ⟨by rfl, ?hy⟩) (by assumption) ?_
          case hy =>
            intro w hSw
            skip
            go_simp
            all_goals with_reducible rfl
          try simp only [Act.put, List.setIfInBounds_toArray, List.set_cons_zero, List.set_cons_succ]
          refine wpAnyH_take (i := 22) (oi := ⟨_, _, _, _, _, _⟩) (v := ?_) rfl (by kernel_rfl) (by kernel_rfl) (by kernel_rfl) (fun _ _ _ h => h) (Or.inl ⟨by rfl, ?hy⟩) (by assumption) ?_
          case hy =>
            intro w hSw
            skip
            go_simp
            all_goals with_reducible rfl
          try simp only [Act.put, List.setIfInBounds_toArray, List.set_cons_zero, List.set_cons_succ]
          refine wpAnyH_take (i := 23) (oi := ⟨_, _, _, _, _, _⟩) (v := ?_) rfl (by kernel_rfl) (by kernel_rfl) (by kernel_rfl) (fun _ _ _ h => h) (Or.inl ⟨by rfl, ?hy⟩) (by assumption) ?_
          case hy =>
            intro w hSw
            skip
            go_simp
            all_goals with_reducible rfl
          try simp only [Act.put, List.setIfInBounds_toArray, List.set_cons_zero, List.set_cons_succ]
          refine wpAnyH_take (i := 24) (oi := ⟨_, _, _, _, _, _⟩) (v := ?_) rfl (by kernel_rfl) (by kernel_rfl) (by kernel_rfl) (fun _ _ _ h => h) (Or.inl ⟨by rfl, ?hy⟩) (by assumption) ?_
          case hy =>
            intro w hSw
            have b0 : w.cell? ⟨w0.heap.size, 0, none⟩ = some (sv a.path) := (cell_of (i := 0) hSw.km.ha).trans rfl
            have b1 : w.cell? ⟨w0.heap.size, 1, none⟩ = some (sv a.name) := (cell_of (i := 1) hSw.km.ha).trans rfl
            have b2 : w.cell? ⟨w0.heap.size, 2, none⟩ = some (.slice va a.args.length ka) := (cell_of (i := 2) hSw.km.ha).trans rfl
            have b3 : w.cell? ⟨w0.heap.size, 3, none⟩ = some (iv a.ord) := (cell_of (i := 3) hSw.km.ha).trans rfl
            have b4 : w.cell? ⟨w0.heap.size, 4, none⟩ = some (sv a.reply) := (cell_of (i := 4) hSw.km.ha).trans rfl
            have b5 : w.cell? ⟨w0.heap.size, 5, none⟩ = some (iv a.sent) := (cell_of (i := 5) hSw.km.ha).trans rfl
            have b6 : w.cell? ⟨w0.heap.size, 6, none⟩ = some (iv a.tick) := (cell_of (i := 6) hSw.km.ha).trans rfl
            have b7 : w.cell? ⟨w0.heap.size, 7, none⟩ = some (.bool a.opn) := (cell_of (i := 7) hSw.km.ha).trans rfl
            go_simp
            all_goals with_reducible rfl
          try simp only [Act.put, List.setIfInBounds_toArray, List.set_cons_zero, List.set_cons_succ]
          refine wpAnyH_take (i := 25) (oi := ⟨_, _, _, _, _, _⟩) (v := ?_) rfl (by kernel_rfl) (by kernel_rfl) (by kernel_rfl) (fun _ _ _ h => h) (Or.inl ⟨by rfl, ?hy⟩) (by assumption) ?_
          case hy =>
            intro w hSw
            have b0 : w.cell? ⟨w0.heap.size, 0, none⟩ = some (sv a.path) := (cell_of (i := 0) hSw.km.ha).trans rfl
            have b1 : w.cell? ⟨w0.heap.size, 1, none⟩ = some (sv a.name) := (cell_of (i := 1) hSw.km.ha).trans rfl
            have b2 : w.cell? ⟨w0.heap.size, 2, none⟩ = some (.slice va a.args.length ka) := (cell_of (i := 2) hSw.km.ha).trans rfl
            have b3 : w.cell? ⟨w0.heap.size, 3, none⟩ = some (iv a.ord) := (cell_of (i := 3) hSw.km.ha).trans rfl
            have b4 : w.cell? ⟨w0.heap.size, 4, none⟩ = some (sv a.reply) := (cell_of (i := 4) hSw.km.ha).trans rfl
            have b5 : w.cell? ⟨w0.heap.size, 5, none⟩ = some (iv a.sent) := (cell_of (i := 5) hSw.km.ha).trans rfl
            have b6 : w.cell? ⟨w0.heap.size, 6, none⟩ = some (iv a.tick) := (cell_of (i := 6) hSw.km.ha).trans rfl
            have b7 : w.cell? ⟨w0.heap.size, 7, none⟩ = some (.bool a.opn) := (cell_of (i := 7) hSw.km.ha).trans rfl
            go_simp
            all_goals with_reducible rfl
          try simp only [Act.put, List.setIfInBounds_toArray, List.set_cons_zero, List.set_cons_succ]
          refine wpAnyH_ready (rs := [26]) (by kernel_rfl) (by simp) ?_
          refine AllReadyH.cons (o := ⟨_, _, _, _, _, _⟩) rfl (fun K hK => ?_) AllReadyH.nil
          go_simp
          go_at_call 15
          refine (alike_any a a haB haB _ _ (reqCs a (.slice va a.args.length ka)) (reqCs a (.slice va a.args.length ka)) wf hHeld.km.ra hHeld.km.ra).mono ?_
          rintro e wg ⟨rfl, hb⟩
          rw [hd3.out]
          have hZ := hHeld.next hb
          refine hK.out _ _ ?_ (fun hHeld2 => ?_)
          · exact hZ
          clear hK K
          clear hHeld
          have hHeld := hHeld2
          clear hHeld2
          try simp only [Act.put, List.setIfInBounds_toArray, List.set_cons_zero, List.set_cons_succ]
          refine wpAnyH_take (i := 27) (oi := ⟨_, _, _, _, _, _⟩) (v := ?_) rfl (by kernel_rfl) (by kernel_rfl) (by kernel_rfl) (fun _ _ _ h => h) (Or.inl ⟨by rfl, ?hy⟩) (by assumption) ?_
          case hy =>
            intro w hSw
            skip
            go_simp
            all_goals with_reducible rfl
          try simp only [Act.put, List.setIfInBounds_toArray, List.set_cons_zero, List.set_cons_succ]
          refine wpAnyH_take (i := 28) (oi := ⟨_, _, _, _, _, _⟩) (v := ?_) rfl (by kernel_rfl) (by kernel_rfl) (by kernel_rfl) (fun _ _ _ h => h) (Or.inl ⟨by rfl, ?hy⟩) (by assumption) ?_
          case hy =>
            intro w hSw
            skip
            go_simp
            all_goals with_reducible rfl
          try simp only [Act.put, List.setIfInBounds_toArray, List.set_cons_zero, List.set_cons_succ]
          refine wpAnyH_done (by kernel_rfl) ?_ _
          have hBz := hid (hBc.out.trans (hHeld.bel.mono hBc.out.size))
          clear hHeld
          go_wp2_with fail
          go_ret
          exact ⟨rfl, hBz.out⟩
        · have hd2 : dec (AlikeP b a) = false := dec_false fun h => hab h.symm'
          have hd3 : dec (AlikeP a a) = true := dec_true (AlikeP.rfl' a)
          replace hd := hid hd
          replace hd2 := hid hd2
          replace hd3 := hid hd3
          clear hab
          go_wp2_with fail
          refine wp_region_held_drew (S := (KC w0.heap.size w3.heap.size a b c (reqCs a (.slice va a.args.length ka)) (reqCs b (.slice vb b.args.length kb)) (reqCs c (.slice va a.args.length ka)) wc)) (by kernel_rfl) ?_ (fun hHeld => ?_)
          · exact hZ.out.next (Below.refl _ _).drew
          generalize wr.drew = wd2 at *
          refine wpAnyH_take (i := 0) (oi := ⟨_, _, _, _, _, _⟩) (v := ?_) rfl (by kernel_rfl) (by kernel_rfl) (by kernel_rfl) (fun _ _ _ h => h) (Or.inl ⟨by rfl, ?hy⟩) (by assumption) ?_
          case hy =>
            intro w hSw
            skip
            go_simp
            all_goals with_reducible rfl
          try simp only [Act.put, List.setIfInBounds_toArray, List.set_cons_zero, List.set_cons_succ]
          refine wpAnyH_take (i := 1) (oi := ⟨_, _, _, _, _, _⟩) (v := ?_) rfl (by kernel_rfl) (by kernel_rfl) (by kernel_rfl) (fun _ _ _ h => h) (Or.inl ⟨by rfl, ?hy⟩) (by assumption) ?_
          case hy =>
            intro w hSw
            skip
            go_simp
            all_goals with_reducible rfl
          try simp only [Act.put, List.setIfInBounds_toArray, List.set_cons_zero, List.set_cons_succ]
          refine wpAnyH_take (i := 2) (oi := ⟨_, _, _, _, _, _⟩) (v := ?_) rfl (by kernel_rfl) (by kernel_rfl) (by kernel_rfl) (fun _ _ _ h => h) (Or.inl ⟨by rfl, ?hy⟩) (by assumption) ?_
          case hy =>
            intro w hSw
            have b0 : w.cell? ⟨w0.heap.size, 0, none⟩ = some (sv a.path) := (cell_of (i := 0) hSw.km.ha).trans rfl
            have b1 : w.cell? ⟨w0.heap.size, 1, none⟩ = some (sv a.name) := (cell_of (i := 1) hSw.km.ha).trans rfl
            have b2 : w.cell? ⟨w0.heap.size, 2, none⟩ = some (.slice va a.args.length ka) := (cell_of (i := 2) hSw.km.ha).trans rfl
            have b3 : w.cell? ⟨w0.heap.size, 3, none⟩ = some (iv a.ord) := (cell_of (i := 3) hSw.km.ha).trans rfl
            have b4 : w.cell? ⟨w0.heap.size, 4, none⟩ = some (sv a.reply) := (cell_of (i := 4) hSw.km.ha).trans rfl
            have b5 : w.cell? ⟨w0.heap.size, 5, none⟩ = some (iv a.sent) := (cell_of (i := 5) hSw.km.ha).trans rfl
            have b6 : w.cell? ⟨w0.heap.size, 6, none⟩ = some (iv a.tick) := (cell_of (i := 6) hSw.km.ha).trans rfl
            have b7 : w.cell? ⟨w0.heap.size, 7, none⟩ = some (.bool a.opn) := (cell_of (i := 7) hSw.km.ha).trans rfl
            go_simp
            all_goals with_reducible rfl
          try simp only [Act.put, List.setIfInBounds_toArray, List.set_cons_zero, List.set_cons_succ]
          refine wpAnyH_take (i := 3) (oi := ⟨_, _, _, _, _, _⟩) (v := ?_) rfl (by kernel_rfl) (by kernel_rfl) (by kernel_rfl) (fun _ _ _ h => h) (Or.inl ⟨by rfl, ?hy⟩) (by assumption) ?_
          case hy =>
            intro w hSw
            have b0 : w.cell? ⟨w0.heap.size + 1, 0, none⟩ = some (sv b.path) := (cell_of (i := 0) hSw.km.hb).trans rfl
            have b1 : w.cell? ⟨w0.heap.size + 1, 1, none⟩ = some (sv b.name) := (cell_of (i := 1) hSw.km.hb).trans rfl
            have b2 : w.cell? ⟨w0.heap.size + 1, 2, none⟩ = some (.slice vb b.args.length kb) := (cell_of (i := 2) hSw.km.hb).trans rfl
            have b3 : w.cell? ⟨w0.heap.size + 1, 3, none⟩ = some (iv b.ord) := (cell_of (i := 3) hSw.km.hb).trans rfl
            have b4 : w.cell? ⟨w0.heap.size + 1, 4, none⟩ = some (sv b.reply) := (cell_of (i := 4) hSw.km.hb).trans rfl
            have b5 : w.cell? ⟨w0.heap.size + 1, 5, none⟩ = some (iv b.sent) := (cell_of (i := 5) hSw.km.hb).trans rfl
            have b6 : w.cell? ⟨w0.heap.size + 1, 6, none⟩ = some (iv b.tick) := (cell_of (i := 6) hSw.km.hb).trans rfl
            have b7 : w.cell? ⟨w0.heap.size + 1, 7, none⟩ = some (.bool b.opn) := (cell_of (i := 7) hSw.km.hb).trans rfl
            go_simp
            all_goals with_reducible rfl
          try simp only [Act.put, List.setIfInBounds_toArray, List.set_cons_zero, List.set_cons_succ]
          refine wpAnyH_ready (rs := [4]) (by kernel_rfl) (by simp) ?_
          refine AllReadyH.cons (o := ⟨_, _, _, _, _, _⟩) rfl (fun K hK => ?_) AllReadyH.nil
          go_simp
          go_at_call 15
          refine (alike_any a b haB hbB _ _ (reqCs a (.slice va a.args.length ka)) (reqCs b (.slice vb b.args.length kb)) wd2 hHeld.km.ra hHeld.km.rb).mono ?_
          rintro e wa ⟨rfl, hb⟩
          rw [hd.out]
          have hZ := hHeld.next hb
          refine hK.out _ _ ?_ (fun hHeld2 => ?_)
          · exact hZ
          clear hK K
          clear hHeld
          have hHeld := hHeld2
          clear hHeld2
          try simp only [Act.put, List.setIfInBounds_toArray, List.set_cons_zero, List.set_cons_succ]
          refine wpAnyH_take (i := 5) (oi := ⟨_, _, _, _, _, _⟩) (v := ?_) rfl (by kernel_rfl) (by kernel_rfl) (by kernel_rfl) (fun _ _ _ h => h) (Or.inl ⟨by rfl, ?hy⟩) (by assumption) ?_
          case hy =>
            intro w hSw
            skip
            go_simp
            all_goals with_reducible rfl
          try simp only [Act.put, List.setIfInBounds_toArray, List.set_cons_zero, List.set_cons_succ]
          refine wpAnyH_take (i := 6) (oi := ⟨_, _, _, _, _, _⟩) (v := ?_) rfl (by kernel_rfl) (by kernel_rfl) (by kernel_rfl) (fun _ _ _ h => h) (Or.inl ⟨by rfl, ?hy⟩) (by assumption) ?_
          case hy =>
            intro w hSw
            skip
            go_simp
            all_goals with_reducible rfl
          try simp only [Act.put, List.setIfInBounds_toArray, List.set_cons_zero, List.set_cons_succ]
          refine wpAnyH_take (i := 7) (oi := ⟨_, _, _, _, _, _⟩) (v := undef) rfl (by kernel_rfl) (by kernel_rfl) (by kernel_rfl) (fun _ _ _ h => h) (Or.inr ⟨by rfl, rfl⟩) (by assumption) ?_
          try simp only [Act.put, List.setIfInBounds_toArray, List.set_cons_zero, List.set_cons_succ]
          refine wpAnyH_take (i := 9) (oi := ⟨_, _, _, _, _, _⟩) (v := undef) rfl (by kernel_rfl) (by kernel_rfl) (by kernel_rfl) (fun _ _ _ h => h) (Or.inr ⟨by rfl, rfl⟩) (by assumption) ?_
          try simp only [Act.put, List.setIfInBounds_toArray, List.set_cons_zero, List.set_cons_succ]
          refine wpAnyH_ready (rs := [8]) (by kernel_rfl) (by simp) ?_
          refine AllReadyH.cons (o := ⟨_, _, _, _, _, _⟩) rfl (fun K hK => ?_) AllReadyH.nil
          go_simp
          
          refine hK.out _ _ ?_ (fun hHeld2 => ?_)
          · exact hHeld
          clear hK K
          clear hHeld
          have hHeld := hHeld2
          clear hHeld2
          try simp only [Act.put, List.setIfInBounds_toArray, List.set_cons_zero, List.set_cons_succ]
          refine wpAnyH_ready (rs := [10]) (by kernel_rfl) (by simp) ?_
          refine AllReadyH.cons (o := ⟨_, _, _, _, _, _⟩) rfl (fun K hK => ?_) AllReadyH.nil
          go_simp
          
          refine hK.out _ _ ?_ (fun hHeld2 => ?_)
          · exact hHeld
          clear hK K
          clear hHeld
          have hHeld := hHeld2
          clear hHeld2
          try simp only [Act.put, List.setIfInBounds_toArray, List.set_cons_zero, List.set_cons_succ]
          refine wpAnyH_take (i := 11) (oi := ⟨_, _, _, _, _, _⟩) (v := undef) rfl (by kernel_rfl) (by kernel_rfl) (by kernel_rfl) (fun _ _ _ h => h) (Or.inr ⟨by rfl, rfl⟩) (by assumption) ?_
          try simp only [Act.put, List.setIfInBounds_toArray, List.set_cons_zero, List.set_cons_succ]
          refine wpAnyH_take (i := 12) (oi := ⟨_, _, _, _, _, _⟩) (v := ?_) rfl (by kernel_rfl) (by kernel_rfl) (by kernel_rfl) (fun _ _ _ h => h) (Or.inl ⟨by rfl, ?hy⟩) (by assumption) ?_
          case hy =>
            intro w hSw
            skip
            go_simp
            all_goals with_reducible rfl
          try simp only [Act.put, List.setIfInBounds_toArray, List.set_cons_zero, List.set_cons_succ]
          refine wpAnyH_take (i := 13) (oi := ⟨_, _, _, _, _, _⟩) (v := ?_) rfl (by kernel_rfl) (by kernel_rfl) (by kernel_rfl) (fun _ _ _ h => h) (Or.inl ⟨by rfl, ?hy⟩) (by assumption) ?_
          case hy =>
            intro w hSw
            skip
            go_simp
            all_goals with_reducible rfl
          try simp only [Act.put, List.setIfInBounds_toArray, List.set_cons_zero, List.set_cons_succ]
          refine wpAnyH_take (i := 14) (oi := ⟨_, _, _, _, _, _⟩) (v := ?_) rfl (by kernel_rfl) (by kernel_rfl) (by kernel_rfl) (fun _ _ _ h => h) (Or.inl ⟨by rfl, ?hy⟩) (by assumption) ?_
          case hy =>
            intro w hSw
            skip
            go_simp
            all_goals with_reducible rfl
          try simp only [Act.put, List.setIfInBounds_toArray, List.set_cons_zero, List.set_cons_succ]
          refine wpAnyH_take (i := 15) (oi := ⟨_, _, _, _, _, _⟩) (v := ?_) rfl (by kernel_rfl) (by kernel_rfl) (by kernel_rfl) (fun _ _ _ h => h) (Or.inl ⟨by rfl, ?hy⟩) (by assumption) ?_
          case hy =>
            intro w hSw
            have b0 : w.cell? ⟨w0.heap.size, 0, none⟩ = some (sv a.path) := (cell_of (i := 0) hSw.km.ha).trans rfl
            have b1 : w.cell? ⟨w0.heap.size, 1, none⟩ = some (sv a.name) := (cell_of (i := 1) hSw.km.ha).trans rfl
            have b2 : w.cell? ⟨w0.heap.size, 2, none⟩ = some (.slice va a.args.length ka) := (cell_of (i := 2) hSw.km.ha).trans rfl
            have b3 : w.cell? ⟨w0.heap.size, 3, none⟩ = some (iv a.ord) := (cell_of (i := 3) hSw.km.ha).trans rfl
            have b4 : w.cell? ⟨w0.heap.size, 4, none⟩ = some (sv a.reply) := (cell_of (i := 4) hSw.km.ha).trans rfl
            have b5 : w.cell? ⟨w0.heap.size, 5, none⟩ = some (iv a.sent) := (cell_of (i := 5) hSw.km.ha).trans rfl
            have b6 : w.cell? ⟨w0.heap.size, 6, none⟩ = some (iv a.tick) := (cell_of (i := 6) hSw.km.ha).trans rfl
            have b7 : w.cell? ⟨w0.heap.size, 7, none⟩ = some (.bool a.opn) := (cell_of (i := 7) hSw.km.ha).trans rfl
            go_simp
            all_goals with_reducible rfl
          try simp only [Act.put, List.setIfInBounds_toArray, List.set_cons_zero, List.set_cons_succ]
          refine wpAnyH_take (i := 16) (oi := ⟨_, _, _, _, _, _⟩) (v := ?_) rfl (by kernel_rfl) (by kernel_rfl) (by kernel_rfl) (fun _ _ _ h => h) (Or.inl ⟨by rfl, ?hy⟩) (by assumption) ?_
          case hy =>
            intro w hSw
            have b0 : w.cell? ⟨w0.heap.size + 1, 0, none⟩ = some (sv b.path) := (cell_of (i := 0) hSw.km.hb).trans rfl
            have b1 : w.cell? ⟨w0.heap.size + 1, 1, none⟩ = some (sv b.name) := (cell_of (i := 1) hSw.km.hb).trans rfl
            have b2 : w.cell? ⟨w0.heap.size + 1, 2, none⟩ = some (.slice vb b.args.length kb) := (cell_of (i := 2) hSw.km.hb).trans rfl
            have b3 : w.cell? ⟨w0.heap.size + 1, 3, none⟩ = some (iv b.ord) := (cell_of (i := 3) hSw.km.hb).trans rfl
            have b4 : w.cell? ⟨w0.heap.size + 1, 4, none⟩ = some (sv b.reply) := (cell_of (i := 4) hSw.km.hb).trans rfl
            have b5 : w.cell? ⟨w0.heap.size + 1, 5, none⟩ = some (iv b.sent) := (cell_of (i := 5) hSw.km.hb).trans rfl
            have b6 : w.cell? ⟨w0.heap.size + 1, 6, none⟩ = some (iv b.tick) := (cell_of (i := 6) hSw.km.hb).trans rfl
            have b7 : w.cell? ⟨w0.heap.size + 1, 7, none⟩ = some (.bool b.opn) := (cell_of (i := 7) hSw.km.hb).trans rfl
            go_simp
            all_goals with_reducible rfl
          try simp only [Act.put, List.setIfInBounds_toArray, List.set_cons_zero, List.set_cons_succ]
          refine wpAnyH_take (i := 18) (oi := ⟨_, _, _, _, _, _⟩) (v := ?_) rfl (by kernel_rfl) (by kernel_rfl) (by kernel_rfl) (fun _ _ _ h => h) (Or.inl ⟨by rfl, ?hy⟩) (by assumption) ?_
          case hy =>
            intro w hSw
            have b0 : w.cell? ⟨w0.heap.size + 1, 0, none⟩ = some (sv b.path) := (cell_of (i := 0) hSw.km.hb).trans rfl
            have b1 : w.cell? ⟨w0.heap.size + 1, 1, none⟩ = some (sv b.name) := (cell_of (i := 1) hSw.km.hb).trans rfl
            have b2 : w.cell? ⟨w0.heap.size + 1, 2, none⟩ = some (.slice vb b.args.length kb) := (cell_of (i := 2) hSw.km.hb).trans rfl
            have b3 : w.cell? ⟨w0.heap.size + 1, 3, none⟩ = some (iv b.ord) := (cell_of (i := 3) hSw.km.hb).trans rfl
            have b4 : w.cell? ⟨w0.heap.size + 1, 4, none⟩ = some (sv b.reply) := (cell_of (i := 4) hSw.km.hb).trans rfl
            have b5 : w.cell? ⟨w0.heap.size + 1, 5, none⟩ = some (iv b.sent) := (cell_of (i := 5) hSw.km.hb).trans rfl
            have b6 : w.cell? ⟨w0.heap.size + 1, 6, none⟩ = some (iv b.tick) := (cell_of (i := 6) hSw.km.hb).trans rfl
            have b7 : w.cell? ⟨w0.heap.size + 1, 7, none⟩ = some (.bool b.opn) := (cell_of (i := 7) hSw.km.hb).trans rfl
            go_simp
            all_goals with_reducible rfl
          try simp only [Act.put, List.setIfInBounds_toArray, List.set_cons_zero, List.set_cons_succ]
          refine wpAnyH_take (i := 19) (oi := ⟨_, _, _, _, _, _⟩) (v := ?_) rfl (by kernel_rfl) (by kernel_rfl) (by kernel_rfl) (fun _ _ _ h => h) (Or.inl ⟨by rfl, ?hy⟩) (by assumption) ?_
          case hy =>
            intro w hSw
            have b0 : w.cell? ⟨w0.heap.size, 0, none⟩ = some (sv a.path) := (cell_of (i := 0) hSw.km.ha).trans rfl
            have b1 : w.cell? ⟨w0.heap.size, 1, none⟩ = some (sv a.name) := (cell_of (i := 1) hSw.km.ha).trans rfl
            have b2 : w.cell? ⟨w0.heap.size, 2, none⟩ = some (.slice va a.args.length ka) := (cell_of (i := 2) hSw.km.ha).trans rfl
            have b3 : w.cell? ⟨w0.heap.size, 3, none⟩ = some (iv a.ord) := (cell_of (i := 3) hSw.km.ha).trans rfl
            have b4 : w.cell? ⟨w0.heap.size, 4, none⟩ = some (sv a.reply) := (cell_of (i := 4) hSw.km.ha).trans rfl
            have b5 : w.cell? ⟨w0.heap.size, 5, none⟩ = some (iv a.sent) := (cell_of (i := 5) hSw.km.ha).trans rfl
            have b6 : w.cell? ⟨w0.heap.size, 6, none⟩ = some (iv a.tick) := (cell_of (i := 6) hSw.km.ha).trans rfl
            have b7 : w.cell? ⟨w0.heap.size, 7, none⟩ = some (.bool a.opn) := (cell_of (i := 7) hSw.km.ha).trans rfl
            go_simp
            all_goals with_reducible rfl
          try simp only [Act.put, List.setIfInBounds_toArray, List.set_cons_zero, List.set_cons_succ]
          refine wpAnyH_ready (rs := [17]) (by kernel_rfl) (by simp) ?_
          refine AllReadyH.cons (o := ⟨_, _, _, _, _, _⟩) rfl (fun K hK => ?_) AllReadyH.nil
          go_simp
          go_at_call 15
          refine (alike_any a b haB hbB _ _ (reqCs a (.slice va a.args.length ka)) (reqCs b (.slice vb b.args.length kb)) wa hHeld.km.ra hHeld.km.rb).mono ?_
          rintro e we ⟨rfl, hb⟩
          rw [hd.out]
          have hZ := hHeld.next hb
          refine hK.out _ _ ?_ (fun hHeld2 => ?_)
          · exact hZ
          clear hK K
          clear hHeld
          have hHeld := hHeld2
          clear hHeld2
          try simp only [Act.put, List.setIfInBounds_toArray, List.set_cons_zero, List.set_cons_succ]
          refine wpAnyH_ready (rs := [20]) (by kernel_rfl) (by simp) ?_
          refine AllReadyH.cons (o := ⟨_, _, _, _, _, _⟩) rfl (fun K hK => ?_) AllReadyH.nil
          go_simp
          go_at_call 15
          refine (alike_any b a hbB haB _ _ (reqCs b (.slice vb b.args.length kb)) (reqCs a (.slice va a.args.length ka)) we hHeld.km.rb hHeld.km.ra).mono ?_
          rintro e wf ⟨rfl, hb⟩
          rw [hd2.out]
          have hZ := hHeld.next hb
          refine hK.out _ _ ?_ (fun hHeld2 => ?_)
          · exact hZ
          clear hK K
          clear hHeld
          have hHeld := hHeld2
          clear hHeld2
          try simp only [Act.put, List.setIfInBounds_toArray, List.set_cons_zero, List.set_cons_succ]
          refine wpAnyH_take (i := 21) (oi := ⟨_, _, _, _, _, _⟩) (v := ?_) rfl (by kernel_rfl) (by kernel_rfl) (by kernel_rfl) (fun _ _ _ h => h) (Or.inl ⟨by rfl, ?hy⟩) (by assumption) ?_
          case hy =>
            intro w hSw
            skip
            go_simp
            all_goals with_reducible rfl
          try simp only [Act.put, List.setIfInBounds_toArray, List.set_cons_zero, List.set_cons_succ]
          refine wpAnyH_take (i := 22) (oi := ⟨_, _, _, _, _, _⟩) (v := ?_) rfl (by kernel_rfl) (by kernel_rfl) (by kernel_rfl) (fun _ _ _ h => h) (Or.inl ⟨by rfl, ?hy⟩) (by assumption) ?_
          case hy =>
            intro w hSw
            skip
            go_simp
            all_goals with_reducible rfl
          try simp only [Act.put, List.setIfInBounds_toArray, List.set_cons_zero, List.set_cons_succ]
          refine wpAnyH_take (i := 23) (oi := ⟨_, _, _, _, _, _⟩) (v := ?_) rfl (by kernel_rfl) (by kernel_rfl) (by kernel_rfl) (fun _ _ _ h => h) (Or.inl ⟨by rfl, ?hy⟩) (by assumption) ?_
          case hy =>
            intro w hSw
            skip
            go_simp
            all_goals with_reducible rfl
          try simp only [Act.put, List.setIfInBounds_toArray, List.set_cons_zero, List.set_cons_succ]
          refine wpAnyH_take (i := 24) (oi := ⟨_, _, _, _, _, _⟩) (v := ?_) rfl (by kernel_rfl) (by kernel_rfl) (by kernel_rfl) (fun _ _ _ h => h) (Or.inl ⟨by rfl, ?hy⟩) (by assumption) ?_
          case hy =>
            intro w hSw
            have b0 : w.cell? ⟨w0.heap.size, 0, none⟩ = some (sv a.path) := (cell_of (i := 0) hSw.km.ha).trans rfl
            have b1 : w.cell? ⟨w0.heap.size, 1, none⟩ = some (sv a.name) := (cell_of (i := 1) hSw.km.ha).trans rfl
            have b2 : w.cell? ⟨w0.heap.size, 2, none⟩ = some (.slice va a.args.length ka) := (cell_of (i := 2) hSw.km.ha).trans rfl
            have b3 : w.cell? ⟨w0.heap.size, 3, none⟩ = some (iv a.ord) := (cell_of (i := 3) hSw.km.ha).trans rfl
            have b4 : w.cell? ⟨w0.heap.size, 4, none⟩ = some (sv a.reply) := (cell_of (i := 4) hSw.km.ha).trans rfl
            have b5 : w.cell? ⟨w0.heap.size, 5, none⟩ = some (iv a.sent) := (cell_of (i := 5) hSw.km.ha).trans rfl
            have b6 : w.cell? ⟨w0.heap.size, 6, none⟩ = some (iv a.tick) := (cell_of (i := 6) hSw.km.ha).trans rfl
            have b7 : w.cell? ⟨w0.heap.size, 7, none⟩ = some (.bool a.opn) := (cell_of (i := 7) hSw.km.ha).trans rfl
            go_simp
            all_goals with_reducible rfl
          try simp only [Act.put, List.setIfInBounds_toArray, List.set_cons_zero, List.set_cons_succ]
          refine wpAnyH_take (i := 25) (oi := ⟨_, _, _, _, _, _⟩) (v := ?_) rfl (by kernel_rfl) (by kernel_rfl) (by kernel_rfl) (fun _ _ _ h => h) (Or.inl ⟨by rfl, ?hy⟩) (by assumption) ?_
          case hy =>
            intro w hSw
            have b0 : w.cell? ⟨w0.heap.size, 0, none⟩ = some (sv a.path) := (cell_of (i := 0) hSw.km.ha).trans rfl
            have b1 : w.cell? ⟨w0.heap.size, 1, none⟩ = some (sv a.name) := (cell_of (i := 1) hSw.km.ha).trans rfl
            have b2 : w.cell? ⟨w0.heap.size, 2, none⟩ = some (.slice va a.args.length ka) := (cell_of (i := 2) hSw.km.ha).trans rfl
            have b3 : w.cell? ⟨w0.heap.size, 3, none⟩ = some (iv a.ord) := (cell_of (i := 3) hSw.km.ha).trans rfl
            have b4 : w.cell? ⟨w0.heap.size, 4, none⟩ = some (sv a.reply) := (cell_of (i := 4) hSw.km.ha).trans rfl
            have b5 : w.cell? ⟨w0.heap.size, 5, none⟩ = some (iv a.sent) := (cell_of (i := 5) hSw.km.ha).trans rfl
            have b6 : w.cell? ⟨w0.heap.size, 6, none⟩ = some (iv a.tick) := (cell_of (i := 6) hSw.km.ha).trans rfl
            have b7 : w.cell? ⟨w0.heap.size, 7, none⟩ = some (.bool a.opn) := (cell_of (i := 7) hSw.km.ha).trans rfl
            go_simp
            all_goals with_reducible rfl
          try simp only [Act.put, List.setIfInBounds_toArray, List.set_cons_zero, List.set_cons_succ]
          refine wpAnyH_ready (rs := [26]) (by kernel_rfl) (by simp) ?_
          refine AllReadyH.cons (o := ⟨_, _, _, _, _, _⟩) rfl (fun K hK => ?_) AllReadyH.nil
          go_simp
          go_at_call 15
          refine (alike_any a a haB haB _ _ (reqCs a (.slice va a.args.length ka)) (reqCs a (.slice va a.args.length ka)) wf hHeld.km.ra hHeld.km.ra).mono ?_
          rintro e wg ⟨rfl, hb⟩
          rw [hd3.out]
          have hZ := hHeld.next hb
          refine hK.out _ _ ?_ (fun hHeld2 => ?_)
          · exact hZ
          clear hK K
          clear hHeld
          have hHeld := hHeld2
          clear hHeld2
          try simp only [Act.put, List.setIfInBounds_toArray, List.set_cons_zero, List.set_cons_succ]
          refine wpAnyH_take (i := 27) (oi := ⟨_, _, _, _, _, _⟩) (v := ?_) rfl (by kernel_rfl) (by kernel_rfl) (by kernel_rfl) (fun _ _ _ h => h) (Or.inl ⟨by rfl, ?hy⟩) (by assumption) ?_
          case hy =>
            intro w hSw
            skip
            go_simp
            all_goals with_reducible rfl
          try simp only [Act.put, List.setIfInBounds_toArray, List.set_cons_zero, List.set_cons_succ]
          refine wpAnyH_take (i := 28) (oi := ⟨_, _, _, _, _, _⟩) (v := ?_) rfl (by kernel_rfl) (by kernel_rfl) (by kernel_rfl) (fun _ _ _ h => h) (Or.inl ⟨by rfl, ?hy⟩) (by assumption) ?_
          case hy =>
            intro w hSw
            skip
            go_simp
            all_goals with_reducible rfl
          try simp only [Act.put, List.setIfInBounds_toArray, List.set_cons_zero, List.set_cons_succ]
          refine wpAnyH_done (by kernel_rfl) ?_ _
          have hBz := hid (hBc.out.trans (hHeld.bel.mono hBc.out.size))
          clear hHeld
          go_wp2_with fail
          go_ret
          exact ⟨rfl, hBz.out⟩
end Go.Proofs.YtnbhpicmflagcaaDoor
