/- Chapter 02 (code): walks: the law's read, whose new rows are apart from any older blocks; a list of the law's values that grows. -/
import Derived.Test.YtmlcnmpfjallkaaCodeV3
import Derived.Test.YtmlcnmpfjallkaaCodeN5
set_option linter.unusedVariables false
namespace Go.Proofs.Ytmlcnmpfjallkaa
open Go.RowKit
open Go.Lib (hid IsBuilder byteCells)

set_option maxHeartbeats 8000000 in
set_option maxRecDepth 100000 in
theorem read_gen (S : Nat → Prop) (b : Nat) (t : CV) (vt vn : Value) (st : St) (w : World) (h : Rd 59 b st w) (hs : st.1.length ≤ 1000000000) (hK : -9223372036854775808 ≤ t.kind ∧ t.kind ≤ 9223372036854775807)
    (hS : ∀ k, S k → k < w.heap.size) (hSb : S b) (hvt : RowS S w vt (t.texts.map sv)) (hvn : RowS S w vn (t.nums.map iv)) :
    Calls Try.prog 44 #[.pointer (some ⟨b, 0, none⟩), agv t vt vn] w fun e w' => ∃ vt' vn', e = .returned (agv (readCV t st).1 vt' vn') ∧
      RowS S w' vt' ((readCV t st).1.texts.map sv) ∧ RowS S w' vn' ((readCV t st).1.nums.map iv) ∧ Rd 59 b (readCV t st).2 w' ∧ Fr (one b) w w' := by
  have hlt := lt_of_heap h
  obtain ⟨va, na, ca, rfl⟩ := hvt.slice
  obtain ⟨vb, nb, cb, rfl⟩ := hvn.slice
  replace hvt := hid (hvt.weaken (T := fun k => S k ∨ k = w.heap.size ∨ k = w.heap.size + 1) (fun k hk e => by rcases e with e | e | e; exact e; omega; omega))
  replace hvn := hid (hvn.weaken (T := fun k => S k ∨ k = w.heap.size ∨ k = w.heap.size + 1) (fun k hk e => by rcases e with e | e | e; exact e; omega; omega))
  go_enter Try.func44, Try.ntmps44
  go_wp2_with fail
  refine (kind_any t.kind (iv t.n) (sv t.text) (.slice va na ca) (.slice vb nb cb) _ hK).mono ?_
  rintro e w1 ⟨rfl, hb⟩
  have h1 : Rd 59 b st w1 := below_keep hb (heap_alloc_lt (heap_alloc_lt h)) (lt_of_heap (heap_alloc_lt (heap_alloc_lt h)))
  have hP := hid (below_keep hb (heap_alloc_lt (heap_alloc_new' w (.cells #[iv t.kind, iv t.n, sv t.text, .slice va na ca, .slice vb nb cb] 47))) (by simp; omega))
  have hQ := hid (below_keep hb (heap_alloc_new' (w.alloc (.cells #[iv t.kind, iv t.n, sv t.text, .slice va na ca, .slice vb nb cb] 47)) (.cells #[Value.int IntKind.i64 0, Value.int IntKind.i64 0, Value.string { data := #[] }, Value.slice none 0 0, Value.slice none 0 0] 47)) (by simp))
  have hfr1 : Fr (one b) w w1 := (((Fr.refl _ _).alloc _).alloc _).trans (Fr.of_below hb _)
  have hsz1 : w.heap.size + 2 ≤ w1.heap.size := by have := hb.size; simpa using this
  clear hb
  have hbP : b ≠ w.heap.size := by omega
  have hbQ : b ≠ w.heap.size + 1 := by omega
  have hcs : t.kind % 5 = 0 ∨ t.kind % 5 = 1 ∨ t.kind % 5 = 2 ∨ t.kind % 5 = 3 ∨ t.kind % 5 = 4 := by omega
  rcases hcs with hk | hk | hk | hk | hk
  · have er : readCV t st = ({ t with n := (stNum st).1 }, (stNum st).2) := by simp [readCV, hk]
    rw [hk]
    replace er := hid er
    go_wp2_with fail
    refine (readNum b st _ h1).mono ?_
    rintro e w2 ⟨rfl, h2, hf⟩
    obtain ⟨p0, p1, p2, p3, p4, pf⟩ := cells5 (hf.keep hP.out (fun e => by unfold one at e; omega))
    have hQ2 := hf.keep hQ.out (fun e => by unfold one at e; simp at e; omega)
    simp only [World.size_alloc] at hQ2
    obtain ⟨q0, q1, q2, q3, q4, qf⟩ := cells5 hQ2
    replace hQ2 := hid hQ2
    go_wp2
    refine bodyPost_ret (v := agv { t with n := (stNum st).1 } (.slice va na ca) (.slice vb nb cb)) ?_ rfl ?_
    · simp [results, Try.results44, go_sem, q0, q1, q2, q3, q4]
    · have hch := Fr.sets w.heap.size (w.heap.size + 1) w2
      refine ⟨_, _, by rw [er.out], ?_, ?_, by rw [er.out]; exact h2.fr (hch _ _ _ _ _ _ _) (fun e => by omega), (hfr1.trans hf).trans' (hch _ _ _ _ _ _ _) (fun _ x => x) (fun i hi e => by omega)⟩
      · rw [er.out]; exact ((((hvt.out.fr hfr1 (fun k e => Or.inl (by rw [show k = b from e]; exact hSb))).fr hf (fun k e => Or.inl (by rw [show k = b from e]; exact hSb)))).fr (hch _ _ _ _ _ _ _) (fun k e => Or.inr e)).weaken (fun k _ e => Or.inl e)
      · rw [er.out]; exact ((((hvn.out.fr hfr1 (fun k e => Or.inl (by rw [show k = b from e]; exact hSb))).fr hf (fun k e => Or.inl (by rw [show k = b from e]; exact hSb)))).fr (hch _ _ _ _ _ _ _) (fun k e => Or.inr e)).weaken (fun k _ e => Or.inl e)
  · have er : readCV t st = ({ t with n := (stInt st).1 }, (stInt st).2) := by simp [readCV, hk]
    rw [hk]
    replace er := hid er
    go_wp2_with fail
    refine (readInt b st _ h1 (by omega)).mono ?_
    rintro e w2 ⟨rfl, h2, hf⟩
    obtain ⟨p0, p1, p2, p3, p4, pf⟩ := cells5 (hf.keep hP.out (fun e => by unfold one at e; omega))
    have hQ2 := hf.keep hQ.out (fun e => by unfold one at e; simp at e; omega)
    simp only [World.size_alloc] at hQ2
    obtain ⟨q0, q1, q2, q3, q4, qf⟩ := cells5 hQ2
    replace hQ2 := hid hQ2
    go_wp2
    refine bodyPost_ret (v := agv { t with n := (stInt st).1 } (.slice va na ca) (.slice vb nb cb)) ?_ rfl ?_
    · simp [results, Try.results44, go_sem, q0, q1, q2, q3, q4]
    · have hch := Fr.sets w.heap.size (w.heap.size + 1) w2
      refine ⟨_, _, by rw [er.out], ?_, ?_, by rw [er.out]; exact h2.fr (hch _ _ _ _ _ _ _) (fun e => by omega), (hfr1.trans hf).trans' (hch _ _ _ _ _ _ _) (fun _ x => x) (fun i hi e => by omega)⟩
      · rw [er.out]; exact ((((hvt.out.fr hfr1 (fun k e => Or.inl (by rw [show k = b from e]; exact hSb))).fr hf (fun k e => Or.inl (by rw [show k = b from e]; exact hSb)))).fr (hch _ _ _ _ _ _ _) (fun k e => Or.inr e)).weaken (fun k _ e => Or.inl e)
      · rw [er.out]; exact ((((hvn.out.fr hfr1 (fun k e => Or.inl (by rw [show k = b from e]; exact hSb))).fr hf (fun k e => Or.inl (by rw [show k = b from e]; exact hSb)))).fr (hch _ _ _ _ _ _ _) (fun k e => Or.inr e)).weaken (fun k _ e => Or.inl e)
  · have er : readCV t st = ({ t with text := (stText st).1 }, (stText st).2) := by simp [readCV, hk]
    rw [hk]
    replace er := hid er
    go_wp2_with fail
    refine (readText b st _ h1 (by omega)).mono ?_
    rintro e w2 ⟨rfl, h2, hf⟩
    obtain ⟨p0, p1, p2, p3, p4, pf⟩ := cells5 (hf.keep hP.out (fun e => by unfold one at e; omega))
    have hQ2 := hf.keep hQ.out (fun e => by unfold one at e; simp at e; omega)
    simp only [World.size_alloc] at hQ2
    obtain ⟨q0, q1, q2, q3, q4, qf⟩ := cells5 hQ2
    replace hQ2 := hid hQ2
    go_wp2
    refine bodyPost_ret (v := agv { t with text := (stText st).1 } (.slice va na ca) (.slice vb nb cb)) ?_ rfl ?_
    · simp [results, Try.results44, go_sem, q0, q1, q2, q3, q4]
    · have hch := Fr.sets w.heap.size (w.heap.size + 1) w2
      refine ⟨_, _, by rw [er.out], ?_, ?_, by rw [er.out]; exact h2.fr (hch _ _ _ _ _ _ _) (fun e => by omega), (hfr1.trans hf).trans' (hch _ _ _ _ _ _ _) (fun _ x => x) (fun i hi e => by omega)⟩
      · rw [er.out]; exact ((((hvt.out.fr hfr1 (fun k e => Or.inl (by rw [show k = b from e]; exact hSb))).fr hf (fun k e => Or.inl (by rw [show k = b from e]; exact hSb)))).fr (hch _ _ _ _ _ _ _) (fun k e => Or.inr e)).weaken (fun k _ e => Or.inl e)
      · rw [er.out]; exact ((((hvn.out.fr hfr1 (fun k e => Or.inl (by rw [show k = b from e]; exact hSb))).fr hf (fun k e => Or.inl (by rw [show k = b from e]; exact hSb)))).fr (hch _ _ _ _ _ _ _) (fun k e => Or.inr e)).weaken (fun k _ e => Or.inl e)
  · have er : readCV t st = ({ t with texts := (stList st).1 }, (stList st).2) := by simp [readCV, hk]
    rw [hk]
    replace er := hid er
    go_wp2_with fail
    refine (readList b st _ h1 hs).mono ?_
    rintro e w2 ⟨v, rfl, ho, h2, hf⟩
    have hnew : RowS (fun k => S k ∨ k = w.heap.size ∨ k = w.heap.size + 1) w2 v ((stList st).1.map sv) := RowS.of_owns ho (fun k hk e => by rcases e with e | e | e; have := hS k e; omega; omega; omega)
    clear ho
    obtain ⟨vx, nx, cx, rfl⟩ := hnew.slice
    replace hnew := hid hnew
    obtain ⟨p0, p1, p2, p3, p4, pf⟩ := cells5 (hf.keep hP.out (fun e => by unfold one at e; omega))
    have hQ2 := hf.keep hQ.out (fun e => by unfold one at e; simp at e; omega)
    simp only [World.size_alloc] at hQ2
    obtain ⟨q0, q1, q2, q3, q4, qf⟩ := cells5 hQ2
    replace hQ2 := hid hQ2
    go_wp2
    refine bodyPost_ret (v := agv { t with texts := (stList st).1 } (.slice vx nx cx) (.slice vb nb cb)) ?_ rfl ?_
    · simp [results, Try.results44, go_sem, q0, q1, q2, q3, q4]
    · have hch := Fr.sets w.heap.size (w.heap.size + 1) w2
      refine ⟨_, _, by rw [er.out], ?_, ?_, by rw [er.out]; exact h2.fr (hch _ _ _ _ _ _ _) (fun e => by omega), (hfr1.trans hf).trans' (hch _ _ _ _ _ _ _) (fun _ x => x) (fun i hi e => by omega)⟩
      · rw [er.out]; exact ((hnew.out).fr (hch _ _ _ _ _ _ _) (fun k e => Or.inr e)).weaken (fun k _ e => Or.inl e)
      · rw [er.out]; exact ((((hvn.out.fr hfr1 (fun k e => Or.inl (by rw [show k = b from e]; exact hSb))).fr hf (fun k e => Or.inl (by rw [show k = b from e]; exact hSb)))).fr (hch _ _ _ _ _ _ _) (fun k e => Or.inr e)).weaken (fun k _ e => Or.inl e)
  · have er : readCV t st = ({ t with nums := (stNums st).1 }, (stNums st).2) := by simp [readCV, hk]
    rw [hk]
    replace er := hid er
    go_wp2_with fail
    refine (readNums b st _ h1 hs).mono ?_
    rintro e w2 ⟨v, rfl, ho, h2, hf⟩
    have hnew : RowS (fun k => S k ∨ k = w.heap.size ∨ k = w.heap.size + 1) w2 v ((stNums st).1.map iv) := RowS.of_owns ho (fun k hk e => by rcases e with e | e | e; have := hS k e; omega; omega; omega)
    clear ho
    obtain ⟨vx, nx, cx, rfl⟩ := hnew.slice
    replace hnew := hid hnew
    obtain ⟨p0, p1, p2, p3, p4, pf⟩ := cells5 (hf.keep hP.out (fun e => by unfold one at e; omega))
    have hQ2 := hf.keep hQ.out (fun e => by unfold one at e; simp at e; omega)
    simp only [World.size_alloc] at hQ2
    obtain ⟨q0, q1, q2, q3, q4, qf⟩ := cells5 hQ2
    replace hQ2 := hid hQ2
    go_wp2
    refine bodyPost_ret (v := agv { t with nums := (stNums st).1 } (.slice va na ca) (.slice vx nx cx)) ?_ rfl ?_
    · simp [results, Try.results44, go_sem, q0, q1, q2, q3, q4]
    · have hch := Fr.sets w.heap.size (w.heap.size + 1) w2
      refine ⟨_, _, by rw [er.out], ?_, ?_, by rw [er.out]; exact h2.fr (hch _ _ _ _ _ _ _) (fun e => by omega), (hfr1.trans hf).trans' (hch _ _ _ _ _ _ _) (fun _ x => x) (fun i hi e => by omega)⟩
      · rw [er.out]; exact ((((hvt.out.fr hfr1 (fun k e => Or.inl (by rw [show k = b from e]; exact hSb))).fr hf (fun k e => Or.inl (by rw [show k = b from e]; exact hSb)))).fr (hch _ _ _ _ _ _ _) (fun k e => Or.inr e)).weaken (fun k _ e => Or.inl e)
      · rw [er.out]; exact ((hnew.out).fr (hch _ _ _ _ _ _ _) (fun k e => Or.inr e)).weaken (fun k _ e => Or.inl e)

section
variable {P : Program} (w : World)
/-- an append to an owned row: the new row is the old one or a new block -/
theorem run_append_fresh (base : Nat) (t ty e : TypeId) (i : TypeInfo) (z : Value) (size bytes : Nat) (ht : P.underlying t = some (.slice e)) (hi : P.info? e = some i) (hz : i.zero = some z)
    (hsize : i.size = size) (hby : i.bytes = bytes) (hzs : z.cells.size = size) (hsz : 0 < size)
    (v : Value) (n : Nat) (xs : List Value) (hown : w.ownsRow base e size v n xs)
    (a : Addr) (m c : Nat) (news : List Value) (hl : news.length = m * size) (hnews : ∀ j u, news[j]? = some u → w.cell? (a.add j) = some u) (h1 : ∀ u ∈ news, u.oneCell' = true)
    (h63 : n + m ≤ maxLen) (hbytes : (n + m) * bytes ≤ 140737488355328) (hbase : base ≤ w.heap.size) :
    ∃ v' w', (Builtin.append_ #[t, t] ty #[v, .slice (some a) m c]).run P w = .ok v' w' ∧ w'.ownsRow base e size v' (n + m) (xs ++ news) ∧ w.grownBy w' v.ownBlock ∧
      ∀ g, v'.ownBlock = some g → v.ownBlock = some g ∨ w.heap.size ≤ g := by
  obtain ⟨v', w', hr, h2, h3, _⟩ := run_append_own (P := P) w base t ty e i z size bytes ht hi hz hsize hby hzs hsz v n xs hown a m c news hl hnews h1 h63 hbytes hbase
  refine ⟨v', w', hr, h2, h3, fun g hg => ?_⟩
  subst hsize; subst hby
  rcases hown.2 with ⟨rfl, rfl⟩ | ⟨g0, cap, cur, rfl, hbg, hg0, hnc, hcm, hcs, htake⟩
  · obtain rfl : xs = [] := List.eq_nil_of_length_eq_zero (by simpa using hown.1)
    obtain ⟨v2, w2, hr2, h22, _, _⟩ := run_append_own (P := P) w w.heap.size t ty e i z i.size i.bytes ht hi hz rfl rfl hzs hsz (.slice none 0 0) 0 [] (World.ownsRow_nil _ _ _ _) a m c news hl hnews h1 h63 hbytes (Nat.le_refl _)
    have e2 := hr.symm.trans hr2
    simp only [Result.ok.injEq] at e2
    obtain ⟨rfl, rfl⟩ := e2
    exact Or.inr (h22.lt g hg).1
  · by_cases hroom : n + m ≤ cap
    · have hfit : n * i.size + news.length ≤ cur.size := by rw [hl, hcs, ← Nat.add_mul]; exact Nat.mul_le_mul_right _ hroom
      have hr2 := run_append_room (P := P) w t ty e i ht hi g0 n cap cur hg0 a m c news hl hnews h1 hroom hfit
      have e2 := hr.symm.trans hr2
      simp only [Result.ok.injEq] at e2
      obtain ⟨rfl, _⟩ := e2
      exact Or.inl hg
    · have holds : ∀ j u, xs[j]? = some u → w.cell? ((⟨g0, 0, none⟩ : Addr).add j) = some u := hown.cells (g := g0) rfl
      have hr2 := run_append_grow (P := P) w t ty e i z ht hi hz ⟨g0, 0, none⟩ n cap xs hown.1 holds a m c news hl hnews (by omega) (by unfold maxLen at h63; omega) (growslice_fits (by omega) hbytes)
      have e2 := hr.symm.trans hr2
      simp only [Result.ok.injEq] at e2
      obtain ⟨rfl, _⟩ := e2
      simp only [Value.ownBlock, Option.some.injEq] at hg
      exact Or.inr (by omega)
theorem wpList_append_fresh {ops : Array Oper} {rest : List Oper} {o : Oper} {a : Act} {Q : Exit → Act → World → Prop} (hgd : o.guard = none) (s x : Operand) (t : TypeId)
    (ho : o.op = .call { callee := .builtin .append, args := #[s, x], argTypes := #[t, t] })
    (base : Nat) (e : TypeId) (i : TypeInfo) (z : Value) (size bytes : Nat) (ht : P.underlying t = some (.slice e)) (hi : P.info? e = some i) (hz : i.zero = some z)
    (hsize : i.size = size) (hby : i.bytes = bytes) (hzs : z.cells.size = size) (hsz : 0 < size)
    (v : Value) (n : Nat) (xs : List Value) (hs : a.eval s = v) (hown : w.ownsRow base e size v n xs)
    (ad : Addr) (m c : Nat) (news : List Value) (hx : a.eval x = .slice (some ad) m c) (hl : news.length = m * size) (hnews : ∀ j u, news[j]? = some u → w.cell? (ad.add j) = some u) (h1 : ∀ u ∈ news, u.oneCell' = true)
    (h63 : n + m ≤ maxLen) (hbytes : (n + m) * bytes ≤ 140737488355328) (hbase : base ≤ w.heap.size)
    (h : ∀ v' w', w'.ownsRow base e size v' (n + m) (xs ++ news) → w.grownBy w' v.ownBlock → (∀ g, v'.ownBlock = some g → v.ownBlock = some g ∨ w.heap.size ≤ g) → wpList P ops Q rest (a.put o.dst v') w') : wpList P ops Q (o :: rest) a w := by
  obtain ⟨v', w', hr, h2, h3, h4⟩ := run_append_fresh (P := P) w base t o.type e i z size bytes ht hi hz hsize hby hzs hsz v n xs hown ad m c news hl hnews h1 h63 hbytes hbase
  refine wpList_plain hgd fun K hK => ?_
  unfold Oper.wp execOp
  simp only [ho, resolve, invoke, builtin, Sem.run_bind, Sem.run_pure, Result.andThen_ok, List.map_toArray, List.map_cons, List.map_nil, hs, hx, hr]
  exact hK _ _ (h v' w' h2 h3 h4)
end
theorem addr0 (g j : Nat) : (⟨g, 0, none⟩ : Addr).add j = ⟨g, j, none⟩ := by cases j <;> simp [Addr.add]
/-- a list of the law's values that this function alone holds -/
def VOwn (b base : Nat) (w : World) (v : Value) (ts : List CV) : Prop :=
  ∃ cs : List Value, w.ownsRow base 47 5 v ts.length cs ∧ ∀ k t, ts[k]? = some t → ∃ vt vn, cs[k * 5]? = some (iv t.kind) ∧ cs[k * 5 + 1]? = some (iv t.n) ∧ cs[k * 5 + 2]? = some (sv t.text) ∧ cs[k * 5 + 3]? = some vt ∧ cs[k * 5 + 4]? = some vn ∧
    RowS (fun k => k = b ∨ v.ownBlock = some k) w vt (t.texts.map sv) ∧ RowS (fun k => k = b ∨ v.ownBlock = some k) w vn (t.nums.map iv)
theorem VOwn.nil (b base : Nat) (w : World) : VOwn b base w (.slice none 0 0) [] := ⟨[], World.ownsRow_nil _ _ _ _, fun k t h => by simp at h⟩
theorem VOwn.fr {b base : Nat} {w w' : World} {v : Value} {ts : List CV} (h : VOwn b base w v ts) (hf : Fr (one b) w w') (hb : b < base) : VOwn b base w' v ts := by
  obtain ⟨cs, h1, h2⟩ := h
  refine ⟨cs, owns_fr h1 hf hb, fun k t hk => ?_⟩
  obtain ⟨vt, vn, c0, c1, c2, c3, c4, r1, r2⟩ := h2 k t hk
  exact ⟨vt, vn, c0, c1, c2, c3, c4, r1.fr hf (fun k e => Or.inl e), r2.fr hf (fun k e => Or.inl e)⟩
theorem VOwn.push {b base : Nat} {w w' : World} {v v' : Value} {ts : List CV} {t : CV} {vt vn : Value} (cs : List Value) (h2 : ∀ k t, ts[k]? = some t → ∃ vt vn, cs[k * 5]? = some (iv t.kind) ∧ cs[k * 5 + 1]? = some (iv t.n) ∧ cs[k * 5 + 2]? = some (sv t.text) ∧ cs[k * 5 + 3]? = some vt ∧ cs[k * 5 + 4]? = some vn ∧
    RowS (fun k => k = b ∨ v.ownBlock = some k) w vt (t.texts.map sv) ∧ RowS (fun k => k = b ∨ v.ownBlock = some k) w vn (t.nums.map iv)) (hl : cs.length = ts.length * 5)
    (hown : w'.ownsRow base 47 5 v' (ts.length + 1) (cs ++ [iv t.kind, iv t.n, sv t.text, vt, vn])) (hg : w.grownBy w' v.ownBlock) (hv : ∀ g, v'.ownBlock = some g → v.ownBlock = some g ∨ w.heap.size ≤ g)
    (r1 : RowS (fun k => k = b ∨ v.ownBlock = some k) w vt (t.texts.map sv)) (r2 : RowS (fun k => k = b ∨ v.ownBlock = some k) w vn (t.nums.map iv)) : VOwn b base w' v' (ts ++ [t]) := by
  have hf : Fr (fun k => v.ownBlock = some k) w w' := (Fr.refl _ _).grown hg (fun k hk => Or.inl hk)
  have mv : ∀ {u : Value} {xs : List Value}, RowS (fun k => k = b ∨ v.ownBlock = some k) w u xs → RowS (fun k => k = b ∨ v'.ownBlock = some k) w' u xs := fun {u xs} hr =>
    ((hr.weaken (T := fun k => (k = b ∨ v'.ownBlock = some k) ∨ v.ownBlock = some k) (fun k hk e => by
      rcases e with (e | e) | e
      · exact Or.inl e
      · rcases hv k e with e | e
        · exact Or.inr e
        · omega
      · exact Or.inr e)).fr hf (fun k e => Or.inr e)).weaken (fun k _ e => Or.inl e)
  refine ⟨_, by simpa using hown, fun k t' hk => ?_⟩
  by_cases hlt : k < ts.length
  · rw [List.getElem?_append_left hlt] at hk
    obtain ⟨vt', vn', c0, c1, c2, c3, c4, q1, q2⟩ := h2 k t' hk
    refine ⟨vt', vn', ?_, ?_, ?_, ?_, ?_, mv q1, mv q2⟩ <;> (rw [List.getElem?_append_left (by omega)]; assumption)
  · have hke : k = ts.length := by have := (List.getElem?_eq_some_iff.1 hk).1; simp at this; omega
    subst hke
    rw [List.getElem?_append_right (Nat.le_refl _)] at hk
    simp at hk
    subst hk
    refine ⟨vt, vn, ?_, ?_, ?_, ?_, ?_, mv r1, mv r2⟩ <;> (rw [List.getElem?_append_right (by omega), hl]; simp)
theorem VOwn.vrow {b base : Nat} {w : World} {v : Value} {ts : List CV} (h : VOwn b base w v ts) : VRow (fun _ => False) w v ts := by
  obtain ⟨cs, h1, h2⟩ := h
  have h1' := h1
  obtain ⟨hl, h3⟩ := h1
  rcases h3 with ⟨rfl, h0⟩ | ⟨g, cap, cur, rfl, hb2, hg, hn, hm, hs', ht⟩
  · obtain rfl : ts = [] := List.eq_nil_of_length_eq_zero h0
    exact ⟨none, 0, 0, 0, rfl, fun h => by simp at h, fun k t hk => by simp at hk⟩
  · refine ⟨_, cap, g, 0, rfl, fun _ => ⟨rfl, lt_of_heap hg, fun e => e⟩, fun k t hk => ?_⟩
    obtain ⟨vt, vn, c0, c1, c2, c3, c4, q1, q2⟩ := h2 k t hk
    have hc : ∀ j u, cs[j]? = some u → w.cell? ⟨g, 0 + j, none⟩ = some u := fun j u hu => by
      have := h1'.cells (g := g) rfl j u hu
      rw [addr0] at this
      simpa using this
    refine ⟨vt, vn, by simpa using hc _ _ c0, by simpa using hc _ _ c1, by simpa using hc _ _ c2, by simpa using hc _ _ c3, by simpa using hc _ _ c4, q1.weaken (fun _ _ e => e.elim), q2.weaken (fun _ _ e => e.elim)⟩
theorem new5 (w : World) (a b c d e : Value) (t : TypeId) : ∀ j x, [a, b, c, d, e][j]? = some x → (w.alloc (.cells #[a, b, c, d, e] t)).cell? ((⟨w.heap.size, 0, none⟩ : Addr).add j) = some x := by
  intro j x hx
  have h := heap_alloc_new' w (.cells #[a, b, c, d, e] t)
  rw [addr0, cell_of h]
  simpa using hx
/-- what the loop of the law CodeAgain knows -/
def Inv (s : List UInt8) (ts : List CV) (st : St) : Prop := (st.2 = false ∧ s = (ts.map encCV).flatten ++ st.1 ∧ ∀ t ∈ ts, Small t) ∨ st = failed
theorem Inv.len {s : List UInt8} {ts : List CV} {st : St} (h : Inv s ts st) : st.1.length ≤ s.length := by
  rcases h with ⟨_, h, _⟩ | rfl
  · rw [h]; simp
  · simp [failed]
theorem small_read (κ : Int) (hκ : -9223372036854775808 ≤ κ ∧ κ ≤ 9223372036854775807) (s : List UInt8) (hs : s.length ≤ 10000) (hf : (readCV ⟨κ, 0, [], [], []⟩ (s, false)).2 ≠ failed) : Small (readCV ⟨κ, 0, [], [], []⟩ (s, false)).1 := by
  rcases readCV_sound ⟨κ, 0, [], [], []⟩ s with e | ⟨e1, e2, b0, b1, b2, b3, b4⟩
  · exact absurd e hf
  · have hk := readCV_kind ⟨κ, 0, [], [], []⟩ (s, false)
    obtain ⟨o1, o2, o3, o4⟩ := readCV_others ⟨κ, 0, [], [], []⟩ (s, false)
    generalize (readCV ⟨κ, 0, [], [], []⟩ (s, false)).1 = t at *
    generalize (readCV ⟨κ, 0, [], [], []⟩ (s, false)).2 = st at *
    simp only at hk o1 o2 o3 o4
    have hE : (encCV t).length ≤ 10000 := by have := congrArg List.length e2; simp only [List.length_append] at this; omega
    have hz := (venc_bound 0 (by decide)).2
    rcases (by omega : κ % 5 = 0 ∨ κ % 5 = 1 ∨ κ % 5 = 2 ∨ κ % 5 = 3 ∨ κ % 5 = 4) with hq | hq | hq | hq | hq
    · have p1 := o1 (by omega); have p2 := o2 (by omega); have p3 := o3 (by omega)
      have q := b0 (by rw [hk]; exact hq)
      refine ⟨by rw [hk]; exact hκ, by omega, by rw [p1]; simp, by rw [p2]; simp, by rw [p2]; simp, ?_, by rw [p3]; simp, ?_⟩
      · rw [p2]; simp only [lenc, List.length_nil, List.map_nil, List.flatten_nil, List.append_nil]; omega
      · rw [p3]; simp only [msenc, List.length_nil, List.map_nil, List.flatten_nil, List.append_nil]; omega
    · have p1 := o1 (by omega); have p2 := o2 (by omega); have p3 := o3 (by omega)
      have q := (inR_iff _).1 (b1 (by rw [hk]; exact hq))
      refine ⟨by rw [hk]; exact hκ, by omega, by rw [p1]; simp, by rw [p2]; simp, by rw [p2]; simp, ?_, by rw [p3]; simp, ?_⟩
      · rw [p2]; simp only [lenc, List.length_nil, List.map_nil, List.flatten_nil, List.append_nil]; omega
      · rw [p3]; simp only [msenc, List.length_nil, List.map_nil, List.flatten_nil, List.append_nil]; omega
    · have p4 := o4 (by omega) (by omega); have p2 := o2 (by omega); have p3 := o3 (by omega)
      have q := b2 (by rw [hk]; exact hq)
      refine ⟨by rw [hk]; exact hκ, by rw [p4]; omega, by omega, by rw [p2]; simp, by rw [p2]; simp, ?_, by rw [p3]; simp, ?_⟩
      · rw [p2]; simp only [lenc, List.length_nil, List.map_nil, List.flatten_nil, List.append_nil]; omega
      · rw [p3]; simp only [msenc, List.length_nil, List.map_nil, List.flatten_nil, List.append_nil]; omega
    · have p4 := o4 (by omega) (by omega); have p1 := o1 (by omega); have p3 := o3 (by omega)
      have q := b3 (by rw [hk]; exact hq)
      have he : encCV t = lenc t.texts := by unfold encCV; rw [hk]; simp [hq]
      refine ⟨by rw [hk]; exact hκ, by rw [p4]; omega, by rw [p1]; simp, by omega, fun x hx => by have := q.2 x hx; omega, by rw [← he]; omega, by rw [p3]; simp, ?_⟩
      rw [p3]; simp only [msenc, List.length_nil, List.map_nil, List.flatten_nil, List.append_nil]; omega
    · have p4 := o4 (by omega) (by omega); have p1 := o1 (by omega); have p2 := o2 (by omega)
      have q := b4 (by rw [hk]; exact hq)
      have he : encCV t = msenc t.nums := by unfold encCV; rw [hk]; simp [hq]
      refine ⟨by rw [hk]; exact hκ, by rw [p4]; omega, by rw [p1]; simp, by rw [p2]; simp, by rw [p2]; simp, ?_, by omega, by rw [← he]; omega⟩
      rw [p2]; simp only [lenc, List.length_nil, List.map_nil, List.flatten_nil, List.append_nil]; omega
theorem Inv.step {s : List UInt8} {ts : List CV} {st : St} (h : Inv s ts st) (hs : s.length ≤ 10000) (κ : Int) (hκ : -9223372036854775808 ≤ κ ∧ κ ≤ 9223372036854775807) : Inv s (ts ++ [(readCV ⟨κ, 0, [], [], []⟩ st).1]) (readCV ⟨κ, 0, [], [], []⟩ st).2 := by
  have hl := h.len
  rcases h with ⟨h1, h2, h3⟩ | rfl
  · obtain ⟨r, f⟩ := st
    obtain rfl : f = false := h1
    by_cases hf : (readCV ⟨κ, 0, [], [], []⟩ (r, false)).2 = failed
    · exact Or.inr hf
    · have hsm := small_read κ hκ r (by simp only at hl; omega) hf
      rcases readCV_sound ⟨κ, 0, [], [], []⟩ r with e | ⟨e1, e2, _⟩
      · exact absurd e hf
      · refine Or.inl ⟨e1, ?_, fun t ht => ?_⟩
        · simp only [List.map_append, List.flatten_append, List.map_cons, List.map_nil, List.flatten_cons, List.flatten_nil, List.append_nil, List.append_assoc]
          rw [← e2]; exact h2
        · rcases List.mem_append.1 ht with ht | ht
          · exact h3 t ht
          · obtain rfl := List.mem_singleton.1 ht; exact hsm
  · exact Or.inr (readCV_failed _)
end Go.Proofs.Ytmlcnmpfjallkaa
