/- WalLL: WalT, WalL7, WalL8, in one text. -/
import Derived.Test.YtffmmhofgocldaaWalP
import Derived.Test.YtffmmhofgocldaaWalL3
set_option linter.unusedVariables false
namespace Go.Proofs.Ytffmmhofgocldaa
open Go.RowKit
/-- after a crash of d, in which 'extra' had been appended to file 2 -/
def Crashed (d d' : DS) (extra : List UInt8) : Prop := d'.down = true ∧ ∃ n, d.dur 2 ≤ n ∧ d'.data 2 = (d.data 2 ++ extra).take n
/-- file 2 has not changed, the machine is up -/
structure Same2 (d d' : DS) : Prop where
  down : d'.down = false
  data : d'.data 2 = d.data 2
  dur : d'.dur 2 = d.dur 2
theorem Same2.refl {d : DS} (h : d.down = false) : Same2 d d := ⟨h, rfl, rfl⟩
theorem Same2.trans {a b c : DS} (h : Same2 a b) (k : Same2 b c) : Same2 a c := ⟨k.down, k.data.trans h.data, k.dur.trans h.dur⟩
theorem Same2.crash {a b c : DS} {x : List UInt8} (h : Same2 a b) (k : Crashed b c x) : Crashed a c x := by
  obtain ⟨k1, n, k2, k3⟩ := k
  exact ⟨k1, n, by rw [← h.dur]; exact k2, by rw [k3, h.data]⟩
theorem fall_take (keep : Nat → Nat) (d : DS) : ∃ n, d.dur 2 ≤ n ∧ (dFall keep d).data 2 = (d.data 2).take n := ⟨_, Nat.le_add_right _ _, rfl⟩
theorem fall_crash (keep : Nat → Nat) (d : DS) : Crashed d (dFall keep d) [] := by
  obtain ⟨n, h1, h2⟩ := fall_take keep d
  exact ⟨rfl, n, h1, by rw [List.append_nil]; exact h2⟩
theorem start_cases {d : DS} (h : d.down = false) : (start1 d = 12 ∧ Crashed d (start2 d) []) ∨ (start1 d = 0 ∧ Same2 d (start2 d) ∧ (start2 d).data = d.data ∧ (start2 d).dur = d.dur ∧ (start2 d).lost = d.lost) := by
  unfold start1 start2
  rw [h]
  cases hd : due1 d with
  | true => exact Or.inl ⟨rfl, fall_crash d.keep (due2 d)⟩
  | false => exact Or.inr ⟨rfl, ⟨h, rfl, rfl⟩, rfl, rfl, rfl⟩
theorem app2_cases {d : DS} (h : d.down = false) (s : List UInt8) (hs : (d.data 2).length + s.length ≤ 16777216) :
    (app1 (2 : Nat) s d = 12 ∧ Crashed d (app2 (2 : Nat) s d) s) ∨ (app1 (2 : Nat) s d = 0 ∧ (app2 (2 : Nat) s d).down = false ∧ (app2 (2 : Nat) s d).data 2 = d.data 2 ++ s ∧ (app2 (2 : Nat) s d).dur 2 = d.dur 2) := by
  have he : ext1 (2 : Nat) s (due2 d) = 0 := by
    unfold ext1
    rw [vF_nat (by decide), if_pos rfl, Int.toNat_natCast]
    exact if_neg (by show ¬ (16777216 - ((d.data 2).length : Int) < s.length); omega)
  have he0 : ext1 (2 : Nat) s d = 0 := he
  have h2 : ext2 (2 : Nat) s (due2 d) = { due2 d with data := upd d.data 2 (d.data 2 ++ s) } := by
    unfold ext2
    rw [he, if_pos rfl, Int.toNat_natCast]; rfl
  unfold app1 app2
  rw [h, h2, he0]
  cases hd : due1 d with
  | true =>
    obtain ⟨n, k1, k2⟩ := fall_take d.keep { due2 d with data := upd d.data 2 (d.data 2 ++ s) }
    refine Or.inl ⟨rfl, rfl, n, k1, k2.trans ?_⟩
    show (upd d.data 2 (d.data 2 ++ s) 2).take n = _
    rw [upd_same]
  | false => exact Or.inr ⟨rfl, h, (by show upd d.data 2 (d.data 2 ++ s) 2 = _; exact upd_same _ _ _), rfl⟩
theorem app3_cases {d : DS} (h : d.down = false) (s : List UInt8) (hd : d.data 3 = []) (hs : s.length ≤ 16777216) :
    (app1 (3 : Nat) s d = 12 ∧ Crashed d (app2 (3 : Nat) s d) []) ∨ (app1 (3 : Nat) s d = 0 ∧ Same2 d (app2 (3 : Nat) s d) ∧ (app2 (3 : Nat) s d).data 3 = s ∧ (app2 (3 : Nat) s d).lost = d.lost) := by
  have he : ext1 (3 : Nat) s (due2 d) = 0 := by
    unfold ext1
    rw [vF_nat (by decide), if_pos rfl, Int.toNat_natCast]
    exact if_neg (by show ¬ (16777216 - ((d.data 3).length : Int) < s.length); rw [hd]; simp; omega)
  have he0 : ext1 (3 : Nat) s d = 0 := he
  have h2 : ext2 (3 : Nat) s (due2 d) = { due2 d with data := upd d.data 3 s } := by
    unfold ext2
    rw [he, if_pos rfl, Int.toNat_natCast]
    show ({ due2 d with data := upd d.data 3 (d.data 3 ++ s) } : DS) = _
    rw [hd, List.nil_append]
  unfold app1 app2
  rw [h, h2, he0]
  have e2 : upd d.data 3 s 2 = d.data 2 := upd_other _ _ _ _ (by decide)
  cases hu : due1 d with
  | true =>
    obtain ⟨n, k1, k2⟩ := fall_take d.keep { due2 d with data := upd d.data 3 s }
    refine Or.inl ⟨rfl, rfl, n, k1, k2.trans ?_⟩
    show (upd d.data 3 s 2).take n = _
    rw [e2, List.append_nil]
  | false => exact Or.inr ⟨rfl, ⟨h, e2, rfl⟩, (by show upd d.data 3 s 3 = _; exact upd_same _ _ _), rfl⟩
theorem clr_cases {d : DS} (h : d.down = false) : (clr1 2 d = 12 ∧ Crashed d (clr2 2 d) []) ∨ (clr1 2 d = 0 ∧ Same2 d (clr2 2 d) ∧ (clr2 2 d).data 3 = []) := by
  unfold clr1 clr2
  rw [cast1, Calm.size (by decide)]
  by_cases h0 : (d.data (2 + 1)).length = 0
  · rw [if_pos h0, if_pos h0]
    exact Or.inr ⟨rfl, Same2.refl h, List.length_eq_zero_iff.1 h0⟩
  · rw [if_neg h0, if_neg h0]
    unfold cut2 cut1
    rcases start_cases h with ⟨s1, s2⟩ | ⟨s1, s2, s3, s4, _⟩
    · rw [s1]; exact Or.inl ⟨rfl, by simpa using s2⟩
    · rw [s1, vF_nat (by decide)]
      have hn : ¬ ((0 : Int) < 0 ∨ ((d.data ((2 + 1 : Nat) : Int).toNat).length : Int) < 0) := by omega
      simp only [ne_eq, not_true_eq_false, if_false, if_true, if_neg hn]
      refine Or.inr ⟨trivial, ⟨s2.down, ?_, ?_⟩, ?_⟩
      · show upd d.data 3 ((d.data 3).take 0) 2 = d.data 2; exact upd_other _ _ _ _ (by decide)
      · show upd d.dur 3 (min (d.dur 3) 0) 2 = d.dur 2; exact upd_other _ _ _ _ (by decide)
      · show upd d.data 3 ((d.data 3).take 0) 3 = []; rw [upd_same]; rfl
theorem flush_cases {d : DS} (h : d.down = false) {f : Nat} (hf : f < 8) : (flush1 f d = 12 ∧ Crashed d (flush2 f d) []) ∨ (flush1 f d = 13 ∧ Same2 d (flush2 f d)) ∨ (flush1 f d = 0 ∧ (flush2 f d).down = false ∧ (flush2 f d).data = d.data ∧ (flush2 f d).dur = upd d.dur f (d.data f).length) := by
  unfold flush1 flush2
  rcases start_cases h with ⟨s1, s2⟩ | ⟨s1, s2, s3, s4, _⟩
  · rw [s1]; exact Or.inl ⟨rfl, by simpa using s2⟩
  · rw [s1, vF_nat hf]
    by_cases hl : 0 < d.lost
    · simp only [ne_eq, not_true_eq_false, if_false, if_true, if_pos hl]
      exact Or.inr (Or.inl ⟨trivial, s2.down, s2.data, s2.dur⟩)
    · simp only [ne_eq, not_true_eq_false, if_false, if_true, if_neg hl, Int.toNat_natCast]
      exact Or.inr (Or.inr ⟨trivial, s2.down, s3, trivial⟩)
theorem turn_cases {d : DS} (h : d.down = false) (hd : d.dur 3 = (d.data 3).length) : (turn1 (2 : Nat) (3 : Nat) d = 12 ∧ Crashed d (turn2 (2 : Nat) (3 : Nat) d) []) ∨ (turn1 (2 : Nat) (3 : Nat) d = 0 ∧ (turn2 (2 : Nat) (3 : Nat) d).down = false ∧ (turn2 (2 : Nat) (3 : Nat) d).data 2 = d.data 3 ∧ (turn2 (2 : Nat) (3 : Nat) d).dur 2 = d.dur 3) := by
  unfold turn2 turn1
  rcases start_cases h with ⟨s1, s2⟩ | ⟨s1, s2, s3, s4, _⟩
  · rw [s1]; exact Or.inl ⟨rfl, by simpa using s2⟩
  · have hn : ¬ (d.dur 3 < (d.data 3).length) := by omega
    rw [s1, vF_nat (f := 2) (by decide), vF_nat (f := 3) (by decide)]
    have e : decide (((2 : Nat) : Int) = ((3 : Nat) : Int)) = false := by decide
    rw [e]
    simp only [ne_eq, not_true_eq_false, if_false, Bool.not_false, Bool.and_self, if_true, Int.toNat_natCast, if_neg hn]
    refine Or.inr ⟨trivial, s2.down, ?_, ?_⟩
    · show upd (upd d.data 2 (d.data 3)) 3 [] 2 = _
      rw [upd_other _ _ _ _ (by decide), upd_same]
    · show upd (upd d.dur 2 (d.dur 3)) 3 0 2 = _
      rw [upd_other _ _ _ _ (by decide), upd_same]
theorem rew_cases {d : DS} (h : d.down = false) (m : List (List UInt8)) (hm : (recs m).length ≤ 16777216) :
    (rew1 2 m d = 12 ∧ Crashed d (rew2 2 m d) []) ∨ (rew1 2 m d ≠ 0 ∧ rew1 2 m d ≠ 12 ∧ Same2 d (rew2 2 m d)) ∨ (rew1 2 m d = 0 ∧ (rew2 2 m d).down = false ∧ (rew2 2 m d).data 2 = recs m ∧ (rew2 2 m d).dur 2 = (recs m).length) := by
  unfold rew1 rew2
  rcases clr_cases h with ⟨s1, s2⟩ | ⟨s1, s2, s3⟩
  · rw [s1]; exact Or.inl ⟨rfl, by simpa using s2⟩
  · rw [s1]
    simp only [ne_eq, not_true_eq_false, if_false]
    generalize clr2 2 d = d1 at *
    unfold rewB1 rewB2
    rw [cast1]
    rcases app3_cases s2.down (recs m) s3 hm with ⟨a1, a2⟩ | ⟨a1, a2, a3, _⟩
    · have a1' : app1 ((2 + 1 : Nat) : Int) (recs m) d1 = 12 := a1
      rw [a1']
      exact Or.inl ⟨rfl, s2.crash (by simpa using a2)⟩
    · have a1' : app1 ((2 + 1 : Nat) : Int) (recs m) d1 = 0 := a1
      rw [a1']
      simp only [ne_eq, not_true_eq_false, if_false]
      have hg : app2 ((2 + 1 : Nat) : Int) (recs m) d1 = app2 (3 : Nat) (recs m) d1 := rfl
      rw [hg]
      generalize app2 (3 : Nat) (recs m) d1 = d2 at *
      have t2 := s2.trans a2
      unfold rewC1 rewC2
      rw [cast1]
      rcases flush_cases a2.down (f := 3) (by decide) with ⟨f1, f2⟩ | ⟨f1, f2⟩ | ⟨f1, f2, f3, f4⟩
      · have f1' : flush1 ((2 + 1 : Nat) : Int) d2 = 12 := f1
        rw [f1']
        exact Or.inl ⟨rfl, t2.crash (by simpa using f2)⟩
      · have f1' : flush1 ((2 + 1 : Nat) : Int) d2 = 13 := f1
        rw [f1']
        exact Or.inr (Or.inl ⟨by simp, by simp, t2.trans (by simpa using f2)⟩)
      · have f1' : flush1 ((2 + 1 : Nat) : Int) d2 = 0 := f1
        rw [f1']
        simp only [ne_eq, not_true_eq_false, if_false]
        have hg2 : flush2 ((2 + 1 : Nat) : Int) d2 = flush2 (3 : Nat) d2 := rfl
        rw [hg2]
        have t3 : Same2 d (flush2 (3 : Nat) d2) := t2.trans ⟨f2, by rw [f3], by rw [f4, upd_other _ _ _ _ (by decide)]⟩
        have hdur : (flush2 (3 : Nat) d2).dur 3 = ((flush2 (3 : Nat) d2).data 3).length := by rw [f4, f3, upd_same]
        have hd3 : (flush2 (3 : Nat) d2).data 3 = recs m := by rw [f3, a3]
        generalize flush2 (3 : Nat) d2 = d3 at *
        rcases turn_cases t3.down hdur with ⟨u1, u2⟩ | ⟨u1, u2, u3, u4⟩
        · exact Or.inl ⟨u1, t3.crash u2⟩
        · exact Or.inr (Or.inr ⟨u1, u2, by rw [← hd3]; exact u3, by rw [← hd3, ← hdur]; exact u4⟩)
/-! ### what is found after a crash -/
theorem recov {d d' : DS} {extra : List (List UInt8)} {R safe : List (List UInt8)} (h : Crashed d d' (recs extra)) (hd : d.data 2 = recs R) (hR : Pay R) (he : Pay extra) (hs : safe <+: R) (hsd : (recs safe).length ≤ d.dur 2) :
    rowsOf (d'.data 2) <+: R ++ extra ∧ safe <+: rowsOf (d'.data 2) := by
  obtain ⟨_, n, h1, h2⟩ := h
  rw [h2, hd, ← recs_app]
  have hp : Pay (R ++ extra) := fun p hp => (List.mem_append.1 hp).elim (hR p) (he p)
  refine ⟨rows_take (R ++ extra) _ ((recs (R ++ extra)).drop n) hp (List.take_append_drop _ _), ?_⟩
  have hsp : Pay safe := fun p hp => hR p (hs.subset hp)
  have hpre : recs safe <+: recs (R ++ extra) := by
    obtain ⟨t, ht⟩ := hs
    exact ⟨recs t ++ recs extra, by rw [← ht, recs_app, recs_app, List.append_assoc]⟩
  have := rows_mono (recs safe) ((recs (R ++ extra)).take n) (List.prefix_of_prefix_length_le hpre (List.take_prefix _ _) (by have := hpre.length_le; rw [List.length_take]; omega))
  rwa [rows_recs safe hsp] at this
theorem calm_again (d : DS) (n : Int) : Calm (dArm 0 [] (dLose 0 (dStart d))) := ⟨rfl, rfl, rfl⟩
end Go.Proofs.Ytffmmhofgocldaa
namespace Go.Proofs.Ytffmmhofgocldaa
open Go.RowKit
open Go.Lib (hid byteCells)
/-- an act of the law -/
structure AW where
  op : Int
  s : List UInt8
  l : List (List UInt8)
  n : Int
  keep : List Int
def cntW (x : AW) : Nat := x.s.length + x.l.length + sumL (x.l.take 4000)
def sumC (l : List AW) (k : Nat) : Nat := ((l.take k).map cntW).sum
theorem sumC_succ (l : List AW) (k : Nat) (x : AW) (h : l[k]? = some x) : sumC l (k + 1) = sumC l k + cntW x := by
  unfold sumC; rw [List.take_add_one, h]; simp
structure FewOk (l : List AW) : Prop where
  len : l.length ≤ 40
  sum : sumC l l.length ≤ 3000
  keep : ∀ (k : Nat) (x : AW), l[k]? = some x → x.keep.length ≤ 8
/-- a slice of acts in memory below B -/
def ARowW (B : Nat) (w : World) (v : Value) (l : List AW) : Prop :=
  ∃ a cap g off, v = .slice a l.length cap ∧ (0 < l.length → a = some ⟨g, off, none⟩ ∧ g < B) ∧ ∀ (k : Nat) (x : AW), l[k]? = some x → ∃ vl vk, w.cell? ⟨g, off + k * 5, none⟩ = some (iv x.op) ∧ w.cell? ⟨g, off + k * 5 + 1, none⟩ = some (sv x.s) ∧ w.cell? ⟨g, off + k * 5 + 2, none⟩ = some vl ∧
      w.cell? ⟨g, off + k * 5 + 3, none⟩ = some (iv x.n) ∧ w.cell? ⟨g, off + k * 5 + 4, none⟩ = some vk ∧ Row B w 1 vl x.l.length (x.l.map sv) ∧ Row B w 1 vk x.keep.length (x.keep.map iv)
theorem ARowW.below {B : Nat} {w w' : World} {v : Value} {l : List AW} (h : ARowW B w v l) (hb : Below B w w') : ARowW B w' v l := by
  obtain ⟨a, cap, g, off, h1, h2, h3⟩ := h
  refine ⟨a, cap, g, off, h1, h2, fun k x hk => ?_⟩
  obtain ⟨vl, vk, c0, c1, c2, c3, c4, r1, r2⟩ := h3 k x hk
  have h0 : 0 < l.length := by have := (List.getElem?_eq_some_iff.1 hk).1; omega
  have e : ∀ i, w'.cell? ⟨g, i, none⟩ = w.cell? ⟨g, i, none⟩ := fun i => hb.cell (h2 h0).2
  exact ⟨vl, vk, by rw [e]; exact c0, by rw [e]; exact c1, by rw [e]; exact c2, by rw [e]; exact c3, by rw [e]; exact c4, r1.below hb (Nat.le_refl _), r2.below hb (Nat.le_refl _)⟩
theorem ARowW.at {B : Nat} {w : World} {a : Option Addr} {n cap : Nat} {l : List AW} (h : ARowW B w (.slice a n cap) l) {k : Nat} {x : AW} (hk : l[k]? = some x) :
    ∃ g o, (∀ kd W, (Instr.indexAt 46 (.slice a n cap) (.int kd k)).run Try.prog W = .ok (.pointer (some ⟨g, o, none⟩)) W) ∧ ∃ vl vk, w.cell? ⟨g, o, none⟩ = some (iv x.op) ∧ w.cell? ⟨g, o + 1, none⟩ = some (sv x.s) ∧ w.cell? ⟨g, o + 2, none⟩ = some vl ∧
      w.cell? ⟨g, o + 3, none⟩ = some (iv x.n) ∧ w.cell? ⟨g, o + 4, none⟩ = some vk ∧ Row B w 1 vl x.l.length (x.l.map sv) ∧ Row B w 1 vk x.keep.length (x.keep.map iv) := by
  obtain ⟨a', cap', g, off, e, h2, h3⟩ := h
  simp only [Value.slice.injEq] at e
  obtain ⟨rfl, rfl, rfl⟩ := e
  have hlt := (List.getElem?_eq_some_iff.1 hk).1
  exact ⟨g, off + k * 5, fun kd W => row_idx (P := Try.prog) (t := 46) (sz := 5) (by kernel_rfl) (fun _ => by kernel_rfl) (h2 (by omega)).1 _ _ k hlt kd W, h3 k x hk⟩
theorem ARowW.slice {B : Nat} {w : World} {v : Value} {l : List AW} (h : ARowW B w v l) : ∃ a cap, v = .slice a l.length cap := by
  obtain ⟨a, cap, _, _, e, _⟩ := h; exact ⟨a, cap, e⟩
/-- what 'recovered' finds: rows that the law expects -/
theorem data_again (d : DS) : (dArm 0 [] (dLose 0 (dStart d))).data = d.data := rfl
set_option maxHeartbeats 2000000 in
set_option maxRecDepth 100000 in
theorem recovered_any (S : Foot) (B db : Nat) (d : DS) (w : World) (h : DSt S db d w) (hSB : ∀ k, S k → B ≤ k) (hBw : B ≤ w.heap.size) (la ls lr : List (List UInt8)) (va vs vr : Value) (tried : Bool)
    (ha : ∀ w', Fr S w w' → StrsR w' va la) (hs : ∀ w', Fr S w w' → StrsR w' vs ls) (hr : ∀ w', Fr S w w' → StrsR w' vr lr) (hcap : ∀ a n c, va = .slice a n c → n ≤ c) (hla : la.length ≤ 1000000) (h1 : rowsOf (d.data 2) <+: la) (h2 : ls <+: rowsOf (d.data 2)) :
    Calls Try.prog 25 #[pt db, va, vs, vr, .bool tried] w fun e w' => e = .returned (.bool true) ∧ Below B w w' := by
  have hrn : (rowsOf (d.data 2)).length ≤ 1000000 := Nat.le_trans h1.length_le hla
  have ho1 := ((calm_again d 0).opn (f := 2) (by decide)).1
  have hcall := hid (start_any S db d w h.1)
  have hst := hid (dst_disk h)
  clear h
  obtain ⟨aa, ca, hva⟩ := (ha w (Fr.refl _ _)).slice
  obtain ⟨as2, cs2, hvs⟩ := (hs w (Fr.refl _ _)).slice
  obtain ⟨ar, cr, hvr⟩ := (hr w (Fr.refl _ _)).slice
  subst hva hvs hvr
  replace ha := hid ha
  replace hs := hid hs
  replace hr := hid hr
  replace hcap := hid hcap
  replace h1 := hid h1
  replace h2 := hid h2
  replace hSB := hid hSB
  go_enter Try.func25, Try.ntmps25
  go_wp2_with fail
  refine hcall.out.mono ?_
  rintro e w1 k1
  obtain ⟨rfl, hS, hf⟩ := hst.out _ _ _ _ k1
  have hf1 := hid hf
  clear hcall hst k1
  have hcall := hid (lose_any S db _ 0 w1 hS.1 (by decide))
  have hst := hid (dst_disk hS)
  clear hS
  go_wp2_with fail
  refine hcall.out.mono ?_
  rintro e w2 k1
  obtain ⟨rfl, hS, hf⟩ := hst.out _ _ _ _ k1
  replace hf1 := hid (hf1.out.trans hf)
  clear hcall hst k1
  have hcall := hid (arm_any S db _ 0 [] (.slice none 0 0) w2 hS.1 (by decide) (fun w' _ => Row.nil _ _ _ _) (by decide) (by simp))
  have hst := hid (dst_disk hS)
  clear hS
  go_wp2_with fail
  refine hcall.out.mono ?_
  rintro e w3 k1
  obtain ⟨rfl, hS, hf⟩ := hst.out _ _ _ _ k1
  replace hf1 := hid (hf1.out.trans hf)
  clear hcall hst k1
  have hcall := dst_opens (f := 2) hS (by decide) ho1
  rw [data_again] at hcall
  generalize opn2 2 (dArm 0 [] (dLose 0 (dStart d))) = d2 at *
  generalize rowsOf (d.data 2) = R at *
  replace hcall := hid hcall
  clear hS ho1
  go_wp2_with fail
  refine hcall.out.mono ?_
  rintro e w4 ⟨b, rfl, hW, hf⟩
  replace hf1 := hid (hf1.out.trans hf)
  clear hcall
  have hcall := hid (wst_all hW hrn)
  clear hW hf
  go_wp2_with fail
  refine hcall.out.mono ?_
  rintro e w5 ⟨vn, rfl, hn, hb5⟩
  obtain ⟨an, cn, rfl, -, -⟩ := owns_form hn
  have hf5 := hf1.out.trans (Fr.of_below hb5 S)
  have hnr := hid (own_strs hn)
  have hnc := hid (own_cap hn)
  have hB5 := hid (fr_from hf5 hSB.out hBw)
  have hBw5 : B ≤ w5.heap.size := Nat.le_trans hBw hf5.size
  have ha5 := hid (ha.out w5 hf5)
  have hs5 := hid (hs.out w5 hf5)
  have hr5 := hid (hr.out w5 hf5)
  clear hcall hn hb5 hf5 hf1 ha hs hr
  have hfin : ∀ W, Below w5.heap.size w5 W → Hid (Calls Try.prog 11 #[.slice aa la.length ca, .slice an R.length cn] W fun e w' => e = .returned (.bool true) ∧ Below W.heap.size W w') := fun W hb => hid (begins_yes la R _ _ W h1.out (ha5.out.below hb) (hnr.out.below hb) hla hcap.out)
  have hfin2 : ∀ W, Below w5.heap.size w5 W → Hid (Calls Try.prog 11 #[.slice an R.length cn, .slice as2 ls.length cs2] W fun e w' => e = .returned (.bool true) ∧ Below W.heap.size W w') := fun W hb => hid (begins_yes R ls _ _ W h2.out (hnr.out.below hb) (hs5.out.below hb) hrn hnc.out)
  replace hfin := hid hfin
  replace hfin2 := hid hfin2
  cases tried
  · have q1 := (hfin.out w5 (Below.refl _ _))
    go_wp2_with fail
    refine q1.out.mono ?_
    rintro e w6 ⟨rfl, hb6⟩
    have q2 := hfin2.out w6 hb6
    have hsz6 := hb6.size
    have hB6 := hid (hB5.out.trans (hb6.mono hBw5))
    clear q1 hb6
    go_wp2_with fail
    refine q2.out.mono ?_
    rintro e w7 ⟨rfl, hb7⟩
    have hB7 := hid (hB6.out.trans (hb7.mono (by omega)))
    clear q2 hb7
    go_wp2_with fail
    go_ret
    exact ⟨rfl, hB7.out⟩
  · have q0 := hid (same_any R lr (.slice an R.length cn) (.slice ar lr.length cr) w5 hnr.out hr5.out hrn)
    generalize decide (R = lr) = dd at *
    go_wp2_with fail
    refine q0.out.mono ?_
    rintro e w6 ⟨rfl, hb6⟩
    have hsz6 := hb6.size
    have hB6 := hid (hB5.out.trans (hb6.mono hBw5))
    have q1 := (hfin.out w6 hb6)
    cases dd
    · clear q0
      go_wp2_with fail
      refine q1.out.mono ?_
      rintro e w7 ⟨rfl, hb7⟩
      have hb57 := hb6.trans (hb7.mono hsz6)
      have q2 := hfin2.out w7 hb57
      have hB7 := hid (hB6.out.trans (hb7.mono (by omega)))
      have hsz7 := hb7.size
      clear q1 hb7 hb6 hb57
      go_wp2_with fail
      refine q2.out.mono ?_
      rintro e w8 ⟨rfl, hb8⟩
      have hB8 := hid (hB7.out.trans (hb8.mono (by omega)))
      clear q2 hb8
      go_wp2_with fail
      go_ret
      exact ⟨rfl, hB8.out⟩
    · clear q0 q1 hb6
      go_wp2_with fail
      go_ret
      exact ⟨rfl, hB6.out⟩
set_option maxHeartbeats 2000000 in
set_option maxRecDepth 100000 in
theorem few_any (B : Nat) (l : List AW) (v : Value) (w : World) (hr : ARowW B w v l) (hBw : B ≤ w.heap.size) (hl : l.length ≤ 10000000) (hs : ∀ k, sumC l k ≤ 10000000) :
    Calls Try.prog 21 #[v] w fun e w' => (∃ b, e = .returned (.bool b) ∧ (b = true → FewOk l)) ∧ Below w.heap.size w w' := by
  obtain ⟨a, cap, rfl⟩ := hr.slice
  replace hr := hid hr
  replace hs := hid hs
  go_enter Try.func21, Try.ntmps21
  go_wp2_with fail
  go_loopw [3, 4] (fun s i wr => ∃ k : Nat, k ≤ l.length ∧ k ≤ 50 ∧ i = .int .i64 k ∧ s = .int .i64 (sumC l k : Nat) ∧ Hid (∀ (j : Nat) (x : AW), j < k → l[j]? = some x → x.keep.length ≤ 8) ∧ Hid (Below w.heap.size w wr)) (fun _ i _ => l.length - (intOf i).toNat)
  case atStart => exact ⟨0, Nat.zero_le _, Nat.zero_le _, rfl, rfl, hid (fun j x h => absurd h (Nat.not_lt_zero _)), hid (Below.refl _ _)⟩
  case round =>
    obtain ⟨k, hk, hk50, rfl, rfl, hkp, hB⟩ := hrel
    by_cases hlt : k < l.length
    · have q1 : decide ((k : Int) < (l.length : Int)) = true := decide_eq_true (by omega)
      have q1' : decide (k < l.length) = true := decide_eq_true hlt
      by_cases h50 : k < 50
      · have q2 : decide ((k : Int) < 50) = true := decide_eq_true (by omega)
        have q2' : decide (k < 50) = true := decide_eq_true h50
        obtain ⟨x, hx⟩ : ∃ x, l[k]? = some x := ⟨_, List.getElem?_eq_getElem hlt⟩
        have hfl := sumC_succ l k x hx
        have hs1 := hs.out (k + 1)
        have hcw : cntW x = x.s.length + x.l.length + sumL (x.l.take 4000) := rfl
        rw [hcw] at hfl
        obtain ⟨g, o, hidx, vl, vk, c0, c1, c2, c3, c4, rl, rk⟩ := (hr.out.below (hB.out.mono hBw)).at hx
        obtain ⟨la, lc, lb, lo, rfl, -⟩ := id rl
        obtain ⟨ka, kc, kb, ko, rfl, -⟩ := id rk
        generalize hN : sumC l k = N at *
        have hw1 : IntKind.i64.wrap ((N : Int) + x.s.length) = (N : Int) + x.s.length := by rw [IntKind.wrap_i64]; omega
        have hw2 : IntKind.i64.wrap ((N : Int) + x.s.length + x.l.length) = (N : Int) + x.s.length + x.l.length := by rw [IntKind.wrap_i64]; omega
        have hstep : x.keep.length ≤ 8 → ∀ (j : Nat) (y : AW), j < k + 1 → l[j]? = some y → y.keep.length ≤ 8 := fun h j y hj hy => by
          by_cases e : j = k
          · subst e; rw [hx] at hy; injection hy with hy; subst hy; exact h
          · exact hkp.out j y (by omega) hy
        have hfal : 8 < x.keep.length → (∃ b, Ending.returned (.bool false) = .returned (.bool b) ∧ (b = true → FewOk l)) := fun _ => ⟨false, rfl, fun h => by cases h⟩
        have hslk := sumL_le x.l
        clear hx hcw hN hkp
        replace hstep := hid hstep
        replace hfal := hid hfal
        replace hfl := hid hfl
        have hrow := hid rl
        have hsumt : ∀ j, j ≤ 4000 → sumL (x.l.take j) ≤ sumL (x.l.take 4000) := fun j hj => by
          have := sumL_app ((x.l.take 4000).take j) ((x.l.take 4000).drop j)
          rw [List.take_append_drop, List.take_take, Nat.min_eq_left hj] at this
          omega
        replace hsumt := hid hsumt
        clear rl rk hslk
        go_wp2_with fail
        go_quiet (fail)
        have hBq := hid (below_drewM hB.out nq)
        have d0 : (wr.drewN nq).cell? ⟨g, o, none⟩ = some (iv x.op) := c0
        have d2 : (wr.drewN nq).cell? ⟨g, o + 2, none⟩ = some (.slice la x.l.length lc) := c2
        have d4 : (wr.drewN nq).cell? ⟨g, o + 4, none⟩ = some (.slice ka x.keep.length kc) := c4
        have hrowq : Hid (Row B (wr.drewN nq) 1 (.slice la x.l.length lc) x.l.length (x.l.map sv)) := hid hrow.out
        generalize wr.drewN nq = wq at *
        clear hB c0 c1 c2 c3 c4 hw1 hw2
        go_wp2_with fail
        go_loop [3, 5] (fun s j => ∃ t : Nat, t ≤ x.l.length ∧ t ≤ 4000 ∧ j = .int .i64 t ∧ s = .int .i64 ((N + x.s.length + x.l.length + sumL (x.l.take t) : Nat) : Int)) (fun _ j => x.l.length - (intOf j).toNat)
        case atStart => exact ⟨0, Nat.zero_le _, Nat.zero_le _, rfl, by simp [sumL]⟩
        case round =>
          obtain ⟨t, ht, ht4, rfl, rfl⟩ := hrel
          have hse := hsumt.out t ht4
          have hfl' := hfl.out
          have hex : (¬ t < x.l.length ∨ ¬ t < 4000) → N + x.s.length + x.l.length + sumL (x.l.take t) = sumC l (k + 1) := fun h => by
            have : x.l.take t = x.l.take 4000 := by
              rcases h with h | h
              · rw [List.take_of_length_le (by omega), List.take_of_length_le (by omega)]
              · congr 1; omega
            rw [this]; omega
          by_cases htl : t < x.l.length
          · have q3 : decide ((t : Int) < (x.l.length : Int)) = true := decide_eq_true (by omega)
            have q3' : decide (t < x.l.length) = true := decide_eq_true htl
            by_cases ht4' : t < 4000
            · have q4 : decide ((t : Int) < 4000) = true := decide_eq_true (by omega)
              have q4' : decide (t < 4000) = true := decide_eq_true ht4'
              obtain ⟨y, hy⟩ : ∃ y, x.l[t]? = some y := ⟨_, List.getElem?_eq_getElem htl⟩
              obtain ⟨g2, o2, hidx2, hcell2⟩ := strs_at hrowq.out hy
              have hnx := sumL_take hy
              have hse2 := hsumt.out (t + 1) (by omega)
              have hnx2 : N + x.s.length + x.l.length + sumL (x.l.take (t + 1)) = N + x.s.length + x.l.length + sumL (x.l.take t) + y.length := by omega
              have hbd : N + x.s.length + x.l.length + sumL (x.l.take t) + y.length ≤ 10000000 := by omega
              clear hy hnx hse hse2 hfl' hex
              generalize N + x.s.length + x.l.length + sumL (x.l.take t) = M at *
              replace hnx2 := hid hnx2
              go_wp2_with fail
              exact ⟨⟨t + 1, by omega, by omega, by go_num, by rw [hnx2.out]; go_num⟩, by simp [intOf]; omega⟩
            · have q4 : decide ((t : Int) < 4000) = false := decide_eq_false (by omega)
              have q4' : decide (t < 4000) = false := decide_eq_false ht4'
              have hsC := hex (Or.inr ht4')
              rw [hsC]
              clear hex hse hfl'
              obtain ⟨SC, hSC0⟩ : ∃ SC, sumC l (k + 1) = SC := ⟨_, rfl⟩
              rw [hSC0]
              have hSC := hid hSC0
              clear hSC0 hs1
              by_cases hk8 : x.keep.length ≤ 8
              · have q7 : decide (8 < (x.keep.length : Int)) = false := decide_eq_false (by omega)
                have q7' : decide (8 < x.keep.length) = false := decide_eq_false (by omega)
                have hst := hid (hstep.out hk8)
                clear hsC
                go_wp2_with fail
                exact ⟨⟨k + 1, by omega, by omega, by go_num, by first | rfl | (rw [hSC.out]), hst, hBq⟩, by simp [intOf]; omega⟩
              · have q7 : decide (8 < (x.keep.length : Int)) = true := decide_eq_true (by omega)
                have q7' : decide (8 < x.keep.length) = true := decide_eq_true (by omega)
                have hfl9 := hid (hfal.out (by omega))
                clear hsC
                go_wp2_with fail
                go_ret
                exact ⟨Or.inl rfl, hBq.out⟩
          · have q3 : decide ((t : Int) < (x.l.length : Int)) = false := decide_eq_false (by omega)
            have q3' : decide (t < x.l.length) = false := decide_eq_false htl
            have hsC := hex (Or.inl htl)
            rw [hsC]
            clear hex hse hfl'
            obtain ⟨SC, hSC0⟩ : ∃ SC, sumC l (k + 1) = SC := ⟨_, rfl⟩
            rw [hSC0]
            have hSC := hid hSC0
            clear hSC0 hs1
            by_cases hk8 : x.keep.length ≤ 8
            · have q7 : decide (8 < (x.keep.length : Int)) = false := decide_eq_false (by omega)
              have q7' : decide (8 < x.keep.length) = false := decide_eq_false (by omega)
              have hst := hid (hstep.out hk8)
              clear hsC
              go_wp2_with fail
              exact ⟨⟨k + 1, by omega, by omega, by go_num, by first | rfl | (rw [hSC.out]), hst, hBq⟩, by simp [intOf]; omega⟩
            · have q7 : decide (8 < (x.keep.length : Int)) = true := decide_eq_true (by omega)
              have q7' : decide (8 < x.keep.length) = true := decide_eq_true (by omega)
              have hfl9 := hid (hfal.out (by omega))
              clear hsC
              go_wp2_with fail
              go_ret
              exact ⟨Or.inl rfl, hBq.out⟩
      · have q2 : decide ((k : Int) < 50) = false := decide_eq_false (by omega)
        have q2' : decide (k < 50) = false := decide_eq_false h50
        have q5 : decide ((l.length : Int) ≤ 40) = false := decide_eq_false (by omega)
        have q5' : decide (l.length ≤ 40) = false := decide_eq_false (by omega)
        go_wp2_with fail
        go_ret
        exact ⟨⟨false, rfl, fun h => by cases h⟩, hB.out⟩
    · have hkl : k = l.length := by omega
      subst hkl
      have q1 : decide ((l.length : Int) < (l.length : Int)) = false := decide_eq_false (by omega)
      by_cases h40 : l.length ≤ 40
      · have q5 : decide ((l.length : Int) ≤ 40) = true := decide_eq_true (by omega)
        have q5' : decide (l.length ≤ 40) = true := decide_eq_true h40
        have hok : sumC l l.length ≤ 3000 → FewOk l := fun h => ⟨h40, h, fun j x hx => hkp.out j x (List.getElem?_eq_some_iff.1 hx).1 hx⟩
        generalize sumC l l.length = N at *
        by_cases h3k : N ≤ 3000
        · have q6 : decide ((N : Int) ≤ 3000) = true := decide_eq_true (by omega)
          have q6' : decide (N ≤ 3000) = true := decide_eq_true h3k
          have hok2 := hid (hok h3k)
          clear hok
          go_wp2_with fail
          go_ret
          exact ⟨⟨true, rfl, fun _ => hok2.out⟩, hB.out⟩
        · have q6 : decide ((N : Int) ≤ 3000) = false := decide_eq_false (by omega)
          have q6' : decide (N ≤ 3000) = false := decide_eq_false h3k
          clear hok
          go_wp2_with fail
          go_ret
          exact ⟨⟨false, rfl, fun h => by cases h⟩, hB.out⟩
      · have q5 : decide ((l.length : Int) ≤ 40) = false := decide_eq_false (by omega)
        have q5' : decide (l.length ≤ 40) = false := decide_eq_false h40
        go_wp2_with fail
        go_ret
        exact ⟨⟨false, rfl, fun h => by cases h⟩, hB.out⟩
end Go.Proofs.Ytffmmhofgocldaa
namespace Go.Proofs.Ytffmmhofgocldaa
open Go.RowKit
open Go.Lib (hid byteCells)
theorem sumC_mono (l : List AW) : ∀ k, sumC l k ≤ sumC l l.length := by
  intro k
  unfold sumC
  rw [List.take_length]
  conv => rhs; rw [← List.take_append_drop k l]
  rw [List.map_append, List.sum_append]; omega
/-- what holds between two acts -/
structure LI (Wz B bx : Nat) (l : List AW) (k : Nat) (S : Foot) (d : DS) (R safe : List (List UInt8)) (vs : Value) (W w : World) : Prop where
  st : WSt S B bx 2 R d w
  sb : ∀ k, S k → B ≤ k
  own : w.ownsRow 0 9 1 vs safe.length (safe.map sv)
  out : ∀ k, vs.ownBlock = some k → ¬ S k
  down : d.down = false
  data : d.data 2 = recs R
  pay : Pay R
  pre : safe <+: R
  dur : (recs safe).length ≤ d.dur 2
  sum : sumL R ≤ sumC l k
  len : R.length ≤ sumC l k + k
  bel : Below Wz W w
  le : B ≤ w.heap.size
/-- what an act keeps -/
theorem LI.same {Wz B bx : Nat} {l : List AW} {k : Nat} {S : Foot} {d d' : DS} {R safe : List (List UInt8)} {vs : Value} {W w w' : World} (h : LI Wz B bx l k S d R safe vs W w) (hWz : Wz ≤ B) (hst : WSt S B bx 2 R d' w') (hf : Fr S w w') (hs : Same2 d d') (hk : k ≤ l.length) {k' : Nat} (hk' : k ≤ k') (hc : sumC l k ≤ sumC l k') : LI Wz B bx l k' S d' R safe vs W w' :=
  ⟨hst, h.sb, own_fr h.own hf h.out, h.out, hs.down, hs.data.trans h.data, h.pay, h.pre, by rw [hs.dur]; exact h.dur, Nat.le_trans h.sum hc, by have := h.len; omega, h.bel.trans (hf.to_below (Nat.le_trans hWz h.le) (fun j hj hS => by have := h.sb j hS; omega)), Nat.le_trans h.le hf.size⟩
set_option maxHeartbeats 3000000 in
set_option maxRecDepth 100000 in
theorem WalLasts_walk (l : List AW) (kp : List Int) (v0 v1 : Value) (w : World) (hr : ARowW w.heap.size w v0 l) (hl : l.length ≤ 10000000) (hsum : ∀ k, sumC l k ≤ 10000000) (hok : ∀ (k : Nat) (x : AW), l[k]? = some x → x.n ≤ 9223372036854775807 ∧ ∀ y ∈ x.keep, y ≤ 9223372036854775807)
    (hk1 : Row w.heap.size w 1 v1 kp.length (kp.map iv)) (hkl : kp.length ≤ 100000000) (hkx : ∀ y ∈ kp, y ≤ 9223372036854775807) :
    Calls Try.prog 6 #[v0, v1] w fun e w' => e = .returned (.bool true) ∧ Below w.heap.size w w' := by
  have hsma := hid (small_any w)
  obtain ⟨a0, c0, rfl⟩ := hr.slice
  obtain ⟨a1, c1, rfl⟩ : ∃ a c, v1 = .slice a kp.length c := by obtain ⟨a, c, _, _, h, _⟩ := hk1; exact ⟨a, c, h⟩
  replace hr := hid hr
  replace hok := hid hok
  replace hk1 := hid hk1
  replace hkx := hid hkx
  replace hsum := hid hsum
  go_enter Try.func6, Try.ntmps6
  go_wp2_with fail
  refine hsma.out.mono ?_
  rintro e w1 ⟨rfl, hb⟩
  have hB := hid hb
  have hsz := hb.size
  have hnew := hid (new_any w1)
  clear hsma hb
  go_wp2_with fail
  refine hnew.out.mono ?_
  rintro e w2 ⟨rfl, hd, hb, hs1⟩
  have hS : DSt (from_ w1.heap.size) w1.heap.size dNew w2 := ⟨hd, fun k hk => by unfold from_; omega⟩
  replace hB := hid (hB.out.trans (hb.mono hsz))
  obtain ⟨B, hBe⟩ : ∃ B, w1.heap.size = B := ⟨_, rfl⟩
  rw [hBe] at hS hb hs1 hsz
  rw [hBe]
  have hfew := hid (few_any w.heap.size l _ w2 (hr.out.below hB.out) (by omega) hl hsum.out)
  replace hS := hid hS
  clear hnew hd hb hBe
  go_wp2_with fail
  refine hfew.out.mono ?_
  rintro e w3 ⟨⟨bf, rfl, hfo⟩, hb3⟩
  have hsz3 : B ≤ w3.heap.size := by have := hb3.size; omega
  replace hB := hid (hB.out.trans (hb3.mono (by omega)))
  replace hS := hid (hS.out.below hb3)
  clear hfew hb3
  cases bf
  · clear hfo hS
    go_wp2_with fail
    go_ret
    exact ⟨rfl, hB.out⟩
  by_cases h8 : 8 < kp.length
  · have q8 : decide (8 < (kp.length : Int)) = true := decide_eq_true (by omega)
    have q8' : decide (8 < kp.length) = true := decide_eq_true h8
    clear hfo hS
    go_wp2_with fail
    go_ret
    exact ⟨rfl, hB.out⟩
  have q8 : decide (8 < (kp.length : Int)) = false := decide_eq_false (by omega)
  have q8' : decide (8 < kp.length) = false := decide_eq_false h8
  have hFew := hfo rfl
  have hl40 := hFew.len
  have hs3k := hFew.sum
  have hFk := hid hFew.keep
  clear hfo hFew
  obtain ⟨o1, o2, o3⟩ := calm_new.opn (f := 2) (by decide)
  have hcall := dst_opens (f := 2) hS.out (by decide) o1
  have hr0 : rowsOf (dNew.data 2) = [] := rows_nil
  rw [hr0] at hcall
  have hd0 : (opn2 2 dNew).data 2 = recs [] := by rw [o3, hr0, upd_other _ _ _ _ (by decide), upd_same]
  generalize opn2 2 dNew = d1 at *
  replace hcall := hid hcall
  clear hS hr0 o3 o1
  go_wp2_with fail
  refine hcall.out.mono ?_
  rintro e w4 ⟨bx, rfl, hW, hf⟩
  have hsz4 := hf.size
  have hLI : LI w.heap.size B bx l 0 (from_ B) d1 [] [] (.slice none 0 0) w w4 :=
    ⟨hW, fun _ h => h, World.ownsRow_nil _ _ _ _, fun k h => by simp [Value.ownBlock] at h, o2.down, hd0, fun p hp => by simp at hp, List.nil_prefix, Nat.zero_le _, Nat.zero_le _, Nat.zero_le _, hB.out.trans (hf.to_below (by omega) (fun j hj hS => by unfold from_ at hS; omega)), by omega⟩
  replace hLI := hid hLI
  clear hcall hf hW hB hd0 o2 hsz4
  go_wp2_with fail
  go_loopw [9, 10, 11, 12, 13] (fun sf rw9 ls tr i wr => ∃ (k : Nat) (S : Foot) (d : DS) (R safe : List (List UInt8)), rw9 = .slice none 0 0 ∧ ls = .slice none 0 0 ∧ tr = .bool false ∧ i = .int .i64 k ∧ k ≤ l.length ∧ (∃ a c, sf = .slice a safe.length c) ∧ Hid (LI w.heap.size B bx l k S d R safe sf w wr)) (fun _ _ _ _ i _ => l.length - (intOf i).toNat)
  case atStart => exact ⟨0, from_ B, d1, [], [], rfl, rfl, rfl, rfl, Nat.zero_le _, ⟨none, 0, rfl⟩, hLI⟩
  case round =>
    clear hLI
    obtain ⟨k, S, d, R, safe, rfl, rfl, rfl, rfl, hk, ⟨sa, sc, rfl⟩, hLI⟩ := hrel
    have hRlen : R.length ≤ 4000 := by have h1 := hLI.out.len; have h2 := sumC_mono l k; omega
    by_cases hlt : k < l.length
    · have q1 : decide ((k : Int) < (l.length : Int)) = true := decide_eq_true (by omega)
      have q1' : decide (k < l.length) = true := decide_eq_true hlt
      obtain ⟨x, hx⟩ : ∃ x, l[k]? = some x := ⟨_, List.getElem?_eq_getElem hlt⟩
      obtain ⟨g, o, hidx, vl, vk, cc0, cc1, cc2, cc3, cc4, rl, rk⟩ := (hr.out.below hLI.out.bel).at hx
      obtain ⟨la, lc, lb, lo, rfl, -⟩ := id rl
      obtain ⟨ka, kc, kb, ko, rfl, -⟩ := id rk
      have hxo := hok.out k x hx
      have hcs := sumC_succ l k x hx
      have hcm := sumC_mono l (k + 1)
      have hcw : cntW x = x.s.length + x.l.length + sumL (x.l.take 4000) := rfl
      have hxl3 : x.l.length ≤ 3000 := by omega
      rw [List.take_of_length_le (by omega)] at hcw
      have hxs3 : x.s.length ≤ 3000 := by omega
      have hxp : Pay [x.s] := fun p hp => by simp at hp; subst hp; omega
      have hmp := hid (pay_small (l := x.l) (N := 3000) (by omega) (by decide))
      have hmr := recs_small x.l (by omega)
      have hRr := recs_small R (by have := hLI.out.sum; omega)
      have hRsum := hLI.out.sum
      have hsR : (recs R).length ≤ 100000 := by omega
      have hsM : (recs x.l).length ≤ 100000 := by omega
      have hk8 := hFk.out k x hx
      have hWB : Below wr.heap.size wr (wr.alloc (.cells #[iv x.op, sv x.s, .slice la x.l.length lc, iv x.n, .slice ka x.keep.length kc] 50)) := (Below.refl _ _).alloc (Nat.le_refl _) _
      have hbox := heap_alloc_new' wr (.cells #[iv x.op, sv x.s, .slice la x.l.length lc, iv x.n, .slice ka x.keep.length kc] 50)
      have hszb : (wr.alloc (.cells #[iv x.op, sv x.s, .slice la x.l.length lc, iv x.n, .slice ka x.keep.length kc] 50)).heap.size = wr.heap.size + 1 := by simp
      have hLI1 : LI w.heap.size B bx l k (but S wr.heap.size (wr.alloc (.cells #[iv x.op, sv x.s, .slice la x.l.length lc, iv x.n, .slice ka x.keep.length kc] 50)).heap.size) d R safe (.slice sa safe.length sc) w (wr.alloc (.cells #[iv x.op, sv x.s, .slice la x.l.length lc, iv x.n, .slice ka x.keep.length kc] 50)) :=
        ⟨hLI.out.st.shrink hWB, fun j hj => hLI.out.sb j hj.1, own_fr hLI.out.own (Fr.of_below hWB (fun _ => False)) (fun _ _ h => h), fun j hj hS => hLI.out.out j hj hS.1, hLI.out.down, hLI.out.data, hLI.out.pay, hLI.out.pre, hLI.out.dur, hLI.out.sum, hLI.out.len, hLI.out.bel.trans (hWB.mono (Nat.le_trans (by omega) hLI.out.le)), Nat.le_trans hLI.out.le hWB.size⟩
      have hbn : ¬ but S wr.heap.size (wr.alloc (.cells #[iv x.op, sv x.s, .slice la x.l.length lc, iv x.n, .slice ka x.keep.length kc] 50)).heap.size wr.heap.size := fun h => h.2 ⟨Nat.le_refl _, by omega⟩
      generalize but S wr.heap.size (wr.alloc (.cells #[iv x.op, sv x.s, .slice la x.l.length lc, iv x.n, .slice ka x.keep.length kc] 50)).heap.size = T at *
      obtain ⟨bc, hbc⟩ : ∃ c : Int, bits BinOp.and IntKind.i64 x.op 7 = c := ⟨_, rfl⟩
      replace hLI1 := hid hLI1
      replace rl := hid rl
      replace rk := hid rk
      replace hxp := hid hxp
      replace hxo := hid hxo
      have hck : Hid (sumC l k ≤ sumC l (k + 1)) := hid (by omega)
      have hcx : Hid (sumC l k + x.s.length + x.l.length + sumL x.l ≤ sumC l (k + 1)) := hid (by omega)
      have hbelr := hid hLI.out.bel
      clear hx hcs hcm hcw hmr hRr hLI hWB hRsum
      by_cases hb0 : bc = 0
      · subst hb0
        go_wp2_with fail
        generalize wr.alloc (.cells #[iv x.op, sv x.s, .slice la x.l.length lc, iv x.n, .slice ka x.keep.length kc] 50) = W1 at *
        generalize wr.heap.size = b0 at *
        have hbx : b0 < W1.heap.size := by omega
        clear hszb cc0 cc1 cc2 cc3 cc4 hidx
        have hsz2 : (d.data 2).length + (recF x.s).length ≤ 16777216 := by rw [hLI1.out.data]; have := rec_le x.s; omega
        have hcase := app2_cases hLI1.out.down (recF x.s) hsz2
        have e1 : wapp1 2 x.s d = app1 ((2 : Nat) : Int) (recF x.s) d := if_neg (by omega)
        have e2 : wapp2 2 x.s d = app2 ((2 : Nat) : Int) (recF x.s) d := if_neg (by omega)
        have hcall := wst_append hLI1.out.st x.s (by omega) (by omega)
        rw [e1, e2] at hcall
        clear e1 e2 hsz2
        have hrecs1 : recs [x.s] = recF x.s := by simp [recs]
        generalize app1 ((2 : Nat) : Int) (recF x.s) d = r1 at *
        generalize app2 ((2 : Nat) : Int) (recF x.s) d = d5 at *
        rcases hcase with ⟨rfl, hCr⟩ | ⟨rfl, a2, a3, a4⟩
        · have hwr : wrow x.s R 12 = R := if_neg (by decide)
          rw [hwr] at hcall
          rw [← hrecs1] at hCr
          replace hcall := hid hcall
          clear hwr hrecs1
          refine hcall.out.mono ?_
          rintro e w5 ⟨rfl, hW5, hf5⟩
          have hbx5 := hf5.keep hbox hbn
          have f1 : w5.cell? ⟨b0, 1, none⟩ = some (sv x.s) := (cell_of hbx5).trans rfl
          clear hcall hbx5 hbox
          have hrc := recov (extra := [x.s]) hCr hLI1.out.data hLI1.out.pay (he := hxp.out) hLI1.out.pre hLI1.out.dur
          obtain ⟨hrc1, hrc2⟩ := hrc
          have hsafe5 := own_fr hLI1.out.own hf5 hLI1.out.out
          have hbel5 : Below w.heap.size w w5 := hLI1.out.bel.trans (hf5.to_below (Nat.le_trans hsz hLI1.out.le) (fun j hj hS => by have := hLI1.out.sb j hS; omega))
          have hB5 : B ≤ w5.heap.size := Nat.le_trans hLI1.out.le hf5.size
          have hsbT := hLI1.out.sb
          have houtT := hLI1.out.out
          have hbX : Below w5.heap.size w5 (w5.alloc (.cells #[sv x.s] 9)) := (Below.refl _ _).alloc (Nat.le_refl _) _
          have hlitX : StrsR (w5.alloc (.cells #[sv x.s] 9)) (.slice (some ⟨w5.heap.size, 0, none⟩) 1 1) [x.s] := lit_new w5 [x.s] 1 rfl 9
          have hWX := hW5.below hbX
          have hdn := down_any T B d5 (w5.alloc (.cells #[sv x.s] 9)) hWX.dst.1
          rw [hCr.1] at hdn
          have hbXh := hid hbX
          replace hWX := hid hWX
          replace hdn := hid hdn
          replace hW5 := hid hW5
          replace hrc1 := hid hrc1
          replace hrc2 := hid hrc2
          replace hsafe5 := hid hsafe5
          replace hbel5 := hid hbel5
          replace hsbT := hid hsbT
          replace houtT := hid houtT
          have hszX := hbX.size
          clear hCr hf5 hbX hLI1 
          go_wp2_with fail
          generalize w5.alloc (.cells #[sv x.s] 9) = wX at *
          refine hdn.out.mono ?_
          rintro e w9 ⟨rfl, rfl⟩
          clear hdn
          have hall := hid (wst_all hWX.out (by omega))
          go_wp2_with fail
          refine hall.out.mono ?_
          rintro e wY ⟨va, rfl, hva, hbY⟩
          obtain ⟨i0, hi, hz0, hz1, hz2⟩ := info_parts infoS
          have hszY := hbY.size
          obtain ⟨v2, wZ, hrun, hown2, hg2, hv2⟩ := append_row (P := Try.prog) wY wX.heap.size 22 22 9 i0 (.string .empty) 1 16 Try.underlying22 hi hz0 hz1 hz2 rfl (by decide) va R.length (R.map sv) hva _ (.slice (some ⟨w5.heap.size, 0, none⟩) 1 1) 1 ([x.s].map sv) (hlitX.below hbY) mem_sv (by unfold maxLen; omega) (by omega) (by omega)
          have hbZ : Below w5.heap.size w5 wZ := (hbXh.out.trans (hbY.mono hszX)).grown hg2 (by omega) (fun j hj => Nat.le_trans hszX (hva.lt j hj).1)
          have hown2b : wZ.ownsRow wX.heap.size 9 1 v2 (R ++ [x.s]).length ((R ++ [x.s]).map sv) := by rw [List.length_append, List.map_append]; exact hown2
          clear hown2
          have hLLn : (R ++ [x.s]).length ≤ 1000000 := by rw [List.length_append]; simp; omega
          generalize R ++ [x.s] = LL at *
          have hWZ := hW5.out.shrink hbZ
          have hsafeZ := own_fr hsafe5.out (Fr.of_below hbZ (fun _ => False)) (fun _ _ h => h)
          have hbelZ := hbel5.out.trans (hbZ.mono (by omega))
          have hlZ : ∀ j, v2.ownBlock = some j → ¬ but T w5.heap.size wZ.heap.size j := fun j hj hS => hS.2 ⟨Nat.le_trans hszX (hown2b.lt j hj).1, (hown2b.lt j hj).2⟩
          have hszZ := hbZ.size
          have hrv := recovered_any (but T w5.heap.size wZ.heap.size) B B d5 wZ hWZ.dst (fun j hj => hsbT.out j hj.1) (by omega) LL safe [] v2 (.slice sa safe.length sc) (.slice none 0 0) false
            (fun w' hf' => own_strs (own_fr hown2b hf' hlZ)) (fun w' hf' => own_strs (own_fr hsafeZ hf' (fun j hj hS => houtT.out j hj hS.1))) (fun w' _ => Row.nil _ _ _ _) (own_cap hown2b) hLLn hrc1.out hrc2.out
          obtain ⟨a2', c2', rfl, -, -⟩ := owns_form hown2b
          obtain ⟨ay, cy, rfl, -, -⟩ := owns_form hva
          replace hrv := hid hrv
          replace hbelZ := hid hbelZ
          have hwz : Hid (w.heap.size ≤ wZ.heap.size) := hid (by omega)
          clear hall hva hbY hg2 hv2 hbZ hWZ hsafeZ hlZ hW5 hsafe5 hbel5 hrc1 hrc2 hown2b hWX hbXh
          go_wp2_with (at_builtin; refine wpList_append_run rfl _ _ _ _ rfl rfl rfl hrun ?_)
          refine hrv.out.mono ?_
          rintro e wF ⟨rfl, hbF⟩
          have hbF2 := hid (hbelZ.out.trans (hbF.mono hsz))
          clear hrv hbF hrun
          go_wp2_with fail
          go_ret
          exact ⟨rfl, hbF2.out⟩
        · have hwr : wrow x.s R 0 = R ++ [x.s] := rfl
          rw [hwr] at hcall
          replace hcall := hid hcall
          clear hwr
          refine hcall.out.mono ?_
          rintro e w5 ⟨rfl, hW5, hf5⟩
          have hLI2 : LI w.heap.size B bx l (k + 1) T d5 (R ++ [x.s]) safe (.slice sa safe.length sc) w w5 :=
            ⟨hW5, hLI1.out.sb, own_fr hLI1.out.own hf5 hLI1.out.out, hLI1.out.out, a2, a3.trans (by rw [hLI1.out.data, recs_app, hrecs1]), (fun p hp => (List.mem_append.1 hp).elim (hLI1.out.pay p) (hxp.out p)), hLI1.out.pre.trans (List.prefix_append _ _), by rw [a4]; exact hLI1.out.dur, by
              have h1 := hLI1.out.sum; have h2 := hcx.out; rw [sumL_app, sumL_cons, sumL_nil]; omega, by
              have h1 := hLI1.out.len; have h2 := hck.out; rw [List.length_append]; simp; omega, hLI1.out.bel.trans (hf5.to_below (Nat.le_trans hsz hLI1.out.le) (fun j hj hS => by have := hLI1.out.sb j hS; omega)), Nat.le_trans hLI1.out.le hf5.size⟩
          replace hLI2 := hid hLI2
          clear hcall hW5 hf5 a2 a3 a4 hrecs1 hLI1 hbox
          have hdn := hid (down_any T B d5 w5 hLI2.out.st.dst.1)
          rw [hLI2.out.down] at hdn
          go_wp2_with fail
          refine hdn.out.mono ?_
          rintro e w9 ⟨rfl, rfl⟩
          clear hdn
          go_wp2_with fail
          exact ⟨⟨k + 1, T, d5, R ++ [x.s], safe, rfl, rfl, rfl, by go_num, by omega, ⟨_, _, rfl⟩, hLI2⟩, by simp [intOf]; omega⟩
      have qb0 : (bc == 0) = false := by simpa using hb0
      clear hb0
      by_cases hb1 : bc = 1
      · subst hb1
        go_wp2_with fail
        generalize wr.alloc (.cells #[iv x.op, sv x.s, .slice la x.l.length lc, iv x.n, .slice ka x.keep.length kc] 50) = W1 at *
        generalize wr.heap.size = b0 at *
        have hbx : b0 < W1.heap.size := by omega
        clear hszb cc0 cc1 cc2 cc3 cc4 hidx
        have hsz2 : (d.data 2).length + (recF x.s).length ≤ 16777216 := by rw [hLI1.out.data]; have := rec_le x.s; omega
        have hcase := app2_cases hLI1.out.down (recF x.s) hsz2
        have e1 : wapp1 2 x.s d = app1 ((2 : Nat) : Int) (recF x.s) d := if_neg (by omega)
        have e2 : wapp2 2 x.s d = app2 ((2 : Nat) : Int) (recF x.s) d := if_neg (by omega)
        have hcall := wst_append hLI1.out.st x.s (by omega) (by omega)
        rw [e1, e2] at hcall
        clear e1 e2 hsz2
        have hrecs1 : recs [x.s] = recF x.s := by simp [recs]
        generalize app1 ((2 : Nat) : Int) (recF x.s) d = r1 at *
        generalize app2 ((2 : Nat) : Int) (recF x.s) d = d5 at *
        rcases hcase with ⟨rfl, hCr⟩ | ⟨rfl, a2, a3, a4⟩
        · have hwr : wrow x.s R 12 = R := if_neg (by decide)
          rw [hwr] at hcall
          rw [← hrecs1] at hCr
          replace hcall := hid hcall
          clear hwr hrecs1
          refine hcall.out.mono ?_
          rintro e w5 ⟨rfl, hW5, hf5⟩
          have hbx5 := hf5.keep hbox hbn
          have f1 : w5.cell? ⟨b0, 1, none⟩ = some (sv x.s) := (cell_of hbx5).trans rfl
          clear hcall hbx5 hbox
          have hrc := recov (extra := [x.s]) hCr hLI1.out.data hLI1.out.pay (he := hxp.out) hLI1.out.pre hLI1.out.dur
          obtain ⟨hrc1, hrc2⟩ := hrc
          have hsafe5 := own_fr hLI1.out.own hf5 hLI1.out.out
          have hbel5 : Below w.heap.size w w5 := hLI1.out.bel.trans (hf5.to_below (Nat.le_trans hsz hLI1.out.le) (fun j hj hS => by have := hLI1.out.sb j hS; omega))
          have hB5 : B ≤ w5.heap.size := Nat.le_trans hLI1.out.le hf5.size
          have hsbT := hLI1.out.sb
          have houtT := hLI1.out.out
          have hbX : Below w5.heap.size w5 (w5.alloc (.cells #[sv x.s] 9)) := (Below.refl _ _).alloc (Nat.le_refl _) _
          have hlitX : StrsR (w5.alloc (.cells #[sv x.s] 9)) (.slice (some ⟨w5.heap.size, 0, none⟩) 1 1) [x.s] := lit_new w5 [x.s] 1 rfl 9
          have hWX := hW5.below hbX
          have hdn := down_any T B d5 (w5.alloc (.cells #[sv x.s] 9)) hWX.dst.1
          rw [hCr.1] at hdn
          have hbXh := hid hbX
          replace hWX := hid hWX
          replace hdn := hid hdn
          replace hW5 := hid hW5
          replace hrc1 := hid hrc1
          replace hrc2 := hid hrc2
          replace hsafe5 := hid hsafe5
          replace hbel5 := hid hbel5
          replace hsbT := hid hsbT
          replace houtT := hid houtT
          have hszX := hbX.size
          clear hCr hf5 hbX hLI1 
          go_wp2_with fail
          generalize w5.alloc (.cells #[sv x.s] 9) = wX at *
          refine hdn.out.mono ?_
          rintro e w9 ⟨rfl, rfl⟩
          clear hdn
          have hall := hid (wst_all hWX.out (by omega))
          go_wp2_with fail
          refine hall.out.mono ?_
          rintro e wY ⟨va, rfl, hva, hbY⟩
          obtain ⟨i0, hi, hz0, hz1, hz2⟩ := info_parts infoS
          have hszY := hbY.size
          obtain ⟨v2, wZ, hrun, hown2, hg2, hv2⟩ := append_row (P := Try.prog) wY wX.heap.size 22 22 9 i0 (.string .empty) 1 16 Try.underlying22 hi hz0 hz1 hz2 rfl (by decide) va R.length (R.map sv) hva _ (.slice (some ⟨w5.heap.size, 0, none⟩) 1 1) 1 ([x.s].map sv) (hlitX.below hbY) mem_sv (by unfold maxLen; omega) (by omega) (by omega)
          have hbZ : Below w5.heap.size w5 wZ := (hbXh.out.trans (hbY.mono hszX)).grown hg2 (by omega) (fun j hj => Nat.le_trans hszX (hva.lt j hj).1)
          have hown2b : wZ.ownsRow wX.heap.size 9 1 v2 (R ++ [x.s]).length ((R ++ [x.s]).map sv) := by rw [List.length_append, List.map_append]; exact hown2
          clear hown2
          have hLLn : (R ++ [x.s]).length ≤ 1000000 := by rw [List.length_append]; simp; omega
          generalize R ++ [x.s] = LL at *
          have hWZ := hW5.out.shrink hbZ
          have hsafeZ := own_fr hsafe5.out (Fr.of_below hbZ (fun _ => False)) (fun _ _ h => h)
          have hbelZ := hbel5.out.trans (hbZ.mono (by omega))
          have hlZ : ∀ j, v2.ownBlock = some j → ¬ but T w5.heap.size wZ.heap.size j := fun j hj hS => hS.2 ⟨Nat.le_trans hszX (hown2b.lt j hj).1, (hown2b.lt j hj).2⟩
          have hszZ := hbZ.size
          have hrv := recovered_any (but T w5.heap.size wZ.heap.size) B B d5 wZ hWZ.dst (fun j hj => hsbT.out j hj.1) (by omega) LL safe [] v2 (.slice sa safe.length sc) (.slice none 0 0) false
            (fun w' hf' => own_strs (own_fr hown2b hf' hlZ)) (fun w' hf' => own_strs (own_fr hsafeZ hf' (fun j hj hS => houtT.out j hj hS.1))) (fun w' _ => Row.nil _ _ _ _) (own_cap hown2b) hLLn hrc1.out hrc2.out
          obtain ⟨a2', c2', rfl, -, -⟩ := owns_form hown2b
          obtain ⟨ay, cy, rfl, -, -⟩ := owns_form hva
          replace hrv := hid hrv
          replace hbelZ := hid hbelZ
          have hwz : Hid (w.heap.size ≤ wZ.heap.size) := hid (by omega)
          clear hall hva hbY hg2 hv2 hbZ hWZ hsafeZ hlZ hW5 hsafe5 hbel5 hrc1 hrc2 hown2b hWX hbXh
          go_wp2_with (at_builtin; refine wpList_append_run rfl _ _ _ _ rfl rfl rfl hrun ?_)
          refine hrv.out.mono ?_
          rintro e wF ⟨rfl, hbF⟩
          have hbF2 := hid (hbelZ.out.trans (hbF.mono hsz))
          clear hrv hbF hrun
          go_wp2_with fail
          go_ret
          exact ⟨rfl, hbF2.out⟩
        · have hwr : wrow x.s R 0 = R ++ [x.s] := rfl
          rw [hwr] at hcall
          replace hcall := hid hcall
          clear hwr
          refine hcall.out.mono ?_
          rintro e w5 ⟨rfl, hW5, hf5⟩
          have hLI2 : LI w.heap.size B bx l (k + 1) T d5 (R ++ [x.s]) safe (.slice sa safe.length sc) w w5 :=
            ⟨hW5, hLI1.out.sb, own_fr hLI1.out.own hf5 hLI1.out.out, hLI1.out.out, a2, a3.trans (by rw [hLI1.out.data, recs_app, hrecs1]), (fun p hp => (List.mem_append.1 hp).elim (hLI1.out.pay p) (hxp.out p)), hLI1.out.pre.trans (List.prefix_append _ _), by rw [a4]; exact hLI1.out.dur, by
              have h1 := hLI1.out.sum; have h2 := hcx.out; rw [sumL_app, sumL_cons, sumL_nil]; omega, by
              have h1 := hLI1.out.len; have h2 := hck.out; rw [List.length_append]; simp; omega, hLI1.out.bel.trans (hf5.to_below (Nat.le_trans hsz hLI1.out.le) (fun j hj hS => by have := hLI1.out.sb j hS; omega)), Nat.le_trans hLI1.out.le hf5.size⟩
          replace hLI2 := hid hLI2
          clear hcall hW5 hf5 a2 a3 a4 hrecs1 hLI1 hbox
          have hdn := hid (down_any T B d5 w5 hLI2.out.st.dst.1)
          rw [hLI2.out.down] at hdn
          go_wp2_with fail
          refine hdn.out.mono ?_
          rintro e w9 ⟨rfl, rfl⟩
          clear hdn
          go_wp2_with fail
          exact ⟨⟨k + 1, T, d5, R ++ [x.s], safe, rfl, rfl, rfl, by go_num, by omega, ⟨_, _, rfl⟩, hLI2⟩, by simp [intOf]; omega⟩
      have qb1 : (bc == 1) = false := by simpa using hb1
      clear hb1
      by_cases hb2 : bc = 2
      · subst hb2
        go_wp2_with fail
        generalize wr.alloc (.cells #[iv x.op, sv x.s, .slice la x.l.length lc, iv x.n, .slice ka x.keep.length kc] 50) = W1 at *
        generalize wr.heap.size = b0 at *
        have hbx : b0 < W1.heap.size := by omega
        clear hszb cc0 cc1 cc2 cc3 cc4 hidx
        have hsz2 : (d.data 2).length + (recF x.s).length ≤ 16777216 := by rw [hLI1.out.data]; have := rec_le x.s; omega
        have hcase := app2_cases hLI1.out.down (recF x.s) hsz2
        have e1 : wapp1 2 x.s d = app1 ((2 : Nat) : Int) (recF x.s) d := if_neg (by omega)
        have e2 : wapp2 2 x.s d = app2 ((2 : Nat) : Int) (recF x.s) d := if_neg (by omega)
        have hcall := wst_append hLI1.out.st x.s (by omega) (by omega)
        rw [e1, e2] at hcall
        clear e1 e2 hsz2
        have hrecs1 : recs [x.s] = recF x.s := by simp [recs]
        generalize app1 ((2 : Nat) : Int) (recF x.s) d = r1 at *
        generalize app2 ((2 : Nat) : Int) (recF x.s) d = d5 at *
        rcases hcase with ⟨rfl, hCr⟩ | ⟨rfl, a2, a3, a4⟩
        · have hwr : wrow x.s R 12 = R := if_neg (by decide)
          rw [hwr] at hcall
          rw [← hrecs1] at hCr
          replace hcall := hid hcall
          clear hwr hrecs1
          refine hcall.out.mono ?_
          rintro e w5 ⟨rfl, hW5, hf5⟩
          have hbx5 := hf5.keep hbox hbn
          have f1 : w5.cell? ⟨b0, 1, none⟩ = some (sv x.s) := (cell_of hbx5).trans rfl
          clear hcall hbx5 hbox
          have hrc := recov (extra := [x.s]) hCr hLI1.out.data hLI1.out.pay (he := hxp.out) hLI1.out.pre hLI1.out.dur
          obtain ⟨hrc1, hrc2⟩ := hrc
          have hsafe5 := own_fr hLI1.out.own hf5 hLI1.out.out
          have hbel5 : Below w.heap.size w w5 := hLI1.out.bel.trans (hf5.to_below (Nat.le_trans hsz hLI1.out.le) (fun j hj hS => by have := hLI1.out.sb j hS; omega))
          have hB5 : B ≤ w5.heap.size := Nat.le_trans hLI1.out.le hf5.size
          have hsbT := hLI1.out.sb
          have houtT := hLI1.out.out
          have hbX : Below w5.heap.size w5 (w5.alloc (.cells #[sv x.s] 9)) := (Below.refl _ _).alloc (Nat.le_refl _) _
          have hlitX : StrsR (w5.alloc (.cells #[sv x.s] 9)) (.slice (some ⟨w5.heap.size, 0, none⟩) 1 1) [x.s] := lit_new w5 [x.s] 1 rfl 9
          have hWX := hW5.below hbX
          have hdn := down_any T B d5 (w5.alloc (.cells #[sv x.s] 9)) hWX.dst.1
          rw [hCr.1] at hdn
          have hbXh := hid hbX
          replace hWX := hid hWX
          replace hdn := hid hdn
          replace hW5 := hid hW5
          replace hrc1 := hid hrc1
          replace hrc2 := hid hrc2
          replace hsafe5 := hid hsafe5
          replace hbel5 := hid hbel5
          replace hsbT := hid hsbT
          replace houtT := hid houtT
          have hszX := hbX.size
          clear hCr hf5 hbX hLI1 
          go_wp2_with fail
          generalize w5.alloc (.cells #[sv x.s] 9) = wX at *
          refine hdn.out.mono ?_
          rintro e w9 ⟨rfl, rfl⟩
          clear hdn
          have hall := hid (wst_all hWX.out (by omega))
          go_wp2_with fail
          refine hall.out.mono ?_
          rintro e wY ⟨va, rfl, hva, hbY⟩
          obtain ⟨i0, hi, hz0, hz1, hz2⟩ := info_parts infoS
          have hszY := hbY.size
          obtain ⟨v2, wZ, hrun, hown2, hg2, hv2⟩ := append_row (P := Try.prog) wY wX.heap.size 22 22 9 i0 (.string .empty) 1 16 Try.underlying22 hi hz0 hz1 hz2 rfl (by decide) va R.length (R.map sv) hva _ (.slice (some ⟨w5.heap.size, 0, none⟩) 1 1) 1 ([x.s].map sv) (hlitX.below hbY) mem_sv (by unfold maxLen; omega) (by omega) (by omega)
          have hbZ : Below w5.heap.size w5 wZ := (hbXh.out.trans (hbY.mono hszX)).grown hg2 (by omega) (fun j hj => Nat.le_trans hszX (hva.lt j hj).1)
          have hown2b : wZ.ownsRow wX.heap.size 9 1 v2 (R ++ [x.s]).length ((R ++ [x.s]).map sv) := by rw [List.length_append, List.map_append]; exact hown2
          clear hown2
          have hLLn : (R ++ [x.s]).length ≤ 1000000 := by rw [List.length_append]; simp; omega
          generalize R ++ [x.s] = LL at *
          have hWZ := hW5.out.shrink hbZ
          have hsafeZ := own_fr hsafe5.out (Fr.of_below hbZ (fun _ => False)) (fun _ _ h => h)
          have hbelZ := hbel5.out.trans (hbZ.mono (by omega))
          have hlZ : ∀ j, v2.ownBlock = some j → ¬ but T w5.heap.size wZ.heap.size j := fun j hj hS => hS.2 ⟨Nat.le_trans hszX (hown2b.lt j hj).1, (hown2b.lt j hj).2⟩
          have hszZ := hbZ.size
          have hrv := recovered_any (but T w5.heap.size wZ.heap.size) B B d5 wZ hWZ.dst (fun j hj => hsbT.out j hj.1) (by omega) LL safe [] v2 (.slice sa safe.length sc) (.slice none 0 0) false
            (fun w' hf' => own_strs (own_fr hown2b hf' hlZ)) (fun w' hf' => own_strs (own_fr hsafeZ hf' (fun j hj hS => houtT.out j hj hS.1))) (fun w' _ => Row.nil _ _ _ _) (own_cap hown2b) hLLn hrc1.out hrc2.out
          obtain ⟨a2', c2', rfl, -, -⟩ := owns_form hown2b
          obtain ⟨ay, cy, rfl, -, -⟩ := owns_form hva
          replace hrv := hid hrv
          replace hbelZ := hid hbelZ
          have hwz : Hid (w.heap.size ≤ wZ.heap.size) := hid (by omega)
          clear hall hva hbY hg2 hv2 hbZ hWZ hsafeZ hlZ hW5 hsafe5 hbel5 hrc1 hrc2 hown2b hWX hbXh
          go_wp2_with (at_builtin; refine wpList_append_run rfl _ _ _ _ rfl rfl rfl hrun ?_)
          refine hrv.out.mono ?_
          rintro e wF ⟨rfl, hbF⟩
          have hbF2 := hid (hbelZ.out.trans (hbF.mono hsz))
          clear hrv hbF hrun
          go_wp2_with fail
          go_ret
          exact ⟨rfl, hbF2.out⟩
        · have hwr : wrow x.s R 0 = R ++ [x.s] := rfl
          rw [hwr] at hcall
          replace hcall := hid hcall
          clear hwr
          refine hcall.out.mono ?_
          rintro e w5 ⟨rfl, hW5, hf5⟩
          have hLI2 : LI w.heap.size B bx l (k + 1) T d5 (R ++ [x.s]) safe (.slice sa safe.length sc) w w5 :=
            ⟨hW5, hLI1.out.sb, own_fr hLI1.out.own hf5 hLI1.out.out, hLI1.out.out, a2, a3.trans (by rw [hLI1.out.data, recs_app, hrecs1]), (fun p hp => (List.mem_append.1 hp).elim (hLI1.out.pay p) (hxp.out p)), hLI1.out.pre.trans (List.prefix_append _ _), by rw [a4]; exact hLI1.out.dur, by
              have h1 := hLI1.out.sum; have h2 := hcx.out; rw [sumL_app, sumL_cons, sumL_nil]; omega, by
              have h1 := hLI1.out.len; have h2 := hck.out; rw [List.length_append]; simp; omega, hLI1.out.bel.trans (hf5.to_below (Nat.le_trans hsz hLI1.out.le) (fun j hj hS => by have := hLI1.out.sb j hS; omega)), Nat.le_trans hLI1.out.le hf5.size⟩
          replace hLI2 := hid hLI2
          clear hcall hW5 hf5 a2 a3 a4 hrecs1 hLI1 hbox
          have hdn := hid (down_any T B d5 w5 hLI2.out.st.dst.1)
          rw [hLI2.out.down] at hdn
          go_wp2_with fail
          refine hdn.out.mono ?_
          rintro e w9 ⟨rfl, rfl⟩
          clear hdn
          go_wp2_with fail
          exact ⟨⟨k + 1, T, d5, R ++ [x.s], safe, rfl, rfl, rfl, by go_num, by omega, ⟨_, _, rfl⟩, hLI2⟩, by simp [intOf]; omega⟩
      have qb2 : (bc == 2) = false := by simpa using hb2
      clear hb2
      by_cases hb3 : bc = 3
      · subst hb3
        go_wp2_with fail
        generalize wr.alloc (.cells #[iv x.op, sv x.s, .slice la x.l.length lc, iv x.n, .slice ka x.keep.length kc] 50) = W1 at *
        generalize wr.heap.size = b0 at *
        have hbx : b0 < W1.heap.size := by omega
        clear hszb cc0 cc1 cc2 cc3 cc4 hidx
        have hcase := flush_cases (f := 2) hLI1.out.down (by decide)
        have hcall := wst_flush hLI1.out.st
        generalize flush1 ((2 : Nat) : Int) d = r1 at *
        generalize flush2 ((2 : Nat) : Int) d = d5 at *
        clear hbox
        replace hcall := hid hcall
        rcases hcase with ⟨rfl, hCr⟩ | ⟨rfl, hS2⟩ | ⟨rfl, f2, f3, f4⟩
        · refine hcall.out.mono ?_
          rintro e w5 ⟨rfl, hW5, hf5⟩
          clear hcall
          have hrc := recov (extra := []) hCr hLI1.out.data hLI1.out.pay (he := (fun p hp => by simp at hp)) hLI1.out.pre hLI1.out.dur
          obtain ⟨hrc1, hrc2⟩ := hrc
          have hsafe5 := own_fr hLI1.out.own hf5 hLI1.out.out
          have hbel5 : Below w.heap.size w w5 := hLI1.out.bel.trans (hf5.to_below (Nat.le_trans hsz hLI1.out.le) (fun j hj hS => by have := hLI1.out.sb j hS; omega))
          have hB5 : B ≤ w5.heap.size := Nat.le_trans hLI1.out.le hf5.size
          have hsbT := hLI1.out.sb
          have houtT := hLI1.out.out
          have hbX : Below w5.heap.size w5 w5 := Below.refl _ _
          have hWX := hW5.below hbX
          have hdn := down_any T B d5 (w5) hWX.dst.1
          rw [hCr.1] at hdn
          have hbXh := hid hbX
          replace hWX := hid hWX
          replace hdn := hid hdn
          replace hW5 := hid hW5
          replace hrc1 := hid hrc1
          replace hrc2 := hid hrc2
          replace hsafe5 := hid hsafe5
          replace hbel5 := hid hbel5
          replace hsbT := hid hsbT
          replace houtT := hid houtT
          have hszX := hbX.size
          clear hCr hf5 hbX hLI1 
          go_wp2_with fail
          refine hdn.out.mono ?_
          rintro e w9 ⟨rfl, rfl⟩
          clear hdn
          have hall := hid (wst_all hWX.out (by omega))
          go_wp2_with fail
          refine hall.out.mono ?_
          rintro e wY ⟨va, rfl, hva, hbY⟩
          obtain ⟨i0, hi, hz0, hz1, hz2⟩ := info_parts infoS
          have hszY := hbY.size
          obtain ⟨v2, wZ, hrun, hown2, hg2, hv2⟩ := append_row (P := Try.prog) wY w5.heap.size 22 22 9 i0 (.string .empty) 1 16 Try.underlying22 hi hz0 hz1 hz2 rfl (by decide) va R.length (R.map sv) hva 0 (.slice none 0 0) 0 ([].map sv) (Row.nil _ _ _ _) mem_sv (by unfold maxLen; omega) (by omega) (by omega)
          have hbZ : Below w5.heap.size w5 wZ := (hbXh.out.trans (hbY.mono hszX)).grown hg2 (by omega) (fun j hj => Nat.le_trans hszX (hva.lt j hj).1)
          have hown2b : wZ.ownsRow w5.heap.size 9 1 v2 (R ++ []).length ((R ++ []).map sv) := by rw [List.length_append, List.map_append]; exact hown2
          clear hown2
          have hLLn : (R ++ []).length ≤ 1000000 := by rw [List.length_append]; simp; omega
          generalize R ++ [] = LL at *
          have hWZ := hW5.out.shrink hbZ
          have hsafeZ := own_fr hsafe5.out (Fr.of_below hbZ (fun _ => False)) (fun _ _ h => h)
          have hbelZ := hbel5.out.trans (hbZ.mono (by omega))
          have hlZ : ∀ j, v2.ownBlock = some j → ¬ but T w5.heap.size wZ.heap.size j := fun j hj hS => hS.2 ⟨Nat.le_trans hszX (hown2b.lt j hj).1, (hown2b.lt j hj).2⟩
          have hszZ := hbZ.size
          have hrv := recovered_any (but T w5.heap.size wZ.heap.size) B B d5 wZ hWZ.dst (fun j hj => hsbT.out j hj.1) (by omega) LL safe [] v2 (.slice sa safe.length sc) (.slice none 0 0) false
            (fun w' hf' => own_strs (own_fr hown2b hf' hlZ)) (fun w' hf' => own_strs (own_fr hsafeZ hf' (fun j hj hS => houtT.out j hj hS.1))) (fun w' _ => Row.nil _ _ _ _) (own_cap hown2b) hLLn hrc1.out hrc2.out
          obtain ⟨a2', c2', rfl, -, -⟩ := owns_form hown2b
          obtain ⟨ay, cy, rfl, -, -⟩ := owns_form hva
          replace hrv := hid hrv
          replace hbelZ := hid hbelZ
          have hwz : Hid (w.heap.size ≤ wZ.heap.size) := hid (by omega)
          clear hall hva hbY hg2 hv2 hbZ hWZ hsafeZ hlZ hW5 hsafe5 hbel5 hrc1 hrc2 hown2b hWX hbXh
          go_wp2_with (at_builtin; refine wpList_append_run rfl _ _ _ _ rfl rfl rfl hrun ?_)
          refine hrv.out.mono ?_
          rintro e wF ⟨rfl, hbF⟩
          have hbF2 := hid (hbelZ.out.trans (hbF.mono hsz))
          clear hrv hbF hrun
          go_wp2_with fail
          go_ret
          exact ⟨rfl, hbF2.out⟩
        · refine hcall.out.mono ?_
          rintro e w5 ⟨rfl, hW5, hf5⟩
          have hLI2 := hid (hLI1.out.same hsz hW5 hf5 hS2 (by omega) (Nat.le_succ k) hck.out)
          clear hcall hW5 hf5 hS2 hLI1
          have hdn := hid (down_any T B d5 w5 hLI2.out.st.dst.1)
          rw [hLI2.out.down] at hdn
          go_wp2_with fail
          refine hdn.out.mono ?_
          rintro e w9 ⟨rfl, rfl⟩
          clear hdn
          go_wp2_with fail
          exact ⟨⟨k + 1, T, d5, R, safe, rfl, rfl, rfl, by go_num, by omega, ⟨_, _, rfl⟩, hLI2⟩, by simp [intOf]; omega⟩
        · refine hcall.out.mono ?_
          rintro e w5 ⟨rfl, hW5, hf5⟩
          have hW5h := hid hW5
          have hf5h := hid hf5
          have hall := hid (wst_all hW5 (by omega))
          clear hcall hW5 hf5
          go_wp2_with fail
          refine hall.out.mono ?_
          rintro e w6 ⟨vn, rfl, hown, hb6⟩
          have hLI2 : LI w.heap.size B bx l (k + 1) (but T w5.heap.size w6.heap.size) d5 R R vn w w6 :=
            ⟨hW5h.out.shrink hb6, fun j hj => hLI1.out.sb j hj.1, owns_move hown (fun _ _ => rfl) (fun _ _ => Nat.zero_le _), fun j hj hS => hS.2 (hown.lt j hj), f2, by rw [f3]; exact hLI1.out.data, hLI1.out.pay, List.prefix_refl _, by rw [f4, upd_same, hLI1.out.data]; exact Nat.le_refl _, Nat.le_trans hLI1.out.sum hck.out, by
              have h1 := hLI1.out.len; have h2 := hck.out; omega, (hLI1.out.bel.trans (hf5h.out.to_below (Nat.le_trans hsz hLI1.out.le) (fun j hj hS => by have := hLI1.out.sb j hS; omega))).trans (hb6.mono (by have := hf5h.out.size; have := hLI1.out.le; omega)), by have := hf5h.out.size; have := hLI1.out.le; have := hb6.size; omega⟩
          obtain ⟨an, cn, rfl, -, -⟩ := owns_form hown
          replace hLI2 := hid hLI2
          clear hall hown hb6 hW5h hf5h f2 f3 f4 hLI1
          have hdn := hid (down_any (but T w5.heap.size w6.heap.size) B d5 w6 hLI2.out.st.dst.1)
          rw [hLI2.out.down] at hdn
          go_wp2_with fail
          refine hdn.out.mono ?_
          rintro e w9 ⟨rfl, rfl⟩
          clear hdn
          go_wp2_with fail
          exact ⟨⟨k + 1, (but T w5.heap.size w6.heap.size), d5, R, R, rfl, rfl, rfl, by go_num, by omega, ⟨_, _, rfl⟩, hLI2⟩, by simp [intOf]; omega⟩
      have qb3 : (bc == 3) = false := by simpa using hb3
      clear hb3
      by_cases hb5 : bc = 5
      · subst hb5
        go_wp2_with fail
        generalize wr.alloc (.cells #[iv x.op, sv x.s, .slice la x.l.length lc, iv x.n, .slice ka x.keep.length kc] 50) = W1 at *
        generalize wr.heap.size = b0 at *
        have hbx : b0 < W1.heap.size := by omega
        clear hszb cc0 cc1 cc2 cc3 cc4 hidx
        have hcase := rew_cases hLI1.out.down x.l (by omega)
        have hrowm : ∀ w', Fr T W1 w' → StrsR w' (.slice la x.l.length lc) x.l := fun w' hf' => (Row.kept rl.out (fun j hj => (hf'.block j (by have := hLI1.out.le; omega) (fun hS => by have := hLI1.out.sb j hS; omega)).trans ((hLI1.out.bel.block j hj).trans (hbelr.out.block j hj).symm))).mono (by have := hf'.size; have := hLI1.out.le; omega)
        have hcall := wst_rewrite hLI1.out.st x.l (.slice la x.l.length lc) (by decide) (by omega) hmp.out (by omega) hrowm
        have hRR : rewR 2 x.l R d = if rew1 2 x.l d = 0 then x.l else R := rfl
        rw [hRR] at hcall
        clear hrowm hRR
        generalize rew1 2 x.l d = r1 at *
        generalize rew2 2 x.l d = d5 at *
        rcases hcase with ⟨rfl, hCr⟩ | ⟨hn0, hn12, hS2⟩ | ⟨rfl, f2, f3, f4⟩
        · rw [if_neg (by decide)] at hcall
          replace hcall := hid hcall
          refine hcall.out.mono ?_
          rintro e w5 ⟨rfl, hW5, hf5⟩
          have hbx5 := hf5.keep hbox hbn
          have f2 : w5.cell? ⟨b0, 2, none⟩ = some (.slice la x.l.length lc) := (cell_of hbx5).trans rfl
          clear hcall hbx5 hbox
          have hrc := recov (extra := []) hCr hLI1.out.data hLI1.out.pay (he := (fun p hp => by simp at hp)) hLI1.out.pre hLI1.out.dur
          obtain ⟨hrc1, hrc2⟩ := hrc
          have hsafe5 := own_fr hLI1.out.own hf5 hLI1.out.out
          have hbel5 : Below w.heap.size w w5 := hLI1.out.bel.trans (hf5.to_below (Nat.le_trans hsz hLI1.out.le) (fun j hj hS => by have := hLI1.out.sb j hS; omega))
          have hB5 : B ≤ w5.heap.size := Nat.le_trans hLI1.out.le hf5.size
          have hsbT := hLI1.out.sb
          have houtT := hLI1.out.out
          have hbX : Below w5.heap.size w5 w5 := Below.refl _ _
          have hWX := hW5.below hbX
          have hdn := down_any T B d5 (w5) hWX.dst.1
          rw [hCr.1] at hdn
          have hbXh := hid hbX
          replace hWX := hid hWX
          replace hdn := hid hdn
          replace hW5 := hid hW5
          replace hrc1 := hid hrc1
          replace hrc2 := hid hrc2
          replace hsafe5 := hid hsafe5
          replace hbel5 := hid hbel5
          replace hsbT := hid hsbT
          replace houtT := hid houtT
          have hszX := hbX.size
          clear hCr hf5 hbX hLI1 
          go_wp2_with fail
          refine hdn.out.mono ?_
          rintro e w9 ⟨rfl, rfl⟩
          clear hdn
          have hall := hid (wst_all hWX.out (by omega))
          go_wp2_with fail
          refine hall.out.mono ?_
          rintro e wY ⟨va, rfl, hva, hbY⟩
          obtain ⟨i0, hi, hz0, hz1, hz2⟩ := info_parts infoS
          have hszY := hbY.size
          obtain ⟨v2, wZ, hrun, hown2, hg2, hv2⟩ := append_row (P := Try.prog) wY w5.heap.size 22 22 9 i0 (.string .empty) 1 16 Try.underlying22 hi hz0 hz1 hz2 rfl (by decide) va R.length (R.map sv) hva 0 (.slice none 0 0) 0 ([].map sv) (Row.nil _ _ _ _) mem_sv (by unfold maxLen; omega) (by omega) (by omega)
          have hbZ : Below w5.heap.size w5 wZ := (hbXh.out.trans (hbY.mono hszX)).grown hg2 (by omega) (fun j hj => Nat.le_trans hszX (hva.lt j hj).1)
          have hown2b : wZ.ownsRow w5.heap.size 9 1 v2 (R ++ []).length ((R ++ []).map sv) := by rw [List.length_append, List.map_append]; exact hown2
          clear hown2
          have hLLn : (R ++ []).length ≤ 1000000 := by rw [List.length_append]; simp; omega
          generalize R ++ [] = LL at *
          have hWZ := hW5.out.shrink hbZ
          have hsafeZ := own_fr hsafe5.out (Fr.of_below hbZ (fun _ => False)) (fun _ _ h => h)
          have hbelZ := hbel5.out.trans (hbZ.mono (by omega))
          have hlZ : ∀ j, v2.ownBlock = some j → ¬ but T w5.heap.size wZ.heap.size j := fun j hj hS => hS.2 ⟨Nat.le_trans hszX (hown2b.lt j hj).1, (hown2b.lt j hj).2⟩
          have hszZ := hbZ.size
          have hrowT : ∀ w', Fr (but T w5.heap.size wZ.heap.size) wZ w' → StrsR w' (.slice la x.l.length lc) x.l := fun w' hf' => (Row.kept rl.out (fun j hj => (hf'.block j (by omega) (fun hS => by have := hsbT.out j hS.1; omega)).trans ((hbelZ.block j hj).trans (hbelr.out.block j hj).symm))).mono (by have := hf'.size; omega)
          have hrv := recovered_any (but T w5.heap.size wZ.heap.size) B B d5 wZ hWZ.dst (fun j hj => hsbT.out j hj.1) (by omega) LL safe x.l v2 (.slice sa safe.length sc) (.slice la x.l.length lc) true
            (fun w' hf' => own_strs (own_fr hown2b hf' hlZ)) (fun w' hf' => own_strs (own_fr hsafeZ hf' (fun j hj hS => houtT.out j hj hS.1))) (fun w' hf' => hrowT w' hf') (own_cap hown2b) hLLn hrc1.out hrc2.out
          obtain ⟨a2', c2', rfl, -, -⟩ := owns_form hown2b
          obtain ⟨ay, cy, rfl, -, -⟩ := owns_form hva
          replace hrv := hid hrv
          replace hbelZ := hid hbelZ
          have hwz : Hid (w.heap.size ≤ wZ.heap.size) := hid (by omega)
          clear hall hva hbY hg2 hv2 hbZ hWZ hsafeZ hlZ hW5 hsafe5 hbel5 hrc1 hrc2 hown2b hWX hbXh
          go_wp2_with (at_builtin; refine wpList_append_run rfl _ _ _ _ rfl rfl rfl hrun ?_)
          refine hrv.out.mono ?_
          rintro e wF ⟨rfl, hbF⟩
          have hbF2 := hid (hbelZ.out.trans (hbF.mono hsz))
          clear hrv hbF hrun
          go_wp2_with fail
          go_ret
          exact ⟨rfl, hbF2.out⟩
        · rw [if_neg hn0] at hcall
          have qn0 : (r1 == 0) = false := by simpa using hn0
          have qn12 : (r1 == 12) = false := by simpa using hn12
          replace hcall := hid hcall
          clear hbox hn0 hn12
          refine hcall.out.mono ?_
          rintro e w5 ⟨rfl, hW5, hf5⟩
          have hLI2 := hid (hLI1.out.same hsz hW5 hf5 hS2 (by omega) (Nat.le_succ k) hck.out)
          clear hcall hW5 hf5 hS2 hLI1
          have hdn := hid (down_any T B d5 w5 hLI2.out.st.dst.1)
          rw [hLI2.out.down] at hdn
          go_wp2_with fail
          refine hdn.out.mono ?_
          rintro e w9 ⟨rfl, rfl⟩
          clear hdn
          go_wp2_with fail
          exact ⟨⟨k + 1, T, d5, R, safe, rfl, rfl, rfl, by go_num, by omega, ⟨_, _, rfl⟩, hLI2⟩, by simp [intOf]; omega⟩
        · rw [if_pos rfl] at hcall
          replace hcall := hid hcall
          clear hbox
          refine hcall.out.mono ?_
          rintro e w5 ⟨rfl, hW5, hf5⟩
          have hW5h := hid hW5
          have hf5h := hid hf5
          have hall := hid (wst_all hW5 (by omega))
          clear hcall hW5 hf5
          go_wp2_with fail
          refine hall.out.mono ?_
          rintro e w6 ⟨vn, rfl, hown, hb6⟩
          have hLI2 : LI w.heap.size B bx l (k + 1) (but T w5.heap.size w6.heap.size) d5 x.l x.l vn w w6 :=
            ⟨hW5h.out.shrink hb6, fun j hj => hLI1.out.sb j hj.1, owns_move hown (fun _ _ => rfl) (fun _ _ => Nat.zero_le _), fun j hj hS => hS.2 (hown.lt j hj), f2, f3, hmp.out, List.prefix_refl _, by rw [f4]; exact Nat.le_refl _, by
              have h2 := hcx.out; omega, by
              have h2 := hcx.out; omega, (hLI1.out.bel.trans (hf5h.out.to_below (Nat.le_trans hsz hLI1.out.le) (fun j hj hS => by have := hLI1.out.sb j hS; omega))).trans (hb6.mono (by have := hf5h.out.size; have := hLI1.out.le; omega)), by have := hf5h.out.size; have := hLI1.out.le; have := hb6.size; omega⟩
          obtain ⟨an, cn, rfl, -, -⟩ := owns_form hown
          replace hLI2 := hid hLI2
          clear hall hown hb6 hW5h hf5h f2 f3 f4 hLI1
          have hdn := hid (down_any (but T w5.heap.size w6.heap.size) B d5 w6 hLI2.out.st.dst.1)
          rw [hLI2.out.down] at hdn
          go_wp2_with fail
          refine hdn.out.mono ?_
          rintro e w9 ⟨rfl, rfl⟩
          clear hdn
          go_wp2_with fail
          exact ⟨⟨k + 1, (but T w5.heap.size w6.heap.size), d5, x.l, x.l, rfl, rfl, rfl, by go_num, by omega, ⟨_, _, rfl⟩, hLI2⟩, by simp [intOf]; omega⟩
      have qb5 : (bc == 5) = false := by simpa using hb5
      clear hb5
      by_cases hb6 : bc = 6
      · subst hb6
        go_wp2_with fail
        generalize wr.alloc (.cells #[iv x.op, sv x.s, .slice la x.l.length lc, iv x.n, .slice ka x.keep.length kc] 50) = W1 at *
        generalize wr.heap.size = b0 at *
        have hbx : b0 < W1.heap.size := by omega
        clear hszb cc0 cc1 cc2 cc3 cc4 hidx
        obtain ⟨G, hdG, hGT, hst⟩ := wst_disk hLI1.out.st
        have hcall := lose_any G B d x.n W1 hdG hxo.out.1
        replace hst := hid hst
        replace hcall := hid hcall
        clear hbox hdG hGT
        refine hcall.out.mono ?_
        rintro e w5 h5
        obtain ⟨rfl, hW5, hf5⟩ := hst.out _ _ _ _ h5
        have hLI2 := hid (hLI1.out.same (d' := (dLose x.n d)) hsz hW5 hf5 ⟨hLI1.out.down, rfl, rfl⟩ (by omega) (Nat.le_succ k) hck.out)
        clear hcall hst h5 hW5 hf5 hLI1
        have hdn := hid (down_any T B (dLose x.n d) w5 hLI2.out.st.dst.1)
        rw [hLI2.out.down] at hdn
        go_wp2_with fail
        refine hdn.out.mono ?_
        rintro e w9 ⟨rfl, rfl⟩
        clear hdn
        go_wp2_with fail
        exact ⟨⟨k + 1, T, (dLose x.n d), R, safe, rfl, rfl, rfl, by go_num, by omega, ⟨_, _, rfl⟩, hLI2⟩, by simp [intOf]; omega⟩
      have qb6 : (bc == 6) = false := by simpa using hb6
      clear hb6
      by_cases hb7 : bc = 7
      · subst hb7
        go_wp2_with fail
        generalize wr.alloc (.cells #[iv x.op, sv x.s, .slice la x.l.length lc, iv x.n, .slice ka x.keep.length kc] 50) = W1 at *
        generalize wr.heap.size = b0 at *
        have hbx : b0 < W1.heap.size := by omega
        clear hszb cc0 cc1 cc2 cc3 cc4 hidx
        obtain ⟨G, hdG, hGT, hst⟩ := wst_disk hLI1.out.st
        have hcall := arm_any G B d x.n x.keep (.slice ka x.keep.length kc) W1 hdG hxo.out.1 (fun w' hf' => (Row.kept rk.out (fun j hj => (hf'.block j (by have := hLI1.out.le; omega) (fun hS => by have := hLI1.out.sb j (hGT j hS); omega)).trans ((hLI1.out.bel.block j hj).trans (hbelr.out.block j hj).symm))).mono (by have := hf'.size; have := hLI1.out.le; omega)) (by omega) hxo.out.2
        replace hst := hid hst
        replace hcall := hid hcall
        clear hbox hdG hGT
        refine hcall.out.mono ?_
        rintro e w5 h5
        obtain ⟨rfl, hW5, hf5⟩ := hst.out _ _ _ _ h5
        have hLI2 := hid (hLI1.out.same (d' := (dArm x.n x.keep d)) hsz hW5 hf5 ⟨hLI1.out.down, rfl, rfl⟩ (by omega) (Nat.le_succ k) hck.out)
        clear hcall hst h5 hW5 hf5 hLI1
        have hdn := hid (down_any T B (dArm x.n x.keep d) w5 hLI2.out.st.dst.1)
        rw [hLI2.out.down] at hdn
        go_wp2_with fail
        refine hdn.out.mono ?_
        rintro e w9 ⟨rfl, rfl⟩
        clear hdn
        go_wp2_with fail
        exact ⟨⟨k + 1, T, (dArm x.n x.keep d), R, safe, rfl, rfl, rfl, by go_num, by omega, ⟨_, _, rfl⟩, hLI2⟩, by simp [intOf]; omega⟩
      have qb7 : (bc == 7) = false := by simpa using hb7
      clear hb7
      have hLI2 := hid (hLI1.out.same hsz hLI1.out.st (Fr.refl _ _) (Same2.refl hLI1.out.down) (by omega) (Nat.le_succ k) hck.out)
      have hdn := down_any T B d ((wr.alloc (.cells #[iv x.op, sv x.s, .slice la x.l.length lc, iv x.n, .slice ka x.keep.length kc] 50))) hLI2.out.st.dst.1
      rw [hLI2.out.down] at hdn
      replace hdn := hid hdn
      clear hbox hLI1
      go_wp2_with fail
      refine hdn.out.mono ?_
      rintro e w9 ⟨rfl, rfl⟩
      clear hdn
      go_wp2_with fail
      exact ⟨⟨k + 1, T, d, R, safe, rfl, rfl, rfl, by go_num, by omega, ⟨_, _, rfl⟩, hLI2⟩, by simp [intOf]; omega⟩
    · have hkl2 : k = l.length := by omega
      subst hkl2
      have q1 : decide ((l.length : Int) < (l.length : Int)) = false := decide_eq_false (by omega)
      obtain ⟨G, hdG, hGT, hst⟩ := wst_disk hLI.out.st
      have hrow1 : Row wr.heap.size wr 1 (.slice a1 kp.length c1) kp.length (kp.map iv) := (Row.below hk1.out hLI.out.bel (Nat.le_refl _)).mono (by have := hLI.out.le; omega)
      have hcall := hid (crash_any G B d kp (.slice a1 kp.length c1) wr hdG hrow1 (by omega) hkx.out)
      have hCr : Crashed d (dCrash kp d) [] := by unfold dCrash; rw [if_neg (by rw [hLI.out.down]; decide)]; exact fall_crash _ _
      generalize dCrash kp d = d5 at *
      have hrc := recov (extra := []) hCr hLI.out.data hLI.out.pay (he := (fun p hp => by simp at hp)) hLI.out.pre hLI.out.dur
      obtain ⟨hrc1, hrc2⟩ := hrc
      rw [List.append_nil] at hrc1
      replace hst := hid hst
      replace hrc1 := hid hrc1
      replace hrc2 := hid hrc2
      clear hCr hdG hGT hrow1
      go_wp2_with fail
      refine hcall.out.mono ?_
      rintro e w5 h5
      obtain ⟨rfl, hW5, hf5⟩ := hst.out _ _ _ _ h5
      have hsafe5 := own_fr hLI.out.own hf5 hLI.out.out
      have hbel5 : Below w.heap.size w w5 := hLI.out.bel.trans (hf5.to_below (Nat.le_trans hsz hLI.out.le) (fun j hj hS => by have := hLI.out.sb j hS; omega))
      have hB5 : B ≤ w5.heap.size := Nat.le_trans hLI.out.le hf5.size
      have hall := hid (wst_all hW5 (by omega))
      replace hW5 := hid hW5
      replace hsafe5 := hid hsafe5
      replace hbel5 := hid hbel5
      clear hcall hst h5 hf5
      go_wp2_with fail
      refine hall.out.mono ?_
      rintro e w6 ⟨va, rfl, hva, hb6⟩
      have hszZ := hb6.size
      have hWZ := hW5.out.shrink hb6
      have hsafeZ := own_fr hsafe5.out (Fr.of_below hb6 (fun _ => False)) (fun _ _ h => h)
      have hbelZ := hbel5.out.trans (hb6.mono (by omega))
      have hlZ : ∀ j, va.ownBlock = some j → ¬ but S w5.heap.size w6.heap.size j := fun j hj hS => hS.2 (hva.lt j hj)
      have hrv := recovered_any (but S w5.heap.size w6.heap.size) B B d5 w6 hWZ.dst (fun j hj => hLI.out.sb j hj.1) (by omega) R safe [] va (.slice sa safe.length sc) (.slice none 0 0) false
        (fun w' hf' => own_strs (own_fr hva hf' hlZ)) (fun w' hf' => own_strs (own_fr hsafeZ hf' (fun j hj hS => hLI.out.out j hj hS.1))) (fun w' _ => Row.nil _ _ _ _) (own_cap hva) (by omega) hrc1.out hrc2.out
      obtain ⟨ay, cy, rfl, -, -⟩ := owns_form hva
      replace hrv := hid hrv
      replace hbelZ := hid hbelZ
      clear hall hva hb6 hWZ hsafeZ hlZ hW5 hsafe5 hbel5 hrc1 hrc2 hLI
      go_wp2_with fail
      refine hrv.out.mono ?_
      rintro e wF ⟨rfl, hbF⟩
      have hbF2 := hid (hbelZ.out.trans (hbF.mono hsz))
      clear hrv hbF
      go_wp2_with fail
      go_ret
      exact ⟨rfl, hbF2.out⟩
end Go.Proofs.Ytffmmhofgocldaa
