/- lex, plain: offsets; spaces and comments. -/
import Derived.Test.YtlfcdfpbgjmcfaaDoorLexQ
set_option linter.unusedVariables false
set_option linter.unusedSimpArgs false
namespace Go.Proofs.YtlfcdfpbgjmcfaaDoor
open Go.Lib (itoa decDigits itoa_nonneg)
theorem skip_loc : ∀ (m : Bool) (r : List UInt8), ∃ ws, r = ws ++ skipM m r ∧ skipM m ws = []
  | m, [] => ⟨[], by cases m <;> simp [skipM], by cases m <;> rfl⟩
  | true, c :: r => by
    rw [skipM]
    split
    · rename_i h
      obtain ⟨ws, h1, h2⟩ := skip_loc false r
      exact ⟨c :: ws, by rw [List.cons_append, ← h1], by rw [skipM, if_pos h]; exact h2⟩
    · rename_i h
      obtain ⟨ws, h1, h2⟩ := skip_loc true r
      exact ⟨c :: ws, by rw [List.cons_append, ← h1], by rw [skipM, if_neg h]; exact h2⟩
  | false, c :: r => by
    rw [skipM]
    split
    · rename_i h
      obtain ⟨ws, h1, h2⟩ := skip_loc false r
      exact ⟨c :: ws, by rw [List.cons_append, ← h1], by rw [skipM, if_pos h]; exact h2⟩
    · rename_i h
      split
      · rename_i hc
        obtain ⟨ws, h1, h2⟩ := skip_loc true r
        refine ⟨c :: ws, by rw [List.cons_append, ← h1], ?_⟩
        have hh : ws.head? = some 47 := by
          cases ws with
          | nil =>
            exfalso
            cases r with
            | nil => simp at hc
            | cons d r' =>
              simp at hc
              obtain ⟨_, rfl⟩ := hc
              rw [skipM, if_neg (by decide)] at h1
              have h3 := congrArg List.length h1
              have h4 := skip_len true r'
              simp at h3
              omega
          | cons d ws' =>
            rw [h1] at hc
            simpa using hc.2
        rw [skipM, if_neg h, if_pos ⟨hc.1, hh⟩]
        exact h2
      · exact ⟨[], rfl, rfl⟩
theorem lit_loc : ∀ (r acc t r' : List UInt8), litF r acc = some (t, r') → ∃ u, r = u ++ r' ∧ ∀ z, litF (u ++ z) acc = some (t, z)
  | [], acc, t, r', h => by simp [litF] at h
  | [c], acc, t, r', h => by
    simp only [litF] at h
    split at h
    · rename_i hc
      simp only [Option.some.injEq, Prod.mk.injEq] at h
      obtain ⟨rfl, rfl⟩ := h
      subst hc
      exact ⟨[34], rfl, fun z => lit_34 z acc⟩
    · cases h
  | c :: e :: r, acc, t, r', h => by
    by_cases h10 : c = 10
    · subst h10; rw [lit_10] at h; cases h
    · by_cases h34 : c = 34
      · subst h34
        rw [lit_34] at h
        simp only [Option.some.injEq, Prod.mk.injEq] at h
        obtain ⟨rfl, rfl⟩ := h
        exact ⟨[34], rfl, fun z => lit_34 z acc⟩
      · by_cases h92 : c = 92
        · subst h92
          rw [lit_esc] at h
          cases hu : unesc e with
          | none => rw [hu] at h; cases h
          | some x =>
            rw [hu] at h
            obtain ⟨u, h1, h2⟩ := lit_loc r _ _ _ h
            refine ⟨92 :: e :: u, by rw [h1]; rfl, fun z => ?_⟩
            show litF (92 :: e :: (u ++ z)) acc = _
            rw [lit_esc, hu]
            exact h2 z
        · rw [lit_one c _ _ h10 h34 h92] at h
          obtain ⟨u, h1, h2⟩ := lit_loc (e :: r) _ _ _ h
          refine ⟨c :: u, by rw [h1]; rfl, fun z => ?_⟩
          show litF (c :: (u ++ z)) acc = _
          rw [lit_one c _ _ h10 h34 h92]
          exact h2 z
theorem prefix_head {z r : List UInt8} (hz : z <+: r) : ∀ c, z.head? = some c → r.head? = some c := by
  obtain ⟨v, rfl⟩ := hz
  intro c hc
  cases z with
  | nil => simp at hc
  | cons d z => simpa using hc
theorem dw_head : ∀ (D : List UInt8) (c : UInt8), (D.dropWhile isWd).head? = some c → isWd c = false
  | [], c, h => by simp at h
  | a :: D, c, h => by
    rw [List.dropWhile_cons] at h
    split at h
    · exact dw_head D c h
    · rename_i ha
      simp at h; subst h
      simpa using ha
/-- a token does not look beyond the byte behind it -/
theorem tok_loc {D r2 : List UInt8} {t : Tk} (h : tokF D = .ok (t, r2)) : ∃ u, D = u ++ r2 ∧ u ≠ [] ∧ ∀ z, z <+: r2 → tokF (u ++ z) = .ok (t, z) := by
  cases D with
  | nil => simp [tokF] at h
  | cons c r =>
    simp only [tokF] at h
    split at h
    · rename_i hc
      simp only [nameF, Except.ok.injEq, Prod.mk.injEq] at h
      obtain ⟨rfl, rfl⟩ := h
      have hU : (c :: r).takeWhile isWd = c :: r.takeWhile isWd := by rw [List.takeWhile_cons, if_pos (isWd_let hc)]
      have hall : ((c :: r).takeWhile isWd).all isWd = true := List.all_takeWhile
      refine ⟨(c :: r).takeWhile isWd, List.takeWhile_append_dropWhile.symm, by rw [hU]; simp, fun z hz => ?_⟩
      obtain ⟨a1, a2⟩ := tw_stop (D := (c :: r).takeWhile isWd ++ z) rfl hall (fun x hx => dw_head _ _ (prefix_head hz x hx))
      have e : tokF ((c :: r).takeWhile isWd ++ z) = nameF ((c :: r).takeWhile isWd ++ z) := by
        rw [hU]; simp only [tokF, List.cons_append]; rw [if_pos hc]
      rw [e]; unfold nameF; rw [a1, a2]
    · rename_i hlc
      split at h
      · rename_i hc
        unfold integerF at h
        split at h
        · rename_i n hn
          simp only [Except.ok.injEq, Prod.mk.injEq] at h
          obtain ⟨rfl, rfl⟩ := h
          have hU : (c :: r).takeWhile isWd = c :: r.takeWhile isWd := by rw [List.takeWhile_cons, if_pos (isWd_dg hc)]
          have hall : ((c :: r).takeWhile isWd).all isWd = true := List.all_takeWhile
          refine ⟨(c :: r).takeWhile isWd, List.takeWhile_append_dropWhile.symm, by rw [hU]; simp, fun z hz => ?_⟩
          obtain ⟨a1, a2⟩ := tw_stop (D := (c :: r).takeWhile isWd ++ z) rfl hall (fun x hx => dw_head _ _ (prefix_head hz x hx))
          have e : tokF ((c :: r).takeWhile isWd ++ z) = integerF ((c :: r).takeWhile isWd ++ z) := by
            rw [hU]; simp only [tokF, List.cons_append]; rw [if_neg hlc, if_pos hc]
          rw [e]; unfold integerF; rw [a1, a2, hn]
        · cases h
      · rename_i hdc
        split at h
        · rename_i hc
          subst hc
          unfold textF at h
          split at h
          · rename_i tt r3 hl
            split at h
            · cases h
            · rename_i hlen
              simp only [Except.ok.injEq, Prod.mk.injEq] at h
              obtain ⟨rfl, rfl⟩ := h
              rw [List.tail_cons] at hl
              obtain ⟨u, h1, h2⟩ := lit_loc _ _ _ _ hl
              refine ⟨34 :: u, by rw [h1]; rfl, by simp, fun z hz => ?_⟩
              show tokF (34 :: (u ++ z)) = _
              simp only [tokF]
              rw [if_neg hlc, if_neg hdc, if_pos trivial]
              unfold textF
              rw [List.tail_cons, h2 z]
              simp only
              rw [if_neg hlen]
          · cases h
        · rename_i h34
          unfold markF at h
          split at h
          · rename_i k hk
            simp only [Except.ok.injEq, Prod.mk.injEq] at h
            obtain ⟨rfl, rfl⟩ := h
            obtain ⟨k1, k2, k3, k4⟩ := mkF_le hk
            have hul : ((c :: r).take k).length = k := by rw [List.length_take]; omega
            have hU : (c :: r).take k = c :: r.take (k - 1) := by
              rw [show k = (k - 1) + 1 by omega, List.take_succ_cons]; simp
            refine ⟨(c :: r).take k, (List.take_append_drop _ _).symm, by rw [hU]; simp, fun z hz => ?_⟩
            have hmk : mkF ((c :: r).take k ++ z) = some k := by
              have hk12 : k = 1 ∨ k = 2 := by omega
              rcases hk12 with rfl | rfl
              · have hno : ¬ (2 ≤ (c :: r).length ∧ isMk ((c :: r).take 2) = true) := by
                  intro hh
                  unfold mkF at hk
                  rw [if_pos hh] at hk
                  cases hk
                unfold mkF
                rw [if_neg, if_pos]
                · refine ⟨by simp, ?_⟩
                  simpa using k4
                · rintro ⟨q1, q2⟩
                  apply hno
                  cases z with
                  | nil => simp at q1
                  | cons d z =>
                    have hd := prefix_head hz d rfl
                    cases r with
                    | nil => simp at hd
                    | cons e r =>
                      simp at hd
                      subst hd
                      refine ⟨by simp, ?_⟩
                      simpa using q2
              · unfold mkF
                rw [if_pos]
                refine ⟨by rw [List.length_append, hul]; omega, ?_⟩
                rw [List.take_append_of_le_length (by omega), List.take_of_length_le (by omega)]
                exact k4
            have e : tokF ((c :: r).take k ++ z) = markF ((c :: r).take k ++ z) := by
              rw [hU]; simp only [tokF, List.cons_append]; rw [if_neg hlc, if_neg hdc, if_neg h34]
            rw [e]; unfold markF; rw [hmk]
            simp only
            rw [List.take_append_of_le_length (by omega), List.take_of_length_le (by omega), List.drop_append_of_le_length (by omega), List.drop_of_length_le (by omega)]
            simp
          · cases h
theorem skip_idem : ∀ {m : Bool} {r : List UInt8} {c : UInt8} {q : List UInt8}, skipM m r = c :: q → skipM false (c :: q) = c :: q
  | m, [], c, q, h => by cases m <;> simp [skipM] at h
  | true, a :: r, c, q, h => by
    rw [skipM] at h
    split at h
    · exact skip_idem h
    · exact skip_idem h
  | false, a :: r, c, q, h => by
    rw [skipM] at h
    split at h
    · exact skip_idem h
    · rename_i h1
      split at h
      · exact skip_idem h
      · rename_i h2
        cases h
        rw [skipM, if_neg h1, if_neg h2]
/-- where the tokens of a scan begin -/
theorem scan_at (N : Nat) : ∀ (n : Nat) (r : List UInt8) (l : List Tk), r.length ≤ n → scanE N r = .ok l → ∀ i t, l[i]? = some t →
    ∃ D t0 r2, t.pos = ((N - D.length : Nat) : Int) ∧ tokF D = .ok (t0, r2) ∧ tkey t = tkey t0 ∧ (∃ u, r = u ++ D) ∧ skipM false D = D ∧ scanE N r2 = .ok (l.drop (i + 1)) := by
  intro n
  induction n with
  | zero =>
    intro r l hn h i t hi
    have : r = [] := List.length_eq_zero_iff.1 (by omega)
    subst this
    rw [scanE_end N [] rfl] at h
    cases h
    simp at hi
  | succ n ih =>
    intro r l hn h i t hi
    by_cases hs : skipM false r = []
    · rw [scanE_end N r hs] at h
      cases h
      simp at hi
    · cases ht : tokF (skipM false r) with
      | error e => rw [scanE_err N r e ht hs] at h; cases h
      | ok x =>
        obtain ⟨t1, r2⟩ := x
        have h1 := tok_len ht
        have h2 := skip_len false r
        obtain ⟨us, hus⟩ := skip_suf false r
        rw [scanE_ok N r t1 r2 ht] at h
        cases hr : scanE N r2 with
        | error e => rw [hr] at h; cases h
        | ok l2 =>
          rw [hr] at h
          simp only [Except.ok.injEq] at h
          subst h
          cases i with
          | zero =>
            simp at hi
            subst hi
            refine ⟨skipM false r, t1, r2, rfl, ht, rfl, ⟨us, hus⟩, ?_, by simpa using hr⟩
            obtain ⟨c, q, hcq⟩ := all_pos hs
            rw [hcq]
            exact skip_idem hcq
          | succ i =>
            obtain ⟨D, t0, r3, q1, q2, q3, ⟨u, q4⟩, q5, q6⟩ := ih r2 l2 (by omega) hr i t (by simpa using hi)
            obtain ⟨v, hv, _⟩ := tok_suf ht
            refine ⟨D, t0, r3, q1, q2, q3, ⟨us ++ (v ++ u), ?_⟩, q5, by simpa using q6⟩
            conv => lhs; rw [hus, hv, q4]
            simp
theorem skip_pre {c : UInt8} {q z : List UInt8} (h : skipM false (c :: q) = c :: q) (hz : z <+: q) : skipM false (c :: z) = c :: z := by
  have h1 : isWs c = false := by
    rw [Bool.eq_false_iff]; intro hw
    rw [skipM, if_pos hw] at h
    have := skip_len false q
    rw [h] at this
    simp at this
    omega
  have h2 : ¬ (c = 47 ∧ q.head? = some 47) := by
    intro hc
    rw [skipM, if_neg (by rw [h1]; decide), if_pos hc] at h
    have := skip_len true q
    rw [h] at this
    simp at this
    omega
  rw [skipM, if_neg (by rw [h1]; decide), if_neg]
  rintro ⟨a, b⟩
  exact h2 ⟨a, prefix_head hz _ b⟩
theorem first_pos {N : Nat} {r : List UInt8} {t : Tk} {q : List Tk} (h : scanE N r = .ok (t :: q)) : t.pos = ((N - (skipM false r).length : Nat) : Int) ∧ skipM false r ≠ [] := by
  by_cases hs : skipM false r = []
  · rw [scanE_end N r hs] at h; cases h
  · cases ht : tokF (skipM false r) with
    | error e => rw [scanE_err N r e ht hs] at h; cases h
    | ok x =>
      obtain ⟨t1, r2⟩ := x
      rw [scanE_ok N r t1 r2 ht] at h
      cases hr : scanE N r2 with
      | error e => rw [hr] at h; cases h
      | ok l2 =>
        rw [hr] at h
        simp only [Except.ok.injEq, List.cons.injEq] at h
        obtain ⟨rfl, _⟩ := h
        exact ⟨rfl, hs⟩
theorem suf_drop' {s D u : List UInt8} (h : s = u ++ D) : s.drop (s.length - D.length) = D := suf_drop (k := 0) h
/-- LexOffsets, plain: token i -/
theorem off_law {s : List UInt8} {l : List Tk} (h : scanF s = .ok l) {i : Nat} {t : Tk} (hi : l[i]? = some t) :
    ∃ p e : Nat, t.pos = (p : Int) ∧ p < e ∧ e ≤ s.length ∧ (i + 1 < l.length → ∀ t', l[i + 1]? = some t' → t'.pos = (e : Int)) ∧ (¬ i + 1 < l.length → e = s.length) ∧
      (∃ l1, scanF ((s.drop p).take (e - p)) = .ok l1 ∧ l1.map tkey = [tkey t]) ∧ (∃ l2, scanF (s.drop p) = .ok l2 ∧ l2.map tkey = (l.drop i).map tkey) := by
  obtain ⟨hl, hE, _⟩ := scanF_scans h
  obtain ⟨D, t0, r2, h1, h2, h3, ⟨us, h4⟩, h5, h6⟩ := scan_at s.length s.length s l (Nat.le_refl _) hE i t hi
  have hD := suf_drop' h4
  have hlt := tok_len h2
  have hDl : D.length ≤ s.length := by rw [h4, List.length_append]; omega
  have hil := (List.getElem?_eq_some_iff.1 hi).1
  have hsc : Scans r2 (l.drop (i + 1)) := Scans.of _ _ _ _ (Nat.le_refl _) h6
  have hdi : l.drop i = t :: l.drop (i + 1) := drop_atT hi
  have hS : Scans D (l.drop i) := by rw [hdi]; exact Scans.cons (by rw [h5]; exact h2) h3 hsc
  obtain ⟨ws, hw1, hw2⟩ := skip_loc false r2
  obtain ⟨u, hu1, hu2, hu3⟩ := tok_loc h2
  have hlen1 : D.length = u.length + r2.length := by rw [hu1, List.length_append]
  have hlen2 : r2.length = ws.length + (skipM false r2).length := by conv => lhs; rw [hw1, List.length_append]
  have hupos := List.length_pos_iff.2 hu2
  have hdl : (s.drop (s.length - D.length)).length ≤ 32768 := by rw [hD]; omega
  refine ⟨s.length - D.length, s.length - (skipM false r2).length, h1, by omega, by omega, ?_, ?_, ?_, ?_⟩
  · intro hlt2 t' ht'
    have hd1 : l.drop (i + 1) = t' :: l.drop (i + 1 + 1) := drop_atT ht'
    rw [hd1] at h6
    exact (first_pos h6).1
  · intro hn
    have hnil : l.drop (i + 1) = [] := List.drop_eq_nil_of_le (by omega)
    rw [hnil] at h6
    have : skipM false r2 = [] := by
      by_cases hs : skipM false r2 = []
      · exact hs
      · exfalso
        cases ht : tokF (skipM false r2) with
        | error e => rw [scanE_err _ r2 e ht hs] at h6; cases h6
        | ok x =>
          obtain ⟨t1, r3⟩ := x
          rw [scanE_ok _ r2 t1 r3 ht] at h6
          cases hr : scanE s.length r3 with
          | error e => rw [hr] at h6; cases h6
          | ok l2 => rw [hr] at h6; cases h6
    rw [this]; simp
  · rw [hD]
    have htk : D.take (s.length - (skipM false r2).length - (s.length - D.length)) = u ++ ws := by
      rw [show s.length - (skipM false r2).length - (s.length - D.length) = (u ++ ws).length by rw [List.length_append]; omega]
      have : D = (u ++ ws) ++ skipM false r2 := by rw [List.append_assoc, ← hw1, ← hu1]
      conv => lhs; rhs; rw [this]
      exact List.take_left' rfl
    rw [htk]
    have hpre : ws <+: r2 := ⟨skipM false r2, hw1.symm⟩
    have hsk : skipM false (u ++ ws) = u ++ ws := by
      obtain ⟨c, v, rfl⟩ := all_pos hu2
      rw [List.cons_append]
      rw [hu1, List.cons_append] at h5
      exact skip_pre h5 (List.prefix_append_right_inj _ |>.2 hpre)
    have hone : Scans (u ++ ws) [t] := Scans.cons (by rw [hsk]; exact hu3 ws hpre) h3 (Scans.nil hw2)
    obtain ⟨l1, q1, q2⟩ := scanF_of (by rw [List.length_append]; omega) hone
    exact ⟨l1, q1, q2⟩
  · rw [hD]
    exact scanF_of (by omega) hS
theorem cm_skip : ∀ (note Y : List UInt8), (∀ c ∈ note, c ≠ 10) → skipM true (note ++ 10 :: Y) = skipM false Y
  | [], Y, _ => by show skipM true (10 :: Y) = _; rw [skipM, if_pos rfl]
  | c :: note, Y, h => by
    show skipM true (c :: (note ++ 10 :: Y)) = _
    rw [skipM, if_neg (h c (by simp))]
    exact cm_skip note Y (fun x hx => h x (by simp [hx]))
theorem cm_end : ∀ (note : List UInt8), (∀ c ∈ note, c ≠ 10) → skipM true note = []
  | [], _ => rfl
  | c :: note, h => by
    rw [skipM, if_neg (h c (by simp))]
    exact cm_end note (fun x hx => h x (by simp [hx]))
theorem skip_sl (X : List UInt8) : skipM false (32 :: 47 :: 47 :: X) = skipM true X := by
  rw [skipM, if_pos (by decide), skipM, if_neg (by decide), if_pos ⟨rfl, rfl⟩, skipM, if_neg (by decide)]
/-- the source of LexSpaces -/
def spS (note a b : List UInt8) : List UInt8 := [32, 47, 47] ++ note ++ [10, 9] ++ a ++ [13, 10, 32, 47, 47] ++ note ++ [10] ++ b ++ [32, 47, 47] ++ note
theorem sp_law {l : List Tk} {n : Nat} {note : List UInt8} (ha : l.all rightF = true) (hn : ∀ c ∈ note, c ≠ 10) : Scans (spS note (wrF false (l.take n)) (wrF false (l.drop n))) l := by
  have ha1 : (l.take n).all rightF = true := by
    rw [List.all_eq_true] at ha ⊢
    exact fun x hx => ha x (List.mem_of_mem_take hx)
  have ha2 : (l.drop n).all rightF = true := by
    rw [List.all_eq_true] at ha ⊢
    exact fun x hx => ha x (List.mem_of_mem_drop hx)
  have s1 : Scans (32 :: 47 :: 47 :: note) [] := Scans.nil (by rw [skip_sl]; exact cm_end note hn)
  have s2 := wr_scans (l.drop n) false (32 :: 47 :: 47 :: note) [] ha2 (Or.inr ⟨32, _, rfl, Or.inr (Or.inr (Or.inr rfl))⟩) s1
  rw [List.append_nil] at s2
  have s3 : Scans ((13 :: 10 :: 32 :: 47 :: 47 :: (note ++ [10])) ++ (wrF false (l.drop n) ++ 32 :: 47 :: 47 :: note)) (l.drop n) := Scans.skip s2 (by
    show skipM false (13 :: 10 :: 32 :: 47 :: 47 :: ((note ++ [10]) ++ _)) = _
    rw [skipM, if_pos (by decide), skipM, if_pos (by decide), skip_sl]
    have := cm_skip note (wrF false (l.drop n) ++ 32 :: 47 :: 47 :: note) hn
    simpa using this)
  have s4 := wr_scans (l.take n) false ((13 :: 10 :: 32 :: 47 :: 47 :: (note ++ [10])) ++ (wrF false (l.drop n) ++ 32 :: 47 :: 47 :: note)) _ ha1 (Or.inr ⟨13, _, rfl, Or.inr (Or.inr (Or.inl rfl))⟩) s3
  rw [List.take_append_drop] at s4
  have s5 := Scans.skip (z := 32 :: 47 :: 47 :: (note ++ [10, 9])) s4 (by
    show skipM false (32 :: 47 :: 47 :: ((note ++ [10, 9]) ++ _)) = _
    rw [skip_sl]
    have e : (note ++ [10, 9]) ++ (wrF false (l.take n) ++ ((13 :: 10 :: 32 :: 47 :: 47 :: (note ++ [10])) ++ (wrF false (l.drop n) ++ 32 :: 47 :: 47 :: note))) = note ++ 10 :: (9 :: (wrF false (l.take n) ++ ((13 :: 10 :: 32 :: 47 :: 47 :: (note ++ [10])) ++ (wrF false (l.drop n) ++ 32 :: 47 :: 47 :: note)))) := by simp
    rw [e, cm_skip note _ hn, skipM, if_pos (by decide)])
  have e : spS note (wrF false (l.take n)) (wrF false (l.drop n)) = (32 :: 47 :: 47 :: (note ++ [10, 9])) ++ (wrF false (l.take n) ++ ((13 :: 10 :: 32 :: 47 :: 47 :: (note ++ [10])) ++ (wrF false (l.drop n) ++ 32 :: 47 :: 47 :: note))) := by
    unfold spS; simp
  rw [e]
  exact s5
theorem err_law {s : List UInt8} {x : Int × Int} (h : scanF s = .error x) : x.1 ≠ 0 ∧ 0 ≤ x.2 ∧ x.2 < max (s.length : Int) 1 := by
  unfold scanF at h
  split at h
  · cases h; exact ⟨by decide, by decide, by simp; omega⟩
  · have key : ∀ (n : Nat) (r : List UInt8), r.length ≤ n → r.length ≤ s.length → scanE s.length r = .error x → x.1 ≠ 0 ∧ 0 ≤ x.2 ∧ x.2 < (s.length : Int) := by
      intro n
      induction n with
      | zero =>
        intro r hn _ hr
        have : r = [] := List.length_eq_zero_iff.1 (by omega)
        subst this
        rw [scanE_end _ [] rfl] at hr; cases hr
      | succ n ih =>
        intro r hn hle hr
        by_cases hs : skipM false r = []
        · rw [scanE_end _ r hs] at hr; cases hr
        · have h2 := skip_len false r
          have h3 := List.length_pos_iff.2 hs
          cases ht : tokF (skipM false r) with
          | error e =>
            rw [scanE_err _ r e ht hs] at hr
            cases hr
            exact ⟨tok_err ht, by simp, by simp; omega⟩
          | ok y =>
            obtain ⟨t1, r2⟩ := y
            have h1 := tok_len ht
            rw [scanE_ok _ r t1 r2 ht] at hr
            cases hr2 : scanE s.length r2 with
            | error e =>
              rw [hr2] at hr
              cases hr
              exact ih r2 (by omega) (by omega) hr2
            | ok l2 => rw [hr2] at hr; cases hr
    have := key s.length s (Nat.le_refl _) (Nat.le_refl _) h
    exact ⟨this.1, this.2.1, by omega⟩
end Go.Proofs.YtlfcdfpbgjmcfaaDoor
