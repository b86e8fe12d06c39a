/- lex, plain: the laws of what the scanner computes. -/
import Derived.Test.YtlfcdfpbgjmcfaaDoorLexW8
import Derived.Test.YtlfcdfpbgjmcfaaDoorLexW9
set_option linter.unusedVariables false
set_option linter.unusedSimpArgs false
namespace Go.Proofs.YtlfcdfpbgjmcfaaDoor
open Go.Lib (itoa decDigits itoa_nonneg)
/-- r scans to tokens that are those of l, but for their offsets -/
inductive Scans : List UInt8 → List Tk → Prop
  | nil {r : List UInt8} (h : skipM false r = []) : Scans r []
  | cons {r r2 : List UInt8} {t t' : Tk} {l : List Tk} (h : tokF (skipM false r) = .ok (t, r2)) (hk : tkey t' = tkey t) (hs : Scans r2 l) : Scans r (t' :: l)
theorem Scans.run {r : List UInt8} {l : List Tk} (h : Scans r l) (N : Nat) : ∃ l', scanE N r = .ok l' ∧ l'.map tkey = l.map tkey := by
  induction h with
  | nil h => exact ⟨[], scanE_end N _ h, rfl⟩
  | cons h hk hs ih =>
    rename_i r r2 t t' l
    obtain ⟨l', h1, h2⟩ := ih
    refine ⟨{ t with pos := ((N - (skipM false r).length : Nat) : Int) } :: l', ?_, ?_⟩
    · rw [scanE_ok N r t r2 h, h1]
    · simp only [List.map_cons, h2, hk]; rfl
theorem Scans.of (N : Nat) : ∀ (n : Nat) (r : List UInt8) (l : List Tk), r.length ≤ n → scanE N r = .ok l → Scans r l := by
  intro n
  induction n with
  | zero =>
    intro r l hn h
    have : r = [] := List.length_eq_zero_iff.1 (by omega)
    subst this
    rw [scanE_end N [] rfl] at h
    cases h
    exact Scans.nil rfl
  | succ n ih =>
    intro r l hn h
    by_cases hs : skipM false r = []
    · rw [scanE_end N r hs] at h
      cases h
      exact Scans.nil hs
    · cases ht : tokF (skipM false r) with
      | error e => rw [scanE_err N r e ht hs] at h; cases h
      | ok x =>
        obtain ⟨t, r2⟩ := x
        have h1 := tok_len ht
        have h2 := skip_len false r
        rw [scanE_ok N r t r2 ht] at h
        cases hr : scanE N r2 with
        | error e => rw [hr] at h; cases h
        | ok l2 =>
          rw [hr] at h
          simp only [Except.ok.injEq] at h
          subst h
          exact Scans.cons ht rfl (ih r2 l2 (by omega) hr)
theorem Scans.skip {z Y : List UInt8} {l : List Tk} (h : Scans Y l) (hz : skipM false (z ++ Y) = skipM false Y) : Scans (z ++ Y) l := by
  cases h with
  | nil h => exact Scans.nil (hz.trans h)
  | cons h hk hs => exact Scans.cons (by rw [hz]; exact h) hk hs
theorem scanF_of {s : List UInt8} {l : List Tk} (hs : s.length ≤ 32768) (h : Scans s l) : ∃ l', scanF s = .ok l' ∧ l'.map tkey = l.map tkey := by
  obtain ⟨l', h1, h2⟩ := h.run s.length
  refine ⟨l', ?_, h2⟩
  unfold scanF; rw [if_neg (by omega)]; exact h1
theorem scanF_scans {s : List UInt8} {l : List Tk} (h : scanF s = .ok l) : s.length ≤ 32768 ∧ scanE s.length s = .ok l ∧ Scans s l := by
  unfold scanF at h
  split at h
  · cases h
  · have h' : scanE s.length s = .ok l := h
    exact ⟨by omega, h', Scans.of _ _ _ _ (Nat.le_refl _) h'⟩
/-! a token ends where a white byte follows -/
def SepOk (r : List UInt8) : Prop := r = [] ∨ ∃ d r', r = d :: r' ∧ (d = 9 ∨ d = 10 ∨ d = 13 ∨ d = 32)
theorem sep_wd {r : List UInt8} (h : SepOk r) : ∀ c, r.head? = some c → isWd c = false := by
  rintro c hc
  rcases h with rfl | ⟨d, r', rfl, rfl | rfl | rfl | rfl⟩
  · simp at hc
  all_goals (simp at hc; subst hc; decide)
theorem tw_app {u r : List UInt8} (hu : u.all isWd = true) (hr : SepOk r) : (u ++ r).takeWhile isWd = u ∧ (u ++ r).dropWhile isWd = r := tw_stop rfl hu (sep_wd hr)
theorem nm_parts {s : List UInt8} (h : isNm s = true) : ∃ c r, s = c :: r ∧ isLet c = true ∧ s.all isWd = true := by
  cases s with
  | nil => cases h
  | cons c r =>
    simp only [isNm, Bool.and_eq_true] at h
    exact ⟨c, r, rfl, h.1, h.2⟩
theorem let_ne {c : UInt8} (h : isLet c = true) : isWs c = false ∧ c ≠ 47 := by
  constructor
  · rw [Bool.eq_false_iff]; intro h2
    simp only [isWs, Bool.or_eq_true, decide_eq_true_eq] at h2
    rcases h2 with ((rfl | rfl) | rfl) | rfl <;> revert h <;> decide
  · rintro rfl; revert h; decide
theorem dg_ne {c : UInt8} (h : isDg c = true) : isWs c = false ∧ c ≠ 47 ∧ isLet c = false := by
  refine ⟨?_, ?_, ?_⟩
  · rw [Bool.eq_false_iff]; intro h2
    simp only [isWs, Bool.or_eq_true, decide_eq_true_eq] at h2
    rcases h2 with ((rfl | rfl) | rfl) | rfl <;> revert h <;> decide
  · rintro rfl; revert h; decide
  · rw [isDg_iff] at h
    rw [Bool.eq_false_iff]; intro h2
    simp only [isLet, Bool.or_eq_true, Bool.and_eq_true, decide_eq_true_eq] at h2
    omega
theorem skip_first {c : UInt8} {r : List UInt8} (h1 : isWs c = false) (h2 : c ≠ 47 ∨ r.head? ≠ some 47) : skipM false (c :: r) = c :: r := by
  rw [skipM, if_neg (by rw [h1]; decide), if_neg]
  rintro ⟨a, b⟩
  rcases h2 with h | h
  · exact h a
  · exact h b
theorem itoa_dec (n : Int) (h : 0 ≤ n) : itoa n = decDigits n.toNat := by
  have := itoa_nonneg n.toNat
  rwa [Int.toNat_of_nonneg h] at this
theorem int_ok (n : Int) (h0 : 0 ≤ n) (h1 : n ≤ 9007199254740992) : intF (itoa n) = .ok n ∧ (itoa n).all isDg = true ∧ itoa n ≠ [] := by
  have hp := parse_itoa n 0 9007199254740992 (by omega) (by omega) h0 h1
  have hd := itoa_dec n h0
  have ha : (itoa n).all isDg = true := by rw [List.all_eq_true, hd]; exact dec_all _
  have hh : ¬ ((itoa n).head? = some 48 ∧ itoa n ≠ [48]) := by
    rintro ⟨a, b⟩
    by_cases hz : n.toNat = 0
    · apply b; rw [hd, hz, dec_zero]
    · rw [hd] at a; exact dec_head _ hz a
  refine ⟨?_, ha, by rw [hd]; exact dec_ne _⟩
  unfold intF
  rw [if_neg (by rw [ha]; decide), if_neg hh, hp]
theorem lit_escs (r : List UInt8) : ∀ (s acc : List UInt8), litF (escs s ++ 34 :: r) acc = some (acc ++ s, r)
  | [], acc => by
    show litF (34 :: r) acc = _
    rw [lit_34, List.append_nil]
  | c :: s, acc => by
    have ih := lit_escs r s
    have e : escs (c :: s) ++ 34 :: r = escF c ++ (escs s ++ 34 :: r) := by simp [escs]
    rw [e]
    by_cases h1 : c = 10
    · subst h1
      show litF (92 :: 110 :: (escs s ++ 34 :: r)) acc = _
      rw [lit_esc]
      show litF (escs s ++ 34 :: r) (acc ++ [10]) = _
      rw [ih]; simp
    · by_cases h2 : c = 9
      · subst h2
        show litF (92 :: 116 :: (escs s ++ 34 :: r)) acc = _
        rw [lit_esc]
        show litF (escs s ++ 34 :: r) (acc ++ [9]) = _
        rw [ih]; simp
      · by_cases h3 : c = 34 ∨ c = 92
        · have he : escF c = [92, c] := by unfold escF; rw [if_neg h1, if_neg h2, if_pos h3]
          have hu : unesc c = some c := by rcases h3 with rfl | rfl <;> decide
          rw [he]
          show litF (92 :: c :: (escs s ++ 34 :: r)) acc = _
          rw [lit_esc, hu]
          show litF (escs s ++ 34 :: r) (acc ++ [c]) = _
          rw [ih]; simp
        · have he : escF c = [c] := by unfold escF; rw [if_neg h1, if_neg h2, if_neg h3]
          rw [he]
          show litF (c :: (escs s ++ 34 :: r)) acc = _
          rw [lit_one c _ _ h1 (fun h => h3 (Or.inl h)) (fun h => h3 (Or.inr h)), ih]; simp
theorem mk_mem {s : List UInt8} (h : isMk s = true) : s ∈ marks := by simpa [isMk] using h
def mkSep (m : List UInt8) : Bool := match m with
  | [a] => !isWs a && !isLet a && !isDg a && !decide (a = 34) && !isMk [a, 9] && !isMk [a, 10] && !isMk [a, 13] && !isMk [a, 32] && isMk [a]
  | [a, b] => !isWs a && !isLet a && !isDg a && !decide (a = 34) && isMk [a, b] && !decide (a = 47)
  | _ => false
theorem mk_sep : ∀ m ∈ marks, mkSep m = true := by decide +kernel
theorem mk_tok {s : List UInt8} (h : isMk s = true) {r : List UInt8} (hr : SepOk r) : tokF (s ++ r) = .ok (⟨4, s, 0, 0⟩, r) ∧ skipM false (s ++ r) = s ++ r := by
  have hm := mk_sep s (mk_mem h)
  match s, hm with
  | [a], hm =>
    simp only [mkSep, Bool.and_eq_true, Bool.not_eq_true', decide_eq_false_iff_not] at hm
    obtain ⟨⟨⟨⟨⟨⟨⟨⟨h1, h2⟩, h3⟩, h4⟩, h5⟩, h6⟩, h7⟩, h8⟩, h9⟩ := hm
    have hmk : mkF (a :: r) = some 1 := by
      unfold mkF
      rw [if_neg, if_pos ⟨by simp, by simpa using h9⟩]
      rcases hr with rfl | ⟨d, r', rfl, hd⟩
      · simp
      · rintro ⟨_, e⟩
        simp only [List.take_succ_cons, List.take_zero] at e
        rcases hd with rfl | rfl | rfl | rfl
        · rw [h5] at e; cases e
        · rw [h6] at e; cases e
        · rw [h7] at e; cases e
        · rw [h8] at e; cases e
    constructor
    · show tokF (a :: r) = _
      simp only [tokF]
      rw [if_neg (by rw [h2]; decide), if_neg (by rw [h3]; decide), if_neg h4]
      unfold markF; rw [hmk]; rfl
    · exact skip_first h1 (Or.inr (by
        rcases hr with rfl | ⟨d, r', rfl, rfl | rfl | rfl | rfl⟩ <;> simp))
  | [a, b], hm =>
    simp only [mkSep, Bool.and_eq_true, Bool.not_eq_true', decide_eq_false_iff_not] at hm
    obtain ⟨⟨⟨⟨⟨h1, h2⟩, h3⟩, h4⟩, h5⟩, h6⟩ := hm
    have hmk : mkF (a :: b :: r) = some 2 := by
      unfold mkF
      rw [if_pos ⟨by simp, by simpa using h5⟩]
    constructor
    · show tokF (a :: b :: r) = _
      simp only [tokF]
      rw [if_neg (by rw [h2]; decide), if_neg (by rw [h3]; decide), if_neg h4]
      unfold markF; rw [hmk]; rfl
    · exact skip_first h1 (Or.inl h6)
  | [], hm => cases hm
  | _ :: _ :: _ :: _, hm => cases hm
/-- a right token, written, scans back -/
theorem tok_back {t : Tk} (h : rightF t = true) {r : List UInt8} (hr : SepOk r) : ∃ t0, tokF (tkW t ++ r) = .ok (t0, r) ∧ tkey t = tkey t0 ∧ skipM false (tkW t ++ r) = tkW t ++ r ∧ tkW t ≠ [] := by
  obtain ⟨kd, tx, n, ps⟩ := t
  unfold rightF at h
  simp only at h
  split at h
  · rename_i h1
    subst h1
    simp only [Bool.and_eq_true, decide_eq_true_eq] at h
    obtain ⟨h2, rfl⟩ := h
    obtain ⟨c, u, rfl, h3, h4⟩ := nm_parts h2
    obtain ⟨a1, a2⟩ := tw_app h4 hr
    have hn := let_ne h3
    refine ⟨⟨1, c :: u, 0, 0⟩, ?_, rfl, skip_first hn.1 (Or.inl hn.2), by simp [tkW]⟩
    show tokF (c :: u ++ r) = _
    simp only [tokF, List.cons_append]
    rw [if_pos h3]
    unfold nameF
    rw [List.cons_append] at a1 a2
    rw [a1, a2]
  · split at h
    · rename_i h1 h2
      subst h2
      simp only [Bool.and_eq_true, decide_eq_true_eq] at h
      obtain ⟨⟨rfl, h3⟩, h4⟩ := h
      obtain ⟨b1, b2, b3⟩ := int_ok n h3 h4
      have hwd : (itoa n).all isWd = true := by
        rw [List.all_eq_true] at b2 ⊢
        exact fun c hc => isWd_dg (b2 c hc)
      obtain ⟨a1, a2⟩ := tw_app hwd hr
      have htk : tkW ⟨2, [], n, ps⟩ = itoa n := rfl
      obtain ⟨c, u, hcu⟩ := all_pos b3
      rw [htk]
      rw [hcu] at a1 a2 b1 b2 ⊢
      have hc : isDg c = true := by simp only [List.all_cons, Bool.and_eq_true] at b2; exact b2.1
      have hn := dg_ne hc
      refine ⟨⟨2, [], n, 0⟩, ?_, rfl, skip_first hn.1 (Or.inl hn.2.1), by simp⟩
      simp only [tokF, List.cons_append]
      rw [if_neg (by rw [hn.2.2]; decide), if_pos hc]
      unfold integerF
      rw [List.cons_append] at a1 a2
      rw [a1, a2, b1]
    · split at h
      · rename_i h1 h2 h3
        subst h3
        simp only [Bool.and_eq_true, decide_eq_true_eq] at h
        obtain ⟨h4, rfl⟩ := h
        have htk : tkW ⟨3, tx, 0, ps⟩ ++ r = 34 :: (escs tx ++ 34 :: r) := by
          show quoteF tx ++ r = _
          unfold quoteF; simp
        refine ⟨⟨3, tx, 0, 0⟩, ?_, rfl, ?_, ?_⟩
        · rw [htk]
          simp only [tokF]
          rw [if_neg (by decide), if_neg (by decide), if_pos trivial]
          unfold textF
          rw [List.tail_cons, lit_escs]
          simp only [List.nil_append]
          rw [if_neg (by omega)]
        · rw [htk]; exact skip_first (by decide) (Or.inl (by decide))
        · show quoteF tx ≠ []
          unfold quoteF; simp
      · split at h
        · rename_i h1 h2 h3 h4
          subst h4
          simp only [Bool.and_eq_true, decide_eq_true_eq] at h
          obtain ⟨h5, rfl⟩ := h
          obtain ⟨m1, m2⟩ := mk_tok h5 hr
          have htk : tkW ⟨4, tx, 0, ps⟩ = tx := rfl
          rw [htk]
          refine ⟨⟨4, tx, 0, 0⟩, m1, rfl, m2, ?_⟩
          have hm := mk_sep tx (mk_mem h5)
          intro e; subst e; cases hm
        · cases h
theorem wr_scans : ∀ (l : List Tk) (b : Bool) (Y : List UInt8) (l2 : List Tk), l.all rightF = true → SepOk Y → Scans Y l2 → Scans (wrF b l ++ Y) (l ++ l2)
  | [], b, Y, l2, _, _, h => h
  | t :: l, b, Y, l2, ha, hY, h => by
    simp only [List.all_cons, Bool.and_eq_true] at ha
    have ih := wr_scans l true Y l2 ha.2 hY h
    have hsep : SepOk (wrF true l ++ Y) := by
      cases l with
      | nil => exact hY
      | cons x l => exact Or.inr ⟨32, tkW x ++ wrF true l ++ Y, by simp [wrF], Or.inr (Or.inr (Or.inr rfl))⟩
    obtain ⟨t0, h1, h2, h3, _⟩ := tok_back ha.1 hsep
    have hsk : skipM false (wrF b (t :: l) ++ Y) = tkW t ++ (wrF true l ++ Y) := by
      have e : wrF b (t :: l) ++ Y = (if b then [32] else []) ++ (tkW t ++ (wrF true l ++ Y)) := by simp [wrF]
      rw [e]
      cases b
      · exact h3
      · show skipM false (32 :: (tkW t ++ (wrF true l ++ Y))) = _
        rw [skipM, if_pos (by decide)]
        exact h3
    exact Scans.cons (by rw [hsk]; exact h1) h2 ih
/-- what scans is right -/
theorem tok_right {D r2 : List UInt8} {t : Tk} (h : tokF D = .ok (t, r2)) : rightF t = true := by
  cases D with
  | nil => simp [tokF] at h
  | cons c r =>
    simp only [tokF] at h
    split at h
    · rename_i hc
      simp only [nameF, Except.ok.injEq, Prod.mk.injEq] at h
      obtain ⟨rfl, _⟩ := h
      unfold rightF
      rw [if_pos rfl]
      have h1 : (c :: r).takeWhile isWd = c :: r.takeWhile isWd := by rw [List.takeWhile_cons, if_pos (isWd_let hc)]
      have h2 : ((c :: r).takeWhile isWd).all isWd = true := List.all_takeWhile
      rw [h1] at h2 ⊢
      simp only [isNm, hc, h2, Bool.and_true, decide_true]
    · split at h
      · rename_i hc
        unfold integerF at h
        split at h
        · rename_i n hn
          simp only [Except.ok.injEq, Prod.mk.injEq] at h
          obtain ⟨rfl, _⟩ := h
          unfold intF at hn
          split at hn
          · cases hn
          · split at hn
            · cases hn
            · split at hn
              · rename_i k hk
                simp only [Except.ok.injEq] at hn
                subst hn
                have := parse_some hk
                unfold rightF
                simp only
                rw [if_neg (by decide), if_pos trivial]
                simp [this.2.1, this.2.2.1]
              · cases hn
        · cases h
      · split at h
        · unfold textF at h
          split at h
          · split at h
            · cases h
            · rename_i hl
              simp only [Except.ok.injEq, Prod.mk.injEq] at h
              obtain ⟨rfl, _⟩ := h
              unfold rightF
              simp only
              rw [if_neg (by decide), if_neg (by decide), if_pos trivial]
              simp; omega
          · cases h
        · unfold markF at h
          split at h
          · rename_i k hk
            simp only [Except.ok.injEq, Prod.mk.injEq] at h
            obtain ⟨rfl, _⟩ := h
            have := (mkF_le hk).2.2.2
            unfold rightF
            simp only
            rw [if_neg (by decide), if_neg (by decide), if_neg (by decide), if_pos trivial]
            simp [this]
          · cases h
theorem right_key {a b : Tk} (h : tkey a = tkey b) : rightF a = rightF b ∧ tkW a = tkW b := by
  obtain ⟨a1, a2, a3, a4⟩ := a
  obtain ⟨b1, b2, b3, b4⟩ := b
  simp only [tkey, Prod.mk.injEq] at h
  obtain ⟨rfl, rfl, rfl⟩ := h
  exact ⟨rfl, rfl⟩
theorem write_key : ∀ {a b : List Tk}, a.map tkey = b.map tkey → a.all rightF = b.all rightF ∧ ∀ q, wrF q a = wrF q b
  | [], [], _ => ⟨rfl, fun _ => rfl⟩
  | [], _ :: _, h => by simp at h
  | _ :: _, [], h => by simp at h
  | x :: a, y :: b, h => by
    simp only [List.map_cons, List.cons.injEq] at h
    obtain ⟨h1, h2⟩ := right_key h.1
    obtain ⟨h3, h4⟩ := write_key h.2
    exact ⟨by simp only [List.all_cons, h1, h3], fun q => by simp only [wrF, h2, h4]⟩
theorem writeF_key {a b : List Tk} (h : a.map tkey = b.map tkey) : writeF a = writeF b := by
  obtain ⟨h1, h2⟩ := write_key h
  unfold writeF
  rw [h1, h2]
theorem Scans.right {r : List UInt8} {l : List Tk} (h : Scans r l) : l.all rightF = true := by
  induction h with
  | nil h => rfl
  | cons h hk hs ih =>
    simp only [List.all_cons, ih, Bool.and_true]
    rw [(right_key hk).1]
    exact tok_right h
theorem wr_ne {l : List Tk} (h : l.all rightF = true) (hl : l ≠ []) : wrF false l ≠ [] := by
  cases l with
  | nil => exact absurd rfl hl
  | cons t l =>
    simp only [List.all_cons, Bool.and_eq_true] at h
    obtain ⟨_, _, _, _, h4⟩ := tok_back h.1 (r := []) (Or.inl rfl)
    simp only [wrF]
    intro e
    simp at e
    exact h4 e.1
theorem writeF_of {l : List Tk} (h : writeF l ≠ []) : l.all rightF = true ∧ writeF l = wrF false l := by
  unfold writeF at *
  split at h
  · rename_i h1; exact ⟨h1, by rw [if_pos h1]⟩
  · exact absurd rfl h
/-- LexBack, plain -/
theorem back_scan {l : List Tk} (h : writeF l ≠ []) (hl : (writeF l).length ≤ 32768) : ∃ l', scanF (writeF l) = .ok l' ∧ l'.map tkey = l.map tkey := by
  obtain ⟨h1, h2⟩ := writeF_of h
  rw [h2] at hl ⊢
  have := wr_scans l false [] [] h1 (Or.inl rfl) (Scans.nil rfl)
  rw [List.append_nil, List.append_nil] at this
  exact scanF_of hl this
end Go.Proofs.YtlfcdfpbgjmcfaaDoor
