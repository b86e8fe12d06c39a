/- lex, plain: what the scanner computes. -/
import Derived.Test.YtlfcdfpbgjmcfaaDoorNumP
set_option linter.unusedVariables false
namespace Go.Proofs.YtlfcdfpbgjmcfaaDoor
open Go.Lib (itoa)
def isLet (c : UInt8) : Bool := (decide (97 ≤ c.toNat) && decide (c.toNat ≤ 122)) || (decide (65 ≤ c.toNat) && decide (c.toNat ≤ 90))
def isWd (c : UInt8) : Bool := isLet c || isDg c || decide (c = 95)
def isWs (c : UInt8) : Bool := decide (c = 9) || decide (c = 10) || decide (c = 13) || decide (c = 32)
/-- behind white space (false) or behind a comment (true) -/
def skipM : Bool → List UInt8 → List UInt8
  | _, [] => []
  | true, c :: r => if c = 10 then skipM false r else skipM true r
  | false, c :: r => if isWs c then skipM false r else if c = 47 ∧ r.head? = some 47 then skipM true r else c :: r
structure Tk where
  kind : Int
  text : List UInt8
  n : Int
  pos : Int
def marks : List (List UInt8) := [[40], [41], [123], [125], [91], [93], [44], [46], [58], [59], [63], [95], [61], [43], [45], [42], [47], [37], [60], [62], [61, 61], [33, 61], [60, 61], [62, 61], [43, 43], [61, 62], [58, 45]]
def isMk (s : List UInt8) : Bool := marks.contains s
def isNm : List UInt8 → Bool
  | [] => false
  | c :: r => isLet c && (c :: r).all isWd
def unesc (c : UInt8) : Option UInt8 := if c = 110 then some 10 else if c = 116 then some 9 else if c = 34 ∨ c = 92 then some c else none
/-- a string literal behind its quote: what it denotes, and the rest -/
def litF : List UInt8 → List UInt8 → Option (List UInt8 × List UInt8)
  | [], _ => none
  | [c], acc => if c = 34 then some (acc, []) else none
  | c :: e :: r, acc =>
    if c = 10 then none
    else if c = 34 then some (acc, e :: r)
    else if c = 92 then
      match unesc e with
      | some x => litF r (acc ++ [x])
      | none => none
    else litF (e :: r) (acc ++ [c])
def intF (w : List UInt8) : Except Int Int :=
  if w.all isDg = false then .error 2
  else if w.head? = some 48 ∧ w ≠ [48] then .error 2
  else match parse w 0 9007199254740992 with
    | some n => .ok n
    | none => .error 6
def mkF (r : List UInt8) : Option Nat := if 2 ≤ r.length ∧ isMk (r.take 2) = true then some 2 else if 1 ≤ r.length ∧ isMk (r.take 1) = true then some 1 else none
def nameF (r : List UInt8) : Except Int (Tk × List UInt8) := .ok (⟨1, r.takeWhile isWd, 0, 0⟩, r.dropWhile isWd)
def integerF (r : List UInt8) : Except Int (Tk × List UInt8) :=
  match intF (r.takeWhile isWd) with
  | .ok n => .ok (⟨2, [], n, 0⟩, r.dropWhile isWd)
  | .error e => .error e
def textF (r : List UInt8) : Except Int (Tk × List UInt8) :=
  match litF r.tail [] with
  | some (t, r') => if 4096 < t.length then .error 15 else .ok (⟨3, t, 0, 0⟩, r')
  | none => .error 2
def markF (r : List UInt8) : Except Int (Tk × List UInt8) :=
  match mkF r with
  | some k => .ok (⟨4, r.take k, 0, 0⟩, r.drop k)
  | none => .error 2
/-- the token at the head of what is left -/
def tokF (r : List UInt8) : Except Int (Tk × List UInt8) :=
  match r with
  | [] => .error 2
  | c :: _ => if isLet c then nameF r else if isDg c then integerF r else if c = 34 then textF r else markF r
def scanG (N : Nat) : Nat → List UInt8 → Except (Int × Int) (List Tk)
  | 0, _ => .ok []
  | f + 1, r =>
    if skipM false r = [] then .ok [] else
    match tokF (skipM false r) with
    | .error e => .error (e, ((N - (skipM false r).length : Nat) : Int))
    | .ok (t, r2) =>
      match scanG N f r2 with
      | .error x => .error x
      | .ok l => .ok ({ t with pos := ((N - (skipM false r).length : Nat) : Int) } :: l)
def scanF (s : List UInt8) : Except (Int × Int) (List Tk) := if 32768 < s.length then .error (15, 0) else scanG s.length (s.length + 1) s
/-! what is left gets shorter -/
theorem skip_suf : ∀ (m : Bool) (r : List UInt8), ∃ u, r = u ++ skipM m r
  | _, [] => ⟨[], by simp [skipM]⟩
  | true, c :: r => by
    unfold skipM
    split
    · obtain ⟨u, hu⟩ := skip_suf false r; exact ⟨c :: u, by rw [List.cons_append, ← hu]⟩
    · obtain ⟨u, hu⟩ := skip_suf true r; exact ⟨c :: u, by rw [List.cons_append, ← hu]⟩
  | false, c :: r => by
    unfold skipM
    split
    · obtain ⟨u, hu⟩ := skip_suf false r; exact ⟨c :: u, by rw [List.cons_append, ← hu]⟩
    · split
      · obtain ⟨u, hu⟩ := skip_suf true r; exact ⟨c :: u, by rw [List.cons_append, ← hu]⟩
      · exact ⟨[], rfl⟩
theorem skip_len (m : Bool) (r : List UInt8) : (skipM m r).length ≤ r.length := by
  obtain ⟨u, hu⟩ := skip_suf m r
  have := congrArg List.length hu
  rw [List.length_append] at this
  omega
theorem lit_suf : ∀ (r acc : List UInt8) (t r' : List UInt8), litF r acc = some (t, r') → ∃ u, r = u ++ r' ∧ u ≠ []
  | [], acc, t, r', h => by simp [litF] at h
  | [c], acc, t, r', h => by
    simp only [litF] at h
    split at h
    · simp only [Option.some.injEq, Prod.mk.injEq] at h; obtain ⟨_, rfl⟩ := h; exact ⟨[c], by simp, by simp⟩
    · cases h
  | c :: e :: r, acc, t, r', h => by
    simp only [litF] at h
    split at h
    · cases h
    · split at h
      · simp only [Option.some.injEq, Prod.mk.injEq] at h; obtain ⟨_, rfl⟩ := h; exact ⟨[c], by simp, by simp⟩
      · split at h
        · split at h
          · obtain ⟨u, hu, _⟩ := lit_suf r _ _ _ h
            exact ⟨c :: e :: u, by rw [hu]; simp, by simp⟩
          · cases h
        · obtain ⟨u, hu, _⟩ := lit_suf (e :: r) _ _ _ h
          exact ⟨c :: u, by rw [hu]; simp, by simp⟩
theorem mkF_le {r : List UInt8} {k : Nat} (h : mkF r = some k) : 1 ≤ k ∧ k ≤ 2 ∧ k ≤ r.length ∧ isMk (r.take k) = true := by
  unfold mkF at h
  split at h
  · rename_i h1; simp only [Option.some.injEq] at h; subst h; exact ⟨by omega, by omega, h1.1, h1.2⟩
  · split at h
    · rename_i h1; simp only [Option.some.injEq] at h; subst h; exact ⟨by omega, by omega, h1.1, h1.2⟩
    · cases h
theorem isWd_let {c : UInt8} (h : isLet c = true) : isWd c = true := by simp [isWd, h]
theorem isWd_dg {c : UInt8} (h : isDg c = true) : isWd c = true := by simp [isWd, h]
/-- a token takes at least one byte off -/
theorem tok_suf {r : List UInt8} {t : Tk} {r' : List UInt8} (h : tokF r = .ok (t, r')) : ∃ u, r = u ++ r' ∧ u ≠ [] := by
  cases r with
  | nil => simp [tokF] at h
  | cons c r =>
    simp only [tokF] at h
    split at h
    · rename_i hc
      simp only [nameF, Except.ok.injEq, Prod.mk.injEq] at h
      obtain ⟨_, rfl⟩ := h
      refine ⟨(c :: r).takeWhile isWd, (List.takeWhile_append_dropWhile).symm, ?_⟩
      rw [List.takeWhile_cons, if_pos (isWd_let hc)]; simp
    · split at h
      · rename_i hc
        unfold integerF at h
        split at h
        · simp only [Except.ok.injEq, Prod.mk.injEq] at h
          obtain ⟨_, rfl⟩ := h
          refine ⟨(c :: r).takeWhile isWd, (List.takeWhile_append_dropWhile).symm, ?_⟩
          rw [List.takeWhile_cons, if_pos (isWd_dg hc)]; simp
        · cases h
      · split at h
        · unfold textF at h
          split at h
          · rename_i t' r2 hl
            split at h
            · cases h
            · simp only [Except.ok.injEq, Prod.mk.injEq] at h
              obtain ⟨_, rfl⟩ := h
              obtain ⟨u, hu, _⟩ := lit_suf _ _ _ _ hl
              exact ⟨c :: u, by rw [List.tail_cons] at hu; rw [hu]; simp, by simp⟩
          · cases h
        · unfold markF at h
          split at h
          · rename_i k hk
            simp only [Except.ok.injEq, Prod.mk.injEq] at h
            obtain ⟨_, rfl⟩ := h
            obtain ⟨h1, h2, h3, _⟩ := mkF_le hk
            refine ⟨(c :: r).take k, (List.take_append_drop _ _).symm, ?_⟩
            intro e
            have := congrArg List.length e
            simp at this; omega
          · cases h
theorem tok_len {r : List UInt8} {t : Tk} {r' : List UInt8} (h : tokF r = .ok (t, r')) : r'.length < r.length := by
  obtain ⟨u, hu, hne⟩ := tok_suf h
  have h1 := congrArg List.length hu
  have h2 := List.length_pos_iff.2 hne
  rw [List.length_append] at h1
  omega
theorem scanG_fuel (N : Nat) : ∀ (f g : Nat) (r : List UInt8), r.length < f → r.length < g → scanG N f r = scanG N g r
  | 0, _, _, h, _ => by omega
  | _, 0, _, _, h => by omega
  | f + 1, g + 1, r, h1, h2 => by
    have hs := skip_len false r
    unfold scanG
    split
    · rfl
    · split
      · rfl
      · rename_i t r2 ht
        have := tok_len ht
        rw [scanG_fuel N f g r2 (by omega) (by omega)]
/-- the scan of what is left, of a source of N bytes -/
def scanE (N : Nat) (r : List UInt8) : Except (Int × Int) (List Tk) := scanG N (r.length + 1) r
theorem scanE_end (N : Nat) (r : List UInt8) (h : skipM false r = []) : scanE N r = .ok [] := by
  unfold scanE scanG; rw [if_pos h]
theorem scanE_err (N : Nat) (r : List UInt8) (e : Int) (h : tokF (skipM false r) = .error e) (hn : skipM false r ≠ []) : scanE N r = .error (e, ((N - (skipM false r).length : Nat) : Int)) := by
  unfold scanE scanG; rw [if_neg hn, h]
theorem scanE_ok (N : Nat) (r : List UInt8) (t : Tk) (r2 : List UInt8) (h : tokF (skipM false r) = .ok (t, r2)) :
    scanE N r = match scanE N r2 with
      | .error x => .error x
      | .ok l => .ok ({ t with pos := ((N - (skipM false r).length : Nat) : Int) } :: l) := by
  have h1 := tok_len h
  have h2 := skip_len false r
  have hn : skipM false r ≠ [] := by intro e; rw [e] at h1; simp at h1
  unfold scanE
  rw [scanG, if_neg hn, h]
  simp only
  rw [scanG_fuel N r.length (r2.length + 1) r2 (by omega) (by omega)]
end Go.Proofs.YtlfcdfpbgjmcfaaDoor
