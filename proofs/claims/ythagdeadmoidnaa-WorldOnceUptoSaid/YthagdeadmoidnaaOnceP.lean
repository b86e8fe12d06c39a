/- WorldOnce: the plain law. -/
import Derived.Test.YthagdeadmoidnaaWorldL4
import Derived.Test.YthagdeadmoidnaaNetSame
set_option linter.unusedVariables false
namespace Go.Proofs.Ythagdeadmoidnaa
open Go.RowKit
open Go.Lib (hid)
theorem findO_none {l : List Out} {key : List UInt8} (h : findO l key < 0) : ∀ o ∈ l, o.key ≠ key := by
  rcases idxF_bounds (keyP key) l with hx | ⟨k, o, hx, hkl, hok, hp, hpn⟩
  · intro o ho e
    have hm : l.findIdx? (keyP key) = none := by
      rcases hf : l.findIdx? (keyP key) with _ | k
      · rfl
      · have : idxF (keyP key) l = (k : Nat) := by unfold idxF; rw [hf]
        rw [this] at hx; omega
    rw [List.findIdx?_eq_none_iff] at hm
    have := hm o ho
    unfold keyP at this
    simp [e] at this
  · have : findO l key = (k : Nat) := hx
    omega
theorem findO_some {l : List Out} {key : List UInt8} (h : ¬ findO l key < 0) : ∃ k o, findO l key = (k : Nat) ∧ k < l.length ∧ l[k]? = some o ∧ o.key = key := by
  rcases idxF_bounds (keyP key) l with hx | ⟨k, o, hx, hkl, hok, hp, hpn⟩
  · have : findO l key = -1 := hx
    omega
  · exact ⟨k, o, hx, hkl, hok, by unfold keyP at hp; simpa using hp⟩
theorem nodup_set {l : List (List UInt8)} (h : l.Nodup) (k : Nat) (a : List UInt8) (ha : a ∉ l ∨ l[k]? = some a) : (l.set k a).Nodup := by
  rcases ha with ha | ha
  · unfold List.Nodup at *
    rw [List.pairwise_iff_getElem] at h ⊢
    intro i j hi hj hij
    rw [List.length_set] at hi hj
    rw [List.getElem_set, List.getElem_set]
    by_cases h1 : k = i
    · have h2 : ¬ k = j := by omega
      rw [if_pos h1, if_neg h2]
      intro e
      exact ha (e ▸ List.getElem_mem hj)
    · rw [if_neg h1]
      by_cases h2 : k = j
      · rw [if_pos h2]
        intro e
        exact ha (e ▸ List.getElem_mem hi)
      · rw [if_neg h2]; exact h i j hi hj hij
  · have : l.set k a = l := by
      apply List.ext_getElem?
      intro i
      rw [List.getElem?_set]
      by_cases e : k = i
      · subst e
        have := (List.getElem?_eq_some_iff.1 ha).1
        rw [if_pos rfl, if_pos this, ha]
      · rw [if_neg e]
    rw [this]; exact h
structure ForceOk (l : List Out) : Prop where
  nd : (l.map Out.key).Nodup
  len : ∀ o ∈ l, o.key.length ≤ 1048576
theorem ForceOk.nil : ForceOk [] := ⟨List.nodup_nil, fun o h => by simp at h⟩
theorem stepF_force {l : List Out} {c : Cmd} (h : ForceOk l) (hc : c.new.length ≤ 1048576) : ForceOk (stepF l c).2 := by
  unfold stepF
  split
  · split
    · exact .nil
    · exact ⟨List.Sublist.nodup (List.Sublist.map _ (List.eraseIdx_sublist ..)) h.nd, fun o ho => h.len o (List.mem_of_mem_eraseIdx ho)⟩
  · split
    · split
      · exact .nil
      · split
        · exact .nil
        · have e : (l.modify (findO l c.of).toNat (fun o => { o with part := true })).map Out.key = l.map Out.key := by
            apply List.ext_getElem?
            intro i
            rw [List.getElem?_map, List.getElem?_map, List.getElem?_modify]
            cases l[i]? with
            | none => rfl
            | some o => by_cases q : (findO l c.of).toNat = i <;> simp [q]
          refine ⟨by show (List.map Out.key (l.modify _ _)).Nodup; rw [e]; exact h.nd, fun o ho => ?_⟩
          have h1 : o.key ∈ (l.modify (findO l c.of).toNat (fun o => { o with part := true })).map Out.key := List.mem_map.2 ⟨o, ho, rfl⟩
          rw [e] at h1
          obtain ⟨y, hy, hye⟩ := List.mem_map.1 h1
          rw [← hye]; exact h.len y hy
    · split
      · split
        · exact .nil
        · split
          · exact .nil
          · split
            · exact .nil
            · rename_i hof hnew hcl
              obtain ⟨k, o, hk, hkl, hok, hkey⟩ := findO_some hof
              have e : (l.set (findO l c.of).toNat (outOf c)).map Out.key = (l.map Out.key).set k c.new := by
                rw [hk, Int.toNat_natCast, List.map_set]; rfl
              refine ⟨?_, fun x hx => ?_⟩
              · show (List.map Out.key (l.set _ _)).Nodup
                rw [e]
                refine nodup_set h.nd k c.new ?_
                by_cases hn : c.new = c.of
                · right; rw [List.getElem?_map, hok, hn, ← hkey]; rfl
                · left
                  intro hm
                  obtain ⟨y, hy, hye⟩ := List.mem_map.1 hm
                  have : findO l c.new < 0 := Int.not_le.1 (fun h => hcl ⟨hn, h⟩)
                  exact findO_none this y hy hye
              · rcases List.mem_or_eq_of_mem_set hx with hx | hx
                · exact h.len x hx
                · rw [hx]; exact hc
      · split
        · split
          · exact .nil
          · split
            · exact .nil
            · rename_i hcl
              refine ⟨?_, fun x hx => ?_⟩
              · show (List.map Out.key (l ++ [outOf c])).Nodup
                rw [List.map_append, List.nodup_append]
                refine ⟨h.nd, by simp, fun a ha b hb => ?_⟩
                simp at hb
                obtain ⟨y, hy, hye⟩ := List.mem_map.1 ha
                intro e
                exact findO_none (key := c.new) (by omega) y hy (by rw [hye, e, hb]; rfl)
              · rcases List.mem_append.1 hx with hx | hx
                · exact h.len x hx
                · rw [List.mem_singleton.1 hx]; exact hc
        · exact .nil
structure OnceInv (x : WS) (dl : List Cmd) : Prop where
  fold : foldF [] x.log = (0, x.force)
  sub : x.log.Sublist dl
  keys : ∀ c ∈ x.log, c.key ≠ []
  nd : (x.log.map Cmd.key).Nodup
  force : ForceOk x.force
theorem OnceInv.new : OnceInv wNew [] := ⟨rfl, List.Sublist.refl _, fun c h => by simp [wNew] at h, List.nodup_nil, .nil⟩
theorem OnceInv.weaken {x : WS} {dl : List Cmd} (h : OnceInv x dl) (c : Cmd) : OnceInv x (dl ++ [c]) := ⟨h.fold, h.sub.trans (List.sublist_append_left _ _), h.keys, h.nd, h.force⟩
theorem OnceInv.take {x : WS} {dl : List Cmd} (h : OnceInv x dl) (c : Cmd) (hc : c.new.length ≤ 1048576) : OnceInv (takeF x c).2 (dl ++ [c]) := by
  unfold takeF
  split
  · exact h.weaken c
  · rename_i hk
    split
    · exact h.weaken c
    · rename_i h0
      split
      · exact h.weaken c
      · rename_i he
        have he : (stepF x.force c).1 = 0 := by simpa using he
        refine ⟨?_, List.Sublist.append h.sub (List.Sublist.refl _), fun y hy => ?_, ?_, stepF_force h.force hc⟩
        · show foldF [] (x.log ++ [c]) = _
          rw [foldF_append, h.fold, if_pos rfl, foldF_one, if_pos he]
        · rcases List.mem_append.1 hy with hy | hy
          · exact h.keys y hy
          · rw [List.mem_singleton.1 hy]; exact h0
        · show (List.map Cmd.key (x.log ++ [c])).Nodup
          rw [List.map_append, List.nodup_append]
          refine ⟨h.nd, by simp, fun a ha b hb => ?_⟩
          simp at hb
          obtain ⟨y, hy, hye⟩ := List.mem_map.1 ha
          intro e
          exact hk (isKnown_iff.2 ⟨y, hy, by rw [hye, e, hb]⟩)
theorem OnceInv.send {x : WS} {dl : List Cmd} (h : OnceInv x dl) (c : Cmd) (how : Int) (hc : c.new.length ≤ 1048576) : OnceInv (sendF x c how).2 (dl ++ [c]) := by
  unfold sendF
  split
  · exact h.weaken c
  · split
    · exact h.weaken c
    · split
      · exact h.take c hc
      · exact h.take c hc
theorem take_one (x : WS) (c : Cmd) : ((takeF x c).1 = 0 ∨ (takeF x c).1 = 1) ∧ ((takeF x c).1 = 1 → isKnown (takeF x c).2.log c.key = true) := by
  unfold takeF
  split
  · rename_i hk; exact ⟨Or.inr rfl, fun _ => hk⟩
  · split
    · exact ⟨Or.inl rfl, fun h => by simp at h⟩
    · split
      · exact ⟨Or.inl rfl, fun h => by simp at h⟩
      · exact ⟨Or.inr rfl, fun _ => isKnown_iff.2 ⟨c, by simp, rfl⟩⟩
theorem send_one (x : WS) (c : Cmd) (how : Int) : (-1 ≤ (sendF x c how).1 ∧ (sendF x c how).1 ≤ 1) ∧ ((sendF x c how).1 = 1 → isKnown (sendF x c how).2.log c.key = true) := by
  have ht := take_one x c
  unfold sendF
  split
  · exact ⟨by simp, fun h => by simp at h⟩
  · split
    · split
      · rename_i hk; exact ⟨by simp, fun _ => hk⟩
      · exact ⟨by simp, fun h => by simp at h⟩
    · split
      · exact ⟨by simp, fun h => by simp at h⟩
      · exact ⟨by omega, ht.2⟩
theorem known_take {l : List Cmd} (h : (l.map Cmd.key).Nodup) {i : Nat} {c : Cmd} (hc : l[i]? = some c) : isKnown (l.take i) c.key = false := by
  rw [Bool.eq_false_iff]
  intro hk
  obtain ⟨y, hy, hye⟩ := isKnown_iff.1 hk
  obtain ⟨j, hj⟩ := List.mem_iff_getElem?.1 hy
  have hjl := (List.getElem?_eq_some_iff.1 hj).1
  rw [List.length_take] at hjl
  rw [List.getElem?_take_of_lt (by omega)] at hj
  have h1 : (l.map Cmd.key)[j]? = some c.key := by rw [List.getElem?_map, hj]; simp [hye]
  have h2 : (l.map Cmd.key)[i]? = some c.key := by rw [List.getElem?_map, hc]; rfl
  have := (List.getElem?_inj (by simp; omega) h).1 (h1.trans h2.symm)
  omega
/-- the log from i on stands, in order, among the deliveries from p on -/
def SubD (l : List Dlv) (log : List Cmd) (p i : Nat) : Prop := (log.drop i).Sublist ((l.drop p).map Dlv.c)
theorem SubD.next {l : List Dlv} {log : List Cmd} {p i : Nat} (h : SubD l log p i) {c : Cmd} {d : Dlv} (hc : log[i]? = some c) (hd : l[p]? = some d) (hne : d.c ≠ c) : SubD l log (p + 1) i := by
  unfold SubD at *
  have hp := (List.getElem?_eq_some_iff.1 hd).1
  have hi := (List.getElem?_eq_some_iff.1 hc).1
  have e1 : l.drop p = d :: l.drop (p + 1) := by rw [List.drop_eq_getElem_cons hp, (List.getElem?_eq_some_iff.1 hd).2]
  have e2 : log.drop i = c :: log.drop (i + 1) := by rw [List.drop_eq_getElem_cons hi, (List.getElem?_eq_some_iff.1 hc).2]
  rw [e1, List.map_cons] at h
  rw [e2] at h ⊢
  cases h with
  | cons _ h => exact h
  | cons_cons _ h => exact absurd rfl hne
theorem SubD.up {l : List Dlv} {log : List Cmd} {p i : Nat} (h : SubD l log p i) : SubD l log p (i + 1) := by
  unfold SubD at *
  rw [← List.drop_drop]
  exact (List.drop_sublist 1 _).trans h
theorem SubD.lt {l : List Dlv} {log : List Cmd} {p i : Nat} (h : SubD l log p i) (hi : i < log.length) : p < l.length := by
  unfold SubD at h
  rcases Nat.lt_or_ge p l.length with hp | hp
  · exact hp
  · rw [List.drop_eq_nil_of_le hp, List.map_nil, List.sublist_nil, List.drop_eq_nil_iff] at h
    omega
end Go.Proofs.Ythagdeadmoidnaa
