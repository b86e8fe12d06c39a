/- plan, walks: catalog: isName, right, showCost, Find, Can. -/
import Derived.Test.YtfejagpjahoibaaGreatDoorBldF
import Derived.Test.YtfejagpjahoibaaGreatDoorMapS
import Derived.BigQuiet
import Derived.StillTailTactics
set_option linter.unusedVariables false
set_option linter.unusedSimpArgs false
namespace Go.Proofs.YtfejagpjahoibaaGreatDoor
open Go.RowKit
open Go.Lib (hid itoa)
/-- an entry of the catalogue -/
structure Offer where
  name:List UInt8
  «do»:Int
  undo:Int
  due:Int
  part:Int
  amend:Int
abbrev offCs (o:Offer):List Value := [sv o.name, iv o.do, iv o.undo, iv o.due, iv o.part, iv o.amend]
def OffR:Rel Offer := fun _ _ o cs => cs=offCs o
theorem goodOff:Good 6 OffR := ⟨fun h => by rw [h]; rfl, fun h => by rw [h]; intro u hu; simp only [List.mem_cons, List.not_mem_nil, or_false] at hu; rcases hu with rfl | rfl | rfl | rfl | rfl | rfl <;> rfl, fun h _ => h⟩
def nameB (c:UInt8):Bool := decide (c.toNat=95) || (decide (48≤c.toNat) && decide (c.toNat≤57)) || (decide (97≤c.toNat) && decide (c.toNat≤122)) || (decide (65≤c.toNat) && decide (c.toNat≤90))
def nameF:List UInt8→Bool
  | [] => false
  | c::r => decide ((c::r).length≤100) && decide (97≤c.toNat) && decide (c.toNat≤122) && (c::r).all nameB
def ZN (c:UInt8) (b1 b2 b3 b4 b5 b6 b7 r:Bool):Prop := decide ((c.toNat:Int) < 48)=b1∧decide ((57:Int) < (c.toNat:Int))=b2∧decide ((c.toNat:Int) < 97)=b3∧decide ((122:Int) < (c.toNat:Int))=b4 ∧
  decide ((c.toNat:Int) < 65)=b5∧decide ((90:Int) < (c.toNat:Int))=b6∧((c.toNat:Int) == 95)=b7∧nameB c=r
theorem zones (c:UInt8):ZN c true false true false true false false false∨ZN c false false true false true false false true∨ZN c false true true false true false false false∨ZN c false true true false false false false true ∨
    ZN c false true true false false true false false∨ZN c false true true false false true true true∨ZN c false true false false false true false true∨ZN c false true false true false true false false := by
  unfold ZN nameB
  rcases Nat.lt_or_ge c.toNat 48 with h | h
  · exact Or.inl (by simp; omega)
  rcases Nat.lt_or_ge c.toNat 58 with h1 | h1
  · exact Or.inr (Or.inl (by simp; omega))
  rcases Nat.lt_or_ge c.toNat 65 with h2 | h2
  · exact Or.inr (Or.inr (Or.inl (by simp; omega)))
  rcases Nat.lt_or_ge c.toNat 91 with h3 | h3
  · exact Or.inr (Or.inr (Or.inr (Or.inl (by simp; omega))))
  by_cases h4:c.toNat=95
  · exact Or.inr (Or.inr (Or.inr (Or.inr (Or.inr (Or.inl (by simp; omega))))))
  rcases Nat.lt_or_ge c.toNat 97 with h5 | h5
  · exact Or.inr (Or.inr (Or.inr (Or.inr (Or.inl (by simp; omega)))))
  rcases Nat.lt_or_ge c.toNat 123 with h6 | h6
  · exact Or.inr (Or.inr (Or.inr (Or.inr (Or.inr (Or.inr (Or.inl (by simp; omega)))))))
  · exact Or.inr (Or.inr (Or.inr (Or.inr (Or.inr (Or.inr (Or.inr (by simp; omega)))))))
theorem all_succ45 {s:List UInt8} {k:Nat} {c:UInt8} (hc:s[k]? = some c) (p:UInt8→Bool):(s.take (k+1)).all p=((s.take k).all p && p c) := by
  rw [List.take_add_one, hc]
  simp [List.all_append]
theorem all_false45 {s:List UInt8} {k:Nat} {c:UInt8} (hc:s[k]? = some c) {p:UInt8→Bool} (h:p c=false):s.all p=false := by
  rw [List.all_eq_false]
  exact ⟨c, List.mem_of_getElem? hc, by rw [h]; simp⟩
set_option maxHeartbeats 4000000 in
set_option maxRecDepth 100000 in
theorem cname_loop (c0:UInt8) (r0:List UInt8) (w:World) (hs:(c0::r0).length≤100) (h0:97≤c0.toNat) (h1:c0.toNat≤122):Calls Tryz.prog 80 #[sv (c0::r0)] w fun e w' => e=.returned (.bool ((c0::r0).all nameB))∧w'=w := by
  have d1:decide ((c0.toNat:Int) < 97)=false := decide_eq_false (by omega)
  have d2:decide ((122:Int) < (c0.toNat:Int))=false := decide_eq_false (by omega)
  have hx0 := idx_str0 (P := Tryz.prog) 9 (by kernel_rfl) c0 r0
  obtain ⟨s, hsd⟩:∃ s, s=c0::r0 := ⟨_, rfl⟩
  have q0:decide ((s.length:Int) < 1)=false := decide_eq_false (by rw [hsd]; simp; omega)
  have q9:decide ((100:Int) < (s.length:Int))=false := decide_eq_false (by rw [hsd]; omega)
  rw [← hsd] at hs hx0 ⊢
  clear hsd h0 h1
  have hidx := fun k c hc => idx_str (P := Tryz.prog) 9 (by kernel_rfl) s k c hc
  replace hidx := hid hidx
  obtain ⟨res, hres⟩:∃ res, res=s.all nameB := ⟨_, rfl⟩
  rw [← hres]
  replace hres := hid hres
  go_enter Tryz.func80, Tryz.ntmps80
  go_wp2_with fail
  go_loop [25] (fun i => ∃ k:Nat, i=.int .i64 k∧k≤s.length∧Hid ((s.take k).all nameB=true)) (fun i => s.length - (intOf i).toNat)
  case atStart => exact ⟨0, rfl, Nat.zero_le _, hid rfl⟩
  case round =>
    obtain ⟨k, rfl, hk, hall⟩ := hrel
    clear hx0 d1 d2 q0 q9
    by_cases hlt:k < s.length
    · have q1:decide ((k:Int) < (s.length:Int))=true := decide_eq_true (by omega)
      obtain ⟨d, hd⟩:∃ d, s[k]? = some d := ⟨_, List.getElem?_eq_getElem hlt⟩
      have hix := hidx.out k d hd
      have hst:(s.take (k+1)).all nameB=nameB d := by
        have := all_succ45 hd nameB
        rw [hall.out, Bool.true_and] at this; exact this
      have hfl := fun h => all_false45 hd (p := nameB) h
      replace hd := hid hd
      rcases zones d with z | z | z | z | z | z | z | z
      all_goals obtain ⟨z1, z2, z3, z4, z5, z6, z7, z8⟩ := z
      all_goals first
        | (have y1:¬ ((d.toNat:Int)=95) := by simpa using z7
           have y2:¬ (d.toNat=95) := by omega
           skip)
        | (have y1:((d.toNat:Int)=95) := by simpa using z7
           have y2:(d.toNat=95) := by omega
           have y3:d=95 := UInt8.toNat_inj.1 y2
           subst y3
           skip)
      all_goals replace z8 := hid z8
      all_goals replace hst := hid hst
      all_goals replace hfl := hid hfl
      all_goals go_wp2_with fail
      all_goals first
        | (go_ret; exact ⟨by rw [hres.out, hfl.out z8.out]; rfl, rfl⟩)
        | exact ⟨⟨k+1, by go_num, by omega, hid (hst.out.trans z8.out)⟩, by simp [intOf]; omega⟩
    · have hk2:k=s.length := by omega
      subst hk2
      have q1:decide ((s.length:Int) < (s.length:Int))=false := by simp
      have hv := hall.out
      rw [List.take_length] at hv
      replace hv := hid (hres.out.trans hv)
      clear hall hk hlt
      go_wp2_with fail
      go_ret
      exact ⟨by rw [hv.out]; rfl, rfl⟩
set_option maxHeartbeats 4000000 in
set_option maxRecDepth 100000 in
theorem cname_any (s:List UInt8) (w:World) (hs:s.length≤1048576):Calls Tryz.prog 80 #[sv s] w fun e w' => e=.returned (.bool (nameF s))∧w'=w := by
  rcases s with _ | ⟨c, r⟩
  · show Calls Tryz.prog 80 #[sv []] w fun e w' => e=.returned (.bool false)∧w'=w
    go_enter Tryz.func80, Tryz.ntmps80
    go_wp2_with fail
    go_ret
    exact ⟨rfl, rfl⟩
  · by_cases h1:(c::r).length≤100
    · by_cases h2:97≤c.toNat
      · by_cases h3:c.toNat≤122
        · have e:nameF (c::r)=(c::r).all nameB := by show (decide ((c::r).length≤100) && decide (97≤c.toNat) && decide (c.toNat≤122) && _)=_; rw [decide_eq_true h1, decide_eq_true h2, decide_eq_true h3]; rfl
          rw [e]
          exact cname_loop c r w h1 h2 h3
        · have e:nameF (c::r)=false := by show (decide ((c::r).length≤100) && decide (97≤c.toNat) && decide (c.toNat≤122) && _)=_; rw [decide_eq_false h3]; simp
          rw [e]
          have hx0 := idx_str0 (P := Tryz.prog) 9 (by kernel_rfl) c r
          have q0:decide (((c::r).length:Int) < 1)=false := decide_eq_false (by simp; omega)
          have q9:decide ((100:Int) < ((c::r).length:Int))=false := decide_eq_false (by omega)
          have d1:decide ((c.toNat:Int) < 97)=false := decide_eq_false (by omega)
          have d2:decide ((122:Int) < (c.toNat:Int))=true := decide_eq_true (by omega)
          clear h1 h2 h3 e
          generalize c::r=s at *
          go_enter Tryz.func80, Tryz.ntmps80
          go_wp2_with fail
          go_ret
          exact ⟨rfl, rfl⟩
      · have e:nameF (c::r)=false := by show (decide ((c::r).length≤100) && decide (97≤c.toNat) && decide (c.toNat≤122) && _)=_; rw [decide_eq_false h2]; simp
        rw [e]
        have hx0 := idx_str0 (P := Tryz.prog) 9 (by kernel_rfl) c r
        have q0:decide (((c::r).length:Int) < 1)=false := decide_eq_false (by simp; omega)
        have q9:decide ((100:Int) < ((c::r).length:Int))=false := decide_eq_false (by omega)
        have d1:decide ((c.toNat:Int) < 97)=true := decide_eq_true (by omega)
        clear h1 h2 e
        generalize c::r=s at *
        go_enter Tryz.func80, Tryz.ntmps80
        go_wp2_with fail
        go_ret
        exact ⟨rfl, rfl⟩
    · have e:nameF (c::r)=false := by show (decide ((c::r).length≤100) && decide (97≤c.toNat) && decide (c.toNat≤122) && _)=_; rw [decide_eq_false h1]; simp
      rw [e]
      have q0:decide (((c::r).length:Int) < 1)=false := decide_eq_false (by simp; omega)
      have q9:decide ((100:Int) < ((c::r).length:Int))=true := decide_eq_true (by omega)
      clear h1 e
      generalize c::r=s at *
      go_enter Tryz.func80, Tryz.ntmps80
      go_wp2_with fail
      go_ret
      exact ⟨rfl, rfl⟩
def costB (n:Int):Bool := decide (-1≤n) && decide (n≤1048576)
def costs (o:Offer) (k:Nat):Int := [o.do, o.undo, o.part, o.amend].getD k 0
def rightF (o:Offer):Bool := (List.range 4).all (fun k => costB (costs o k)) && (nameF o.name && decide (0≤o.due) && decide (o.due≤1073741824))
theorem idx4 (a b c d:Int) (o:Offer) (ha:a=o.do) (hb:b=o.undo) (hc:c=o.part) (hd:d=o.amend) (w:World) (k:Nat) (hk:k < 4):(Instr.index 147 (.agg #[iv a, iv b, iv c, iv d]) (.int .i64 (k:Int))).run Tryz.prog w=.ok (iv (costs o k)) w := by
  subst ha hb hc hd
  match k, hk with
  | 0, _ => simp [Instr.index, go_sem, costs]
  | 1, _ => simp [Instr.index, go_sem, costs]
  | 2, _ => simp [Instr.index, go_sem, costs]
  | 3, _ => simp [Instr.index, go_sem, costs]
  | n+4, h => exact absurd h (by omega)
set_option maxHeartbeats 4000000 in
set_option maxRecDepth 100000 in
theorem cright_any (o:Offer) (w:World) (hs:o.name.length≤1048576):Calls Tryz.prog 67 #[.agg (offCs o).toArray] w fun e w' => e=.returned (.bool (rightF o))∧Below w.heap.size w w' := by
  obtain ⟨res, hres⟩:∃ res, res=rightF o := ⟨_, rfl⟩
  rw [← hres]
  have hb:Below w.heap.size w (w.alloc (.cells (offCs o).toArray 45 (0, 0))) := (Below.refl _ w).alloc (Nat.le_refl _) _
  have hix := idx4 o.do o.undo o.part o.amend o rfl rfl rfl rfl
  have hbk := heap_alloc_new' w (.cells (offCs o).toArray 45 (0, 0))
  have c0:(w.alloc (.cells (offCs o).toArray 45 (0, 0))).cell? ⟨w.heap.size, 0, none⟩=some (sv o.name) := (cell_of hbk).trans rfl
  have c3:(w.alloc (.cells (offCs o).toArray 45 (0, 0))).cell? ⟨w.heap.size, 3, none⟩=some (iv o.due) := (cell_of hbk).trans rfl
  have hnm := hid (fun W => cname_any o.name W hs)
  replace hres := hid hres
  replace hix := hid hix
  replace hb := hid hb
  clear hbk
  go_enter Tryz.func67, Tryz.ntmps67
  go_wp2_with fail
  go_loop [14] (fun i => ∃ k:Nat, i=.int .i64 k∧k≤4∧Hid (∀ j, j < k→costB (costs o j)=true)) (fun i => 4 - (intOf i).toNat)
  case atStart => exact ⟨0, rfl, by omega, hid (fun j h => by omega)⟩
  case round =>
    obtain ⟨k, rfl, hk, hall⟩ := hrel
    by_cases hlt:k < 4
    · have q1:decide ((k:Int) < 4)=true := decide_eq_true (by omega)
      have q2:IntKind.i64.wrap ((k:Int)+1)=((k+1:Nat):Int) := by rw [IntKind.wrap_i64]; omega
      have hi := fun W => hix.out W k hlt
      obtain ⟨v, hv⟩:∃ v, v=costs o k := ⟨_, rfl⟩
      rw [← hv] at hi
      have hbad:costB v=false→res=false := fun h => by
        rw [hres.out]; unfold rightF
        rw [show (List.range 4).all (fun k => costB (costs o k))=false from by rw [List.all_eq_false]; exact ⟨k, List.mem_range.2 hlt, by rw [← hv, h]; simp⟩]; rfl
      have hok:costB v=true→∀ j, j < k+1→costB (costs o j)=true := fun h j hj => by
        by_cases e:j=k
        · rw [e, ← hv]; exact h
        · exact hall.out j (by omega)
      replace hv := hid hv
      replace hbad := hid hbad
      replace hok := hid hok
      by_cases h1:v < -1
      · have d1:decide (v < -1)=true := decide_eq_true h1
        have hr := hid (hbad.out (by unfold costB; rw [decide_eq_false (show ¬ -1≤v by omega)]; rfl))
        clear h1 c0 c3
        go_wp2_with fail
        go_ret
        exact ⟨by rw [hr.out]; rfl, hb.out⟩
      · have d1:decide (v < -1)=false := decide_eq_false h1
        by_cases h2:(1048576:Int) < v
        · have d2:decide ((1048576:Int) < v)=true := decide_eq_true h2
          have hr := hid (hbad.out (by unfold costB; rw [decide_eq_false (show ¬ v≤1048576 by omega), Bool.and_false]))
          clear h1 h2 c0 c3
          go_wp2_with fail
          go_ret
          exact ⟨by rw [hr.out]; rfl, hb.out⟩
        · have d2:decide ((1048576:Int) < v)=false := decide_eq_false h2
          have hr := hid (hok.out (by unfold costB; rw [decide_eq_true (show -1≤v by omega), decide_eq_true (show v≤1048576 by omega)]; rfl))
          clear h1 h2 c0 c3
          go_wp2_with fail
          exact ⟨⟨k+1, by go_num, by omega, hr⟩, by simp [intOf]; omega⟩
    · have q1:decide ((k:Int) < 4)=false := decide_eq_false (by omega)
      have hk4:k=4 := by omega
      subst hk4
      obtain ⟨nm, hn⟩:∃ x, x=nameF o.name := ⟨_, rfl⟩
      obtain ⟨du, hd⟩:∃ x, x=o.due := ⟨_, rfl⟩
      have hr:res=(nm && decide (0≤du) && decide (du≤1073741824)) := by
        rw [hres.out, hn, hd]; unfold rightF
        rw [show (List.range 4).all (fun k => costB (costs o k))=true from by rw [List.all_eq_true]; exact fun j hj => hall.out j (List.mem_range.1 hj)]; rfl
      rw [← hn] at hnm
      rw [← hd] at c3
      obtain ⟨b1, d1⟩:∃ b, decide (0≤du)=b := ⟨_, rfl⟩
      obtain ⟨b2, d2⟩:∃ b, decide (du≤1073741824)=b := ⟨_, rfl⟩
      rw [d1, d2] at hr
      replace hn := hid hn
      replace hd := hid hd
      clear hall hk hlt
      cases nm <;> cases b1 <;> cases b2 <;> replace hr := hid hr
      all_goals go_wp2_with (go_at_call 80; refine (hnm.out _).mono ?_; rintro e w1 ⟨rfl, rfl⟩)
      all_goals go_ret
      all_goals exact ⟨by rw [hr.out]; rfl, hb.out⟩
def costF (n:Int):List UInt8 := if n = -1 then [45] else itoa n
set_option maxRecDepth 100000 in
theorem showCost_any (n:Int) (w:World) (h0:-9223372036854775808≤n) (h1:n≤9223372036854775807) (ht:Hid (Tab w)):Calls Tryz.prog 68 #[iv n] w fun e w' => e=.returned (sv (costF n))∧Below w.heap.size w w' := by
  by_cases h:n = -1
  · subst h
    rw [show costF (-1)=[45] from rfl]
    go_enter Tryz.func68, Tryz.ntmps68
    go_wp2_with fail
    go_ret
    exact ⟨rfl, Below.refl _ _⟩
  · have e:costF n=itoa n := if_neg h
    rw [e]
    have q:(n == -1)=false := by simpa using h
    have hc := hid (ntext_any n w h0 h1 ht)
    replace ht := hid ht
    go_enter Tryz.func68, Tryz.ntmps68
    go_wp2_with (go_at_call 61; refine hc.out.mono ?_; rintro e w1 ⟨rfl, hb⟩)
    go_ret
    exact ⟨rfl, hb⟩
end Go.Proofs.YtfejagpjahoibaaGreatDoor
