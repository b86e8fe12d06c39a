/- PlD: PlW, PlD, in one text. -/
import Derived.Test.YtfejagpjahoibaaGreatDoorPlC
import Derived.Deep.RegionHeld3
import Derived.Deep.LoopGhost
import Derived.Lib.ItoaLen
import Derived.BigRegion
import Derived.Test.YtfejagpjahoibaaGreatDoorPlP
set_option linter.unusedVariables false
set_option linter.unusedSimpArgs false
namespace Go.Proofs.YtfejagpjahoibaaGreatDoor
open Go.RowKit
open Go.Lib (hid itoa)
section
variable {P:Program} {ops:Array Oper} {Q:Exit→Act→World→Prop} {md:Region.Mode} {S:World→Prop} {i:Nat} {fuel:Nat} {listed:Array Bool} {a:Act} {w:World} {x1:Option Tmp} {x2:Op} {x3:TypeId} {x4:String} {x5:Array Edge} {x6:Option (Nat × Bool)}
/-- one operation of a region taken -/
theorem wTk {v:Value} (hi:ops[i]? = some ⟨x1, x2, x3, x4, x5, x6⟩) (hy:∀ w, S w→(execOp a.eval ⟨x1, x2, x3, x4, x5, x6⟩).run P w=.ok (.value v) w) (h:wpAnyH P md ops Q S fuel (listed.setIfInBounds i true) (a.put x1 v) w)
    (hw:Region.wanted ⟨x1, x2, x3, x4, x5, x6⟩ (yielded ops a.tmps)=true := by rfl) (hS:S w := by assumption) (hQ:∀ c a w, Q (.panic c) (a.put x1 v) w→Q (.panic c) a w := by exact fun _ _ _ h => h)
    (hs:Region.noSelect ops=true := by as_aux_lemma => kernel_rfl) (hf:Region.free md ops listed i=true := by as_aux_lemma => kernel_rfl) (hr:(Region.ready md ops listed).contains i=true := by as_aux_lemma => kernel_rfl):wpAnyH P md ops Q S (fuel+1) listed a w :=
  wpAnyH_take hi hs hf hr hQ (Or.inl ⟨hw, hy⟩) hS h
theorem rdC {rs:List Nat} (ho:ops[i]? = some ⟨x1, x2, x3, x4, x5, x6⟩) (h:∀ (K':Act→World→Prop), Shut (∀ (a:Act) (w:World), S w→(S w→wpAnyH P md ops Q S fuel (listed.setIfInBounds i true) a w)→K' a w)→if Region.wanted ⟨x1, x2, x3, x4, x5, x6⟩ (yielded ops a.tmps)=true then Oper.wp P ⟨x1, x2, x3, x4, x5, x6⟩ a w K' Q else K' (a.put x1 undef) w)
    (hs:AllReadyH P md ops Q S fuel listed a w rs):AllReadyH P md ops Q S fuel listed a w (i::rs) := AllReadyH.cons ho h hs
theorem rdY (ho:ops[i]? = some ⟨x1, x2, x3, x4, x5, x6⟩) (h:∀ (K':Act→World→Prop), Shut (∀ (a:Act) (w:World), S w→(S w→wpAnyH P md ops Q S fuel (listed.setIfInBounds i true) a w)→K' a w)→if Region.wanted ⟨x1, x2, x3, x4, x5, x6⟩ (yielded ops a.tmps)=true then Oper.wp P ⟨x1, x2, x3, x4, x5, x6⟩ a w K' Q else K' (a.put x1 undef) w) :
    AllReadyH P md ops Q S fuel listed a w [i] := AllReadyH.cons ho h AllReadyH.nil
end
theorem sI {α:Type} (l:List α) (i:Nat) (a:α):l.toArray.setIfInBounds i a=(l.set i a).toArray := List.setIfInBounds_toArray ..
theorem sZ {α:Type} {x:α} {xs:List α} {a:α}:(x::xs).set 0 a=a::xs := List.set_cons_zero
theorem sS {α:Type} {x:α} {xs:List α} {i:Nat} {a:α}:(x::xs).set (i+1) a=x::xs.set i a := List.set_cons_succ
theorem costF_len (n:Int) (h0:-9223372036854775808≤n) (h1:n≤9223372036854775807):(costF n).length≤21 := by
  unfold costF
  split
  · decide
  · exact Lib.itoa_length_le n h0 h1
/-- what the builder may write: all new blocks but the map and the entry's copy -/
def GW (B mb ob:Nat):Foot := fun k => B≤k∧k≠mb∧k≠ob
/-- Write's memory: the builder (n bytes), the names, the entry's copy -/
structure WO (w0:World) (bb mb ob:Nat) (n:Nat) (S:List (List UInt8)) (w:World):Prop where
  bld:∃ t, t.length=n∧BldF (GW w0.heap.size mb ob) bb t w
  set:SetM mb S w
  bel:Below w0.heap.size w0 w
  fb:w0.heap.size≤bb∧bb < w.heap.size∧bb≠mb∧bb≠ob
  fm:w0.heap.size≤mb
  fo:ob < w.heap.size
  ty:w0.heap.size≤ob→∀ cur, w.heap[ob]?≠some (.cells cur 5 (0, 0))
theorem map_ty {b:Nat} {S:List (List UInt8)} {w:World} (h:SetM b S w) (cur:Array Value):w.heap[b]?≠some (.cells cur 5 (0, 0)) := by
  obtain ⟨m, h1, -⟩ := h
  obtain ⟨es, clock, h2⟩ := h1.v.obj
  rw [h2]; intro e; cases e
theorem WO.below {w0:World} {bb mb ob n:Nat} {S:List (List UInt8)} {w w':World} (h:WO w0 bb mb ob n S w) (hb:Below w.heap.size w w'):WO w0 bb mb ob n S w' := by
  obtain ⟨t, h1, h2⟩ := h.bld
  exact ⟨⟨t, h1, h2.below hb⟩, h.set.below hb, h.bel.trans (hb.mono h.bel.size), ⟨h.fb.1, Nat.lt_of_lt_of_le h.fb.2.1 hb.size, h.fb.2.2⟩, h.fm, Nat.lt_of_lt_of_le h.fo hb.size, fun ho cur => by rw [hb.block ob h.fo]; exact h.ty ho cur⟩
theorem WO.grown {w0:World} {bb mb ob n:Nat} {S S':List (List UInt8)} {w w':World} (h:WO w0 bb mb ob n S w) (hs:SetM mb S' w') (hg:w.grownBy w' (some mb)) (hom:ob≠mb∨ob < w0.heap.size):WO w0 bb mb ob n S' w' := by
  obtain ⟨t, h1, h2⟩ := h.bld
  have hf:Fr (fun k => k=mb) w w' := (Fr.refl (fun k => k=mb) w).grown hg (fun k hk => Or.inl (by injection hk with hk; exact hk.symm))
  have hbel := h.bel.size
  refine ⟨⟨t, h1, h2.fr hf fun k _ hk e => hk.2.1 e⟩, hs, h.bel.trans (hf.to_below hbel fun k hk e => by have := h.fm; omega), ⟨h.fb.1, Nat.lt_of_lt_of_le h.fb.2.1 hf.size, h.fb.2.2⟩, h.fm, Nat.lt_of_lt_of_le h.fo hf.size, fun ho cur => ?_⟩
  rw [hf.block ob h.fo (by rcases hom with e | e <;> omega)]; exact h.ty ho cur
/-- another block is left out -/
theorem WO.turn {w0:World} {bb mb ob n:Nat} {S:List (List UInt8)} {w w':World} (h:WO w0 bb mb ob n S w) (hb:Below w.heap.size w w') {ob':Nat} (ho:w.heap.size≤ob'∧ob' < w'.heap.size) (hty:∀ cur, w'.heap[ob']?≠some (.cells cur 5 (0, 0))) (hobt:True) (hall:∃ t, t.length=n∧BldF (fun k => w0.heap.size≤k∧k≠mb) bb t w):WO w0 bb mb ob' n S w' := by
  obtain ⟨t, h1, h2⟩ := hall
  have h3 := h.fb
  have h4 := h.bel.size
  refine ⟨⟨t, h1, (h2.mono (H := GW w0.heap.size mb ob') fun k hk hg => ⟨hg.1, hg.2, by omega⟩).below hb⟩, h.set.below hb, h.bel.trans (hb.mono h.bel.size), ⟨h.fb.1, Nat.lt_of_lt_of_le h.fb.2.1 hb.size, h.fb.2.2.1, by omega⟩, h.fm, ho.2, fun _ => hty⟩
theorem WO.wide {w0:World} {bb mb ob n:Nat} {S:List (List UInt8)} {w:World} (h:WO w0 bb mb ob n S w):∃ t, t.length=n∧BldF (fun k => w0.heap.size≤k∧k≠mb) bb t w := by
  obtain ⟨t, h1, h2⟩ := h.bld
  exact ⟨t, h1, h2.mono fun k _ hk => ⟨hk.1, hk.2.1⟩⟩
/-- WriteString of any string -/
theorem WO.write {w0:World} {bb mb ob n:Nat} {S:List (List UInt8)} {w:World} (h:WO w0 bb mb ob n S w) (b:ByteArray) (hb:n+b.size≤140737488355328) :
    Calls Tryz.prog 60 #[pt bb, .string b] w fun e w' => (∃ v, e=.returned v)∧WO w0 bb mb ob (n+b.size) S w'∧Fr (GW w0.heap.size mb ob) w w' := by
  obtain ⟨t, h1, h2⟩ := h.bld
  obtain ⟨s, rfl⟩:∃ s:List UInt8, b=⟨s.toArray⟩ := ⟨b.data.toList, by cases b; simp⟩
  have hsz:(ByteArray.mk s.toArray).size=s.length := by rw [ByteArray.size_mk', List.size_toArray]
  rw [hsz] at hb ⊢
  have hbb := h.fb
  have hmb := h.fm
  have hob := h.fo
  have hml := h.set.lt
  refine (bldF_write _ w0.heap.size bb t s w h2 (fun k hk => ⟨by have := h.bel.size; omega, by omega, by omega⟩) (fun k hk => hk.1) (fun k hk hk2 hn cur => ?_) h.bel.size (by omega)).mono ?_
  · by_cases e:k=mb
    · subst e; exact map_ty h.set cur
    · by_cases e2:k=ob
      · subst e2; exact h.ty hk cur
      · exact absurd ⟨hk, e, e2⟩ hn
  · rintro e w' ⟨rfl, k1, k2⟩
    have hfb:Below w0.heap.size w w' := k2.to_below h.bel.size fun k hk hg => by have := hg.1; omega
    exact ⟨⟨_, rfl⟩, ⟨⟨_, by rw [List.length_append, h1], k1⟩, h.set.same (k2.block mb hml (fun hg => hg.2.1 rfl)), h.bel.trans hfb, ⟨hbb.1, Nat.lt_of_lt_of_le hbb.2.1 k2.size, hbb.2.2⟩, hmb, Nat.lt_of_lt_of_le hob k2.size, fun ho cur => by rw [k2.block ob hob (fun hg => hg.2.2 rfl)]; exact h.ty ho cur⟩, k2⟩
/-- the entry's copy in its block -/
def OC (ob:Nat) (o:Offer) (w:World):Prop := w.heap[ob]? = some (.cells (offCs o).toArray 45 (0, 0))
theorem OC.cells {ob:Nat} {o:Offer} {w:World} (h:OC ob o w):w.cell? ⟨ob, 0, none⟩=some (sv o.name)∧w.cell? ⟨ob, 1, none⟩=some (iv o.do)∧w.cell? ⟨ob, 2, none⟩=some (iv o.undo)∧w.cell? ⟨ob, 3, none⟩=some (iv o.due)∧w.cell? ⟨ob, 4, none⟩=some (iv o.part)∧w.cell? ⟨ob, 5, none⟩=some (iv o.amend) :=
  ⟨(cell_of h).trans rfl, (cell_of h).trans rfl, (cell_of h).trans rfl, (cell_of h).trans rfl, (cell_of h).trans rfl, (cell_of h).trans rfl⟩
theorem OC.below {ob:Nat} {o:Offer} {w w':World} (h:OC ob o w) (hb:Below w.heap.size w w'):OC ob o w' := (hb.block ob (lt_of_heap h)).trans h
theorem OC.fr {ob B mb:Nat} {o:Offer} {w w':World} (h:OC ob o w) (hb:Fr (GW B mb ob) w w'):OC ob o w' := (hb.block ob (lt_of_heap h) (fun hg => hg.2.2 rfl)).trans h
/-- a catalogue that Write formats -/
def CatOk (l:List Offer):Prop := l.length≤256∧(∀ o∈l, rightF o=true)∧(l.map Offer.name).Nodup
theorem right_parts {o:Offer} (h:rightF o=true):(-1≤o.do∧o.do≤1048576)∧(-1≤o.undo∧o.undo≤1048576)∧(-1≤o.part∧o.part≤1048576)∧(-1≤o.amend∧o.amend≤1048576)∧nameF o.name=true∧0≤o.due∧o.due≤1073741824 := by
  unfold rightF at h
  rw [Bool.and_eq_true, List.all_eq_true, Bool.and_eq_true, Bool.and_eq_true, decide_eq_true_eq, decide_eq_true_eq] at h
  have key:∀ k, k < 4→-1≤costs o k∧costs o k≤1048576 := fun k hk => by
    have := h.1 k (List.mem_range.2 hk)
    unfold costB at this
    rw [Bool.and_eq_true, decide_eq_true_eq, decide_eq_true_eq] at this
    exact this
  exact ⟨key 0 (by omega), key 1 (by omega), key 2 (by omega), key 3 (by omega), h.2.1.1, h.2.1.2, h.2.2⟩
theorem name_len {s:List UInt8} (h:nameF s=true):0 < s.length∧s.length≤100 := by
  cases s with
  | nil => cases h
  | cons c r =>
    have h:(decide ((c::r).length≤100) && decide (97≤c.toNat) && decide (c.toNat≤122) && (c::r).all nameB)=true := h
    rw [Bool.and_eq_true, Bool.and_eq_true, Bool.and_eq_true, decide_eq_true_eq] at h
    exact ⟨by simp, h.1.1.1⟩
def CW (l:List Offer) (w:World) (e:Ending) (w':World):Prop := ∃ t:List UInt8, e=.returned (sv t)∧(CatOk l→l≠[]→t≠[])∧(¬ CatOk l→t=[])∧Below w.heap.size w w'
theorem OC.grown {ob mb:Nat} {o:Offer} {w w':World} (h:OC ob o w) (hg:w.grownBy w' (some mb)) (hne:ob≠mb):OC ob o w' :=
  (hg.block ob (lt_of_heap h) (fun e => hne (by have := Option.some.inj e; omega))).trans h
theorem take_name {l:List Offer} {i:Nat} {x:Offer} (hx:l[i]? = some x):(l.take (i+1)).map Offer.name=(l.take i).map Offer.name++[x.name] := by
  rw [List.take_add_one, hx]; simp
theorem take_rev {l:List Offer} {i:Nat} {x y:Offer} (hx:l[i]? = some x) (he:x=y):y.name::((l.take i).map Offer.name).reverse=((l.take (i+1)).map Offer.name).reverse := by
  subst he
  rw [take_name hx, List.reverse_append]; rfl
/-- the copy is let go -/
theorem WO.back {w0:World} {bb mb ob n:Nat} {S:List (List UInt8)} {w:World} (h:WO w0 bb mb ob n S w):WO w0 bb mb mb n S w := by
  obtain ⟨t, h1, h2⟩ := h.bld
  exact ⟨⟨t, h1, h2.mono fun k _ hk => ⟨hk.1, hk.2.1, hk.2.1⟩⟩, h.set, h.bel, ⟨h.fb.1, h.fb.2.1, h.fb.2.2.1, h.fb.2.2.1⟩, h.fm, h.set.lt, fun _ cur => map_ty h.set cur⟩
theorem dup_bad {l:List Offer} {i:Nat} {x y:Offer} (hx:l[i]? = some x) (he:x=y) (hd:y.name∈((l.take i).map Offer.name).reverse):¬ (l.map Offer.name).Nodup := by
  subst he
  intro hn
  have h1:((l.take (i+1)).map Offer.name).Nodup := by
    rw [List.map_take]
    exact hn.sublist (List.take_sublist _ _)
  rw [take_name hx, List.nodup_append] at h1
  exact h1.2.2 _ (List.mem_reverse.1 hd) _ (List.mem_singleton.2 rfl) rfl
theorem good_next {l:List Offer} {i:Nat} {x y:Offer} (h1:∀ o∈l.take i, rightF o=true) (h2:((l.take i).map Offer.name).Nodup) (hx:l[i]? = some x) (he:x=y) (hr:rightF y=true) (hd:y.name ∉ ((l.take i).map Offer.name).reverse):(∀ o∈l.take (i+1), rightF o=true)∧((l.take (i+1)).map Offer.name).Nodup := by
  subst he
  refine ⟨fun o ho => ?_, ?_⟩
  · rw [List.take_add_one, hx] at ho
    rcases List.mem_append.1 ho with h | h
    · exact h1 o h
    · simp at h; rw [h]; exact hr
  · rw [take_name hx, List.nodup_append]
    refine ⟨h2, by simp, fun a ha b hb e => ?_⟩
    rw [List.mem_singleton] at hb
    subst hb
    subst e
    exact hd (List.mem_reverse.2 ha)
set_option maxHeartbeats 40000000 in
set_option maxRecDepth 100000 in
theorem cwrite_any (l:List Offer) (S:Foot) (v:Value) (w:World) (hl:l.length≤1048576) (hn:∀ o∈l, o.name.length≤1048576∧∀ z∈[o.do, o.undo, o.due, o.part, o.amend], -9223372036854775808≤z∧z≤9223372036854775807) (hr:SlR 6 OffR S w l v) (ht:Hid (Tab w)) :
    Calls Tryz.prog 41 #[v] w (CW l w) := by
  obtain ⟨a, c, rfl, -⟩ := hr.slice
  by_cases hlen:256 < l.length
  · have q:decide ((256:Int) < (l.length:Int))=true := decide_eq_true (by omega)
    have hpost:CW l w (.returned (sv [])) w := ⟨[], rfl, fun h => by have := h.1; omega, fun _ => rfl, Below.refl _ _⟩
    replace hpost := hid hpost
    clear hlen
    go_enter Tryz.func41, Tryz.ntmps41
    go_wp2_with fail
    go_ret
    exact hpost.out
  have q0:decide ((256:Int) < (l.length:Int))=false := decide_eq_false (by omega)
  have hb1:Below w.heap.size w (w.alloc (.cells #[.pointer none, .slice none 0 0] 83)) := (Below.refl _ w).alloc (Nat.le_refl _) _
  have hbl1 := BldF.new (fun k => w.heap.size≤k) w (Nat.le_refl _)
  have hs1:(w.alloc (.cells #[.pointer none, .slice none 0 0] 83)).heap.size=w.heap.size+1 := by simp
  generalize hW1:w.alloc (.cells #[.pointer none, .slice none 0 0] 83)=W1 at hb1 hbl1 hs1
  have hb2:Below W1.heap.size W1 (W1.alloc (.map #[] 0)) := (Below.refl _ W1).alloc (Nat.le_refl _) _
  have hset := SetM.made W1
  have hs2:(W1.alloc (.map #[] 0)).heap.size=W1.heap.size+1 := by simp
  have hmm:(Instr.makeMap 94 none).run Tryz.prog W1=.ok (.map (some W1.heap.size)) (W1.alloc (.map #[] 0)) := run_makeMap _ _
  generalize hW2:W1.alloc (.map #[] 0)=W2 at hb2 hset hs2 hmm
  obtain ⟨bb, hbb⟩:∃ x, x=w.heap.size := ⟨_, rfl⟩
  obtain ⟨mb, hmb⟩:∃ x, x=W1.heap.size := ⟨_, rfl⟩
  have hM:WO w bb mb mb 0 [] W2 := ⟨⟨[], rfl, by rw [hbb, hmb]; exact (hbl1.mono fun k hk hg => ⟨hg, by omega, by omega⟩).below hb2⟩, hmb ▸ hset, hb1.trans (hb2.mono (by omega)), ⟨by omega, by omega, by omega, by omega⟩, by omega, by omega, fun _ cur => by rw [hmb]; exact map_ty hset cur⟩
  rw [← hmb] at hmm
  replace hM := hid hM
  replace hr := hid hr
  have hnl := hid hn
  clear hn hbl1 hset hb1 hb2
  subst hW1
  replace hbb := hid hbb
  replace hmb := hid hmb
  replace hW2 := hid hW2
  go_enter Tryz.func41, Tryz.ntmps41
  go_wp2_with fail
  clear q0 hs1 hs2 hmm
  go_loopg [13] l.length (fun f v13 wr => ∃ (i k:Nat), v13=iv i∧i+f=l.length∧Hid ((∀ o∈l.take i, rightF o=true)∧((l.take i).map Offer.name).Nodup)∧Hid (WO w bb mb mb k ((l.take i).map Offer.name).reverse wr)∧Hid (k≤i * 1000∧(0 < i→0 < k)))
  case atStart => exact ⟨0, 0, rfl, by omega, hid ⟨fun o ho => by simp at ho, by simp⟩, hM, hid ⟨by omega, by omega⟩⟩
  case round =>
    obtain ⟨i, k, rfl, hif, hgood, hO, hk⟩ := hrel
    clear hM
    by_cases hin:i < l.length
    · have q1:decide ((i:Int) < (l.length:Int))=true := decide_eq_true (by omega)
      have q1':decide (i < l.length)=true := decide_eq_true hin
      obtain ⟨x, hx⟩:∃ x, l[i]? = some x := ⟨_, List.getElem?_eq_getElem hin⟩
      have hxm := List.mem_of_getElem? hx
      obtain ⟨hxl, hxz⟩ := hnl.out x hxm
      obtain ⟨g, o, cs, hidx, hS, hg, hc, hR⟩ := (hr.out.below goodOff (hO.out.bel)).at (P := Tryz.prog) (t := 22) (by kernel_rfl) (fun _ => by kernel_rfl) hx
      have hcs:cs=offCs x := hR
      subst hcs
      have c0 := hc 0 _ rfl
      have c1 := hc 1 _ rfl
      have c2 := hc 2 _ rfl
      have c3 := hc 3 _ rfl
      have c4 := hc 4 _ rfl
      have c5 := hc 5 _ rfl
      rw [Nat.add_zero] at c0
      obtain ⟨nm, hnm⟩:∃ y, y=x.name := ⟨_, rfl⟩
      obtain ⟨y1, hy1⟩:∃ y, y=x.do := ⟨_, rfl⟩
      obtain ⟨y2, hy2⟩:∃ y, y=x.undo := ⟨_, rfl⟩
      obtain ⟨y3, hy3⟩:∃ y, y=x.due := ⟨_, rfl⟩
      obtain ⟨y4, hy4⟩:∃ y, y=x.part := ⟨_, rfl⟩
      obtain ⟨y5, hy5⟩:∃ y, y=x.amend := ⟨_, rfl⟩
      have hxe:x=⟨nm, y1, y2, y3, y4, y5⟩ := by rw [hnm, hy1, hy2, hy3, hy4, hy5]
      rw [← hnm] at c0 hxl
      rw [← hy1] at c1
      rw [← hy2] at c2
      rw [← hy3] at c3
      rw [← hy4] at c4
      rw [← hy5] at c5
      obtain ⟨W3, hW3⟩:∃ W, W=wr.alloc (.cells #[sv nm, iv y1, iv y2, iv y3, iv y4, iv y5] 45 (0, 0)) := ⟨_, rfl⟩
      have hb3:Below wr.heap.size wr W3 := by rw [hW3]; exact (Below.refl _ wr).alloc (Nat.le_refl _) _
      obtain ⟨ob, hob⟩:∃ q, q=wr.heap.size := ⟨_, rfl⟩
      have hC3:OC ob ⟨nm, y1, y2, y3, y4, y5⟩ W3 := by rw [hob, hW3]; exact heap_alloc_new' wr _
      have hO3:WO w bb mb ob k ((l.take i).map Offer.name).reverse W3 := hO.out.turn hb3 ⟨by omega, by have := lt_of_heap hC3; exact this⟩ (fun cur e => by rw [hC3] at e; cases e) trivial hO.out.wide
      have hright := cright_any ⟨nm, y1, y2, y3, y4, y5⟩ W3 hxl
      obtain ⟨rt, hrt⟩:∃ r, r=rightF ⟨nm, y1, y2, y3, y4, y5⟩ := ⟨_, rfl⟩
      rw [← hrt] at hright
      have hbel3 := hid hO3.bel
      have hom := hid (show ob≠mb by have := hO.out.set.lt; omega)
      replace hright := hid hright
      replace hC3 := hid hC3
      replace hO3 := hid hO3
      have hbad:rt=false→¬ CatOk l := fun h hc => by
        have := hc.2.1 x hxm
        rw [hxe, ← hrt, h] at this; cases this
      replace hbad := hid hbad
      have hbelw := hid hO.out.bel
      have hszw := hid (show W3.heap.size=wr.heap.size+1 by rw [hW3]; simp)
      replace hrt := hid hrt
      replace hb3 := hid hb3
      replace hW3 := hid hW3
      have hxe' := hid hxe
      have hxm' := hid hxm
      have hx' := hid hx
      clear hc hR hS hg hxe hxm hx hO hnm hy1 hy2 hy3 hy4 hy5
      replace hob := hid hob
      go_wp2_with fail
      rw [← hob.out, ← hW3.out]
      refine hright.out.mono ?_
      rintro e W4 ⟨rfl, hb4⟩
      have hO4 := hid (hO3.out.below hb4)
      have hC4 := hid (hC3.out.below hb4)
      have hbel4 := hid (hbel3.out.trans (hb4.mono hbel3.out.size))
      obtain ⟨e0, e1, e2, e3, e4, e5⟩ := hC4.out.cells
      clear hC3 hO3 hright hb4 c0 c1 c2 c3 c4 c5
      cases rt with
      | false =>
        have hnc := hid (hbad.out rfl)
        go_wp2_with fail
        go_ret
        exact ⟨[], rfl, fun h => absurd h hnc.out, fun _ => rfl, hbel4.out⟩
      | true =>
        obtain ⟨hrd, hru, hrp, hra, hrn, hre0, hre1⟩ := right_parts hrt.out.symm
        replace hrd:-1≤y1∧y1≤1048576 := hrd
        replace hru:-1≤y2∧y2≤1048576 := hru
        replace hrp:-1≤y4∧y4≤1048576 := hrp
        replace hra:-1≤y5∧y5≤1048576 := hra
        have hnl := (name_len hrn).2
        replace hnl:nm.length≤100 := hnl
        replace hre0:0≤y3 := hre0
        replace hre1:y3≤1073741824 := hre1
        have hlk := hO4.out.set.look (s := nm) (by omega)
        by_cases hdup:nm∈((l.take i).map Offer.name).reverse
        · rw [decide_eq_true hdup] at hlk
          have hnc:Hid (¬ CatOk l) := hid (fun hc => dup_bad hx'.out hxe'.out hdup hc.2.2)
          clear hdup
          go_wp2_with fail
          go_ret
          exact ⟨[], rfl, fun h => absurd h hnc.out, fun _ => rfl, hbel4.out⟩
        · rw [decide_eq_false hdup] at hlk
          have hgood2 := hid (good_next hgood.out.1 hgood.out.2 hx'.out hxe'.out hrt.out.symm hdup)
          obtain ⟨W5, hup, hset5, hg5⟩ := hO4.out.set.put (s := nm) (by omega) (by rw [List.length_reverse, List.length_map, List.length_take]; omega)
          have hO5 := hid (hO4.out.grown hset5 hg5 (Or.inl hom.out))
          have hC5 := hid (OC.grown hC4.out hg5 hom.out)
          clear hdup hset5 hg5
          go_wp2_with fail
          clear e0 e1 e2 e3 e4 e5 hlk hup
          obtain ⟨A1, hA1⟩:∃ A, A=costF y1 := ⟨_, rfl⟩
          obtain ⟨A2, hA2⟩:∃ A, A=costF y2 := ⟨_, rfl⟩
          obtain ⟨A4, hA4⟩:∃ A, A=costF y4 := ⟨_, rfl⟩
          obtain ⟨A5, hA5⟩:∃ A, A=costF y5 := ⟨_, rfl⟩
          obtain ⟨A3, hA3⟩:∃ A, A=itoa y3 := ⟨_, rfl⟩
          have hc1 := hid (fun W hW => showCost_any y1 W (by omega) (by omega) hW)
          have hc2 := hid (fun W hW => showCost_any y2 W (by omega) (by omega) hW)
          have hc4 := hid (fun W hW => showCost_any y4 W (by omega) (by omega) hW)
          have hc5 := hid (fun W hW => showCost_any y5 W (by omega) (by omega) hW)
          have hc3 := hid (fun W hW => ntext_any y3 W (by omega) (by omega) hW)
          have l1 := costF_len y1 (by omega) (by omega)
          have l2 := costF_len y2 (by omega) (by omega)
          have l4 := costF_len y4 (by omega) (by omega)
          have l5 := costF_len y5 (by omega) (by omega)
          have l3 := Lib.itoa_length_le y3 (by omega) (by omega)
          rw [← hA1] at hc1 l1
          rw [← hA2] at hc2 l2
          rw [← hA3] at hc3 l3
          rw [← hA4] at hc4 l4
          rw [← hA5] at hc5 l5
          clear hA1 hA2 hA3 hA4 hA5
          have hkk := hk.out
          have q4:¬ 9223372036854775807 < nm.length+4 := by omega
          have q5:¬ 9223372036854775807 < nm.length+4+A1.length := by omega
          have q6:¬ 9223372036854775807 < nm.length+4+A1.length+6 := by omega
          have q7:¬ 9223372036854775807 < nm.length+4+A1.length+6+A2.length := by omega
          have hO5d := hid (show WO w bb mb ob k (nm::((l.take i).map Offer.name).reverse) W5.drew from hO5.out.below (Below.refl _ _).drew)
          have hC5d := hid (show OC ob ⟨nm, y1, y2, y3, y4, y5⟩ W5.drew from hC5.out.below (Below.refl _ _).drew)
          have hbel5d := hid hO5d.out.bel
          obtain ⟨e0, e1, e2, e3, e4, e5⟩ := hC5d.out.cells
          refine wp_region_held_drew (S := fun w' => w'.cell? ⟨ob, 0, none⟩=some (sv nm)∧w'.cell? ⟨ob, 1, none⟩=some (iv y1)∧w'.cell? ⟨ob, 2, none⟩=some (iv y2)) (by kernel_rfl) ?_ (fun hHeld => ?_)
          · exact ⟨e0, e1, e2⟩
          refine wTk (i := 0) (v := ?_) rfl ?hy ?_
          case hy =>
            intro w hSw
            obtain ⟨s0, s1, s2⟩ := hSw
            go_simp
            all_goals with_reducible rfl
          try simp only [Act.put, sI, sZ, sS]
          refine wTk (i := 1) (v := ?_) rfl ?hy ?_
          case hy =>
            intro w hSw
            obtain ⟨s0, s1, s2⟩ := hSw
            go_simp
            all_goals with_reducible rfl
          try simp only [Act.put, sI, sZ, sS]
          refine wTk (i := 2) (v := ?_) rfl ?hy ?_
          case hy =>
            intro w hSw
            obtain ⟨s0, s1, s2⟩ := hSw
            go_simp
            all_goals with_reducible rfl
          try simp only [Act.put, sI, sZ, sS]
          refine wTk (i := 3) (v := ?_) rfl ?hy ?_
          case hy =>
            intro w hSw
            obtain ⟨s0, s1, s2⟩ := hSw
            go_simp
            all_goals with_reducible rfl
          try simp only [Act.put, sI, sZ, sS]
          refine wTk (i := 4) (v := ?_) rfl ?hy ?_
          case hy =>
            intro w hSw
            obtain ⟨s0, s1, s2⟩ := hSw
            go_simp
            all_goals with_reducible rfl
          try simp only [Act.put, sI, sZ, sS]
          refine wTk (i := 8) (v := ?_) rfl ?hy ?_
          case hy =>
            intro w hSw
            obtain ⟨s0, s1, s2⟩ := hSw
            go_simp
            all_goals with_reducible rfl
          try simp only [Act.put, sI, sZ, sS]
          refine wTk (i := 9) (v := ?_) rfl ?hy ?_
          case hy =>
            intro w hSw
            obtain ⟨s0, s1, s2⟩ := hSw
            go_simp
            all_goals with_reducible rfl
          try simp only [Act.put, sI, sZ, sS]
          refine wpAnyH_ready (rs := [5]) (by as_aux_lemma => kernel_rfl) (by simp) ?_
          refine rdY rfl (fun K hK => ?_)
          go_simp
          go_at_call 68
          with_reducible refine (hc1.out _ (hid (ht.out.below hbel5d.out))).mono ?_
          rintro e W6 ⟨rfl, hb6⟩
          have hO6 := hid (hO5d.out.below hb6)
          have hC6 := hid (hC5d.out.below hb6)
          have hbel6 := hid hO6.out.bel
          obtain ⟨e0, e1, e2, e3, e4, e5⟩ := hC6.out.cells
          clear hb6
          refine hK.out _ _ ?_ (fun hHeld2 => ?_)
          · exact ⟨e0, e1, e2⟩
          clear hK K hHeld
          have hHeld := hHeld2
          clear hHeld2
          try simp only [Act.put, sI, sZ, sS]
          refine wTk (i := 6) (v := ?_) rfl ?hy ?_
          case hy =>
            intro w hSw
            obtain ⟨s0, s1, s2⟩ := hSw
            go_simp
            all_goals with_reducible rfl
          try simp only [Act.put, sI, sZ, sS]
          refine wTk (i := 7) (v := ?_) rfl ?hy ?_
          case hy =>
            intro w hSw
            obtain ⟨s0, s1, s2⟩ := hSw
            go_simp
            all_goals with_reducible rfl
          try simp only [Act.put, sI, sZ, sS]
          refine wpAnyH_ready (rs := [10]) (by as_aux_lemma => kernel_rfl) (by simp) ?_
          refine rdY rfl (fun K hK => ?_)
          go_simp
          go_at_call 68
          with_reducible refine (hc2.out _ (hid (ht.out.below hbel6.out))).mono ?_
          rintro e W7 ⟨rfl, hb7⟩
          have hO7 := hid (hO6.out.below hb7)
          have hC7 := hid (hC6.out.below hb7)
          have hbel7 := hid hO7.out.bel
          obtain ⟨e0, e1, e2, e3, e4, e5⟩ := hC7.out.cells
          clear hb7
          refine hK.out _ _ ?_ (fun hHeld2 => ?_)
          · exact ⟨e0, e1, e2⟩
          clear hK K hHeld
          have hHeld := hHeld2
          clear hHeld2
          try simp only [Act.put, sI, sZ, sS]
          refine wTk (i := 11) (v := ?_) rfl ?hy ?_
          case hy =>
            intro w hSw
            obtain ⟨s0, s1, s2⟩ := hSw
            go_simp
            all_goals with_reducible rfl
          try simp only [Act.put, sI, sZ, sS]
          refine wpAnyH_ready (rs := [12]) (by as_aux_lemma => kernel_rfl) (by simp) ?_
          refine rdY rfl (fun K hK => ?_)
          go_simp
          go_at_call 60
          (try rw [show Value.pointer (some ⟨w.heap.size, 0, none⟩)=pt bb from by rw [hbb.out]])
          (with_reducible refine (hO7.out.write _ ?hsz).mono ?_)
          case hsz =>
            simp only [ByteArray.size_append, ByteArray.size_mk', List.size_toArray]
            simp
            omega
          rintro e W8 ⟨⟨v8, rfl⟩, hO8', hF8⟩
          obtain ⟨k8, hk8, hO8⟩:∃ k8, (k < k8∧k8≤k+300)∧Hid (WO w bb mb ob k8 (nm::((l.take i).map Offer.name).reverse) W8) := ⟨_, by simp [ByteArray.size_append, ByteArray.size_mk']; omega, hid hO8'⟩
          have hC8 := hid (hC7.out.fr hF8)
          have hbel8 := hid hO8.out.bel
          obtain ⟨e0, e1, e2, e3, e4, e5⟩ := hC8.out.cells
          clear hO8' hF8
          refine hK.out _ _ ?_ (fun hHeld2 => ?_)
          · exact ⟨e0, e1, e2⟩
          clear hK K hHeld
          have hHeld := hHeld2
          clear hHeld2
          try simp only [Act.put, sI, sZ, sS]
          refine wpAnyH_done (by as_aux_lemma => kernel_rfl) ?_ _
          clear hO5 hC5 hbel5d hO5d hC5d hO6 hC6 hbel6 hO7 hC7 hbel7 q4 q5 q6 q7
          clear e0 e1 e2 e3 e4 e5
          go_wp2_with fail
          have q4:¬ 9223372036854775807 < 5+A3.length := by omega
          have q5:¬ 9223372036854775807 < 5+A3.length+6 := by omega
          have q6:¬ 9223372036854775807 < 5+A3.length+6+A4.length := by omega
          have hO8d := hid (show WO w bb mb ob k8 (nm::((l.take i).map Offer.name).reverse) W8.drew from hO8.out.below (Below.refl _ _).drew)
          have hC8d := hid (show OC ob ⟨nm, y1, y2, y3, y4, y5⟩ W8.drew from hC8.out.below (Below.refl _ _).drew)
          have hbel8d := hid hO8d.out.bel
          obtain ⟨e0, e1, e2, e3, e4, e5⟩ := hC8d.out.cells
          refine wp_region_held_drew (S := fun w' => w'.cell? ⟨ob, 3, none⟩=some (iv y3)∧w'.cell? ⟨ob, 4, none⟩=some (iv y4)) (by kernel_rfl) ?_ (fun hHeld => ?_)
          · exact ⟨e3, e4⟩
          refine wTk (i := 0) (v := ?_) rfl ?hy ?_
          case hy =>
            intro w hSw
            obtain ⟨s0, s1⟩ := hSw
            go_simp
            all_goals with_reducible rfl
          try simp only [Act.put, sI, sZ, sS]
          refine wTk (i := 1) (v := ?_) rfl ?hy ?_
          case hy =>
            intro w hSw
            obtain ⟨s0, s1⟩ := hSw
            go_simp
            all_goals with_reducible rfl
          try simp only [Act.put, sI, sZ, sS]
          refine wTk (i := 5) (v := ?_) rfl ?hy ?_
          case hy =>
            intro w hSw
            obtain ⟨s0, s1⟩ := hSw
            go_simp
            all_goals with_reducible rfl
          try simp only [Act.put, sI, sZ, sS]
          refine wTk (i := 6) (v := ?_) rfl ?hy ?_
          case hy =>
            intro w hSw
            obtain ⟨s0, s1⟩ := hSw
            go_simp
            all_goals with_reducible rfl
          try simp only [Act.put, sI, sZ, sS]
          refine wpAnyH_ready (rs := [2]) (by as_aux_lemma => kernel_rfl) (by simp) ?_
          refine rdY rfl (fun K hK => ?_)
          go_simp
          go_at_call 61
          with_reducible refine (hc3.out _ (hid (ht.out.below hbel8d.out))).mono ?_
          rintro e W9 ⟨rfl, hb9⟩
          have hO9 := hid (hO8d.out.below hb9)
          have hC9 := hid (hC8d.out.below hb9)
          have hbel9 := hid hO9.out.bel
          obtain ⟨e0, e1, e2, e3, e4, e5⟩ := hC9.out.cells
          clear hb9
          refine hK.out _ _ ?_ (fun hHeld2 => ?_)
          · exact ⟨e3, e4⟩
          clear hK K hHeld
          have hHeld := hHeld2
          clear hHeld2
          try simp only [Act.put, sI, sZ, sS]
          refine wTk (i := 3) (v := ?_) rfl ?hy ?_
          case hy =>
            intro w hSw
            obtain ⟨s0, s1⟩ := hSw
            go_simp
            all_goals with_reducible rfl
          try simp only [Act.put, sI, sZ, sS]
          refine wTk (i := 4) (v := ?_) rfl ?hy ?_
          case hy =>
            intro w hSw
            obtain ⟨s0, s1⟩ := hSw
            go_simp
            all_goals with_reducible rfl
          try simp only [Act.put, sI, sZ, sS]
          refine wpAnyH_ready (rs := [7]) (by as_aux_lemma => kernel_rfl) (by simp) ?_
          refine rdY rfl (fun K hK => ?_)
          go_simp
          go_at_call 68
          with_reducible refine (hc4.out _ (hid (ht.out.below hbel9.out))).mono ?_
          rintro e W10 ⟨rfl, hb10⟩
          have hO10 := hid (hO9.out.below hb10)
          have hC10 := hid (hC9.out.below hb10)
          have hbel10 := hid hO10.out.bel
          obtain ⟨e0, e1, e2, e3, e4, e5⟩ := hC10.out.cells
          clear hb10
          refine hK.out _ _ ?_ (fun hHeld2 => ?_)
          · exact ⟨e3, e4⟩
          clear hK K hHeld
          have hHeld := hHeld2
          clear hHeld2
          try simp only [Act.put, sI, sZ, sS]
          refine wTk (i := 8) (v := ?_) rfl ?hy ?_
          case hy =>
            intro w hSw
            obtain ⟨s0, s1⟩ := hSw
            go_simp
            all_goals with_reducible rfl
          try simp only [Act.put, sI, sZ, sS]
          refine wpAnyH_ready (rs := [9]) (by as_aux_lemma => kernel_rfl) (by simp) ?_
          refine rdY rfl (fun K hK => ?_)
          go_simp
          go_at_call 60
          (try rw [show Value.pointer (some ⟨w.heap.size, 0, none⟩)=pt bb from by rw [hbb.out]])
          (with_reducible refine (hO10.out.write _ ?hsz).mono ?_)
          case hsz =>
            simp only [ByteArray.size_append, ByteArray.size_mk', List.size_toArray]
            simp
            omega
          rintro e W11 ⟨⟨v11, rfl⟩, hO11', hF11⟩
          obtain ⟨k11, hk11, hO11⟩:∃ k11, (k8 < k11∧k11≤k8+300)∧Hid (WO w bb mb ob k11 (nm::((l.take i).map Offer.name).reverse) W11) := ⟨_, by simp [ByteArray.size_append, ByteArray.size_mk']; omega, hid hO11'⟩
          have hC11 := hid (hC10.out.fr hF11)
          have hbel11 := hid hO11.out.bel
          obtain ⟨e0, e1, e2, e3, e4, e5⟩ := hC11.out.cells
          clear hO11' hF11
          refine hK.out _ _ ?_ (fun hHeld2 => ?_)
          · exact ⟨e3, e4⟩
          clear hK K hHeld
          have hHeld := hHeld2
          clear hHeld2
          try simp only [Act.put, sI, sZ, sS]
          refine wpAnyH_done (by as_aux_lemma => kernel_rfl) ?_ _
          clear hO8 hC8 hbel8d hO8d hC8d hO9 hC9 hbel9 hO10 hC10 hbel10 q4 q5 q6
          clear e0 e1 e2 e3 e4
          have q4:¬ 9223372036854775807 < 7+A5.length := by omega
          have q5:¬ 9223372036854775807 < 7+A5.length+1 := by omega
          go_wp2_with fail
          with_reducible refine (hc5.out _ (hid (ht.out.below hbel11.out))).mono ?_
          rintro e W12 ⟨rfl, hb12⟩
          have hO12 := hid (hO11.out.below hb12)
          have hC12 := hid (hC11.out.below hb12)
          have hbel12 := hid hO12.out.bel
          obtain ⟨e0, e1, e2, e3, e4, e5⟩ := hC12.out.cells
          clear hb12
          clear e0 e1 e2 e3 e4 e5
          go_wp2_with fail
          (try rw [show Value.pointer (some ⟨w.heap.size, 0, none⟩)=pt bb from by rw [hbb.out]])
          (with_reducible refine (hO12.out.write _ ?hsz).mono ?_)
          case hsz =>
            simp only [ByteArray.size_append, ByteArray.size_mk', List.size_toArray]
            simp
            omega
          rintro e W13 ⟨⟨v13, rfl⟩, hO13', hF13⟩
          obtain ⟨k13, hk13, hO13⟩:∃ k13, (k11 < k13∧k13≤k11+300)∧Hid (WO w bb mb ob k13 (nm::((l.take i).map Offer.name).reverse) W13) := ⟨_, by simp [ByteArray.size_append, ByteArray.size_mk']; omega, hid hO13'⟩
          have hC13 := hid (hC12.out.fr hF13)
          have hbel13 := hid hO13.out.bel
          obtain ⟨e0, e1, e2, e3, e4, e5⟩ := hC13.out.cells
          clear hO13' hF13
          clear e0 e1 e2 e3 e4 e5
          have hOf := hid (take_rev hx'.out hxe'.out ▸ hO13.out.back)
          have hkf := hid (show k13≤(i+1) * 1000∧(0 < i+1→0 < k13) by omega)
          go_wp2_with fail
          rw [show pt bb=Value.pointer (some ⟨w.heap.size, 0, none⟩) from by rw [hbb.out]]
          go_roundg (l.length - (i+1))
          case measure => omega
          case rel => exact ⟨i+1, k13, by go_num, by omega, hgood2, hOf, hkf⟩
    · have q1:decide ((i:Int) < (l.length:Int))=false := decide_eq_false (by omega)
      have q1':decide (i < l.length)=false := decide_eq_false hin
      have hil:i=l.length := by omega
      subst hil
      rw [List.take_length] at hgood hO
      obtain ⟨t, ht1, ht2⟩ := hO.out.bld
      have hst := bldString w.heap.size bb t wr ((ht2.mono (H := from_ w.heap.size) fun k _ hk => hk.1).bld) hO.out.bel.size
      rw [hbb.out] at hst
      have hbel := hid hO.out.bel
      have hfin:Hid ((CatOk l→l≠[]→t≠[])∧(¬ CatOk l→t=[])) := hid ⟨fun _ hl e => by
        have := hk.out.2 (by cases l with | nil => exact absurd rfl hl | cons a l => simp)
        rw [e] at ht1; simp at ht1; omega, fun hc => absurd ⟨by omega, hgood.out.1, hgood.out.2⟩ hc⟩
      replace hst := hid hst
      clear ht1 ht2 hO hgood hnl hr
      go_wp2_with fail
      refine hst.out.mono ?_
      rintro e W ⟨rfl, hbW⟩
      go_wp2_with fail
      go_ret
      exact ⟨t, rfl, hfin.out.1, hfin.out.2, hbel.out.trans hbW⟩
end Go.Proofs.YtfejagpjahoibaaGreatDoor
set_option linter.unusedSimpArgs false
namespace Go.Proofs.YtfejagpjahoibaaGreatDoor
open Go.RowKit
open Go.Lib (hid)
def clampF (n lo hi:Int):Int := if n < lo then lo else if hi < n then hi else n
set_option maxRecDepth 100000 in
theorem clamp_any (n lo hi:Int) (w:World):Calls Tryz.prog 81 #[iv n, iv lo, iv hi] w fun e w' => e=.returned (iv (clampF n lo hi))∧w'=w := by
  by_cases h1:n < lo
  · have e:clampF n lo hi=lo := if_pos h1
    rw [e]
    have q1:decide (n < lo)=true := decide_eq_true h1
    go_enter Tryz.func81, Tryz.ntmps81
    go_wp2_with fail
    go_ret
    exact ⟨rfl, rfl⟩
  · have q1:decide (n < lo)=false := decide_eq_false h1
    by_cases h2:hi < n
    · have e:clampF n lo hi=hi := by unfold clampF; rw [if_neg h1, if_pos h2]
      rw [e]
      have q2:decide (hi < n)=true := decide_eq_true h2
      go_enter Tryz.func81, Tryz.ntmps81
      go_wp2_with fail
      go_ret
      exact ⟨rfl, rfl⟩
    · have e:clampF n lo hi=n := by unfold clampF; rw [if_neg h1, if_neg h2]
      rw [e]
      have q2:decide (hi < n)=false := decide_eq_false h2
      go_enter Tryz.func81, Tryz.ntmps81
      go_wp2_with fail
      go_ret
      exact ⟨rfl, rfl⟩
theorem clampF_in (n:Int):0≤clampF n 0 1073741824∧clampF n 0 1073741824≤1073741824 := by unfold clampF; split; omega; split <;> omega
def canF (o:Offer) (tick clock:Int):Bool := decide (o.undo≠-1) && (decide (clampF o.due 0 1073741824=0) || decide (clampF clock 0 1073741824≤clampF tick 0 1073741824+clampF o.due 0 1073741824))
set_option maxHeartbeats 4000000 in
set_option maxRecDepth 100000 in
theorem can_any (o:Offer) (tick clock:Int) (w:World):Calls Tryz.prog 69 #[.agg (offCs o).toArray, iv tick, iv clock] w fun e w' => e=.returned (.bool (canF o tick clock))∧Below w.heap.size w w' := by
  have hb:Below w.heap.size w (w.alloc (.cells (offCs o).toArray 45 (0, 0))) := (Below.refl _ w).alloc (Nat.le_refl _) _
  have hbk := heap_alloc_new' w (.cells (offCs o).toArray 45 (0, 0))
  obtain ⟨ud, hu⟩:∃ x, x=o.undo := ⟨_, rfl⟩
  obtain ⟨du, hd⟩:∃ x, x=o.due := ⟨_, rfl⟩
  have c2:(w.alloc (.cells (offCs o).toArray 45 (0, 0))).cell? ⟨w.heap.size, 2, none⟩=some (iv ud) := (cell_of hbk).trans (by rw [hu]; rfl)
  have c3:(w.alloc (.cells (offCs o).toArray 45 (0, 0))).cell? ⟨w.heap.size, 3, none⟩=some (iv du) := (cell_of hbk).trans (by rw [hd]; rfl)
  have h1 := hid (fun W => clamp_any tick 0 1073741824 W)
  have h2 := hid (fun W => clamp_any clock 0 1073741824 W)
  have h3 := hid (fun W => clamp_any du 0 1073741824 W)
  obtain ⟨res, hres⟩:∃ r, r=canF o tick clock := ⟨_, rfl⟩
  rw [← hres]
  unfold canF at hres
  rw [← hu, ← hd] at hres
  have k1 := clampF_in tick
  have k2 := clampF_in clock
  have k3 := clampF_in du
  generalize clampF tick 0 1073741824=T at *
  generalize clampF clock 0 1073741824=C at *
  generalize clampF du 0 1073741824=D at *
  have w1:IntKind.i64.wrap (T+D)=T+D := by rw [IntKind.wrap_i64]; omega
  obtain ⟨b1, p1⟩:∃ b, decide (ud≠-1)=b := ⟨_, rfl⟩
  obtain ⟨b2, p2⟩:∃ b, decide (D=0)=b := ⟨_, rfl⟩
  obtain ⟨b3, p3⟩:∃ b, decide (C≤T+D)=b := ⟨_, rfl⟩
  rw [p1, p2, p3] at hres
  have r1:(ud == -1) = !b1 := by rw [← p1]; by_cases e:ud = -1 <;> simp [e]
  have r5:(ud != -1)=b1 := by rw [← p1]; by_cases e:ud = -1 <;> simp [e]
  have r2:(D == 0)=b2 := by rw [← p2]; by_cases e:D=0 <;> simp [e]
  replace hb := hid hb
  clear hbk k1 k2 k3 hu hd
  cases b1 <;> cases b2 <;> cases b3
  all_goals replace hres := hid hres
  all_goals first | (have r3:ud = -1 := by simpa using r1
                     clear p1 r1
                     subst r3) | (have r3:¬ ud = -1 := by simpa using r1
                                  clear p1)
  all_goals first | (have r4:D=0 := by simpa using r2
                     clear p2 r2
                     subst r4) | (have r4:¬ D=0 := by simpa using r2
                                  clear p2)
  all_goals go_enter Tryz.func69, Tryz.ntmps69
  all_goals go_wp2_with fail
  all_goals (with_reducible refine (h1.out _).mono ?_)
  all_goals rintro e w1 ⟨rfl, rfl⟩
  all_goals go_wp2_with fail
  all_goals (with_reducible refine (h2.out _).mono ?_)
  all_goals rintro e w1 ⟨rfl, rfl⟩
  all_goals go_wp2_with fail
  all_goals (with_reducible refine (h3.out _).mono ?_)
  all_goals rintro e w1 ⟨rfl, rfl⟩
  all_goals go_wp2_with fail
  all_goals go_ret
  all_goals exact ⟨by rw [hres.out]; first | rfl | (rw [show (Value.bool (true && (false || true)))=Value.bool (ud != -1) from by rw [r5]; rfl]; rfl) | (rw [show (Value.bool (true && (true || false)))=Value.bool (ud != -1) from by rw [r5]; rfl]; rfl) | (rw [show (Value.bool (true && (true || true)))=Value.bool (ud != -1) from by rw [r5]; rfl]; rfl), hb.out⟩
def findF (l:List Offer) (name:List UInt8):Option Offer := l.find? fun o => decide (o.name=name)
theorem off_cells {w:World} {R:Nat} {o:Offer} (h:w.heap[R]? = some (.cells (offCs o).toArray 45 (0, 0))):w.cell? ⟨R, 0, none⟩=some (sv o.name)∧w.cell? ⟨R, 1, none⟩=some (iv o.do)∧w.cell? ⟨R, 2, none⟩=some (iv o.undo)∧w.cell? ⟨R, 3, none⟩=some (iv o.due)∧w.cell? ⟨R, 4, none⟩=some (iv o.part)∧w.cell? ⟨R, 5, none⟩=some (iv o.amend)∧∀ i, w.frozen? ⟨R, i, none⟩=false :=
  ⟨(cell_of h).trans rfl, (cell_of h).trans rfl, (cell_of h).trans rfl, (cell_of h).trans rfl, (cell_of h).trans rfl, (cell_of h).trans rfl, fun i => free_of h⟩
theorem findF_hit {l:List Offer} {name:List UInt8} {k:Nat} {x:Offer} (hx:l[k]? = some x) (hp:x.name=name) (hn:∀ i y, i < k→l[i]? = some y→y.name≠name):findF l name=some x := by
  unfold findF
  rw [List.find?_eq_some_iff_getElem]
  obtain ⟨hk, rfl⟩ := List.getElem?_eq_some_iff.1 hx
  exact ⟨decide_eq_true hp, k, hk, rfl, fun j hj => by simpa using hn j _ hj (List.getElem?_eq_getElem (by omega))⟩
theorem findF_miss {l:List Offer} {name:List UInt8} (hn:∀ i y, i < l.length→l[i]? = some y→y.name≠name):findF l name=none := by
  unfold findF
  rw [List.find?_eq_none]
  intro x hx
  obtain ⟨i, hi⟩ := List.getElem?_of_mem hx
  simpa using hn i x (List.getElem?_eq_some_iff.1 hi).1 hi
def off0:Offer := ⟨[], 0, 0, 0, 0, 0⟩
theorem results_off {fn:Func} {p u:Tmp} (h:fn.results=#[.cell p 45, .tmp u]) (tmps:Array Value) (w:World) (R:Nat) (o:Offer) (x:Bool) (hp:tmps.getD p undef=.pointer (some ⟨R, 0, none⟩)) (hu:tmps.getD u undef=.bool x) (hR:w.heap[R]? = some (.cells (offCs o).toArray 45 (0, 0))) :
    (results fn tmps).run Tryz.prog w=.ok (.tuple #[.agg (offCs o).toArray, .bool x]) w := by
  rw [results_cell_tmp h, hp, hu]
  simp only [asAddr, Sem.run_pure, Result.andThen_ok]
  rw [run_loadVar_row w R 45 45 _ (0, 0) _ hR Tryz.underlying45 rfl (by kernel_rfl)]
  rfl
abbrev setOff (w:World) (R:Nat) (o:Offer):World := (((((w.setCell ⟨R, 0, none⟩ (sv o.name)).setCell ⟨R, 1, none⟩ (iv o.do)).setCell ⟨R, 2, none⟩ (iv o.undo)).setCell ⟨R, 3, none⟩ (iv o.due)).setCell ⟨R, 4, none⟩ (iv o.part)).setCell ⟨R, 5, none⟩ (iv o.amend)
theorem off_set {w:World} {R:Nat} {o0:Offer} (h:w.heap[R]? = some (.cells (offCs o0).toArray 45 (0, 0))) (o:Offer):(setOff w R o).heap[R]? = some (.cells (offCs o).toArray 45 (0, 0)) := by
  have a0 := heap_setCell_same h (i := 0) (sv o.name)
  have a1 := heap_setCell_same a0 (i := 1) (iv o.do)
  have a2 := heap_setCell_same a1 (i := 2) (iv o.undo)
  have a3 := heap_setCell_same a2 (i := 3) (iv o.due)
  have a4 := heap_setCell_same a3 (i := 4) (iv o.part)
  have a5 := heap_setCell_same a4 (i := 5) (iv o.amend)
  simpa using a5
theorem below_setOff {R:Nat} {a w:World} (h:Below a.heap.size a w) (hR:a.heap.size≤R) (o:Offer):Below a.heap.size a (setOff w R o) :=
  below_set (below_set (below_set (below_set (below_set (below_set h hR _) hR _) hR _) hR _) hR _) hR _
set_option maxHeartbeats 4000000 in
set_option maxRecDepth 100000 in
theorem cfind_any (l:List Offer) (name:List UInt8) (S:Foot) (v:Value) (w:World) (hl:l.length≤1048576) (hr:SlR 6 OffR S w l v) :
    Calls Tryz.prog 43 #[v, sv name] w fun e w' => e=.returned (.tuple #[.agg (offCs ((findF l name).getD off0)).toArray, .bool (findF l name).isSome])∧Below w.heap.size w w' := by
  obtain ⟨a, c, rfl, -⟩ := hr.slice
  obtain ⟨res, hres⟩:∃ r, r=findF l name := ⟨_, rfl⟩
  rw [← hres]
  have hb:Below w.heap.size w (w.alloc (.cells #[.string ⟨#[]⟩, .int .i64 0, .int .i64 0, .int .i64 0, .int .i64 0, .int .i64 0] 45 (0, 0))) := (Below.refl _ w).alloc (Nat.le_refl _) _
  have hrow:(w.alloc (.cells #[.string ⟨#[]⟩, .int .i64 0, .int .i64 0, .int .i64 0, .int .i64 0, .int .i64 0] 45 (0, 0))).heap[w.heap.size]? = some (.cells (offCs off0).toArray 45 (0, 0)) := heap_alloc_new' w _
  have hrow' := hid hrow
  have hb' := hid hb
  replace hres := hid hres
  replace hr := hid hr
  clear hb hrow
  go_enter Tryz.func43, Tryz.ntmps43
  go_wp2_with fail
  go_loopg [7, 10] l.length (fun f v7 v10 wr => ∃ i:Nat, v10=iv i∧i+f=l.length∧Hid (∀ j y, j < i→l[j]? = some y→y.name≠name)∧Hid (wr.heap[w.heap.size]? = some (.cells (offCs off0).toArray 45 (0, 0)))∧Hid (Below w.heap.size w wr))
  case atStart => exact ⟨0, rfl, by omega, hid (fun j y h => by omega), hrow', hb'⟩
  case round =>
    obtain ⟨i, rfl, hif, hn, hrow, hB⟩ := hrel
    clear hrow' hb'
    by_cases hin:i < l.length
    · have q1:decide ((i:Int) < (l.length:Int))=true := decide_eq_true (by omega)
      have q1':decide (i < l.length)=true := decide_eq_true hin
      obtain ⟨x, hx⟩:∃ x, l[i]? = some x := ⟨_, List.getElem?_eq_getElem hin⟩
      obtain ⟨g, o, cs, hidx, hS, hg, hc, hR⟩ := (hr.out.below goodOff hB.out).at (P := Tryz.prog) (t := 22) (by kernel_rfl) (fun _ => by kernel_rfl) hx
      have hcs:cs=offCs x := hR
      subst hcs
      have c0 := hc 0 _ rfl
      have c1 := hc 1 _ rfl
      have c2 := hc 2 _ rfl
      have c3 := hc 3 _ rfl
      have c4 := hc 4 _ rfl
      have c5 := hc 5 _ rfl
      rw [Nat.add_zero] at c0
      have hb3:Below w.heap.size w (wr.alloc (.cells #[sv x.name, iv x.do, iv x.undo, iv x.due, iv x.part, iv x.amend] 45 (0, 0))) := hB.out.alloc hB.out.size _
      have hrow3:(wr.alloc (.cells #[sv x.name, iv x.do, iv x.undo, iv x.due, iv x.part, iv x.amend] 45 (0, 0))).heap[w.heap.size]? = some (.cells (offCs off0).toArray 45 (0, 0)) := by
        rw [Below.heap_alloc _ _ _ (lt_of_heap hrow.out)]; exact hrow.out
      replace hb3 := hid hb3
      replace hrow3 := hid hrow3
      clear hc hR hS hg
      by_cases he:x.name=name
      · have hfin := hid (hres.out.trans (findF_hit hx he hn.out))
        subst he
        clear hn hx hres
        obtain ⟨z0, z1, z2, z3, z4, z5, fz⟩ := off_cells hrow3.out
        go_wp2_with fail
        refine bodyPost_ret (v := .tuple #[.agg (offCs x).toArray, .bool true]) (results_off (by rfl) _ _ w.heap.size x true (by rfl) (by rfl) (off_set hrow3.out x)) rfl ⟨by rw [hfin.out]; rfl, below_setOff hb3.out (Nat.le_refl _) x⟩
      · have hn2 := hid (show ∀ j y, j < i+1→l[j]? = some y→y.name≠name from fun j y hj hy => by
          by_cases e:j=i
          · subst e; rw [hx] at hy; injection hy with hy; rw [← hy]; exact he
          · exact hn.out j y (by omega) hy)
        have he2:(x.name == name)=false := by simpa using he
        clear hn hx
        go_wp2_with fail
        go_roundg (l.length - (i+1))
        case measure => omega
        case rel => exact ⟨i+1, by go_num, by omega, hn2, hrow3, hb3⟩
    · have q1:decide ((i:Int) < (l.length:Int))=false := decide_eq_false (by omega)
      have q1':decide (i < l.length)=false := decide_eq_false hin
      have hfin := hid (hres.out.trans (findF_miss fun j y hj hy => hn.out j y (by omega) hy))
      clear hn
      obtain ⟨z0, z1, z2, z3, z4, z5, fz⟩ := off_cells hrow.out
      go_wp2_with fail
      refine bodyPost_ret (v := .tuple #[.agg (offCs off0).toArray, .bool false]) (results_off (by rfl) _ _ w.heap.size off0 false (by rfl) (by rfl) (off_set hrow.out off0)) rfl ⟨by rw [hfin.out]; rfl, below_setOff hB.out (Nat.le_refl _) off0⟩
end Go.Proofs.YtfejagpjahoibaaGreatDoor
