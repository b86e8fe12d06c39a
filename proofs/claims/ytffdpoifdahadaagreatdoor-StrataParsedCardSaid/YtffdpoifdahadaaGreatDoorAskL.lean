/- AskL: AskK, AskL, in one text. -/
import Derived.Test.YtffdpoifdahadaaGreatDoorAskJ
import Derived.Lib.ItoaLen
set_option linter.unusedVariables false
set_option maxHeartbeats 40000000
set_option maxRecDepth 100000
namespace Go.Proofs.YtffdpoifdahadaaGreatDoor
open Go.RowKit
open Go.Lib (hid itoa)
def da (pb : Nat) (w : World) : Prop := ∃ g cs t f, Tryz.prog.globalNamed "internal/strconv.uint64pow10" = some g /\ g ≠ pb /\ w.heap[g]? = some (.cells cs t f) /\ cs = (Lib.pow10Tab.map fun z => Value.int .u64 z).toArray
theorem da.tab {pb:Nat} {w:World} (h:da pb w):Tab w := by
  obtain ⟨g, cs, t, f, h1, h2, h3, h4⟩ := h
  unfold Tab Lib.TabIs World.var?
  rw [h1, ← h4]
  show (match w.heap[g]? with | some (.cells cs _ _) => some cs | _ => none)=some cs
  rw [h3]
theorem da.of {w:World} {pb:Nat} (h:Tab w) (hp:w.heap.size<=pb):da pb w := by
  unfold Tab Lib.TabIs World.var? at h
  rcases hg : Tryz.prog.globalNamed "internal/strconv.uint64pow10" with _ | g
  · rw [hg] at h; cases h
  · rw [hg] at h
    replace h:(match w.heap[g]? with | some (.cells cs _ _) => some cs | _ => none)=some (Lib.pow10Tab.map fun z => Value.int .u64 z).toArray := h
    rcases ho:w.heap[g]? with _ | o
    · rw [ho] at h; cases h
    · rw [ho] at h
      cases o with
      | cells cs t f => exact ⟨g, cs, t, f, hg, by have := aL ho; omega, ho, by injection h⟩
      | _ => cases h
theorem da.fr {pb:Nat} {w w':World} (h:da pb w) (hf:Fr (one pb) w w'):da pb w' := by
  obtain ⟨g, cs, t, f, h1, h2, h3, h4⟩ := h
  exact ⟨g, cs, t, f, h1, h2, (hf.block g (aL h3) h2).trans h3, h4⟩
theorem da.below {pb:Nat} {w w':World} (h:da pb w) (hb:Below w.heap.size w w'):da pb w' := h.fr (Fr.of_below hb _)
def eq (K:PK):Prop := ∀ s:List UInt8, K.f (.string s)=if s∈cd K.ts then some (.bool true) else none
theorem dX (s:List UInt8) (h:s.length<=1048576):keyOf Tryz.prog 9 (sv s)=some (.string s) := by
  have := WideMaps.keyOf_string_mk (P := Tryz.prog) (k := 9) Tryz.underlying9 (s := ⟨s.toArray⟩) (by rw [ByteArray.size_mk', List.size_toArray]; unfold maxLen; omega)
  simpa using this
theorem nW {K:PK} {pb:Nat} {st:PSt} {w:World} (h:PM pb K st w) (hN:eq K) (s:List UInt8) (hs:s.length<=1048576) :
    (Instr.lookup 67 (.map (some K.mb)) (sv s) false).run Tryz.prog w=.ok (.bool (decide (s∈cd K.ts))) w := by
  have := h.map.look (Maps.string_keyed Tryz.underlying9) (t := 67) (e := 4) Tryz.underlying67 (z := .bool false) (by kernel_rfl) (dX s hs) trivial
  rw [this, hN s]
  by_cases e:s∈cd K.ts
  · rw [if_pos e, zP e]; rfl
  · rw [if_neg e, zO e]; rfl
theorem PM.setVars {pb:Nat} {K:PK} {st:PSt} {w:World} (h:PM pb K st w) (n:Nat):PM pb K { st with vars := n } (w.setCell ⟨pb, 4, none⟩ (iv n)) :=
  h.turn (fun q hq => ak _ hq) (aC h.blk _) h.nx
theorem PM.setRels {pb:Nat} {K:PK} {st:PSt} {w:World} (h:PM pb K st w) (n:Nat):PM pb K { st with rels := n } (w.setCell ⟨pb, 5, none⟩ (iv n)) :=
  h.turn (fun q hq => ak _ hq) (aC h.blk _) h.nx
theorem j5 (n:Nat) (h:n<=4611686018427387904):(itoa (n:Int)).length<=100 := zV (Lib.itoa_length_le _ (by omega) (by omega)) (by decide)
def PNewV (pb:Nat) (K:PK) (w:World) (r:Tm × PSt) (e:Ending) (w':World):Prop := e=.returned (.agg (aB r.1))/\PM pb K r.2 w'/\Fr (one pb) w w'
def PNewR (pb:Nat) (K:PK) (w:World) (r:List UInt8 × PSt) (e:Ending) (w':World):Prop := e=.returned (sv r.1)/\PM pb K r.2 w'/\Fr (one pb) w w'
theorem ez (pb:Nat) (K:PK) (st:PSt) (w:World) (h:PM pb K st w) (hT:da pb w) (hN:eq K) (hb:st.vars+K.toks.length+1<=4611686018427387904) :
    Calls Tryz.prog 114 #[pt pb] w (PNewV pb K w (aq K.ts st)) := by
  obtain ⟨R, hR⟩:∃ R, R=eB (cd K.ts) [84] (K.ts.length+1) st.vars := ⟨_, rfl⟩
  obtain ⟨Z, hZ⟩:∃ Z, aq K.ts st=Z := ⟨_, rfl⟩
  rw [hZ]
  replace hZ := hid (show Z=(bh ([84]++itoa ((R:Nat):Int)), { st with vars := R }) from by rw [← hZ, hR]; rfl)
  have htl:K.ts.length=K.toks.length := by unfold PK.ts; rw [zY]
  have hex := mI (cd K.ts) [84] st.vars (K.ts.length+1) (Nat.lt_succ_of_le (mq _)) (by omega)
  have hpl := h.lt
  have hne:¬ pb=w.heap.size := by omega
  have hne2:¬ w.heap.size=pb := by omega
  have hbA := (zN w.heap.size w).alloc (zM _) (.cells #[.string ⟨#[]⟩, .int .i64 0, .string ⟨#[]⟩, .int .i64 0, .int .i64 0, .string ⟨#[]⟩, .slice none 0 0] 63)
  have hMA := hid (h.below hbA)
  have hrA := hid (show (w.alloc (.cells #[.string ⟨#[]⟩, .int .i64 0, .string ⟨#[]⟩, .int .i64 0, .int .i64 0, .string ⟨#[]⟩, .slice none 0 0] 63)).heap[w.heap.size]? = some (.cells (aB tm0) 63 (0, 0)) from af _ _)
  have hfA := hid (Fr.of_below hbA (one pb))
  have hTA := hid (hT.fr hfA.out)
  have hh := hid h
  clear h hbA hT
  replace hN := hid hN
  replace hR := hid hR
  replace hex := hid hex
  go_enter Tryz.func114, Tryz.ntmps114
  go_wp2_with fail
  go_loopg [3] (K.toks.length+1) (fun g v wr => ∃ (n f:Nat), f=g/\n+f=st.vars+K.toks.length+1/\Hid (eB (cd K.ts) [84] f n=R)/\Hid (∃ j, 1<=j/\j<=f/\[84]++itoa ((n+j:Nat):Int) ∉ cd K.ts)/\Hid (PM pb K { st with vars := n } wr)/\Hid (Fr (one pb) w wr)/\Hid (da pb wr)/\Hid (wr.heap[w.heap.size]? = some (.cells (aB tm0) 63 (0, 0))))
  case atStart =>
    exact ⟨st.vars, _, rfl, by omega, hid (by rw [hR.out, htl]), hid (by rw [← htl]; exact hex.out), hMA, hfA, hTA, hrA⟩
  case round =>
    obtain ⟨n, g, hgg, hg, hF, hE, hM, hf, hTw, hr⟩ := hrel;obtain ⟨g, rfl⟩:∃ g', g=g'+1 := ⟨g - 1, by obtain ⟨j, h1, h2, -⟩ := hE.out; omega⟩;obtain ⟨m, hm⟩:∃ m, m=n+1 := ⟨_, rfl⟩;(have e1:IntKind.i64.wrap ((n:Int)+1)=(m:Int) := by rw [zX]; omega);have c4 := hM.out.cell (i := 4) (v := iv n) rfl;have f4 := hM.out.free 4;have hM1 := hid (hM.out.setVars m);have hf1 := hid (hf.out.setCell (p := ⟨pb, 4, none⟩) (Or.inl (show one pb pb from rfl)) (iv (m:Int)));have hr1 := hid ((ak (b := pb) (i := 4) (iv (m:Int)) hne2).trans hr.out);have hT1 := hid (hTw.out.fr ((Fr.refl (one pb) wr).setCell (p := ⟨pb, 4, none⟩) (Or.inl (show one pb pb from rfl)) (iv (m:Int))));have hx := hid (fl (m:Int) _ (by omega) (by omega) (hid hT1.out.tab));obtain ⟨W, hW⟩:∃ W, W=wr.setCell ⟨pb, 4, none⟩ (iv (m:Int)) := ⟨_, rfl⟩;have hln := j5 m (by omega);obtain ⟨N, hNN⟩:∃ N, N=itoa (m:Int) := ⟨_, rfl⟩;rw [← hNN] at hx hln;replace hF := hid (show (if [84]++N∈cd K.ts then eB (cd K.ts) [84] g m else m)=R from by rw [hNN, hm]; exact hF.out);replace hNN := hid hNN;rw [← hW] at hM1 hf1 hr1 hT1 hx;(have hmb:m<=4611686018427387904 := by omega);replace hm := hid hm;go_wp2_with fail;rw [← hW];(with_reducible refine hx.out.mono ?_);rintro e w2 ⟨rfl, hb⟩;have hM2 := hid (hM1.out.below hb);have hf2 := hid (hf1.out.trans (Fr.of_below hb _));have hr2 := hid (an hb hr1.out (ae hr1.out));have hT2 := hid (hT1.out.below hb);have c3 := hM2.out.cell (i := 3) (v := rP K.mb) rfl;obtain ⟨s, hs⟩:∃ s, s=[84]++N := ⟨_, rfl⟩;(have hcat:ByteArray.mk #[84]++⟨N.toArray⟩=⟨s.toArray⟩ := by rw [hs]; simp [ByteArray.mk_append_mk]);have hlk := nW hM2.out hN.out s (by rw [hs]; simp; omega);rw [← hs] at hF;replace hs := hid hs;replace hW := hid hW
    by_cases hin:s∈cd K.ts
    · rw [zP hin] at hlk
      replace hF := hid ((if_pos hin).symm.trans hF.out);replace hin := hid hin;go_wp2_with fail
      go_roundg g
      case measure => omega
      case rel => exact ⟨m, g, rfl, by have := hm.out; omega, hF, hid (by
        obtain ⟨j, h1, h2, h3⟩ := hE.out;have hm' := hm.out;refine ⟨j - 1, ?_, by omega, by rw [show m+(j - 1)=n+j by omega]; exact h3⟩
        rcases Nat.lt_or_ge 1 j with h4 | h4
        · omega
        · have:j=1 := by omega
          subst this;rw [← hm', ← hNN.out, ← hs.out] at h3
          exact absurd hin.out h3), hM2, hf2, hT2, hr2⟩
    · rw [zO hin] at hlk
      replace hF := hid ((if_neg hin).symm.trans hF.out);replace hin := hid hin;obtain ⟨q0, q1, q2, q3, q4, q5, q6, fz⟩ := aH hr2.out;have fz0 := fz 0;have fz1 := fz 1;have fz2 := fz 2;have fz3 := fz 3;have fz4 := fz 4;have fz5 := fz 5;have fz6 := fz 6;clear fz;go_wp2_with fail;have hF' := hf2.out.setTm (zM w.heap.size) (bh s);have hP := hh.out.fr hF' ((a_ hne).trans hM2.out.blk) hM2.out.nx;refine bodyPost_ret (v := .agg (aB (bh s))) (results_cell_row (by rfl) _ _ w.heap.size 63 _ (0, 0) _ (by rfl) (cK hr2.out (bh s)) Tryz.underlying63 rfl (by kernel_rfl)) rfl ?_;(have hse:s=[84]++itoa ((R:Nat):Int) := by rw [hs.out, hNN.out, hF.out]);rw [hZ.out, ← hse];exact ⟨rfl, by rw [← hF.out]; exact hP, hF'⟩
theorem mn (pb:Nat) (K:PK) (st:PSt) (w:World) (h:PM pb K st w) (hT:da pb w) (hN:eq K) (hb:st.rels+K.toks.length+1<=4611686018427387904) :
    Calls Tryz.prog 117 #[pt pb] w (PNewR pb K w (bg K.ts st)) := by
  obtain ⟨R, hR⟩:∃ R, R=eB (cd K.ts) [97, 117, 120] (K.ts.length+1) st.rels := ⟨_, rfl⟩
  obtain ⟨Z, hZ⟩:∃ Z, bg K.ts st=Z := ⟨_, rfl⟩
  rw [hZ]
  replace hZ := hid (show Z=([97, 117, 120]++itoa ((R:Nat):Int), { st with rels := R }) from by rw [← hZ, hR]; rfl)
  have htl:K.ts.length=K.toks.length := by unfold PK.ts; rw [zY]
  have hex := mI (cd K.ts) [97, 117, 120] st.rels (K.ts.length+1) (Nat.lt_succ_of_le (mq _)) (by omega)
  have hpl := h.lt
  have hh := hid h
  replace hT := hid hT
  have hfA := hid (Fr.refl (one pb) w)
  clear h
  replace hN := hid hN
  replace hR := hid hR
  replace hex := hid hex
  go_enter Tryz.func117, Tryz.ntmps117
  go_wp2_with fail
  go_loopg [3] (K.toks.length+1) (fun g v wr => ∃ (n f:Nat), f=g/\n+f=st.rels+K.toks.length+1/\Hid (eB (cd K.ts) [97, 117, 120] f n=R)/\Hid (∃ j, 1<=j/\j<=f/\[97, 117, 120]++itoa ((n+j:Nat):Int) ∉ cd K.ts)/\Hid (PM pb K { st with rels := n } wr)/\Hid (Fr (one pb) w wr)/\Hid (da pb wr))
  case atStart =>
    exact ⟨st.rels, _, rfl, by omega, hid (by rw [hR.out, htl]), hid (by rw [← htl]; exact hex.out), hh, hfA, hT⟩
  case round =>
    obtain ⟨n, g, hgg, hg, hF, hE, hM, hf, hTw⟩ := hrel;obtain ⟨g, rfl⟩:∃ g', g=g'+1 := ⟨g - 1, by obtain ⟨j, h1, h2, -⟩ := hE.out; omega⟩;obtain ⟨m, hm⟩:∃ m, m=n+1 := ⟨_, rfl⟩;(have e1:IntKind.i64.wrap ((n:Int)+1)=(m:Int) := by rw [zX]; omega);have c4 := hM.out.cell (i := 5) (v := iv n) rfl;have f4 := hM.out.free 5;have hM1 := hid (hM.out.setRels m);have hf1 := hid (hf.out.setCell (p := ⟨pb, 5, none⟩) (Or.inl (show one pb pb from rfl)) (iv (m:Int)));have hT1 := hid (hTw.out.fr ((Fr.refl (one pb) wr).setCell (p := ⟨pb, 5, none⟩) (Or.inl (show one pb pb from rfl)) (iv (m:Int))));have hx := hid (fl (m:Int) _ (by omega) (by omega) (hid hT1.out.tab));obtain ⟨W, hW⟩:∃ W, W=wr.setCell ⟨pb, 5, none⟩ (iv (m:Int)) := ⟨_, rfl⟩;have hln := j5 m (by omega);obtain ⟨N, hNN⟩:∃ N, N=itoa (m:Int) := ⟨_, rfl⟩;rw [← hNN] at hx hln;replace hF := hid (show (if [97, 117, 120]++N∈cd K.ts then eB (cd K.ts) [97, 117, 120] g m else m)=R from by rw [hNN, hm]; exact hF.out);replace hNN := hid hNN;rw [← hW] at hM1 hf1 hT1 hx;(have hmb:m<=4611686018427387904 := by omega);replace hm := hid hm;go_wp2_with fail;rw [← hW];(with_reducible refine hx.out.mono ?_);rintro e w2 ⟨rfl, hb⟩;have hM2 := hid (hM1.out.below hb);have hf2 := hid (hf1.out.trans (Fr.of_below hb _));have hT2 := hid (hT1.out.below hb);have c3 := hM2.out.cell (i := 3) (v := rP K.mb) rfl;obtain ⟨s, hs⟩:∃ s, s=[97, 117, 120]++N := ⟨_, rfl⟩;(have hcat:ByteArray.mk #[97, 117, 120]++⟨N.toArray⟩=⟨s.toArray⟩ := by rw [hs]; simp [ByteArray.mk_append_mk]);have hlk := nW hM2.out hN.out s (by rw [hs]; simp; omega);rw [← hs] at hF;replace hs := hid hs;replace hW := hid hW
    by_cases hin:s∈cd K.ts
    · rw [zP hin] at hlk
      replace hF := hid ((if_pos hin).symm.trans hF.out);replace hin := hid hin;go_wp2_with fail
      go_roundg g
      case measure => omega
      case rel => exact ⟨m, g, rfl, by have := hm.out; omega, hF, hid (by
        obtain ⟨j, h1, h2, h3⟩ := hE.out;have hm' := hm.out;refine ⟨j - 1, ?_, by omega, by rw [show m+(j - 1)=n+j by omega]; exact h3⟩
        rcases Nat.lt_or_ge 1 j with h4 | h4
        · omega
        · have:j=1 := by omega
          subst this;rw [← hm', ← hNN.out, ← hs.out] at h3
          exact absurd hin.out h3), hM2, hf2, hT2⟩
    · rw [zO hin] at hlk
      replace hF := hid ((if_neg hin).symm.trans hF.out);replace hin := hid hin;go_wp2_with fail;go_ret;(have hse:s=[97, 117, 120]++itoa ((R:Nat):Int) := by rw [hs.out, hNN.out, hF.out]);rw [hZ.out, ← hse];exact ⟨rfl, by rw [← hF.out]; exact hM2.out, hf2.out⟩
end Go.Proofs.YtffdpoifdahadaaGreatDoor
namespace Go.Proofs.YtffdpoifdahadaaGreatDoor
open Go.RowKit
open Go.Lib (hid itoa)
open Classical in
noncomputable def seenF (seen:List (List UInt8)):Lit->Option Value := fun kl => match kl with
  | .string s => if s∈seen then some (.bool true) else none
  | _ => none
theorem iX (seen:List (List UInt8)) (s:List UInt8):∀ kl, WideAt.IsKeyLit kl->seenF (s::seen) kl=putF (seenF seen) (.string s) (.bool true) kl := by
  intro kl hk
  unfold putF
  by_cases e:kl=.string s
  · subst e; rw [if_pos rfl]; unfold seenF; simp
  · rw [if_neg e]
    unfold seenF
    cases kl with
    | string u =>
      (have hne:u≠s := fun e2 => e (by rw [e2]));simp [hne]
    | _ => rfl
theorem dk {w w':World} {b B:Nat} (h:w.grownBy w' (some b)) (hB:B<=b) (hw:B<=w.heap.size):Below B w w' :=
  ⟨h.os, h.tape, h.output, h.size, fun k hk => h.block k (by omega) (fun e => by injection e with e; omega)⟩
structure fG (w:World) (mb:Nat) (lc:Array Value) (k:Nat) (seen:List (List UInt8)) (acc:List Tm) (v:Value) (wr:World):Prop where
  below:Below w.heap.size w wr
  box:wr.heap[w.heap.size]? = some (.cells lc 24 (0, 0))
  res:wr.heap[w.heap.size+1]? = some (.cells (ap 0 false [] (.slice none 0 0)) 24 (0, 0))
  map:bR Tryz.prog 9 mb (k+2) (seenF seen) wr
  row:aO 63 7 FlR (fun q => w.heap.size+1 < q/\q≠mb) wr acc v
  hmb:w.heap.size+1 < mb
section
variable {w:World} {mb k:Nat} {lc:Array Value} {seen:List (List UInt8)} {acc:List Tm} {v:Value} {wr wr':World}
theorem fG.lt (h:fG w mb lc k seen acc v wr):w.heap.size+1 < wr.heap.size := Nat.lt_trans h.hmb h.map.lt
theorem fG.grow (h:fG w mb lc k seen acc v wr) (hb:Below wr.heap.size wr wr'):fG w mb lc k seen acc v wr' := by
  have hl := h.lt
  exact ⟨h.below.trans (hb.mono (by omega)), an hb h.box (by omega), an hb h.res (by omega), h.map.below hb h.map.lt, h.row.below aD hb, h.hmb⟩
theorem fG.mono (h:fG w mb lc k seen acc v wr):fG w mb lc (k+1) seen acc v wr := ⟨h.below, h.box, h.res, h.map.mono (by omega), h.row, h.hmb⟩
theorem fG.put (h:fG w mb lc k seen acc v wr) (hk:k<=1048576) (s:List UInt8) (hs:s.length<=1048576):∃ W, (Instr.mapUpdate 67 (.map (some mb)) (sv s) (.bool true)).run Tryz.prog wr=.ok () W/\fG w mb lc (k+1) (s::seen) acc v W/\Fr (one mb) wr W := by
  obtain ⟨W, h1, h2, h3⟩ := h.map.put (Maps.string_keyed Tryz.underlying9) (t := 67) (e := 4) Tryz.underlying67 (by unfold maxLen; omega) (dX s hs) trivial (.bool true)
  have hf:Fr (one mb) wr W := (Fr.refl _ wr).grown h3 (fun k hk => by injection hk with hk; exact Or.inl hk.symm)
  have hm := h.hmb
  have hl := h.lt
  refine ⟨W, h1, ⟨h.below.trans (hf.to_below (by omega) (fun k hk e => by unfold one at e; omega)), (hf.block _ (by omega) (by unfold one; omega)).trans h.box, (hf.block _ (by omega) (by unfold one; omega)).trans h.res, h2.congr (iX seen s), h.row.fr aD hf (fun k hk e => hk.2 e), hm⟩, hf⟩
theorem fG.push (h:fG w mb lc k seen acc v wr) (x:Tm) (hl:acc.length<=1048576):∃ a c W, cH Tryz.prog 22 22 22 v (.slice (some ⟨wr.heap.size, 0, none⟩) 1 1) (.slice a (acc.length+1) c) (wr.alloc (.cells (aB x) 63)) W/\fG w mb lc k seen (acc++[x]) (.slice a (acc.length+1) c) W := by
  have hlt := h.lt
  have hm := h.hmb
  have hml := h.map.lt
  obtain ⟨a, c, W, h1, h2, h3⟩ := re x h.row (fun q hq => ⟨by omega, by omega⟩) hl
  exact ⟨a, c, W, h1, ⟨h.below.trans (h3.to_below (by omega) (fun k hk e => by omega)), (h3.block _ (by omega) (by omega)).trans h.box, (h3.block _ (by omega) (by omega)).trans h.res, h.map.same (h3.block _ hml (fun e => e.2 rfl)), h2, hm⟩⟩
end
theorem mL {seen:List (List UInt8)} {t:Tm} {l:List Tm} (h:t.var∈seen):dg seen (t::l)=dg seen l := by rw [dg, if_pos h]
theorem kE {seen:List (List UInt8)} {t:Tm} {l:List Tm} (h:t.var ∉ seen):dg seen (t::l)=t::dg (t.var::seen) l := by rw [dg, if_neg h]
theorem jw:∀ (l:List Tm) (s1 s2:List (List UInt8)), (∀ x, x∈s1 ↔ x∈s2)->dg s1 l=dg s2 l
  | [], _, _, _ => rfl
  | t::l, s1, s2, h => by
    by_cases e:t.var∈s1
    · rw [mL e, mL ((h _).1 e), jw l s1 s2 h]
    · rw [kE e, kE (fun e2 => e ((h _).2 e2)), jw l (t.var::s1) (t.var::s2) (fun x => by simp only [Ae, h x])]
theorem tP {mb N:Nat} {seen:List (List UInt8)} {w:World} (h:bR Tryz.prog 9 mb N (seenF seen) w) (s:List UInt8) (hs:s.length<=1048576) :
    (Instr.lookup 67 (.map (some mb)) (sv s) false).run Tryz.prog w=.ok (.bool (decide (s∈seen))) w := by
  have := h.look (Maps.string_keyed Tryz.underlying9) (t := 67) (e := 4) Tryz.underlying67 (z := .bool false) (by kernel_rfl) (dX s hs) trivial
  rw [this]
  unfold seenF
  by_cases e:s∈seen
  · simp [e]
  · simp [e]
theorem jF (rel:List UInt8) (l:Lt) (ts:List Tm) (S1 S2:aP) (v tv:Value) (w:World) (hv:SlR 7 FlR S1 w l.args v) (ht:SlR 7 FlR S2 w ts tv) (hl:ts.length+l.args.length<=1048576) (hvar:∀ t∈l.args, t.var.length<=1048576) :
    Calls Tryz.prog 118 #[sv rel, .agg (ap l.op l.nt l.rel v), tv] w (PL1 w (bq rel l ts)) := by
  obtain ⟨a0, c0, rfl⟩:∃ a c, v=.slice a l.args.length c := by obtain ⟨a, c, e, _⟩ := hv.slice; exact ⟨a, c, e⟩
  obtain ⟨a1, c1, rfl⟩:∃ a c, tv=.slice a ts.length c := by obtain ⟨a, c, e, _⟩ := ht.slice; exact ⟨a, c, e⟩
  obtain ⟨op, nt, lrel, args⟩ := l
  replace hl:ts.length+args.length<=1048576 := hl
  replace hv := hid hv
  replace ht := hid ht
  replace hvar := hid hvar
  obtain ⟨h1, h2, h3, hz, hb⟩ := pa w (.cells (ap op nt lrel (.slice a0 args.length c0)) 24) (.cells #[.int .i64 0, .bool false, .string ⟨#[]⟩, .slice none 0 0] 24) (.cells #[] 63)
  obtain ⟨ar, cr, W5, hap, hO, hF⟩ := sF (S := fun q => w.heap.size+1 < q) (fg (l := []) h3 (by show 0<=maxLen; decide) (by omega)) (ht.out.below aD hb) (fun q hq => by omega) (by simp; omega)
  replace hap:cH Tryz.prog 22 22 22 (.slice (some ⟨w.heap.size+1+1, 0, none⟩) 0 0) (.slice a1 ts.length c1) (.slice ar (0+ts.length) cr) _ W5 := hap
  rw [Nat.zero_add] at hap
  replace hO := hid (show aO 63 7 FlR (fun q => w.heap.size+1 < q) W5 ts (.slice ar ts.length cr) from by have := hO; rw [List.nil_append, z_, Nat.zero_add] at this; exact this)
  have hb5 := hid (hb.trans (hF.to_below (B := w.heap.size) (by omega) (fun k hk e => by omega)))
  have g1 := hid ((hF.block _ (by omega) (by omega)).trans h1)
  have g2 := hid ((hF.block _ (by omega) (by omega)).trans h2)
  have hz5 := hid (show w.heap.size+1 < W5.heap.size from by have := hF.size; omega)
  clear h1 h2 h3 hb hF ht
  replace hz := hid hz
  have hmm := @run_makeMap Tryz.prog
  obtain ⟨W6, hu1, hm6, hg6⟩ := (bR.made (P := Tryz.prog) (k := 9) W5).put (Maps.string_keyed Tryz.underlying9) (t := 67) (e := 4) Tryz.underlying67 (by decide) (dX [] (by decide)) trivial (.bool true)
  obtain ⟨W7, hu2, hm7, hg7⟩ := hm6.put (Maps.string_keyed Tryz.underlying9) (t := 67) (e := 4) Tryz.underlying67 (by decide) (dX [95] (by decide)) trivial (.bool true)
  have hbM:Below W5.heap.size W5 W7 := ((zN W5.heap.size W5).alloc (zM _) (.map #[] 0)).trans ((dk hg6 (zM _) (by simp)).trans (dk hg7 (zM _) (zV (by simp) hg6.size)))
  have hz5' := hz5.out
  have hS7 := hid (show fG w W5.heap.size (ap op nt lrel (.slice a0 args.length c0)) 0 [[95], []] ts (.slice ar ts.length cr) W7 from
    ⟨hb5.out.trans (hbM.mono hb5.out.size), an hbM g1.out (by omega), an hbM g2.out (by omega),
     (hm7.mono (by omega)).congr (fun kl hk => by
        rw [iX _ _ kl hk];unfold putF
        by_cases e:kl=.string [95]
        · rw [if_pos e, if_pos e]
        · rw [if_neg e, if_neg e, iX _ _ kl hk]
          unfold putF
          by_cases e2:kl=.string []
          · rw [if_pos e2, if_pos e2]
          · rw [if_neg e2, if_neg e2]; unfold seenF; cases kl <;> simp),
     hO.out.move aD fun k hk hk2 => ⟨⟨hk2, by omega⟩, hbM.block k hk⟩, hz5.out⟩)
  obtain ⟨b0, b1, b2, b3, -⟩ := aK hS7.out.box
  have hseen:∀ l:List Tm, dg [[], [95]] l=dg [[95], []] l := fun l => jw l _ _ (fun x => by simp [or_comm])
  obtain ⟨RES, hRES⟩:∃ RES, RES=ts++dg [[95], []] args := ⟨_, rfl⟩
  have hWF := hid (show bq rel ⟨op, nt, lrel, args⟩ ts=⟨0, false, rel, RES⟩ from by unfold bq; rw [hRES, hseen])
  replace hRES := hid hRES
  obtain ⟨mb, hmb⟩:∃ mb, mb=W5.heap.size := ⟨_, rfl⟩
  rw [← hmb] at hS7
  have hmm' := hmm 67 W5
  rw [← hmb] at hmm' hu1 hu2
  clear hmm hm6 hm7 hg6 hg7 hbM g1 g2 hO hb5 hseen hz5'
  replace hmb := hid hmb
  replace hz5 := hid hz5.out
  go_enter Tryz.func118, Tryz.ntmps118
  go_wp2_with (first | (at_builtin; refine aU rfl (.tmp 11) (.tmp 12) rfl rfl rfl hap ?_))
  clear hap hmm' hu1 hu2 b0 b1 b2 b3
  go_loopg [7, 19] args.length (fun g v i wr => ∃ (k:Nat) (seen:List (List UInt8)) (acc:List Tm) (a:Option Addr) (c:Nat), v=.slice a acc.length c/\i=iv k/\k+g=args.length/\acc.length<=ts.length+k/\Hid (acc++dg seen (args.drop k)=RES)/\Hid (fG w mb (ap op nt lrel (.slice a0 args.length c0)) k seen acc v wr))
  case atStart => exact ⟨0, [[95], []], ts, ar, cr, rfl, rfl, by omega, by omega, hid hRES.out.symm, hS7⟩
  case round =>
    obtain ⟨k, seen, acc, a, c, rfl, rfl, hk, hal, hE, hS⟩ := hrel;have hv1 := hv.out.below aD hS.out.below
    by_cases hlt:k < args.length
    · have q1:decide ((k:Int) < (args.length:Int))=true := zP (by omega)
      obtain ⟨x, hx⟩:∃ x, args[k]? = some x := ⟨_, zR hlt⟩;(have hdr:args.drop k=x::args.drop (k+1) := by rw [Ac hlt]; congr 1; rw [zR hlt] at hx; injection hx);rw [hdr] at hE;have hxv := hvar.out x (zU hx);obtain ⟨g, o, cs, hidx, -, hg, hc, hr⟩ := hv1.at (P := Tryz.prog) (t := 22) (by kernel_rfl) (fun _ => by kernel_rfl) hx;have hr':cs=(aB x).toList := hr;subst hr';have d0 := hc 0 _ rfl;have d1 := hc 1 _ rfl;have d2 := hc 2 _ rfl;have d3 := hc 3 _ rfl;have d4 := hc 4 _ rfl;have d5 := hc 5 _ rfl;have d6 := hc 6 _ rfl;rw [Nat.add_zero] at d0;have hbT:Below wr.heap.size wr (wr.alloc (.cells (aB x) 63)) := (zN _ _).alloc (zM _) _;have hS1 := hid (hS.out.grow hbT);have hrT := af wr (.cells (aB x) 63);obtain ⟨m0, m1, m2, m3, m4, m5, m6, -⟩ := aH hrT;have hlk := tP (hS.out.map.below hbT hS.out.map.lt) x.var hxv;(have e1:IntKind.i64.wrap ((k:Int)+1)=((k+1:Nat):Int) := by rw [zX]; omega);(have hsT:wr.heap.size < (wr.alloc (.cells (aB x) 63)).heap.size := by simp);clear hc hr hdr
      by_cases hin:x.var∈seen
      · rw [zP hin] at hlk
        replace hE := hid (show acc++dg seen (args.drop (k+1))=RES from by rw [← hE.out, mL hin]);replace hin := hid hin;replace hrT := hid hrT;clear hv1;go_wp2_with fail
        go_roundg (args.length - (k+1))
        case measure => omega
        case rel => exact ⟨k+1, seen, acc, a, c, rfl, by go_num, by omega, by omega, hE, hid hS1.out.mono⟩
      · rw [zO hin] at hlk
        replace hE := hid (show (acc++[x])++dg (x.var::seen) (args.drop (k+1))=RES from by rw [← hE.out, kE hin, Ad]; rfl);replace hin := hid hin;obtain ⟨W2, hu, hS2, hf2⟩ := hS1.out.put (by omega) x.var hxv;have hml := hS.out.map.lt;obtain ⟨n0, n1, n2, n3, n4, n5, n6, -⟩ := aH ((hf2.block wr.heap.size hsT (by unfold one; omega)).trans hrT);obtain ⟨a', c', W3, hap, hS3⟩ := hS2.push x (by omega);replace hS2 := hid hS2;replace hS3 := hid hS3;replace hrT := hid hrT;clear hf2 hv1
        go_wp2_with (first | (at_builtin; refine aU rfl (.tmp 31) (.tmp 33) rfl rfl rfl hap ?_))
        go_roundg (args.length - (k+1))
        case measure => omega
        case rel => exact ⟨k+1, x.var::seen, acc++[x], a', c', by simp, by go_num, by omega, by simp; omega, hE, hS3⟩
    · have q1:decide ((k:Int) < (args.length:Int))=false := zO (by omega)
      (have hke:k=args.length := by omega);replace hE := hid (show acc=RES from by have := hE.out; rw [hke, List.drop_length] at this; simpa [dg] using this);obtain ⟨q0, q1', q2, q3, fz⟩ := aK hS.out.res;have fz0 := fz 0;have fz1 := fz 1;have fz2 := fz 2;have fz3 := fz 3;clear fz hv1;replace hke := hid hke;go_wp2_with fail;refine bodyPost_ret (v := .agg (ap 0 false rel (.slice a acc.length c))) (results_cell_row (by rfl) _ _ (w.heap.size+1) 24 _ (0, 0) _ (by rfl) (e_ hS.out.res 0 false rel (.slice a acc.length c)) Tryz.underlying24 rfl (by kernel_rfl)) rfl ?_;rw [hWF.out, ← hE.out];refine ⟨_, rfl, hS.out.row.move aD fun k hk hk2 => ⟨by unfold aF; omega, bU (by omega)⟩, ((Fr.of_below hS.out.below nS).setLt (by omega) 0 false rel _).to_below (zM _) (fun _ _ h => h)⟩
end Go.Proofs.YtffdpoifdahadaaGreatDoor
