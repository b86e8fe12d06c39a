/- AskL: AskK, AskL, in one text. -/
import Derived.Test.YtffdpoifdahadaaGreatDoorAskJ
import Derived.Lib.ItoaLen
set_option linter.unusedVariables false
namespace Go.Proofs.YtffdpoifdahadaaGreatDoor
open Go.RowKit
open Go.Lib (hid itoa)
/-- the table of powers of ten; it does not lie in the parser's block -/
def TabN (pb : Nat) (w : World) : Prop := ∃ g cs t f, Tryz.prog.globalNamed "internal/strconv.uint64pow10" = some g ∧ g ≠ pb ∧ w.heap[g]? = some (.cells cs t f) ∧ cs = (Lib.pow10Tab.map fun z => Value.int .u64 z).toArray
theorem TabN.tab {pb:Nat} {w:World} (h:TabN pb w):Tab w:=by
 obtain ⟨g,cs,t,f,h1,h2,h3,h4⟩:=h; unfold Tab Lib.TabIs World.var?; rw [h1,← h4]; show (match w.heap[g]? with | some (.cells cs _ _)=>some cs | _=>none)=some cs; rw [h3]
theorem TabN.of {w:World} {pb:Nat} (h:Tab w) (hp:w.heap.size≤pb):TabN pb w:=by
 unfold Tab Lib.TabIs World.var? at h; rcases hg : Tryz.prog.globalNamed "internal/strconv.uint64pow10" with _ | g
 ·rw [hg] at h; cases h
 ·rw [hg] at h
  replace h:(match w.heap[g]? with | some (.cells cs _ _)=>some cs | _=>none)=some (Lib.pow10Tab.map fun z=>Value.int .u64 z).toArray:=h; rcases ho:w.heap[g]? with _ | o
  ·rw [ho] at h; cases h
  ·rw [ho] at h
   cases o with
   | cells cs t f=>exact ⟨g,cs,t,f,hg,by have:=lt_of_some ho; omega,ho,by injection h⟩
   | _=>cases h
theorem TabN.fr {pb:Nat} {w w':World} (h:TabN pb w) (hf:Fr (one pb) w w'):TabN pb w':=by
 obtain ⟨g,cs,t,f,h1,h2,h3,h4⟩:=h; exact ⟨g,cs,t,f,h1,h2,(hf.block g (lt_of_some h3) h2).trans h3,h4⟩
theorem TabN.below {pb:Nat} {w w':World} (h:TabN pb w) (hb:Below w.heap.size w w'):TabN pb w':=h.fr (Fr.of_below hb _)
/-- no temporal word -/
def noTw (t:Tw):Bool:=!(t.text == [111,110,99,101] || t.text == [110,101,118,101,114] || t.text == [115,105,110,99,101])
def NamesOk (K:PK):Prop:=K.ts.all noTw=true
theorem noTw_at {ts:List Tw} (h:ts.all noTw=true) (st:PSt):isP ts st 1 [111,110,99,101]=false∧isP ts st 1 [110,101,118,101,114]=false∧isP ts st 1 [115,105,110,99,101]=false:=by
 have key:noTw (tokP ts st.nx)=true:=by
  unfold tokP; rw [List.getD_eq_getElem?_getD]; rcases e:ts[st.nx]? with _ | t
  ·rfl
  ·exact List.all_eq_true.1 h t (List.mem_of_getElem? e)
 unfold isP; unfold noTw at key; simp only [Bool.not_eq_true',Bool.or_eq_false_iff] at key; rw [key.1.1,key.1.2,key.2]; simp
theorem keyLitA (s:List UInt8) (h:s.length≤1048576):keyOf Tryz.prog 9 (sv s)=some (.string s):=by
 have:=WideMaps.keyOf_string_mk (P:=Tryz.prog) (k:=9) Tryz.underlying9 (s:=⟨s.toArray⟩) (by rw [ByteArray.size_mk',List.size_toArray]; unfold maxLen; omega); simpa using this
theorem itoa_len (n:Nat) (h:n≤4611686018427387904):(itoa (n:Int)).length≤100:=Nat.le_trans (Lib.itoa_length_le _ (by omega) (by omega)) (by decide)
end Go.Proofs.YtffdpoifdahadaaGreatDoor
namespace Go.Proofs.YtffdpoifdahadaaGreatDoor
open Go.RowKit
open Go.Lib (hid itoa)
open Classical in
noncomputable def seenF (seen:List (List UInt8)):Lit→Option Value:=fun kl=>match kl with
 | .string s=>if s∈seen then some (.bool true) else none
 | _=>none
theorem seenF_put (seen:List (List UInt8)) (s:List UInt8):∀ kl,WideAt.IsKeyLit kl→seenF (s::seen) kl=putF (seenF seen) (.string s) (.bool true) kl:=by
 intro kl hk; unfold putF; by_cases e:kl=.string s
 ·subst e; rw [if_pos rfl]; unfold seenF; simp
 ·rw [if_neg e]
  unfold seenF
  cases kl with
  | string u =>
   have hne:u≠s:=fun e2=>e (by rw [e2])
   simp [hne]
  | _=>rfl
theorem grown_below {w w':World} {b B:Nat} (h:w.grownBy w' (some b)) (hB:B≤b) (hw:B≤w.heap.size):Below B w w' :=
 ⟨h.os,h.tape,h.output,h.size,fun k hk=>h.block k (by omega) (fun e=>by injection e with e; omega)⟩
/-- with's memory while it looks at the arguments -/
structure WithM (w:World) (mb:Nat) (lc:Array Value) (k:Nat) (seen:List (List UInt8)) (acc:List Tm) (v:Value) (wr:World):Prop where
 below:Below w.heap.size w wr
 box:wr.heap[w.heap.size]? = some (.cells lc 24 (0,0))
 res:wr.heap[w.heap.size+1]? = some (.cells (lcells 0 false [] (.slice none 0 0)) 24 (0,0))
 map:MapV Tryz.prog 9 mb (k+2) (seenF seen) wr
 row:OwnR 63 7 FlR (fun q=>w.heap.size+1 < q∧q≠mb) wr acc v
 hmb:w.heap.size+1 < mb
section
variable {w:World} {mb k:Nat} {lc:Array Value} {seen:List (List UInt8)} {acc:List Tm} {v:Value} {wr wr':World}
theorem WithM.lt (h:WithM w mb lc k seen acc v wr):w.heap.size+1 < wr.heap.size:=Nat.lt_trans h.hmb h.map.lt
theorem WithM.grow (h:WithM w mb lc k seen acc v wr) (hb:Below wr.heap.size wr wr'):WithM w mb lc k seen acc v wr':=by
 have hl:=h.lt; exact ⟨h.below.trans (hb.mono (by omega)),below_keep hb h.box (by omega),below_keep hb h.res (by omega),h.map.below hb h.map.lt,h.row.below goodFl hb,h.hmb⟩
theorem WithM.mono (h:WithM w mb lc k seen acc v wr):WithM w mb lc (k+1) seen acc v wr:=⟨h.below,h.box,h.res,h.map.mono (by omega),h.row,h.hmb⟩
theorem WithM.put (h:WithM w mb lc k seen acc v wr) (hk:k≤1048576) (s:List UInt8) (hs:s.length≤1048576):∃ W,(Instr.mapUpdate 67 (.map (some mb)) (sv s) (.bool true)).run Tryz.prog wr=.ok () W∧WithM w mb lc (k+1) (s::seen) acc v W∧Fr (one mb) wr W:=by
 obtain ⟨W,h1,h2,h3⟩:=h.map.put (Maps.string_keyed Tryz.underlying9) (t:=67) (e:=4) Tryz.underlying67 (by unfold maxLen; omega) (keyLitA s hs) trivial (.bool true); have hf:Fr (one mb) wr W:=(Fr.refl _ wr).grown h3 (fun k hk=>by injection hk with hk; exact Or.inl hk.symm); have hm:=h.hmb; have hl:=h.lt; refine ⟨W,h1,⟨h.below.trans (hf.to_below (by omega) (fun k hk e=>by unfold one at e; omega)),(hf.block _ (by omega) (by unfold one; omega)).trans h.box,(hf.block _ (by omega) (by unfold one; omega)).trans h.res,h2.congr (seenF_put seen s),h.row.fr goodFl hf (fun k hk e=>hk.2 e),hm⟩,hf⟩
theorem WithM.push (h:WithM w mb lc k seen acc v wr) (x:Tm) (hl:acc.length≤1048576):∃ a c W,AppRun Tryz.prog 22 22 22 v (.slice (some ⟨wr.heap.size,0,none⟩) 1 1) (.slice a (acc.length+1) c) (wr.alloc (.cells (fcells x) 63)) W∧WithM w mb lc k seen (acc++[x]) (.slice a (acc.length+1) c) W:=by
 have hlt:=h.lt; have hm:=h.hmb; have hml:=h.map.lt; obtain ⟨a,c,W,h1,h2,h3⟩:=tmPush x h.row (fun q hq=>⟨by omega,by omega⟩) hl; exact ⟨a,c,W,h1,⟨h.below.trans (h3.to_below (by omega) (fun k hk e=>by omega)),(h3.block _ (by omega) (by omega)).trans h.box,(h3.block _ (by omega) (by omega)).trans h.res,h.map.same (h3.block _ hml (fun e=>e.2 rfl)),h2,hm⟩⟩
end
end Go.Proofs.YtffdpoifdahadaaGreatDoor
