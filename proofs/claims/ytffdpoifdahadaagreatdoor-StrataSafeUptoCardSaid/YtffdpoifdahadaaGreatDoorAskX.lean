/- AskX: AskXa, AskX, in one text. -/
import Derived.Test.YtffdpoifdahadaaGreatDoorAskW
import Derived.Test.YtffdpoifdahadaaGreatDoorLexB
set_option linter.unusedVariables false
namespace Go.Proofs.YtffdpoifdahadaaGreatDoor
open Go.RowKit
open Go.Lib (hid itoa)
theorem litsP_g (ts:List Tw):∀ (f:Nat) (st:PSt) (body:List Lt) (aux:List Ru),st.nx≤ts.length→ts.length < f+st.nx→∃ c,Gr ts.length c st (litsP ts f st body aux).1.isSome (litsP ts f st body aux).2
 | 0,st,_,_,h1,h2=>by omega
 | f+1,st,body,aux,h1,h2=>by
  rw [litsP_eq]; have h:=(literalP_g ts st h1).1; have hl:=literalP_lt ts st h1; generalize literalP ts st=r at *; obtain ⟨o,s⟩:=r
  cases o with
  | none=>exact ⟨_,h⟩
  | some q =>
   obtain ⟨ls,au⟩:=q; have hl':st.nx < s.nx:=hl rfl; show ∃ c,Gr ts.length c st (if isP ts s 4 [44]=true then litsP ts f (nextP s) (body++ls) (aux++au) else (some (body++ls,aux++au),s)).1.isSome (if isP ts s 4 [44]=true then litsP ts f (nextP s) (body++ls) (aux++au) else (some (body++ls,aux++au),s)).2; split
   ·rename_i hz
    have h4:=is_lt (by decide) hz; have h5:(nextP s).nx=s.nx+1:=rfl; obtain ⟨c,hc⟩:=litsP_g ts f (nextP s) (body++ls) (aux++au) (by omega) (by omega); exact ⟨_,(h.trans (Gr.next h4)).trans hc⟩
   ·exact ⟨_,h⟩
theorem ruleP_g (ts:List Tw) (st:PSt) (hst:st.nx≤ts.length):(∃ c,Gr ts.length c st (ruleP ts st).1.isSome (ruleP ts st).2)∧((ruleP ts st).1.isSome=true→st.nx < (ruleP ts st).2.nx):=by
 rw [ruleP_eq]; have h:=headP_g ts st hst; generalize headP ts st=r at *; obtain ⟨o,s⟩:=r
 cases o with
 | none=>exact ⟨⟨_,h.1⟩,fun e=>by cases e⟩
 | some x =>
  have hl:st.nx < s.nx:=h.2 rfl; show (∃ c,Gr ts.length c st (ruleE ts x (if isP ts s 4 [58,45]=true then litsP ts (ts.length+1) (nextP s) [] [] else (some ([],[]),s))).1.isSome (ruleE ts x (if isP ts s 4 [58,45]=true then litsP ts (ts.length+1) (nextP s) [] [] else (some ([],[]),s))).2)∧_
  have h2:∃ c,Gr ts.length c st (if isP ts s 4 [58,45]=true then litsP ts (ts.length+1) (nextP s) [] [] else (some ([],[]),s)).1.isSome (if isP ts s 4 [58,45]=true then litsP ts (ts.length+1) (nextP s) [] [] else (some ([],[]),s)).2∧s.nx≤(if isP ts s 4 [58,45]=true then litsP ts (ts.length+1) (nextP s) [] [] else (some ([],[]),s)).2.nx:=by
   split
   ·rename_i hz
    have h4:=is_lt (by decide) hz; obtain ⟨c,hc⟩:=litsP_g ts (ts.length+1) (nextP s) [] [] h4 (by omega); exact ⟨_,(h.1.trans (Gr.next h4)).trans hc,Nat.le_trans (Nat.le_succ _) hc.nx⟩
   ·exact ⟨_,h.1,Nat.le_refl _⟩
  obtain ⟨c,hc,hn⟩:=h2; show (∃ c,Gr ts.length c st (ruleE ts x _).1.isSome (ruleE ts x _).2)∧((ruleE ts x (if isP ts s 4 [58,45]=true then litsP ts (ts.length+1) (nextP s) [] [] else (some ([],[]),s))).1.isSome=true→st.nx < (ruleE ts x (if isP ts s 4 [58,45]=true then litsP ts (ts.length+1) (nextP s) [] [] else (some ([],[]),s))).2.nx); generalize (if isP ts s 4 [58,45]=true then litsP ts (ts.length+1) (nextP s) [] [] else (some ([],[]),s))=r at *; obtain ⟨o,s2⟩:=r
  cases o with
  | none=>exact ⟨⟨_,hc⟩,fun e=>by cases e⟩
  | some q =>
   obtain ⟨body,aux⟩:=q; rw [ruleE_eq]; simp only at hn; split
   ·rename_i hz; exact ⟨⟨_,hc.trans (Gr.next (is_lt (by decide) hz))⟩,fun _=>by show st.nx < s2.nx+1; omega⟩
   ·exact ⟨⟨_,hc.trans (Gr.fail _)⟩,fun e=>by cases e⟩
def QErr (r:Option Qu × PSt):Prop:=match r.1 with
 | some _=>r.2.err=none
 | none=>∃ e i,r.2.err=some (e,i)∧e≠0
theorem goalP_e (ts:List Tw) (rules:List Ru) (st:PSt) (he:st.err=none) (hst:st.nx≤ts.length):QErr (goalE ts rules (atomP ts st)):=by
 have h:=(atomP_g ts st hst).1; generalize atomP ts st=r at *; obtain ⟨o,s⟩:=r
 cases o with
 | none=>obtain ⟨i,hi⟩:=h.bad rfl; exact ⟨_,_,hi,by decide⟩
 | some l =>
  have h1:s.err=none:=(h.ok rfl).trans he; unfold goalE; simp only; split
  ·exact ⟨2,s.nx,rfl,by decide⟩
  ·exact h1
theorem queryP_e (ts:List Tw):∀ (f:Nat) (st:PSt) (rules:List Ru),st.err=none→st.nx≤ts.length→ts.length < f+st.nx→QErr (queryP ts f st rules)
 | 0,st,_,_,h1,h2=>by omega
 | f+1,st,rules,he,h1,h2=>by
  rw [queryP_eq]; split
  ·rename_i hz
   exact goalP_e ts rules (nextP st) he (is_lt (by decide) hz)
  ·obtain ⟨⟨c,h⟩,hl⟩:=ruleP_g ts st h1
   generalize ruleP ts st=r at *; obtain ⟨o,s⟩:=r
   cases o with
   | none=>obtain ⟨i,hi⟩:=h.bad rfl; exact ⟨_,_,hi,by decide⟩
   | some rs =>
    unfold queryE; simp only; split
    ·exact ⟨3,st.nx,rfl,by decide⟩
    ·have hl':st.nx < s.nx:=hl rfl
     exact queryP_e ts f s (rules++rs) ((h.ok rfl).trans he) (h.top h1) (by omega)
end Go.Proofs.YtffdpoifdahadaaGreatDoor
set_option linter.unusedSimpArgs false
namespace Go.Proofs.YtffdpoifdahadaaGreatDoor
open Go.RowKit
open Go.Lib (hid itoa)
/-- Parse's memory while it collects the names -/
structure PL (w:World) (sz:Nat) (toks:List Tk) (ta:Option Addr) (tc mb pb k:Nat) (seen:List (List UInt8)) (wr:World):Prop where
 below:Below w.heap.size w wr
 res:wr.heap[w.heap.size]? = some (.cells (qcells (.slice none 0 0) 0 false [] (.slice none 0 0)) 32 (0,0))
 map:MapV Tryz.prog 9 mb k (seenF seen) wr
 blk:wr.heap[pb]? = some (.cells #[.slice ta toks.length tc,iv 0,iv sz,mapv mb,iv 0,iv 0,iv 0,iv 0] 93 (0,0))
 tok:OwnR 95 4 TkR (fun q=>q≠mb∧q≠pb) wr toks (.slice ta toks.length tc)
 h1:w.heap.size < mb
 h2:mb < pb
section
variable {w:World} {sz tc mb pb k:Nat} {toks:List Tk} {ta:Option Addr} {seen:List (List UInt8)} {wr wr':World}
theorem PL.lt (h:PL w sz toks ta tc mb pb k seen wr):pb < wr.heap.size:=lt_of_heap h.blk
theorem PL.grow (h:PL w sz toks ta tc mb pb k seen wr) (hb:Below wr.heap.size wr wr'):PL w sz toks ta tc mb pb k seen wr':=by
 have hl:=h.lt; have e1:=h.h1; have e2:=h.h2; exact ⟨h.below.trans (hb.mono (by omega)),below_keep hb h.res (by omega),h.map.below hb h.map.lt,below_keep hb h.blk hl,h.tok.below goodTk hb,e1,e2⟩
theorem PL.mono (h:PL w sz toks ta tc mb pb k seen wr):PL w sz toks ta tc mb pb (k+1) seen wr:=⟨h.below,h.res,h.map.mono (by omega),h.blk,h.tok,h.h1,h.h2⟩
theorem PL.put (h:PL w sz toks ta tc mb pb k seen wr) (hk:k≤1048576) (s:List UInt8) (hs:s.length≤1048576):∃ W,(Instr.mapUpdate 67 (.map (some mb)) (sv s) (.bool true)).run Tryz.prog wr=.ok () W∧PL w sz toks ta tc mb pb (k+1) (s::seen) W∧Fr (one mb) wr W:=by
 obtain ⟨W,h1,h2,h3⟩:=h.map.put (Maps.string_keyed Tryz.underlying9) (t:=67) (e:=4) Tryz.underlying67 (by unfold maxLen; omega) (keyLitA s hs) trivial (.bool true); have hf:Fr (one mb) wr W:=(Fr.refl _ wr).grown h3 (fun k hk=>by injection hk with hk; exact Or.inl hk.symm); have hl:=h.lt; have e1:=h.h1; have e2:=h.h2; refine ⟨W,h1,⟨h.below.trans (hf.to_below (by omega) (fun k hk e=>by unfold one at e; omega)),(hf.block _ (by omega) (by unfold one; omega)).trans h.res,h2.congr (seenF_put seen s),(hf.block _ (by omega) (by unfold one; omega)).trans h.blk,h.tok.fr goodTk hf (fun k hk e=>hk.1 e),e1,e2⟩,hf⟩
end
theorem names_step (toks:List Tk) (k:Nat) (x:Tk) (hx:toks[k]? = some x):namesP ((toks.take (k+1)).map tw)=namesP ((toks.take k).map tw)++(if x.kind=1 then [x.text] else []):=by
 have hlt:=(List.getElem?_eq_some_iff.1 hx).1
 have e:toks.take (k+1)=toks.take k++[x]:=by
  rw [List.take_add_one,hx]; rfl
 rw [e,List.map_append]; unfold namesP; rw [List.filterMap_append]
 congr 1
 by_cases h:x.kind=1
 ·simp [tw,h]
 ·simp [tw,h]
/-- what Parse answers -/
def PParse (w:World) (r:Except (Int × Int) Qu) (e:Ending) (w':World):Prop :=
 Below w.heap.size w w'∧match r with
 | .ok q=>∃ rv av zs,e=.returned (.tuple #[.agg (qcells rv q.goal.op q.goal.nt q.goal.rel av),iv 0,iv 0])∧OwnR 27 7 RuR (from_ w.heap.size) w' zs rv∧zs.map RuD.ru=q.rules∧OwnR 63 7 FlR (from_ w.heap.size) w' q.goal.args av
 | .error x=>e=.returned (.tuple #[.agg (qcells (.slice none 0 0) 0 false [] (.slice none 0 0)),iv x.1,iv x.2])
theorem results_pq {fn:Func} {p u v:Tmp} (h:fn.results=#[.cell p 32,.tmp u,.tmp v]) (tmps:Array Value) (w:World) (R:Nat) (cs:Array Value) (x y:Int) (hp:tmps.getD p undef=.pointer (some ⟨R,0,none⟩)) (hu:tmps.getD u undef=iv x) (hv:tmps.getD v undef=iv y) (hR:w.heap[R]? = some (.cells cs 32 (0,0))) (hs:(Tryz.prog.info? 32).map (·.size)=some cs.size) :
  (results fn tmps).run Tryz.prog w=.ok (.tuple #[.agg cs,iv x,iv y]) w:=by
 rw [Array.getD_eq_getD_getElem?] at hp hu hv; simp only [results,h]; simp [Sem.run_bind,Result.andThen,hp,hu,hv,asAddr,Sem.run_pure,run_loadVar_row w R 32 32 cs (0,0) _ hR Tryz.underlying32 rfl hs]
def parseE (s:List UInt8) (l:List Tk):Option Qu × PSt→Except (Int × Int) Qu
 | (some q,_)=>.ok q
 | (none,st)=>match st.err with
   | some (e,i)=>.error (e,posF l s.length i)
   | none=>.error (0,0)
def parseS (s:List UInt8):Except (Int × Int) (List Tk)→Except (Int × Int) Qu
 | .error x=>.error x
 | .ok l=>parseE s l (queryP (l.map tw) ((l.map tw).length+1) st0 [])
theorem parse_eq (s:List UInt8):parseF s=parseS s (scanF s):=by
 unfold parseF; generalize scanF s=r
 cases r with
 | error x=>rfl
 | ok l =>
  show (match queryP (l.map tw) (l.length+1) st0 [] with
  | (some q,_)=>.ok q
  | (none,st)=>match st.err with
   | some (e,i)=>.error (e,posF l s.length i)
   | none=>.error (0,0))=parseE s l (queryP (l.map tw) ((l.map tw).length+1) st0 [])
  rw [List.length_map]; generalize queryP (l.map tw) (l.length+1) st0 []=q; obtain ⟨o,st⟩:=q
  cases o with
  | some q=>rfl
  | none=>rfl
def noS (s:List UInt8):Bool:=match scanF s with
 | .ok l=>(l.map tw).all noTw
 | .error _=>true
set_option maxHeartbeats 8000000 in
set_option maxRecDepth 100000 in
theorem askParse_any (s:List UInt8) (w:World) (hs:s.length≤1000000) (hno:noS s=true) (hTab:Tab w) :
  Calls Tryz.prog 19 #[sv s] w (PParse w (parseF s)):=by
 obtain ⟨R,hR⟩:∃ R,R=parseF s:=⟨_,rfl⟩; rw [← hR]; rw [parse_eq] at hR; have hbq:=hid ((Below.refl w.heap.size w).alloc (Nat.le_refl _) (.cells (qcells (.slice none 0 0) 0 false [] (.slice none 0 0)) 32)); have hscan:=hid (scan_any s (w.alloc (.cells (qcells (.slice none 0 0) 0 false [] (.slice none 0 0)) 32)) hs)
 have hsok:=fun l (h:scanF s=.ok l)=>scanF_ok h
 have hnt:=hid (fun l (h:scanF s=.ok l)=>(show (l.map tw).all noTw=true from by unfold noS at hno; rw [h] at hno; exact hno)); obtain ⟨rs,hrs⟩:∃ rs,rs=scanF s:=⟨_,rfl⟩; rw [← hrs] at hscan hR hsok; replace hnt:=hnt.out; rw [← hrs] at hnt; replace hnt:=hid hnt; replace hno:=hid hno; replace hrs:=hid hrs; replace hR:=hid hR; have hmm:=@run_makeMap Tryz.prog; replace hTab:=hid hTab
 go_enter Tryz.func19,Tryz.ntmps19
 go_wp2_with fail
 with_reducible refine hscan.out.mono ?_
 rintro e w1 ⟨hb1,hres⟩; have hR0:=below_keep hb1 (heap_alloc_new' w (.cells (qcells (.slice none 0 0) 0 false [] (.slice none 0 0)) 32)) (by simp); obtain ⟨r0,r1,r2,r3,r4,rz⟩:=q_cells hR0; have rz0:=rz 0; have rz1:=rz 1; have rz2:=rz 2; have rz3:=rz 3; have rz4:=rz 4; clear rz; have hb1':=hid (hbq.out.trans (hb1.mono (by simp)))
 cases rs with
 | error x =>
  replace hres:e=.returned (.tuple #[.slice none 0 0,iv x.1,iv x.2]):=hres; subst hres; obtain ⟨xe,xp⟩:=x; replace hR:=hid (show R=.error (xe,xp) from hR.out); have hne:xe≠0:=(err_law hrs.out.symm).1
  have d1:(xe == 0)=false:=by simpa using hne
  have d2:(xe != 0)=true:=by simp [bne,d1]
  replace hne:¬ xe=0:=hne; have hfin:=hid (setQ_set hR0 (.slice none 0 0) 0 false [] (.slice none 0 0)); have hbf:=hid (show Below w.heap.size w (setQ w1 w.heap.size (.slice none 0 0) 0 false [] (.slice none 0 0)) from (((Fr.of_below hb1'.out (fun _=>False)).setQ (Nat.le_refl _) (.slice none 0 0) 0 false [] (.slice none 0 0))).to_below (Nat.le_refl _) (fun k hk e=>e)); clear hR0 hb1 hscan
  go_wp2_with fail
  refine bodyPost_ret (results_pq (by rfl) _ _ w.heap.size _ xe xp (by rfl) (by rfl) (by rfl) hfin.out (by kernel_rfl)) rfl ?_; rw [hR.out]; exact ⟨hbf.out,rfl⟩
 | ok l =>
  obtain ⟨tv,he,hO⟩:=hres; subst he; obtain ⟨hl1,hl2,hl3⟩:=hsok l rfl; obtain ⟨ta,tc,rfl,-⟩:=hO.slice; have hws:w.heap.size < w1.heap.size:=lt_of_heap hR0
  have hP0:=hid (show PL w s.length l ta tc w1.heap.size (w1.heap.size+1) 0 [] ((w1.alloc (.map #[] 0)).alloc (.cells #[.slice ta l.length tc,iv 0,iv s.length,mapv w1.heap.size,iv 0,iv 0,iv 0,iv 0] 93)) from by
   have b1:=(Below.refl w1.heap.size w1).alloc (Nat.le_refl _) (.map #[] 0); have b2:=b1.alloc b1.size (.cells #[.slice ta l.length tc,iv 0,iv s.length,mapv w1.heap.size,iv 0,iv 0,iv 0,iv 0] 93)
   have s1:(w1.alloc (.map #[] 0)).heap.size=w1.heap.size+1:=by simp
   refine ⟨hb1'.out.trans (b2.mono (by omega)),below_keep b2 hR0 hws,((MapV.made w1).alloc _).congr (fun kl hk=>by unfold seenF; cases kl <;> simp),?_,(hO.mono goodTk (fun k hk hk2=>⟨by omega,by omega⟩)).below goodTk b2,hws,Nat.lt_succ_self _⟩
   rw [← s1]; exact heap_alloc_new' _ _)
  obtain ⟨mb,hmb⟩:∃ mb,mb=w1.heap.size:=⟨_,rfl⟩; obtain ⟨pb,hpb⟩:∃ pb,pb=w1.heap.size+1:=⟨_,rfl⟩
  have hmpb:mb≠pb:=by omega
  have hwb:w.heap.size < mb:=by omega
  replace hP0:=hid (show PL w s.length l ta tc mb pb 0 [] _ from by rw [hmb,hpb]; exact hP0.out); replace hmb:=hid hmb; replace hpb:=hid hpb; replace hR0:=hid hR0; replace hb1:=hid hb1; replace hO:=hid hO; replace hl3:=hid hl3; clear hscan r0 r1 r2 r3 r4 rz0 rz1 rz2 rz3 rz4
  have hsl:s.length≤9223372036854775807:=by omega
  go_wp2_with fail
  rw [← hpb.out]
  go_loopg [31] l.length (fun g i wr=>∃ (k:Nat) (seen:List (List UInt8)),i=iv k∧k+g=l.length∧Hid (∀ x,x∈seen ↔ x∈namesP ((l.take k).map tw))∧Hid (PL w s.length l ta tc mb pb k seen wr))
  case atStart=>exact ⟨0,[],rfl,by omega,hid (fun x=>by simp [namesP]),hP0⟩
  case round =>
   obtain ⟨k,seen,rfl,hkg,hsn,hS⟩:=hrel; clear hP0; by_cases hlt:k < l.length
   ·have q1:decide ((k:Int) < (l.length:Int))=true:=decide_eq_true (by omega)
    obtain ⟨x,hx⟩:∃ x,l[k]? = some x:=⟨_,List.getElem?_eq_getElem hlt⟩; have hnm:=names_step l k x hx; have hxl:=(hl3.out x (List.mem_of_getElem? hx)).2.2; obtain ⟨g,o,cs,hidx,-,hg,hc,hr⟩:=(hS.out.tok.sl goodTk).at (P:=Tryz.prog) (t:=88) (by kernel_rfl) (fun _=>by kernel_rfl) hx; have hr':cs=tkc x:=hr; subst hr'; have d0:=hc 0 _ rfl; have d1:=hc 1 _ rfl; have d2:=hc 2 _ rfl; have d3:=hc 3 _ rfl; rw [Nat.add_zero] at d0; have hbT:Below wr.heap.size wr (wr.alloc (.cells #[iv x.kind,sv x.text,iv x.n,iv x.pos] 95)):=(Below.refl _ _).alloc (Nat.le_refl _) _; have hS1:=hid (hS.out.grow hbT); have hrT:=heap_alloc_new' wr (.cells #[iv x.kind,sv x.text,iv x.n,iv x.pos] 95); obtain ⟨m0,m1,m2,m3⟩:=tk_row hrT
    have e1:IntKind.i64.wrap ((k:Int)+1)=((k+1:Nat):Int):=by rw [IntKind.wrap_i64]; omega
    clear hc hr; by_cases hk1:x.kind=1
    ·have bk:(x.kind == 1)=true:=by simpa using hk1
     rw [if_pos hk1] at hnm; replace hk1:=hid hk1; obtain ⟨W2,hu,hS2,hf2⟩:=(hS1.out.grow ((Below.refl _ _).drew)).put (by omega) x.text (by omega); have hp3:(wr.alloc (.cells #[iv x.kind,sv x.text,iv x.n,iv x.pos] 95)).cell? ⟨pb,3,none⟩=some (mapv mb):=(cell_of (i:=3) hS1.out.blk).trans rfl; replace hS2:=hid hS2; replace hrT:=hid hrT; replace hnm:=hid hnm; clear hf2
     go_wp2_with fail
     go_region
     all_goals go_wp2_with fail
     all_goals go_roundg (l.length - (k+1))
     case measure=>omega
     case rel=>exact ⟨k+1,x.text::seen,rfl,by omega,hid (fun y=>by rw [hnm.out,List.mem_append,List.mem_cons,hsn.out y]; simp [or_comm]),hS2⟩
    ·have bk:(x.kind == 1)=false:=by simpa using hk1
     rw [if_neg hk1,List.append_nil] at hnm; replace hk1:=hid hk1; replace hrT:=hid hrT; replace hnm:=hid hnm
     go_wp2_with fail
     go_roundg (l.length - (k+1))
     case measure=>omega
     case rel=>exact ⟨k+1,seen,rfl,by omega,hid (fun y=>by rw [hnm.out]; exact hsn.out y),hid hS1.out.mono⟩
   ·have q1:decide ((k:Int) < (l.length:Int))=false:=decide_eq_false (by omega)
    have hkl:k=l.length:=by omega
    subst hkl; obtain ⟨K,hK⟩:∃ K:PK,K=⟨l,.slice ta l.length tc,s.length,mb,l.length,seenF seen⟩:=⟨_,rfl⟩
    have hPM:PM pb K st0 wr:=by
     rw [hK]; exact ⟨hS.out.blk,(hS.out.tok.sl goodTk).mono goodTk (fun k hk hk2=>hk2.2),hS.out.map,hmpb,Nat.zero_le _,by show l.length≤_; omega,fun t ht=>by have:=hl3.out t ht; exact ⟨this.1,this.2.1,by omega⟩⟩
    have hNm:NamesOk K:=by
     rw [hK]; exact hnt.out l rfl
    have hTb:TabN pb wr:=(TabN.of hTab.out (by have:=hS.out.h1; have:=hS.out.h2; omega)).below hS.out.below
    have hKl:K.toks=l:=by rw [hK]
    have hKs:K.size=s.length:=by rw [hK]
    have hKt:K.ts=l.map tw:=by unfold PK.ts; rw [hKl]
    have hqe:=queryP_e K.ts (K.ts.length+1) st0 [] rfl (Nat.zero_le _) (by show K.ts.length < K.ts.length+1+0; omega); have hq:=hid (query_any pb K st0 wr hPM hTb hNm rfl rfl rfl (by rw [hKl]; omega)); replace hR:=hid (show R=parseE s l (queryP K.ts (K.ts.length+1) st0 []) from by rw [hKt]; exact hR.out); obtain ⟨rq,hrq⟩:∃ rq,rq=queryP K.ts (K.ts.length+1) st0 []:=⟨_,rfl⟩; rw [← hrq] at hq hqe; replace hR:=hR.out; rw [← hrq] at hR; replace hR:=hid hR; replace hrq:=hid hrq
    have hpos:∀ i,posF l s.length i=K.pos i:=fun i=>by unfold posF PK.pos; rw [hKl,hKs]; cases l[i]? <;> rfl
    replace hpos:=hid hpos; replace hK:=hid hK; replace hqe:=hid hqe; clear hPM hNm hTb hKl hKs hKt
    go_wp2_with fail
    with_reducible refine hq.out.mono ?_
    rintro e w3 hPQ; clear hq; obtain ⟨oq,st⟩:=rq; obtain ⟨hM3,hF3,hres⟩:=hPQ; have hpbl:=hS.out.lt; have e1:=hS.out.h1; have e2:=hS.out.h2; have hsz:=hS.out.below.size; have hres3:=(hF3.block w.heap.size (by omega) (by unfold one; omega)).trans hS.out.res; have hb3:=hid (show Below w.heap.size w w3 from hS.out.below.trans (hF3.to_below (by omega) (fun k hk e=>by unfold one at e; omega))); have hsz3:=hF3.size
    cases oq with
    | none =>
     replace hres:e=.returned (.agg (qcells (.slice none 0 0) 0 false [] (.slice none 0 0))):=hres; subst hres; obtain ⟨en,ei,hen,hne⟩:=hqe.out; replace hen:st.err=some (en,ei):=hen; replace hR:=hid (show R=.error (en,K.pos ei) from by rw [hR.out]; unfold parseE; simp only [hen]; rw [hpos.out]); have hbx:Below w3.heap.size w3 (w3.alloc (.cells (qcells (.slice none 0 0) 0 false [] (.slice none 0 0)) 32)):=(Below.refl _ _).alloc (Nat.le_refl _) _; have hM4:=hM3.below hbx; have c6:(w3.alloc (.cells (qcells (.slice none 0 0) 0 false [] (.slice none 0 0)) 32)).cell? ⟨pb,6,none⟩=some (iv en):=(hM4.cell (i:=6) (v:=iv (errN st)) rfl).trans (by rw [show errN st=en from by unfold errN; rw [hen]])
     have c7:(w3.alloc (.cells (qcells (.slice none 0 0) 0 false [] (.slice none 0 0)) 32)).cell? ⟨pb,7,none⟩=some (iv (K.pos ei)):=(hM4.cell (i:=7) (v:=iv (errP K st)) rfl).trans (by rw [show errP K st=K.pos ei from by unfold errP; rw [hen]]); have hres4:=(hbx.block w.heap.size (by omega)).trans hres3; obtain ⟨r0,r1,r2,r3,r4,rz⟩:=q_cells hres4; have rz0:=rz 0; have rz1:=rz 1; have rz2:=rz 2; have rz3:=rz 3; have rz4:=rz 4; clear rz
     have d1:(en == 0)=false:=by simpa using hne
     have d2:(en != 0)=true:=by simp [bne,d1]
     replace hne:¬ en=0:=hne; obtain ⟨pz,hpz⟩:∃ pz,pz=K.pos ei:=⟨_,rfl⟩; rw [← hpz] at c7; replace hpz:=hid hpz; have hzr:=hid (show (w3.alloc (.cells (qcells (.slice none 0 0) 0 false [] (.slice none 0 0)) 32)).drew.heap[w.heap.size]? = some (.cells (qcells (.slice none 0 0) 0 false [] (.slice none 0 0)) 32 (0,0)) from hres4); have hfin:=hid (setRow_heap (w3.alloc (.cells (qcells (.slice none 0 0) 0 false [] (.slice none 0 0)) 32)).drew w.heap.size _ (qcells (.slice none 0 0) 0 false [] (.slice none 0 0)) _ _ hzr.out); have hbf:=hid (below_setRow' (hb3.out.trans ((hbx.mono (by omega)).drew)) (Nat.le_refl w.heap.size) (qcells (.slice none 0 0) 0 false [] (.slice none 0 0)))
     have hwpb:¬ w.heap.size=pb:=by omega
     have hpbw:¬ pb=w.heap.size:=by omega
     replace hen:=hid hen; clear hM3 hF3 hM4 hres3 hres4 hbx
     go_upto_region 12 with (fail)
     generalize w3.alloc (.cells (qcells (.slice none 0 0) 0 false [] (.slice none 0 0)) 32)=W4 at *
     go_wp2_with fail
     refine wp_region_held_drew (S:=fun w'=>w'.cell? ⟨pb,6,none⟩=some (iv en)∧w'.cell? ⟨pb,7,none⟩=some (iv pz)) (by kernel_rfl) ?_ (fun hHeld=>?_)
     ·exact ⟨c6,c7⟩
     refine wTk (i:=0) (v:=?_) rfl ?hy ?_
     case hy =>
      intro w hSw; obtain ⟨o6,o7⟩:=hSw; go_simp
      all_goals with_reducible rfl
     try simp only [Act.put,sI,sZ,sS]
     refine wTk (i:=1) (v:=?_) rfl ?hy ?_
     case hy =>
      intro w hSw; obtain ⟨o6,o7⟩:=hSw; go_simp
      all_goals with_reducible rfl
     try simp only [Act.put,sI,sZ,sS]
     refine wTk (i:=2) (v:=?_) rfl ?hy ?_
     case hy =>
      intro w hSw; obtain ⟨o6,o7⟩:=hSw; go_simp
      all_goals with_reducible rfl
     try simp only [Act.put,sI,sZ,sS]
     refine wTk (i:=3) (v:=?_) rfl ?hy ?_
     case hy =>
      intro w hSw; obtain ⟨o6,o7⟩:=hSw; go_simp
      all_goals with_reducible rfl
     try simp only [Act.put,sI,sZ,sS]
     refine wTk (i:=4) (v:=?_) rfl ?hy ?_
     case hy =>
      intro w hSw; obtain ⟨o6,o7⟩:=hSw; go_simp
      all_goals with_reducible rfl
     try simp only [Act.put,sI,sZ,sS]
     refine wTk (i:=5) (v:=?_) rfl ?hy ?_
     case hy =>
      intro w hSw; obtain ⟨o6,o7⟩:=hSw; go_simp
      all_goals with_reducible rfl
     try simp only [Act.put,sI,sZ,sS]
     refine wTk (i:=6) (v:=?_) rfl ?hy ?_
     case hy =>
      intro w hSw; obtain ⟨o6,o7⟩:=hSw; go_simp
      all_goals with_reducible rfl
     try simp only [Act.put,sI,sZ,sS]
     refine wTk (i:=7) (v:=?_) rfl ?hy ?_
     case hy =>
      intro w hSw; obtain ⟨o6,o7⟩:=hSw; go_simp
      all_goals with_reducible rfl
     try simp only [Act.put,sI,sZ,sS]
     refine wTk (i:=8) (v:=?_) rfl ?hy ?_
     case hy =>
      intro w hSw; obtain ⟨o6,o7⟩:=hSw; go_simp
      all_goals with_reducible rfl
     try simp only [Act.put,sI,sZ,sS]
     refine wpAnyH_ready (rs:=[9]) (by as_aux_lemma=>kernel_rfl) (by simp) ?_; refine rdY rfl (fun K hK=>?_); rw [if_pos (by rfl)]; refine wp_store_row 32 (.tmp 2) (.tmp 52) rfl w.heap.size (qcells (.slice none 0 0) 0 false [] (.slice none 0 0)) (by rfl) (by rfl) _ _ hzr.out (by kernel_rfl) (by rfl) (by simp [Value.oneCell']) ?_; refine hK.out _ _ ?_ (fun hHeld2=>?_)
     ·exact ⟨(cell_setRow_other W4.drew w.heap.size _ ⟨pb,6,none⟩ hpbw).trans c6,(cell_setRow_other W4.drew w.heap.size _ ⟨pb,7,none⟩ hpbw).trans c7⟩
     clear hK K; clear hHeld; have hHeld:=hHeld2; clear hHeld2
     try simp only [Act.put,sI,sZ,sS]
     refine wTk (i:=10) (v:=?_) rfl ?hy ?_
     case hy =>
      intro w hSw
      skip
      go_simp
      all_goals with_reducible rfl
     try simp only [Act.put,sI,sZ,sS]
     refine wTk (i:=11) (v:=?_) rfl ?hy ?_
     case hy =>
      intro w hSw
      skip
      go_simp
      all_goals with_reducible rfl
     try simp only [Act.put,sI,sZ,sS]
     refine wpAnyH_done (by as_aux_lemma=>kernel_rfl) ?_ _
     all_goals go_wp2_with fail
     refine bodyPost_ret (results_pq (by rfl) _ _ w.heap.size _ en pz (by rfl) (by rfl) (by rfl) hfin.out (by kernel_rfl)) rfl ?_; rw [hR.out,← hpz.out]; exact ⟨hbf.out,rfl⟩
    | some q =>
     obtain ⟨rv,av,zs,he,hz,hzr,hgo⟩:=hres; subst he; have hen:st.err=none:=hqe.out; replace hR:=hid (show R=.ok q from hR.out); obtain ⟨ra,rc,rfl,-,-⟩:=hz.slice; obtain ⟨aa,ac,rfl,-,-⟩:=hgo.slice; obtain ⟨op,hop⟩:∃ op,op=q.goal.op:=⟨_,rfl⟩; obtain ⟨nt,hnt⟩:∃ nt,nt=q.goal.nt:=⟨_,rfl⟩; obtain ⟨rel,hrel⟩:∃ rel,rel=q.goal.rel:=⟨_,rfl⟩; rw [← hop,← hnt,← hrel]; have hbx:Below w3.heap.size w3 (w3.alloc (.cells (qcells (.slice ra zs.length rc) op nt rel (.slice aa q.goal.args.length ac)) 32)):=(Below.refl _ _).alloc (Nat.le_refl _) _; have hM4:=hM3.below hbx
     have c6:(w3.alloc (.cells (qcells (.slice ra zs.length rc) op nt rel (.slice aa q.goal.args.length ac)) 32)).cell? ⟨pb,6,none⟩=some (iv 0):=(hM4.cell (i:=6) (v:=iv (errN st)) rfl).trans (by rw [show errN st=0 from by unfold errN; rw [hen]]); have hres4:=(hbx.block w.heap.size (by omega)).trans hres3; obtain ⟨r0,r1,r2,r3,r4,rz⟩:=q_cells hres4; have rz0:=rz 0; have rz1:=rz 1; have rz2:=rz 2; have rz3:=rz 3; have rz4:=rz 4; clear rz; have hnw:=heap_alloc_new' w3 (.cells (qcells (.slice ra zs.length rc) op nt rel (.slice aa q.goal.args.length ac)) 32); obtain ⟨n0,n1,n2,n3,n4,-⟩:=q_cells hnw; have hfin:=hid (setQ_set hres4 (.slice ra zs.length rc) op nt rel (.slice aa q.goal.args.length ac))
     have hbf:=hid (show Below w.heap.size w (setQ (w3.alloc (.cells (qcells (.slice ra zs.length rc) op nt rel (.slice aa q.goal.args.length ac)) 32)) w.heap.size (.slice ra zs.length rc) op nt rel (.slice aa q.goal.args.length ac)) from ((Fr.of_below (hb3.out.trans (hbx.mono (by omega))) (fun _=>False)).setQ (Nat.le_refl _) (.slice ra zs.length rc) op nt rel (.slice aa q.goal.args.length ac)).to_below (Nat.le_refl _) (fun k hk e=>e))
     have hw3:w.heap.size < w3.heap.size:=by omega
     have hz':=hid (hz.move (w':=setQ (w3.alloc (.cells (qcells (.slice ra zs.length rc) op nt rel (.slice aa q.goal.args.length ac)) 32)) w.heap.size (.slice ra zs.length rc) op nt rel (.slice aa q.goal.args.length ac)) (T:=from_ w.heap.size) goodRu fun k hk hk2=>⟨by unfold from_ at hk2 ⊢; omega,(setQ_other (by unfold from_ at hk2; omega)).trans (hbx.block k hk)⟩); have hg':=hid (hgo.move (w':=setQ (w3.alloc (.cells (qcells (.slice ra zs.length rc) op nt rel (.slice aa q.goal.args.length ac)) 32)) w.heap.size (.slice ra zs.length rc) op nt rel (.slice aa q.goal.args.length ac)) (T:=from_ w.heap.size) goodFl fun k hk hk2=>⟨by unfold from_ at hk2 ⊢; omega,(setQ_other (by unfold from_ at hk2; omega)).trans (hbx.block k hk)⟩); replace hen:=hid hen; replace hzr:=hid hzr; replace hop:=hid hop; replace hnt:=hid hnt
     replace hrel:=hid hrel; clear hM3 hF3 hM4 hres3 hres4 hbx hz hgo hnw
     go_upto_region 12 with (fail)
     generalize w3.alloc (.cells (qcells (.slice ra zs.length rc) op nt rel (.slice aa q.goal.args.length ac)) 32)=W4 at *
     go_wp2_with fail
     refine bodyPost_ret (results_pq (by rfl) _ _ w.heap.size _ 0 0 (by rfl) (by rfl) (by rfl) hfin.out (by kernel_rfl)) rfl ?_; rw [hR.out]; exact ⟨hbf.out,_,_,zs,by rw [hop.out,hnt.out,hrel.out],hz'.out,hzr.out,hg'.out⟩
end Go.Proofs.YtffdpoifdahadaaGreatDoor
