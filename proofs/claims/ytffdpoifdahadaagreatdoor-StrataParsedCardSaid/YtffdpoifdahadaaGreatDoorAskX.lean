/- AskX: AskXa, AskX, in one text. -/
import Derived.Test.YtffdpoifdahadaaGreatDoorAskW
import Derived.Test.YtffdpoifdahadaaGreatDoorLexB
set_option linter.unusedVariables false
set_option linter.unusedSimpArgs false
set_option maxHeartbeats 40000000
set_option maxRecDepth 100000
namespace Go.Proofs.YtffdpoifdahadaaGreatDoor
open Go.RowKit
open Go.Lib (hid itoa)
theorem sT (ts:List Tw):∀ (f:Nat) (st:PSt) (body:List Lt) (aux:List Ru),st.nx<=ts.length->ts.length < f+st.nx->∃ c,Gr ts.length c st (cp ts f st body aux).1.isSome (cp ts f st body aux).2
 | 0,st,_,_,h1,h2=>by omega
 | f+1,st,body,aux,h1,h2=>by
  rw [mw]; have h:=(js ts st h1).1; have hl:=iG ts st h1; generalize bx ts st=r at *; obtain ⟨o,s⟩:=r
  cases o with
  | none=>exact ⟨_,h⟩
  | some q =>
   obtain ⟨ls,au⟩:=q; have hl':st.nx < s.nx:=hl rfl; show ∃ c,Gr ts.length c st (if isP ts s 4 [44]=true then cp ts f (am s) (body++ls) (aux++au) else (some (body++ls,aux++au),s)).1.isSome (if isP ts s 4 [44]=true then cp ts f (am s) (body++ls) (aux++au) else (some (body++ls,aux++au),s)).2; split
   ·rename_i hz
    have h4:=cT (by decide) hz; have h5:(am s).nx=s.nx+1:=rfl; obtain ⟨c,hc⟩:=sT ts f (am s) (body++ls) (aux++au) (by omega) (by omega); exact ⟨_,(h.trans (Gr.next h4)).trans hc⟩
   ·exact ⟨_,h⟩
theorem xV (ts:List Tw) (st:PSt) (hst:st.nx<=ts.length):(∃ c,Gr ts.length c st (fC ts st).1.isSome (fC ts st).2)/\((fC ts st).1.isSome=true->st.nx < (fC ts st).2.nx):=by
 rw [lW]; have h:=oW ts st hst; generalize dC ts st=r at *; obtain ⟨o,s⟩:=r
 cases o with
 | none=>exact ⟨⟨_,h.1⟩,fun e=>by cases e⟩
 | some x =>
  have hl:st.nx < s.nx:=h.2 rfl; show (∃ c,Gr ts.length c st (io ts x (if isP ts s 4 [58,45]=true then cp ts (ts.length+1) (am s) [] [] else (some ([],[]),s))).1.isSome (io ts x (if isP ts s 4 [58,45]=true then cp ts (ts.length+1) (am s) [] [] else (some ([],[]),s))).2)/\_
  have h2:∃ c,Gr ts.length c st (if isP ts s 4 [58,45]=true then cp ts (ts.length+1) (am s) [] [] else (some ([],[]),s)).1.isSome (if isP ts s 4 [58,45]=true then cp ts (ts.length+1) (am s) [] [] else (some ([],[]),s)).2/\s.nx<=(if isP ts s 4 [58,45]=true then cp ts (ts.length+1) (am s) [] [] else (some ([],[]),s)).2.nx:=by
   split
   ·rename_i hz
    have h4:=cT (by decide) hz; obtain ⟨c,hc⟩:=sT ts (ts.length+1) (am s) [] [] h4 (by omega); exact ⟨_,(h.1.trans (Gr.next h4)).trans hc,zV (Nat.le_succ _) hc.nx⟩
   ·exact ⟨_,h.1,zM _⟩
  obtain ⟨c,hc,hn⟩:=h2; show (∃ c,Gr ts.length c st (io ts x _).1.isSome (io ts x _).2)/\((io ts x (if isP ts s 4 [58,45]=true then cp ts (ts.length+1) (am s) [] [] else (some ([],[]),s))).1.isSome=true->st.nx < (io ts x (if isP ts s 4 [58,45]=true then cp ts (ts.length+1) (am s) [] [] else (some ([],[]),s))).2.nx); generalize (if isP ts s 4 [58,45]=true then cp ts (ts.length+1) (am s) [] [] else (some ([],[]),s))=r at *; obtain ⟨o,s2⟩:=r
  cases o with
  | none=>exact ⟨⟨_,hc⟩,fun e=>by cases e⟩
  | some q =>
   obtain ⟨body,aux⟩:=q; rw [lX]; simp only at hn; split
   ·rename_i hz; exact ⟨⟨_,hc.trans (Gr.next (cT (by decide) hz))⟩,fun _=>by show st.nx < s2.nx+1; omega⟩
   ·exact ⟨⟨_,hc.trans (Gr.fail _)⟩,fun e=>by cases e⟩
def QErr (r:Option Qu × PSt):Prop:=match r.1 with
 | some _=>r.2.err=none
 | none=>∃ e i,r.2.err=some (e,i)/\e≠0
theorem yy (ts:List Tw) (rules:List Ru) (st:PSt) (he:st.err=none) (hst:st.nx<=ts.length):QErr (j7 ts rules (aY ts st)):=by
 have h:=(d8 ts st hst).1; generalize aY ts st=r at *; obtain ⟨o,s⟩:=r
 cases o with
 | none=>obtain ⟨i,hi⟩:=h.bad rfl; exact ⟨_,_,hi,by decide⟩
 | some l =>
  have h1:s.err=none:=(h.ok rfl).trans he; unfold j7; simp only; split
  ·exact ⟨2,s.nx,rfl,by decide⟩
  ·exact h1
theorem l9 (ts:List Tw):∀ (f:Nat) (st:PSt) (rules:List Ru),st.err=none->st.nx<=ts.length->ts.length < f+st.nx->QErr (cR ts f st rules)
 | 0,st,_,_,h1,h2=>by omega
 | f+1,st,rules,he,h1,h2=>by
  rw [kt]; split
  ·rename_i hz
   exact yy ts rules (am st) he (cT (by decide) hz)
  ·obtain ⟨⟨c,h⟩,hl⟩:=xV ts st h1
   generalize fC ts st=r at *; obtain ⟨o,s⟩:=r
   cases o with
   | none=>obtain ⟨i,hi⟩:=h.bad rfl; exact ⟨_,_,hi,by decide⟩
   | some rs =>
    unfold fw; simp only; split
    ·exact ⟨3,st.nx,rfl,by decide⟩
    ·have hl':st.nx < s.nx:=hl rfl
     exact l9 ts f s (rules++rs) ((h.ok rfl).trans he) (h.top h1) (by omega)
end Go.Proofs.YtffdpoifdahadaaGreatDoor
namespace Go.Proofs.YtffdpoifdahadaaGreatDoor
open Go.RowKit
open Go.Lib (hid itoa)
structure PL (w:World) (sz:Nat) (toks:List Tk) (ta:Option Addr) (tc mb pb k:Nat) (seen:List (List UInt8)) (wr:World):Prop where
 below:Below w.heap.size w wr
 res:wr.heap[w.heap.size]? = some (.cells (aG (.slice none 0 0) 0 false [] (.slice none 0 0)) 32 (0,0))
 map:bR Tryz.prog 9 mb k (seenF seen) wr
 blk:wr.heap[pb]? = some (.cells #[.slice ta toks.length tc,iv 0,iv sz,rP mb,iv 0,iv 0,iv 0,iv 0] 93 (0,0))
 tok:aO 95 4 TkR (fun q=>q≠mb/\q≠pb) wr toks (.slice ta toks.length tc)
 h1:w.heap.size < mb
 h2:mb < pb
section
variable {w:World} {sz tc mb pb k:Nat} {toks:List Tk} {ta:Option Addr} {seen:List (List UInt8)} {wr wr':World}
theorem PL.lt (h:PL w sz toks ta tc mb pb k seen wr):pb < wr.heap.size:=ae h.blk
theorem PL.grow (h:PL w sz toks ta tc mb pb k seen wr) (hb:Below wr.heap.size wr wr'):PL w sz toks ta tc mb pb k seen wr':=by
 have hl:=h.lt; have e1:=h.h1; have e2:=h.h2; exact ⟨h.below.trans (hb.mono (by omega)),an hb h.res (by omega),h.map.below hb h.map.lt,an hb h.blk hl,h.tok.below cY hb,e1,e2⟩
theorem PL.mono (h:PL w sz toks ta tc mb pb k seen wr):PL w sz toks ta tc mb pb (k+1) seen wr:=⟨h.below,h.res,h.map.mono (by omega),h.blk,h.tok,h.h1,h.h2⟩
theorem PL.put (h:PL w sz toks ta tc mb pb k seen wr) (hk:k<=1048576) (s:List UInt8) (hs:s.length<=1048576):∃ W,(Instr.mapUpdate 67 (.map (some mb)) (sv s) (.bool true)).run Tryz.prog wr=.ok () W/\PL w sz toks ta tc mb pb (k+1) (s::seen) W/\Fr (one mb) wr W:=by
 obtain ⟨W,h1,h2,h3⟩:=h.map.put (Maps.string_keyed Tryz.underlying9) (t:=67) (e:=4) Tryz.underlying67 (by unfold maxLen; omega) (dX s hs) trivial (.bool true); have hf:Fr (one mb) wr W:=(Fr.refl _ wr).grown h3 (fun k hk=>by injection hk with hk; exact Or.inl hk.symm); have hl:=h.lt; have e1:=h.h1; have e2:=h.h2; refine ⟨W,h1,⟨h.below.trans (hf.to_below (by omega) (fun k hk e=>by unfold one at e; omega)),(hf.block _ (by omega) (by unfold one; omega)).trans h.res,h2.congr (iX seen s),(hf.block _ (by omega) (by unfold one; omega)).trans h.blk,h.tok.fr cY hf (fun k hk e=>hk.1 e),e1,e2⟩,hf⟩
end
theorem rK (toks:List Tk) (k:Nat) (x:Tk) (hx:toks[k]? = some x):cd ((toks.take (k+1)).map tw)=cd ((toks.take k).map tw)++(if x.kind=1 then [x.text] else []):=by
 have hlt:=(List.getElem?_eq_some_iff.1 hx).1
 have e:toks.take (k+1)=toks.take k++[x]:=by
  rw [List.take_add_one,hx]; rfl
 rw [e,List.map_append]; unfold cd; rw [List.filterMap_append]
 congr 1
 by_cases h:x.kind=1
 ·simp [tw,h]
 ·simp [tw,h]
def zJ (w:World) (r:Except (Int × Int) Qu) (e:Ending) (w':World):Prop :=
 Below w.heap.size w w'/\match r with
 | .ok q=>∃ rv av zs,e=.returned (.tuple #[.agg (aG rv q.goal.op q.goal.nt q.goal.rel av),iv 0,iv 0])/\aO 27 7 RuR (aF w.heap.size) w' zs rv/\zs.map RuD.ru=q.rules/\aO 63 7 FlR (aF w.heap.size) w' q.goal.args av
 | .error x=>e=.returned (.tuple #[.agg (aG (.slice none 0 0) 0 false [] (.slice none 0 0)),iv x.1,iv x.2])
theorem gW {fn:Func} {p u v:Tmp} (h:fn.results=#[.cell p 32,.tmp u,.tmp v]) (tmps:Array Value) (w:World) (R:Nat) (cs:Array Value) (x y:Int) (hp:tmps.getD p undef=.pointer (some ⟨R,0,none⟩)) (hu:tmps.getD u undef=iv x) (hv:tmps.getD v undef=iv y) (hR:w.heap[R]? = some (.cells cs 32 (0,0))) (hs:(Tryz.prog.info? 32).map (·.size)=some cs.size) :
  (results fn tmps).run Tryz.prog w=.ok (.tuple #[.agg cs,iv x,iv y]) w:=by
 rw [Array.getD_eq_getD_getElem?] at hp hu hv; simp only [results,h]; simp [Sem.run_bind,Result.andThen,hp,hu,hv,asAddr,Sem.run_pure,run_loadVar_row w R 32 32 cs (0,0) _ hR Tryz.underlying32 rfl hs]
def oG (s:List UInt8) (l:List Tk):Option Qu × PSt->Except (Int × Int) Qu
 | (some q,_)=>.ok q
 | (none,st)=>match st.err with
   | some (e,i)=>.error (e,vO l s.length i)
   | none=>.error (0,0)
def zi (s:List UInt8):Except (Int × Int) (List Tk)->Except (Int × Int) Qu
 | .error x=>.error x
 | .ok l=>oG s l (cR (l.map tw) ((l.map tw).length+1) st0 [])
theorem pI (s:List UInt8):de s=zi s (ef s):=by
 unfold de; generalize ef s=r
 cases r with
 | error x=>rfl
 | ok l =>
  show (match cR (l.map tw) (l.length+1) st0 [] with
  | (some q,_)=>.ok q
  | (none,st)=>match st.err with
   | some (e,i)=>.error (e,vO l s.length i)
   | none=>.error (0,0))=oG s l (cR (l.map tw) ((l.map tw).length+1) st0 [])
  rw [zY]; generalize cR (l.map tw) (l.length+1) st0 []=q; obtain ⟨o,st⟩:=q
  cases o with
  | some q=>rfl
  | none=>rfl
theorem o_ (s:List UInt8) (w:World) (hs:s.length<=1000000) (hTab:Tab w) :
  Calls Tryz.prog 19 #[sv s] w (zJ w (de s)):=by
 obtain ⟨R,hR⟩:∃ R,R=de s:=⟨_,rfl⟩; rw [← hR]; rw [pI] at hR; have hbq:=hid ((zN w.heap.size w).alloc (zM _) (.cells (aG (.slice none 0 0) 0 false [] (.slice none 0 0)) 32)); have hscan:=hid (vF s (w.alloc (.cells (aG (.slice none 0 0) 0 false [] (.slice none 0 0)) 32)) hs)
 have hsok:=fun l (h:ef s=.ok l)=>pB h
 obtain ⟨rs,hrs⟩:∃ rs,rs=ef s:=⟨_,rfl⟩; rw [← hrs] at hscan hR hsok; replace hrs:=hid hrs; replace hR:=hid hR; have hmm:=@run_makeMap Tryz.prog; replace hTab:=hid hTab
 go_enter Tryz.func19,Tryz.ntmps19
 go_wp2_with fail
 with_reducible refine hscan.out.mono ?_
 rintro e w1 ⟨hb1,hres⟩; have hR0:=an hb1 (af w (.cells (aG (.slice none 0 0) 0 false [] (.slice none 0 0)) 32)) (by simp); obtain ⟨r0,r1,r2,r3,r4,rz⟩:=cg hR0; have rz0:=rz 0; have rz1:=rz 1; have rz2:=rz 2; have rz3:=rz 3; have rz4:=rz 4; clear rz; have hb1':=hid (hbq.out.trans (hb1.mono (by simp)))
 cases rs with
 | error x =>
  replace hres:e=.returned (.tuple #[.slice none 0 0,iv x.1,iv x.2]):=hres; subst hres; obtain ⟨xe,xp⟩:=x; replace hR:=hid (show R=.error (xe,xp) from hR.out); have hne:xe≠0:=(sY hrs.out.symm).1
  have d1:(xe == 0)=false:=by simpa using hne
  have d2:(xe != 0)=true:=by simp [bne,d1]
  replace hne:¬ xe=0:=hne; have hfin:=hid (iB hR0 (.slice none 0 0) 0 false [] (.slice none 0 0)); have hbf:=hid (show Below w.heap.size w (setQ w1 w.heap.size (.slice none 0 0) 0 false [] (.slice none 0 0)) from (((Fr.of_below hb1'.out (fun _=>False)).setQ (zM _) (.slice none 0 0) 0 false [] (.slice none 0 0))).to_below (zM _) (fun k hk e=>e)); clear hR0 hb1 hscan
  go_wp2_with fail
  refine bodyPost_ret (gW (by rfl) _ _ w.heap.size _ xe xp (by rfl) (by rfl) (by rfl) hfin.out (by kernel_rfl)) rfl ?_; rw [hR.out]; exact ⟨hbf.out,rfl⟩
 | ok l =>
  obtain ⟨tv,he,hO⟩:=hres; subst he; obtain ⟨hl1,hl2,hl3⟩:=hsok l rfl; obtain ⟨ta,tc,rfl,-⟩:=hO.slice; have hws:w.heap.size < w1.heap.size:=ae hR0
  have hP0:=hid (show PL w s.length l ta tc w1.heap.size (w1.heap.size+1) 0 [] ((w1.alloc (.map #[] 0)).alloc (.cells #[.slice ta l.length tc,iv 0,iv s.length,rP w1.heap.size,iv 0,iv 0,iv 0,iv 0] 93)) from by
   have b1:=(zN w1.heap.size w1).alloc (zM _) (.map #[] 0); have b2:=b1.alloc b1.size (.cells #[.slice ta l.length tc,iv 0,iv s.length,rP w1.heap.size,iv 0,iv 0,iv 0,iv 0] 93)
   have s1:(w1.alloc (.map #[] 0)).heap.size=w1.heap.size+1:=by simp
   refine ⟨hb1'.out.trans (b2.mono (by omega)),an b2 hR0 hws,((bR.made w1).alloc _).congr (fun kl hk=>by unfold seenF; cases kl <;> simp),?_,(hO.mono cY (fun k hk hk2=>⟨by omega,by omega⟩)).below cY b2,hws,Ag _⟩
   rw [← s1]; exact af _ _)
  obtain ⟨mb,hmb⟩:∃ mb,mb=w1.heap.size:=⟨_,rfl⟩; obtain ⟨pb,hpb⟩:∃ pb,pb=w1.heap.size+1:=⟨_,rfl⟩
  have hmpb:mb≠pb:=by omega
  have hwb:w.heap.size < mb:=by omega
  replace hP0:=hid (show PL w s.length l ta tc mb pb 0 [] _ from by rw [hmb,hpb]; exact hP0.out); replace hmb:=hid hmb; replace hpb:=hid hpb; replace hR0:=hid hR0; replace hb1:=hid hb1; replace hO:=hid hO; replace hl3:=hid hl3; clear hscan r0 r1 r2 r3 r4 rz0 rz1 rz2 rz3 rz4
  have hsl:s.length<=9223372036854775807:=by omega
  go_wp2_with fail
  rw [← hpb.out]
  go_loopg [31] l.length (fun g i wr=>∃ (k:Nat) (seen:List (List UInt8)),i=iv k/\k+g=l.length/\Hid (∀ x,x∈seen ↔ x∈cd ((l.take k).map tw))/\Hid (PL w s.length l ta tc mb pb k seen wr))
  case atStart=>exact ⟨0,[],rfl,by omega,hid (fun x=>by simp [cd]),hP0⟩
  case round =>
   obtain ⟨k,seen,rfl,hkg,hsn,hS⟩:=hrel; clear hP0; by_cases hlt:k < l.length
   ·have q1:decide ((k:Int) < (l.length:Int))=true:=zP (by omega)
    obtain ⟨x,hx⟩:∃ x,l[k]? = some x:=⟨_,zR hlt⟩; have hnm:=rK l k x hx; have hxl:=(hl3.out x (zU hx)).2.2; obtain ⟨g,o,cs,hidx,-,hg,hc,hr⟩:=(hS.out.tok.sl cY).at (P:=Tryz.prog) (t:=88) (by kernel_rfl) (fun _=>by kernel_rfl) hx; have hr':cs=tkc x:=hr; subst hr'; have d0:=hc 0 _ rfl; have d1:=hc 1 _ rfl; have d2:=hc 2 _ rfl; have d3:=hc 3 _ rfl; rw [Nat.add_zero] at d0; have hbT:Below wr.heap.size wr (wr.alloc (.cells #[iv x.kind,sv x.text,iv x.n,iv x.pos] 95)):=(zN _ _).alloc (zM _) _; have hS1:=hid (hS.out.grow hbT); have hrT:=af wr (.cells #[iv x.kind,sv x.text,iv x.n,iv x.pos] 95); obtain ⟨m0,m1,m2,m3⟩:=bY hrT;(have e1:IntKind.i64.wrap ((k:Int)+1)=((k+1:Nat):Int):=by rw [zX]; omega);clear hc hr; by_cases hk1:x.kind=1
    ·have bk:(x.kind == 1)=true:=by simpa using hk1
     rw [if_pos hk1] at hnm; replace hk1:=hid hk1; obtain ⟨W2,hu,hS2,hf2⟩:=(hS1.out.grow ((zN _ _).drew)).put (by omega) x.text (by omega); have hp3:(wr.alloc (.cells #[iv x.kind,sv x.text,iv x.n,iv x.pos] 95)).cell? ⟨pb,3,none⟩=some (rP mb):=(aj (i:=3) hS1.out.blk).trans rfl; replace hS2:=hid hS2; replace hrT:=hid hrT; replace hnm:=hid hnm; clear hf2;go_wp2_with fail;go_region
     all_goals go_wp2_with fail
     all_goals go_roundg (l.length - (k+1))
     case measure=>omega
     case rel=>exact ⟨k+1,x.text::seen,rfl,by omega,hid (fun y=>by rw [hnm.out,z8,Ae,hsn.out y]; simp [or_comm]),hS2⟩
    ·have bk:(x.kind == 1)=false:=by simpa using hk1
     rw [if_neg hk1,List.append_nil] at hnm; replace hk1:=hid hk1; replace hrT:=hid hrT; replace hnm:=hid hnm;go_wp2_with fail
     go_roundg (l.length - (k+1))
     case measure=>omega
     case rel=>exact ⟨k+1,seen,rfl,by omega,hid (fun y=>by rw [hnm.out]; exact hsn.out y),hid hS1.out.mono⟩
   ·have q1:decide ((k:Int) < (l.length:Int))=false:=zO (by omega)
    (have hkl:k=l.length:=by omega);subst hkl; obtain ⟨K,hK⟩:∃ K:PK,K=⟨l,.slice ta l.length tc,s.length,mb,l.length,seenF seen⟩:=⟨_,rfl⟩
    have hPM:PM pb K st0 wr:=by
     rw [hK]; exact ⟨hS.out.blk,(hS.out.tok.sl cY).mono cY (fun k hk hk2=>hk2.2),hS.out.map,hmpb,zW _,by show l.length<=_; omega,fun t ht=>by have:=hl3.out t ht; exact ⟨this.1,this.2.1,by omega⟩⟩
    have hNm:eq K:=by
     intro y; have h8:=hsn.out y; rw [List.take_length] at h8; rw [hK];(show seenF seen (.string y)=if y∈cd (l.map tw) then some (.bool true) else none);unfold seenF; by_cases e:y∈seen
     ·rw [if_pos (h8.1 e)]; simp [e]
     ·rw [if_neg (fun e2=>e (h8.2 e2))]; simp [e]
    have hTb:da pb wr:=(da.of hTab.out (by have:=hS.out.h1; have:=hS.out.h2; omega)).below hS.out.below;(have hKl:K.toks=l:=by rw [hK]);(have hKs:K.size=s.length:=by rw [hK]);(have hKt:K.ts=l.map tw:=by unfold PK.ts; rw [hKl]);have hqe:=l9 K.ts (K.ts.length+1) st0 [] rfl (zW _) (by show K.ts.length < K.ts.length+1+0; omega); have hq:=hid (tY pb K st0 wr hPM hTb hNm rfl rfl rfl (by rw [hKl]; omega)); replace hR:=hid (show R=oG s l (cR K.ts (K.ts.length+1) st0 []) from by rw [hKt]; exact hR.out); obtain ⟨rq,hrq⟩:∃ rq,rq=cR K.ts (K.ts.length+1) st0 []:=⟨_,rfl⟩; rw [← hrq] at hq hqe; replace hR:=hR.out; rw [← hrq] at hR; replace hR:=hid hR; replace hrq:=hid hrq
    have hpos:∀ i,vO l s.length i=K.pos i:=fun i=>by unfold vO PK.pos; rw [hKl,hKs]; cases l[i]? <;> rfl
    replace hpos:=hid hpos; replace hK:=hid hK; replace hqe:=hid hqe; clear hPM hNm hTb hKl hKs hKt;go_wp2_with fail;(with_reducible refine hq.out.mono ?_);rintro e w3 hPQ; clear hq; obtain ⟨oq,st⟩:=rq; obtain ⟨hM3,hF3,hres⟩:=hPQ; have hpbl:=hS.out.lt; have e1:=hS.out.h1; have e2:=hS.out.h2; have hsz:=hS.out.below.size; have hres3:=(hF3.block w.heap.size (by omega) (by unfold one; omega)).trans hS.out.res; have hb3:=hid (show Below w.heap.size w w3 from hS.out.below.trans (hF3.to_below (by omega) (fun k hk e=>by unfold one at e; omega))); have hsz3:=hF3.size
    cases oq with
    | none =>
     replace hres:e=.returned (.agg (aG (.slice none 0 0) 0 false [] (.slice none 0 0))):=hres; subst hres; obtain ⟨en,ei,hen,hne⟩:=hqe.out; replace hen:st.err=some (en,ei):=hen; replace hR:=hid (show R=.error (en,K.pos ei) from by rw [hR.out]; unfold oG; simp only [hen]; rw [hpos.out]); have hbx:Below w3.heap.size w3 (w3.alloc (.cells (aG (.slice none 0 0) 0 false [] (.slice none 0 0)) 32)):=(zN _ _).alloc (zM _) _; have hM4:=hM3.below hbx; have c6:(w3.alloc (.cells (aG (.slice none 0 0) 0 false [] (.slice none 0 0)) 32)).cell? ⟨pb,6,none⟩=some (iv en):=(hM4.cell (i:=6) (v:=iv (kD st)) rfl).trans (by rw [show kD st=en from by unfold kD; rw [hen]]);have c7:(w3.alloc (.cells (aG (.slice none 0 0) 0 false [] (.slice none 0 0)) 32)).cell? ⟨pb,7,none⟩=some (iv (K.pos ei)):=(hM4.cell (i:=7) (v:=iv (wZ K st)) rfl).trans (by rw [show wZ K st=K.pos ei from by unfold wZ; rw [hen]]); have hres4:=(hbx.block w.heap.size (by omega)).trans hres3; obtain ⟨r0,r1,r2,r3,r4,rz⟩:=cg hres4; have rz0:=rz 0; have rz1:=rz 1; have rz2:=rz 2; have rz3:=rz 3; have rz4:=rz 4; clear rz;(have d1:(en == 0)=false:=by simpa using hne);(have d2:(en != 0)=true:=by simp [bne,d1]);replace hne:¬ en=0:=hne; obtain ⟨pz,hpz⟩:∃ pz,pz=K.pos ei:=⟨_,rfl⟩; rw [← hpz] at c7; replace hpz:=hid hpz; have hzr:=hid (show (w3.alloc (.cells (aG (.slice none 0 0) 0 false [] (.slice none 0 0)) 32)).drew.heap[w.heap.size]? = some (.cells (aG (.slice none 0 0) 0 false [] (.slice none 0 0)) 32 (0,0)) from hres4); have hfin:=hid (setRow_heap (w3.alloc (.cells (aG (.slice none 0 0) 0 false [] (.slice none 0 0)) 32)).drew w.heap.size _ (aG (.slice none 0 0) 0 false [] (.slice none 0 0)) _ _ hzr.out); have hbf:=hid (fj (hb3.out.trans ((hbx.mono (by omega)).drew)) (zM w.heap.size) (aG (.slice none 0 0) 0 false [] (.slice none 0 0)));(have hwpb:¬ w.heap.size=pb:=by omega);(have hpbw:¬ pb=w.heap.size:=by omega);replace hen:=hid hen; clear hM3 hF3 hM4 hres3 hres4 hbx;(go_upto_region 12 with (fail));generalize w3.alloc (.cells (aG (.slice none 0 0) 0 false [] (.slice none 0 0)) 32)=W4 at *;go_wp2_with fail;refine wp_region_held_drew (S:=fun w'=>w'.cell? ⟨pb,6,none⟩=some (iv en)/\w'.cell? ⟨pb,7,none⟩=some (iv pz)) (by kernel_rfl) ?_ (fun hHeld=>?_)
     ·exact ⟨c6,c7⟩
     refine wTk (i:=0) (v:=?_) rfl ?hy ?_
     case hy =>
      intro w hSw; obtain ⟨o6,o7⟩:=hSw; go_simp
      all_goals with_reducible rfl
     (try simp only [Act.put,sI,sZ,sS]);refine wTk (i:=1) (v:=?_) rfl ?hy ?_
     case hy =>
      intro w hSw; obtain ⟨o6,o7⟩:=hSw; go_simp
      all_goals with_reducible rfl
     (try simp only [Act.put,sI,sZ,sS]);refine wTk (i:=2) (v:=?_) rfl ?hy ?_
     case hy =>
      intro w hSw; obtain ⟨o6,o7⟩:=hSw; go_simp
      all_goals with_reducible rfl
     (try simp only [Act.put,sI,sZ,sS]);refine wTk (i:=3) (v:=?_) rfl ?hy ?_
     case hy =>
      intro w hSw; obtain ⟨o6,o7⟩:=hSw; go_simp
      all_goals with_reducible rfl
     (try simp only [Act.put,sI,sZ,sS]);refine wTk (i:=4) (v:=?_) rfl ?hy ?_
     case hy =>
      intro w hSw; obtain ⟨o6,o7⟩:=hSw; go_simp
      all_goals with_reducible rfl
     (try simp only [Act.put,sI,sZ,sS]);refine wTk (i:=5) (v:=?_) rfl ?hy ?_
     case hy =>
      intro w hSw; obtain ⟨o6,o7⟩:=hSw; go_simp
      all_goals with_reducible rfl
     (try simp only [Act.put,sI,sZ,sS]);refine wTk (i:=6) (v:=?_) rfl ?hy ?_
     case hy =>
      intro w hSw; obtain ⟨o6,o7⟩:=hSw; go_simp
      all_goals with_reducible rfl
     (try simp only [Act.put,sI,sZ,sS]);refine wTk (i:=7) (v:=?_) rfl ?hy ?_
     case hy =>
      intro w hSw; obtain ⟨o6,o7⟩:=hSw; go_simp
      all_goals with_reducible rfl
     (try simp only [Act.put,sI,sZ,sS]);refine wTk (i:=8) (v:=?_) rfl ?hy ?_
     case hy =>
      intro w hSw; obtain ⟨o6,o7⟩:=hSw; go_simp
      all_goals with_reducible rfl
     (try simp only [Act.put,sI,sZ,sS]);refine wpAnyH_ready (rs:=[9]) (by as_aux_lemma=>kernel_rfl) (by simp) ?_; refine rdY rfl (fun K hK=>?_); rw [if_pos (by rfl)]; refine wp_store_row 32 (.tmp 2) (.tmp 52) rfl w.heap.size (aG (.slice none 0 0) 0 false [] (.slice none 0 0)) (by rfl) (by rfl) _ _ hzr.out (by kernel_rfl) (by rfl) (by simp [Value.oneCell']) ?_; refine hK.out _ _ ?_ (fun hHeld2=>?_)
     ·exact ⟨(cell_setRow_other W4.drew w.heap.size _ ⟨pb,6,none⟩ hpbw).trans c6,(cell_setRow_other W4.drew w.heap.size _ ⟨pb,7,none⟩ hpbw).trans c7⟩
     clear hK K; clear hHeld; have hHeld:=hHeld2; clear hHeld2;(try simp only [Act.put,sI,sZ,sS]);refine wTk (i:=10) (v:=?_) rfl ?hy ?_
     case hy =>
      intro w hSw
      skip
      go_simp
      all_goals with_reducible rfl
     (try simp only [Act.put,sI,sZ,sS]);refine wTk (i:=11) (v:=?_) rfl ?hy ?_
     case hy =>
      intro w hSw
      skip
      go_simp
      all_goals with_reducible rfl
     (try simp only [Act.put,sI,sZ,sS]);refine wpAnyH_done (by as_aux_lemma=>kernel_rfl) ?_ _
     all_goals go_wp2_with fail
     refine bodyPost_ret (gW (by rfl) _ _ w.heap.size _ en pz (by rfl) (by rfl) (by rfl) hfin.out (by kernel_rfl)) rfl ?_; rw [hR.out,← hpz.out]; exact ⟨hbf.out,rfl⟩
    | some q =>
     obtain ⟨rv,av,zs,he,hz,hzr,hgo⟩:=hres; subst he; have hen:st.err=none:=hqe.out; replace hR:=hid (show R=.ok q from hR.out); obtain ⟨ra,rc,rfl,-,-⟩:=hz.slice; obtain ⟨aa,ac,rfl,-,-⟩:=hgo.slice; obtain ⟨op,hop⟩:∃ op,op=q.goal.op:=⟨_,rfl⟩; obtain ⟨nt,hnt⟩:∃ nt,nt=q.goal.nt:=⟨_,rfl⟩; obtain ⟨rel,hrel⟩:∃ rel,rel=q.goal.rel:=⟨_,rfl⟩; rw [← hop,← hnt,← hrel]; have hbx:Below w3.heap.size w3 (w3.alloc (.cells (aG (.slice ra zs.length rc) op nt rel (.slice aa q.goal.args.length ac)) 32)):=(zN _ _).alloc (zM _) _; have hM4:=hM3.below hbx;have c6:(w3.alloc (.cells (aG (.slice ra zs.length rc) op nt rel (.slice aa q.goal.args.length ac)) 32)).cell? ⟨pb,6,none⟩=some (iv 0):=(hM4.cell (i:=6) (v:=iv (kD st)) rfl).trans (by rw [show kD st=0 from by unfold kD; rw [hen]]); have hres4:=(hbx.block w.heap.size (by omega)).trans hres3; obtain ⟨r0,r1,r2,r3,r4,rz⟩:=cg hres4; have rz0:=rz 0; have rz1:=rz 1; have rz2:=rz 2; have rz3:=rz 3; have rz4:=rz 4; clear rz; have hnw:=af w3 (.cells (aG (.slice ra zs.length rc) op nt rel (.slice aa q.goal.args.length ac)) 32); obtain ⟨n0,n1,n2,n3,n4,-⟩:=cg hnw; have hfin:=hid (iB hres4 (.slice ra zs.length rc) op nt rel (.slice aa q.goal.args.length ac));have hbf:=hid (show Below w.heap.size w (setQ (w3.alloc (.cells (aG (.slice ra zs.length rc) op nt rel (.slice aa q.goal.args.length ac)) 32)) w.heap.size (.slice ra zs.length rc) op nt rel (.slice aa q.goal.args.length ac)) from ((Fr.of_below (hb3.out.trans (hbx.mono (by omega))) (fun _=>False)).setQ (zM _) (.slice ra zs.length rc) op nt rel (.slice aa q.goal.args.length ac)).to_below (zM _) (fun k hk e=>e));(have hw3:w.heap.size < w3.heap.size:=by omega);have hz':=hid (hz.move (w':=setQ (w3.alloc (.cells (aG (.slice ra zs.length rc) op nt rel (.slice aa q.goal.args.length ac)) 32)) w.heap.size (.slice ra zs.length rc) op nt rel (.slice aa q.goal.args.length ac)) (T:=aF w.heap.size) bS fun k hk hk2=>⟨by unfold aF at hk2 ⊢; omega,(eX (by unfold aF at hk2; omega)).trans (hbx.block k hk)⟩); have hg':=hid (hgo.move (w':=setQ (w3.alloc (.cells (aG (.slice ra zs.length rc) op nt rel (.slice aa q.goal.args.length ac)) 32)) w.heap.size (.slice ra zs.length rc) op nt rel (.slice aa q.goal.args.length ac)) (T:=aF w.heap.size) aD fun k hk hk2=>⟨by unfold aF at hk2 ⊢; omega,(eX (by unfold aF at hk2; omega)).trans (hbx.block k hk)⟩); replace hen:=hid hen; replace hzr:=hid hzr; replace hop:=hid hop; replace hnt:=hid hnt;replace hrel:=hid hrel; clear hM3 hF3 hM4 hres3 hres4 hbx hz hgo hnw;(go_upto_region 12 with (fail));generalize w3.alloc (.cells (aG (.slice ra zs.length rc) op nt rel (.slice aa q.goal.args.length ac)) 32)=W4 at *;go_wp2_with fail;refine bodyPost_ret (gW (by rfl) _ _ w.heap.size _ 0 0 (by rfl) (by rfl) (by rfl) hfin.out (by kernel_rfl)) rfl ?_; rw [hR.out]; exact ⟨hbf.out,_,_,zs,by rw [hop.out,hnt.out,hrel.out],hz'.out,hzr.out,hg'.out⟩
end Go.Proofs.YtffdpoifdahadaaGreatDoor
