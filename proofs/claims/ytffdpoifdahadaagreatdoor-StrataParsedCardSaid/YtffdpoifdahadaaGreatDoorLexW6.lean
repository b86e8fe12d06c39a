/- LexW6: Del, LexW6, in one text. -/
import Derived.Test.YtffdpoifdahadaaGreatDoorRel
import Derived.Laws.CopyRow
import Derived.BigFrame
import Derived.Test.YtffdpoifdahadaaGreatDoorLexW5
import Derived.Deep.CutBlock
import Derived.Deep.CutRange
set_option linter.unusedVariables false
set_option linter.unusedSimpArgs false
set_option maxHeartbeats 40000000
set_option maxRecDepth 100000
namespace Go.Proofs.YtffdpoifdahadaaGreatDoor
open Go.RowKit
structure cH (P:Program) (t u ty:TypeId) (vs vx v':Value) (W W':World):Prop where
 out:(Builtin.append_ #[t,u] ty #[vs,vx]).run P W=.ok v' W'
theorem cq {P:Program} {ops:Array Oper} {o:Oper} {a:Act} {w w':World} {K:Act->World->Prop} {Q:Exit->Act->World->Prop} {E:Prop} (hg:o.guard=none) (s x:Operand) {t u:TypeId}
  (hop:o.op=Op.call { callee:=Callee.builtin Builtin.append,args:=#[s,x],argTypes:=#[t,u] }) {vs vx v':Value} (hs:a.eval s=vs) (hx:a.eval x=vx)
  (hrun:cH P t u o.type vs vx v' w w') (hK:K (a.put o.dst v') w'):if Region.wanted o (yielded ops a.tmps)=true then Oper.wp P o a w K Q else E :=
 k_ hg s x t u hop hs hx hrun.out hK
theorem aU {P:Program} {ops:Array Oper} {rest:List Oper} {o:Oper} {a:Act} {w w':World} {Q:Exit->Act->World->Prop} (hg:o.guard=none) (s x:Operand) {t u:TypeId}
  (hop:o.op=Op.call { callee:=Callee.builtin Builtin.append,args:=#[s,x],argTypes:=#[t,u] }) {vs vx v':Value} (hs:a.eval s=vs) (hx:a.eval x=vx)
  (hrun:cH P t u o.type vs vx v' w w') (h:wpList P ops Q rest (a.put o.dst v') w'):wpList P ops Q (o::rest) a w :=
 jD hg s x t u hop hs hx hrun.out h
theorem jB {P:Program} (w:World) (base:Nat) (t ty e:TypeId) (i:TypeInfo) (z:Value) (size bytes:Nat) (ht:P.underlying t=some (.slice e)) (hi:P.info? e=some i) (hz:i.zero=some z)
  (hsize:i.size=size) (hby:i.bytes=bytes) (hzs:z.cells.size=size) (hsz:0 < size) (v:Value) (n:Nat) (xs:List Value) (hown:w.ownsRow base e size v n xs)
  (B:Nat) (vs:Value) (m:Nat) (news:List Value) (hr:Row B w size vs m news) (h1:∀ u∈news,u.oneCell'=true) (h63:n+m<=maxLen) (hbytes:(n+m) * bytes<=140737488355328) (hbase:base<=w.heap.size) :
  ∃ v' w',(Builtin.append_ #[t,t] ty #[v,vs]).run P w=.ok v' w'/\w'.ownsRow base e size v' (n+m) (xs++news)/\w.grownBy w' v.ownBlock/\(v'.ownBlock=v.ownBlock\/v'.ownBlock=some w.heap.size):=by
 obtain ⟨a,cap,b,off,rfl,hl,ha,hc⟩:=hr; rcases a with _ | ad
 ·have hm:m=0:=by
   rcases Nat.eq_zero_or_pos m with h | h
   ·exact h
   ·cases (ha h).1
  subst hm; have hn:news=[]:=List.eq_nil_of_length_eq_zero (by simpa using hl); subst hn; refine ⟨v,w,?_,by simpa using hown,World.grownBy.refl w _,.inl rfl⟩; rcases hown.2 with ⟨rfl,rfl⟩ | ⟨g,cap,cur,rfl,_,_,hnc,_⟩
  ·simp [Builtin.append_,run_underlying ht,sizeOf,typeInfo,hi,Builtin.lenOf,Builtin.firstCells]
  ·simp [Builtin.append_,run_underlying ht,sizeOf,typeInfo,hi,Builtin.lenOf,Builtin.firstCells,hnc,storeCells]
 ·have hcells:∀ j u,news[j]? = some u->w.cell? (ad.add j)=some u:=by
   intro j u hu; obtain ⟨hj,rfl⟩:=List.getElem?_eq_some_iff.1 hu
   have hm:0 < m:=by
    rcases Nat.eq_zero_or_pos m with h | h
    ·rw [hl,h,Nat.zero_mul] at hj; omega
    ·exact h
   have e:=(ha hm).1; injection e with e; subst e
   have e2:(⟨b,off,none⟩:Addr).add j=⟨b,off+j,none⟩:=by simp only [Addr.add]; split <;> simp_all
   rw [e2]; exact hc j hj
  obtain ⟨v',w',hrun,h2,h3,h4,h5⟩:=run_append_own_at (P:=P) w base t ty e i z size bytes ht hi hz hsize hby hzs hsz v n xs hown ad m cap news hl hcells h1 h63 hbytes hbase; exact ⟨v',w',hrun,h2,h3,h5⟩
theorem aO.append1 {α:Type} {P:Program} {E t ty:TypeId} {sz bytes:Nat} {R:Rel α} {i:TypeInfo} {z:Value} (hR:dA sz R) (ht:P.underlying t=some (.slice E)) (hi:P.info? E=some i) (hz:i.zero=some z) (hsize:i.size=sz) (hby:i.bytes=bytes) (hzs:z.cells.size=sz) (hsz:0 < sz)
  {S:aP} {w:World} {l:List α} {v:Value} (h:aO E sz R S w l v) {B:Nat} {vs:Value} {cs:List Value} {x:α} (hr:Row B w sz vs 1 cs) (hx:R (fun k=>S k/\v.ownBlock≠some k) w x cs) (h63:l.length+1<=maxLen) (hbytes:(l.length+1) * bytes<=140737488355328) (hS:∀ k,w.heap.size<=k->S k) :
  ∃ v' w',cH P t t ty v vs v' w w'/\aO E sz R S w' (l++[x]) v'/\Fr S w w':=by
 obtain ⟨xs,h1,h2,h3⟩:=h; obtain ⟨v',w',hrun,hown,hg,hv⟩:=jB w 0 t ty E i z sz bytes ht hi hz hsize hby hzs hsz v l.length xs h1 B vs 1 cs hr (hR.one hx) h63 hbytes (zW _)
 have hkeep:∀ {y:α} {ds:List Value},R (fun k=>S k/\v.ownBlock≠some k) w y ds->R (fun k=>S k/\v'.ownBlock≠some k) w' y ds:=by
  intro y ds hy
  refine hR.move hy fun k hk hu=>⟨⟨hu.1,?_⟩,hg.block k hk (fun e=>hu.2 e.symm)⟩
  rcases hv with hv | hv
  ·rw [hv]; exact hu.2
  ·rw [hv]; intro e; injection e with e; omega
 refine ⟨v',w',⟨hrun⟩,⟨xs++cs,by rw [zQ]; exact hown,fun k hk=>?_,fun i y hy=>?_⟩,⟨hg.os,hg.tape,hg.output,hg.size,fun k hk hs=>hg.block k hk (fun e=>hs (h2 k e.symm))⟩⟩
 ·rcases hv with hv | hv
  ·exact h2 k (hv ▸ hk)
  ·rw [hv] at hk; injection hk with hk; subst hk; exact hS _ (zM _)
 ·by_cases hil:i < l.length
  ·rw [Aa hil] at hy
   obtain ⟨ds,h4,h5⟩:=h3 i y hy; refine ⟨ds,fun j u hu=>?_,hkeep h5⟩; have:=h4 j u hu; rw [Aa (List.getElem?_eq_some_iff.1 this).1]; exact this
  ·have hil:i=l.length:=by
    have:=(List.getElem?_eq_some_iff.1 hy).1; simp at this; omega
   subst hil; rw [Ab (zM _),Nat.sub_self] at hy; simp at hy; subst hy; refine ⟨cs,fun j u hu=>?_,hkeep hx⟩; have hxl:=h1.1; rw [Ab (by omega),show l.length * sz+j - xs.length=j by omega]; exact hu
theorem jS {w:World} {b sz:Nat} {cs:List Value} {t:TypeId} {f:Nat × Nat} (h:w.heap[b]? = some (.cells cs.toArray t f)) (hl:cs.length=sz):Row w.heap.size w sz (.slice (some ⟨b,0,none⟩) 1 1) 1 cs :=
 ⟨_,_,b,0,rfl,by rw [hl]; omega,fun _=>⟨rfl,aL h⟩,fun j hj=>by rw [Nat.zero_add,aj h]; simp [hj]⟩
theorem tO {w:World} {g:Nat} {cur:Array Value} {e:TypeId} (h:w.heap[g]? = some (.cells cur e (0,0))) (cs:Array Value):(w.setRow g cs).heap[g]? = some (.cells cs e (0,0)):=by
 simp [World.setRow,Array.getElem?_modify,h]
theorem gT {w:World} {g k:Nat} (h:k≠g) (cs:Array Value):(w.setRow g cs).heap[k]? = w.heap[k]?:=by
 simp [World.setRow,Array.getElem?_modify,Ne.symm h]
theorem Fr.setRow {S:Nat->Prop} {a w:World} (h:Fr S a w) {g:Nat} (hg:S g) (cs:Array Value):Fr S a (w.setRow g cs) :=
 ⟨h.os,h.tape,h.output,by simpa [World.setRow] using h.size,fun k hk hs=>(gT (fun e=>hs (by rw [e]; exact hg)) cs).trans (h.block k hk hs)⟩
end Go.Proofs.YtffdpoifdahadaaGreatDoor
namespace Go.Proofs.YtffdpoifdahadaaGreatDoor
open Go.RowKit
open Go.Lib (hid byteCells)
def TkR:Rel Tk:=fun _ _ t cs=>cs=[iv t.kind,sv t.text,iv t.n,iv t.pos]
theorem cY:dA 4 TkR:=⟨fun h=>by rw [h]; rfl,fun h=>by rw [h]; intro u hu; simp at hu; rcases hu with rfl | rfl | rfl | rfl <;> rfl,fun h _=>h⟩
theorem zy:(Tryz.prog.info? 95).map (fun i=>(i.zero,i.size,i.bytes))=some (some (.agg #[.int .i64 0,.string ⟨#[]⟩,.int .i64 0,.int .i64 0]),4,40):=by kernel_rfl
theorem po {s D:List UInt8} {k:Nat} {u:List UInt8} (h:s.drop k=u++D):s.drop (s.length - D.length)=D:=by
 have h1:s=(s.take k++u)++D:=by rw [Ad,← h,List.take_append_drop]
 have h2:=congrArg List.length h1; simp only [zQ] at h2; rw [show s.length - D.length=(s.take k++u).length by rw [zQ]; omega]
 conv=>lhs; rhs; rw [h1]
 exact List.drop_left' rfl
theorem sD {D:List UInt8} {x:Int} (h:cQ D=.error x):x≠0:=by
 cases D with
 | nil=>simp only [cQ,Except.error.injEq] at h; subst h; decide
 | cons c r =>
  simp only [cQ] at h; split at h
  ·unfold jV at h; cases h
  ·split at h
   ·unfold dQ at h
    split at h
    ·cases h
    ·rename_i e he
     simp only [Except.error.injEq] at h; subst h; unfold lg at he; split at he
     ·simp only [Except.error.injEq] at he; subst he; decide
     ·split at he
      ·simp only [Except.error.injEq] at he; subst he; decide
      ·split at he
       ·cases he
       ·simp only [Except.error.injEq] at he; subst he; decide
   ·split at h
    ·unfold iA at h
     split at h
     ·split at h
      ·simp only [Except.error.injEq] at h; subst h; decide
      ·cases h
     ·simp only [Except.error.injEq] at h; subst h; decide
    ·unfold gp at h
     split at h
     ·cases h
     ·simp only [Except.error.injEq] at h; subst h; decide
def oE (acc:List Tk) (r:Except (Int × Int) (List Tk)):Except (Int × Int) (List Tk) :=
 match r with
 | .ok l=>.ok (acc++l)
 | .error x=>.error x
theorem tZ (acc:List Tk) (t:Tk) (r:Except (Int × Int) (List Tk)):oE acc (match r with | .error x=>.error x | .ok l=>.ok (t::l))=oE (acc++[t]) r:=by
 cases r <;> simp [oE]
def qW (w:World) (r:Except (Int × Int) (List Tk)) (e:Ending) (w':World):Prop :=
 Below w.heap.size w w'/\match r with
 | .ok l=>∃ v,e=.returned (.tuple #[v,iv 0,iv 0])/\aO 95 4 TkR (aF w.heap.size) w' l v
 | .error x=>e=.returned (.tuple #[.slice none 0 0,iv x.1,iv x.2])
def TokSt (b tb:Nat) (s:List UInt8) (r:Except Int (Tk × List UInt8)) (err:Value) (w:World):Prop :=
 match r with
 | .ok (t,r')=>err=iv 0/\Sc b s (s.length - r'.length) w/\TR tb t w
 | .error x=>err=iv x/\TR tb tk0 w
theorem vF (s:List UInt8) (w:World) (hs:s.length<=1000000) :
  Calls Tryz.prog 36 #[sv s] w (qW w (ef s)):=by
 obtain ⟨res,hres⟩:∃ r,r=ef s:=⟨_,rfl⟩; rw [← hres]; obtain ⟨post,hpost⟩:∃ p,p=qW w res:=⟨_,rfl⟩; rw [← hpost]; replace hpost:=hid hpost; by_cases hbig:32768 < s.length
 ·have q1:decide ((s.length:Int) > 32768)=true:=zP (by omega)
  have q1i:(32768:Int) < (s.length:Int):=by omega
  have hv:=hid (show res=.error (15,0) by rw [hres]; unfold ef; rw [if_pos hbig]); clear hres
  go_enter Tryz.func36,Tryz.ntmps36
  go_wp2_with fail
  go_step3
  go_wp2_with fail
  rw [Exit.noGoto_ret]; refine bodyPost_ret (results_tmp3 Tryz.results36 _ _ _) rfl ?_; rw [hpost.out,hv.out]; exact ⟨zN _ _,rfl⟩
 ·have q1:decide ((s.length:Int) > 32768)=false:=zO (by omega)
  have q1i:¬ (32768:Int) < (s.length:Int):=by omega
  have hv:=hid (show oE [] (fm s.length (s.drop 0))=res by
   rw [hres]; unfold ef; rw [if_neg hbig]; show oE [] (iC s.length (s.length+1) s)=_
   unfold oE; cases iC s.length (s.length+1) s <;> rfl)
  clear hres; obtain ⟨i0,hi,hz0,hz1,hz2⟩:=info_parts zy; replace hi:=hid hi; replace hz0:=hid hz0; replace hz1:=hid hz1; replace hz2:=hid hz2
  go_enter Tryz.func36,Tryz.ntmps36
  go_wp2_with fail
  go_step3
  go_wp2_with fail
  go_step3
  go_wp2_with fail
  go_loopg [6] s.length (fun g v wr=>∃ (k:Nat) (acc:List Tk),k+g=s.length/\acc.length<=k/\Hid (oE acc (fm s.length (s.drop k))=res)/\Hid (aO 95 4 TkR (aF (w.heap.size+1)) wr acc v)/\Hid (Sc w.heap.size s k wr)/\Hid (Below w.heap.size w wr))
  case atStart =>
   exact ⟨0,[],by omega,zM _,hv,hid (aO.nil _ _ _ _ _),hid (af _ _),hid ((zN _ w).alloc (zM _) _)⟩
  case round =>
   clear hv; obtain ⟨k,acc,hkg,hac,hE,hO,hS,hB⟩:=hrel; have hsk:=hid (vw w.heap.size s k wr hS.out (by omega) (by omega)); obtain ⟨us,hus⟩:=gA false (s.drop k); have hDk:=po hus; have hDl:=fT false (s.drop k); rw [List.length_drop] at hDl; obtain ⟨D,hD⟩:∃ D,D=bo false (s.drop k):=⟨_,rfl⟩; rw [← hD] at hsk hDk hDl; obtain ⟨k1,hk1⟩:∃ k1,k1=s.length - D.length:=⟨_,rfl⟩; rw [← hk1] at hsk hDk; replace hD:=hid hD; clear hus
   go_wp2_with fail
   refine hsk.out.mono ?_; rintro e w1 ⟨rfl,hS1,hF1⟩; have hlt1:=ae hS1; have hO1:aO 95 4 TkR (aF (w.heap.size+1)) w1 acc u6:=hO.out.fr cY hF1 (fun q hq e=>by unfold one at e; unfold aF at hq; omega); have hB1:=hB.out.trans (hF1.to_below hB.out.size (fun q hq e=>by unfold one at e; omega)); clear hsk hS hO hB hF1; replace hB1:=hid hB1; replace hO1:=hid hO1; have c1:=hS1.c1; replace hS1:=hid hS1; rcases D with _ | ⟨c,r⟩
   ·have hkl:k1=s.length:=by rw [hk1]; rfl
    have hv:=hid (show res=.ok acc by rw [← hE.out,fO _ _ hD.out.symm]; simp [oE]); have hfin:=hid (show aO 95 4 TkR (aF w.heap.size) w1 acc u6 from hO1.out.mono cY (fun q _ h=>Nat.le_of_succ_le h)); subst hkl; clear hE hD hO1 hk1 hDk hDl;go_wp2_with fail;have hFin2:=hfin.out.below cY (zN _ w1 |>.alloc (zM _) (.cells #[.int .i64 0,.string ⟨#[]⟩,.int .i64 0,.int .i64 0] 95)); refine bodyPost_ret (results_tmp3 Tryz.results36 _ _ _) rfl ?_; rw [hpost.out,hv.out]; exact ⟨hB1.out.alloc hB1.out.size _,u6,rfl,hFin2⟩
   ·obtain ⟨DD,hDD⟩:∃ DD,DD=c::r:=⟨_,rfl⟩
    (have hk1l:k1 < s.length:=by rw [hk1]; simp; rw [zT] at hDl; omega);(have hc:s[k1]? = some c:=by rw [← List.head?_drop,hDk]; rfl);have hix:=eP (P:=Tryz.prog) 9 (by kernel_rfl) s k1 c hc;(have n1:((k1:Int) == (s.length:Int))=false:=by rw [beq_eq_false_iff_ne]; omega);(have n2:¬ ((k1:Int)=(s.length:Int)):=by omega);(have n3:¬ (k1=s.length):=by omega);clear hc; obtain ⟨tb,htb⟩:∃ tb,tb=w1.heap.size:=⟨_,rfl⟩; have hR3:=hid (TR.new w1); have hF3:=hid ((Fr.refl (one w.heap.size) w1).alloc (.cells #[.int .i64 0,.string ⟨#[]⟩,.int .i64 0,.int .i64 0] 95)); have hS3:=hid (show Sc w.heap.size s k1 (w1.alloc (.cells #[.int .i64 0,.string ⟨#[]⟩,.int .i64 0,.int .i64 0] 95)) from (z7 _ _ _ hlt1).trans hS1.out); rw [← htb] at hR3;(have htb1:tb<=w1.heap.size:=by omega);(have htb2:w1.heap.size<=tb:=by omega);(have htb3:w.heap.size < tb:=by omega);rw [← hDD] at hDk hk1 hDl hD; replace hk1:=hid hk1;(go_upto_block 2 with (fail));rw [← htb]; replace htb:=hid htb
    go_cut [9] from 15 to 60 (fun e wx=>Hid (TokSt w.heap.size tb s (cQ DD) e wx)/\Hid (Fr (one w.heap.size) w1 wx))
    case first =>
     have hle:=hid (fun W=>ib c W); have hdg:=hid (fun W=>iK c W); generalize w1.alloc (.cells #[.int .i64 0,.string ⟨#[]⟩,.int .i64 0,.int .i64 0] 95)=w2 at *
     cases hcl:cL c with
     | true =>
      (have htok:cQ DD=jV DD:=by rw [hDD]; simp only [cQ]; rw [hcl]; rfl);rw [hcl] at hle; clear hdg hcl;go_wp2_with fail;refine (hle.out _).mono ?_; rintro e w3 ⟨rfl,rfl⟩;go_wp2_with fail;refine (wa w.heap.size s k1 w3 hS3.out (by omega) (by omega)).mono ?_; rintro e w4 ⟨he4,hS4,hF4⟩; rw [hDk] at he4 hS4; simp only [tkv] at he4; subst he4; have hR4:TR tb tk0 w4:=hR3.out.fr hF4 (by unfold one; omega); obtain ⟨t0,t1,t2,t3⟩:=hR4.cell; have g0:=hR4.f 0; have g1:=hR4.f 1; have g2:=hR4.f 2; have g3:=hR4.f 3; unfold jV at htok; generalize DD.takeWhile bP=U at *; generalize DD.dropWhile bP=V at *; replace htok:=hid htok; have hfin:=hid (hR4.set4 ⟨1,U,0,0⟩); have hFf:=hid (co (R:=tb) (hF3.out.trans hF4) (by omega) (iv 1) (sv U) (iv 0) (iv 0)); have hSf:=hid (hS4.other4 (R:=tb) (by omega) (iv 1) (sv U) (iv 0) (iv 0)); clear hF4 hR4 hS4 hF3 hR3 hS3;go_wp2_with fail;go_meet
      case rel=>exact ⟨hid (by rw [htok.out]; exact ⟨rfl,hSf.out,hfin.out⟩),hFf⟩
     | false =>
      rw [hcl] at hle
      cases hcd:dE c with
      | true =>
       (have htok:cQ DD=dQ DD:=by rw [hDD]; simp only [cQ]; rw [hcl,hcd]; rfl);(have hne:(s.drop k1).takeWhile bP≠[]:=by rw [hDk,hDD,List.takeWhile_cons,if_pos (lq hcd)]; simp);rw [hcd] at hdg; replace htok:=hid htok; replace hne:=hid hne; clear hcl hcd;go_wp2_with fail;refine (hle.out _).mono ?_; rintro e w3 ⟨rfl,rfl⟩;go_wp2_with fail;refine (hdg.out _).mono ?_; rintro e w5 ⟨rfl,rfl⟩;go_wp2_with fail;refine (qf w.heap.size s k1 _ hS3.out (by omega) (by omega) hne.out).mono ?_; rintro e w4 ⟨hF4,hm4⟩; have hR4:TR tb tk0 w4:=hR3.out.fr hF4 (by unfold one; omega); obtain ⟨t0,t1,t2,t3⟩:=hR4.cell; have g0:=hR4.f 0; have g1:=hR4.f 1; have g2:=hR4.f 2; have g3:=hR4.f 3; replace hR4:=hid hR4; replace hF4:=hid (hF3.out.trans hF4); rw [hDk,← htok.out] at hm4; clear hF3 hR3 hS3 htok
       cases hr4:cQ DD with
       | error x =>
        rw [hr4] at hm4; simp only [tkv,tk0] at hm4; subst hm4; have hfin:=hid (hR4.out.set4 tk0); have hFf:=hid (co (R:=tb) hF4.out (by omega) (iv 0) (sv []) (iv 0) (iv 0)); clear hF4 hR4;go_wp2_with fail;go_meet
        case rel=>exact ⟨hid (by rw [hr4]; exact ⟨rfl,hfin.out⟩),hFf⟩
       | ok tr =>
        obtain ⟨tk,r2⟩:=tr; rw [hr4] at hm4; obtain ⟨he4,hS4⟩:=hm4; simp only [tkv] at he4; subst he4; have hfin:=hid (hR4.out.set4 tk); have hFf:=hid (co (R:=tb) hF4.out (by omega) (iv tk.kind) (sv tk.text) (iv tk.n) (iv tk.pos)); have hSf:=hid (hS4.other4 (R:=tb) (by omega) (iv tk.kind) (sv tk.text) (iv tk.n) (iv tk.pos)); clear hF4 hR4 hS4;go_wp2_with fail;go_meet
        case rel=>exact ⟨hid (by rw [hr4]; exact ⟨rfl,hSf.out,hfin.out⟩),hFf⟩
      | false =>
       rw [hcd] at hdg; by_cases h34:c=34
       ·subst h34
        have htok:=hid (show cQ DD=iA DD by rw [hDD]; simp only [cQ]; rw [hcl,hcd]; rfl); clear hcl hcd;go_wp2_with fail;refine (hle.out _).mono ?_; rintro e w3 ⟨rfl,rfl⟩;go_wp2_with fail;refine (hdg.out _).mono ?_; rintro e w5 ⟨rfl,rfl⟩;go_wp2_with fail;refine (rj w.heap.size s k1 _ hS3.out (by omega) (by omega)).mono ?_; rintro e w4 ⟨hF4,hm4⟩; have hR4:TR tb tk0 w4:=hR3.out.fr hF4 (by unfold one; omega); obtain ⟨t0,t1,t2,t3⟩:=hR4.cell; have g0:=hR4.f 0; have g1:=hR4.f 1; have g2:=hR4.f 2; have g3:=hR4.f 3; replace hR4:=hid hR4; replace hF4:=hid (hF3.out.trans hF4); rw [hDk,← htok.out] at hm4; clear hF3 hR3 hS3 htok
        cases hr4:cQ DD with
        | error x =>
         rw [hr4] at hm4; simp only [tkv,tk0] at hm4; subst hm4; have hfin:=hid (hR4.out.set4 tk0); have hFf:=hid (co (R:=tb) hF4.out (by omega) (iv 0) (sv []) (iv 0) (iv 0)); clear hF4 hR4;go_wp2_with fail;go_meet
         case rel=>exact ⟨hid (by rw [hr4]; exact ⟨rfl,hfin.out⟩),hFf⟩
        | ok tr =>
         obtain ⟨tk,r2⟩:=tr; rw [hr4] at hm4; obtain ⟨he4,hS4⟩:=hm4; simp only [tkv] at he4; subst he4; have hfin:=hid (hR4.out.set4 tk); have hFf:=hid (co (R:=tb) hF4.out (by omega) (iv tk.kind) (sv tk.text) (iv tk.n) (iv tk.pos)); have hSf:=hid (hS4.other4 (R:=tb) (by omega) (iv tk.kind) (sv tk.text) (iv tk.n) (iv tk.pos)); clear hF4 hR4 hS4;go_wp2_with fail;go_meet
         case rel=>exact ⟨hid (by rw [hr4]; exact ⟨rfl,hSf.out,hfin.out⟩),hFf⟩
       ·have htok:=hid (show cQ DD=gp DD by rw [hDD]; simp only [cQ]; rw [hcl,hcd,if_neg h34]; rfl)
        obtain ⟨b1,b1',b1''⟩:((c.toNat:Int) == 34)=false/\¬ ((c.toNat:Int)=34)/\¬ c.toNat=34:=bn c 34 34 rfl h34; clear hcl hcd;go_wp2_with fail;refine (hle.out _).mono ?_; rintro e w3 ⟨rfl,rfl⟩;go_wp2_with fail;refine (hdg.out _).mono ?_; rintro e w5 ⟨rfl,rfl⟩;go_wp2_with fail;refine (wm w.heap.size s k1 _ hS3.out (by omega) (by omega)).mono ?_; rintro e w4 ⟨hF4,hm4⟩; have hR4:TR tb tk0 w4:=hR3.out.fr hF4 (by unfold one; omega); obtain ⟨t0,t1,t2,t3⟩:=hR4.cell; have g0:=hR4.f 0; have g1:=hR4.f 1; have g2:=hR4.f 2; have g3:=hR4.f 3; replace hR4:=hid hR4; replace hF4:=hid (hF3.out.trans hF4); rw [hDk,← htok.out] at hm4; clear hF3 hR3 hS3 htok
        cases hr4:cQ DD with
        | error x =>
         rw [hr4] at hm4; simp only [tkv,tk0] at hm4; subst hm4; have hfin:=hid (hR4.out.set4 tk0); have hFf:=hid (co (R:=tb) hF4.out (by omega) (iv 0) (sv []) (iv 0) (iv 0)); clear hF4 hR4;go_wp2_with fail;go_meet
         case rel=>exact ⟨hid (by rw [hr4]; exact ⟨rfl,hfin.out⟩),hFf⟩
        | ok tr =>
         obtain ⟨tk,r2⟩:=tr; rw [hr4] at hm4; obtain ⟨he4,hS4⟩:=hm4; simp only [tkv] at he4; subst he4; have hfin:=hid (hR4.out.set4 tk); have hFf:=hid (co (R:=tb) hF4.out (by omega) (iv tk.kind) (sv tk.text) (iv tk.n) (iv tk.pos)); have hSf:=hid (hS4.other4 (R:=tb) (by omega) (iv tk.kind) (sv tk.text) (iv tk.n) (iv tk.pos)); clear hF4 hR4 hS4;go_wp2_with fail;go_meet
         case rel=>exact ⟨hid (by rw [hr4]; exact ⟨rfl,hSf.out,hfin.out⟩),hFf⟩
    case rest =>
     obtain ⟨hst,hFx⟩:=hcut; clear hF3 hS3 hR3 hix n1 n2 n3 c1;(have hDne:DD≠[]:=by rw [hDD]; simp);rw [hD.out] at hDne
     cases hr4:cQ DD with
     | error x =>
      have hv:=hid (show res=.error (x,(k1:Int)) by
       rw [← hE.out,kr _ _ x (by rw [← hD.out]; exact hr4) hDne,← hD.out,← hk1.out]; rfl)
      rw [hr4] at hst; obtain ⟨he,hTR⟩:=hst.out; subst he; have hx:x≠0:=sD hr4;(have x1:((x:Int) == 0)=false:=by rw [beq_eq_false_iff_ne]; exact hx);(have x2:(x != 0)=true:=by simp [hx]);have hBf:=hid (hB1.out.trans (hFx.out.to_below hB1.out.size (fun q hq e=>by unfold one at e; omega))); clear hst hTR hr4;go_wp2_with fail;refine bodyPost_ret (results_tmp3 Tryz.results36 _ _ _) rfl ?_; rw [hpost.out,hv.out]; exact ⟨hBf.out,rfl⟩
     | ok tr =>
      obtain ⟨tk,r2⟩:=tr; rw [hr4] at hst; obtain ⟨he,hSx,hTR⟩:=hst.out; subst he; obtain ⟨u2,hu2,hu2n⟩:=sC hr4; have hl2:=iU hr4; have hd2:=po (s:=s) (k:=k1) (hDk.trans hu2)
      have hE2:=hid (show oE (acc++[{ tk with pos:=(k1:Int) }]) (fm s.length (s.drop (s.length - r2.length)))=res by
       have hsc:=jP s.length (s.drop k) tk r2 (by rw [← hD.out]; exact hr4); rw [← hD.out,← hk1.out] at hsc; rw [hd2,← hE.out,hsc]
       exact (tZ _ _ _).symm)
      (have hDll:DD.length=s.length - k1:=by have:=congrArg List.length hDk; rw [List.length_drop] at this; omega);have hO2:aO 95 4 TkR (fun q=>w.heap.size+1<=q/\q≠tb) wc acc u6:=(hO1.out.mono cY (T:=fun q=>w.heap.size+1<=q/\q≠tb) (fun q hq h=>⟨h,by omega⟩)).fr cY hFx.out (fun q hq e=>by unfold one at e; omega); have hBf:=hB1.out.trans (hFx.out.to_below hB1.out.size (fun q hq e=>by unfold one at e; omega)); have hszc:=hFx.out.size; obtain ⟨t0,t1,t2,t3⟩:=hTR.cell; have g3:=hTR.f 3; have hTR2:TR tb { tk with pos:=(k1:Int) } (wc.setCell ⟨tb,3,none⟩ (iv k1)):=aC (i:=3) hTR (iv k1); have hSx2:Sc w.heap.size s (s.length - r2.length) (wc.setCell ⟨tb,3,none⟩ (iv k1)):=(ak _ (by omega)).trans hSx; have hB2:=hBf.setCell (p:=⟨tb,3,none⟩) (by show w.heap.size<=tb; omega) (iv k1);have hF2:Fr (fun q=>q=tb) wc (wc.setCell ⟨tb,3,none⟩ (iv k1)):=Fr.setCell (S:=fun q=>q=tb) (Fr.refl _ wc) (p:=⟨tb,3,none⟩) (Or.inl rfl) (iv k1); have hO3:=hO2.fr cY hF2 (fun q hq e=>hq.2 e); have htbs:=ae hTR2; obtain ⟨wt,hwt⟩:∃ wt,wt=wc.setCell ⟨tb,3,none⟩ (iv k1):=⟨_,rfl⟩; rw [← hwt] at hTR2 hSx2 hB2 hO3 htbs; have hO4:=hO3.below cY (zN _ wt |>.alloc (zM _) (.cells #[iv tk.kind,sv tk.text,iv tk.n,iv k1] 95)); have hSx4:Sc w.heap.size s (s.length - r2.length) (wt.alloc (.cells #[iv tk.kind,sv tk.text,iv tk.n,iv k1] 95)):=(z7 _ _ _ (ae hSx2)).trans hSx2; have hB4:=hB2.alloc hB2.size (.cells #[iv tk.kind,sv tk.text,iv tk.n,iv k1] 95);obtain ⟨v',w5,hap,hO5,hF5⟩:=aO.append1 (P:=Tryz.prog) (t:=88) (ty:=88) (x:=({ tk with pos:=(k1:Int) }:Tk)) cY (by kernel_rfl) hi.out hz0.out hz1.out hz2.out rfl (by decide) hO4 (jS (cs:=[iv tk.kind,sv tk.text,iv tk.n,iv k1]) (af wt (.cells #[iv tk.kind,sv tk.text,iv tk.n,iv k1] 95)) rfl) rfl (by unfold maxLen; omega) (by omega) (fun q hq=>by simp at hq; omega); have hOf:=hid (hO5.mono cY (T:=aF (w.heap.size+1)) (fun q _ h=>h.1)); have hSf:=hid (hSx4.fr hF5 (by omega)); have hBf5:=hid (hB4.trans (hF5.to_below hB4.size (fun q hq e=>by omega))); have hw5:=hid hwt; rw [hwt] at hap; rw [show (wc.setCell ⟨tb,3,none⟩ (iv k1)).heap.size=wc.heap.size by simp [World.setCell]] at hap;(have d0:(wc.setCell ⟨tb,3,none⟩ (iv k1)).cell? ⟨tb,0,none⟩=some (iv tk.kind):=by rw [← hwt]; exact hTR2.cell.1);(have d1:(wc.setCell ⟨tb,3,none⟩ (iv k1)).cell? ⟨tb,1,none⟩=some (sv tk.text):=by rw [← hwt]; exact hTR2.cell.2.1);(have d2:(wc.setCell ⟨tb,3,none⟩ (iv k1)).cell? ⟨tb,2,none⟩=some (iv tk.n):=by rw [← hwt]; exact hTR2.cell.2.2.1);(have d3:(wc.setCell ⟨tb,3,none⟩ (iv k1)).cell? ⟨tb,3,none⟩=some (iv k1):=by rw [← hwt]; exact hTR2.cell.2.2.2);clear hst hE hO1 hO2 hO3 hO4 hO5 hF5 hF2 hTR hTR2 hSx hSx2 hSx4 hB2 hB4 hBf hFx hwt hr4 hDne hd2 hu2
      go_wp2_with (first | (at_builtin; refine aU rfl (.tmp 57) (.tmp 59) rfl rfl rfl hap ?_))
      go_roundg (r2.length)
      case measure=>omega
      case rel=>exact ⟨s.length - r2.length,acc++[{ tk with pos:=(k1:Int) }],by omega,by rw [zQ]; simp; omega,hE2,hOf,hSf,hBf5⟩
end Go.Proofs.YtffdpoifdahadaaGreatDoor
