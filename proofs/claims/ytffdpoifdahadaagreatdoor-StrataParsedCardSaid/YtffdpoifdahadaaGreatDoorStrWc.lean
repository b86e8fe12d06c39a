/- strata, walks: newBody. -/
import Derived.Test.YtffdpoifdahadaaGreatDoorStrWb
import Derived.Laws.MakeOwn
set_option linter.unusedVariables false
set_option linter.unusedSimpArgs false
set_option maxHeartbeats 40000000
set_option maxRecDepth 100000
namespace Go.Proofs.YtffdpoifdahadaaGreatDoor
open Go.RowKit
open Go.Lib (hid)
theorem uy:(Tryz.prog.info? 4).map (fun i=>(i.zero,i.size,i.bytes))=some (some (.bool false),1,1):=by kernel_rfl
theorem yi (n:Nat) (hn:n<=1048576) (W:World):(Instr.makeSlice 69 (.int .i64 (n:Int)) (.int .i64 (n:Int))).run Tryz.prog W=.ok (.slice (some ⟨W.heap.size,0,none⟩) n n) (W.alloc (.cells (Array.replicate n (.bool false)) 4 (0,0))):=by
 obtain ⟨i0,hi,hz0,hz1,hz2⟩:=info_parts uy; have h:=run_make (P:=Tryz.prog) W 69 4 i0 _ (by kernel_rfl) hi hz0 .i64 .i64 (n:Int) (n:Int) (by omega) (Int.le_refl _) (by rw [hz2]; omega) (by omega); rw [h,Int.toNat_natCast,hz1,Nat.mul_one]
 congr 3
 apply Array.ext_getElem?; intro j; by_cases hj:j < n
 ·simp [madeCells,hj,Value.cells,Nat.mod_one]
 ·rw [Array.getElem?_eq_none (by simp [madeCells]; omega),Array.getElem?_eq_none (by simp; omega)]
theorem wg (n:Nat) (hn:n<=1048576) (W:World):(Instr.makeSlice 33 (.int .i64 (n:Int)) (.int .i64 (n:Int))).run Tryz.prog W=.ok (.slice (some ⟨W.heap.size,0,none⟩) n n) (W.alloc (.cells (Array.replicate n (iv 0)) 3 (0,0))):=by
 obtain ⟨i0,hi,hz0,hz1,hz2⟩:=info_parts gJ; have h:=run_make (P:=Tryz.prog) W 33 3 i0 _ (by kernel_rfl) hi hz0 .i64 .i64 (n:Int) (n:Int) (by omega) (Int.le_refl _) (by rw [hz2]; omega) (by omega); rw [h,Int.toNat_natCast,hz1,Nat.mul_one]
 congr 3
 apply Array.ext_getElem?; intro j; by_cases hj:j < n
 ·simp [madeCells,hj,Value.cells,Nat.mod_one]
 ·rw [Array.getElem?_eq_none (by simp [madeCells]; omega),Array.getElem?_eq_none (by simp; omega)]
theorem at5 (w:World) (o0 o1 o2 o3 o4:Obj) :
  (((((w.alloc o0).alloc o1).alloc o2).alloc o3).alloc o4).heap[w.heap.size]? = some o0/\(((((w.alloc o0).alloc o1).alloc o2).alloc o3).alloc o4).heap[w.heap.size+1]? = some o1/\(((((w.alloc o0).alloc o1).alloc o2).alloc o3).alloc o4).heap[w.heap.size+1+1]? = some o2 /\
   (((((w.alloc o0).alloc o1).alloc o2).alloc o3).alloc o4).heap[w.heap.size+1+1+1]? = some o3/\(((((w.alloc o0).alloc o1).alloc o2).alloc o3).alloc o4).heap[w.heap.size+1+1+1+1]? = some o4/\Below w.heap.size w (((((w.alloc o0).alloc o1).alloc o2).alloc o3).alloc o4):=by
 have s1:(w.alloc o0).heap.size=w.heap.size+1:=by simp
 have s2:((w.alloc o0).alloc o1).heap.size=w.heap.size+1+1:=by simp
 have s3:(((w.alloc o0).alloc o1).alloc o2).heap.size=w.heap.size+1+1+1:=by simp
 have s4:((((w.alloc o0).alloc o1).alloc o2).alloc o3).heap.size=w.heap.size+1+1+1+1:=by simp
 have h1:=af (w.alloc o0) o1; have h2:=af ((w.alloc o0).alloc o1) o2; have h3:=af (((w.alloc o0).alloc o1).alloc o2) o3; have h4:=af ((((w.alloc o0).alloc o1).alloc o2).alloc o3) o4; rw [s1] at h1; rw [s2] at h2; rw [s3] at h3; rw [s4] at h4; have b:=zN w.heap.size w
 exact ⟨bt (bt (bt (bt (af w o0)))),bt (bt (bt h1)),bt (bt h2),bt h3,h4,
  ((((b.alloc (zM _) o0).alloc (by simp) o1).alloc (by simp; omega) o2).alloc (by simp; omega) o3).alloc (by simp; omega) o4⟩
structure Nw (n:Nat) (la:Option Addr) (lc:Nat) (w:World) (B ob lb mb mu:Nat) (W:World):Prop where
 blk:W.heap[B]? = some (.cells (ed (.slice la n lc) (.map (some mb)) (.slice (some ⟨ob,0,none⟩) n n) (.map (some mu)) (.slice (some ⟨lb,0,none⟩) n n) (.slice none 0 0)) 74 (0,0))
 o:W.heap[ob]? = some (.cells (Array.replicate n (iv 0)) 3 (0,0))
 l:W.heap[lb]? = some (.cells (Array.replicate n (.bool false)) 4 (0,0))
 b:W.heap[mb]? = some (.map #[] 0)
 u:W.heap[mu]? = some (.map #[] 0)
 ne:mb≠mu
 ge:w.heap.size<=B/\w.heap.size<=ob/\w.heap.size<=lb/\w.heap.size<=mb/\w.heap.size<=mu
 bel:Below w.heap.size w W
theorem wq {W:World} {b:Nat} (h:W.heap[b]? = some (.map #[] 0)) (P:Program) (k:TypeId):bR P k b 0 (fun _=>none) W:=by
 have hb:=aL h
 have hs:({ W with heap:=W.heap.extract 0 b }:World).heap.size=b:=by simp; omega
 have h1:=bR.made (P:=P) (k:=k) { W with heap:=W.heap.extract 0 b }; have h2:=af { W with heap:=W.heap.extract 0 b } (.map #[] 0); rw [hs] at h1 h2; exact h1.same (h.trans h2.symm)
def K0 (n:Nat) (la:Option Addr) (lc B ob lb mb mu:Nat):BK:=⟨la,lc,B,ob,n,lb,n,mb,mu,fun _=>.slice none 0 0,fun _=>[]⟩
def BK.up (K:BK) (uv:List UInt8->Value) (U:List UInt8->List Nat):BK:=⟨K.la,K.lc,K.B,K.ob,K.oc,K.lb,K.lbc,K.mb,K.mu,uv,U⟩
theorem sL {W:World} {g n:Nat} {x:Value} {t:TypeId} (h:W.heap[g]? = some (.cells (Array.replicate n x) t (0,0))) (hn:n<=1048576):W.ownsRow 0 t 1 (.slice (some ⟨g,0,none⟩) n n) n (List.replicate n x) :=
 ⟨by simp,Or.inr ⟨g,n,_,rfl,zW _,h,zM _,by unfold maxLen; omega,by simp,by simp⟩⟩
theorem Nw.bm {lits:List Lg} {S:aP} {la:Option Addr} {lc B ob lb mb mu:Nat} {w W:World} (h:Nw lits.length la lc w B ob lb mb mu W) (hl:SlR 4 LgR S w lits (.slice la lits.length lc)) (hS:∀ k,S k->k < w.heap.size) (hs:Sml lits) :
  BM (fun k=>w.heap.size<=k) (K0 lits.length la lc B ob lb mb mu) lits S [] (List.replicate lits.length 0) (List.replicate lits.length false) [] (.slice none 0 0) 0 0 W where
 blk:=h.blk
 lit:=hl.below eA h.bel
 bound:=(wq h.b _ _).congr fun kl _=>by cases kl <;> simp [iP]
 opn:=by
  have:=sL h.o hs.len
  have e:(bQ (List.replicate lits.length 0)).map iv=List.replicate lits.length (iv 0):=by simp
  rw [e]; exact this
 use:=(wq h.u _ _).congr fun kl _=>by cases kl <;> simp [xI,K0]
 lst:=by rw [List.map_replicate]; exact sL h.l hs.len
 heap:=⟨rfl,Or.inl ⟨rfl,rfl⟩⟩
 rows:=fun v hU=>absurd rfl hU
 new:=fun k hk=>zV h.bel.size hk
 gB:=h.ge.1
 go:=h.ge.2.1
 gl:=h.ge.2.2.1
 gb:=h.ge.2.2.2.1
 gu:=h.ge.2.2.2.2
 gh:=fun k hk=>by cases hk
 gr:=fun v hU=>absurd rfl hU
 low:=fun k hk hg=>by have:=hS k hk; omega
 dm:=h.ne
 dh:=fun e=>by cases e
 du:=fun v hU=>absurd rfl hU
 dr:=fun u v hU=>absurd rfl hU
open Classical in
noncomputable def BK.push (K:BK) (s:List UInt8) (i:Nat) (v':Value):BK:=K.up (fun v=>if v=s then v' else K.uv v) (fun v=>if v=s then K.U s++[i] else K.U v)
theorem yZ {G:aP} {K:BK} {lits:List Lg} {S:aP} {bd:List (List UInt8)} {op:List Nat} {ls:List Bool} {hp:List Int} {hv:Value} {NB NU:Nat} {w:World} (h:BM G K lits S bd op ls hp hv NB NU w) (s:List UInt8):w.ownsRow 0 3 1 (iw K s) (K.U s).length ((bQ (K.U s)).map iv):=by
 unfold iw; by_cases e:K.U s=[]
 ·rw [if_pos e,e]; exact ⟨rfl,Or.inl ⟨rfl,rfl⟩⟩
 ·rw [if_neg e]
  have h1:w.ownsRow 0 3 1 (K.uv s) (bQ (K.U s)).length ((bQ (K.U s)).map iv):=h.rows s e
  have e2:(bQ (K.U s)).length=(K.U s).length:=by simp
  rw [e2] at h1; exact h1
theorem BM.pushUse {G:aP} {K:BK} {lits:List Lg} {S:aP} {bd:List (List UInt8)} {op:List Nat} {ls:List Bool} {hp:List Int} {hv:Value} {NB NU:Nat} {w:World} (h:BM G K lits S bd op ls hp hv NB NU w) (s:List UInt8) (hs:s.length<=1048576) (i:Nat) (hl:(K.U s).length<=10000000000000) (hN:NU<=10000000000000) :
  ∃ (v':Value) (w2 w3:World),cH Tryz.prog 33 33 33 (iw K s) (.slice (some ⟨w.heap.size,0,none⟩) 1 1) v' (w.alloc (.cells #[iv i] 3)) w2/\(Instr.mapUpdate 68 (.map (some K.mu)) (sv s) v').run Tryz.prog w2=.ok () w3 /\
   BM G (K.push s i v') lits S bd op ls hp hv NB (NU+1) w3/\Fr G w w3/\(∀ (k:Nat) (o:Obj),w.heap[k]? = some o->tyO o≠some 3->tyO o≠none->w2.heap[k]? = some o/\w3.heap[k]? = some o):=by
 obtain ⟨i0,hi,hz0,hz1,hz2⟩:=info_parts gJ; have hba:Below w.heap.size w (w.alloc (.cells #[iv i] 3)):=(zN _ w).alloc (zM _) _; have ha:=h.below hba; have hown:=yZ ha s; obtain ⟨v',w2,hrun,hown',hgrow,-,hor⟩:=run_append_own_at (P:=Tryz.prog) (w.alloc (.cells #[iv i] 3)) 0 33 33 3 i0 (.int .i64 0) 1 8 Tryz.underlying33 hi hz0 hz1 hz2 rfl (by decide) (iw K s) (K.U s).length ((bQ (K.U s)).map iv) hown ⟨w.heap.size,0,none⟩ 1 1 [iv i] rfl (nU _ _ _) (m8 rfl) (by unfold maxLen; omega) (by omega) (zW _)
 have hsa:(w.alloc (.cells #[iv i] 3)).heap.size=w.heap.size+1:=by simp
 have hrow:∀ k,(iw K s).ownBlock=some k->K.U s≠[]/\(K.uv s).ownBlock=some k:=fun k hk=>by
  unfold iw at hk; split at hk
  ·cases hk
  ·rename_i e; exact ⟨e,hk⟩
 have keep2:∀ k,k < w.heap.size->(iw K s).ownBlock≠some k->w2.heap[k]? = w.heap[k]?:=fun k hk hne=>(hgrow.block k (by omega) (fun e=>hne e.symm)).trans (hba.block k hk)
 obtain ⟨es1,cl1,hm1⟩:=h.bound.obj; obtain ⟨es2,cl2,hm2⟩:=h.use.obj; obtain ⟨oc,ho⟩:=h.oo; obtain ⟨lc,hl'⟩:=h.lo
 have hty:∀ {k:Nat} {o:Obj},w.heap[k]? = some o->tyO o≠some 3->(iw K s).ownBlock≠some k:=fun hk ht e=>by
  obtain ⟨e1,e2⟩:=hrow _ e; obtain ⟨c,hc⟩:=cE (h.rows s e1) e2; exact cS hk hc ht rfl
 have hmu2:=h.use.same (keep2 K.mu h.use.lt (hty hm2 (by simp [tyO]))); obtain ⟨w3,hput,hmu3,hg3⟩:=hmu2.put (Maps.string_keyed Tryz.underlying9) (t:=68) (e:=33) Tryz.underlying68 (by unfold maxLen; omega) (bH s hs) trivial v'
 have hs2:w.heap.size<=w2.heap.size:=by have:=hgrow.size; omega
 have hs3:w2.heap.size<=w3.heap.size:=hg3.size
 have keep:∀ k,k < w.heap.size->k≠K.mu->(iw K s).ownBlock≠some k->w3.heap[k]? = w.heap[k]?:=fun k hk h1 h2=>(hg3.block k (by omega) (fun e=>h1 (by injection e))).trans (keep2 k hk h2)
 have hne':K.U s++[i]≠[]:=by simp
 have hUs:∀ v,(K.push s i v').U v=if v=s then K.U s++[i] else K.U v:=fun v=>by unfold BK.push BK.up; dsimp only
 have hVs:∀ v,(K.push s i v').uv v=if v=s then v' else K.uv v:=fun v=>by unfold BK.push BK.up; dsimp only
 have hvn:∀ k,v'.ownBlock=some k->((iw K s).ownBlock=some k)\/k=w.heap.size+1:=fun k hk=>by
  rcases hor with e | e
  ·exact Or.inl (e ▸ hk)
  ·rw [hk] at e; injection e with e; right; omega
 have hfr:Fr G w w3:=((Fr.of_below hba G).grown hgrow fun k hk=>Or.inl (h.gr s (hrow k hk).1 k (hrow k hk).2)).grown hg3 fun k hk=>by injection hk with hk; subst hk; exact Or.inl h.gu
 refine ⟨v',w2,w3,⟨hrun⟩,hput,?_,hfr,fun k o hk h1 h2=>⟨(keep2 k (aL hk) (hty hk h1)).trans hk,(keep k (aL hk) (cS hk hm2 (by simpa [tyO] using h2)) (hty hk h1)).trans hk⟩⟩
 exact {
  blk:=(keep _ (ae h.blk) (cS h.blk hm2 (by simp [tyO])) (hty h.blk (by simp [tyO]))).trans h.blk
  lit:=h.lit.move eA fun k hk hs=>⟨hs,keep k hk (fun e=>h.low k hs (e ▸ h.gu)) fun e=>h.low k hs (h.gr s (hrow k e).1 k (hrow k e).2)⟩
  bound:=h.bound.same (keep _ h.bound.lt h.dm (hty hm1 (by simp [tyO])))
  opn:=aJ h.opn (fun k hk=>by injection hk with hk; subst hk; exact keep _ (ae ho) (cS ho hm2 (by simp [tyO])) fun e=>(h.du s (hrow _ e).1).1 (hrow _ e).2) (fun _ _=>zW _)
  use:=hmu3.congr fun kl _=>by
   unfold putF
   cases kl with
   | string x =>
    show (if (K.push s i v').U x=[] then none else some ((K.push s i v').uv x))=_; rw [hUs,hVs]; by_cases e:x=s
    ·subst e; simp
    ·simp [e,xI]
   | _=>simp [xI]
  lst:=aJ h.lst (fun k hk=>by injection hk with hk; subst hk; exact keep _ (ae hl') (cS hl' hm2 (by simp [tyO])) (hty hl' (by simp [tyO]))) (fun _ _=>zW _)
  heap:=h.heap.keep fun k hk=>keep _ (h.hlt hk) (by obtain ⟨c,hc⟩:=cE h.heap hk; exact cS hc hm2 (by simp [tyO])) fun e=>(h.du s (hrow _ e).1).2 k hk (hrow _ e).2
  rows:=fun v hU=>by
   rw [hUs] at hU ⊢; rw [hVs]; by_cases e:v=s
   ·rw [if_pos e,if_pos e]
    (have e2:bQ (K.U s++[i])=bQ (K.U s)++[(i:Int)]:=by simp);show w3.ownsRow 0 3 1 v' _ _; rw [e2,zQ,List.map_append];(have e3:(bQ (K.U s)).length=(K.U s).length:=by simp);rw [e3];(refine aJ hown' (fun k hk=>hg3.block k ?_ fun e=>?_) fun _ _=>zW _)
    ·exact (hown'.lt k hk).2
    ·injection e with e
     obtain ⟨c,hc⟩:=cE hown' hk; obtain ⟨es,cl,hm⟩:=hmu2.obj; exact cS hc hm (by simp [tyO]) e
   ·rw [if_neg e] at hU ⊢
    rw [if_neg e];(refine (h.rows v hU).keep fun k hk=>keep k (h.rlt hU hk) ?_ fun e2=>?_)
    ·obtain ⟨c,hc⟩:=cE (h.rows v hU) hk
     exact cS hc hm2 (by simp [tyO])
    ·exact h.dr v s hU (hrow _ e2).1 e (hk.trans (hrow _ e2).2.symm)
  new:=fun k hk=>h.new k (by omega)
  gB:=h.gB
  go:=h.go
  gl:=h.gl
  gb:=h.gb
  gu:=h.gu
  gh:=h.gh
  gr:=fun v hU k hk=>by
   rw [hUs] at hU; rw [hVs] at hk; by_cases e:v=s
   ·rw [if_pos e] at hk
    rcases hvn k hk with e2 | e2
    ·exact h.gr s (hrow k e2).1 k (hrow k e2).2
    ·exact h.new k (by omega)
   ·rw [if_neg e] at hU hk
    exact h.gr v hU k hk
  low:=h.low
  dm:=h.dm
  dh:=h.dh
  du:=fun v hU=>by
   rw [hUs] at hU; rw [hVs]; by_cases e:v=s
   ·rw [if_pos e]
    refine ⟨fun e2=>?_,fun k hk e2=>?_⟩
    ·rcases hvn _ e2 with e3 | e3
     ·exact (h.du s (hrow _ e3).1).1 (hrow _ e3).2
     ·have:=ae ho; have e4:(K.push s i v').ob=K.ob:=rfl; omega
    ·rcases hvn _ e2 with e3 | e3
     ·exact (h.du s (hrow _ e3).1).2 k hk (hrow _ e3).2
     ·have:=h.hlt hk; omega
   ·rw [if_neg e] at hU ⊢
    exact h.du v hU
  dr:=fun u v hU hV huv=>by
   rw [hUs] at hU hV; rw [hVs,hVs]
   have aux:∀ x,x≠s->K.U x≠[]->v'.ownBlock≠(K.uv x).ownBlock:=fun x hx hUx e=>by
    obtain ⟨a,c,hf,-⟩:=bp (h.rows x hUx); have hrx:=h.rows x hUx; rcases hb:(K.uv x).ownBlock with _ | k
    ·have hlen:0 < (bQ (K.U x)).length:=by
      (have:(bQ (K.U x)).length=(K.U x).length:=by simp);rw [this]; exact List.length_pos_iff.2 hUx
     obtain ⟨g,c2,e2,-⟩:=fi hrx hlen; rw [e2] at hb; cases hb
    ·rw [hb] at e
     rcases hvn k e with e3 | e3
     ·exact h.dr x s hUx (hrow _ e3).1 hx (hb.trans (hrow _ e3).2.symm)
     ·have:=h.rlt hUx hb; omega
   by_cases e:u=s
   ·by_cases e2:v=s
    ·exact absurd (e.trans e2.symm) huv
    ·rw [if_pos e,if_neg e2]
     rw [if_neg e2] at hV; exact aux v e2 hV
   ·by_cases e2:v=s
    ·rw [if_neg e,if_pos e2]
     rw [if_neg e] at hU;(exact fun e3=>aux u e hU e3.symm)
    ·rw [if_neg e,if_neg e2]
     rw [if_neg e] at hU; rw [if_neg e2] at hV
     exact h.dr u v hU hV huv }
def dt (lits:List Lg) (m k:Nat) (v:List UInt8):List Nat:=cP lits m v++(((((aZ lits m).args.take k).filter fk).map Tg.var).filter fun u=>decide (u=v)).map fun _=>m
theorem q8 (lits:List Lg) (m:Nat):dt lits m 0=cP lits m:=funext fun v=>by simp [dt]
theorem tE (lits:List Lg) (m k:Nat) (h:(aZ lits m).args.length<=k):dt lits m k=cP lits (m+1):=funext fun v=>by
 unfold dt; rw [List.take_of_length_le h,gQ]; rfl
theorem q9 {lits:List Lg} {m k:Nat} {t:Tg} (h:(aZ lits m).args[k]? = some t) (v:List UInt8):dt lits m (k+1) v=dt lits m k v++if fk t=true/\t.var=v then [m] else []:=by
 unfold dt; rw [g_ _ _ _ h,List.filter_append,List.map_append,Ad]
 congr 2
 unfold tvL; by_cases e:fk t=true
 ·by_cases e2:t.var=v
  ·simp [e,e2]
  ·simp [e,e2]
 ·simp [e]
theorem ny {lits:List Lg} (hs:Sml lits) (v:List UInt8):∀ m,m<=lits.length->(cP lits m v).length<=m * 1048576
 | 0,_=>by simp [cP]
 | m+1,h=>by
  rw [gQ,zQ,zY]; have h1:=ny hs v m (by omega)
  have h2:((el (aZ lits m)).filter fun u=>decide (u=v)).length<=1048576:=by
   refine zV (List.length_filter_le _ _) ?_; unfold el; rw [zY]; exact zV (List.length_filter_le _ _) (hs.arg _ (h_ (by omega)))
  omega
theorem tD {lits:List Lg} (hs:Sml lits) {m:Nat} (hm:m<=lits.length) (k:Nat) (v:List UInt8):(dt lits m k v).length<=m * 1048576+k:=by
 unfold dt; rw [zQ,zY]; have h1:=ny hs v m hm
 have h2:((((((aZ lits m).args.take k).filter fk).map Tg.var)).filter fun u=>decide (u=v)).length<=k:=by
  refine zV (List.length_filter_le _ _) ?_; rw [zY]; exact zV (List.length_filter_le _ _) (by rw [Ah]; omega)
 omega
def iN (lits:List Lg) (m k:Nat):Nat:=((((aZ lits m).args.take k).filter fk).map Tg.var).length
theorem uG {lits:List Lg} {m k:Nat} {t:Tg} (h:(aZ lits m).args[k]? = some t):iN lits m (k+1)=iN lits m k+if fk t=true then 1 else 0:=by
 unfold iN; rw [g_ _ _ _ h,zQ]; unfold tvL; split <;> simp
theorem xk (lits:List Lg) (m k:Nat) (h:(aZ lits m).args.length<=k):iN lits m k=dL [] (aZ lits m):=by
 unfold iN dL; rw [List.take_of_length_le h]; show (el (aZ lits m)).length=_; rw [List.filter_eq_self.2 (by simp)]
theorem yC (lits:List Lg) (m k:Nat):iN lits m k<=k:=by
 unfold iN; rw [zY]; exact zV (List.length_filter_le _ _) (by rw [Ah]; omega)
def OpK (lits:List Lg) (m c:Nat) (op:List Nat):Prop:=op.length=lits.length/\∀ j,j < lits.length->op.getD j 0=if j < m then dL [] (aZ lits j) else if j=m then c else 0
def LsK (lits:List Lg) (m:Nat) (ls:List Bool):Prop:=ls.length=lits.length/\∀ j,j < lits.length->ls.getD j false=if j < m then eK (aZ lits j) (dL [] (aZ lits j)) else false
theorem OpK.inc {lits:List Lg} {m c:Nat} {op:List Nat} (h:OpK lits m c op) (hm:m < lits.length):op.getD m 0=c/\OpK lits m (c+1) (op.set m (c+1)):=by
 have h0:=h.2 m hm; rw [if_neg (Nat.lt_irrefl m),if_pos rfl] at h0; refine ⟨h0,by rw [List.length_set]; exact h.1,fun j hj=>?_⟩; rw [gL (by rw [h.1]; exact hm)]; by_cases e:j=m
 ·subst e; rw [if_pos rfl,if_neg (Nat.lt_irrefl j),if_pos rfl]
 ·rw [if_neg e,h.2 j hj,if_neg e,if_neg e]
theorem OpK.next {lits:List Lg} {m:Nat} {op:List Nat} (h:OpK lits m (dL [] (aZ lits m)) op):OpK lits (m+1) 0 op:=⟨h.1,fun j hj=>by
 rw [h.2 j hj]; by_cases e:j < m
 ·rw [if_pos e,if_pos (by omega)]
 ·by_cases e2:j=m
  ·subst e2; rw [if_neg e,if_pos rfl,if_pos (by omega)]
  ·rw [if_neg e,if_neg e2,if_neg (by omega)]; split <;> rfl⟩
theorem LsK.next {lits:List Lg} {m:Nat} {op:List Nat} {ls:List Bool} (h:LsK lits m ls) (ho:OpK lits m (dL [] (aZ lits m)) op) (hm:m < lits.length):LsK lits (m+1) (ls.set m (ls.getD m false || eK (aZ lits m) (op.getD m 0))):=by
 have h0:=ho.2 m hm; rw [if_neg (Nat.lt_irrefl m),if_pos rfl] at h0; have h1:=h.2 m hm; rw [if_neg (Nat.lt_irrefl m)] at h1; refine ⟨by rw [List.length_set]; exact h.1,fun j hj=>?_⟩; rw [gL (by rw [h.1]; exact hm),h0,h1,Bool.false_or]; by_cases e:j=m
 ·subst e; rw [if_pos rfl,if_pos (by omega)]
 ·rw [if_neg e,h.2 j hj]
  by_cases e2:j < m
  ·rw [if_pos e2,if_pos (by omega)]
  ·rw [if_neg e2,if_neg (by omega)]
theorem pR (lits:List Lg) (S:aP) (la:Option Addr) (lc:Nat) (w:World) (hl:SlR 4 LgR S w lits (.slice la lits.length lc)) (hS:∀ k,S k->k < w.heap.size) (hs:Sml lits) :
  Calls Tryz.prog 26 #[.slice la lits.length lc] w fun e w'=>∃ K hp hv NU,e=.returned (pt K.B)/\K.la=la/\K.lc=lc/\BI (fun k=>w.heap.size<=k) K lits S [] [] hp hv 0 NU w'/\(∀ v,K.U v=cP lits lits.length v)/\Below w.heap.size w w':=by
 have h1:=yi lits.length hs.len; have h2:=wg lits.length hs.len; have hmm:=@run_makeMap Tryz.prog; have hl':=hid hl; have hsn:=hs.len; obtain ⟨n,hn⟩:∃ n,n=lits.length:=⟨_,rfl⟩; rw [← hn] at h1 h2 hl hsn; rw [← hn]; replace hn:=hid hn; replace hl:=hid hl
 go_enter Tryz.func26,Tryz.ntmps26
 go_upto_region 1 with (fail)
 go_cut [3] (fun v3 wx=>∃ B ob lb mb mu,v3=pt B/\Hid (Nw n la lc w B ob lb mb mu wx))
 case first =>
  go_wp2_with fail
  go_region
  all_goals go_wp2_with fail
  all_goals go_meet
  all_goals
   refine ⟨_,_,_,_,_,rfl,hid ⟨(at5 w _ _ _ _ _).2.2.2.2.1,?_,?_,?_,?_,by omega,⟨by omega,by omega,by omega,by omega,by omega⟩,(at5 w _ _ _ _ _).2.2.2.2.2.drew⟩⟩
   all_goals first
    | exact (at5 w _ _ _ _ _).1
    | exact (at5 w _ _ _ _ _).2.1
    | exact (at5 w _ _ _ _ _).2.2.1
    | exact (at5 w _ _ _ _ _).2.2.2.1
 case rest =>
  obtain ⟨B,ob,lb,mb,mu,rfl,hw⟩:=hcut
  obtain ⟨K,hKB,hKa,hKc,hM0⟩:∃ K:BK,K.B=B/\K.la=la/\K.lc=lc/\BM (fun k=>w.heap.size<=k) (K.up K.uv (cP lits 0)) lits S [] (List.replicate lits.length 0) (List.replicate lits.length false) [] (.slice none 0 0) 0 0 wc:=by
   have hw':=hw.out; rw [hn.out] at hw'; exact ⟨K0 lits.length la lc B ob lb mb mu,rfl,rfl,rfl,hw'.bm hl'.out hS hs⟩
  subst hKB; have hBel:=hid hw.out.bel; replace hM0:=hid hM0
  have hH0:=hid (show HB lits.length [] (List.replicate lits.length false) [] from ⟨by simp,fun k _ hk=>by simp at hk,by
   have:lf lits.length [] (List.replicate lits.length false)=[]:=by
    unfold lf; rw [List.filter_eq_nil_iff]; intro i hi; rw [List.mem_range] at hi; simp [hi]
   rw [this]; exact List.Perm.refl _,fun i hi=>by cases hi⟩)
  have hO0:=hid (show OpK lits 0 0 (List.replicate lits.length 0) from ⟨by simp,fun j hj=>by rw [if_neg (by omega)]; simp [hj]⟩); have hL0:=hid (show LsK lits 0 (List.replicate lits.length false) from ⟨by simp,fun j hj=>by rw [if_neg (by omega)]; simp [hj]⟩); replace hKa:=hid hKa; replace hKc:=hid hKc; clear hw h1 h2 hmm
  go_wp2_with fail
  go_loopg [21] n (fun f v21 wr=>∃ (m:Nat) (uv:List UInt8->Value) (op:List Nat) (ls:List Bool) (hp:List Int) (hv:Value) (NU:Nat),v21=iv m/\m+f=n/\NU<=m * 1048576/\Hid (BM (fun k=>w.heap.size<=k) (K.up uv (cP lits m)) lits S [] op ls hp hv 0 NU wr)/\Hid (HB lits.length [] ls hp)/\Hid (OpK lits m 0 op)/\Hid (LsK lits m ls)/\Hid (Below w.heap.size w wr))
  case atStart=>exact ⟨0,K.uv,_,_,_,_,0,rfl,by omega,by omega,hM0,hH0,hO0,hL0,hBel⟩
  case round =>
   obtain ⟨m,uv,op,ls,hp,hv,NU,rfl,hmf,hNU,hMr,hHr,hOr,hLr,hBr⟩:=hrel; clear hM0 hH0 hO0 hL0 hBel; by_cases hlt:m < n
   ·have q1:decide ((m:Int) < (n:Int))=true:=zP (by omega)
    (have hml:m < lits.length:=by rw [← hn.out]; exact hlt);obtain ⟨g,o,cs,hidx,-,hg,hc,hrt⟩:=hl'.out.at (P:=Tryz.prog) (t:=25) (by kernel_rfl) (fun _=>by kernel_rfl) (show lits[m]? = some (aZ lits m) from getD_some hml); obtain ⟨xa,xc,rfl,hSA⟩:=hrt; have e0:wr.cell? ⟨g,o+0,none⟩=some (iv (aZ lits m).op):=(hBr.out.cell (p:=⟨g,o+0,none⟩) hg).trans (hc 0 _ rfl); have e1:wr.cell? ⟨g,o+1,none⟩=some (.bool (aZ lits m).nt):=(hBr.out.cell (p:=⟨g,o+1,none⟩) hg).trans (hc 1 _ rfl); have e2:wr.cell? ⟨g,o+2,none⟩=some (sv (aZ lits m).rel):=(hBr.out.cell (p:=⟨g,o+2,none⟩) hg).trans (hc 2 _ rfl); have e3:wr.cell? ⟨g,o+3,none⟩=some (.slice xa (aZ lits m).args.length xc):=(hBr.out.cell (p:=⟨g,o+3,none⟩) hg).trans (hc 3 _ rfl); rw [Nat.add_zero] at e0
    replace hidx:∀ kd W,(Instr.indexAt 25 (.slice la n lc) (.int kd m)).run Tryz.prog W=.ok (.pointer (some ⟨g,o,none⟩)) W:=fun kd W=>by
     have:=hidx kd W; rw [hn.out]; exact this
    have hal:=hs.arg _ (h_ hml); have hav:=hid (hs.var _ (h_ hml)); obtain ⟨x,hx⟩:∃ x,x=aZ lits m:=⟨_,rfl⟩; rw [← hx] at e0 e1 e2 e3 hal hav hSA; replace hSA:=hid hSA; have hb1:Below wr.heap.size wr (wr.alloc (.cells (ap x.op x.nt x.rel (.slice xa x.args.length xc)) 24)):=(zN _ _).alloc (zM _) _; have hM1:=hid (hMr.out.below hb1); have hB1:=hid (hBr.out.trans (hb1.mono hBr.out.size)); replace hx:=hid hx; clear hc;go_wp2_with fail
    go_loopg [29] x.args.length (fun f v29 wx=>∃ (k:Nat) (uv2:List UInt8->Value) (op2:List Nat) (NU2:Nat),v29=iv k/\k+f=x.args.length/\NU2<=m * 1048576+k/\Hid (BM (fun k=>w.heap.size<=k) (K.up uv2 (dt lits m k)) lits S [] op2 ls hp hv 0 NU2 wx)/\Hid (OpK lits m (iN lits m k) op2)/\Hid (Below w.heap.size w wx))
    case atStart=>exact ⟨0,uv,op,NU,rfl,by omega,Nat.le_add_right_of_le hNU,by rw [q8]; exact hM1,hOr,hB1⟩
    case round =>
     obtain ⟨k,uv2,op2,NU2,rfl,hkf,hNU2,hM2,hO2,hB2⟩:=hrel; clear hM1 hB1 hMr hBr e0 e1 e2 e3 hidx hg; by_cases hk:k < x.args.length
     ·have q2:decide ((k:Int) < (x.args.length:Int))=true:=zP (by omega)
      (have q3:IntKind.i64.wrap ((k:Int)+1)=((k+1:Nat):Int):=by rw [zX]; omega);obtain ⟨t,ht⟩:∃ t,x.args[k]? = some t:=⟨_,zR hk⟩;(have htx:(aZ lits m).args[k]? = some t:=by rw [← hx.out]; exact ht);have htv:=hav.out t (zU ht); obtain ⟨g2,o2,cs2,hidx2,-,hg2,hc2,hrt2⟩:=(hSA.out.below bZ hB2.out).at (P:=Tryz.prog) (t:=22) (by kernel_rfl) (fun _=>by kernel_rfl) ht; have hu1:=q9 htx; have hu2:=uG htx; obtain ⟨var,kind,vt,n0,m0,vs,ln⟩:=t; obtain ⟨ta,tc,hrt2⟩:=hrt2; subst hrt2; have d0:wr.cell? ⟨g2,o2+0,none⟩=some (sv var):=hc2 0 _ rfl; have d1:wr.cell? ⟨g2,o2+1,none⟩=some (iv kind):=hc2 1 _ rfl; have d2:wr.cell? ⟨g2,o2+2,none⟩=some (sv vt):=hc2 2 _ rfl; have d3:wr.cell? ⟨g2,o2+3,none⟩=some (iv n0):=hc2 3 _ rfl; have d4:wr.cell? ⟨g2,o2+4,none⟩=some (iv m0):=hc2 4 _ rfl; have d5:wr.cell? ⟨g2,o2+5,none⟩=some (sv vs):=hc2 5 _ rfl;have d6:wr.cell? ⟨g2,o2+6,none⟩=some (.slice ta ln tc):=hc2 6 _ rfl; rw [Nat.add_zero] at d0; have hb3:Below wr.heap.size wr (wr.alloc (.cells #[sv var,iv kind,sv vt,iv n0,iv m0,sv vs,.slice ta ln tc] 63)):=(zN _ _).alloc (zM _) _; have hbn:=af wr (.cells #[sv var,iv kind,sv vt,iv n0,iv m0,sv vs,.slice ta ln tc] 63); obtain ⟨W3,hW3⟩:∃ W3,W3=wr.alloc (.cells #[sv var,iv kind,sv vt,iv n0,iv m0,sv vs,.slice ta ln tc] 63):=⟨_,rfl⟩; rw [← hW3] at hb3 hbn; have hM3:=hM2.out.below hb3; have hB3:=hB2.out.trans (hb3.mono hB2.out.size); have f0:W3.cell? ⟨wr.heap.size,0,none⟩=some (sv var):=(aj hbn).trans rfl; have f1:W3.cell? ⟨wr.heap.size,1,none⟩=some (iv kind):=(aj hbn).trans rfl;have f2:W3.cell? ⟨wr.heap.size,2,none⟩=some (sv vt):=(aj hbn).trans rfl; have f3:W3.cell? ⟨wr.heap.size,3,none⟩=some (iv n0):=(aj hbn).trans rfl; have f4:W3.cell? ⟨wr.heap.size,4,none⟩=some (iv m0):=(aj hbn).trans rfl; have f5:W3.cell? ⟨wr.heap.size,5,none⟩=some (sv vs):=(aj hbn).trans rfl; have f6:W3.cell? ⟨wr.heap.size,6,none⟩=some (.slice ta ln tc):=(aj hbn).trans rfl;(have hbw:∀ W,Calls Tryz.prog 30 #[.agg #[sv var,iv kind,sv vt,iv n0,iv m0,sv vs,.slice ta ln tc]] W fun e w'=>e=.returned (.bool (eT var))/\Below W.heap.size W w':=fun W=>jG ⟨var,kind,vt,n0,m0,vs,ln⟩ ta tc W htv);(have hTl:=hid (ae hbn); replace hW3:=hid hW3; replace hbw:=hid hbw; replace hM3:=hid hM3; replace hB3:=hid hB3; replace hbn:=hid hbn; clear hc2; rcases var with _ | ⟨vc,vr⟩)
      ·have hu1':dt lits m (k+1)=dt lits m k:=funext fun v=>by rw [hu1 v]; simp [fk]
       (have hu2':iN lits m (k+1)=iN lits m k:=by rw [hu2]; simp [fk]);rw [← hu1'] at hM3; rw [← hu2'] at hO2; replace hu1:=hid hu1'; replace hu2:=hid hu2'; clear hu1' hu2' hM2 hB2;go_wp2_with fail;rw [← hW3.out]
       go_roundg (x.args.length - (k+1))
       case measure=>omega
       case rel=>exact ⟨k+1,uv2,op2,NU2,rfl,by omega,Nat.le_succ_of_le hNU2,hM3,hO2,hB3⟩
      ·obtain ⟨wf,hwf⟩:∃ b,b=eT (vc::vr):=⟨_,rfl⟩
       rw [← hwf] at hbw; replace hwf:=hid hwf; clear hM2 hB2;go_wp2_with fail;rw [← hW3.out];(with_reducible refine (hbw.out _).mono ?_);rintro e w4 ⟨rfl,hb4⟩; have hM4:=hM3.out.below hb4; have hB4:=hB3.out.trans (hb4.mono hB3.out.size); have hk4:=an hb4 hbn.out (ae hbn.out); have g0:w4.cell? ⟨wr.heap.size,0,none⟩=some (sv (vc::vr)):=(aj hk4).trans rfl; have hT4:=hid (ae hk4); replace hM4:=hid hM4; replace hB4:=hid hB4; replace hk4:=hid hk4; clear f0 f1 f2 f3 f4 f5 f6 hM3 hB3 hb4 hbw hb3 d0 d1 d2 d3 d4 d5 d6 hidx2 hg2
       cases wf with
       | true =>
        (have htv0:fk ⟨vc::vr,kind,vt,n0,m0,vs,ln⟩=false:=by unfold fk; rw [← hwf.out]; simp);(have hu1':dt lits m (k+1)=dt lits m k:=funext fun v=>by rw [hu1 v]; simp [htv0]);(have hu2':iN lits m (k+1)=iN lits m k:=by rw [hu2]; simp [htv0]);rw [← hu1'] at hM4; rw [← hu2'] at hO2; replace hu1:=hid hu1'; replace hu2:=hid hu2'; replace htv0:=hid htv0; clear hu1' hu2';go_wp2_with fail
        go_roundg (x.args.length - (k+1))
        case measure=>omega
        case rel=>exact ⟨k+1,uv2,op2,NU2,rfl,by omega,Nat.le_succ_of_le hNU2,hM4,hO2,hB4⟩
       | false =>
        (have htv0:fk ⟨vc::vr,kind,vt,n0,m0,vs,ln⟩=true:=by unfold fk; rw [← hwf.out]; simp);(have hu2':iN lits m (k+1)=iN lits m k+1:=by rw [hu2]; simp [htv0])
        have hu1':∀ v,dt lits m (k+1) v=if v=vc::vr then dt lits m k (vc::vr)++[m] else dt lits m k v:=fun v=>by
         rw [hu1 v]; by_cases e:v=vc::vr
         ·subst e; simp [htv0]
         ·rw [if_neg e,if_neg (fun h=>e h.2.symm),List.append_nil]
        have hc2:w4.cell? ⟨K.B,2,none⟩=some (.slice (some ⟨K.ob,0,none⟩) lits.length K.oc):=(aj hM4.out.blk).trans rfl; have hc3:w4.cell? ⟨K.B,3,none⟩=some (.map (some K.mu)):=(aj hM4.out.blk).trans rfl; have q5:=gZ (P:=Tryz.prog) (t:=33) (g:=K.ob) (cap:=K.oc) hml (by kernel_rfl) (fun _=>by kernel_rfl); obtain ⟨hO2a,hO2b⟩:=hO2.out.inc hml; obtain ⟨dI,fI,-⟩:=ej (i:=m) (x:=iv (op2.getD m 0)) hM4.out.opn (by rw [Ai,Ai,getD_some (by rw [hO2.out.1]; exact hml)]; rfl); rw [hO2a] at dI; replace dI:w4.cell? ⟨K.ob,m,none⟩=some (iv (iN lits m k)):=dI; replace fI:w4.frozen? ⟨K.ob,m,none⟩=false:=fI; obtain ⟨ob,hob⟩:=hM4.out.oo
        have hne1:K.ob≠wr.heap.size:=fun e=>by
         have h1:=hk4.out; rw [← e] at h1; have h2:w4.heap[K.ob]? = some (.cells ob 3 (0,0)):=hob; rw [h1] at h2; injection h2 with h2; injection h2 with h2 h3; exact absurd h3 (by decide)
        have hul2:(dt lits m k (vc::vr)).length<=m * 1048576+k:=tD hs (Nat.le_of_lt hml) k _;(have hmk:m * 1048576+k<=2000000000000:=by omega);have hM5:=hM4.out.setOpen hml (iN lits m k+1); have hcl:=yC lits m k; obtain ⟨cn,hcn⟩:∃ cn,cn=iN lits m k:=⟨_,rfl⟩; rw [← hcn] at dI hM5 hO2b hcl hu2';(have ew:IntKind.i64.wrap ((cn:Int)+1)=((cn+1:Nat):Int):=by rw [zX]; omega);obtain ⟨cm,hcm⟩:∃ cm,cm=cn+1:=⟨_,rfl⟩; rw [← hcm] at ew hM5 hO2b hu2'; replace hcn:=hid hcn; replace hcm:=hid hcm; obtain ⟨w5,hw5⟩:∃ w5,w5=w4.setCell ⟨K.ob,m,none⟩ (iv cm):=⟨_,rfl⟩;(have hM5':BM (fun k=>w.heap.size<=k) (K.up uv2 (dt lits m k)) lits S [] (op2.set m cm) ls hp hv 0 NU2 w5:=by rw [hw5]; exact hM5)
        have hB5:Below w.heap.size w w5:=by
         rw [hw5];(exact ((Fr.of_below hB4.out (fun _=>False)).setCell (p:=⟨K.ob,m,none⟩) (Or.inr hM4.out.go) (iv cm)).to_below (zM _) fun _ _ h=>h)
        have g05:w5.cell? ⟨wr.heap.size,0,none⟩=some (sv (vc::vr)):=by rw [hw5]; exact (World.cell?_setCell_other _ _ _ _ (fun h=>by have e:=congrArg Addr.block h; exact hne1 (by first | exact e | exact e.symm))).trans g0
        have hc35:w5.cell? ⟨K.B,3,none⟩=some (.map (some K.mu)):=(aj hM5'.blk).trans rfl; have hdr:Below w5.heap.size w5 w5.drew:=(zN _ w5).drew; obtain ⟨v',w6,w7,hap,hput,hM7,hF7,hKp⟩:=(hM5'.below hdr).pushUse (vc::vr) htv m (by show (dt lits m k (vc::vr)).length<=_; omega) (by omega); have hlk:=ph (hM5'.below hdr) (vc::vr) htv; obtain ⟨ua,uc,huv⟩:=ve (hM5'.below hdr) (vc::vr); rw [huv] at hap hlk; obtain ⟨ul,hul⟩:∃ ul,ul=((K.up uv2 (dt lits m k)).U (vc::vr)).length:=⟨_,rfl⟩; rw [← hul] at hap hlk
        have hM8:=hid (show BM (fun k=>w.heap.size<=k) (K.up ((K.up uv2 (dt lits m k)).push (vc::vr) m v').uv (dt lits m (k+1))) lits S [] (op2.set m cm) ls hp hv 0 (NU2+1) w7 from by
         have e:((K.up uv2 (dt lits m k)).push (vc::vr) m v').U=dt lits m (k+1):=funext fun v=>(by rw [hu1' v]; unfold BK.push BK.up; dsimp only)
         rw [← e]; exact hM7)
        have hB8:=hid (hB5.trans (((zN w5.heap.size w5).drew.mono hB5.size).trans (hF7.to_below hB5.size fun k hk hg=>Nat.not_lt.2 hg hk)))
        have hk5:w5.drew.heap[wr.heap.size]? = some (.cells #[sv (vc::vr),iv kind,sv vt,iv n0,iv m0,sv vs,.slice ta ln tc] 63 (0,0)):=by
         rw [hw5]; exact (ak _ (fun e=>hne1 e.symm)).trans hk4.out
        have hkT:=hKp _ _ hk5 (by simp [tyO]) (by simp [tyO]); have hkB:=hKp _ _ (show w5.drew.heap[K.B]? = _ from hM5'.blk) (by simp [tyO]) (by simp [tyO]); have hc36:w6.cell? ⟨K.B,3,none⟩=some (.map (some K.mu)):=(aj hkB.1).trans rfl; have g06:w6.cell? ⟨wr.heap.size,0,none⟩=some (sv (vc::vr)):=(aj hkT.1).trans rfl; have hc37:w7.cell? ⟨K.B,3,none⟩=some (.map (some K.mu)):=(aj hkB.2).trans rfl; have g07:w7.cell? ⟨wr.heap.size,0,none⟩=some (sv (vc::vr)):=(aj hkT.2).trans rfl; clear hKp hk5 hkT hkB; replace hap:=hid hap; replace hM7:=hid hM7; replace hlk:(Instr.lookup 68 (.map (some K.mu)) (sv (vc::vr)) false).run Tryz.prog w5.drew=.ok (.slice ua ul uc) w5.drew:=hlk; obtain ⟨mo,hmo⟩:∃ mo,w5.heap[K.mu]? = some mo:=⟨_,hM5'.use.obj.choose_spec.choose_spec⟩
        have hlkW:∀ W:World,W.heap[K.mu]? = some mo->(Instr.lookup 68 (.map (some K.mu)) (sv (vc::vr)) false).run Tryz.prog W=.ok (.slice ua ul uc) W:=fun W hW=>by
         have:=(hM5'.use.same (hW.trans hmo.symm)).look (Maps.string_keyed Tryz.underlying9) (t:=68) (e:=33) Tryz.underlying68 (z:=.slice none 0 0) (by kernel_rfl) (bH (vc::vr) htv) trivial; have h2:=(hM5'.use.same (show w5.drew.heap[K.mu]? = w5.heap[K.mu]? from rfl)).look (Maps.string_keyed Tryz.underlying9) (t:=68) (e:=33) Tryz.underlying68 (z:=.slice none 0 0) (by kernel_rfl) (bH (vc::vr) htv) trivial; have h3:=h2.symm.trans hlk; injection h3 with h3; exact this.trans (by rw [h3])
        clear hlk; replace hput:(Instr.mapUpdate 68 (.map (some K.mu)) (sv (vc::vr)) v').run Tryz.prog w6=.ok () w7:=hput; have hF7':=hid hF7; replace hM5':=hid hM5'; replace hB5:=hid hB5; replace hul:=hid hul; replace huv:=hid huv; replace hw5:=hid hw5; replace hu1':=hid hu1'; replace hu2':=hid hu2'; replace htv0:=hid htv0; clear hM4 hB4 hM5 hk4 hF7 hob hO2a hdr hu1 hu2;go_wp2_with fail;rw [show w4.setCell ⟨K.ob,m,none⟩ (.int .i64 cm)=w5 from hw5.out.symm]; replace hap:cH Tryz.prog 33 33 33 (.slice ua ul uc) (.slice (some ⟨w5.heap.size,0,none⟩) 1 1) v' (w5.drew.alloc (.cells #[iv m] 3)) w6:=hap.out;refine wp_region_held_drew (S:=fun W=>W.cell? ⟨K.B,3,none⟩=some (.map (some K.mu))/\W.cell? ⟨wr.heap.size,0,none⟩=some (sv (vc::vr))) (by kernel_rfl) ?_ (fun hHeld=>?_)
        ·exact ⟨hc35,g05⟩
        have hlkD:=hlkW w5.drew hmo; have hlkE:=hlkW (w5.drew.alloc (.cells #[iv m] 3)) ((z7 _ _ _ (aL hmo)).trans hmo);(have kpA:∀ (p:Addr) (u:Value),w5.cell? p=some u->(w5.drew.alloc (.cells #[iv m] 3)).cell? p=some u:=fun p u h=>(((zN w5.heap.size w5).drew.alloc (zM _) (.cells #[iv m] 3)).cell (p:=p) (Aj w5 p h)).trans h);have hwds:w5.drew.heap.size=w5.heap.size:=rfl; have hcD:w5.drew.cell? ⟨K.B,3,none⟩=some (.map (some K.mu)):=hc35; have gD:w5.drew.cell? ⟨wr.heap.size,0,none⟩=some (sv (vc::vr)):=g05; generalize w5.drew=wd at *; rw [← hwds] at hap; replace hwds:=hid hwds; refine wTk (i:=0) (v:=?_) rfl ?hy ?_
        case hy =>
         intro w hSw
         (try dsimp only at hSw)
         obtain ⟨hS1,hS2⟩:=hSw; go_simp
         all_goals with_reducible rfl
        (try simp only [Act.put,sI,sZ,sS]);refine wTk (i:=1) (v:=?_) rfl ?hy ?_
        case hy =>
         intro w hSw
         (try dsimp only at hSw)
         obtain ⟨hS1,hS2⟩:=hSw; go_simp
         all_goals with_reducible rfl
        (try simp only [Act.put,sI,sZ,sS]);refine wTk (i:=2) (v:=?_) rfl ?hy ?_
        case hy =>
         intro w hSw
         (try dsimp only at hSw)
         obtain ⟨hS1,hS2⟩:=hSw; go_simp
         all_goals with_reducible rfl
        (try simp only [Act.put,sI,sZ,sS]);refine wTk (i:=3) (v:=?_) rfl ?hy ?_
        case hy =>
         intro w hSw
         (try dsimp only at hSw)
         obtain ⟨hS1,hS2⟩:=hSw; go_simp
         all_goals with_reducible rfl
        (try simp only [Act.put,sI,sZ,sS]);refine wTk (i:=4) (v:=?_) rfl ?hy ?_
        case hy =>
         intro w hSw
         (try dsimp only at hSw)
         obtain ⟨hS1,hS2⟩:=hSw; go_simp
         all_goals with_reducible rfl
        (try simp only [Act.put,sI,sZ,sS]);refine wTk (i:=5) (v:=?_) rfl ?hy ?_
        case hy =>
         intro w hSw
         (try dsimp only at hSw)
         obtain ⟨hS1,hS2⟩:=hSw; go_simp
         all_goals with_reducible rfl
        (try simp only [Act.put,sI,sZ,sS]);refine wTk (i:=6) (v:=?_) rfl ?hy ?_
        case hy =>
         intro w hSw
         (try dsimp only at hSw)
         obtain ⟨hS1,hS2⟩:=hSw; go_simp
         all_goals with_reducible rfl
        (try simp only [Act.put,sI,sZ,sS]);refine wTk (i:=7) (v:=?_) rfl ?hy ?_
        case hy =>
         intro w hSw
         (try dsimp only at hSw)
         obtain ⟨hS1,hS2⟩:=hSw; go_simp
         all_goals with_reducible rfl
        (try simp only [Act.put,sI,sZ,sS]);refine wTk (i:=8) (v:=?_) rfl ?hy ?_
        case hy =>
         intro w hSw
         (try dsimp only at hSw)
         obtain ⟨hS1,hS2⟩:=hSw; go_simp
         all_goals with_reducible rfl
        (try simp only [Act.put,sI,sZ,sS]);refine wTk (i:=9) (v:=?_) rfl ?hy ?_
        case hy =>
         intro w hSw
         (try dsimp only at hSw)
         obtain ⟨hS1,hS2⟩:=hSw; go_simp
         all_goals with_reducible rfl
        (try simp only [Act.put,sI,sZ,sS]);refine wTk (i:=10) (v:=?_) rfl ?hy ?_
        case hy =>
         intro w hSw
         (try dsimp only at hSw)
         obtain ⟨hS1,hS2⟩:=hSw; go_simp
         all_goals with_reducible rfl
        (try simp only [Act.put,sI,sZ,sS]);refine wTk (i:=11) (v:=?_) rfl ?hy ?_
        case hy =>
         intro w hSw
         (try dsimp only at hSw)
         obtain ⟨hS1,hS2⟩:=hSw; go_simp
         all_goals with_reducible rfl
        (try simp only [Act.put,sI,sZ,sS]);refine wTk (i:=13) (v:=?_) rfl ?hy ?_
        case hy =>
         intro w hSw
         (try dsimp only at hSw)
         obtain ⟨hS1,hS2⟩:=hSw; go_simp
         all_goals with_reducible rfl
        (try simp only [Act.put,sI,sZ,sS]);refine wpAnyH_ready (rs:=[12,14]) (by as_aux_lemma=>kernel_rfl) (by simp) ?_; refine AllReadyH.cons (o:=⟨_,_,_,_,_,_⟩) rfl (fun KK hKK=>?_) (AllReadyH.cons (o:=⟨_,_,_,_,_,_⟩) rfl (fun KK hKK=>?_) AllReadyH.nil)
        all_goals clear hHeld
        ·go_simp
         refine hKK.out _ _ ?_ (fun hHeld2=>?_)
         ·exact ⟨hcD,gD⟩
         clear hKK KK hHeld2;(try simp only [Act.put,sI,sZ,sS]);refine wpAnyH_ready (rs:=[14]) (by as_aux_lemma=>kernel_rfl) (by simp) ?_; refine AllReadyH.cons (o:=⟨_,_,_,_,_,_⟩) rfl (fun KK hKK=>?_) AllReadyH.nil; go_simp
         skip
         refine hKK.out _ _ ?_ (fun hHeld2=>?_)
         ·exact ⟨kpA _ _ hc35,kpA _ _ g05⟩
         clear hKK KK; clear hHeld2;(try simp only [Act.put,sI,sZ,sS]);refine wpAnyH_ready (rs:=[15]) (by as_aux_lemma=>kernel_rfl) (by simp) ?_; refine AllReadyH.cons (o:=⟨_,_,_,_,_,_⟩) rfl (fun KK hKK=>?_) AllReadyH.nil; refine cq (by rfl) (.tmp 62) (.tmp 64) (by rfl) (by rfl) (by rfl) hap ?_; refine hKK.out _ _ ?_ (fun hHeld2=>?_)
         ·exact ⟨hc36,g06⟩
         clear hKK KK; clear hHeld2;(try simp only [Act.put,sI,sZ,sS]);refine wpAnyH_ready (rs:=[16]) (by as_aux_lemma=>kernel_rfl) (by simp) ?_; refine AllReadyH.cons (o:=⟨_,_,_,_,_,_⟩) rfl (fun KK hKK=>?_) AllReadyH.nil; go_simp
         skip
         refine hKK.out _ _ ?_ (fun hHeld2=>?_)
         ·exact ⟨hc37,g07⟩
         clear hKK KK; clear hHeld2;(try simp only [Act.put,sI,sZ,sS]);refine wpAnyH_done (by as_aux_lemma=>kernel_rfl) ?_ _;go_wp2_with fail
         go_roundg (x.args.length - (k+1))
         case measure=>omega
         case rel=>exact ⟨k+1,_,op2.set m cm,NU2+1,rfl,by omega,Nat.succ_le_succ hNU2,hM8,by rw [hu2'.out]; exact hid hO2b,hB8⟩
        ·go_simp
         refine hKK.out _ _ ?_ (fun hHeld2=>?_)
         ·exact ⟨kpA _ _ hc35,kpA _ _ g05⟩
         clear hKK KK hHeld2;(try simp only [Act.put,sI,sZ,sS]);refine wpAnyH_ready (rs:=[12]) (by as_aux_lemma=>kernel_rfl) (by simp) ?_; refine AllReadyH.cons (o:=⟨_,_,_,_,_,_⟩) rfl (fun KK hKK=>?_) AllReadyH.nil; go_simp
         skip
         refine hKK.out _ _ ?_ (fun hHeld2=>?_)
         ·exact ⟨kpA _ _ hc35,kpA _ _ g05⟩
         clear hKK KK; clear hHeld2;(try simp only [Act.put,sI,sZ,sS]);refine wpAnyH_ready (rs:=[15]) (by as_aux_lemma=>kernel_rfl) (by simp) ?_; refine AllReadyH.cons (o:=⟨_,_,_,_,_,_⟩) rfl (fun KK hKK=>?_) AllReadyH.nil; refine cq (by rfl) (.tmp 62) (.tmp 64) (by rfl) (by rfl) (by rfl) hap ?_; refine hKK.out _ _ ?_ (fun hHeld2=>?_)
         ·exact ⟨hc36,g06⟩
         clear hKK KK; clear hHeld2;(try simp only [Act.put,sI,sZ,sS]);refine wpAnyH_ready (rs:=[16]) (by as_aux_lemma=>kernel_rfl) (by simp) ?_; refine AllReadyH.cons (o:=⟨_,_,_,_,_,_⟩) rfl (fun KK hKK=>?_) AllReadyH.nil; go_simp
         skip
         refine hKK.out _ _ ?_ (fun hHeld2=>?_)
         ·exact ⟨hc37,g07⟩
         clear hKK KK; clear hHeld2;(try simp only [Act.put,sI,sZ,sS]);refine wpAnyH_done (by as_aux_lemma=>kernel_rfl) ?_ _;go_wp2_with fail
         go_roundg (x.args.length - (k+1))
         case measure=>omega
         case rel=>exact ⟨k+1,_,op2.set m cm,NU2+1,rfl,by omega,Nat.succ_le_succ hNU2,hM8,by rw [hu2'.out]; exact hid hO2b,hB8⟩
     ·have q2:decide ((k:Int) < (x.args.length:Int))=false:=zO (by omega)
      (have q4:IntKind.i64.wrap ((m:Int)+1)=((m+1:Nat):Int):=by rw [zX]; omega);(have hkx:(aZ lits m).args.length<=k:=by rw [← hx.out]; omega);have hM3:=hM2.out; rw [tE lits m k hkx] at hM3; have hO3:=hO2.out; rw [xk lits m k hkx] at hO3; have hli:Hid (Calls Tryz.prog 38 #[pt K.B,iv m] wr _):=hid (pZ (fun k=>w.heap.size<=k) (K.up uv2 (cP lits (m+1))) lits S [] op2 ls [] hp hv 0 NU2 m wr hM3 hHr.out hml hO3.1 hs.len); have hls:=hid (hLr.out.next hO3 hml); have hB2':=hid hB2.out; replace hO3:=hid hO3.next; replace hM3:=hid hM3; replace hkx:=hid hkx;go_wp2_with fail;(with_reducible refine hli.out.mono ?_);rintro e w3 ⟨rfl,hp3,hv3,hM4,hH4,hF4⟩; have hB4:=hid (hB2'.out.trans (hF4.to_below hB2'.out.size fun k hk hg=>Nat.not_lt.2 hg hk)); replace hM4:=hid hM4; replace hH4:=hid hH4; clear hF4;go_wp2_with fail
      go_roundg (n - (m+1))
      case measure=>omega
      case rel=>exact ⟨m+1,uv2,op2,_,hp3,hv3,NU2,rfl,by omega,by omega,hM4,hH4,hO3,hls,hB4⟩
   ·have q1:decide ((m:Int) < (n:Int))=false:=zO (by omega)
    (have hmn:m=lits.length:=by rw [← hn.out]; omega);have hfin:=hid (show BI (fun k=>w.heap.size<=k) (K.up uv (cP lits m)) lits S [] [] hp hv 0 NU wr from ⟨op,ls,hMr.out,hHr.out,hOr.out.1,fun j hj=>by rw [hOr.out.2 j hj,if_pos (by omega)],hLr.out.1,fun j hj=>by rw [hLr.out.2 j hj,if_pos (by omega),hOr.out.2 j hj,if_pos (by omega)]⟩); replace hmn:=hid hmn;go_wp2_with fail;go_ret; exact ⟨K.up uv (cP lits m),hp,hv,NU,rfl,hKa.out,hKc.out,hfin.out,fun v=>by rw [hn.out,← hmn.out]; rfl,hBr.out⟩
end Go.Proofs.YtffdpoifdahadaaGreatDoor
