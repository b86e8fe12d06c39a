/- StrWi: StrWh, StrWi, in one text. -/
import Derived.Test.YtffdpoifdahadaaGreatDoorStrWg
import Derived.Test.YtffdpoifdahadaaGreatDoorStrI
set_option linter.unusedVariables false
set_option linter.unusedSimpArgs false
set_option maxHeartbeats 40000000
set_option maxRecDepth 100000
namespace Go.Proofs.YtffdpoifdahadaaGreatDoor
open Go.RowKit
open Go.Maps (Keyed has IsMap)
open Go.Lib (hid)
def iu (P:Program) (k:TypeId) (b:Nat) (f:Lit->Option Value) (m:Nat) (w:World):Prop :=
 ∃ D:DataW Value,w.ownsMap P k n8 b m D/\(∀ kl,WideAt.IsKeyLit kl->has D kl=(f kl).isSome/\∀ v,f kl=some v->∀ z,D.atKey kl z=.held v)/\Maps.size D=m
section
variable {P:Program} {k e t:TypeId} {b m:Nat} {f:Lit->Option Value} {w w':World}
theorem iu.v (h:iu P k b f m w):bR P k b m f w:=by
 obtain ⟨D,h1,h2,-⟩:=h; exact ⟨D,h1,h2⟩
theorem rD {D:DataW Value} {n:Nat} (h:w.ownsMap P k n8 b n D):w.ownsMap P k n8 b (Maps.size D) D:=by
 obtain ⟨es,clock,hb,F,hs,hD⟩:=h; refine ⟨es,clock,hb,F,?_,hD⟩; have:∃ l:List (Lit × DataW Value),D=.map l/\l.length=es.size:=⟨_,hD,by rw [length_sorted]; simp⟩; obtain ⟨l,e1,e2⟩:=this; rw [e1,Maps.size_eq,e2]; exact zM _
theorem iu.made (w:World):iu P k w.heap.size (fun _=>none) 0 (w.alloc (.map #[] 0)) :=
 ⟨.map [],World.ownsMap_made _ _ _ _,fun kl _=>⟨rfl,fun v h=>by cases h⟩,rfl⟩
theorem iu.same (h:iu P k b f m w) (hb:w'.heap[b]? = w.heap[b]?):iu P k b f m w':=by
 obtain ⟨D,⟨es,clock,h1,h2⟩,h3⟩:=h; exact ⟨D,⟨es,clock,hb.trans h1,h2⟩,h3⟩
theorem iu.congr {g:Lit->Option Value} (h:iu P k b f m w) (hg:∀ kl,WideAt.IsKeyLit kl->g kl=f kl):iu P k b g m w:=by
 obtain ⟨D,h1,h2,h3⟩:=h; exact ⟨D,h1,fun kl hk=>by rw [hg kl hk]; exact h2 kl hk,h3⟩
theorem iu.len (h:iu P k b f m w) (ht:P.underlying t=some (.map k e)) (ty:TypeId):(Builtin.len_ #[t] ty #[.map (some b)]).run P w=.ok (.int .i64 m) w:=by
 obtain ⟨D,h1,-,h3⟩:=h; rw [h1.len ht ty,h3]
theorem iu.put (h:iu P k b f m w) (K:Keyed P k) (ht:P.underlying t=some (.map k e)) (hN:m < maxLen) {key:Value} {kl:Lit} (hkey:keyOf P k key=some kl) (hkl:WideAt.IsKeyLit kl) (v:Value) :
  ∃ w',(Instr.mapUpdate t (.map (some b)) key v).run P w=.ok () w'/\iu P k b (putF f kl v) (if (f kl).isSome=true then m else m+1) w'/\w.grownBy w' (some b):=by
 obtain ⟨D,h1,h2,h3⟩:=h; obtain ⟨w',hrun,h4,h5⟩:=h1.update K ht hN hkey (val:=v) (d:=.held v) (ps:=[]) rfl
 have hm:IsMap D:=by obtain ⟨es,clock,_,_,_,rfl⟩:=h1; exact ⟨_,rfl⟩
 have hsz:=Maps.size_put (k:=kl) (h1.tidy K) (DataW.held v); rw [(h2 kl hkl).1,h3] at hsz; have h6:=rD h4; rw [hsz] at h6; refine ⟨w',hrun,⟨_,h6,fun x hx=>?_,hsz⟩,h5⟩; unfold putF; by_cases e:x=kl
 ·subst e
  rw [if_pos rfl]; refine ⟨Maps.has_put_same hm hx _,fun u hu z=>?_⟩; injection hu with hu; subst hu; exact Maps.atKey_put_same hm hx _ z
 ·rw [if_neg e]
  refine ⟨(Maps.has_put_other e _).trans (h2 x hx).1,fun u hu z=>?_⟩; rw [Maps.atKey_put_other e]; exact (h2 x hx).2 u hu z
end
def lvF (hs:List (List UInt8)) (lv:List UInt8->Nat):Lit->Option Value
 | .string s=>if s∈hs then some (iv (lv s:Int)) else none
 | _=>none
theorem yB (l:List (List UInt8)) (x:List UInt8):(dd (l++[x])).length=if x∈l then (dd l).length else (dd l).length+1:=by
 by_cases e:x∈l
 ·rw [if_pos e]
  exact (g8 (f9 _) (f9 _) fun y=>by rw [fb,fb,z8,List.mem_singleton]; exact ⟨fun h=>h.elim id fun e2=>e2 ▸ e,Or.inl⟩).length_eq
 ·rw [if_neg e]
  have:(dd (l++[x])).Perm (dd l++[x]):=g8 (f9 _) (List.nodup_append.2 ⟨f9 _,by simp,fun a ha b hb=>by
   simp at hb; subst hb; rintro rfl
   exact e ((fb _ _).1 ha)⟩) fun y=>by rw [fb,z8,z8,fb]
  rw [this.length_eq]; simp
structure LM (q:Qg) (ra:Option Addr) (rc:Nat) (aa:Option Addr) (ac:Nat) (w:World) (mb:Nat) (hs:List (List UInt8)) (lv:List UInt8->Nat) (wr:World):Prop where
 box:wr.heap[w.heap.size]? = some (.cells (aG (.slice ra q.rules.length rc) q.goal.op q.goal.nt q.goal.rel (.slice aa q.goal.args.length ac)) 32 (0,0))
 map:iu Tryz.prog 9 mb (lvF hs lv) (dd hs).length wr
 ge:w.heap.size<=mb
 bel:Below w.heap.size w wr
theorem LM.below {q:Qg} {ra:Option Addr} {rc:Nat} {aa:Option Addr} {ac:Nat} {w wr wr':World} {mb:Nat} {hs:List (List UInt8)} {lv:List UInt8->Nat} (h:LM q ra rc aa ac w mb hs lv wr) (hb:Below wr.heap.size wr wr'):LM q ra rc aa ac w mb hs lv wr' :=
 ⟨an hb h.box (ae h.box),h.map.same (hb.block mb h.map.v.lt),h.ge,h.bel.trans (hb.mono h.bel.size)⟩
theorem LM.keep {q:Qg} {ra:Option Addr} {rc:Nat} {aa:Option Addr} {ac:Nat} {w wr wr':World} {mb:Nat} {hs hs':List (List UInt8)} {lv lv':List UInt8->Nat} (h:LM q ra rc aa ac w mb hs lv wr) (hm:iu Tryz.prog 9 mb (lvF hs' lv') (dd hs').length wr') (hg:wr.grownBy wr' (some mb)):LM q ra rc aa ac w mb hs' lv' wr'/\∀ (b:Nat) (o:Obj),wr.heap[b]? = some o->tyO o≠none->wr'.heap[b]? = some o:=by
 obtain ⟨es,cl,ho⟩:=h.map.v.obj
 have hne:∀ (b:Nat) (o:Obj),wr.heap[b]? = some o->tyO o≠none->wr'.heap[b]? = some o:=fun b o hb ht=>(hg.block _ (aL hb) (fun e=>by injection e with e; rw [e,ho] at hb; injection hb with hb; exact ht (by rw [← hb]; rfl))).trans hb
 exact ⟨⟨hne _ _ h.box (by simp [tyO]),hm,h.ge,h.bel.trans (bj (W:=w) hg h.ge h.bel.size)⟩,hne⟩
theorem LM.add {q:Qg} {ra:Option Addr} {rc:Nat} {aa:Option Addr} {ac:Nat} {w wr:World} {mb:Nat} {hs:List (List UInt8)} (h:LM q ra rc aa ac w mb hs (fun _=>0) wr) (s:List UInt8) (hl:s.length<=1048576) (hk:hs.length<=1048576) :
  ∃ w',(Instr.mapUpdate 83 (.map (some mb)) (sv s) (iv 0)).run Tryz.prog wr=.ok () w'/\LM q ra rc aa ac w mb (hs++[s]) (fun _=>0) w':=by
 have hdl:(dd hs).length<=hs.length:=by
  have:∀ l:List (List UInt8),(dd l).length<=l.length:=by
   intro l
   induction l with
   | nil=>exact zM _
   | cons a l ih =>
    unfold dd; split
    ·exact Nat.le_succ_of_le ih
    ·simp only [zT]; omega
  exact this hs
 obtain ⟨w',h1,h2,h3⟩:=h.map.put (Maps.string_keyed Tryz.underlying9) (t:=83) (e:=3) Tryz.underlying83 (by unfold maxLen; omega) (bH s hl) trivial (iv 0); refine ⟨w',h1,(h.keep ?_ h3).1⟩
 have e:(if (lvF hs (fun _=>0) (.string s)).isSome=true then (dd hs).length else (dd hs).length+1)=(dd (hs++[s])).length:=by
  rw [yB]; unfold lvF; by_cases e:s∈hs
  ·simp [e]
  ·simp [e]
 rw [e] at h2
 refine h2.congr fun kl _=>?_
 unfold putF
 cases kl with
 | string x =>
  unfold lvF; by_cases e:x=s
  ·subst e; simp
  ·by_cases e2:x∈hs
   ·simp [e,e2]
   ·simp [e,e2]
 | _=>simp [lvF]
theorem LM.set {q:Qg} {ra:Option Addr} {rc:Nat} {aa:Option Addr} {ac:Nat} {w wr:World} {mb:Nat} {hs:List (List UInt8)} {lv:List UInt8->Nat} (h:LM q ra rc aa ac w mb hs lv wr) {s:List UInt8} (hs':s∈hs) (hl:s.length<=1048576) (hk:(dd hs).length<=1048576) (n:Nat) :
  ∃ w',(Instr.mapUpdate 83 (.map (some mb)) (sv s) (iv n)).run Tryz.prog wr=.ok () w'/\LM q ra rc aa ac w mb hs (ld lv s n) w':=by
 obtain ⟨w',h1,h2,h3⟩:=h.map.put (Maps.string_keyed Tryz.underlying9) (t:=83) (e:=3) Tryz.underlying83 (by unfold maxLen; omega) (bH s hl) trivial (iv n); refine ⟨w',h1,(h.keep ?_ h3).1⟩; rw [if_pos (by unfold lvF; simp [hs'])] at h2
 refine h2.congr fun kl _=>?_
 unfold putF
 cases kl with
 | string x =>
  unfold lvF ld; by_cases e:x=s
  ·subst e; simp [hs']
  ·by_cases e2:x∈hs
   ·simp [e,e2]
   ·simp [e,e2]
 | _=>simp [lvF]
theorem LM.look {q:Qg} {ra:Option Addr} {rc:Nat} {aa:Option Addr} {ac:Nat} {w wr:World} {mb:Nat} {hs:List (List UInt8)} {lv:List UInt8->Nat} (h:LM q ra rc aa ac w mb hs lv wr) (s:List UInt8) (hl:s.length<=1048576) :
  (Instr.lookup 83 (.map (some mb)) (sv s) false).run Tryz.prog wr=.ok (iv (if s∈hs then lv s else 0:Nat)) wr/\(Instr.lookup 83 (.map (some mb)) (sv s) true).run Tryz.prog wr=.ok (.tuple #[iv (if s∈hs then lv s else 0:Nat),.bool (decide (s∈hs))]) wr:=by
 have h1:=h.map.v.look (Maps.string_keyed Tryz.underlying9) (t:=83) (e:=3) Tryz.underlying83 (z:=iv 0) (by kernel_rfl) (bH s hl) trivial; have h2:=h.map.v.look_ok (Maps.string_keyed Tryz.underlying9) (t:=83) (e:=3) Tryz.underlying83 (z:=iv 0) (by kernel_rfl) (bH s hl) trivial; rw [h1,h2]; unfold lvF; by_cases e:s∈hs
 ·simp [e]
 ·simp [e]
theorem uC (hs:List (List UInt8)) (lv:List UInt8->Nat) (r:Rg) (body:List Lg) {j:Nat} {x:Lg} (hx:body[j]? = some x) (m:Nat) :
  ((body.drop j).filter (eD hs)).foldl (fun m x=>max m (lv x.rel+dB r x)) m=((body.drop (j+1)).filter (eD hs)).foldl (fun m x=>max m (lv x.rel+dB r x)) (if eD hs x=true then max m (lv x.rel+dB r x) else m):=by
 have hlt:=(List.getElem?_eq_some_iff.1 hx).1
 have e:body.drop j=x::body.drop (j+1):=by rw [Ac hlt]; congr 1; rw [zR hlt] at hx; injection hx
 rw [e,List.filter_cons]; split
 ·rfl
 ·rfl
def sq (q:Qg) (w:World) (e:Ending) (w':World):Prop :=
 Below w.heap.size w w'/\match dn q.rules with
  | none=>e=.returned (.tuple #[.map none,.bool false])
  | some lv=>∃ mb m,e=.returned (.tuple #[.map (some mb),.bool true])/\bR Tryz.prog 9 mb m (lvF (aI q.rules) lv) w'/\w.heap.size<=mb
theorem sq.none {q:Qg} {w w':World} (hb:Below w.heap.size w w') (h:dn q.rules=none):sq q w (.returned (.tuple #[.map none,.bool false])) w':=⟨hb,by rw [h]⟩
theorem sq.some {q:Qg} {w w':World} (hb:Below w.heap.size w w') {lv:List UInt8->Nat} (h:dn q.rules=some lv) {mb m:Nat} (h1:bR Tryz.prog 9 mb m (lvF (aI q.rules) lv) w') (h2:w.heap.size<=mb):sq q w (.returned (.tuple #[.map (some mb),.bool true])) w':=⟨hb,by rw [h]; exact ⟨mb,m,rfl,h1,h2⟩⟩
structure Lvl (rs:List Rg) (R:Option (List UInt8->Nat)) (f:Nat) (lv:List UInt8->Nat) (ch:Bool):Prop where
 run:if ch=true then ia rs f lv=R else R=some lv
 fuel:ch=true->qt rs<=f+m7 (aI rs) lv
 lt:∀ m∈aI rs,lv m < (dd (aI rs)).length
theorem Lvl.pos {rs:List Rg} {R:Option (List UInt8->Nat)} {f:Nat} {lv:List UInt8->Nat} (h:Lvl rs R f lv true):∃ g,f=g+1:=by
 have h1:=h.fuel rfl; have h2:=xM h.lt
 have h3:(aI rs).length=rs.length:=by unfold aI; rw [zY]
 rw [h3] at h2; unfold qt at h1; exact ⟨f - 1,by omega⟩
theorem Lvl.next {rs:List Rg} {R:Option (List UInt8->Nat)} {f:Nat} {lv lv':List UInt8->Nat} {ch:Bool} (h:Lvl rs R (f+1) lv true) (hp:fD (aI rs) (dd (aI rs)).length rs lv false=some (lv',ch)) (hlt:∀ m∈aI rs,lv' m < (dd (aI rs)).length):Lvl rs R f lv' ch:=by
 have hr:=h.run; rw [if_pos rfl,ia,hp] at hr; refine ⟨?_,fun hc=>?_,hlt⟩
 ·cases ch with
  | true=>simpa using hr
  | false=>rw [if_neg (by simp)]; simpa using hr.symm
 ·have h1:=h.fuel rfl
  have hg:=gF rs lv false _ hp; subst hc; rcases jU rs lv false _ hp rfl with e | ⟨r,hr',hl⟩
  ·cases e
  ·have:=zb (ns:=aI rs) (fun m _=>hg.1 m) (n:=r.head.rel) (List.mem_map.2 ⟨r,hr',rfl⟩) hl
   simp only at this; omega
theorem Lvl.bad {rs:List Rg} {R:Option (List UInt8->Nat)} {f:Nat} {lv:List UInt8->Nat} (h:Lvl rs R (f+1) lv true) (hp:fD (aI rs) (dd (aI rs)).length rs lv false=none):R=none:=by
 have hr:=h.run; rw [if_pos rfl,ia,hp] at hr; exact hr.symm
theorem rV (q:Qg) (ra:Option Addr) (rc:Nat) (aa:Option Addr) (ac:Nat) (S:aP) (w:World) (h:QR q ra rc aa ac S w) (hq:Qsm q) :
  Calls Tryz.prog 33 #[x7 q ra rc aa ac] w (sq q w):=by
 obtain ⟨R,hR⟩:∃ R,R=dn q.rules:=⟨_,rfl⟩; replace hR:=hid hR; have hb0:Below w.heap.size w (w.alloc (.cells (aG (.slice ra q.rules.length rc) q.goal.op q.goal.nt q.goal.rel (.slice aa q.goal.args.length ac)) 32)):=(zN _ w).alloc (zM _) _; have hbn:=af w (.cells (aG (.slice ra q.rules.length rc) q.goal.op q.goal.nt q.goal.rel (.slice aa q.goal.args.length ac)) 32); obtain ⟨w0,hw0⟩:∃ w0,w0=w.alloc (.cells (aG (.slice ra q.rules.length rc) q.goal.op q.goal.nt q.goal.rel (.slice aa q.goal.args.length ac)) 32):=⟨_,rfl⟩; rw [← hw0] at hb0 hbn; have hh:=hid h; have hmm:=@run_makeMap Tryz.prog
 have hL0:LM q ra rc aa ac w w0.heap.size [] (fun _=>0) (w0.alloc (.map #[] 0)):=by
  have bb:Below w0.heap.size w0 (w0.alloc (.map #[] 0)):=(zN _ w0).alloc (zM _) _; exact ⟨an bb hbn (ae hbn),(iu.made w0).congr fun kl _=>(by cases kl <;> simp [lvF]),hb0.size,hb0.trans (bb.mono hb0.size)⟩
 have b0:(w0.alloc (.map #[] 0)).cell? ⟨w.heap.size,0,none⟩=some (.slice ra q.rules.length rc):=(aj hL0.box).trans rfl; have hnr:=hq.nr
 have hhl:(aI q.rules).length=q.rules.length:=by unfold aI; rw [zY]
 replace hL0:=hid hL0; replace hw0:=hid hw0; replace hb0:=hid hb0; replace hbn:=hid hbn; replace hhl:=hid hhl; clear h
 go_enter Tryz.func33,Tryz.ntmps33
 go_upto_region 1 with (fail)
 rw [← hw0.out]
 go_upto_region 2 with (fail)
 obtain ⟨mb,hmb⟩:∃ mb,mb=w0.heap.size:=⟨_,rfl⟩; obtain ⟨w1,hw1⟩:∃ w1,w1=w0.alloc (.map #[] 0):=⟨_,rfl⟩; rw [← hmb,← hw1]; rw [← hw1] at hL0 b0; rw [← hmb] at hL0; replace hmb:=hid hmb; replace hw1:=hid hw1; clear hmm
 go_wp2_with fail
 go_loopg [19] q.rules.length (fun f v19 wr=>∃ (k:Nat),v19=iv k/\k+f=q.rules.length/\Hid (LM q ra rc aa ac w mb ((aI q.rules).take k) (fun _=>0) wr))
 case atStart=>exact ⟨0,rfl,by omega,hL0⟩
 case round =>
  obtain ⟨k,rfl,hkf,hL⟩:=hrel; clear hL0 b0; by_cases hlt:k < q.rules.length
  ·have q1:decide ((k:Int) < (q.rules.length:Int))=true:=zP (by omega)
   have q3:IntKind.i64.wrap ((k:Int)+1)=((k+1:Nat):Int):=by rw [zX]; omega
   obtain ⟨r,hr⟩:∃ r,q.rules[k]? = some r:=⟨_,zR hlt⟩; have hrB:=hq.bd.1 r (zU hr); obtain ⟨g,o,cs,hidx,-,hg,hc,hrt⟩:=(hh.out.rl.below eR hL.out.bel).at (P:=Tryz.prog) (t:=30) (by kernel_rfl) (fun _=>by kernel_rfl) hr; obtain ⟨ha,hcap,ba,bc,rfl,-,-⟩:=hrt; obtain ⟨d0,d1,d2,d3,d4,d5,d6⟩:=fW hc; have hb3:Below wr.heap.size wr (wr.alloc (.cells (aM r.head.op r.head.nt r.head.rel (.slice ha r.head.args.length hcap) r.agg r.at_ (.slice ba r.body.length bc)) 27)):=(zN _ wr).alloc (zM _) _; have hk3:=af wr (.cells (aM r.head.op r.head.nt r.head.rel (.slice ha r.head.args.length hcap) r.agg r.at_ (.slice ba r.body.length bc)) 27)
   obtain ⟨W3,hW3⟩:∃ W3,W3=wr.alloc (.cells (aM r.head.op r.head.nt r.head.rel (.slice ha r.head.args.length hcap) r.agg r.at_ (.slice ba r.body.length bc)) 27):=⟨_,rfl⟩; rw [← hW3] at hb3 hk3; have hL3:=hL.out.below hb3; obtain ⟨v0,v1,v2,v3,v4,v5,v6,-⟩:=eg hk3
   have htk:(aI q.rules).take (k+1)=(aI q.rules).take k++[r.head.rel]:=by
    rw [List.take_add_one];(have:(aI q.rules)[k]? = some r.head.rel:=by unfold aI; rw [Ai,hr]; rfl);rw [this]; rfl
   obtain ⟨w4,hput,hL4⟩:=hL3.add r.head.rel (by have:=hrB.1.1; omega) (by rw [Ah]; omega); rw [← htk] at hL4; replace hL4:=hid hL4; replace hW3:=hid hW3; replace hk3:=hid hk3; replace htk:=hid htk; clear hc hb3 hL3
   go_upto_region 5 with (fail)
   rw [← hW3.out]; clear d0 d1 d2 d3 d4 d5 d6
   go_wp2_with fail
   go_roundg (q.rules.length - (k+1))
   case measure=>omega
   case rel=>exact ⟨k+1,rfl,by omega,hL4⟩
  ·have q1:decide ((k:Int) < (q.rules.length:Int))=false:=zO (by omega)
   have hL1:=hL.out; rw [List.take_of_length_le (by have:=hhl.out; omega)] at hL1
   have hLv0:=hid (show Lvl q.rules R (qt q.rules) (fun _=>0) true from ⟨by rw [if_pos rfl,hR.out]; rfl,fun _=>Nat.le_add_right _ _,fun m hm=>by
    have:m∈dd (aI q.rules):=(fb _ _).2 hm
    exact List.length_pos_of_mem this⟩)
   replace hL1:=hid hL1; obtain ⟨F0,hF0⟩:∃ F,F=qt q.rules:=⟨_,rfl⟩; rw [← hF0] at hLv0; replace hF0:=hid hF0; clear hL
   go_wp2_with fail
   go_loopg [7] (F0+1) (fun f v7 wr=>∃ (lv:List UInt8->Nat) (ch:Bool) (f1:Nat),v7=.bool ch/\(ch=true->f1 < f)/\Hid (LM q ra rc aa ac w mb (aI q.rules) lv wr)/\Hid (Lvl q.rules R f1 lv ch))
   case atStart=>exact ⟨fun _=>0,true,F0,rfl,fun _=>by omega,hL1,hLv0⟩
   case round =>
    obtain ⟨lv0,ch,f1,rfl,hf1,hLM,hLv⟩:=hrel; clear hL1 hLv0
    cases ch with
    | false =>
     have hRs:=hid (show dn q.rules=some lv0 from by rw [← hR.out]; exact hLv.out.run);go_wp2_with fail;go_ret2;exact sq.some hLM.out.bel hRs.out hLM.out.map.v hLM.out.ge
    | true =>
     have hf2:f1 < gk:=hf1 rfl; obtain ⟨f2,rfl⟩:=hLv.out.pos; obtain ⟨P0,hP0⟩:∃ P,P=fD (aI q.rules) (dd (aI q.rules)).length q.rules lv0 false:=⟨_,rfl⟩; have b0:wr.cell? ⟨w.heap.size,0,none⟩=some (.slice ra q.rules.length rc):=(aj hLM.out.box).trans rfl; have hlt0:=hid hLv.out.lt; replace hP0:=hid hP0; clear hf1;go_wp2_with fail
     go_loopg [7,32] q.rules.length (fun f v7 v32 wr2=>∃ (k2:Nat) (lv:List UInt8->Nat) (ch:Bool),v7=.bool ch/\v32=iv k2/\k2+f=q.rules.length/\Hid (LM q ra rc aa ac w mb (aI q.rules) lv wr2)/\Hid (P0=fD (aI q.rules) (dd (aI q.rules)).length (q.rules.drop k2) lv ch)/\Hid (∀ m∈aI q.rules,lv m < (dd (aI q.rules)).length))
     case atStart=>exact ⟨0,lv0,false,rfl,rfl,by omega,hLM,hP0,hlt0⟩
     case round =>
      obtain ⟨k2,lv,ch,rfl,rfl,hk2,hL2,hP2,hlt2⟩:=hrel; clear b0 hLM hlt0; by_cases hlk:k2 < q.rules.length
      ·have q2:decide ((k2:Int) < (q.rules.length:Int))=true:=zP (by omega)
       (have q4:IntKind.i64.wrap ((k2:Int)+1)=((k2+1:Nat):Int):=by rw [zX]; omega);obtain ⟨r,hr⟩:∃ r,q.rules[k2]? = some r:=⟨_,zR hlk⟩; have hrB:=hq.bd.1 r (zU hr);(have hrl:r.head.rel.length<=1048576:=by have:=hrB.1.1; omega);have hrm:r.head.rel∈aI q.rules:=List.mem_map.2 ⟨r,zU hr,rfl⟩; obtain ⟨g,o,cs,hidx,-,hg,hc,hrt⟩:=(hh.out.rl.below eR hL2.out.bel).at (P:=Tryz.prog) (t:=30) (by kernel_rfl) (fun _=>by kernel_rfl) hr; obtain ⟨ha,hcap,ba,bc,rfl,-,hSb⟩:=hrt; obtain ⟨d0,d1,d2,d3,d4,d5,d6⟩:=fW hc; have hb3:Below wr.heap.size wr (wr.alloc (.cells (aM r.head.op r.head.nt r.head.rel (.slice ha r.head.args.length hcap) r.agg r.at_ (.slice ba r.body.length bc)) 27)):=(zN _ wr).alloc (zM _) _; have hk3:=af wr (.cells (aM r.head.op r.head.nt r.head.rel (.slice ha r.head.args.length hcap) r.agg r.at_ (.slice ba r.body.length bc)) 27); obtain ⟨T,hT⟩:∃ T,T=wr.heap.size:=⟨_,rfl⟩;obtain ⟨W3,hW3⟩:∃ W3,W3=wr.alloc (.cells (aM r.head.op r.head.nt r.head.rel (.slice ha r.head.args.length hcap) r.agg r.at_ (.slice ba r.body.length bc)) 27):=⟨_,rfl⟩; rw [← hW3] at hb3 hk3; rw [← hT] at hk3; have hL3:=hL2.out.below hb3; have hBw:=hid hL2.out.bel; obtain ⟨v0,v1,v2,v3,v4,v5,v6,-⟩:=eg hk3; have hlkp:=(hL3.look r.head.rel hrl).1; rw [if_pos hrm] at hlkp; have hmn:=hlt2.out r.head.rel hrm; obtain ⟨N0,hN0⟩:∃ N,N=(dd (aI q.rules)).length:=⟨_,rfl⟩
       have hN0b:N0<=1048576:=by
        rw [hN0]
        have h1:∀ l:List (List UInt8),(dd l).length<=l.length:=by
         intro l
         induction l with
         | nil=>exact zM _
         | cons a l ih =>
          unfold dd; split
          ·exact Nat.le_succ_of_le ih
          ·simp only [zT]; omega
        have:=h1 (aI q.rules); have:=hhl.out; omega
       (have hdr:q.rules.drop k2=r::q.rules.drop (k2+1):=by rw [Ac hlk]; congr 1; rw [zR hlk] at hr; injection hr);obtain ⟨Lt,hLt⟩:∃ L,L=gx (aI q.rules) lv r:=⟨_,rfl⟩; have hP3:=hP2.out; rw [hdr] at hP3;(replace hP3:P0=if N0<=Lt then none else if lv r.head.rel < Lt then fD (aI q.rules) N0 (q.rules.drop (k2+1)) (ld lv r.head.rel Lt) true else fD (aI q.rules) N0 (q.rules.drop (k2+1)) lv ch:=by rw [hN0,hLt]; exact hP3);rw [← hN0] at hmn; have hLt0:=hid (show Lt=((r.body.drop 0).filter (eD (aI q.rules))).foldl (fun m x=>max m (lv x.rel+dB r x)) (lv r.head.rel) from hLt); have hbl:=hrB.2.1; have hL3':=hid hL3; have hk3':=hid hk3; replace hSb:=hid hSb; replace hT:=hid hT; replace hW3:=hid hW3; replace hP3:=hid hP3; replace hLt:=hid hLt; replace hN0:=hid hN0; replace hdr:=hid hdr; have hrm':=hid hrm; clear hc hL3 hk3 hP2 hrm hb3 hL2;(go_upto_region 13 with (fail));rw [← hW3.out,← hT.out]; clear d0 d1 d2 d3 d4 d5 d6;go_wp2_with fail
       go_loopg [10,44] r.body.length (fun f v10 v44 wr3=>∃ (j mm:Nat),v10=iv mm/\v44=iv j/\j+f=r.body.length/\mm<=3000000/\Hid (LM q ra rc aa ac w mb (aI q.rules) lv wr3/\wr3.heap[T]? = some (.cells (aM r.head.op r.head.nt r.head.rel (.slice ha r.head.args.length hcap) r.agg r.at_ (.slice ba r.body.length bc)) 27 (0,0)))/\Hid (Lt=((r.body.drop j).filter (eD (aI q.rules))).foldl (fun m x=>max m (lv x.rel+dB r x)) mm))
       case atStart=>exact ⟨0,lv r.head.rel,rfl,rfl,by omega,by omega,hid ⟨hL3'.out,hk3'.out⟩,hLt0⟩
       case round =>
        obtain ⟨j,mm,rfl,rfl,hjf,hmm2,hL4,hLt1⟩:=hrel; clear v0 v1 v2 v3 v4 v5 v6 hlkp hL3' hk3' hLt0 hidx hg; by_cases hlj:j < r.body.length
        ·have q5:decide ((j:Int) < (r.body.length:Int))=true:=zP (by omega)
         (have q6:IntKind.i64.wrap ((j:Int)+1)=((j+1:Nat):Int):=by rw [zX]; omega);obtain ⟨x,hx⟩:∃ x,r.body[j]? = some x:=⟨_,zR hlj⟩; have hxB:=hrB.2.2 x (zU hx);(have hxl:x.rel.length<=1048576:=by have:=hxB.1; omega);obtain ⟨g,o,cs,hidx,-,hg,hc,hrt⟩:=(sG eA hSb.out hh.out.lo hBw.out hL4.out.1.bel).at (P:=Tryz.prog) (t:=25) (by kernel_rfl) (fun _=>by kernel_rfl) hx; obtain ⟨xa,xc,rfl,-⟩:=hrt; have d0:wr.cell? ⟨g,o+0,none⟩=some (iv x.op):=hc 0 _ rfl; have d1:wr.cell? ⟨g,o+1,none⟩=some (.bool x.nt):=hc 1 _ rfl; have d2:wr.cell? ⟨g,o+2,none⟩=some (sv x.rel):=hc 2 _ rfl; have d3:wr.cell? ⟨g,o+3,none⟩=some (.slice xa x.args.length xc):=hc 3 _ rfl; rw [Nat.add_zero] at d0; have hb5:Below wr.heap.size wr (wr.alloc (.cells (ap x.op x.nt x.rel (.slice xa x.args.length xc)) 24)):=(zN _ wr).alloc (zM _) _; have hk5:=af wr (.cells (ap x.op x.nt x.rel (.slice xa x.args.length xc)) 24);obtain ⟨W5,hW5⟩:∃ W5,W5=wr.alloc (.cells (ap x.op x.nt x.rel (.slice xa x.args.length xc)) 24):=⟨_,rfl⟩; rw [← hW5] at hb5 hk5; have hL5:=hL4.out.1.below hb5; have hT5:=an hb5 hL4.out.2 (ae hL4.out.2); have hL6:=hid (And.intro hL5 hT5); obtain ⟨u0,u1,u2,u3,-⟩:=aK hk5; obtain ⟨t0,t1,t2,t3,t4,t5,t6,-⟩:=eg hT5; have hlkx:=(hL5.look x.rel hxl).2; have hLt2:=hid (hLt1.out.trans (uC (aI q.rules) lv r r.body hx mm)); replace hW5:=hid hW5; clear hc hb5 hL5 hT5 hk5 t0 t1 t2 t3 t5 t6;(go_upto_region 17 with (fail));rw [← hW5.out]; clear d0 d1 d2 d3; by_cases ho:x.op=0
         ·rw [ho] at u0
          by_cases hm:x.rel∈aI q.rules
          ·have hu:eD (aI q.rules) x=true:=by unfold eD; simp [ho,hm]
           rw [if_pos hm,zP hm] at hlkx; have hlx:=hlt2.out x.rel hm; rw [← hN0.out] at hlx;(have hw1:IntKind.i64.wrap ((lv x.rel:Int)+1)=(lv x.rel:Int)+1:=by rw [zX]; omega);have hm':=hid hm; have ho':=hid ho; clear hm ho
           cases hnt:x.nt with
           | true =>
            rw [hnt] at u1; have hnt':=hid hnt; clear hnt;(have hmx:max (mm:Int) ((lv x.rel:Int)+1)=((max mm (lv x.rel+1):Nat):Int):=by omega);(have hst:dB r x=1:=by unfold dB; rw [if_pos (Or.inl hnt'.out)]);have hL8:=hid (show Lt=((r.body.drop (j+1)).filter (eD (aI q.rules))).foldl (fun m x=>max m (lv x.rel+dB r x)) (max mm (lv x.rel+1)) from by rw [hLt2.out,if_pos hu,hst]);(have hmb2:max mm (lv x.rel+1)<=3000000:=by omega);obtain ⟨m9,hm9⟩:∃ m9,m9=max mm (lv x.rel+1):=⟨_,rfl⟩; rw [← hm9] at hmx hL8 hmb2; replace hm9:=hid hm9; replace hst:=hid hst;go_wp2_with fail
            go_roundg (r.body.length - (j+1))
            case measure=>omega
            case rel=>exact ⟨j+1,m9,rfl,rfl,by omega,hmb2,hL6,hL8⟩
           | false =>
            rw [hnt] at u1; have hnt':=hid hnt; clear hnt; by_cases hag:r.agg=0
            ·rw [hag] at t4
             have hag':=hid hag; clear hag;(have hmx:max (mm:Int) (lv x.rel:Int)=((max mm (lv x.rel+0):Nat):Int):=by omega);(have hst:dB r x=0:=by unfold dB; rw [if_neg (by rw [hnt'.out]; simp [hag'.out])]);have hL8:=hid (show Lt=((r.body.drop (j+1)).filter (eD (aI q.rules))).foldl (fun m x=>max m (lv x.rel+dB r x)) (max mm (lv x.rel+0)) from by rw [hLt2.out,if_pos hu,hst]);(have hmb2:max mm (lv x.rel+0)<=3000000:=by omega);obtain ⟨m9,hm9⟩:∃ m9,m9=max mm (lv x.rel+0):=⟨_,rfl⟩; rw [← hm9] at hmx hL8 hmb2; replace hm9:=hid hm9; replace hst:=hid hst;go_wp2_with fail
             go_roundg (r.body.length - (j+1))
             case measure=>omega
             case rel=>exact ⟨j+1,m9,rfl,rfl,by omega,hmb2,hL6,hL8⟩
            ·have qa:(r.agg != 0)=true:=by simpa using hag
             have hag':=hid hag;(have hmx:max (mm:Int) ((lv x.rel:Int)+1)=((max mm (lv x.rel+1):Nat):Int):=by omega);(have hst:dB r x=1:=by unfold dB; rw [if_pos (Or.inr hag'.out)]);have hL8:=hid (show Lt=((r.body.drop (j+1)).filter (eD (aI q.rules))).foldl (fun m x=>max m (lv x.rel+dB r x)) (max mm (lv x.rel+1)) from by rw [hLt2.out,if_pos hu,hst]);(have hmb2:max mm (lv x.rel+1)<=3000000:=by omega);obtain ⟨m9,hm9⟩:∃ m9,m9=max mm (lv x.rel+1):=⟨_,rfl⟩; rw [← hm9] at hmx hL8 hmb2; replace hm9:=hid hm9; replace hst:=hid hst;go_wp2_with fail
             go_roundg (r.body.length - (j+1))
             case measure=>omega
             case rel=>exact ⟨j+1,m9,rfl,rfl,by omega,hmb2,hL6,hL8⟩
          ·rw [if_neg hm,zO hm] at hlkx
           have hm':=hid hm; have ho':=hid ho; clear hm ho; have hL8:=hid (show Lt=((r.body.drop (j+1)).filter (eD (aI q.rules))).foldl (fun m x=>max m (lv x.rel+dB r x)) mm from by rw [hLt2.out,if_neg (by unfold eD; simp [hm'.out])]);go_wp2_with fail
           go_roundg (r.body.length - (j+1))
           case measure=>omega
           case rel=>exact ⟨j+1,mm,rfl,rfl,by omega,hmm2,hL6,hL8⟩
         ·have qo:(x.op != 0)=true:=by simpa using ho
          have ho':=hid ho; have hL8:=hid (show Lt=((r.body.drop (j+1)).filter (eD (aI q.rules))).foldl (fun m x=>max m (lv x.rel+dB r x)) mm from by rw [hLt2.out,if_neg (by unfold eD; simp [ho'.out])]);go_wp2_with fail
          all_goals
           go_roundg (r.body.length - (j+1))
           case measure=>omega
           case rel=>exact ⟨j+1,mm,rfl,rfl,by omega,hmm2,hL6,hL8⟩
        ·have q5:decide ((j:Int) < (r.body.length:Int))=false:=zO (by omega)
         have hLe:=hid (show Lt=mm from by rw [hLt1.out,List.drop_of_length_le (by omega)]; rfl); have hlen:=hL4.out.1.map.len (t:=83) (e:=3) Tryz.underlying83 3; rw [← hN0.out] at hlen; obtain ⟨v0,v1,v2,v3,v4,v5,v6,-⟩:=eg hL4.out.2; have hlkh:=(hL4.out.1.look r.head.rel hrl).1; rw [if_pos hrm'.out] at hlkh; have hP4:=hP3.out; rw [hLe.out] at hP4; have hN0':=hN0.out; by_cases hbig:N0<=mm
         ·have qb:decide ((N0:Int)<=(mm:Int))=true:=zP (by omega)
          have qb2:decide ((mm:Int) ≥ (N0:Int))=true:=zP (by omega); have hbad:=hid (show R=none from hLv.out.bad (by rw [← hP0.out,hP4,if_pos hbig])); replace hbig:=hid hbig; replace hP4:=hid hP4; replace hN0':=hid hN0';go_wp2_with fail;go_ret2;exact sq.none hL4.out.1.bel (by rw [← hR.out]; exact hbad.out)
         ·have qb:decide ((N0:Int)<=(mm:Int))=false:=zO (by omega)
          rw [if_neg hbig] at hP4; by_cases hup:lv r.head.rel < mm
          ·have qu:decide (((lv r.head.rel:Nat):Int) < (mm:Int))=true:=zP (by omega)
           rw [if_pos hup] at hP4; obtain ⟨w9,hput,hL9⟩:=hL4.out.1.set hrm'.out hrl (by rw [← hN0']; exact hN0b) mm
           have hlt9:=hid (show ∀ m∈aI q.rules,ld lv r.head.rel mm m < (dd (aI q.rules)).length from fun m hm=>by
            unfold ld; split
            ·rw [← hN0']; omega
            ·exact hlt2.out m hm)
           rw [hN0'] at hP4; replace hbig:=hid hbig; replace hup:=hid hup; replace hP4:=hid hP4; replace hN0':=hid hN0'; replace hL9:=hid hL9;go_wp2_with fail
           go_roundg (q.rules.length - (k2+1))
           case measure=>omega
           case rel=>exact ⟨k2+1,ld lv r.head.rel mm,true,rfl,rfl,by omega,hL9,hP4,hlt9⟩
          ·have qu:decide (((lv r.head.rel:Nat):Int) < (mm:Int))=false:=zO (by omega)
           rw [if_neg hup,hN0'] at hP4; have hL9:=hid hL4.out.1; replace hbig:=hid hbig; replace hup:=hid hup; replace hP4:=hid hP4; replace hN0':=hid hN0';go_wp2_with fail
           go_roundg (q.rules.length - (k2+1))
           case measure=>omega
           case rel=>exact ⟨k2+1,lv,ch,rfl,rfl,by omega,hL9,hP4,hlt2⟩
      ·have q2:decide ((k2:Int) < (q.rules.length:Int))=false:=zO (by omega)
       have hP4:=hP2.out; rw [List.drop_of_length_le (by omega)] at hP4; have hLv2:=hid (show Lvl q.rules R f2 lv ch from hLv.out.next (by rw [← hP0.out,hP4]; rfl) hlt2.out); replace hP4:=hid hP4;go_wp2_with fail
       go_roundg (f2+1)
       case measure=>omega
       case rel=>exact ⟨lv,ch,f2,rfl,fun _=>by omega,hL2,hLv2⟩
end Go.Proofs.YtffdpoifdahadaaGreatDoor
namespace Go.Proofs.YtffdpoifdahadaaGreatDoor
open Go.RowKit
open Go.Lib (hid)
def nm:Rel Nat:=fun _ _ n cs=>cs=[iv (n:Int)]
theorem ep:dA 1 nm:=⟨fun h=>by rw [h]; rfl,fun h=>by rw [h]; exact m8 rfl,fun h _=>h⟩
def mX:Rel (List Nat):=fun S w l cs=>∃ v,cs=[v]/\SlR 1 nm S w l v
theorem bF:dA 1 mX:=by
 refine ⟨fun h=>by obtain ⟨v,rfl,-⟩:=h; rfl,fun h=>?_,fun h hm=>?_⟩
 ·obtain ⟨v,rfl,hv⟩:=h
  obtain ⟨a,c,rfl,-⟩:=hv.slice; exact m8 rfl
 ·obtain ⟨v,rfl,hv⟩:=h
  exact ⟨v,rfl,hv.move ep hm⟩
theorem wN {w:World} {l:List Nat} {v:Value} (h:IO w (bQ l) v):SlR 1 nm (fun k=>v.ownBlock=some k) w l v:=by
 have hl:(bQ l).length=l.length:=by simp
 rcases h.2 with ⟨rfl,h0⟩ | ⟨g,cap,cur,rfl,-,hg,hn,hm,hs,ht⟩
 ·have:l=[]:=by
   have h1:(bQ l).length=0:=h0; rw [hl] at h1; exact List.length_eq_zero_iff.1 h1
  subst this; exact SlR.nil _ _ _ _ _
 ·rw [hl] at hn ⊢
  refine ⟨some ⟨g,0,none⟩,cap,g,0,fun i=>[iv ((l.getD i 0:Nat):Int)],rfl,hn,fun _=>⟨rfl,rfl,aL hg⟩,fun i hi j u hu=>?_,fun i x hx=>?_⟩
  ·have hj:j=0:=by
    have:=(List.getElem?_eq_some_iff.1 hu).1; simp at this; omega
   subst hj; simp at hu; subst hu; have hc:=(ej (i:=i) (x:=iv ((l.getD i 0:Nat):Int)) h (by rw [Ai,Ai,getD_some hi]; rfl)).1; simpa using hc
  ·show [iv ((l.getD i 0:Nat):Int)]=[iv (x:Int)]
   rw [zZ,hx]; rfl
structure Sta (base:Nat) (L:List (List Nat)) (vo:Value) (vals:List Value) (w:World):Prop where
 row:w.ownsRow 0 33 1 vo vals.length vals
 len:vals.length=L.length
 inn:∀ j v,vals[j]? = some v->IO w (bQ (L.getD j [])) v
 dis:∀ (i j:Nat) (u v:Value) (k:Nat),vals[i]? = some u->vals[j]? = some v->u.ownBlock=some k->v.ownBlock=some k->i=j
 geo:∀ k,vo.ownBlock=some k->base<=k
 gei:∀ v∈vals,∀ k,v.ownBlock=some k->base<=k
theorem Sta.move {base:Nat} {L:List (List Nat)} {vo:Value} {vals:List Value} {w w':World} (h:Sta base L vo vals w) (hk:∀ k,k < w.heap.size->base<=k->w'.heap[k]? = w.heap[k]?):Sta base L vo vals w' :=
 { h with
  row:=aJ h.row (fun k e=>hk k (World.ownsRow.lt h.row k e).2 (h.geo k e)) fun _ _=>zW _
  inn:=fun j v hv=>(h.inn j v hv).keep fun k e=>hk k ((h.inn j v hv).lt e) (h.gei v (zU hv) k e) }
theorem Sta.below {base:Nat} {L:List (List Nat)} {vo:Value} {vals:List Value} {w w':World} (h:Sta base L vo vals w) (hb:Below w.heap.size w w'):Sta base L vo vals w':=h.move fun k hk _=>hb.block k hk
theorem ux:(Tryz.prog.info? 33).map (fun i=>(i.zero,i.size,i.bytes))=some (some (.slice none 0 0),1,24):=by kernel_rfl
theorem Sta.grow {base:Nat} {L:List (List Nat)} {vo:Value} {vals:List Value} {w:World} (h:Sta base L vo vals w) (hb:base<=w.heap.size) (hl:L.length<=1000000000) :
  ∃ (v':Value) (w2:World),cH Tryz.prog 40 40 40 vo (.slice (some ⟨w.heap.size,0,none⟩) 1 1) v' (w.alloc (.cells #[.slice none 0 0] 33)) w2/\(∃ a c,v'=.slice a (L.length+1) c)/\Sta base (L++[[]]) v' (vals++[.slice none 0 0]) w2/\Below base w w2:=by
 obtain ⟨v',w2,hap,hr2,hge2,hF2⟩:=i4 (t:=40) (by kernel_rfl) ux rfl (by decide) h.row (.slice none 0 0) rfl (by have:=h.len; omega)
 have hin:∀ v∈vals,∀ k,v.ownBlock=some k->vo.ownBlock≠some k:=fun v hv k hk e=>by
  obtain ⟨j,hj⟩:=List.getElem?_of_mem hv; obtain ⟨c1,h1⟩:=cE (h.inn j v hj) hk; obtain ⟨c2,h2⟩:=cE h.row e; exact cS h1 h2 (by simp [tyO]) rfl
 refine ⟨v',w2,hap,?_,⟨by rw [zQ]; exact hr2,by rw [zQ,zQ,h.len]; rfl,fun j v hv=>?_,fun i j u v k hi hj hu hv=>?_,fun k hk=>(hge2 k hk).elim (h.geo k) fun e=>zV hb e,fun v hv k hk=>?_⟩,hF2.to_below hb fun k hk e=>Nat.not_lt.2 (h.geo k e) hk⟩
 ·obtain ⟨a,c,e,-,-⟩:=bp hr2
  rw [h.len] at e; exact ⟨a,c,e⟩
 ·by_cases hj:j < vals.length
  ·rw [Aa hj] at hv
   have:=(h.inn j v hv).keep (w':=w2) fun k hk=>hF2.block k ((h.inn j v hv).lt hk) (hin v (zU hv) k hk)
   rw [zZ,Aa (by rw [← h.len]; exact hj),← zZ]; exact this
  ·rw [Ab (by omega)] at hv
   have hj2:j - vals.length=0:=by
    have:=(List.getElem?_eq_some_iff.1 hv).1; simp at this; omega
   rw [hj2] at hv; simp at hv; subst hv
   have:(L++[[]]).getD j []=[]:=by
    rw [zZ,Ab (by rw [← h.len]; omega)];(have e:j - L.length=0:=by rw [← h.len]; exact hj2);rw [e]; rfl
   rw [this]; exact ⟨rfl,Or.inl ⟨rfl,rfl⟩⟩
 ·have aux:∀ (i:Nat) (u:Value),(vals++[Value.slice none 0 0])[i]? = some u->u.ownBlock=some k->vals[i]? = some u:=fun i u hi hu=>by
   by_cases hlt:i < vals.length
   ·rwa [Aa hlt] at hi
   ·rw [Ab (by omega)] at hi
    have hj2:i - vals.length=0:=by
     have:=(List.getElem?_eq_some_iff.1 hi).1; simp at this; omega
    rw [hj2] at hi; simp at hi; subst hi; cases hu
  exact h.dis i j u v k (aux i u hi hu) (aux j v hj hv) hu hv
 ·rcases List.mem_append.1 hv with hv | hv
  ·exact h.gei v hv k hk
  ·simp at hv; subst hv; cases hk
theorem Sta.put {base:Nat} {L:List (List Nat)} {vo:Value} {vals:List Value} {w:World} (h:Sta base L vo vals w) (hb:base<=w.heap.size) {k i:Nat} (hk:k < L.length) (hl:(L.getD k []).length<=1000000000) (hL:L.length<=10000000000) :
  ∃ (g c:Nat) (ai:Option Addr) (ci:Nat) (v':Value) (w2:World),vo=.slice (some ⟨g,0,none⟩) L.length c/\w.cell? ⟨g,k,none⟩=some (.slice ai (L.getD k []).length ci)/\w2.frozen? ⟨g,k,none⟩=false/\(∃ u,w2.cell? ⟨g,k,none⟩=some u)/\g < w.heap.size /\
   cH Tryz.prog 33 33 33 (.slice ai (L.getD k []).length ci) (.slice (some ⟨w.heap.size,0,none⟩) 1 1) v' (w.alloc (.cells #[iv i] 3)) w2/\Sta base (L.modify k (·++[i])) vo (vals.set k v') (w2.setCell ⟨g,k,none⟩ v')/\Below base w (w2.setCell ⟨g,k,none⟩ v')/\(∃ a c,v'=.slice a ((L.getD k []).length+1) c):=by
 have hkv:k < vals.length:=by rw [h.len]; exact hk
 obtain ⟨vk,hvk⟩:∃ vk,vals[k]? = some vk:=⟨_,zR hkv⟩; have hI:=h.inn k vk hvk
 have hil:∀ l:List Nat,(bQ l).length=l.length:=fun l=>by simp
 have hI':w.ownsRow 0 3 1 vk (L.getD k []).length ((bQ (L.getD k [])).map iv):=by
  have h1:w.ownsRow 0 3 1 vk (bQ (L.getD k [])).length ((bQ (L.getD k [])).map iv):=hI; rw [hil] at h1; exact h1
 obtain ⟨ai,ci,hvk2,-,-⟩:=bp hI'; subst hvk2; obtain ⟨v',w2,hap,hr2,hge2,hF2⟩:=i4 (t:=33) Tryz.underlying33 gJ rfl (by decide) hI' (iv i) rfl (by omega); rcases h.row.2 with ⟨-,h0⟩ | ⟨g,c,cur,hvo,-,hg,hn,hm,hs,ht⟩
 ·omega
 ·have hvo':=hvo
  rw [h.len] at hvo'
  have hrow:w.ownsRow 0 33 1 (.slice (some ⟨g,0,none⟩) vals.length c) vals.length vals:=by rw [← hvo]; exact h.row
  have hc:=(ej hrow hvk).1
  have hgk:(Value.slice ai (L.getD k []).length ci).ownBlock≠some g:=fun e=>by
   obtain ⟨c1,h1⟩:=cE hI e; exact cS h1 hg (by simp [tyO]) rfl
  have hg2:w2.heap[g]? = some (.cells cur 33 (0,0)):=(hF2.block g (aL hg) hgk).trans hg
  have hrow2:w2.ownsRow 0 33 1 (.slice (some ⟨g,0,none⟩) vals.length c) vals.length vals:=aJ hrow (fun q hq=>by injection hq with hq; subst hq; exact hg2.trans hg.symm) fun _ _=>zW _
  have hc2:=ej hrow2 hvk; have hset:=oH hrow2 hkv v'; have hge:base<=g:=h.geo g (by rw [hvo]; rfl)
  have hv'g:∀ q,v'.ownBlock=some q->q≠g:=fun q hq e=>by
   obtain ⟨c1,h1⟩:=cE hr2 hq; exact cS h1 hg2 (by simp [tyO]) e
  refine ⟨g,c,ai,ci,v',w2,hvo',hc,hc2.2.1,⟨_,hc2.1⟩,aL hg,hap,⟨?_,by rw [List.length_set,List.length_modify]; exact h.len,fun j v hv=>?_,fun a b u v q ha hb2 hu hv=>?_,h.geo,fun v hv q hq=>?_⟩,?_,by obtain ⟨a,c,e,-,-⟩:=bp hr2; exact ⟨a,c,e⟩⟩
  ·rw [List.length_set,hvo]; exact hset
  ·rw [List.getElem?_set] at hv
   by_cases e:k=j
   ·subst e
    rw [if_pos rfl,if_pos hkv] at hv; injection hv with hv; subst hv
    have e1:(L.modify k (·++[i])).getD k []=L.getD k []++[i]:=by
     rw [zZ,List.getElem?_modify_eq,zR hk,zZ,zR hk]; rfl
    rw [e1];(have e2:bQ (L.getD k []++[i])=bQ (L.getD k [])++[(i:Int)]:=by simp)
    have h3:IO w2 (bQ (L.getD k []++[i])) v':=by
     show w2.ownsRow 0 _ 1 v' _ _; rw [e2,zQ,List.map_append,hil]; exact hr2
    exact h3.keep fun q hq=>ak _ (hv'g q hq)
   ·rw [if_neg e] at hv
    have e1:(L.modify k (·++[i])).getD j []=L.getD j []:=by
     rw [zZ,List.getElem?_modify,zZ]; simp [e]
    rw [e1]; have hIj:=h.inn j v hv;(refine hIj.keep fun q hq=>(ak _ fun e2=>?_).trans (hF2.block q (hIj.lt hq) fun e2=>e (h.dis k j _ v q hvk hv e2 hq)));obtain ⟨c1,h1⟩:=cE hIj hq; exact cS h1 hg (by simp [tyO]) e2
  ·have aux:∀ (a:Nat) (u:Value),(vals.set k v')[a]? = some u->u.ownBlock=some q->(a=k/\u=v')\/(a≠k/\vals[a]? = some u):=fun a u ha hu=>by
    rw [List.getElem?_set] at ha; by_cases e:k=a
    ·subst e
     rw [if_pos rfl,if_pos hkv] at ha; injection ha with ha; exact Or.inl ⟨rfl,ha.symm⟩
    ·rw [if_neg e] at ha
     exact Or.inr ⟨fun x=>e x.symm,ha⟩
   have old:∀ (a:Nat) (u:Value),a≠k->vals[a]? = some u->u.ownBlock=some q->v'.ownBlock≠some q:=fun a u ha hu hq e=>by
    rcases hge2 q e with e2 | e2
    ·exact ha (h.dis k a _ u q hvk hu e2 hq).symm
    ·have:=(h.inn a u hu).lt hq; omega
   rcases aux a u ha hu with ⟨rfl,rfl⟩ | ⟨h1,h2⟩
   ·rcases aux b v hb2 hv with ⟨rfl,-⟩ | ⟨h3,h4⟩
    ·rfl
    ·exact absurd hu (old b v h3 h4 hv)
   ·rcases aux b v hb2 hv with ⟨rfl,rfl⟩ | ⟨h3,h4⟩
    ·exact absurd hv (old a u h1 h2 hu)
    ·exact h.dis a b u v q h2 h4 hu hv
  ·rcases List.mem_or_eq_of_mem_set hv with hv | rfl
   ·exact h.gei v hv q hq
   ·exact (hge2 q hq).elim (h.gei _ (zU hvk) q) fun e=>zV hb e
  ·refine ((Fr.mono hF2 (T:=fun q=>base<=q) fun q _ e=>h.gei _ (zU hvk) q e).setCell (p:=⟨g,k,none⟩) (Or.inl hge) v').to_below hb fun q hq e=>Nat.not_lt.2 e hq
theorem Sta.sl {base:Nat} {L:List (List Nat)} {vo:Value} {vals:List Value} {w:World} (h:Sta base L vo vals w):SlR 1 mX (fun k=>base<=k) w L vo:=by
 rcases h.row.2 with ⟨e,h0⟩ | ⟨g,c,cur,hvo,-,hg,hn,hm,hs,ht⟩
 ·have:L=[]:=List.length_eq_zero_iff.1 (by rw [← h.len]; exact h0)
  subst this; rw [e]; exact SlR.nil _ _ _ _ _
 ·have hrow:w.ownsRow 0 33 1 (.slice (some ⟨g,0,none⟩) vals.length c) vals.length vals:=by rw [← hvo]; exact h.row
  have hge:base<=g:=h.geo g (by rw [hvo]; rfl); rw [hvo,h.len]; rw [h.len] at hn; refine ⟨some ⟨g,0,none⟩,c,g,0,fun i=>[vals.getD i undef],rfl,hn,fun _=>⟨rfl,hge,aL hg⟩,fun i hi j u hu=>?_,fun i x hx=>?_⟩
  ·have hj:j=0:=by
    have:=(List.getElem?_eq_some_iff.1 hu).1; simp at this; omega
   subst hj; simp at hu; subst hu; have hc:=(ej hrow (getD_some (d:=undef) (by rw [h.len]; exact hi))).1; simpa using hc
  ·have hi:=(List.getElem?_eq_some_iff.1 hx).1
   have hv:vals[i]? = some (vals.getD i undef):=getD_some (by rw [h.len]; exact hi); have h1:=wN (h.inn i _ hv)
   have e:L.getD i []=x:=by rw [zZ,hx]; rfl
   rw [e] at h1; exact ⟨_,rfl,h1.mono ep fun k _ hk=>h.gei _ (zU hv) k hk⟩
theorem ut {rs:List Rg} {lv:List UInt8->Nat} (h:dn rs=some lv) {r:Rg} (hr:r∈rs):lv r.head.rel < (dd (aI rs)).length:=by
 obtain ⟨h1,h2⟩:=kT h; obtain ⟨h3,h4⟩:=pD h1; exact Nat.lt_of_le_of_lt (h2 _ h3 _) (h4 r hr)
def li (q:Qg) (w:World) (e:Ending) (w':World):Prop :=
 Below w.heap.size w w'/\∃ v,e=.returned (.tuple #[v,iv (ce arF q (cI q).isSome).1])/\SlR 1 mX (fun k=>w.heap.size<=k) w' (ce arF q (cI q).isSome).2 v
theorem li.mk {q:Qg} {w w':World} (hb:Below w.heap.size w w') {x:Int} {L:List (List Nat)} {v:Value} (h:ce arF q (cI q).isSome=(x,L)) (hv:SlR 1 mX (fun k=>w.heap.size<=k) w' L v):li q w (.returned (.tuple #[v,iv x])) w':=⟨hb,v,by rw [h],by rw [h]; exact hv⟩
theorem li.bad {q:Qg} {w w':World} (hb:Below w.heap.size w w') {x:Int} (h:ce arF q (cI q).isSome=(x,[])):li q w (.returned (.tuple #[.slice none 0 0,iv x])) w':=.mk hb h (SlR.nil _ _ _ _ _)
theorem rQ (L:List (List Nat)) (k:Nat) (h:L.length<=k):fE (L++[[]]) k=fE L k:=by
 unfold fE; rw [zQ,Ad]
 congr 1
 rw [show k+1 - L.length=(k+1 - (L.length+[([]:List Nat)].length))+1 by simp; omega,List.replicate_succ]; rfl
theorem kI (q:Qg) (ra:Option Addr) (rc:Nat) (aa:Option Addr) (ac:Nat) (S:aP) (w:World) (h:QR q ra rc aa ac S w) (hq:Qsm q) (hTab:Tab w) :
  Calls Tryz.prog 14 #[x7 q ra rc aa ac] w (li q w):=by
 have hb0:Below w.heap.size w (w.alloc (.cells (aG (.slice ra q.rules.length rc) q.goal.op q.goal.nt q.goal.rel (.slice aa q.goal.args.length ac)) 32)):=(zN _ w).alloc (zM _) _; have hbn:=af w (.cells (aG (.slice ra q.rules.length rc) q.goal.op q.goal.nt q.goal.rel (.slice aa q.goal.args.length ac)) 32); obtain ⟨w0,hw0⟩:∃ w0,w0=w.alloc (.cells (aG (.slice ra q.rules.length rc) q.goal.op q.goal.nt q.goal.rel (.slice aa q.goal.args.length ac)) 32):=⟨_,rfl⟩; rw [← hw0] at hb0 hbn; have h0:=h.below hb0; have hri:=hid (xX q ra rc aa ac S w0 h0.rl h0.go h0.lo ((da.of hTab (zM w.heap.size)).below hb0).tab hq.bd); have hwl:=ae hbn; have hnr:=hq.nr; have hh:=hid h0; obtain ⟨rt,hrt⟩:∃ rt,rt=(cI q).isSome:=⟨_,rfl⟩; rw [← hrt] at hri
 replace hrt:=hid hrt; replace hw0:=hid hw0; replace hb0:=hid hb0; replace hbn:=hid hbn; clear h h0
 go_enter Tryz.func14,Tryz.ntmps14
 go_upto_region 1 with (fail)
 rw [← hw0.out]; obtain ⟨c0,c1,c2,c3,c4,-⟩:=cg hbn.out
 go_wp2_with fail
 with_reducible refine hri.out.mono ?_
 rintro e w1 ⟨rfl,hb1⟩; have hB1:=hid (hb0.out.trans (hb1.mono hb0.out.size)); have hk1:=an hb1 hbn.out hwl; have hQ1:=hh.out.below hb1; obtain ⟨d0,d1,d2,d3,d4,-⟩:=cg hk1; clear c0 c1 c2 c3 c4 hri hb1
 cases rt with
 | false =>
  have hbad:=hid (show ce arF q (cI q).isSome=(1,[]) from by rw [← hrt.out]; rfl)
  go_wp2_with fail
  go_ret2
  exact li.bad hB1.out hbad.out
 | true =>
  have hck:ce arF q (cI q).isSome=ce arF q true:=by rw [← hrt.out]
  have hna:=hid (uj q ra rc aa ac S w1 hQ1 hq); obtain ⟨nb,hnb⟩:∃ nb,nb=fA arF q:=⟨_,rfl⟩; rw [← hnb] at hna; replace hnb:=hid hnb; replace hck:=hid hck; replace hQ1:=hid hQ1; replace hk1:=hid hk1
  go_wp2_with fail
  with_reducible refine hna.out.mono ?_
  rintro e w2 ⟨rfl,hb2⟩; have hB2:=hid (hB1.out.trans (hb2.mono hB1.out.size)); have hk2:=hid (an hb2 hk1.out (ae hk1.out)); have hQ2:=hid (hQ1.out.below hb2); clear d0 d1 d2 d3 d4 hna hb2 hB1 hk1 hQ1 hh
  cases nb with
  | false =>
   have hbad:=hid (show ce arF q (cI q).isSome=(8,[]) from by rw [hck.out]; unfold ce; rw [if_neg (by simp),← hnb.out,if_pos rfl])
   go_wp2_with fail
   go_ret2
   exact li.bad hB2.out hbad.out
  | true =>
   obtain ⟨d0,d1,d2,d3,d4,-⟩:=cg hk2.out; clear d1 d2 d3 d4
   go_wp2_with fail
   go_loopg [23] q.rules.length (fun f v23 wr=>∃ (k:Nat),v23=iv k/\k+f=q.rules.length/\Hid (QR q ra rc aa ac S wr)/\Hid (wr.heap[w.heap.size]? = some (.cells (aG (.slice ra q.rules.length rc) q.goal.op q.goal.nt q.goal.rel (.slice aa q.goal.args.length ac)) 32 (0,0)))/\Hid (Below w.heap.size w wr)/\Hid (∀ r∈q.rules.take k,(ey r.head r.body).isSome=true))
   case atStart=>exact ⟨0,rfl,by omega,hQ2,hk2,hB2,hid fun r hr=>by simp at hr⟩
   case round =>
    obtain ⟨k,rfl,hkf,hQ,hk,hB,hall⟩:=hrel; clear d0 hQ2 hk2 hB2; by_cases hlt:k < q.rules.length
    ·have q1:decide ((k:Int) < (q.rules.length:Int))=true:=zP (by omega)
     (have q3:IntKind.i64.wrap ((k:Int)+1)=((k+1:Nat):Int):=by rw [zX]; omega);obtain ⟨r,hr⟩:∃ r,q.rules[k]? = some r:=⟨_,zR hlt⟩; have hrB:=hq.bd.1 r (zU hr); obtain ⟨g,o,cs,hidx,-,hg,hc,hrt2⟩:=hQ.out.rl.at (P:=Tryz.prog) (t:=30) (by kernel_rfl) (fun _=>by kernel_rfl) hr; obtain ⟨ha,hcap,ba,bc,rfl,hS1,hS2⟩:=hrt2; obtain ⟨e0,e1,e2,e3,e4,e5,e6⟩:=fW hc; have hb3:Below wr.heap.size wr (wr.alloc (.cells (aM r.head.op r.head.nt r.head.rel (.slice ha r.head.args.length hcap) r.agg r.at_ (.slice ba r.body.length bc)) 27)):=(zN _ wr).alloc (zM _) _; have hk3:=af wr (.cells (aM r.head.op r.head.nt r.head.rel (.slice ha r.head.args.length hcap) r.agg r.at_ (.slice ba r.body.length bc)) 27);obtain ⟨W3,hW3⟩:∃ W3,W3=wr.alloc (.cells (aM r.head.op r.head.nt r.head.rel (.slice ha r.head.args.length hcap) r.agg r.at_ (.slice ba r.body.length bc)) 27):=⟨_,rfl⟩; rw [← hW3] at hb3 hk3; have hor:=hid (nN r ha hcap ba bc S W3 (hS1.below bZ hb3) (hS2.below eA hb3) (fun k hk=>zS (hQ.out.lo k hk) hb3.size) hrB.sml (by have:=hrB.1.2.1; omega) (fun t ht=>by have:=hrB.1.2.2 t ht; omega)); have hQ3:=hid (hQ.out.below hb3); have hk4:=hid (an hb3 hk.out (ae hk.out)); have hB3:=hid (hB.out.trans (hb3.mono hB.out.size)); obtain ⟨v0,v1,v2,v3,v4,v5,v6,-⟩:=eg hk3; replace hW3:=hid hW3; clear hc hb3 hk3 hS1 hS2;(go_upto_region 8 with (fail));rw [← hW3.out]; clear e0 e1 e2 e3 e4 e5 e6;go_wp2_with fail;(with_reducible refine hor.out.mono ?_);(rintro e w5 ⟨hb5,hres⟩; have hQ5:=hid (hQ3.out.below hb5); have hk5:=hid (an hb5 hk4.out (ae hk4.out)); have hB5:=hid (hB3.out.trans (hb5.mono hB3.out.size)); clear hb5 v0 v1 v2 v3 v4 v5 v6 hor; rcases ho:ey r.head r.body with _ | l)
     ·rw [ho] at hres
      replace hres:e=.returned (.tuple #[.slice none 0 0,.bool false]):=hres; subst hres
      have hbad:=hid (show ce arF q (cI q).isSome=(18,[]) from by
       rw [hck.out]; unfold ce; rw [if_neg (by simp),← hnb.out,if_neg (by simp),if_pos]; rw [Bool.eq_false_iff]; intro h9; rw [List.all_eq_true] at h9; have:=h9 r (zU hr)
       rw [ho] at this; cases this)
      replace ho:=hid ho;go_wp2_with fail;go_ret2;exact li.bad hB5.out hbad.out
     ·rw [ho] at hres
      obtain ⟨v,rfl,-,-⟩:=hres
      have hall2:=hid (show ∀ r∈q.rules.take (k+1),(ey r.head r.body).isSome=true from fun s hs=>by
       rw [List.take_add_one,hr] at hs; rcases List.mem_append.1 hs with hs | hs
       ·exact hall.out s hs
       ·simp at hs; subst hs; rw [ho]; rfl)
      replace ho:=hid ho;go_wp2_with fail
      go_roundg (q.rules.length - (k+1))
      case measure=>omega
      case rel=>exact ⟨k+1,rfl,by omega,hQ5,hk5,hB5,hall2⟩
    ·have q1:decide ((k:Int) < (q.rules.length:Int))=false:=zO (by omega)
     have hsafe:=hid (show (q.rules.all fun r=>(ey r.head r.body).isSome)=true from by
      rw [List.all_eq_true]; intro r hr
      exact hall.out r (by rw [List.take_of_length_le (by omega)]; exact hr))
     have hle:=hid (rV q ra rc aa ac S wr hQ.out hq); obtain ⟨d0,d1,d2,d3,d4,-⟩:=cg hk.out; clear hall;go_wp2_with fail;(with_reducible refine hle.out.mono ?_);(rintro e w6 ⟨hb6,hres⟩; have hQ6:=hid (hQ.out.below hb6); have hk6:=hid (an hb6 hk.out (ae hk.out)); have hB6:=hid (hB.out.trans (hb6.mono hB.out.size)); clear hb6 d0 d1 d2 d3 d4 hle; rcases hl:dn q.rules with _ | lv)
     ·rw [hl] at hres
      replace hres:e=.returned (.tuple #[.map none,.bool false]):=hres; subst hres
      have hbad:=hid (show ce arF q (cI q).isSome=(19,[]) from by
       rw [hck.out]; unfold ce
       rw [if_neg (by simp),← hnb.out,if_neg (by simp),if_neg (by rw [hsafe.out]; simp),hl])
      replace hl:=hid hl;go_wp2_with fail;go_ret2;exact li.bad hB6.out hbad.out
     ·rw [hl] at hres
      obtain ⟨mb,m,rfl,hmap,hmge⟩:=hres
      have hgood:=hid (show ce arF q (cI q).isSome=(0,cD q.rules lv) from by
       rw [hck.out]; unfold ce
       rw [if_neg (by simp),← hnb.out,if_neg (by simp),if_neg (by rw [hsafe.out]; simp),hl])
      have hdl:(dd (aI q.rules)).length<=1048576:=by
       have h1:∀ l:List (List UInt8),(dd l).length<=l.length:=by
        intro l
        induction l with
        | nil=>exact zM _
        | cons a l ih =>
         unfold dd; split
         ·exact Nat.le_succ_of_le ih
         ·simp only [zT]; omega
       have:=h1 (aI q.rules);(have h2:(aI q.rules).length=q.rules.length:=by unfold aI; rw [zY]);omega
      have hlvb:=hid (fun (r:Rg) (hr:r∈q.rules)=>(by have:=ut hl hr; omega:lv r.head.rel<=1048576)); replace hl:=hid hl; replace hmap:=hid hmap; obtain ⟨d0,-⟩:=cg hk6.out; have hmge':w.heap.size<=mb:=zV hB.out.size hmge; clear hQ hk hB hsafe hdl;have hmbl:=hmap.out.lt;(obtain ⟨fF,hfF⟩:∃ f,f=fun k=>lv (jc q.rules k):=⟨_,rfl⟩)
      have hfk:=hid (show ∀ k r,q.rules[k]? = some r->fF k=lv r.head.rel from fun k r hr=>by
       have hlt:=(List.getElem?_eq_some_iff.1 hr).1; rw [hfF]; show lv (jc q.rules k)=_; rw [iE hlt]; rw [zR hlt] at hr; injection hr with hr
       rw [hr])
      have hLn:=hid (show ∀ k,k<=q.rules.length->(bO fF k).length<=1048577 from fun k hk=>by
       (refine Nat.le_of_not_lt fun hc=>?_);obtain ⟨j,hj,hv⟩:=gS fF k 1048577 hc;(have hjl:j < q.rules.length:=by omega);have h1:=hfk.out j _ (zR hjl); have h2:=hlvb.out _ (List.getElem_mem hjl)
       omega)
      replace hgood:=hid (show ce arF q (cI q).isSome=(0,bO fF q.rules.length) from by rw [hgood.out,hfF]; rfl); replace hfF:=hid hfF; have hS0:=hid (show Sta w6.heap.size (bO fF 0) (.slice none 0 0) [] w6 from ⟨⟨rfl,Or.inl ⟨rfl,rfl⟩⟩,rfl,fun j v hv=>(by cases hv),fun i j u v k hi=>(by cases hi),fun k hk=>(by cases hk),fun v hv=>(by cases hv)⟩)
      go_wp2_with fail
      go_loopg [10,45] q.rules.length (fun f v10 v45 wr=>∃ (k:Nat) (a:Option Addr) (c:Nat) (vals:List Value),v10=.slice a (bO fF k).length c/\v45=iv k/\k+f=q.rules.length/\Hid (Sta w6.heap.size (bO fF k) (.slice a (bO fF k).length c) vals wr)/\Hid (Below w6.heap.size w6 wr))
      case atStart=>exact ⟨0,none,0,[],rfl,rfl,by omega,hS0,hid (zN _ _)⟩
      case round =>
       obtain ⟨k,a,c,vals,rfl,rfl,hkf,hS,hB⟩:=hrel; clear d0 hS0; have hQ:=hid (hQ6.out.below hB.out); by_cases hlt:k < q.rules.length
       ·have q1:decide ((k:Int) < (q.rules.length:Int))=true:=zP (by omega)
        (have q3:IntKind.i64.wrap ((k:Int)+1)=((k+1:Nat):Int):=by rw [zX]; omega);obtain ⟨r,hr⟩:∃ r,q.rules[k]? = some r:=⟨_,zR hlt⟩; have hrB:=hq.bd.1 r (zU hr); obtain ⟨g,o,cs,hidx,-,hg,hc,hrt2⟩:=hQ.out.rl.at (P:=Tryz.prog) (t:=30) (by kernel_rfl) (fun _=>by kernel_rfl) hr; obtain ⟨ha,hcap,ba,bc,rfl,hS1,hS2⟩:=hrt2; obtain ⟨e0,e1,e2,e3,e4,e5,e6⟩:=fW hc; have hb3:Below wr.heap.size wr (wr.alloc (.cells (aM r.head.op r.head.nt r.head.rel (.slice ha r.head.args.length hcap) r.agg r.at_ (.slice ba r.body.length bc)) 27)):=(zN _ wr).alloc (zM _) _; have hk3:=af wr (.cells (aM r.head.op r.head.nt r.head.rel (.slice ha r.head.args.length hcap) r.agg r.at_ (.slice ba r.body.length bc)) 27);obtain ⟨W3,hW3⟩:∃ W3,W3=wr.alloc (.cells (aM r.head.op r.head.nt r.head.rel (.slice ha r.head.args.length hcap) r.agg r.at_ (.slice ba r.body.length bc)) 27):=⟨_,rfl⟩; rw [← hW3] at hb3 hk3; have hrm:r.head.rel∈aI q.rules:=List.mem_map.2 ⟨r,zU hr,rfl⟩; have hS3:=hid (hS.out.below hb3); have hB3:=hid (hB.out.trans (hb3.mono hB.out.size)); obtain ⟨v0,v1,v2,v3,v4,v5,v6,-⟩:=eg hk3; have hm3:=hmap.out.below hB3.out hmbl
        have hlk:(Instr.lookup 83 (.map (some mb)) (sv r.head.rel) false).run Tryz.prog W3=.ok (iv (lv r.head.rel:Nat)) W3:=by
         rw [hm3.look (Maps.string_keyed Tryz.underlying9) (t:=83) (e:=3) Tryz.underlying83 (z:=iv 0) (by kernel_rfl) (bH r.head.rel (by have:=hrB.1.1; omega)) trivial]; unfold lvF; simp [hrm]
        have hkk:=hlvb.out r (zU hr); have hfr:=hfk.out k r hr; obtain ⟨kk,hkk2⟩:∃ kk,kk=lv r.head.rel:=⟨_,rfl⟩; rw [← hkk2] at hlk hkk hfr; have hL0:=hLn.out k (by omega)
        have hgl:∀ n,((bO fF k).getD n []).length<=1048576:=fun n=>by
         rw [gi]; exact zV (List.length_filter_le _ _) (by rw [List.length_range]; omega)
        have hnext:bO fF (k+1)=qT (bO fF k) kk k:=by
         show qT (bO fF k) (fF k) k=_; rw [hfr]
        obtain ⟨L0,hL0e⟩:∃ L,L=bO fF k:=⟨_,rfl⟩; rw [← hL0e] at hS3 hL0 hgl hnext; replace hL0e:=hid hL0e; replace hgl:=hid hgl; replace hnext:=hid hnext; replace hfr:=hid hfr; replace hkk2:=hid hkk2; replace hW3:=hid hW3; clear hc hb3 hk3 hS1 hS2 hm3 hS;(go_upto_region 19 with (fail));rw [← hW3.out,← hL0e.out]; clear e0 e1 e2 e3 e4 e5 e6;go_wp2_with fail
        go_loopg [10] (kk+1 - L0.length) (fun f v10 wr2=>∃ (L:List (List Nat)) (a:Option Addr) (c:Nat) (vals:List Value),v10=.slice a L.length c/\kk+1 - L.length=f/\L.length<=1048577/\Hid (fE L kk=fE L0 kk)/\Hid (Sta w6.heap.size L (.slice a L.length c) vals wr2)/\Hid (Below w6.heap.size w6 wr2))
        case atStart=>exact ⟨L0,a,c,vals,rfl,rfl,hL0,hid rfl,hS3,hB3⟩
        case round =>
         obtain ⟨L,a,c,vals,rfl,hf,hLl,hlong,hS4,hB4⟩:=hrel; clear hS3 hB3 hlk v0 v1 v2 v3 v4 v5 v6 hidx hg; by_cases hle:L.length<=kk
         ·have q5:decide ((L.length:Int)<=(kk:Int))=true:=zP (by omega)
          obtain ⟨v',w8,hap,⟨a',c',rfl⟩,hS8,hB8⟩:=hS4.out.grow hB4.out.size (by omega); have hlong2:=hid (show fE (L++[[]]) kk=fE L0 kk from (rQ L kk hle).trans hlong.out);(have hll:(L++[[]]:List (List Nat)).length=L.length+1:=by simp);have hS9:=hid (show Sta w6.heap.size (L++[[]]) (.slice a' (L++[[]]:List (List Nat)).length c') (vals++[.slice none 0 0]) w8 from by rw [hll]; exact hS8); have hB9:=hid (hB4.out.trans hB8); obtain ⟨M,hM⟩:∃ M,M=L++[([]:List Nat)]:=⟨_,rfl⟩; rw [← hM] at hll hlong2 hS9; rw [← hll] at hap; replace hap:=hid hap; replace hM:=hid hM; have hll2:=hid hll; clear hS8 hB8 hll;go_wp2_with (at_builtin; refine aU rfl (.tmp 59) (.tmp 60) rfl rfl rfl hap.out ?_)
          go_roundg (kk+1 - M.length)
          case measure=>have:=hll2.out; omega
          case rel=>exact ⟨M,a',c',_,rfl,rfl,by have:=hll2.out; omega,hlong2,hS9,hB9⟩
         ·have q5:decide ((L.length:Int)<=(kk:Int))=false:=zO (by omega)
          have hLe:L=fE L0 kk:=by
           rw [← hlong.out]; unfold fE; rw [show kk+1 - L.length=0 by omega]; simp
          (have hLk:L.getD kk []=L0.getD kk []:=by rw [hLe,nX]);obtain ⟨g,c2,ai,ci,v',w8,hvo,hcell,hfz,⟨u,hu⟩,hgl8,hap,hS8,hB8,hvs⟩:=hS4.out.put hB4.out.size (k:=kk) (i:=k) (by omega) (by rw [hLk]; have:=hgl.out kk; omega) (by omega); simp only [Value.slice.injEq] at hvo; obtain ⟨rfl,-,rfl⟩:=hvo; have hq1:=gZ (P:=Tryz.prog) (t:=40) (g:=g) (cap:=c) (show kk < L.length by omega) (by kernel_rfl) (fun _=>by kernel_rfl)
          have hmod:L.modify kk (·++[k])=bO fF (k+1):=by
           rw [hnext.out,hLe]; rfl
          rw [hmod] at hS8;(have hml:(bO fF (k+1)).length=L.length:=by rw [← hmod,List.length_modify]);have hS9:=hid (show Sta w6.heap.size (bO fF (k+1)) (.slice (some ⟨g,0,none⟩) (bO fF (k+1)).length c) _ (w8.setCell ⟨g,kk,none⟩ v') from by rw [hml]; exact hS8); have hB9:=hid (hB4.out.trans hB8); obtain ⟨ln,hln⟩:∃ n,n=(L.getD kk []).length:=⟨_,rfl⟩; rw [← hln] at hcell hap hvs; obtain ⟨a9,c9,hv9⟩:=hvs; subst hv9; replace hap:=hid hap; replace hln:=hid hln; replace hLe:=hid hLe; replace hLk:=hid hLk; replace hmod:=hid hmod; replace hml:=hid hml; clear hS8 hB8 hS4;go_wp2_with (at_builtin; refine aU rfl (.tmp 67) (.tmp 69) rfl rfl rfl hap.out ?_)
          go_roundg (q.rules.length - (k+1))
          case measure=>omega
          case rel=>exact ⟨k+1,some ⟨g,0,none⟩,c,_,by rw [hml.out],rfl,by omega,hS9,hB9⟩
       ·have q1:decide ((k:Int) < (q.rules.length:Int))=false:=zO (by omega)
        have hk:=hid (show k=q.rules.length by omega); have hfinB:=hid (hB6.out.trans (hB.out.mono hB6.out.size)); have hsl:=hid (hS.out.sl.mono bF (T:=fun b=>w.heap.size<=b) fun b _ hb=>zV hB6.out.size hb);go_wp2_with fail;go_ret2;exact li.mk hfinB.out (by rw [hgood.out,hk.out]) hsl.out
end Go.Proofs.YtffdpoifdahadaaGreatDoor
