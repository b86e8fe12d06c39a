/- ask: number. -/
import Derived.Test.YtffdpoifdahadaaGreatDoorAskT
set_option linter.unusedVariables false
set_option linter.unusedSimpArgs false
set_option maxHeartbeats 40000000
set_option maxRecDepth 100000
namespace Go.Proofs.YtffdpoifdahadaaGreatDoor
open Go.RowKit
open Go.Lib (hid itoa)
def nk (B : Nat) (w : World) : Prop := ∃ g cs t f, Tryz.prog.globalNamed "internal/strconv.uint64pow10" = some g /\ g < B /\ w.heap[g]? = some (.cells cs t f) /\ cs = (Lib.pow10Tab.map fun z => Value.int .u64 z).toArray
theorem nk.tab {B:Nat} {w:World} (h:nk B w):Tab w:=by
 obtain ⟨g,cs,t,f,h1,h2,h3,h4⟩:=h; exact da.tab (pb:=B) ⟨g,cs,t,f,h1,by omega,h3,h4⟩
theorem nk.fr {B:Nat} {w w':World} {S:aP} (h:nk B w) (hf:Fr S w w') (hS:∀ k,S k->B<=k):nk B w':=by
 obtain ⟨g,cs,t,f,h1,h2,h3,h4⟩:=h; exact ⟨g,cs,t,f,h1,h2,(hf.block g (aL h3) (fun e=>by have:=hS g e; omega)).trans h3,h4⟩
def fp:Nat->List (Option Nat × Lt)->List (Option Nat × Lt)
 | _,[]=>[]
 | n,x::l=>(x.1,⟨x.2.op,x.2.nt,x.2.rel,cj n x.2.args⟩)::fp (n+cB x.2.args) l
theorem pP:∀ (n:Nat) (l:List (Option Nat × Lt)),(fp n l).map (·.2)=g7 n (l.map (·.2))
 | _,[]=>rfl
 | n,x::l=>by show _::(fp _ l).map (·.2)=_::g7 _ (l.map (·.2)); rw [pP]
theorem mi:∀ (n:Nat) (l:List (Option Nat × Lt)),ct (fp n l)=ct l
 | _,[]=>rfl
 | n,x::l=>by
  show ((x.1,_)::fp _ l).filterMap _=(x::l).filterMap _; rw [List.filterMap_cons,List.filterMap_cons]; have:=mi (n+cB x.2.args) l; unfold ct at this; rw [this]
theorem tI {S:aP} {w:World} {l:List Tm} {g n c j:Nat} {t:Tm} (h:aO 63 7 FlR S w l (.slice (some ⟨g,0,none⟩) n c)) (hj:l[j]? = some t) (s:List UInt8) :
  aO 63 7 FlR S (w.setCell ⟨g,j * 7,none⟩ (sv s)) (l.set j ⟨s,t.val⟩) (.slice (some ⟨g,0,none⟩) n c):=by
 obtain ⟨xs,h1,h2,h3⟩:=h; obtain ⟨a0,c0,e,_,_⟩:=bp h1; simp only [Value.slice.injEq] at e; obtain ⟨-,rfl,-⟩:=e; have hjl:=(List.getElem?_eq_some_iff.1 hj).1; have h4:=(h1.stored (j * 7) (sv s)).1; refine ⟨xs.set (j * 7) (sv s),by rw [List.length_set]; exact h4,h2,fun i x hx=>⟨(aB x).toList,fun q u hu=>?_,rfl⟩⟩; have hq:q < 7:=(List.getElem?_eq_some_iff.1 hu).1; have hxl:=h1.1; by_cases e:i=j
 ·subst e
  rw [List.getElem?_set_self hjl] at hx; injection hx with hx; subst hx; obtain ⟨cs,k1,k2⟩:=h3 i t hj; have k2':cs=(aB t).toList:=k2; subst k2'; by_cases e0:q=0
  ·subst e0
   rw [Nat.add_zero,List.getElem?_set_self (by omega)]; simpa using hu
  ·rw [List.getElem?_set_ne (by omega)]
   refine k1 q u ?_
   match q,hq,e0,hu with
   | 1,_,_,hu=>simpa using hu
   | 2,_,_,hu=>simpa using hu
   | 3,_,_,hu=>simpa using hu
   | 4,_,_,hu=>simpa using hu
   | 5,_,_,hu=>simpa using hu
   | 6,_,_,hu=>simpa using hu
   | q+7,hq,_,_=>exact absurd hq (by omega)
 ·rw [List.getElem?_set_ne (fun e2=>e e2.symm)] at hx
  obtain ⟨cs,k1,k2⟩:=h3 i x hx; have k2':cs=(aB x).toList:=k2; subst k2'; rw [List.getElem?_set_ne ?_]
  ·exact k1 q u hu
  ·rcases Nat.lt_or_gt_of_ne e with h | h
   ·have:i * 7+7<=j * 7:=by rw [← Nat.succ_mul]; exact Ak _ h
    omega
   ·have:j * 7+7<=i * 7:=by rw [← Nat.succ_mul]; exact Ak _ h
    omega
theorem wI {S:aP} {w:World} {A R:List (Option Nat × Lt)} {o:Option Nat} {op:Int} {nt:Bool} {rel:List UInt8} {ta tb:List Tm} {t:Tm} {v:Value} (h:aO 24 4 LdR S w (A++(o,⟨op,nt,rel,ta++t::tb⟩)::R) v) (hn:(ct (A++(o,⟨op,nt,rel,ta++t::tb⟩)::R)).Nodup) :
  ∃ g c,o=some g/\S g/\g < w.heap.size/\(∃ gb,v.ownBlock=some gb/\gb≠g/\w.cell? ⟨gb,A.length * 4+3,none⟩=some (.slice (some ⟨g,0,none⟩) (ta.length+(tb.length+1)) c))/\w.cell? ⟨g,ta.length * 7,none⟩=some (sv t.var)/\w.frozen? ⟨g,ta.length * 7,none⟩=false /\
   ∀ s,aO 24 4 LdR S (w.setCell ⟨g,ta.length * 7,none⟩ (sv s)) (A++(o,⟨op,nt,rel,(ta++[⟨s,t.val⟩])++tb⟩)::R) v:=by
 obtain ⟨xs,h1,h2,h3⟩:=h; obtain ⟨cs,k1,v1,rfl,ho,hw⟩:=h3 A.length _ (by rw [Ab (zM _),Nat.sub_self]; rfl); replace hw:aO 63 7 FlR (fun k=>S k/\v.ownBlock≠some k) w (ta++t::tb) v1:=hw; replace ho:v1.ownBlock=o:=ho; have hw0:=hw; obtain ⟨ys,g1,g2,g3⟩:=hw; rcases g1.2 with ⟨rfl,h0⟩ | ⟨g,cap,cur,rfl,_,hg,hnc,_,_,_⟩
 ·simp at h0
 ·have hog:o=some g:=ho.symm
  subst hog; have hgS:=g2 g rfl; rcases h1.2 with ⟨rfl,h0⟩ | ⟨gb,capb,curb,rfl,_,hgb,_,_,_,_⟩
  ·simp at h0
  ·have hne:gb≠g:=fun e=>hgS.2 (by rw [e]; rfl)
   have htl:(ta++t::tb).length=ta.length+(tb.length+1):=by simp
   have hAl:A.length < (A++(some g,(⟨op,nt,rel,ta++t::tb⟩:Lt))::R).length:=by simp
   refine ⟨g,cap,rfl,hgS.1,ae hg,⟨gb,rfl,hne,?_⟩,?_,bX hg,fun s=>?_⟩
   ·have hlt:A.length * 4+3 < (A++(some g,(⟨op,nt,rel,ta++t::tb⟩:Lt))::R).length * 4:=by omega
    rw [h1.cellAt _ hlt]; have:=k1 3 _ rfl; rw [this,htl]
   ·have hlt:ta.length * 7 < (ta++t::tb).length * 7:=by rw [htl]; omega
    rw [g1.cellAt _ hlt]; obtain ⟨cs,k2,k3⟩:=g3 ta.length t (by rw [Ab (zM _),Nat.sub_self]; rfl); have k3':cs=(aB t).toList:=k3; subst k3'; have:=k2 0 _ rfl; rw [Nat.add_zero] at this; exact this
   ·have hset:=tI hw0 (j:=ta.length) (t:=t) (by rw [Ab (zM _),Nat.sub_self]; rfl) s
    (have e1:(ta++t::tb).set ta.length ⟨s,t.val⟩=(ta++[⟨s,t.val⟩])++tb:=by simp);rw [e1] at hset;(have hoth:∀ k,k≠g->(w.setCell ⟨g,ta.length * 7,none⟩ (sv s)).heap[k]? = w.heap[k]?:=fun k hk=>ak _ hk);(have hlen:(A++(some g,(⟨op,nt,rel,(ta++[⟨s,t.val⟩])++tb⟩:Lt))::R).length=(A++(some g,(⟨op,nt,rel,ta++t::tb⟩:Lt))::R).length:=by simp);refine ⟨xs,by rw [hlen]; exact aJ h1 (fun k hk=>hoth k (fun e=>hne (by have h9:gb=k:=(by simpa [Value.ownBlock] using hk); omega))) (fun _ _=>zW _),h2,fun i x hx=>?_⟩; by_cases e:i=A.length
    ·subst e
     rw [Ab (zM _),Nat.sub_self] at hx; injection hx with hx; subst hx; refine ⟨_,k1,?_⟩; exact (show ∃ v:Value,_ from ⟨.slice (some ⟨g,0,none⟩) (ta++t::tb).length cap,rfl,rfl,hset⟩)
    ·have hx2:(A++(some g,(⟨op,nt,rel,ta++t::tb⟩:Lt))::R)[i]? = some x:=by
      rcases Nat.lt_or_gt_of_ne e with h | h
      ·rw [Aa h] at hx ⊢; exact hx
      ·rw [Ab (by omega)] at hx ⊢
       obtain ⟨m,hm⟩:∃ m,i - A.length=m+1:=⟨i - A.length - 1,by omega⟩; rw [hm] at hx ⊢; exact hx
     obtain ⟨ds,q1,q2⟩:=h3 i x hx2; refine ⟨ds,q1,df.move (p9 q2) fun k hk hk2=>⟨hk2.1,hoth k (fun ek=>?_)⟩⟩; subst ek;(have hxk:=hk2.2; have hi:=(List.getElem?_eq_some_iff.1 hx2).1; unfold ct at hn; rw [List.filterMap_append,List.filterMap_cons,List.nodup_append] at hn; rcases Nat.lt_or_gt_of_ne e with h | h)
     ·rw [Aa h] at hx2
      exact hn.2.2 k (List.mem_filterMap.2 ⟨x,zU hx2,hxk⟩) k (by simp) rfl
     ·rw [Ab (by omega)] at hx2
      obtain ⟨m,hm⟩:∃ m,i - A.length=m+1:=⟨i - A.length - 1,by omega⟩; rw [hm] at hx2; have hmem:k∈R.filterMap (·.1):=List.mem_filterMap.2 ⟨x,zU (show R[m]? = some x from hx2),hxk⟩; have:=hn.2.1; simp only [List.nodup_cons] at this; exact this.1 hmem
theorem wH {S:aP} {w:World} {A R:List (Option Nat × Lt)} {x:Option Nat × Lt} {a:Option Addr} {n c:Nat} (h:aO 24 4 LdR S w (A++x::R) (.slice a n c)) :
  ∃ gb aa ca,a=some ⟨gb,0,none⟩/\gb < w.heap.size/\w.cell? ⟨gb,A.length * 4,none⟩=some (iv x.2.op)/\w.cell? ⟨gb,A.length * 4+1,none⟩=some (.bool x.2.nt)/\w.cell? ⟨gb,A.length * 4+2,none⟩=some (sv x.2.rel)/\w.cell? ⟨gb,A.length * 4+3,none⟩=some (.slice aa x.2.args.length ca):=by
 obtain ⟨xs,h1,h2,h3⟩:=h; obtain ⟨cs,k1,v1,rfl,ho,hw⟩:=h3 A.length x (by rw [Ab (zM _),Nat.sub_self]; rfl); obtain ⟨aa,ca,rfl,-⟩:=hw.slice; rcases h1.2 with ⟨e,h0⟩ | ⟨gb,capb,curb,e,_,hgb,_,_,_,_⟩
 ·simp at h0
 ·injection e with e1 e2 e3
  subst e1
  have hlen:(A++x::R).length=A.length+R.length+1:=by simp; omega
  have hx:∀ j u,(ap x.2.op x.2.nt x.2.rel (.slice aa x.2.args.length ca)).toList[j]? = some u->w.cell? ⟨gb,A.length * 4+j,none⟩=some u:=by
   intro j u hu; have hj:j < 4:=(List.getElem?_eq_some_iff.1 hu).1
   have hlt:A.length * 4+j < (A++x::R).length * 4:=by rw [hlen]; omega
   subst e2; rw [h1.cellAt _ hlt]; exact k1 j u hu
  exact ⟨gb,aa,ca,rfl,ae hgb,hx 0 _ rfl,hx 1 _ rfl,hx 2 _ rfl,hx 3 _ rfl⟩
def oz (l:List (Option Nat × Lt)):Nat:=(l.map fun x=>x.2.args.length).sum
structure qZ (B:Nat) (w:World) (ids:List Nat) (l:List (Option Nat × Lt)) (v:Value) (wr:World):Prop where
 own:aO 24 4 LdR (aF B) wr l v
 nd:(ct l).Nodup
 idq:ct l=ids
 fr:Fr (fun q=>q∈ids\/w.heap.size<=q) w wr
 tab:nk B wr
theorem qZ.below {B:Nat} {w wr wr':World} {ids:List Nat} {l:List (Option Nat × Lt)} {v:Value} (h:qZ B w ids l v wr) (hb:Below wr.heap.size wr wr'):qZ B w ids l v wr' :=
 ⟨h.own.below df hb,h.nd,h.idq,h.fr.trans' (Fr.of_below hb nS) (fun _ x=>x) (fun _ _ x=>x.elim),h.tab.fr (Fr.of_below hb nS) (fun _ x=>x.elim)⟩
theorem mg (B:Nat) (xs:List (Option Nat × Lt)) (v:Value) (w:World) (h:aO 24 4 LdR (aF B) w xs v) (hn:(ct xs).Nodup) (hT:nk B w) (hs:oz xs<=4611686018427387904) (hl:xs.length<=1048576) (hls:∀ x∈xs,x.2.args.length<=1048576) :
  Calls Tryz.prog 62 #[v] w fun e w'=>e=.returned (.tuple #[])/\aO 24 4 LdR (aF B) w' (fp 0 xs) v/\Fr (fun q=>q∈ct xs\/w.heap.size<=q) w w':=by
 obtain ⟨RES,hRES⟩:∃ RES,RES=fp 0 xs:=⟨_,rfl⟩; rw [← hRES]; have hM0:=hid (show qZ B w (ct xs) xs v w from ⟨h,hn,rfl,Fr.refl _ _,hT⟩); obtain ⟨a,c,rfl,-⟩:=h.slice; have hidlt:=hid (fun k (hk:k∈ct xs)=>(oN h k hk).2); replace hRES:=hid hRES; clear h hn hT
 go_enter Tryz.func62,Tryz.ntmps62
 go_wp2_with fail
 go_loopg [2,8] xs.length (fun g z i wr=>∃ (A R:List (Option Nat × Lt)) (n:Nat),z=iv n/\i=iv A.length/\R.length=g/\A.length+R.length=xs.length/\n+oz R<=4611686018427387904/\(∀ x∈R,x.2.args.length<=1048576)/\Hid (A++fp n R=RES)/\Hid (qZ B w (ct xs) (A++R) (.slice a xs.length c) wr))
 case atStart=>exact ⟨[],xs,0,rfl,rfl,rfl,by simp,by omega,hls,hid hRES.out.symm,hM0⟩
 case round =>
  obtain ⟨A,R,n,rfl,rfl,hg,hAR,hsum,hlr,hE,hM⟩:=hrel; clear hM0
  cases R with
  | nil =>
   have q1:decide (A.length < xs.length)=false:=zO (by simp at hAR; omega)
   have q1i:¬ A.length < xs.length:=by simp at hAR; omega
   replace hE:=hid (show A=RES from by have:=hE.out; simpa [fp] using this)
   go_wp2_with fail
   go_end0
   exact ⟨rfl,by rw [← hE.out]; simpa using hM.out.own,hM.out.fr⟩
  | cons x R =>
   have q1:decide (A.length < xs.length)=true:=zP (by simp at hAR; omega)
   have q1i:A.length < xs.length:=by simp at hAR; omega
   have hxs:(A++x::R).length=xs.length:=by simpa using hAR
   obtain ⟨gb,aa,ca,rfl,hgb,c0,c1,c2,c3⟩:=wH hM.out.own; obtain ⟨o,⟨op,nt,rel,args⟩⟩:=x; replace c0:wr.cell? ⟨gb,A.length * 4,none⟩=some (iv op):=c0; replace c1:wr.cell? ⟨gb,A.length * 4+1,none⟩=some (.bool nt):=c1; replace c2:wr.cell? ⟨gb,A.length * 4+2,none⟩=some (sv rel):=c2; replace c3:wr.cell? ⟨gb,A.length * 4+3,none⟩=some (.slice aa args.length ca):=c3
   have hidx:∀ kd W,(Instr.indexAt 25 (.slice (some ⟨gb,0,none⟩) xs.length c) (.int kd (A.length:Int))).run Tryz.prog W=.ok (.pointer (some ⟨gb,A.length * 4,none⟩)) W:=fun kd W=>by
    have:=gm (P:=Tryz.prog) (t:=25) (sz:=4) (a:=some ⟨gb,0,none⟩) (b:=gb) (off:=0) (by kernel_rfl) (fun _=>by kernel_rfl) rfl xs.length c A.length q1i kd W; rw [Nat.zero_add] at this; exact this
   have hM1:=hid (hM.out.below ((zN _ wr).alloc (zM _) (.cells (ap op nt rel (.slice aa args.length ca)) 24))); have hrC:=af wr (.cells (ap op nt rel (.slice aa args.length ca)) 24); obtain ⟨k0,k1,k2,k3,-⟩:=aK hrC; have hcx:=hid ((Af (w:=wr) (z7 wr (.cells (ap op nt rel (.slice aa args.length ca)) 24) gb hgb)).trans c3); have hws:=hid hM.out.fr.size; have hargs:=hlr (o,⟨op,nt,rel,args⟩) (by simp); replace hargs:args.length<=1048576:=hargs
   have hsR:oz ((o,(⟨op,nt,rel,args⟩:Lt))::R)=args.length+oz R:=by unfold oz; simp
   rw [hsR] at hsum
   have e1:IntKind.i64.wrap ((A.length:Int)+1)=((A.length+1:Nat):Int):=by rw [zX]; omega
   have hcx:=hid ((Af (w:=wr) (z7 wr (.cells (ap op nt rel (.slice aa args.length ca)) 24) gb hgb)).trans c3); replace hrC:=hid hrC; replace hE:=hid (show A++(o,(⟨op,nt,rel,[]++cj n args⟩:Lt))::fp (n+cB args) R=RES from hE.out); obtain ⟨wo,hwo⟩:∃ wo,wo=wr:=⟨_,rfl⟩; subst hwo
   go_wp2_with fail
   go_loopg [2,15] args.length (fun g z j wi=>∃ (ta tb:List Tm) (m:Nat),z=iv m/\j=iv ta.length/\tb.length=g/\ta.length+tb.length=args.length/\m+(tb.length+oz R)<=4611686018427387904/\Hid (A++(o,(⟨op,nt,rel,ta++cj m tb⟩:Lt))::fp (m+cB tb) R=RES)/\Hid (qZ B w (ct xs) (A++(o,⟨op,nt,rel,ta++tb⟩)::R) (.slice (some ⟨gb,0,none⟩) xs.length c) wi)/\Hid (wi.heap[wo.heap.size]? = some (.cells (ap op nt rel (.slice aa args.length ca)) 24 (0,0)))/\Hid (wi.cell? ⟨gb,A.length * 4+3,none⟩=some (.slice aa args.length ca))/\wo.heap.size < wi.heap.size)
   case atStart=>exact ⟨[],args,n,rfl,rfl,rfl,by simp,by omega,hE,hM1,hrC,hcx,by simp⟩
   case round =>
    obtain ⟨ta,tb,m,rfl,rfl,hg2,hab,hsm,hE2,hM2,hrC2,hcx2,hsz2⟩:=hrel; clear hM1 hrC hcx hE hM c0 c1 c2 c3 k0 k1 k2 k3; obtain ⟨k0,k1,k2,k3,-⟩:=aK hrC2.out
    cases tb with
    | nil =>
     have p1:decide (ta.length < args.length)=false:=zO (by simp at hab; omega);(have p1i:¬ ta.length < args.length:=by simp at hab; omega);replace hE2:=hid (show (A++[(o,(⟨op,nt,rel,ta⟩:Lt))])++fp m R=RES from by have:=hE2.out; simpa [cj,cB] using this); have hM3:=hid (show qZ B w (ct xs) ((A++[(o,(⟨op,nt,rel,ta⟩:Lt))])++R) (.slice (some ⟨gb,0,none⟩) xs.length c) wr from by have:=hM2.out; simpa using this);go_wp2_with fail
     go_roundg R.length
     case measure=>simp at hg; omega
     case rel=>exact ⟨A++[(o,⟨op,nt,rel,ta⟩)],R,m,rfl,by simp,rfl,by simp at hAR ⊢; omega,by simp at hsm; omega,fun y hy=>hlr y (by simp [hy]),hE2,hM3⟩
    | cons t tb =>
     have p1:decide (ta.length < args.length)=true:=zP (by simp at hab; omega);(have p1i:ta.length < args.length:=by simp at hab; omega);obtain ⟨g,c',rfl,hgB,hgl,⟨gb2,hgb2,hne,hcell⟩,hvar,hfz,hset⟩:=wI hM2.out.own hM2.out.nd;(have hgbe:gb=gb2:=by simpa [Value.ownBlock] using hgb2);(subst hgbe; have hsl:=hcx2.out.symm.trans hcell; injection hsl with hsl; injection hsl with ea en ec; subst ea; subst ec)
     have hix:∀ kd W,(Instr.indexAt 22 (.slice (some ⟨g,0,none⟩) args.length ca) (.int kd (ta.length:Int))).run Tryz.prog W=.ok (.pointer (some ⟨g,ta.length * 7,none⟩)) W:=fun kd W=>by
      have:=gm (P:=Tryz.prog) (t:=22) (sz:=7) (a:=some ⟨g,0,none⟩) (b:=g) (off:=0) (by kernel_rfl) (fun _=>by kernel_rfl) rfl args.length ca ta.length p1i kd W; rw [Nat.zero_add] at this; exact this
     (have e3:IntKind.i64.wrap ((ta.length:Int)+1)=((ta.length+1:Nat):Int):=by rw [zX]; omega);clear en hcell hgb2; by_cases hv:t.var=[95]
     ·have bv:(t.var == [95])=true:=by simpa using hv
      replace hE2:=hid (show A++(some g,(⟨op,nt,rel,(ta++[⟨[95]++Lib.itoa ((m+1:Nat):Int),t.val⟩])++cj (m+1) tb⟩:Lt))::fp ((m+1)+cB tb) R=RES from by
       rw [← hE2.out,cj,if_pos hv];(have:cB (t::tb)=1+cB tb:=by unfold cB; rw [List.filter_cons,if_pos (by simpa using hv)]; simp; omega);rw [this,show m+(1+cB tb)=m+1+cB tb by omega]
       simp)
      replace hv:=hid hv;(have hgid:g∈ct xs:=by rw [← hM2.out.idq]; exact pU (i:=A.length) (x:=(some g,_)) (by rw [Ab (zM _),Nat.sub_self]; rfl) rfl);(have hgwo:wo.heap.size≠g:=by have:=hidlt.out g hgid; have:=hws.out; omega);(have hgwo':¬ g=wo.heap.size:=fun e=>hgwo e.symm);obtain ⟨m1,hm1⟩:∃ m1,m1=m+1:=⟨_,rfl⟩;(have e4:IntKind.i64.wrap ((m:Int)+1)=(m1:Int):=by rw [zX]; simp at hsm; omega);(have hm1b:m1<=4611686018427387904:=by simp at hsm; omega);have hln:=j5 m1 hm1b; obtain ⟨N,hNN⟩:∃ N,N=itoa (m1:Int):=⟨_,rfl⟩; obtain ⟨s,hs'⟩:∃ s,s=[95]++N:=⟨_,rfl⟩;(have hcat:ByteArray.mk #[95]++⟨N.toArray⟩=⟨s.toArray⟩:=by rw [hs']; simp [ByteArray.mk_append_mk]);rw [← hNN] at hln; rw [← hm1,← hNN,← hs'] at hE2;(have hlN:¬ 9223372036854775807 < 1+N.length:=by omega);replace hs':=hid hs'; replace hNN:=hid hNN;(have hsm1:m1+(tb.length+oz R)<=4611686018427387904:=by simp at hsm; omega);replace hm1:=hid hm1;go_wp2_with fail;refine wp_region_held_drew (S:=fun w'=>w'.heap[wo.heap.size]? = some (.cells (ap op nt rel (.slice (some ⟨g,0,none⟩) args.length ca)) 24 (0,0))) (by kernel_rfl) ?_ (fun hHeld=>?_)
      ·exact hrC2.out
      have hbd:Below wr.heap.size wr wr.drew:=(zN _ wr).drew; generalize wr.drew=wd at *; refine wTk (i:=0) (v:=?_) rfl ?hy ?_
      case hy =>
       intro w hSw
       skip
       go_simp
       all_goals with_reducible rfl
      (try simp only [Act.put,sI,sZ,sS]);refine wTk (i:=1) (v:=?_) rfl ?hy ?_
      case hy =>
       intro w hSw; obtain ⟨v0,v1,v2,v3,-⟩:=aK hSw; go_simp
       all_goals with_reducible rfl
      (try simp only [Act.put,sI,sZ,sS]);refine wTk (i:=2) (v:=?_) rfl ?hy ?_
      case hy =>
       intro w hSw
       skip
       go_simp
       all_goals with_reducible rfl
      (try simp only [Act.put,sI,sZ,sS]);refine wTk (i:=3) (v:=?_) rfl ?hy ?_
      case hy =>
       intro w hSw
       skip
       go_simp
       all_goals with_reducible rfl
      (try simp only [Act.put,sI,sZ,sS]);refine wpAnyH_ready (rs:=[4]) (by as_aux_lemma=>kernel_rfl) (by simp) ?_; refine rdY rfl (fun K hK=>?_); go_simp;go_at_call 97;(with_reducible refine (fl (m1:Int) wd (by omega) (by omega) (hid (hM2.out.below hbd).tab.tab)).mono ?_);(rintro e W1 ⟨rfl,hb1⟩; have hbb:=hbd.trans (hb1.mono hbd.size); have hM4:=hid (hM2.out.below hbb); have hrC4:=hid (an hbb hrC2.out hsz2); obtain ⟨g4,c4,hg4,-,-,⟨gb4,hgb4,hne4,hcell4⟩,hvar4,hfz4,hset4⟩:=wI hM4.out.own hM4.out.nd; injection hg4 with hg4; subst hg4; rw [← hNN.out]; refine hK.out _ _ ?_ (fun hHeld2=>?_))
      ·exact hrC4.out
      clear hK K; clear hHeld; have hHeld:=hHeld2; clear hHeld2;(try simp only [Act.put,sI,sZ,sS]);refine wTk (i:=5) (v:=?_) rfl ?hy ?_
      case hy =>
       intro w hSw
       skip
       go_simp
       all_goals with_reducible rfl
      (try simp only [Act.put,sI,sZ,sS]);refine wTk (i:=6) (v:=?_) rfl ?hy ?_
      case hy =>
       intro w hSw
       skip
       go_simp
       all_goals with_reducible rfl
      (try simp only [Act.put,sI,sZ,sS]);refine wTk (i:=7) (v:=?_) rfl ?hy ?_
      case hy =>
       intro w hSw
       skip
       go_simp
       all_goals with_reducible rfl
      (try simp only [Act.put,sI,sZ,sS]);refine wpAnyH_ready (rs:=[8]) (by as_aux_lemma=>kernel_rfl) (by simp) ?_; refine rdY rfl (fun K hK=>?_); go_simp
      skip
      refine hK.out _ _ ?_ (fun hHeld2=>?_)
      ·exact (ak _ hgwo).trans hrC4.out
      clear hK K; clear hHeld; have hHeld:=hHeld2; clear hHeld2;(try simp only [Act.put,sI,sZ,sS]);refine wpAnyH_done (by as_aux_lemma=>kernel_rfl) ?_ _;go_wp2_with fail
      go_roundg tb.length
      case measure=>simp at hg2; omega
      case rel =>
       (have hidE:ct (A++(some g,(⟨op,nt,rel,(ta++[⟨s,t.val⟩])++tb⟩:Lt))::R)=ct (A++(some g,(⟨op,nt,rel,ta++t::tb⟩:Lt))::R):=by unfold ct; simp);refine ⟨ta++[⟨s,t.val⟩],tb,m1,rfl,by simp,rfl,by simp at hab ⊢; omega,hsm1,hE2,hid ⟨hset4 s,?_,?_,hM4.out.fr.setCell (p:=⟨g,ta.length * 7,none⟩) (Or.inl (Or.inl hgid)) _,?_⟩,hid ((ak _ hgwo).trans hrC4.out),?_,?_⟩
       ·rw [hidE]; exact hM4.out.nd
       ·rw [hidE]; exact hM4.out.idq
       ·exact hM4.out.tab.fr (S:=one g) ((Fr.refl (one g) W1).setCell (p:=⟨g,ta.length * 7,none⟩) (Or.inl (show one g g from rfl)) _) (fun k hk=>by unfold one at hk; subst hk; exact hgB)
       ·exact hid ((Af (w:=W1) (ak _ hne)).trans ((Af (w:=wr) (hbb.block gb (by omega))).trans hcx2.out))
       ·have:=hbb.size; simp [World.setCell]; omega
     ·have bv:(t.var == [95])=false:=by simpa using hv
      replace hE2:=hid (show A++(some g,(⟨op,nt,rel,(ta++[t])++cj m tb⟩:Lt))::fp (m+cB tb) R=RES from by
       rw [← hE2.out,cj,if_neg hv];(have:cB (t::tb)=cB tb:=by unfold cB; rw [List.filter_cons,if_neg (by simpa using hv)]);rw [this]
       simp)
      have hM3:=hid (show qZ B w (ct xs) (A++(some g,(⟨op,nt,rel,(ta++[t])++tb⟩:Lt))::R) (.slice (some ⟨gb,0,none⟩) xs.length c) wr from by have:=hM2.out; simpa using this); replace hv:=hid hv;go_wp2_with fail
      go_roundg tb.length
      case measure=>simp at hg2; omega
      case rel=>exact ⟨ta++[t],tb,m,rfl,by simp,rfl,by simp at hab ⊢; omega,by simp at hsm; omega,hE2,hM3,hrC2,hcx2,hsz2⟩
end Go.Proofs.YtffdpoifdahadaaGreatDoor
