/- PsA: RefA, PsA, in one text. -/
import Derived.Test.YtfejagpjahoibaaGreatDoorEfA
import Derived.Test.YtfejagpjahoibaaGreatDoorPmP
import Derived.Test.YtfejagpjahoibaaGreatDoorEfC
import Derived.Test.YtfejagpjahoibaaGreatDoorNetSameP
set_option linter.unusedVariables false
namespace Go.Proofs.YtfejagpjahoibaaGreatDoor
open Go.RowKit
open Go.Lib (hid)
def flatC (cs:Nat→List Value):Nat→List Value
 | 0=>[]
 | n+1=>flatC cs n++cs n
theorem flatC_len {cs:Nat→List Value} {sz:Nat}:∀ n,(∀ i,i < n→(cs i).length=sz)→(flatC cs n).length=n * sz
 | 0,_=>by simp [flatC]
 | n+1,h=>by rw [flatC,List.length_append,flatC_len n (fun i hi=>h i (by omega)),h n (by omega),Nat.succ_mul]
theorem flatC_get {cs:Nat→List Value} {sz:Nat} {i j:Nat} (hj:j < sz):∀ n,(∀ i,i < n→(cs i).length=sz)→i < n→(flatC cs n)[i * sz+j]? = (cs i)[j]?
 | 0,_,h=>absurd h (by omega)
 | n+1,h,hi=>by
  have hl:=flatC_len n (fun i hi=>h i (by omega)); rw [flatC]; rcases Nat.lt_or_ge i n with h1 | h1
  ·have:i * sz+sz≤n * sz:=by rw [← Nat.succ_mul]; exact Nat.mul_le_mul_right _ h1
   rw [List.getElem?_append_left (by rw [hl]; omega)]; exact flatC_get hj n (fun i hi=>h i (by omega)) h1
  ·have:i=n:=by omega
   subst this; rw [List.getElem?_append_right (by rw [hl]; omega),hl,show i * sz+j - i * sz=j by omega]
section
variable {α:Type} {E:TypeId} {sz:Nat} {R:Rel α} {S T:Foot} {w w':World} {x:α} {l l2:List α} {v vs:Value} {B:Nat}
theorem row_of_sl (hR:Good sz R) (hp:0 < sz) (h:SlR sz R S w l v):∃ news,Row w.heap.size w sz v l.length news∧(∀ u∈news,u.oneCell'=true)∧∀ i x,l[i]? = some x→∃ cs,R S w x cs∧∀ j u,cs[j]? = some u→news[i * sz+j]? = some u:=by
 obtain ⟨a,cap,b,off,cs,rfl,hle,ha,hc,hx⟩:=h
 have hcl:∀ i,i < l.length→(cs i).length=sz:=fun i hi=>hR.len (hx i l[i] (List.getElem?_eq_getElem hi))
 have hfl:=flatC_len l.length hcl
 have hat:∀ q,q < l.length * sz→∃ i j,i < l.length∧j < sz∧q=i * sz+j:=fun q hq=>by
  refine ⟨q / sz,q % sz,Nat.div_lt_of_lt_mul (by rw [Nat.mul_comm]; exact hq),Nat.mod_lt _ hp,?_⟩; rw [Nat.mul_comm]; exact (Nat.div_add_mod q sz).symm
 refine ⟨flatC cs l.length,⟨a,cap,b,off,rfl,hfl,fun h0=>⟨(ha h0).1,(ha h0).2.2⟩,fun q hq=>?_⟩,fun u hu=>?_,fun i x hix=>?_⟩
 ·obtain ⟨i,j,hi,hj,rfl⟩:=hat q (by rw [← hfl]; exact hq)
  rw [← Nat.add_assoc]; refine hc i hi j _ ?_; rw [← flatC_get hj l.length hcl hi]; exact List.getElem?_eq_getElem hq
 ·obtain ⟨q,hq⟩:=List.mem_iff_getElem?.1 hu
  obtain ⟨i,j,hi,hj,rfl⟩:=hat q (by rw [← hfl]; exact (List.getElem?_eq_some_iff.1 hq).1); rw [flatC_get hj l.length hcl hi] at hq; exact hR.one (hx i l[i] (List.getElem?_eq_getElem hi)) u (List.mem_of_getElem? hq)
 ·have hi:=(List.getElem?_eq_some_iff.1 hix).1
  refine ⟨cs i,hx i x hix,fun j u hu=>?_⟩; rw [flatC_get (by rw [← hcl i hi]; exact (List.getElem?_eq_some_iff.1 hu).1) l.length hcl hi]; exact hu
theorem SlR.take {a:Option Addr} {n cap k:Nat} (h:SlR sz R S w l (.slice a n cap)) (hk:k≤n):SlR sz R S w (l.take k) (.slice a k cap):=by
 obtain ⟨a',cap',b,off,cs,he,hle,ha,hc,hx⟩:=h; simp only [Value.slice.injEq] at he; obtain ⟨rfl,rfl,rfl⟩:=he
 have hl:(l.take k).length=k:=by rw [List.length_take]; omega
 refine ⟨a,cap,b,off,cs,by rw [hl],by omega,fun h0=>ha (by omega),fun i hi=>hc i (by omega),fun i x hix=>hx i x ?_⟩; rw [List.getElem?_take_of_lt (by have:=(List.getElem?_eq_some_iff.1 hix).1; omega)] at hix; exact hix
theorem SlR.drop {a:Addr} {n cap k:Nat} {a2:Addr} (h:SlR sz R S w l (.slice (some a) n cap)) (hk:k≤n) (h2:k < n→a2=⟨a.block,a.off+k * sz,none⟩):SlR sz R S w (l.drop k) (.slice (some a2) (n - k) (cap - k)):=by
 obtain ⟨a',cap',b,off,cs,he,hle,ha,hc,hx⟩:=h; simp only [Value.slice.injEq] at he; obtain ⟨rfl,rfl,rfl⟩:=he; have hl:(l.drop k).length=l.length - k:=List.length_drop ..; refine ⟨some a2,cap - k,b,off+k * sz,fun i=>cs (k+i),by rw [hl],by omega,fun h0=>?_,fun i hi j u hu=>?_,fun i x hix=>hx (k+i) x ?_⟩
 ·obtain ⟨e,hs,hb⟩:=ha (by omega)
  injection e with e; rw [h2 (by omega),e]; exact ⟨rfl,hs,hb⟩
 ·have:=hc (k+i) (by omega) j u hu
  rw [Nat.add_mul] at this; rw [show off+k * sz+i * sz+j=off+(k * sz+i * sz)+j by omega]; exact this
 ·rw [List.getElem?_drop] at hix; exact hix
/-- a row of the call's own (memory from B on), whose elements refer to older memory of S and to new memory -/
def FrR (E:TypeId) (sz:Nat) (R:Rel α) (S:Foot) (B:Nat) (w:World) (l:List α) (v:Value):Prop :=
 OwnR E sz R (fun q=>(S q∧q < B)∨B≤q) w l v∧∀ q,v.ownBlock=some q→B≤q
theorem FrR.made (hB:B≤w.heap.size):FrR E sz R S B (w.alloc (.cells #[] E)) [] (.slice (some ⟨w.heap.size,0,none⟩) 0 0) :=
 ⟨⟨[],World.ownsRow_made w #[] 0 (Nat.zero_le _) (Nat.zero_le _) (by simp),fun k h=>by simp [Value.ownBlock] at h; subst h; exact Or.inr hB,fun i x h=>by simp at h⟩,fun q h=>by simp [Value.ownBlock] at h; subst h; exact hB⟩
theorem FrR.sl (hR:Good sz R) (h:FrR E sz R S B w l v) (hS:∀ q,B≤q→S q):SlR sz R S w l v :=
 (h.1.sl hR).mono hR fun q _ hq=>hq.elim (fun h=>h.1) (hS q)
theorem FrR.below (hR:Good sz R) (h:FrR E sz R S B w l v) (hb:Below w.heap.size w w'):FrR E sz R S B w' l v:=⟨h.1.below hR hb,h.2⟩
end
end Go.Proofs.YtfejagpjahoibaaGreatDoor
set_option linter.unusedSimpArgs false
namespace Go.Proofs.YtfejagpjahoibaaGreatDoor
open Go.RowKit
open Go.Lib (hid)
theorem dropF_part {turn:Int} {R:List (List UInt8)} {fo:Option Offer} {u:Out} {clock:Int} (h:(dropF turn R fo u clock).kind=3):u.part=false:=by
 unfold dropF at h
 cases fo with
 | none=>exact absurd (show (0:Int)=3 from h) (by decide)
 | some o =>
  dsimp only at h
  split at h
  ·exact absurd (show (2:Int)=3 from h) (by decide)
  ·split at h
   ·rename_i e
    simp only [Bool.and_eq_true,Bool.not_eq_true'] at e; exact e.1.2
   ·exact absurd (show (0:Int)=3 from h) (by decide)
theorem stlF_s {l:List Offer} {undo «do»:List Out} {clock turn:Int} {R:List (List UInt8)} (h:okArg l undo «do») (hud:∀ u∈undo,∀ d∈«do»,u.key≠d.key):StlS (stlF l undo «do» clock turn R):=by
 refine ⟨stlF_k h,stlF_d h,fun d hd e=>?_,hud,fun i hi hk=>?_⟩
 ·have h2:([]::«do».map Out.key).Nodup:=of_decide_eq_true h.2.2
  rw [List.nodup_cons] at h2; exact h2.1 (List.mem_map.2 ⟨d,hd,e⟩)
 ·have hu:undo[i]? = some (uAt (stlF l undo «do» clock turn R) i):=uAt_get hi
  have e:((stlF l undo «do» clock turn R).drop[i]?).getD opt0=dropF turn R (findF l (uAt (stlF l undo «do» clock turn R) i).name) (uAt (stlF l undo «do» clock turn R) i) clock:=by
   show ((undo.map _)[i]?).getD opt0=_; rw [List.getElem?_map,hu]; rfl
  rw [e] at hk; exact dropF_part hk
/-- what net.Same asks -/
theorem sameP_args {a b:List Out} (ha:KeysN a) (hb:KeysN b) (hl:a.length=b.length) (h:∀ o∈a,∃ q∈b,q.key=o.key∧effO q=effO o) :
  ∃ c:List Out,a.length=c.length∧b.length=c.length∧(c.map Out.key).Nodup∧(∀ (k:Nat) (p:Out),c[k]? = some p→∃ i:Nat,b[i]? = some p)∧(∀ p∈b,∃ q∈c,q.key=p.key)∧∀ (k:Nat) (o:Out),a[k]? = some o→∃ p,c[k]? = some p∧OutEq p o:=by
 have key:∀ a:List Out,(∀ o∈a,∃ q∈b,q.key=o.key∧effO q=effO o)→∃ c:List Out,c.map Out.key=a.map Out.key∧(∀ p∈c,p∈b)∧∀ (k:Nat) (o:Out),a[k]? = some o→∃ p,c[k]? = some p∧OutEq p o:=by
  intro a
  induction a with
  | nil=>exact fun _=>⟨[],rfl,fun p hp=>(by cases hp),fun k o hk=>by simp at hk⟩
  | cons x a ih =>
   intro h
   obtain ⟨c,h1,h2,h3⟩:=ih fun o ho=>h o (List.mem_cons_of_mem _ ho)
   obtain ⟨q,hq,hqk,hqe⟩:=h x (List.mem_cons_self ..); refine ⟨q::c,by rw [List.map_cons,List.map_cons,h1,hqk],fun p hp=>?_,fun k o hk=>?_⟩
   ·rcases List.mem_cons.1 hp with hp | hp
    ·rw [hp]; exact hq
    ·exact h2 p hp
   ·cases k with
    | zero =>
     simp at hk; subst hk; injection hqe with e1 e2; injection e2 with e2 e3; exact ⟨q,rfl,hqk,e1,e3,e2⟩
    | succ k =>
     rw [List.getElem?_cons_succ] at hk ⊢; exact h3 k o hk
 obtain ⟨c,h1,h2,h3⟩:=key a h
 have hcl:a.length=c.length:=by have:=congrArg List.length h1; simpa using this.symm
 refine ⟨c,hcl,by omega,by rw [h1]; exact ha,fun k p hk=>List.mem_iff_getElem?.1 (h2 p (List.mem_of_getElem? hk)),fun p hp=>?_,h3⟩; by_cases e:p.key∈c.map Out.key
 ·obtain ⟨q,hq,e⟩:=List.mem_map.1 e
  exact ⟨q,hq,e⟩
 ·exfalso
  have h4:=len_le (p.key::c.map Out.key) (b.map Out.key) (List.nodup_cons.2 ⟨e,by rw [h1]; exact ha⟩) (fun x hx=>by
   rcases List.mem_cons.1 hx with hx | hx
   ·rw [hx]; exact List.mem_map.2 ⟨p,hp,rfl⟩
   ·obtain ⟨q,hq,rfl⟩:=List.mem_map.1 hx
    exact List.mem_map.2 ⟨q,h2 q hq,rfl⟩)
  simp only [List.length_cons,List.length_map] at h4; omega
theorem want_mem (others undo «do»:List Out) (st:List Cmd) (re:List (List UInt8)) (o:Out) (h:o∈wantF others undo «do» st re):∃ x,(x∈others∨x∈undo∨x∈«do»)∧x.key=o.key∧x.args=o.args:=by
 unfold wantF at h; rcases List.mem_append.1 h with h | h
 ·rcases List.mem_append.1 h with h | h
  ·exact ⟨o,Or.inl h,rfl,rfl⟩
  ·obtain ⟨u,hu,h⟩:=List.mem_flatMap.1 h
   refine ⟨u,Or.inr (Or.inl hu),?_⟩; unfold wU wU1 wU2 at h; rcases List.mem_append.1 h with h | h
   ·obtain ⟨c,-,rfl⟩:=List.mem_map.1 h; exact ⟨rfl,rfl⟩
   ·obtain ⟨c,-,rfl⟩:=List.mem_map.1 h; exact ⟨rfl,rfl⟩
 ·obtain ⟨d,hd,h⟩:=List.mem_flatMap.1 h
  refine ⟨d,Or.inr (Or.inr hd),?_⟩; unfold wD at h; split at h
  ·cases h
  ·rw [List.mem_singleton.1 h]; exact ⟨rfl,rfl⟩
/-- Make, one word for both ways -/
theorem makeS {l:List Offer} {undo «do»:List Out} {rf rf0:List (List UInt8)} {vl vu vd vr:Value} {w:World} (h:LIn l undo «do» rf vl vu vd vr w) (hf:Few45 l undo «do» rf0) (clock turn:Int) :
  Calls Tryz.prog 7 #[vl,vu,vd,iv clock,iv turn,vr] w fun e w'=>Below w.heap.size w w'∧∃ sa sn sc ra rn rc co Ra Rn Rc Ca Cn Cc,e=.returned (.tuple #[.agg #[.slice sa sn sc,.slice ra rn rc,iv co,.slice Ra Rn Rc,.slice Ca Cn Cc],iv (prepE l undo «do»)]) ∧
   (prepE l undo «do» = 0→∃ p,MadeB l undo «do» clock turn rf p∧sn=p.st.length∧rn=p.re.length∧SlR 6 CmdR (fun _=>True) w' p.st (.slice sa sn sc)∧SlR 1 StrR (fun _=>True) w' p.re (.slice ra rn rc)):=by
 refine (make_any _ l undo «do» clock turn rf vl vu vd vr w h.pin hf.small h.d).mono ?_; rintro e w' ⟨hb,(⟨hne,rfl⟩ | ⟨h0,p,vs,vr',vR,vC,hp,rfl,h1,h2,h3,h4⟩)⟩
 ·exact ⟨hb,none,0,0,none,0,0,0,none,0,0,none,0,0,rfl,fun h=>absurd h hne⟩
 ·obtain ⟨sa,sc,rfl⟩:=slice_at h1 rfl
  obtain ⟨ra,rc,rfl⟩:=slice_at h2 rfl; obtain ⟨Ra,Rc,rfl⟩:=slice_at h3 (listN_len _ _); obtain ⟨Ca,Cc,rfl⟩:=slice_at h4 (listN_len _ _); exact ⟨hb,sa,p.st.length,sc,ra,p.re.length,rc,p.co,Ra,_,Rc,Ca,_,Cc,by rw [h0],fun _=>⟨p,made_b hf h0 hp,rfl,rfl,h1.mono goodCmd fun _ _ _=>trivial,h2.mono goodStr fun _ _ _=>trivial⟩⟩
/-- a row of effects that the law makes: its own block lies from B on, all else that it names below B -/
def OutN (B:Nat) (w:World) (l:List Out) (v:Value):Prop:=OwnR 37 5 OutR (fun q=>q < B∨v.ownBlock=some q) w l v∧∀ q,v.ownBlock=some q→B≤q
theorem outN_made {B:Nat} {w:World} (hB:B≤w.heap.size):OutN B (w.alloc (.cells #[] 37)) [] (.slice (some ⟨w.heap.size,0,none⟩) 0 0) :=
 ⟨⟨[],World.ownsRow_made w #[] 0 (Nat.zero_le _) (Nat.zero_le _) (by simp),fun k h=>Or.inr h,fun i x h=>by simp at h⟩,fun q h=>by simp [Value.ownBlock] at h; subst h; exact hB⟩
theorem OutN.sl {B:Nat} {w:World} {l:List Out} {v:Value} (h:OutN B w l v):SlR 5 OutR (fun _=>True) w l v:=(h.1.sl goodOut).mono goodOut fun _ _ _=>trivial
theorem OutN.keep {B:Nat} {w w':World} {l:List Out} {v:Value} (h:OutN B w l v) (h1:∀ q,q < w.heap.size→(q < B∨v.ownBlock=some q)→w'.heap[q]? = w.heap[q]?):OutN B w' l v :=
 ⟨h.1.move goodOut fun q hq hs=>⟨hs,h1 q hq hs⟩,h.2⟩
theorem OutN.below {B:Nat} {w w':World} {l:List Out} {v:Value} (h:OutN B w l v) (hb:Below w.heap.size w w'):OutN B w' l v:=h.keep fun q hq _=>hb.block q hq
theorem outN_appk {B:Nat} {w:World} {l l2:List Out} {v vs:Value} (h:OutN B w l v) (hB:B≤w.heap.size) {C:Nat} {news:List Value} (hr:Row C w 5 vs l2.length news) (h1:∀ u∈news,u.oneCell'=true)
  (hx:∀ i x,l2[i]? = some x→∃ cs,OutR (fun q=>q < B) w x cs∧∀ j u,cs[j]? = some u→news[i * 5+j]? = some u) (hl:l.length+l2.length≤1000000) (ty:TypeId) :
  ∃ a c w',AppRun Tryz.prog 23 23 ty v vs (.slice a (l.length+l2.length) c) w w'∧OutN B w' (l++l2) (.slice a (l.length+l2.length) c)∧Below B w w' ∧
   (∀ q,q < w.heap.size→v.ownBlock≠some q→w'.heap[q]? = w.heap[q]?)∧∀ q,(Value.slice a (l.length+l2.length) c).ownBlock=some q→v.ownBlock=some q∨w.heap.size≤q:=by
 obtain ⟨i0,hi,hz,hsize,hby⟩:=info_parts infoOut; obtain ⟨⟨xs,ho,hk2,hxs⟩,hv⟩:=h; obtain ⟨v',w',hrun,hown,hg,hv'⟩:=append_row w 0 23 ty 37 i0 _ 5 _ (by kernel_rfl) hi hz hsize hby rfl (by decide) v l.length xs ho C vs l2.length news hr h1 (by unfold maxLen; omega) (by omega) (Nat.zero_le _)
 have hvb:∀ q,v'.ownBlock=some q→B≤q:=fun q hq=>by
  rcases hv' with e | e
  ·exact hv q (e ▸ hq)
  ·rw [e] at hq; injection hq with hq; omega
 have hO:OutN B w' (l++l2) v':=by
  refine ⟨⟨xs++news,by rw [List.length_append]; exact hown,fun q hq=>Or.inr hq,fun k y hy=>?_⟩,hvb⟩; by_cases hkl:k < l.length
  ·rw [List.getElem?_append_left hkl] at hy
   obtain ⟨ds,h4,h5⟩:=hxs k y hy; refine ⟨ds,fun j u hu=>?_,goodOut.move h5 fun q hq hs=>?_⟩
   ·have:=h4 j u hu
    rw [List.getElem?_append_left (List.getElem?_eq_some_iff.1 this).1]; exact this
   ·have hqB:q < B:=hs.1.resolve_right hs.2
    exact ⟨⟨Or.inl hqB,fun e=>by have:=hvb q e; omega⟩,hg.block q hq (fun e=>hs.2 e.symm)⟩
  ·rw [List.getElem?_append_right (by omega)] at hy
   obtain ⟨cs,h4,h5⟩:=hx (k - l.length) y hy; refine ⟨cs,fun j u hu=>?_,goodOut.move h4 fun q hq hs=>⟨⟨Or.inl hs,fun e=>by have:=hvb q e; omega⟩,hg.block q hq (fun e=>by have:=hv q e.symm; omega)⟩⟩; have hle:l.length * 5≤k * 5:=Nat.mul_le_mul_right _ (by omega); rw [List.getElem?_append_right (by rw [ho.1]; omega),ho.1,show k * 5+j - l.length * 5=(k - l.length) * 5+j by rw [Nat.sub_mul]; omega]; exact h5 j u hu
 obtain ⟨a,c,e,-⟩:=hO.1.slice; rw [List.length_append] at e; subst e
 exact ⟨a,c,w',⟨hrun⟩,hO,⟨hg.os,hg.tape,hg.output,hg.size,fun k hk=>hg.block k (by omega) (fun e=>by have:=hv k e.symm; omega)⟩,fun q hq hne=>hg.block q hq (fun e=>hne e.symm),fun q hq=>by
  rcases hv' with e | e
  ·exact Or.inl (e ▸ hq)
  ·rw [e] at hq; injection hq with hq; exact Or.inr (by omega)⟩
theorem outN_app {B:Nat} {w:World} {l l2:List Out} {v vs:Value} (h:OutN B w l v) (hB:B≤w.heap.size) (hs:SlR 5 OutR (fun q=>q < B) w l2 vs) (hl:l.length+l2.length≤1000000) (ty:TypeId) :
  ∃ a c w',AppRun Tryz.prog 23 23 ty v vs (.slice a (l.length+l2.length) c) w w'∧OutN B w' (l++l2) (.slice a (l.length+l2.length) c)∧Below B w w':=by
 obtain ⟨news,h1,h2,h3⟩:=row_of_sl goodOut (by decide) hs; obtain ⟨a,c,w',h4,h5,h6,-⟩:=outN_appk h hB h1 h2 h3 hl ty; exact ⟨a,c,w',h4,h5,h6⟩
theorem outN_push {B:Nat} {w:World} {l:List Out} {v:Value} {x:Out} {cs:List Value} {nb:Nat} (h:OutN B w l v) (hB:B≤w.heap.size) (hr:w.heap[nb]? = some (.cells cs.toArray 37 (0,0))) (hcl:cs.length=5) (hx:OutR (fun q=>q < B) w x cs) (hl:l.length≤999999) (ty:TypeId) :
  ∃ a c w',AppRun Tryz.prog 23 23 ty v (.slice (some ⟨nb,0,none⟩) 1 1) (.slice a (l.length+1) c) w w'∧OutN B w' (l++[x]) (.slice a (l.length+1) c)∧Below B w w'∧(∀ q,q < w.heap.size→v.ownBlock≠some q→w'.heap[q]? = w.heap[q]?)∧∀ q,(Value.slice a (l.length+1) c).ownBlock=some q→v.ownBlock=some q∨w.heap.size≤q :=
 outN_appk (l2:=[x]) h hB (row_of_block hr hcl) (goodOut.one hx) (fun i y hy=>by
  rcases i with _ | i
  ·simp at hy; subst hy
   exact ⟨cs,hx,fun j u hu=>by rw [Nat.zero_mul,Nat.zero_add]; exact hu⟩
  ·simp at hy) (by simp; omega) ty
end Go.Proofs.YtfejagpjahoibaaGreatDoor
