/- ApiV: MapV, AskA, AskB, ApiV, in one text. -/
import Derived.Test.YtffdpoifdahadaaGreatDoorRel
import Derived.Maps.Own
import Derived.Maps.OwnOps
import Derived.Maps.OwnSet
import Derived.Maps.Views
import Derived.Test.YtffdpoifdahadaaGreatDoorLexW6
import Derived.Test.YtffdpoifdahadaaGreatDoorChecked
import Derived.OwnWalk
set_option linter.unusedVariables false
set_option maxHeartbeats 40000000
set_option maxRecDepth 100000
namespace Go.Proofs.YtffdpoifdahadaaGreatDoor
open Go.RowKit
open Go.Maps (Keyed has IsMap)
def n8:Value->Option (DataW Value × List MemPlace):=fun v=>some (.held v,[])
def bR (P:Program) (k:TypeId) (b N:Nat) (f:Lit->Option Value) (w:World):Prop :=
 ∃ D:DataW Value,w.ownsMap P k n8 b N D/\∀ kl,WideAt.IsKeyLit kl->has D kl=(f kl).isSome/\∀ v,f kl=some v->∀ z,D.atKey kl z=.held v
section
variable {P:Program} {k e t:TypeId} {b N:Nat} {f:Lit->Option Value} {w w':World}
theorem bR.made (w:World):bR P k w.heap.size 0 (fun _=>none) (w.alloc (.map #[] 0)) :=
 ⟨.map [],World.ownsMap_made _ _ _ _,fun kl _=>⟨rfl,fun v h=>by cases h⟩⟩
theorem bR.lt (h:bR P k b N f w):b < w.heap.size:=by obtain ⟨D,h1,_⟩:=h; exact h1.lt
theorem bR.obj (h:bR P k b N f w):∃ es clock,w.heap[b]? = some (.map es clock):=by obtain ⟨D,⟨es,clock,h1,_⟩,_⟩:=h; exact ⟨es,clock,h1⟩
theorem bR.same (h:bR P k b N f w) (hb:w'.heap[b]? = w.heap[b]?):bR P k b N f w':=by
 obtain ⟨D,⟨es,clock,h1,h2⟩,h3⟩:=h; exact ⟨D,⟨es,clock,hb.trans h1,h2⟩,h3⟩
theorem bR.mono (h:bR P k b N f w) {M:Nat} (hN:N<=M):bR P k b M f w:=by obtain ⟨D,h1,h2⟩:=h; exact ⟨D,h1.mono hN,h2⟩
theorem bR.below (h:bR P k b N f w) {B:Nat} (hb:Below B w w') (hB:b < B):bR P k b N f w':=h.same (hb.block b hB)
theorem bR.fr (h:bR P k b N f w) {G:aP} (hf:Fr G w w') (hs:¬ G b):bR P k b N f w':=h.same (hf.block b h.lt hs)
theorem bR.alloc (h:bR P k b N f w) (o:Obj):bR P k b N f (w.alloc o):=h.same (z7 _ _ _ h.lt)
theorem bR.drew (h:bR P k b N f w):bR P k b N f w.drew:=h.same rfl
theorem bR.drewN (h:bR P k b N f w) (n:Nat):bR P k b N f (w.drewN n):=h.same rfl
theorem bR.setCell (h:bR P k b N f w) {p:Addr} (hp:p.block≠b) (u:Value):bR P k b N f (w.setCell p u):=h.same (Below.heap_setCell _ _ _ _ (Ne.symm hp))
theorem bR.congr {g:Lit->Option Value} (h:bR P k b N f w) (hg:∀ kl,WideAt.IsKeyLit kl->g kl=f kl):bR P k b N g w:=by
 obtain ⟨D,h1,h2⟩:=h; exact ⟨D,h1,fun kl hk=>by rw [hg kl hk]; exact h2 kl hk⟩
theorem bR.look (h:bR P k b N f w) (K:Keyed P k) (ht:P.underlying t=some (.map k e)) {z:Value} (hz:(zeroValue e).run P w=.ok z w) {key:Value} {kl:Lit} (hkey:keyOf P k key=some kl) (hkl:WideAt.IsKeyLit kl) :
  (Instr.lookup t (.map (some b)) key false).run P w=.ok ((f kl).getD z) w:=by
 obtain ⟨D,h1,h2⟩:=h; obtain ⟨v,ps,hrun,hv⟩:=h1.lookup K ht hz (zd:=.held z) (zp:=[]) rfl hkey
 have hv2:DataW.held v=D.atKey kl (.held z):=by simp only [n8,Al,Prod.mk.injEq] at hv; exact hv.1
 rw [hrun]; obtain ⟨h3,h4⟩:=h2 kl hkl; rcases hf:f kl with _ | u
 ·rw [hf] at h3
  rw [Maps.atKey_of_not_has (by simpa using h3)] at hv2; injection hv2 with hv2; subst hv2; rfl
 ·rw [h4 u hf] at hv2
  injection hv2 with hv2; subst hv2; rfl
theorem bR.look_ok (h:bR P k b N f w) (K:Keyed P k) (ht:P.underlying t=some (.map k e)) {z:Value} (hz:(zeroValue e).run P w=.ok z w) {key:Value} {kl:Lit} (hkey:keyOf P k key=some kl) (hkl:WideAt.IsKeyLit kl) :
  (Instr.lookup t (.map (some b)) key true).run P w=.ok (.tuple #[(f kl).getD z,.bool (f kl).isSome]) w:=by
 obtain ⟨D,h1,h2⟩:=h; obtain ⟨v,ps,hrun,hv⟩:=h1.look_ok K ht hz (zd:=.held z) (zp:=[]) rfl hkey
 have hv2:DataW.held v=D.atKey kl (.held z):=by simp only [n8,Al,Prod.mk.injEq] at hv; exact hv.1
 rw [hrun]; obtain ⟨h3,h4⟩:=h2 kl hkl; rcases hf:f kl with _ | u
 ·rw [hf] at h3
  rw [Maps.atKey_of_not_has (by simpa using h3)] at hv2; injection hv2 with hv2; subst hv2; rw [h3]; rfl
 ·rw [hf] at h3
  rw [h4 u hf] at hv2; injection hv2 with hv2; subst hv2; rw [h3]; rfl
open Classical in
noncomputable def putF (f:Lit->Option Value) (kl:Lit) (v:Value):Lit->Option Value:=fun x=>if x=kl then some v else f x
theorem bR.put (h:bR P k b N f w) (K:Keyed P k) (ht:P.underlying t=some (.map k e)) (hN:N < maxLen) {key:Value} {kl:Lit} (hkey:keyOf P k key=some kl) (hkl:WideAt.IsKeyLit kl) (v:Value) :
  ∃ w',(Instr.mapUpdate t (.map (some b)) key v).run P w=.ok () w'/\bR P k b (N+1) (putF f kl v) w'/\w.grownBy w' (some b):=by
 obtain ⟨D,h1,h2⟩:=h; obtain ⟨w',hrun,h3,h4⟩:=h1.update K ht hN hkey (val:=v) (d:=.held v) (ps:=[]) rfl
 have hm:IsMap D:=by obtain ⟨es,clock,_,_,_,rfl⟩:=h1; exact ⟨_,rfl⟩
 refine ⟨w',hrun,⟨_,h3,fun x hx=>?_⟩,h4⟩; unfold putF; by_cases e:x=kl
 ·subst e
  rw [if_pos rfl]; refine ⟨Maps.has_put_same hm hx _,fun u hu z=>?_⟩; injection hu with hu; subst hu; exact Maps.atKey_put_same hm hx _ z
 ·rw [if_neg e]
  refine ⟨(Maps.has_put_other e _).trans (h2 x hx).1,fun u hu z=>?_⟩; rw [Maps.atKey_put_other e]; exact (h2 x hx).2 u hu z
end
end Go.Proofs.YtffdpoifdahadaaGreatDoor
namespace Go.Proofs.YtffdpoifdahadaaGreatDoor
open Go.RowKit
open Go.Lib (hid)
structure Tw where
 kind:Int
 text:List UInt8
 n:Int
def tw (t:Tk):Tw:=⟨t.kind,t.text,t.n⟩
structure PSt where
 nx:Nat
 vars:Nat
 rels:Nat
 err:Option (Int × Nat)
structure PK where
 toks:List Tk
 tv:Value
 size:Nat
 mb:Nat
 N:Nat
 f:Lit->Option Value
def PK.pos (K:PK) (i:Nat):Int:=match K.toks[i]? with
 | some t=>t.pos
 | none=>K.size
def PK.ts (K:PK):List Tw:=K.toks.map tw
def kD (st:PSt):Int:=match st.err with
 | none=>0
 | some (e,_)=>e
def wZ (K:PK) (st:PSt):Int:=match st.err with
 | none=>0
 | some (_,i)=>K.pos i
abbrev rP (b:Nat):Value:=.map (some b)
abbrev oF (K:PK) (st:PSt):Array Value:=#[K.tv,iv st.nx,iv K.size,rP K.mb,iv st.vars,iv st.rels,iv (kD st),iv (wZ K st)]
structure PM (pb:Nat) (K:PK) (st:PSt) (w:World):Prop where
 blk:w.heap[pb]? = some (.cells (oF K st) 93 (0,0))
 tok:SlR 4 TkR (fun q=>q≠pb) w K.toks K.tv
 map:bR Tryz.prog 9 K.mb K.N K.f w
 far:K.mb≠pb
 nx:st.nx<=K.toks.length
 len:K.toks.length<=1048576
 ok:∀ t∈K.toks,0<=t.n/\t.n<=9007199254740992/\t.text.length<=1048576
section
variable {pb:Nat} {K:PK} {st:PSt} {w w':World}
theorem PM.lt (h:PM pb K st w):pb < w.heap.size:=aL h.blk
theorem PM.below (h:PM pb K st w) (hb:Below w.heap.size w w'):PM pb K st w':=⟨an hb h.blk h.lt,h.tok.below cY hb,h.map.below hb h.map.lt,h.far,h.nx,h.len,h.ok⟩
theorem PM.cell (h:PM pb K st w) {i:Nat} {v:Value} (hv:(oF K st)[i]? = some v):w.cell? ⟨pb,i,none⟩=some v:=(aj h.blk).trans hv
theorem PM.free (h:PM pb K st w) (i:Nat):w.frozen? ⟨pb,i,none⟩=false:=bX h.blk
theorem PM.slice (h:PM pb K st w):∃ a c,K.tv=.slice a K.toks.length c:=by obtain ⟨a,c,e,_⟩:=h.tok.slice; exact ⟨a,c,e⟩
theorem PM.turn (h:PM pb K st w) {st':PSt} (hs:∀ q,q≠pb->w'.heap[q]? = w.heap[q]?) (hb:w'.heap[pb]? = some (.cells (oF K st') 93 (0,0))) (hn:st'.nx<=K.toks.length):PM pb K st' w' :=
 ⟨hb,h.tok.move cY fun q _ hq=>⟨hq,hs q hq⟩,h.map.same (hs _ h.far),h.far,hn,h.len,h.ok⟩
theorem PM.setNx (h:PM pb K st w) (n:Nat) (hn:n<=K.toks.length):PM pb K { st with nx:=n } (w.setCell ⟨pb,1,none⟩ (iv n)) :=
 h.turn (fun q hq=>ak _ hq) (aC h.blk _) hn
end
def br (ts:List Tw) (i:Nat):Tw:=ts.getD i ⟨0,[],0⟩
def bf (st:PSt):PSt:={ st with err:=some (2,st.nx) }
def am (st:PSt):PSt:={ st with nx:=st.nx+1 }
def isP (ts:List Tw) (st:PSt) (k:Int) (s:List UInt8):Bool:=(br ts st.nx).kind == k && (br ts st.nx).text == s
def bu (ts:List Tw) (st:PSt) (k:Int) (s:List UInt8):Bool × PSt:=if isP ts st k s then (true,am st) else (false,st)
theorem iV {K:PK} {i:Nat} (h:(br K.ts i).kind≠0):i < K.toks.length:=by
 unfold br PK.ts at h; rcases Nat.lt_or_ge i K.toks.length with h2 | h2
 ·exact h2
 ·rw [zZ,List.getElem?_eq_none (by simpa using h2)] at h; exact absurd rfl h
theorem sE {K:PK} {i:Nat} {t:Tk} (h:K.toks[i]? = some t):br K.ts i=tw t:=by
 unfold br PK.ts; rw [zZ,Ai,h]; rfl
theorem pj {K:PK} {i:Nat} (h:K.toks.length<=i):br K.ts i=⟨0,[],0⟩:=by
 unfold br PK.ts; rw [zZ,List.getElem?_eq_none (by simpa using h)]; rfl
def cV (K:PK) (i:Nat):Tk:=K.toks.getD i tk0
theorem iy (K:PK) (i:Nat):tw (cV K i)=br K.ts i:=by
 unfold cV; rcases Nat.lt_or_ge i K.toks.length with h | h
 ·rw [sE (zR h),zZ,zR h]; rfl
 ·rw [pj h,zZ,List.getElem?_eq_none h]; rfl
theorem PM.tok_ok {pb:Nat} {K:PK} {st:PSt} {w:World} (h:PM pb K st w) (i:Nat):0<=(br K.ts i).n/\(br K.ts i).n<=9007199254740992/\(br K.ts i).text.length<=1048576:=by
 rcases Nat.lt_or_ge i K.toks.length with h2 | h2
 ·rw [sE (zR h2)]
  exact h.ok _ (List.getElem_mem h2)
 ·rw [pj h2]; exact ⟨Int.le_refl _,by decide,by simp⟩
theorem fo (pb:Nat) (K:PK) (st:PSt) (d:Nat) (hd:d<=1) (w:World) (h:PM pb K st w) :
  Calls Tryz.prog 90 #[pt pb,iv d] w fun e w'=>e=.returned (tkv (cV K (st.nx+d)))/\Below w.heap.size w w':=by
 obtain ⟨a,c,htv⟩:=h.slice; have hn:=h.nx; have hl:=h.len; have hp:=h.lt; have c1:w.cell? ⟨pb,1,none⟩=some (iv st.nx):=h.cell (i:=1) rfl
 have c0:w.cell? ⟨pb,0,none⟩=some (.slice a K.toks.length c):=by rw [← htv]; exact h.cell (i:=0) rfl
 have hT:=hid h.tok; rw [htv] at hT
 have e1:IntKind.i64.wrap ((st.nx:Int)+(d:Int))=((st.nx+d:Nat):Int):=by rw [zX]; omega
 obtain ⟨i,hi⟩:∃ i,i=st.nx+d:=⟨_,rfl⟩; rw [← hi] at e1 ⊢; replace hi:=hid hi
 have hne:¬ pb=w.heap.size:=by omega
 have hne':¬ w.heap.size=pb:=by omega
 clear h; by_cases hlt:i < K.toks.length
 ·have q1:decide ((i:Int) < (K.toks.length:Int))=true:=zP (by omega)
  obtain ⟨t,ht⟩:∃ t,K.toks[i]? = some t:=⟨_,zR hlt⟩
  have htk:cV K i=t:=by unfold cV; rw [zZ,ht]; rfl
  rw [htk]; obtain ⟨g,o,cs,hidx,-,hg,hc,hr⟩:=hT.out.at (P:=Tryz.prog) (t:=88) (by kernel_rfl) (fun _=>by kernel_rfl) ht; have hr':cs=tkc t:=hr; subst hr'; have d0:=hc 0 _ rfl; have d1:=hc 1 _ rfl; have d2:=hc 2 _ rfl; have d3:=hc 3 _ rfl; rw [Nat.add_zero] at d0
  have hge:¬ g=w.heap.size:=by omega
  have hge':¬ w.heap.size=g:=by omega
  clear hT hc hr ht htk
  go_enter Tryz.func90,Tryz.ntmps90
  go_wp2_with fail
  refine bodyPost_ret (v:=tkv t) (results_cell_row (by rfl) _ _ w.heap.size 95 #[iv t.kind,sv t.text,iv t.n,iv t.pos] (0,0) _ (by rfl) (af w _) Tryz.underlying95 rfl (by kernel_rfl)) rfl ⟨rfl,(zN _ w).alloc (zM _) _⟩
 ·have q1:decide ((i:Int) < (K.toks.length:Int))=false:=zO (by omega)
  have htk:cV K i=tk0:=by unfold cV; rw [zZ,List.getElem?_eq_none (by omega)]; rfl
  rw [htk]; clear hT htk
  go_enter Tryz.func90,Tryz.ntmps90
  go_wp2_with fail
  refine bodyPost_ret (v:=tkv tk0) (results_cell_row (by rfl) _ _ w.heap.size 95 #[iv tk0.kind,sv tk0.text,iv tk0.n,iv tk0.pos] (0,0) _ (by rfl) (af w _) Tryz.underlying95 rfl (by kernel_rfl)) rfl ⟨rfl,(zN _ w).alloc (zM _) _⟩
theorem mf (pb:Nat) (K:PK) (st:PSt) (w:World) (h:PM pb K st w) :
  Calls Tryz.prog 58 #[pt pb] w fun e w'=>e=.returned (iv (K.pos st.nx))/\Below w.heap.size w w':=by
 obtain ⟨a,c,htv⟩:=h.slice; have hn:=h.nx; have hl:=h.len; have c1:w.cell? ⟨pb,1,none⟩=some (iv st.nx):=h.cell (i:=1) rfl; have c2:w.cell? ⟨pb,2,none⟩=some (iv K.size):=h.cell (i:=2) rfl
 have c0:w.cell? ⟨pb,0,none⟩=some (.slice a K.toks.length c):=by rw [← htv]; exact h.cell (i:=0) rfl
 have hT:=hid h.tok; rw [htv] at hT; obtain ⟨i,hi⟩:∃ i,i=st.nx:=⟨_,rfl⟩; rw [← hi] at c1 hn ⊢; replace hi:=hid hi; have hB:=hid (fun n=>bG (zN w.heap.size w) n); clear h; by_cases hlt:i < K.toks.length
 ·have q1:decide ((i:Int) < (K.toks.length:Int))=true:=zP (by omega)
  obtain ⟨t,ht⟩:∃ t,K.toks[i]? = some t:=⟨_,zR hlt⟩
  have hp:K.pos i=t.pos:=by unfold PK.pos; rw [ht]
  rw [hp]; obtain ⟨g,o,cs,hidx,-,hg,hc,hr⟩:=hT.out.at (P:=Tryz.prog) (t:=88) (by kernel_rfl) (fun _=>by kernel_rfl) ht; have hr':cs=tkc t:=hr; subst hr'; have d3:=hc 3 _ rfl; clear hT hc hr ht hp
  go_enter Tryz.func58,Tryz.ntmps58
  go_wp2_with fail
  go_quiet (fail)
  go_wp2_with fail
  go_quiet (fail)
  go_wp2_with fail
  go_ret; exact ⟨rfl,by first | exact hB.out _ | exact bG (hB.out _) _⟩
 ·have q1:decide ((i:Int) < (K.toks.length:Int))=false:=zO (by omega)
  have hp:K.pos i=K.size:=by unfold PK.pos; rw [List.getElem?_eq_none (by omega)]
  rw [hp]; clear hT hp
  go_enter Tryz.func58,Tryz.ntmps58
  go_wp2_with fail
  go_quiet (fail)
  go_wp2_with fail
  go_ret; exact ⟨rfl,hB.out _⟩
def ji (pb:Nat) (K:PK) (w:World) (r:Bool × PSt) (e:Ending) (w':World):Prop:=e=.returned (.bool r.1)/\PM pb K r.2 w'/\Fr (one pb) w w'
theorem dw (pb:Nat) (K:PK) (st:PSt) (w:World) (h:PM pb K st w) :
  Calls Tryz.prog 64 #[pt pb] w (ji pb K w (false,bf st)):=by
 have ho:=hid (mf pb K st w h); have hh:=hid h; obtain ⟨z,hz⟩:∃ z,z=K.pos st.nx:=⟨_,rfl⟩; rw [← hz] at ho; replace hz:=hid hz; clear h
 go_enter Tryz.func64,Tryz.ntmps64
 go_wp2_with fail
 with_reducible refine ho.out.mono ?_
 rintro e w1 ⟨rfl,hb⟩; have h1:=hid (hh.out.below hb); have c6:w1.cell? ⟨pb,6,none⟩=some (iv (kD st)):=h1.out.cell (i:=6) rfl; have c7:w1.cell? ⟨pb,7,none⟩=some (iv (wZ K st)):=h1.out.cell (i:=7) rfl; have f6:=h1.out.free 6; have f7:=h1.out.free 7; have hfr:=hid (Fr.of_below hb (one pb)); clear hb
 go_wp2_with fail
 go_ret; refine ⟨rfl,h1.out.turn (fun q hq=>(ak _ hq).trans (ak _ hq)) ?_ h1.out.nx,(hfr.out.setCell (p:=⟨pb,6,none⟩) (Or.inl (show one pb pb from rfl)) _).setCell (p:=⟨pb,7,none⟩) (Or.inl (show one pb pb from rfl)) _⟩; have a0:=aC h1.out.blk (i:=6) (iv 2); have a1:=aC a0 (i:=7) (iv z); rw [hz.out] at a1; rw [hz.out]; exact a1
theorem ji.of_below {pb:Nat} {K:PK} {w w1 w':World} {r:Bool × PSt} {e:Ending} (hb:Below w.heap.size w w1) (h:ji pb K w1 r e w'):ji pb K w r e w':=⟨h.1,h.2.1,(Fr.of_below hb (one pb)).trans h.2.2⟩
theorem bY {w:World} {b:Nat} {t:Tk} (h:w.heap[b]? = some (.cells #[iv t.kind,sv t.text,iv t.n,iv t.pos] 95 (0,0))):w.cell? ⟨b,0,none⟩=some (iv t.kind)/\w.cell? ⟨b,1,none⟩=some (sv t.text)/\w.cell? ⟨b,2,none⟩=some (iv t.n)/\w.cell? ⟨b,3,none⟩=some (iv t.pos) :=
 ⟨(aj (i:=0) h).trans rfl,(aj (i:=1) h).trans rfl,(aj (i:=2) h).trans rfl,(aj (i:=3) h).trans rfl⟩
theorem pk (pb:Nat) (K:PK) (st:PSt) (k:Int) (hk:k≠0) (s:List UInt8) (w:World) (h:PM pb K st w) :
  Calls Tryz.prog 87 #[pt pb,iv k,sv s] w (ji pb K w (bu K.ts st k s)):=by
 have hp0:=hid (show Calls Tryz.prog 90 #[pt pb,.int .i64 0] w fun e w'=>e=.returned (.agg #[iv (cV K st.nx).kind,sv (cV K st.nx).text,iv (cV K st.nx).n,iv (cV K st.nx).pos])/\Below w.heap.size w w' from fo pb K st 0 (by decide) w h); have hh:=hid h; have hw:=iy K st.nx; have hlt:=iV (K:=K) (i:=st.nx); have hn:=h.nx; have hl:=h.len; obtain ⟨t,ht⟩:∃ t,t=cV K st.nx:=⟨_,rfl⟩; rw [← ht] at hp0 hw
 have hP:∀ b,isP K.ts st k s=b->Hid (isP K.ts st k s=b):=fun _ h=>hid h
 have his:isP K.ts st k s=(t.kind == k && t.text == s):=by unfold isP; rw [← hw]; rfl
 have hkn:t.kind=k->st.nx < K.toks.length:=fun e=>hlt (by rw [← hw]; show t.kind≠0; rw [e]; exact hk)
 clear h hw hlt; replace ht:=hid ht; replace his:=hid his; replace hkn:=hid hkn; by_cases h1:t.kind=k
 ·have b1:(t.kind == k)=true:=by simpa using h1
  by_cases h2:t.text=s
  ·have b2:(t.text == s)=true:=by simpa using h2
   have hR:Hid (bu K.ts st k s=(true,am st)):=hid (by unfold bu; rw [his.out,b1,b2]; rfl); have hnl:=hkn.out h1
   have e1:IntKind.i64.wrap ((st.nx:Int)+1)=((st.nx+1:Nat):Int):=by rw [zX]; omega
   replace h1:=hid h1; replace h2:=hid h2; clear hP
   go_enter Tryz.func87,Tryz.ntmps87
   go_wp2_with fail
   with_reducible refine hp0.out.mono ?_
   rintro e w1 ⟨rfl,hb⟩; have hM:=hid ((hh.out.below hb).below ((zN w1.heap.size w1).alloc (zM _) (.cells #[iv t.kind,sv t.text,iv t.n,iv t.pos] 95))); have hfr:=hid ((Fr.of_below hb (one pb)).alloc (.cells #[iv t.kind,sv t.text,iv t.n,iv t.pos] 95)); have c1:=hM.out.cell (i:=1) (v:=iv st.nx) rfl; have f1:=hM.out.free 1; have hr:=af w1 (.cells #[iv t.kind,sv t.text,iv t.n,iv t.pos] 95); obtain ⟨d0,d1,d2,d3⟩:=bY hr; clear hb hr
   go_wp2_with fail
   go_ret; exact ⟨by rw [hR.out]; rfl,by rw [hR.out]; exact hM.out.setNx (st.nx+1) hnl,hfr.out.setCell (p:=⟨pb,1,none⟩) (Or.inl (show one pb pb from rfl)) _⟩
  ·have b2:(t.text == s)=false:=by simpa using h2
   have hR:Hid (bu K.ts st k s=(false,st)):=hid (by unfold bu; rw [his.out,b1,b2]; rfl); replace h1:=hid h1; replace h2:=hid h2; clear hP
   go_enter Tryz.func87,Tryz.ntmps87
   go_wp2_with fail
   with_reducible refine hp0.out.mono ?_
   rintro e w1 ⟨rfl,hb⟩; have hM:=hid ((hh.out.below hb).below ((zN w1.heap.size w1).alloc (zM _) (.cells #[iv t.kind,sv t.text,iv t.n,iv t.pos] 95))); have hfr:=hid ((Fr.of_below hb (one pb)).alloc (.cells #[iv t.kind,sv t.text,iv t.n,iv t.pos] 95)); clear hb
   go_wp2_with fail
   go_ret; exact ⟨by rw [hR.out]; rfl,by rw [hR.out]; exact hM.out,hfr.out⟩
 ·have b1:(t.kind == k)=false:=by simpa using h1
  have hR:Hid (bu K.ts st k s=(false,st)):=hid (by unfold bu; rw [his.out,b1]; rfl); replace h1:=hid h1; clear hP
  go_enter Tryz.func87,Tryz.ntmps87
  go_wp2_with fail
  with_reducible refine hp0.out.mono ?_
  rintro e w1 ⟨rfl,hb⟩; have hM:=hid ((hh.out.below hb).below ((zN w1.heap.size w1).alloc (zM _) (.cells #[iv t.kind,sv t.text,iv t.n,iv t.pos] 95))); have hfr:=hid ((Fr.of_below hb (one pb)).alloc (.cells #[iv t.kind,sv t.text,iv t.n,iv t.pos] 95)); clear hb
  go_wp2_with fail
  go_ret; exact ⟨by rw [hR.out]; rfl,by rw [hR.out]; exact hM.out,hfr.out⟩
theorem cM (pb:Nat) (K:PK) (st:PSt) (s:List UInt8) (w:World) (h:PM pb K st w) :
  Calls Tryz.prog 57 #[pt pb,sv s] w (ji pb K w (bu K.ts st 4 s)):=by
 have hc:=hid (pk pb K st 4 (by decide) s w h); generalize bu K.ts st 4 s=r at *; clear h
 go_enter Tryz.func57,Tryz.ntmps57
 go_wp2_with fail
 with_reducible refine hc.out.mono ?_
 rintro e w1 ⟨rfl,h1,h2⟩
 go_wp2_with fail
 go_ret; exact ⟨rfl,h1,h2⟩
theorem eE (pb:Nat) (K:PK) (st:PSt) (s:List UInt8) (w:World) (h:PM pb K st w) :
  Calls Tryz.prog 91 #[pt pb,sv s] w (ji pb K w (bu K.ts st 1 s)):=by
 have hc:=hid (pk pb K st 1 (by decide) s w h); generalize bu K.ts st 1 s=r at *; clear h
 go_enter Tryz.func91,Tryz.ntmps91
 go_wp2_with fail
 with_reducible refine hc.out.mono ?_
 rintro e w1 ⟨rfl,h1,h2⟩
 go_wp2_with fail
 go_ret; exact ⟨rfl,h1,h2⟩
def aW (ts:List Tw) (st:PSt) (s:List UInt8):Bool × PSt:=if isP ts st 4 s then (true,am st) else (false,bf st)
theorem gH (pb:Nat) (K:PK) (st:PSt) (s:List UInt8) (w:World) (h:PM pb K st w) :
  Calls Tryz.prog 61 #[pt pb,sv s] w (ji pb K w (aW K.ts st s)):=by
 have hc:=hid (cM pb K st s w h); obtain ⟨z,hz⟩:∃ z,isP K.ts st 4 s=z:=⟨_,rfl⟩
 have hN:aW K.ts st s=if z then (true,am st) else (false,bf st):=by unfold aW; rw [hz]
 have hT:bu K.ts st 4 s=if z then (true,am st) else (false,st):=by unfold bu; rw [hz]
 rw [hT] at hc; rw [hN]; clear hT hN hz h
 cases z with
 | true =>
  go_enter Tryz.func61,Tryz.ntmps61
  go_wp2_with fail
  with_reducible refine hc.out.mono ?_
  rintro e w1 ⟨rfl,h1,h2⟩; replace h1:=hid h1; replace h2:=hid h2
  go_wp2_with fail
  go_ret; exact ⟨rfl,h1.out,h2.out⟩
 | false =>
  go_enter Tryz.func61,Tryz.ntmps61
  go_wp2_with fail
  with_reducible refine hc.out.mono ?_
  rintro e w1 ⟨rfl,h1,h2⟩; have hf:=hid (dw pb K st w1 h1); replace h1:=hid h1; replace h2:=hid h2
  go_wp2_with fail
  with_reducible refine hf.out.mono ?_
  rintro e w2 ⟨rfl,h3,h4⟩; replace h3:=hid h3; have h5:=hid (h2.out.trans h4); clear h4 h2 hf
  go_wp2_with fail
  go_ret; exact ⟨rfl,h3.out,h5.out⟩
end Go.Proofs.YtffdpoifdahadaaGreatDoor
namespace Go.Proofs.YtffdpoifdahadaaGreatDoor
open Go.RowKit
open Go.Lib (hid)
def tW:List (List UInt8):=[[110,111,116],[111,110,99,101],[110,101,118,101,114],[115,105,110,99,101],[110,111],[97,116],[98,101,102,111,114,101],[97,102,116,101,114],[99,111,117,110,116],[115,117,109],[109,105,110],[109,97,120]]
def fX (s:List UInt8):Bool:=tW.contains s
def et (s:List UInt8):Bool:=iJ s && !fX s
def dz (s:List UInt8):Bool:=et s && (match s with
 | []=>false
 | c::_=>decide (97<=c.toNat) && decide (c.toNat<=122))
def ga (s:List UInt8):Int:=if s=[99,111,117,110,116] then 1 else if s=[115,117,109] then 2 else if s=[109,105,110] then 3 else if s=[109,97,120] then 4 else 0
theorem oB (s:List UInt8) (w:World):Calls Tryz.prog 123 #[sv s] w fun e w'=>e=.returned (.bool (fX s))/\w'=w:=by
 by_cases h0:s=[110,111,116]
 ·have hr:fX s=true:=by rw [h0]; decide
  rw [hr]
  have b0:(s == [110,111,116])=true:=by simpa using h0
  replace h0:=hid h0; clear hr
  go_enter Tryz.func123,Tryz.ntmps123
  go_wp2_with fail
  go_ret; exact ⟨rfl,rfl⟩
 have b0:(s == [110,111,116])=false:=by simpa using h0
 by_cases h1:s=[111,110,99,101]
 ·have hr:fX s=true:=by rw [h1]; decide
  rw [hr]
  have b1:(s == [111,110,99,101])=true:=by simpa using h1
  replace h0:=hid h0; replace h1:=hid h1; clear hr
  go_enter Tryz.func123,Tryz.ntmps123
  go_wp2_with fail
  go_ret; exact ⟨rfl,rfl⟩
 have b1:(s == [111,110,99,101])=false:=by simpa using h1
 by_cases h2:s=[110,101,118,101,114]
 ·have hr:fX s=true:=by rw [h2]; decide
  rw [hr]
  have b2:(s == [110,101,118,101,114])=true:=by simpa using h2
  replace h0:=hid h0; replace h1:=hid h1; replace h2:=hid h2; clear hr
  go_enter Tryz.func123,Tryz.ntmps123
  go_wp2_with fail
  go_ret; exact ⟨rfl,rfl⟩
 have b2:(s == [110,101,118,101,114])=false:=by simpa using h2
 by_cases h3:s=[115,105,110,99,101]
 ·have hr:fX s=true:=by rw [h3]; decide
  rw [hr]
  have b3:(s == [115,105,110,99,101])=true:=by simpa using h3
  replace h0:=hid h0; replace h1:=hid h1; replace h2:=hid h2; replace h3:=hid h3; clear hr
  go_enter Tryz.func123,Tryz.ntmps123
  go_wp2_with fail
  go_ret; exact ⟨rfl,rfl⟩
 have b3:(s == [115,105,110,99,101])=false:=by simpa using h3
 by_cases h4:s=[110,111]
 ·have hr:fX s=true:=by rw [h4]; decide
  rw [hr]
  have b4:(s == [110,111])=true:=by simpa using h4
  replace h0:=hid h0; replace h1:=hid h1; replace h2:=hid h2; replace h3:=hid h3; replace h4:=hid h4; clear hr
  go_enter Tryz.func123,Tryz.ntmps123
  go_wp2_with fail
  go_ret; exact ⟨rfl,rfl⟩
 have b4:(s == [110,111])=false:=by simpa using h4
 by_cases h5:s=[97,116]
 ·have hr:fX s=true:=by rw [h5]; decide
  rw [hr]
  have b5:(s == [97,116])=true:=by simpa using h5
  replace h0:=hid h0; replace h1:=hid h1; replace h2:=hid h2; replace h3:=hid h3; replace h4:=hid h4; replace h5:=hid h5; clear hr
  go_enter Tryz.func123,Tryz.ntmps123
  go_wp2_with fail
  go_ret; exact ⟨rfl,rfl⟩
 have b5:(s == [97,116])=false:=by simpa using h5
 by_cases h6:s=[98,101,102,111,114,101]
 ·have hr:fX s=true:=by rw [h6]; decide
  rw [hr]
  have b6:(s == [98,101,102,111,114,101])=true:=by simpa using h6
  replace h0:=hid h0; replace h1:=hid h1; replace h2:=hid h2; replace h3:=hid h3; replace h4:=hid h4; replace h5:=hid h5; replace h6:=hid h6; clear hr
  go_enter Tryz.func123,Tryz.ntmps123
  go_wp2_with fail
  go_ret; exact ⟨rfl,rfl⟩
 have b6:(s == [98,101,102,111,114,101])=false:=by simpa using h6
 by_cases h7:s=[97,102,116,101,114]
 ·have hr:fX s=true:=by rw [h7]; decide
  rw [hr]
  have b7:(s == [97,102,116,101,114])=true:=by simpa using h7
  replace h0:=hid h0; replace h1:=hid h1; replace h2:=hid h2; replace h3:=hid h3; replace h4:=hid h4; replace h5:=hid h5; replace h6:=hid h6; replace h7:=hid h7; clear hr
  go_enter Tryz.func123,Tryz.ntmps123
  go_wp2_with fail
  go_ret; exact ⟨rfl,rfl⟩
 have b7:(s == [97,102,116,101,114])=false:=by simpa using h7
 by_cases h8:s=[99,111,117,110,116]
 ·have hr:fX s=true:=by rw [h8]; decide
  rw [hr]
  have b8:(s == [99,111,117,110,116])=true:=by simpa using h8
  replace h0:=hid h0; replace h1:=hid h1; replace h2:=hid h2; replace h3:=hid h3; replace h4:=hid h4; replace h5:=hid h5; replace h6:=hid h6; replace h7:=hid h7; replace h8:=hid h8; clear hr
  go_enter Tryz.func123,Tryz.ntmps123
  go_wp2_with fail
  go_ret; exact ⟨rfl,rfl⟩
 have b8:(s == [99,111,117,110,116])=false:=by simpa using h8
 by_cases h9:s=[115,117,109]
 ·have hr:fX s=true:=by rw [h9]; decide
  rw [hr]
  have b9:(s == [115,117,109])=true:=by simpa using h9
  replace h0:=hid h0; replace h1:=hid h1; replace h2:=hid h2; replace h3:=hid h3; replace h4:=hid h4; replace h5:=hid h5; replace h6:=hid h6; replace h7:=hid h7; replace h8:=hid h8; replace h9:=hid h9; clear hr
  go_enter Tryz.func123,Tryz.ntmps123
  go_wp2_with fail
  go_ret; exact ⟨rfl,rfl⟩
 have b9:(s == [115,117,109])=false:=by simpa using h9
 by_cases h10:s=[109,105,110]
 ·have hr:fX s=true:=by rw [h10]; decide
  rw [hr]
  have b10:(s == [109,105,110])=true:=by simpa using h10
  replace h0:=hid h0; replace h1:=hid h1; replace h2:=hid h2; replace h3:=hid h3; replace h4:=hid h4; replace h5:=hid h5; replace h6:=hid h6; replace h7:=hid h7; replace h8:=hid h8; replace h9:=hid h9; replace h10:=hid h10; clear hr
  go_enter Tryz.func123,Tryz.ntmps123
  go_wp2_with fail
  go_ret; exact ⟨rfl,rfl⟩
 have b10:(s == [109,105,110])=false:=by simpa using h10
 by_cases h11:s=[109,97,120]
 ·have hr:fX s=true:=by rw [h11]; decide
  rw [hr]
  have b11:(s == [109,97,120])=true:=by simpa using h11
  replace h0:=hid h0; replace h1:=hid h1; replace h2:=hid h2; replace h3:=hid h3; replace h4:=hid h4; replace h5:=hid h5; replace h6:=hid h6; replace h7:=hid h7; replace h8:=hid h8; replace h9:=hid h9; replace h10:=hid h10; replace h11:=hid h11; clear hr
  go_enter Tryz.func123,Tryz.ntmps123
  go_wp2_with fail
  go_ret; exact ⟨rfl,rfl⟩
 have b11:(s == [109,97,120])=false:=by simpa using h11
 have hr:fX s=false:=by
  unfold fX tW; simp only [List.contains_cons,b0,b1,b2,b3,b4,b5,b6,b7,b8,b9,b10,b11]; rfl
 rw [hr]; replace h0:=hid h0; replace h1:=hid h1; replace h2:=hid h2; replace h3:=hid h3; replace h4:=hid h4; replace h5:=hid h5; replace h6:=hid h6; replace h7:=hid h7; replace h8:=hid h8; replace h9:=hid h9; replace h10:=hid h10; replace h11:=hid h11; clear hr
 go_enter Tryz.func123,Tryz.ntmps123
 go_wp2_with fail
 go_ret; exact ⟨rfl,rfl⟩
theorem nj (s:List UInt8) (w:World):Calls Tryz.prog 111 #[sv s] w fun e w'=>e=.returned (iv (ga s))/\w'=w:=by
 by_cases h0:s=[99,111,117,110,116]
 ·have hr:ga s=1:=by rw [h0]; decide
  rw [hr]
  have b0:(s == [99,111,117,110,116])=true:=by simpa using h0
  replace h0:=hid h0; clear hr
  go_enter Tryz.func111,Tryz.ntmps111
  go_wp2_with fail
  go_ret; exact ⟨rfl,rfl⟩
 have b0:(s == [99,111,117,110,116])=false:=by simpa using h0
 by_cases h1:s=[115,117,109]
 ·have hr:ga s=2:=by rw [h1]; decide
  rw [hr]
  have b1:(s == [115,117,109])=true:=by simpa using h1
  replace h0:=hid h0; replace h1:=hid h1; clear hr
  go_enter Tryz.func111,Tryz.ntmps111
  go_wp2_with fail
  go_ret; exact ⟨rfl,rfl⟩
 have b1:(s == [115,117,109])=false:=by simpa using h1
 by_cases h2:s=[109,105,110]
 ·have hr:ga s=3:=by rw [h2]; decide
  rw [hr]
  have b2:(s == [109,105,110])=true:=by simpa using h2
  replace h0:=hid h0; replace h1:=hid h1; replace h2:=hid h2; clear hr
  go_enter Tryz.func111,Tryz.ntmps111
  go_wp2_with fail
  go_ret; exact ⟨rfl,rfl⟩
 have b2:(s == [109,105,110])=false:=by simpa using h2
 by_cases h3:s=[109,97,120]
 ·have hr:ga s=4:=by rw [h3]; decide
  rw [hr]
  have b3:(s == [109,97,120])=true:=by simpa using h3
  replace h0:=hid h0; replace h1:=hid h1; replace h2:=hid h2; replace h3:=hid h3; clear hr
  go_enter Tryz.func111,Tryz.ntmps111
  go_wp2_with fail
  go_ret; exact ⟨rfl,rfl⟩
 have b3:(s == [109,97,120])=false:=by simpa using h3
 have hr:ga s=0:=by unfold ga; rw [if_neg h0,if_neg h1,if_neg h2,if_neg h3]
 rw [hr]; replace h0:=hid h0; replace h1:=hid h1; replace h2:=hid h2; replace h3:=hid h3; clear hr
 go_enter Tryz.func111,Tryz.ntmps111
 go_wp2_with fail
 go_ret; exact ⟨rfl,rfl⟩
def okV (i:Nat) (c:UInt8):Bool:=if i=0 then cL c else bP c
theorem zm {i:Nat} {c:UInt8} (h:okV i c=true):bP c=true:=by
 unfold okV at h; split at h
 ·exact iI h
 ·exact h
theorem nm_no {s:List UInt8} {k:Nat} {y:UInt8} (hk:s[k]? = some y) (h:okV k y=false):iJ s=false:=by
 cases s with
 | nil=>simp at hk
 | cons c r =>
  show (cL c && (c::r).all bP)=false
  cases k with
  | zero =>
   simp at hk; subst hk
   have:cL c=false:=by unfold okV at h; simpa using h
   rw [this]; rfl
  | succ k =>
   have h2:bP y=false:=by unfold okV at h; simpa using h
   have h3:(c::r).all bP=false:=by
    rw [List.all_eq_false]; exact ⟨y,zU hk,by simp [h2]⟩
   rw [h3,Bool.and_false]
theorem zo {c:UInt8} {r:List UInt8} (h:∀ i y,i < (c::r).length->(c::r)[i]? = some y->okV i y=true):iJ (c::r)=true:=by
 show (cL c && (c::r).all bP)=true
 have h1:(c::r).all bP=true:=by
  rw [List.all_eq_true]; intro y hy; obtain ⟨i,hi⟩:=List.getElem?_of_mem hy; exact zm (h i y (List.getElem?_eq_some_iff.1 hi).1 hi)
 have h2:=h 0 c (by simp) (by simp)
 have h3:cL c=true:=by unfold okV at h2; simpa using h2
 rw [h1,h3]; rfl
theorem uA {α:Type} {p:Nat->α->Bool} {l:List α} {k:Nat} {x:α} (hx:l[k]? = some x) (hp:p k x=true) (hn:∀ i y,i < k->l[i]? = some y->p i y=true):∀ i y,i < k+1->l[i]? = some y->p i y=true:=fun i y hi hy=>by
 by_cases e:i=k
 ·subst e; rw [hx] at hy; injection hy with hy; rw [← hy]; exact hp
 ·exact hn i y (by omega) hy
theorem letB {c:UInt8} (h:65<=c.toNat/\c.toNat<=90\/97<=c.toNat/\c.toNat<=122):cL c=true:=by unfold cL; simp; omega
theorem mj {c:UInt8} (h:¬ (65<=c.toNat/\c.toNat<=90\/97<=c.toNat/\c.toNat<=122)):cL c=false:=by
 cases e:cL c with
 | false=>rfl
 | true=>exfalso; unfold cL at e; simp at e; omega
theorem c95 {c:UInt8}:c=95 ↔ c.toNat=95:=by
 constructor
 ·intro h; rw [h]; rfl
 ·intro h; exact UInt8.toNat_inj.1 (by rw [h]; rfl)
theorem wdB {c:UInt8} (h:48<=c.toNat/\c.toNat<=57\/c.toNat=95):bP c=true:=by unfold bP dE; simp [c95]; omega
theorem noWd {c:UInt8} (h:¬ (65<=c.toNat/\c.toNat<=90\/97<=c.toNat/\c.toNat<=122)/\¬ (48<=c.toNat/\c.toNat<=57)/\c.toNat≠95):bP c=false:=by
 cases e:bP c with
 | false=>rfl
 | true=>exfalso; unfold bP cL dE at e; simp [c95] at e; omega
theorem fZ (s:List UInt8) (w:World) (hs:s.length<=1048576):Calls Tryz.prog 103 #[sv s] w fun e w'=>e=.returned (.bool (et s))/\Below w.heap.size w w':=by
 obtain ⟨res,hres⟩:∃ res,et s=res:=⟨_,rfl⟩; rw [hres]; replace hres:=hid hres
 go_enter Tryz.func103,Tryz.ntmps103
 go_wp2_with fail
 go_loopw [3] (fun i wr=>∃ k:Nat,i=.int .i64 k/\k<=s.length/\Hid (∀ i y,i < k->s[i]? = some y->okV i y=true)/\Hid (Below w.heap.size w wr)) (fun i _=>s.length - (intOf i).toNat)
 case atStart=>exact ⟨0,rfl,zW _,hid (fun i y h=>absurd h (by omega)),hid (zN _ _)⟩
 case round =>
  obtain ⟨k,rfl,hk,hn,hB⟩:=hrel; by_cases hlt:k < s.length
  ·obtain ⟨c,hc⟩:∃ c,s[k]? = some c:=⟨_,zR hlt⟩
   have hix:=eP (P:=Tryz.prog) 9 (by kernel_rfl) s k c hc; have hcl:=c.toNat_lt; have hno:=hid (fun h:okV k c=false=>(hres.out.symm.trans (by unfold et; rw [nm_no hc h]; rfl):res=false)); have hnx:=hid (fun h:okV k c=true=>uA hc h hn.out); have q1:decide ((k:Int) < (s.length:Int))=true:=zP (by omega); clear hn hc; rcases (by omega:(0<=c.toNat/\c.toNat<=47)\/(48<=c.toNat/\c.toNat<=57)\/(58<=c.toNat/\c.toNat<=64)\/(65<=c.toNat/\c.toNat<=90)\/(91<=c.toNat/\c.toNat<=94)\/(95<=c.toNat/\c.toNat<=95)\/(96<=c.toNat/\c.toNat<=96)\/(97<=c.toNat/\c.toNat<=122)\/(123<=c.toNat/\c.toNat<=255)) with hcc | hcc | hcc | hcc | hcc | hcc | hcc | hcc | hcc
   ·-- 0 .. 47
    have d0:decide ((65:Int)<=(c.toNat:Int))=false:=zO (by omega); have d1:decide ((c.toNat:Int)<=90)=true:=zP (by omega); have d2:decide ((97:Int)<=(c.toNat:Int))=false:=zO (by omega); have d3:decide ((c.toNat:Int)<=122)=true:=zP (by omega); have d4:decide ((c.toNat:Int) < 48)=true:=zP (by omega); have d5:decide ((57:Int) < (c.toNat:Int))=false:=zO (by omega); have d7:((c.toNat:Int) != 95)=true:=bne_iff_ne.2 (by omega); have hfin:=hid (hno.out (by have h9:=noWd (c:=c) (by omega); unfold okV; split; exact mj (by omega); exact h9)); clear hnx hno; by_cases h0:k=0
    ·have g0:((k:Int) == 0)=true:=by rw [h0]; rfl
     replace h0:=hid h0; clear hcc hcl;go_wp2_with fail;go_ret; exact ⟨by rw [hfin.out]; rfl,hB.out⟩
    ·have g0:((k:Int) == 0)=false:=beq_eq_false_iff_ne.2 (by omega)
     clear hcc hcl;go_wp2_with fail;go_ret; exact ⟨by rw [hfin.out]; rfl,hB.out⟩
   ·-- 48 .. 57
    have d0:decide ((65:Int)<=(c.toNat:Int))=false:=zO (by omega); have d1:decide ((c.toNat:Int)<=90)=true:=zP (by omega); have d2:decide ((97:Int)<=(c.toNat:Int))=false:=zO (by omega); have d3:decide ((c.toNat:Int)<=122)=true:=zP (by omega); have d4:decide ((c.toNat:Int) < 48)=false:=zO (by omega); have d5:decide ((57:Int) < (c.toNat:Int))=false:=zO (by omega); have d7:((c.toNat:Int) != 95)=true:=bne_iff_ne.2 (by omega); by_cases h0:k=0
    ·have g0:((k:Int) == 0)=true:=by rw [h0]; rfl
     have hfin:=hid (hno.out (by unfold okV; rw [if_pos h0]; exact mj (by omega))); replace h0:=hid h0; clear hnx hno; clear hcc hcl;go_wp2_with fail;go_ret; exact ⟨by rw [hfin.out]; rfl,hB.out⟩
    ·have g0:((k:Int) == 0)=false:=beq_eq_false_iff_ne.2 (by omega)
     have hnx2:=hid (hnx.out (by unfold okV; rw [if_neg h0]; exact wdB (by omega))); clear hnx hno; clear hcc hcl;go_wp2_with fail;exact ⟨⟨k+1,by go_num,by omega,hnx2,hB⟩,by simp [intOf]; omega⟩
   ·-- 58 .. 64
    have d0:decide ((65:Int)<=(c.toNat:Int))=false:=zO (by omega); have d1:decide ((c.toNat:Int)<=90)=true:=zP (by omega); have d2:decide ((97:Int)<=(c.toNat:Int))=false:=zO (by omega); have d3:decide ((c.toNat:Int)<=122)=true:=zP (by omega); have d4:decide ((c.toNat:Int) < 48)=false:=zO (by omega); have d5:decide ((57:Int) < (c.toNat:Int))=true:=zP (by omega); have d7:((c.toNat:Int) != 95)=true:=bne_iff_ne.2 (by omega); have hfin:=hid (hno.out (by have h9:=noWd (c:=c) (by omega); unfold okV; split; exact mj (by omega); exact h9)); clear hnx hno; by_cases h0:k=0
    ·have g0:((k:Int) == 0)=true:=by rw [h0]; rfl
     replace h0:=hid h0; clear hcc hcl;go_wp2_with fail;go_ret; exact ⟨by rw [hfin.out]; rfl,hB.out⟩
    ·have g0:((k:Int) == 0)=false:=beq_eq_false_iff_ne.2 (by omega)
     clear hcc hcl;go_wp2_with fail;go_ret; exact ⟨by rw [hfin.out]; rfl,hB.out⟩
   ·-- 65 .. 90
    have d0:decide ((65:Int)<=(c.toNat:Int))=true:=zP (by omega); have d1:decide ((c.toNat:Int)<=90)=true:=zP (by omega); have d2:decide ((97:Int)<=(c.toNat:Int))=false:=zO (by omega); have d3:decide ((c.toNat:Int)<=122)=true:=zP (by omega); have d4:decide ((c.toNat:Int) < 48)=false:=zO (by omega); have d5:decide ((57:Int) < (c.toNat:Int))=true:=zP (by omega); have d7:((c.toNat:Int) != 95)=true:=bne_iff_ne.2 (by omega); have hnx2:=hid (hnx.out (by have h9:=letB (c:=c) (by omega); unfold okV; split; exact h9; exact iI h9)); clear hnx hno; clear hcc hcl;go_wp2_with fail;exact ⟨⟨k+1,by go_num,by omega,hnx2,hB⟩,by simp [intOf]; omega⟩
   ·-- 91 .. 94
    have d0:decide ((65:Int)<=(c.toNat:Int))=true:=zP (by omega); have d1:decide ((c.toNat:Int)<=90)=false:=zO (by omega); have d2:decide ((97:Int)<=(c.toNat:Int))=false:=zO (by omega); have d3:decide ((c.toNat:Int)<=122)=true:=zP (by omega); have d4:decide ((c.toNat:Int) < 48)=false:=zO (by omega); have d5:decide ((57:Int) < (c.toNat:Int))=true:=zP (by omega); have d7:((c.toNat:Int) != 95)=true:=bne_iff_ne.2 (by omega); have hfin:=hid (hno.out (by have h9:=noWd (c:=c) (by omega); unfold okV; split; exact mj (by omega); exact h9)); clear hnx hno; by_cases h0:k=0
    ·have g0:((k:Int) == 0)=true:=by rw [h0]; rfl
     replace h0:=hid h0; clear hcc hcl;go_wp2_with fail;go_ret; exact ⟨by rw [hfin.out]; rfl,hB.out⟩
    ·have g0:((k:Int) == 0)=false:=beq_eq_false_iff_ne.2 (by omega)
     clear hcc hcl;go_wp2_with fail;go_ret; exact ⟨by rw [hfin.out]; rfl,hB.out⟩
   ·-- 95 .. 95
    have d0:decide ((65:Int)<=(c.toNat:Int))=true:=zP (by omega); have d1:decide ((c.toNat:Int)<=90)=false:=zO (by omega); have d2:decide ((97:Int)<=(c.toNat:Int))=false:=zO (by omega); have d3:decide ((c.toNat:Int)<=122)=true:=zP (by omega); have d4:decide ((c.toNat:Int) < 48)=false:=zO (by omega); have d5:decide ((57:Int) < (c.toNat:Int))=true:=zP (by omega);(have d7:((c.toNat:Int) != 95)=false:=by rw [show (c.toNat:Int)=95 by omega]; rfl)
    by_cases h0:k=0
    ·have g0:((k:Int) == 0)=true:=by rw [h0]; rfl
     have hfin:=hid (hno.out (by unfold okV; rw [if_pos h0]; exact mj (by omega))); replace h0:=hid h0; clear hnx hno; clear hcc hcl;go_wp2_with fail;go_ret; exact ⟨by rw [hfin.out]; rfl,hB.out⟩
    ·have g0:((k:Int) == 0)=false:=beq_eq_false_iff_ne.2 (by omega)
     have hnx2:=hid (hnx.out (by unfold okV; rw [if_neg h0]; exact wdB (by omega))); clear hnx hno; clear hcc hcl;go_wp2_with fail;exact ⟨⟨k+1,by go_num,by omega,hnx2,hB⟩,by simp [intOf]; omega⟩
   ·-- 96 .. 96
    have d0:decide ((65:Int)<=(c.toNat:Int))=true:=zP (by omega); have d1:decide ((c.toNat:Int)<=90)=false:=zO (by omega); have d2:decide ((97:Int)<=(c.toNat:Int))=false:=zO (by omega); have d3:decide ((c.toNat:Int)<=122)=true:=zP (by omega); have d4:decide ((c.toNat:Int) < 48)=false:=zO (by omega); have d5:decide ((57:Int) < (c.toNat:Int))=true:=zP (by omega); have d7:((c.toNat:Int) != 95)=true:=bne_iff_ne.2 (by omega); have hfin:=hid (hno.out (by have h9:=noWd (c:=c) (by omega); unfold okV; split; exact mj (by omega); exact h9)); clear hnx hno; by_cases h0:k=0
    ·have g0:((k:Int) == 0)=true:=by rw [h0]; rfl
     replace h0:=hid h0; clear hcc hcl;go_wp2_with fail;go_ret; exact ⟨by rw [hfin.out]; rfl,hB.out⟩
    ·have g0:((k:Int) == 0)=false:=beq_eq_false_iff_ne.2 (by omega)
     clear hcc hcl;go_wp2_with fail;go_ret; exact ⟨by rw [hfin.out]; rfl,hB.out⟩
   ·-- 97 .. 122
    have d0:decide ((65:Int)<=(c.toNat:Int))=true:=zP (by omega); have d1:decide ((c.toNat:Int)<=90)=false:=zO (by omega); have d2:decide ((97:Int)<=(c.toNat:Int))=true:=zP (by omega); have d3:decide ((c.toNat:Int)<=122)=true:=zP (by omega); have d4:decide ((c.toNat:Int) < 48)=false:=zO (by omega); have d5:decide ((57:Int) < (c.toNat:Int))=true:=zP (by omega); have d7:((c.toNat:Int) != 95)=true:=bne_iff_ne.2 (by omega); have hnx2:=hid (hnx.out (by have h9:=letB (c:=c) (by omega); unfold okV; split; exact h9; exact iI h9)); clear hnx hno; clear hcc hcl;go_wp2_with fail;exact ⟨⟨k+1,by go_num,by omega,hnx2,hB⟩,by simp [intOf]; omega⟩
   ·-- 123 .. 255
    have d0:decide ((65:Int)<=(c.toNat:Int))=true:=zP (by omega); have d1:decide ((c.toNat:Int)<=90)=false:=zO (by omega); have d2:decide ((97:Int)<=(c.toNat:Int))=true:=zP (by omega); have d3:decide ((c.toNat:Int)<=122)=false:=zO (by omega); have d4:decide ((c.toNat:Int) < 48)=false:=zO (by omega); have d5:decide ((57:Int) < (c.toNat:Int))=true:=zP (by omega); have d7:((c.toNat:Int) != 95)=true:=bne_iff_ne.2 (by omega); have hfin:=hid (hno.out (by have h9:=noWd (c:=c) (by omega); unfold okV; split; exact mj (by omega); exact h9)); clear hnx hno; by_cases h0:k=0
    ·have g0:((k:Int) == 0)=true:=by rw [h0]; rfl
     replace h0:=hid h0; clear hcc hcl;go_wp2_with fail;go_ret; exact ⟨by rw [hfin.out]; rfl,hB.out⟩
    ·have g0:((k:Int) == 0)=false:=beq_eq_false_iff_ne.2 (by omega)
     clear hcc hcl;go_wp2_with fail;go_ret; exact ⟨by rw [hfin.out]; rfl,hB.out⟩
  ·have hkl:k=s.length:=by omega
   subst hkl; have q1:decide ((s.length:Int) < (s.length:Int))=false:=zO (by omega); rcases s with _ | ⟨c,r⟩
   ·have hfin:res=false:=hres.out.symm
    subst hfin; clear hn hres;go_wp2_with fail;go_ret; exact ⟨rfl,hB.out⟩
   ·have hfin:res = !fX (c::r):=hres.out.symm.trans (by unfold et; rw [zo hn.out]; rfl)
    have hne:((c::r) == [])=false:=rfl; have hcall:=hid (fun w=>oB (c::r) w); clear hn hres; replace hfin:=hid hfin;go_wp2_with fail;refine (hcall.out _).mono ?_; rintro e w1 ⟨rfl,rfl⟩;go_wp2_with fail;go_ret; exact ⟨by rw [hfin.out]; rfl,hB.out⟩
theorem dO (s:List UInt8) (w:World) (hs:s.length<=1048576):Calls Tryz.prog 95 #[sv s] w fun e w'=>e=.returned (.bool (dz s))/\Below w.heap.size w w':=by
 have hcall:=hid (fZ s w hs); obtain ⟨res,hres⟩:∃ res,dz s=res:=⟨_,rfl⟩; rw [hres]; obtain ⟨z,hz⟩:∃ z,et s=z:=⟨_,rfl⟩; rw [hz] at hcall; unfold dz at hres; rw [hz] at hres
 cases z with
 | false =>
  replace hres:=hid (show false=res by simpa using hres)
  go_enter Tryz.func95,Tryz.ntmps95
  go_wp2_with fail
  with_reducible refine hcall.out.mono ?_
  rintro e w1 ⟨rfl,hb⟩
  go_wp2_with fail
  go_ret; exact ⟨by rw [← hres.out]; rfl,hb⟩
 | true =>
  rcases s with _ | ⟨c,r⟩
  ·exact absurd hz (by decide)
  ·have hx0:=f8 (P:=Tryz.prog) 9 (by kernel_rfl) c r
   replace hz:=hid hz; obtain ⟨z1,h1⟩:∃ z,decide (97<=c.toNat)=z:=⟨_,rfl⟩; obtain ⟨z2,h2⟩:∃ z,decide (c.toNat<=122)=z:=⟨_,rfl⟩
   have hres2:(z1 && z2)=res:=by rw [← h1,← h2]; simpa using hres
   have g1:decide ((97:Int)<=(c.toNat:Int))=z1:=by rw [← h1]; exact decide_eq_decide.2 (by omega)
   have g2:decide ((c.toNat:Int)<=122)=z2:=by rw [← h2]; exact decide_eq_decide.2 (by omega)
   clear hres h1 h2; replace hres2:=hid hres2; cases z1 <;> cases z2
   all_goals
    go_enter Tryz.func95,Tryz.ntmps95;go_wp2_with fail;(with_reducible refine hcall.out.mono ?_);rintro e w1 ⟨rfl,hb⟩;go_wp2_with fail;go_ret; exact ⟨by rw [← hres2.out]; rfl,hb⟩
end Go.Proofs.YtffdpoifdahadaaGreatDoor
namespace Go.Proofs.YtffdpoifdahadaaGreatDoor
open Go.RowKit
open Go.Lib (hid)
inductive Val where
 | mk (kind:Int) (t:List UInt8) (n m:Int) (s:List UInt8) (l:List Val)
namespace Val
def kind:Val->Int | mk k _ _ _ _ _=>k
def t:Val->List UInt8 | mk _ t _ _ _ _=>t
def n:Val->Int | mk _ _ n _ _ _=>n
def m:Val->Int | mk _ _ _ m _ _=>m
def s:Val->List UInt8 | mk _ _ _ _ s _=>s
def l:Val->List Val | mk _ _ _ _ _ l=>l
end Val
inductive ValB:Val->Prop
 | mk (x:Val) (h1:x.l.length<=1048576) (h2:x.t.length<=1048576) (h3:x.s.length<=1048576) (h4:∀ y∈x.l,ValB y):ValB x
theorem ValB.len {x:Val} (h:ValB x):x.l.length<=1048576:=by cases h; assumption
theorem ValB.mem {x y:Val} (h:ValB x) (hy:y∈x.l):ValB y:=by cases h; rename_i h4; exact h4 y hy
def ValsB (l:List Val):Prop:=l.length<=1048576/\∀ x∈l,ValB x
theorem ValB.l {x:Val} (h:ValB x):ValsB x.l:=⟨h.len,fun _=>h.mem⟩

def fv {α:Type} (E:TypeId) (sz:Nat) (R:Rel α) (S:aP) (w:World) (l:List α) (v:Value) (k:Nat):Prop :=
 ∃ xs,w.ownsRow 0 E sz v l.length xs/\(∀ q,v.ownBlock=some q->S q)/\∀ i x,i < k->l[i]? = some x->∃ cs,(∀ j u,cs[j]? = some u->xs[i * sz+j]? = some u)/\R (fun q=>S q/\v.ownBlock≠some q) w x cs
section
variable {α:Type} {E:TypeId} {sz:Nat} {R:Rel α} {S T:aP} {w w':World} {x:α} {l:List α} {v:Value} {k:Nat}
theorem fv.start {base:Nat} {xs:List Value} (h:w.ownsRow base E sz v l.length xs) (hs:∀ q,base<=q->S q):fv E sz R S w l v 0 :=
 ⟨xs,aJ h (fun _ _=>rfl) (fun _ _=>zW _),fun q hq=>hs q (h.lt q hq).1,fun i x hi=>absurd hi (by omega)⟩
theorem fv.all (h:fv E sz R S w l v l.length):aO E sz R S w l v:=by
 obtain ⟨xs,h1,h2,h3⟩:=h; exact ⟨xs,h1,h2,fun i x hx=>h3 i x (List.getElem?_eq_some_iff.1 hx).1 hx⟩
theorem fv.move (hR:dA sz R) (h:fv E sz R S w l v k) (hm:∀ q,q < w.heap.size->S q->T q/\w'.heap[q]? = w.heap[q]?):fv E sz R T w' l v k:=by
 obtain ⟨xs,h1,h2,h3⟩:=h; refine ⟨xs,aJ h1 (fun q hq=>(hm q (h1.lt q hq).2 (h2 q hq)).2) (fun _ _=>zW _),fun q hq=>(hm q (h1.lt q hq).2 (h2 q hq)).1,fun i x hi hx=>?_⟩; obtain ⟨cs,h4,h5⟩:=h3 i x hi hx; exact ⟨cs,h4,hR.move h5 fun q hq hs=>⟨⟨(hm q hq hs.1).1,hs.2⟩,(hm q hq hs.1).2⟩⟩
theorem fv.below (hR:dA sz R) (h:fv E sz R S w l v k) (hb:Below w.heap.size w w'):fv E sz R S w' l v k:=h.move hR fun q hq hs=>⟨hs,hb.block q hq⟩
theorem fv.lt (h:fv E sz R S w l v k) {q:Nat} (hq:v.ownBlock=some q):q < w.heap.size:=by obtain ⟨xs,h1,_⟩:=h; exact (h1.lt q hq).2
theorem fv.there {g n cap i j:Nat} (h:fv E sz R S w l (.slice (some ⟨g,0,none⟩) n cap) k) (hi:i < l.length) (hj:j < sz):(∃ u,w.cell? ⟨g,i * sz+j,none⟩=some u)/\w.frozen? ⟨g,i * sz+j,none⟩=false:=by
 obtain ⟨xs,h1,_⟩:=h; obtain ⟨a,c,e,_,_⟩:=bp h1; simp only [Value.slice.injEq] at e; obtain ⟨-,rfl,-⟩:=e
 have hle:i * sz+sz<=l.length * sz:=by rw [← Nat.succ_mul]; exact Ak _ hi
 refine ⟨?_,h1.frozenAt _⟩; rw [h1.cellAt _ (by omega)]; exact ⟨_,zR (by rw [h1.1]; omega)⟩
theorem fv.set (hR:dA sz R) {g n cap:Nat} (h:fv E sz R S w l (.slice (some ⟨g,0,none⟩) n cap) k) (hi:l[k]? = some x) {cs:List Value} (hx:R (fun q=>S q/\q≠g) w x cs) :
  fv E sz R S (setCells w g (k * sz) cs) l (.slice (some ⟨g,0,none⟩) n cap) (k+1):=by
 obtain ⟨xs,h1,h2,h3⟩:=h; obtain ⟨a,c,e,_,_⟩:=bp h1; simp only [Value.slice.injEq] at e; obtain ⟨-,rfl,-⟩:=e; have hk:=(List.getElem?_eq_some_iff.1 hi).1; have hcl:=hR.len hx
 have hle:k * sz+sz<=l.length * sz:=by rw [← Nat.succ_mul]; exact Ak _ hk
 refine ⟨ff xs (k * sz) cs,eh cs w xs (k * sz) h1 (by omega),h2,fun i y hik hy=>?_⟩
 have hfr:∀ (q:Nat),q < w.heap.size->(S q/\(Value.slice (some ⟨g,0,none⟩) l.length cap).ownBlock≠some q)->(S q/\(Value.slice (some ⟨g,0,none⟩) l.length cap).ownBlock≠some q)/\(setCells w g (k * sz) cs).heap[q]? = w.heap[q]? :=
  fun q _ hs=>⟨hs,fV g cs w _ q (fun e=>hs.2 (by rw [e]; rfl))⟩
 by_cases e:i=k
 ·subst e
  rw [hi] at hy; injection hy with hy; subst hy; refine ⟨cs,fun j u hu=>?_,?_⟩
  ·have hj:=(List.getElem?_eq_some_iff.1 hu).1
   rw [jo cs xs _ _ hj (by rw [h1.1]; omega)]; exact hu
  ·exact hR.move hx fun q hq hs=>hfr q hq ⟨hs.1,fun e=>hs.2 (by injection e with e; exact e.symm)⟩
 ·obtain ⟨ds,h4,h5⟩:=h3 i y (by omega) hy
  refine ⟨ds,fun j u hu=>?_,hR.move h5 hfr⟩
  have hj:j < sz:=by have:=(List.getElem?_eq_some_iff.1 hu).1; rw [hR.len h5] at this; exact this
  have:i * sz+sz<=k * sz:=by rw [← Nat.succ_mul]; exact Ak _ (by omega)
  rw [fe cs xs _ _ (by omega)]; exact h4 j u hu
end
end Go.Proofs.YtffdpoifdahadaaGreatDoor
