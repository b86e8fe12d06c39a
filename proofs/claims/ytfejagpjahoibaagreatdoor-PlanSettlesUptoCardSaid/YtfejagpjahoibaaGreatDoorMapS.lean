/- MapS: MapV, MapS, in one text. -/
import Derived.Test.YtfejagpjahoibaaGreatDoorRel
import Derived.Maps.Own
import Derived.Maps.OwnOps
import Derived.Maps.OwnSet
import Derived.Maps.Views
import Derived.Test.YtfejagpjahoibaaGreatDoorChecked
set_option linter.unusedVariables false
namespace Go.Proofs.YtfejagpjahoibaaGreatDoor
open Go.RowKit
open Go.Maps (Keyed has IsMap)
def heldV:Value→Option (DataW Value × List MemPlace):=fun v=>some (.held v,[])
/-- block b is a map of at most N entries; f says which value stands at which key -/
def MapV (P:Program) (k:TypeId) (b N:Nat) (f:Lit→Option Value) (w:World):Prop :=
 ∃ D:DataW Value,w.ownsMap P k heldV b N D∧∀ kl,WideAt.IsKeyLit kl→has D kl=(f kl).isSome∧∀ v,f kl=some v→∀ z,D.atKey kl z=.held v
section
variable {P:Program} {k e t:TypeId} {b N:Nat} {f:Lit→Option Value} {w w':World}
theorem MapV.made (w:World):MapV P k w.heap.size 0 (fun _=>none) (w.alloc (.map #[] 0)) :=
 ⟨.map [],World.ownsMap_made _ _ _ _,fun kl _=>⟨rfl,fun v h=>by cases h⟩⟩
theorem MapV.lt (h:MapV P k b N f w):b < w.heap.size:=by obtain ⟨D,h1,_⟩:=h; exact h1.lt
theorem MapV.obj (h:MapV P k b N f w):∃ es clock,w.heap[b]? = some (.map es clock):=by obtain ⟨D,⟨es,clock,h1,_⟩,_⟩:=h; exact ⟨es,clock,h1⟩
theorem MapV.same (h:MapV P k b N f w) (hb:w'.heap[b]? = w.heap[b]?):MapV P k b N f w':=by
 obtain ⟨D,⟨es,clock,h1,h2⟩,h3⟩:=h; exact ⟨D,⟨es,clock,hb.trans h1,h2⟩,h3⟩
theorem MapV.mono (h:MapV P k b N f w) {M:Nat} (hN:N≤M):MapV P k b M f w:=by obtain ⟨D,h1,h2⟩:=h; exact ⟨D,h1.mono hN,h2⟩
theorem MapV.below (h:MapV P k b N f w) {B:Nat} (hb:Below B w w') (hB:b < B):MapV P k b N f w':=h.same (hb.block b hB)
theorem MapV.fr (h:MapV P k b N f w) {G:Foot} (hf:Fr G w w') (hs:¬ G b):MapV P k b N f w':=h.same (hf.block b h.lt hs)
theorem MapV.alloc (h:MapV P k b N f w) (o:Obj):MapV P k b N f (w.alloc o):=h.same (Below.heap_alloc _ _ _ h.lt)
theorem MapV.drew (h:MapV P k b N f w):MapV P k b N f w.drew:=h.same rfl
theorem MapV.drewN (h:MapV P k b N f w) (n:Nat):MapV P k b N f (w.drewN n):=h.same rfl
theorem MapV.setCell (h:MapV P k b N f w) {p:Addr} (hp:p.block≠b) (u:Value):MapV P k b N f (w.setCell p u):=h.same (Below.heap_setCell _ _ _ _ (Ne.symm hp))
theorem MapV.congr {g:Lit→Option Value} (h:MapV P k b N f w) (hg:∀ kl,WideAt.IsKeyLit kl→g kl=f kl):MapV P k b N g w:=by
 obtain ⟨D,h1,h2⟩:=h; exact ⟨D,h1,fun kl hk=>by rw [hg kl hk]; exact h2 kl hk⟩
theorem MapV.look (h:MapV P k b N f w) (K:Keyed P k) (ht:P.underlying t=some (.map k e)) {z:Value} (hz:(zeroValue e).run P w=.ok z w) {key:Value} {kl:Lit} (hkey:keyOf P k key=some kl) (hkl:WideAt.IsKeyLit kl) :
  (Instr.lookup t (.map (some b)) key false).run P w=.ok ((f kl).getD z) w:=by
 obtain ⟨D,h1,h2⟩:=h; obtain ⟨v,ps,hrun,hv⟩:=h1.lookup K ht hz (zd:=.held z) (zp:=[]) rfl hkey
 have hv2:DataW.held v=D.atKey kl (.held z):=by simp only [heldV,Option.some.injEq,Prod.mk.injEq] at hv; exact hv.1
 rw [hrun]; obtain ⟨h3,h4⟩:=h2 kl hkl; rcases hf:f kl with _ | u
 ·rw [hf] at h3
  rw [Maps.atKey_of_not_has (by simpa using h3)] at hv2; injection hv2 with hv2; subst hv2; rfl
 ·rw [h4 u hf] at hv2
  injection hv2 with hv2; subst hv2; rfl
theorem MapV.look_ok (h:MapV P k b N f w) (K:Keyed P k) (ht:P.underlying t=some (.map k e)) {z:Value} (hz:(zeroValue e).run P w=.ok z w) {key:Value} {kl:Lit} (hkey:keyOf P k key=some kl) (hkl:WideAt.IsKeyLit kl) :
  (Instr.lookup t (.map (some b)) key true).run P w=.ok (.tuple #[(f kl).getD z,.bool (f kl).isSome]) w:=by
 obtain ⟨D,h1,h2⟩:=h; obtain ⟨v,ps,hrun,hv⟩:=h1.look_ok K ht hz (zd:=.held z) (zp:=[]) rfl hkey
 have hv2:DataW.held v=D.atKey kl (.held z):=by simp only [heldV,Option.some.injEq,Prod.mk.injEq] at hv; exact hv.1
 rw [hrun]; obtain ⟨h3,h4⟩:=h2 kl hkl; rcases hf:f kl with _ | u
 ·rw [hf] at h3
  rw [Maps.atKey_of_not_has (by simpa using h3)] at hv2; injection hv2 with hv2; subst hv2; rw [h3]; rfl
 ·rw [hf] at h3
  rw [h4 u hf] at hv2; injection hv2 with hv2; subst hv2; rw [h3]; rfl
open Classical in
noncomputable def putF (f:Lit→Option Value) (kl:Lit) (v:Value):Lit→Option Value:=fun x=>if x=kl then some v else f x
theorem MapV.put (h:MapV P k b N f w) (K:Keyed P k) (ht:P.underlying t=some (.map k e)) (hN:N < maxLen) {key:Value} {kl:Lit} (hkey:keyOf P k key=some kl) (hkl:WideAt.IsKeyLit kl) (v:Value) :
  ∃ w',(Instr.mapUpdate t (.map (some b)) key v).run P w=.ok () w'∧MapV P k b (N+1) (putF f kl v) w'∧w.grownBy w' (some b):=by
 obtain ⟨D,h1,h2⟩:=h; obtain ⟨w',hrun,h3,h4⟩:=h1.update K ht hN hkey (val:=v) (d:=.held v) (ps:=[]) rfl
 have hm:IsMap D:=by obtain ⟨es,clock,_,_,_,rfl⟩:=h1; exact ⟨_,rfl⟩
 refine ⟨w',hrun,⟨_,h3,fun x hx=>?_⟩,h4⟩; unfold putF; by_cases e:x=kl
 ·subst e
  rw [if_pos rfl]; refine ⟨Maps.has_put_same hm hx _,fun u hu z=>?_⟩; injection hu with hu; subst hu; exact Maps.atKey_put_same hm hx _ z
 ·rw [if_neg e]
  refine ⟨(Maps.has_put_other e _).trans (h2 x hx).1,fun u hu z=>?_⟩; rw [Maps.atKey_put_other e]; exact (h2 x hx).2 u hu z
end
end Go.Proofs.YtfejagpjahoibaaGreatDoor
set_option linter.unusedSimpArgs false
namespace Go.Proofs.YtfejagpjahoibaaGreatDoor
open Go.RowKit
open Go.Maps (Keyed has IsMap)
open Go.Lib (hid)
/-- a map of exactly m entries -/
def MapS (P:Program) (k:TypeId) (b:Nat) (f:Lit→Option Value) (m:Nat) (w:World):Prop :=
 ∃ D:DataW Value,w.ownsMap P k heldV b m D∧(∀ kl,WideAt.IsKeyLit kl→has D kl=(f kl).isSome∧∀ v,f kl=some v→∀ z,D.atKey kl z=.held v)∧Maps.size D=m
section
variable {P:Program} {k e t:TypeId} {b m:Nat} {f:Lit→Option Value} {w w':World}
theorem MapS.v (h:MapS P k b f m w):MapV P k b m f w:=by
 obtain ⟨D,h1,h2,-⟩:=h; exact ⟨D,h1,h2⟩
theorem owns_exact {D:DataW Value} {n:Nat} (h:w.ownsMap P k heldV b n D):w.ownsMap P k heldV b (Maps.size D) D:=by
 obtain ⟨es,clock,hb,F,hs,hD⟩:=h; refine ⟨es,clock,hb,F,?_,hD⟩; have:∃ l:List (Lit × DataW Value),D=.map l∧l.length=es.size:=⟨_,hD,by rw [length_sorted]; simp⟩; obtain ⟨l,e1,e2⟩:=this; rw [e1,Maps.size_eq,e2]; exact Nat.le_refl _
theorem MapS.made (w:World):MapS P k w.heap.size (fun _=>none) 0 (w.alloc (.map #[] 0)) :=
 ⟨.map [],World.ownsMap_made _ _ _ _,fun kl _=>⟨rfl,fun v h=>by cases h⟩,rfl⟩
theorem MapS.same (h:MapS P k b f m w) (hb:w'.heap[b]? = w.heap[b]?):MapS P k b f m w':=by
 obtain ⟨D,⟨es,clock,h1,h2⟩,h3⟩:=h; exact ⟨D,⟨es,clock,hb.trans h1,h2⟩,h3⟩
theorem MapS.congr {g:Lit→Option Value} (h:MapS P k b f m w) (hg:∀ kl,WideAt.IsKeyLit kl→g kl=f kl):MapS P k b g m w:=by
 obtain ⟨D,h1,h2,h3⟩:=h; exact ⟨D,h1,fun kl hk=>by rw [hg kl hk]; exact h2 kl hk,h3⟩
theorem MapS.len (h:MapS P k b f m w) (ht:P.underlying t=some (.map k e)) (ty:TypeId):(Builtin.len_ #[t] ty #[.map (some b)]).run P w=.ok (.int .i64 m) w:=by
 obtain ⟨D,h1,-,h3⟩:=h; rw [h1.len ht ty,h3]
theorem MapS.put (h:MapS P k b f m w) (K:Keyed P k) (ht:P.underlying t=some (.map k e)) (hN:m < maxLen) {key:Value} {kl:Lit} (hkey:keyOf P k key=some kl) (hkl:WideAt.IsKeyLit kl) (v:Value) :
  ∃ w',(Instr.mapUpdate t (.map (some b)) key v).run P w=.ok () w'∧MapS P k b (putF f kl v) (if (f kl).isSome=true then m else m+1) w'∧w.grownBy w' (some b):=by
 obtain ⟨D,h1,h2,h3⟩:=h; obtain ⟨w',hrun,h4,h5⟩:=h1.update K ht hN hkey (val:=v) (d:=.held v) (ps:=[]) rfl
 have hm:IsMap D:=by obtain ⟨es,clock,_,_,_,rfl⟩:=h1; exact ⟨_,rfl⟩
 have hsz:=Maps.size_put (k:=kl) (h1.tidy K) (DataW.held v); rw [(h2 kl hkl).1,h3] at hsz; have h6:=owns_exact h4; rw [hsz] at h6; refine ⟨w',hrun,⟨_,h6,fun x hx=>?_,hsz⟩,h5⟩; unfold putF; by_cases e:x=kl
 ·subst e
  rw [if_pos rfl]; refine ⟨Maps.has_put_same hm hx _,fun u hu z=>?_⟩; injection hu with hu; subst hu; exact Maps.atKey_put_same hm hx _ z
 ·rw [if_neg e]
  refine ⟨(Maps.has_put_other e _).trans (h2 x hx).1,fun u hu z=>?_⟩; rw [Maps.atKey_put_other e]; exact (h2 x hx).2 u hu z
end
theorem keyStr (s:List UInt8) (h:s.length≤1048576):keyOf Tryz.prog 9 (sv s)=some (.string s):=by
 have:=WideMaps.keyOf_string_mk (P:=Tryz.prog) (k:=9) Tryz.underlying9 (s:=⟨s.toArray⟩) (by rw [ByteArray.size_mk',List.size_toArray]; unfold maxLen; omega); simpa using this
def setF (S:List (List UInt8)):Lit→Option Value
 | .string s=>if s∈S then some (.bool true) else none
 | _=>none
/-- the map at b is the set of the strings of S -/
def SetM (b:Nat) (S:List (List UInt8)) (w:World):Prop:=∃ m,MapS Tryz.prog 9 b (setF S) m w∧m≤S.length∧(m=0 ↔ S=[])
theorem SetM.made (w:World):SetM w.heap.size [] (w.alloc (.map #[] 0)):=⟨0,(MapS.made w).congr fun kl _=>by cases kl <;> simp [setF],Nat.le_refl _,by simp⟩
theorem SetM.same {b:Nat} {S:List (List UInt8)} {w w':World} (h:SetM b S w) (hb:w'.heap[b]? = w.heap[b]?):SetM b S w':=by
 obtain ⟨m,h1,h2⟩:=h; exact ⟨m,h1.same hb,h2⟩
theorem SetM.lt {b:Nat} {S:List (List UInt8)} {w:World} (h:SetM b S w):b < w.heap.size:=by
 obtain ⟨m,h1,h2⟩:=h; exact h1.v.lt
theorem SetM.below {b:Nat} {S:List (List UInt8)} {w w':World} (h:SetM b S w) (hb:Below w.heap.size w w'):SetM b S w':=h.same (hb.block b h.lt)
theorem SetM.fr {b:Nat} {S:List (List UInt8)} {w w':World} {F:Foot} (h:SetM b S w) (hf:Fr F w w') (hn:¬ F b):SetM b S w':=h.same (hf.block b h.lt hn)
theorem SetM.perm {b:Nat} {S T:List (List UInt8)} {w:World} (h:SetM b S w) (hp:S.Perm T):SetM b T w:=by
 obtain ⟨m,h1,h2,h3⟩:=h; refine ⟨m,h1.congr fun kl _=>?_,by rw [← hp.length_eq]; exact h2,by rw [h3]; exact ⟨fun e=>by subst e; exact hp.symm.eq_nil,fun e=>by subst e; exact hp.eq_nil⟩⟩
 cases kl with
 | string x =>
  have:=hp.mem_iff (a:=x); by_cases e:x∈S <;> simp [setF,e,this.1,← this]
 | _=>rfl
theorem SetM.look {b:Nat} {S:List (List UInt8)} {w:World} (h:SetM b S w) {s:List UInt8} (hs:s.length≤1048576) :
  (Instr.lookup 94 (.map (some b)) (sv s) false).run Tryz.prog w=.ok (.bool (decide (s∈S))) w:=by
 obtain ⟨m,h1,-⟩:=h; have:=h1.v.look (Maps.string_keyed Tryz.underlying9) (t:=94) (e:=4) Tryz.underlying94 (z:=.bool false) (by kernel_rfl) (keyStr s hs) trivial; rw [this]; unfold setF; by_cases e:s∈S
 ·simp [e]
 ·simp [e]
theorem SetM.len {b:Nat} {S:List (List UInt8)} {w:World} (h:SetM b S w) (ty:TypeId):∃ m:Nat,(Builtin.len_ #[94] ty #[.map (some b)]).run Tryz.prog w=.ok (iv m) w∧(m=0 ↔ S=[]):=by
 obtain ⟨m,h1,h2,h3⟩:=h; exact ⟨m,h1.len Tryz.underlying94 ty,h3⟩
theorem SetM.put {b:Nat} {S:List (List UInt8)} {w:World} (h:SetM b S w) {s:List UInt8} (hs:s.length≤1048576) (hS:S.length≤1048576) :
  ∃ w',(Instr.mapUpdate 94 (.map (some b)) (sv s) (.bool true)).run Tryz.prog w=.ok () w'∧SetM b (s::S) w'∧w.grownBy w' (some b):=by
 obtain ⟨m,h1,h2,h3⟩:=h; obtain ⟨w',e1,e2,e3⟩:=h1.put (Maps.string_keyed Tryz.underlying9) (t:=94) (e:=4) Tryz.underlying94 (by unfold maxLen; omega) (keyStr s hs) trivial (.bool true); refine ⟨w',e1,⟨_,e2.congr fun kl _=>?_,?_,?_⟩,e3⟩
 ·unfold putF
  cases kl with
  | string x =>
   simp only [setF,List.mem_cons,Lit.string.injEq]; by_cases e:x=s
   ·simp [e]
   ·simp [e]
  | _=>simp [setF]
 ·split <;> simp <;> omega
 ·simp only [setF]
  by_cases e:s∈S
  ·simp [e]; intro h0; rw [h3.1 h0] at e; cases e
  ·simp [e]
end Go.Proofs.YtfejagpjahoibaaGreatDoor
