/- ask: Same of equal queries. -/
import Derived.Test.YtbkdakbhagjkhaaGreatDoorAskYe
set_option linter.unusedVariables false
set_option linter.unusedSimpArgs false
namespace Go.Proofs.YtbkdakbhagjkhaaGreatDoor
open Go.RowKit
open Go.Lib (hid byteCells itoa)
/-- a call that answers true and makes new blocks alone -/
def PTrue (w : World) (e : Ending) (w' : World) : Prop:=e = .returned (.bool true) ∧ Below w.heap.size w w'
set_option maxHeartbeats 2000000 in
set_option maxRecDepth 100000 in
theorem eqValues0 (a a' : Option Addr) (c c' : Nat) (w : World) : Calls Tryz.prog 83 #[.slice a 0 c,.slice a' 0 c',.func (Fn.func 65) #[] #[]] w (PTrue w):=by
 go_enter Tryz.func83,Tryz.ntmps83
 go_wp2_with fail
 go_loopg [17] 0 (fun g i wr=>i = iv 0 ∧ wr = w)
 case atStart=>exact ⟨rfl,rfl⟩
 case round =>
  obtain ⟨rfl,rfl⟩:=hrel
  go_wp2_with fail
  go_ret; exact ⟨rfl,Below.refl _ _⟩
set_option maxHeartbeats 2000000 in
set_option maxRecDepth 100000 in
theorem sameValue_t (t : Tg) (h0 : t.ln = 0) (a a' : Option Addr) (c c' : Nat) (w : World) : Calls Tryz.prog 65 #[.agg (vcells t a c),.agg (vcells t a' c')] w (PTrue w):=by
 obtain ⟨var,kind,vt,n,m,vs,ln⟩:=t; replace h0 : ln = 0:=h0; subst h0; show Calls Tryz.prog 65 #[.agg #[iv kind,sv vt,iv n,iv m,sv vs,.slice a 0 c],.agg #[iv kind,sv vt,iv n,iv m,sv vs,.slice a' 0 c']] w (PTrue w); have hb:=hid (((Below.refl w.heap.size w).alloc (Nat.le_refl _) (.cells #[iv kind,sv vt,iv n,iv m,sv vs,.slice a 0 c] 42)).alloc (by simp) (.cells #[iv kind,sv vt,iv n,iv m,sv vs,.slice a' 0 c'] 42)); have he:=hid (fun W=>eqValues0 a a' c c' W)
 go_enter Tryz.func65,Tryz.ntmps65
 go_wp2_with fail
 with_reducible refine (he.out _).mono ?_
 rintro e w1 ⟨rfl,hb1⟩; have hb2:=hid (hb.out.trans (hb1.mono hb.out.size)); clear hb1
 go_wp2_with fail
 go_ret; exact ⟨rfl,hb2.out⟩
def Tok (t : Tg) : Prop:=t.ln = 0
def Lok (x : Lg) : Prop:=x.args.length ≤ 9223372036854775807 ∧ ∀ t ∈ x.args,Tok t
def Rok (r : Rg) : Prop:=Lok r.head ∧ r.body.length ≤ 9223372036854775807 ∧ ∀ x ∈ r.body,Lok x
set_option maxHeartbeats 2000000 in
set_option maxRecDepth 100000 in
theorem sameTerm_t (t : Tg) (h0 : Tok t) (a a' : Option Addr) (c c' : Nat) (w : World) : Calls Tryz.prog 41 #[.agg (gcells t a c),.agg (gcells t a' c')] w (PTrue w):=by
 have hbA : Below w.heap.size w (w.alloc (.cells (gcells t a c) 44)):=(Below.refl _ _).alloc (Nat.le_refl _) _; have hnA:=heap_alloc_new' w (.cells (gcells t a c) 44); have hnB:=heap_alloc_new' (w.alloc (.cells (gcells t a c) 44)) (.cells (gcells t a' c') 44); rw [show (w.alloc (.cells (gcells t a c) 44)).heap.size = w.heap.size + 1 from by simp] at hnB; have hnA2:=(Below.heap_alloc (w.alloc (.cells (gcells t a c) 44)) (.cells (gcells t a' c') 44) w.heap.size (by simp)).trans hnA; obtain ⟨d0,d1,d2,d3,d4,d5,d6⟩:=g_cells hnA2; obtain ⟨f0,f1,f2,f3,f4,f5,f6⟩:=g_cells hnB; have hb:=hid (hbA.alloc hbA.size (.cells (gcells t a' c') 44)); have hcl:=hid (sameValue_t t h0 a a' c c' ((w.alloc (.cells (gcells t a c) 44)).alloc (.cells (gcells t a' c') 44)))
 replace hnA:=hid hnA; replace hnA2:=hid hnA2; replace hnB:=hid hnB; clear hbA
 go_enter Tryz.func41,Tryz.ntmps41
 go_wp2_with fail
 with_reducible refine hcl.out.mono ?_
 rintro e w1 ⟨rfl,hb1⟩; have hb2:=hid (hb.out.trans (hb1.mono hb.out.size)); clear hb1
 go_wp2_with fail
 go_ret; exact ⟨rfl,hb2.out⟩
set_option maxHeartbeats 2000000 in
set_option maxRecDepth 100000 in
theorem eqTerms_t (l : List Tg) (hml : l.length ≤ 9223372036854775807) (hok : ∀ x ∈ l,Tok x) (v v' : Value) (S S' : Foot) (w : World) (h : SlR 7 TgR S w l v) (h' : SlR 7 TgR S' w l v') :
  Calls Tryz.prog 40 #[v,v',.func (Fn.func 41) #[] #[]] w (PTrue w):=by
 obtain ⟨a,c,rfl⟩ : ∃ a c,v = .slice a l.length c:=by obtain ⟨a,c,e,_⟩:=h.slice; exact ⟨a,c,e⟩
 obtain ⟨a',c',rfl⟩ : ∃ a c,v' = .slice a l.length c:=by obtain ⟨a,c,e,_⟩:=h'.slice; exact ⟨a,c,e⟩
 replace h:=hid h; replace h':=hid h'; replace hok:=hid hok
 go_enter Tryz.func40,Tryz.ntmps40
 go_wp2_with fail
 go_loopg [17] l.length (fun g i wr=>∃ k : Nat,i = iv k ∧ k + g = l.length ∧ Hid (Below w.heap.size w wr))
 case atStart=>exact ⟨0,rfl,by omega,hid (Below.refl _ _)⟩
 case round =>
  obtain ⟨k,rfl,hkg,hb⟩:=hrel; by_cases hlt : k < l.length
  ·have q1 : decide ((k : Int) < (l.length : Int)) = true:=decide_eq_true (by omega)
   obtain ⟨x,hx⟩ : ∃ x,l[k]? = some x:=⟨_,List.getElem?_eq_getElem hlt⟩; have hx0:=hok.out x (List.mem_of_getElem? hx)
   have e1 : IntKind.i64.wrap ((k : Int) + 1) = ((k + 1 : Nat) : Int):=by rw [IntKind.wrap_i64]; omega
   obtain ⟨pg,po,pcs,pidx,-,pgl,ph,pr0⟩:=(h.out.below goodTg hb.out).at (P:=Tryz.prog) (t:=26) (by kernel_rfl) (fun _=>by kernel_rfl) hx; obtain ⟨pa,pc,pr⟩:=pr0; subst pr; have d0:=ph 0 _ rfl; have d1:=ph 1 _ rfl; have d2:=ph 2 _ rfl; have d3:=ph 3 _ rfl; have d4:=ph 4 _ rfl; have d5:=ph 5 _ rfl; have d6:=ph 6 _ rfl; rw [Nat.add_zero] at d0; have hbA : Below wr.heap.size wr (wr.alloc (.cells (gcells x pa pc) 44)):=(Below.refl _ _).alloc (Nat.le_refl _) _; obtain ⟨qg,qo,qcs,qidx,-,qgl,qh,qr0⟩:=((h'.out.below goodTg hb.out).below goodTg hbA).at (P:=Tryz.prog) (t:=26) (by kernel_rfl) (fun _=>by kernel_rfl) hx; obtain ⟨qa,qc,qr⟩:=qr0; subst qr; have f0:=qh 0 _ rfl; have f1:=qh 1 _ rfl; have f2:=qh 2 _ rfl; have f3:=qh 3 _ rfl; have f4:=qh 4 _ rfl; have f5:=qh 5 _ rfl
   have f6:=qh 6 _ rfl; rw [Nat.add_zero] at f0; have hnA:=heap_alloc_new' wr (.cells (gcells x pa pc) 44); have hnB:=heap_alloc_new' (wr.alloc (.cells (gcells x pa pc) 44)) (.cells (gcells x qa qc) 44); rw [show (wr.alloc (.cells (gcells x pa pc) 44)).heap.size = wr.heap.size + 1 from by simp] at hnB; have hnA2:=(Below.heap_alloc (wr.alloc (.cells (gcells x pa pc) 44)) (.cells (gcells x qa qc) 44) wr.heap.size (by simp)).trans hnA; have m0:=cell_of (i:=0) hnA2; have m1:=cell_of (i:=1) hnA2; have m2:=cell_of (i:=2) hnA2; have m3:=cell_of (i:=3) hnA2; have m4:=cell_of (i:=4) hnA2; have m5:=cell_of (i:=5) hnA2; have m6:=cell_of (i:=6) hnA2; have n0:=cell_of (i:=0) hnB; have n1:=cell_of (i:=1) hnB; have n2:=cell_of (i:=2) hnB; have n3:=cell_of (i:=3) hnB
   have n4:=cell_of (i:=4) hnB; have n5:=cell_of (i:=5) hnB; have n6:=cell_of (i:=6) hnB; have hbB:=hbA.alloc hbA.size (.cells (gcells x qa qc) 44); have hcl:=hid (sameTerm_t x hx0 pa qa pc qc ((wr.alloc (.cells (gcells x pa pc) 44)).alloc (.cells (gcells x qa qc) 44))); have hb2:=hid (hb.out.trans (hbB.mono hb.out.size)); replace hnA:=hid hnA; replace hnA2:=hid hnA2; replace hnB:=hid hnB; clear ph qh hbA hbB
   go_wp2_with fail
   with_reducible refine hcl.out.mono ?_
   rintro e w2 ⟨rfl,hb3⟩; have hb4:=hid (hb2.out.trans (hb3.mono hb2.out.size)); clear hb3 hcl
   go_wp2_with fail
   go_roundg (l.length - (k + 1))
   case measure=>omega
   case rel=>exact ⟨k + 1,rfl,by omega,hb4⟩
  ·have q1 : decide ((k : Int) < (l.length : Int)) = false:=decide_eq_false (by omega)
   go_wp2_with fail
   go_ret; exact ⟨rfl,hb.out⟩
set_option maxHeartbeats 2000000 in
set_option maxRecDepth 100000 in
theorem sameLit_t (x : Lg) (h0 : Lok x) (a a' : Option Addr) (c c' : Nat) (S S' : Foot) (w : World) (h : SlR 7 TgR S w x.args (.slice a x.args.length c)) (h' : SlR 7 TgR S' w x.args (.slice a' x.args.length c')) : Calls Tryz.prog 18 #[.agg (lcells x.op x.nt x.rel (.slice a x.args.length c)),.agg (lcells x.op x.nt x.rel (.slice a' x.args.length c'))] w (PTrue w):=by
 have hbA : Below w.heap.size w (w.alloc (.cells (lcells x.op x.nt x.rel (.slice a x.args.length c)) 28)):=(Below.refl _ _).alloc (Nat.le_refl _) _; have hnA:=heap_alloc_new' w (.cells (lcells x.op x.nt x.rel (.slice a x.args.length c)) 28); have hnB:=heap_alloc_new' (w.alloc (.cells (lcells x.op x.nt x.rel (.slice a x.args.length c)) 28)) (.cells (lcells x.op x.nt x.rel (.slice a' x.args.length c')) 28); rw [show (w.alloc (.cells (lcells x.op x.nt x.rel (.slice a x.args.length c)) 28)).heap.size = w.heap.size + 1 from by simp] at hnB; have hnA2:=(Below.heap_alloc (w.alloc (.cells (lcells x.op x.nt x.rel (.slice a x.args.length c)) 28)) (.cells (lcells x.op x.nt x.rel (.slice a' x.args.length c')) 28) w.heap.size (by simp)).trans hnA; have d0:=cell_of (i:=0) hnA2; have d1:=cell_of (i:=1) hnA2
 have d2:=cell_of (i:=2) hnA2; have d3:=cell_of (i:=3) hnA2; have f0:=cell_of (i:=0) hnB; have f1:=cell_of (i:=1) hnB; have f2:=cell_of (i:=2) hnB; have f3:=cell_of (i:=3) hnB; have hbB:=hbA.alloc hbA.size (.cells (lcells x.op x.nt x.rel (.slice a' x.args.length c')) 28); have hb:=hid hbB; have hcl:=hid (eqTerms_t x.args h0.1 h0.2 _ _ _ _ ((w.alloc (.cells (lcells x.op x.nt x.rel (.slice a x.args.length c)) 28)).alloc (.cells (lcells x.op x.nt x.rel (.slice a' x.args.length c')) 28)) (h.below goodTg hbB) (h'.below goodTg hbB)); obtain ⟨op,nt,rel,args⟩:=x; replace hnA:=hid hnA; replace hnA2:=hid hnA2; replace hnB:=hid hnB; replace h:=hid h; replace h':=hid h'; clear hbA hbB
 have hnn : (nt == nt) = true:=by cases nt <;> rfl
 go_enter Tryz.func18,Tryz.ntmps18
 go_wp2_with fail
 with_reducible refine hcl.out.mono ?_
 rintro e1 w1 ⟨rfl,hb1⟩; have hB1:=hid (hb.out.trans (hb1.mono hb.out.size)); clear hb1
 go_wp2_with fail
 go_ret; exact ⟨rfl,hB1.out⟩
set_option maxHeartbeats 2000000 in
set_option maxRecDepth 100000 in
theorem eqLits_t (l : List Lg) (hml : l.length ≤ 9223372036854775807) (hok : ∀ x ∈ l,Lok x) (v v' : Value) (S S' : Foot) (w : World) (h : SlR 4 LgR S w l v) (h' : SlR 4 LgR S' w l v') :
  Calls Tryz.prog 39 #[v,v',.func (Fn.func 18) #[] #[]] w (PTrue w):=by
 obtain ⟨a,c,rfl⟩ : ∃ a c,v = .slice a l.length c:=by obtain ⟨a,c,e,_⟩:=h.slice; exact ⟨a,c,e⟩
 obtain ⟨a',c',rfl⟩ : ∃ a c,v' = .slice a l.length c:=by obtain ⟨a,c,e,_⟩:=h'.slice; exact ⟨a,c,e⟩
 replace h:=hid h; replace h':=hid h'; replace hok:=hid hok
 go_enter Tryz.func39,Tryz.ntmps39
 go_wp2_with fail
 go_loopg [17] l.length (fun g i wr=>∃ k : Nat,i = iv k ∧ k + g = l.length ∧ Hid (Below w.heap.size w wr))
 case atStart=>exact ⟨0,rfl,by omega,hid (Below.refl _ _)⟩
 case round =>
  obtain ⟨k,rfl,hkg,hb⟩:=hrel; by_cases hlt : k < l.length
  ·have q1 : decide ((k : Int) < (l.length : Int)) = true:=decide_eq_true (by omega)
   obtain ⟨x,hx⟩ : ∃ x,l[k]? = some x:=⟨_,List.getElem?_eq_getElem hlt⟩; have hx0:=hok.out x (List.mem_of_getElem? hx)
   have e1 : IntKind.i64.wrap ((k : Int) + 1) = ((k + 1 : Nat) : Int):=by rw [IntKind.wrap_i64]; omega
   obtain ⟨pg,po,pcs,pidx,-,pgl,ph,pr0⟩:=(h.out.below goodLg hb.out).at (P:=Tryz.prog) (t:=36) (by kernel_rfl) (fun _=>by kernel_rfl) hx; obtain ⟨pa,pc,pr,ps⟩:=pr0; subst pr; have d0:=ph 0 _ rfl; have d1:=ph 1 _ rfl; have d2:=ph 2 _ rfl; have d3:=ph 3 _ rfl; rw [Nat.add_zero] at d0; have hbA : Below wr.heap.size wr (wr.alloc (.cells (lcells x.op x.nt x.rel (.slice pa x.args.length pc)) 28)):=(Below.refl _ _).alloc (Nat.le_refl _) _; obtain ⟨qg,qo,qcs,qidx,-,qgl,qh,qr0⟩:=((h'.out.below goodLg hb.out).below goodLg hbA).at (P:=Tryz.prog) (t:=36) (by kernel_rfl) (fun _=>by kernel_rfl) hx; obtain ⟨qa,qc,qr,qs⟩:=qr0; subst qr; have f0:=qh 0 _ rfl; have f1:=qh 1 _ rfl; have f2:=qh 2 _ rfl; have f3:=qh 3 _ rfl; rw [Nat.add_zero] at f0
   have hnA:=heap_alloc_new' wr (.cells (lcells x.op x.nt x.rel (.slice pa x.args.length pc)) 28); have hnB:=heap_alloc_new' (wr.alloc (.cells (lcells x.op x.nt x.rel (.slice pa x.args.length pc)) 28)) (.cells (lcells x.op x.nt x.rel (.slice qa x.args.length qc)) 28); rw [show (wr.alloc (.cells (lcells x.op x.nt x.rel (.slice pa x.args.length pc)) 28)).heap.size = wr.heap.size + 1 from by simp] at hnB; have hnA2:=(Below.heap_alloc (wr.alloc (.cells (lcells x.op x.nt x.rel (.slice pa x.args.length pc)) 28)) (.cells (lcells x.op x.nt x.rel (.slice qa x.args.length qc)) 28) wr.heap.size (by simp)).trans hnA; have m0:=cell_of (i:=0) hnA2; have m1:=cell_of (i:=1) hnA2; have m2:=cell_of (i:=2) hnA2; have m3:=cell_of (i:=3) hnA2; have n0:=cell_of (i:=0) hnB; have n1:=cell_of (i:=1) hnB
   have n2:=cell_of (i:=2) hnB; have n3:=cell_of (i:=3) hnB; have hbB:=hbA.alloc hbA.size (.cells (lcells x.op x.nt x.rel (.slice qa x.args.length qc)) 28); have hcl:=hid (sameLit_t x hx0 pa qa pc qc _ _ ((wr.alloc (.cells (lcells x.op x.nt x.rel (.slice pa x.args.length pc)) 28)).alloc (.cells (lcells x.op x.nt x.rel (.slice qa x.args.length qc)) 28)) (ps.below goodTg hbB) (qs.below goodTg ((Below.refl _ _).alloc (Nat.le_refl _) _))); have hb2:=hid (hb.out.trans (hbB.mono hb.out.size)); replace hnA:=hid hnA; replace hnA2:=hid hnA2; replace hnB:=hid hnB; clear ph qh hbA hbB
   go_wp2_with fail
   with_reducible refine hcl.out.mono ?_
   rintro e w2 ⟨rfl,hb3⟩; have hb4:=hid (hb2.out.trans (hb3.mono hb2.out.size)); clear hb3 hcl
   go_wp2_with fail
   go_roundg (l.length - (k + 1))
   case measure=>omega
   case rel=>exact ⟨k + 1,rfl,by omega,hb4⟩
  ·have q1 : decide ((k : Int) < (l.length : Int)) = false:=decide_eq_false (by omega)
   go_wp2_with fail
   go_ret; exact ⟨rfl,hb.out⟩
set_option maxHeartbeats 2000000 in
set_option maxRecDepth 100000 in
theorem sameRule_t (x : Rg) (h0 : Rok x) (a a' : Option Addr) (c c' : Nat) (d d' : Option Addr) (e e' : Nat) (S S' : Foot) (w : World) (h : SlR 7 TgR S w x.head.args (.slice a x.head.args.length c)) (h' : SlR 7 TgR S' w x.head.args (.slice a' x.head.args.length c')) (k : SlR 4 LgR S w x.body (.slice d x.body.length e)) (k' : SlR 4 LgR S' w x.body (.slice d' x.body.length e')) : Calls Tryz.prog 17 #[.agg (rucells x.head.op x.head.nt x.head.rel (.slice a x.head.args.length c) x.agg x.at_ (.slice d x.body.length e)),.agg (rucells x.head.op x.head.nt x.head.rel (.slice a' x.head.args.length c') x.agg x.at_ (.slice d' x.body.length e'))] w (PTrue w):=by
 have hbA : Below w.heap.size w (w.alloc (.cells (rucells x.head.op x.head.nt x.head.rel (.slice a x.head.args.length c) x.agg x.at_ (.slice d x.body.length e)) 38)):=(Below.refl _ _).alloc (Nat.le_refl _) _; have hnA:=heap_alloc_new' w (.cells (rucells x.head.op x.head.nt x.head.rel (.slice a x.head.args.length c) x.agg x.at_ (.slice d x.body.length e)) 38); have hnB:=heap_alloc_new' (w.alloc (.cells (rucells x.head.op x.head.nt x.head.rel (.slice a x.head.args.length c) x.agg x.at_ (.slice d x.body.length e)) 38)) (.cells (rucells x.head.op x.head.nt x.head.rel (.slice a' x.head.args.length c') x.agg x.at_ (.slice d' x.body.length e')) 38)
 rw [show (w.alloc (.cells (rucells x.head.op x.head.nt x.head.rel (.slice a x.head.args.length c) x.agg x.at_ (.slice d x.body.length e)) 38)).heap.size = w.heap.size + 1 from by simp] at hnB; have hnA2:=(Below.heap_alloc (w.alloc (.cells (rucells x.head.op x.head.nt x.head.rel (.slice a x.head.args.length c) x.agg x.at_ (.slice d x.body.length e)) 38)) (.cells (rucells x.head.op x.head.nt x.head.rel (.slice a' x.head.args.length c') x.agg x.at_ (.slice d' x.body.length e')) 38) w.heap.size (by simp)).trans hnA; have d0:=cell_of (i:=0) hnA2; have d1:=cell_of (i:=1) hnA2; have d2:=cell_of (i:=2) hnA2; have d3:=cell_of (i:=3) hnA2; have d4:=cell_of (i:=4) hnA2; have d5:=cell_of (i:=5) hnA2; have d6:=cell_of (i:=6) hnA2; have f0:=cell_of (i:=0) hnB; have f1:=cell_of (i:=1) hnB; have f2:=cell_of (i:=2) hnB
 have f3:=cell_of (i:=3) hnB; have f4:=cell_of (i:=4) hnB; have f5:=cell_of (i:=5) hnB; have f6:=cell_of (i:=6) hnB; have hbB:=hbA.alloc hbA.size (.cells (rucells x.head.op x.head.nt x.head.rel (.slice a' x.head.args.length c') x.agg x.at_ (.slice d' x.body.length e')) 38); have hb:=hid hbB; have hcl:=hid (sameLit_t x.head h0.1 a a' c c' _ _ ((w.alloc (.cells (rucells x.head.op x.head.nt x.head.rel (.slice a x.head.args.length c) x.agg x.at_ (.slice d x.body.length e)) 38)).alloc (.cells (rucells x.head.op x.head.nt x.head.rel (.slice a' x.head.args.length c') x.agg x.at_ (.slice d' x.body.length e')) 38)) (h.below goodTg hbB) (h'.below goodTg hbB)); have hel:=hid (fun W (hW : Below w.heap.size w W)=>eqLits_t x.body h0.2.1 h0.2.2 _ _ _ _ W (k.below goodLg hW) (k'.below goodLg hW)); replace hnA:=hid hnA; replace hnA2:=hid hnA2
 replace hnB:=hid hnB; replace h:=hid h; replace h':=hid h'; replace k:=hid k; replace k':=hid k'; have hdk:=hid d6; clear hbA hbB
 go_enter Tryz.func17,Tryz.ntmps17
 go_wp2_with fail
 with_reducible refine hcl.out.mono ?_
 rintro e1 w1 ⟨rfl,hb1⟩; have hB1:=hid (hb.out.trans (hb1.mono hb.out.size)); have p6:=(World.cell?_of_block (hb1.block w.heap.size (by simp; omega))).trans d6; have r6:=(World.cell?_of_block (hb1.block (w.heap.size + 1) (by simp))).trans f6; have hel1:=hid (hel.out w1 hB1.out); clear hb1 d0 d1 d2 d3 d4 d5 d6 f0 f1 f2 f3 f4 f5 f6
 go_wp2_with fail
 with_reducible refine hel1.out.mono ?_
 rintro e2 w2 ⟨rfl,hb2⟩; have hB2:=hid (hB1.out.trans (hb2.mono hB1.out.size)); clear hb2
 go_wp2_with fail
 go_ret; exact ⟨rfl,hB2.out⟩
set_option maxHeartbeats 2000000 in
set_option maxRecDepth 100000 in
theorem eqRules_t (l : List Rg) (hml : l.length ≤ 9223372036854775807) (hok : ∀ x ∈ l,Rok x) (v v' : Value) (S S' : Foot) (w : World) (h : SlR 7 RgR S w l v) (h' : SlR 7 RgR S' w l v') :
  Calls Tryz.prog 16 #[v,v',.func (Fn.func 17) #[] #[]] w (PTrue w):=by
 obtain ⟨a,c,rfl⟩ : ∃ a c,v = .slice a l.length c:=by obtain ⟨a,c,e,_⟩:=h.slice; exact ⟨a,c,e⟩
 obtain ⟨a',c',rfl⟩ : ∃ a c,v' = .slice a l.length c:=by obtain ⟨a,c,e,_⟩:=h'.slice; exact ⟨a,c,e⟩
 replace h:=hid h; replace h':=hid h'; replace hok:=hid hok
 go_enter Tryz.func16,Tryz.ntmps16
 go_wp2_with fail
 go_loopg [17] l.length (fun g i wr=>∃ k : Nat,i = iv k ∧ k + g = l.length ∧ Hid (Below w.heap.size w wr))
 case atStart=>exact ⟨0,rfl,by omega,hid (Below.refl _ _)⟩
 case round =>
  obtain ⟨k,rfl,hkg,hb⟩:=hrel; by_cases hlt : k < l.length
  ·have q1 : decide ((k : Int) < (l.length : Int)) = true:=decide_eq_true (by omega)
   obtain ⟨x,hx⟩ : ∃ x,l[k]? = some x:=⟨_,List.getElem?_eq_getElem hlt⟩; have hx0:=hok.out x (List.mem_of_getElem? hx)
   have e1 : IntKind.i64.wrap ((k : Int) + 1) = ((k + 1 : Nat) : Int):=by rw [IntKind.wrap_i64]; omega
   obtain ⟨pg,po,pcs,pidx,-,pgl,ph,pr0⟩:=(h.out.below goodRg hb.out).at (P:=Tryz.prog) (t:=25) (by kernel_rfl) (fun _=>by kernel_rfl) hx; obtain ⟨pa,pc,pd,pe,pr,ps,pt⟩:=pr0; subst pr; have d0:=ph 0 _ rfl; have d1:=ph 1 _ rfl; have d2:=ph 2 _ rfl; have d3:=ph 3 _ rfl; have d4:=ph 4 _ rfl; have d5:=ph 5 _ rfl; have d6:=ph 6 _ rfl; rw [Nat.add_zero] at d0; have hbA : Below wr.heap.size wr (wr.alloc (.cells (rucells x.head.op x.head.nt x.head.rel (.slice pa x.head.args.length pc) x.agg x.at_ (.slice pd x.body.length pe)) 38)):=(Below.refl _ _).alloc (Nat.le_refl _) _; obtain ⟨qg,qo,qcs,qidx,-,qgl,qh,qr0⟩:=((h'.out.below goodRg hb.out).below goodRg hbA).at (P:=Tryz.prog) (t:=25) (by kernel_rfl) (fun _=>by kernel_rfl) hx; obtain ⟨qa,qc,qd,qe,qr,qs,qt⟩:=qr0; subst qr
   have f0:=qh 0 _ rfl; have f1:=qh 1 _ rfl; have f2:=qh 2 _ rfl; have f3:=qh 3 _ rfl; have f4:=qh 4 _ rfl; have f5:=qh 5 _ rfl; have f6:=qh 6 _ rfl; rw [Nat.add_zero] at f0; have hnA:=heap_alloc_new' wr (.cells (rucells x.head.op x.head.nt x.head.rel (.slice pa x.head.args.length pc) x.agg x.at_ (.slice pd x.body.length pe)) 38); have hnB:=heap_alloc_new' (wr.alloc (.cells (rucells x.head.op x.head.nt x.head.rel (.slice pa x.head.args.length pc) x.agg x.at_ (.slice pd x.body.length pe)) 38)) (.cells (rucells x.head.op x.head.nt x.head.rel (.slice qa x.head.args.length qc) x.agg x.at_ (.slice qd x.body.length qe)) 38); rw [show (wr.alloc (.cells (rucells x.head.op x.head.nt x.head.rel (.slice pa x.head.args.length pc) x.agg x.at_ (.slice pd x.body.length pe)) 38)).heap.size = wr.heap.size + 1 from by simp] at hnB
   have hnA2:=(Below.heap_alloc (wr.alloc (.cells (rucells x.head.op x.head.nt x.head.rel (.slice pa x.head.args.length pc) x.agg x.at_ (.slice pd x.body.length pe)) 38)) (.cells (rucells x.head.op x.head.nt x.head.rel (.slice qa x.head.args.length qc) x.agg x.at_ (.slice qd x.body.length qe)) 38) wr.heap.size (by simp)).trans hnA; have m0:=cell_of (i:=0) hnA2; have m1:=cell_of (i:=1) hnA2; have m2:=cell_of (i:=2) hnA2; have m3:=cell_of (i:=3) hnA2; have m4:=cell_of (i:=4) hnA2; have m5:=cell_of (i:=5) hnA2; have m6:=cell_of (i:=6) hnA2; have n0:=cell_of (i:=0) hnB; have n1:=cell_of (i:=1) hnB; have n2:=cell_of (i:=2) hnB; have n3:=cell_of (i:=3) hnB; have n4:=cell_of (i:=4) hnB; have n5:=cell_of (i:=5) hnB; have n6:=cell_of (i:=6) hnB
   have hbB:=hbA.alloc hbA.size (.cells (rucells x.head.op x.head.nt x.head.rel (.slice qa x.head.args.length qc) x.agg x.at_ (.slice qd x.body.length qe)) 38); have hcl:=hid (sameRule_t x hx0 pa qa pc qc pd qd pe qe _ _ ((wr.alloc (.cells (rucells x.head.op x.head.nt x.head.rel (.slice pa x.head.args.length pc) x.agg x.at_ (.slice pd x.body.length pe)) 38)).alloc (.cells (rucells x.head.op x.head.nt x.head.rel (.slice qa x.head.args.length qc) x.agg x.at_ (.slice qd x.body.length qe)) 38)) (ps.below goodTg hbB) (qs.below goodTg ((Below.refl _ _).alloc (Nat.le_refl _) _)) (pt.below goodLg hbB) (qt.below goodLg ((Below.refl _ _).alloc (Nat.le_refl _) _))); have hb2:=hid (hb.out.trans (hbB.mono hb.out.size)); replace hnA:=hid hnA; replace hnA2:=hid hnA2; replace hnB:=hid hnB; clear ph qh hbA hbB
   go_wp2_with fail
   with_reducible refine hcl.out.mono ?_
   rintro e w2 ⟨rfl,hb3⟩; have hb4:=hid (hb2.out.trans (hb3.mono hb2.out.size)); clear hb3 hcl
   go_wp2_with fail
   go_roundg (l.length - (k + 1))
   case measure=>omega
   case rel=>exact ⟨k + 1,rfl,by omega,hb4⟩
  ·have q1 : decide ((k : Int) < (l.length : Int)) = false:=decide_eq_false (by omega)
   go_wp2_with fail
   go_ret; exact ⟨rfl,hb.out⟩
def Qok (q : Qg) : Prop:=q.rules.length ≤ 9223372036854775807 ∧ (∀ r ∈ q.rules,Rok r) ∧ Lok q.goal
set_option maxHeartbeats 2000000 in
set_option maxRecDepth 100000 in
theorem same_t (x : Qg) (h0 : Qok x) (a a' : Option Addr) (c c' : Nat) (d d' : Option Addr) (e e' : Nat) (S S' : Foot) (w : World) (k : SlR 7 RgR S w x.rules (.slice a x.rules.length c)) (k' : SlR 7 RgR S' w x.rules (.slice a' x.rules.length c')) (h : SlR 7 TgR S w x.goal.args (.slice d x.goal.args.length e)) (h' : SlR 7 TgR S' w x.goal.args (.slice d' x.goal.args.length e')) : Calls Tryz.prog 8 #[.agg (qcells (.slice a x.rules.length c) x.goal.op x.goal.nt x.goal.rel (.slice d x.goal.args.length e)),.agg (qcells (.slice a' x.rules.length c') x.goal.op x.goal.nt x.goal.rel (.slice d' x.goal.args.length e'))] w (PTrue w):=by
 have hbA : Below w.heap.size w (w.alloc (.cells (qcells (.slice a x.rules.length c) x.goal.op x.goal.nt x.goal.rel (.slice d x.goal.args.length e)) 30)):=(Below.refl _ _).alloc (Nat.le_refl _) _; have hnA:=heap_alloc_new' w (.cells (qcells (.slice a x.rules.length c) x.goal.op x.goal.nt x.goal.rel (.slice d x.goal.args.length e)) 30); have hnB:=heap_alloc_new' (w.alloc (.cells (qcells (.slice a x.rules.length c) x.goal.op x.goal.nt x.goal.rel (.slice d x.goal.args.length e)) 30)) (.cells (qcells (.slice a' x.rules.length c') x.goal.op x.goal.nt x.goal.rel (.slice d' x.goal.args.length e')) 30); rw [show (w.alloc (.cells (qcells (.slice a x.rules.length c) x.goal.op x.goal.nt x.goal.rel (.slice d x.goal.args.length e)) 30)).heap.size = w.heap.size + 1 from by simp] at hnB
 have hnA2:=(Below.heap_alloc (w.alloc (.cells (qcells (.slice a x.rules.length c) x.goal.op x.goal.nt x.goal.rel (.slice d x.goal.args.length e)) 30)) (.cells (qcells (.slice a' x.rules.length c') x.goal.op x.goal.nt x.goal.rel (.slice d' x.goal.args.length e')) 30) w.heap.size (by simp)).trans hnA; have d0:=cell_of (i:=0) hnA2; have d1:=cell_of (i:=1) hnA2; have d2:=cell_of (i:=2) hnA2; have d3:=cell_of (i:=3) hnA2; have d4:=cell_of (i:=4) hnA2; have f0:=cell_of (i:=0) hnB; have f1:=cell_of (i:=1) hnB; have f2:=cell_of (i:=2) hnB; have f3:=cell_of (i:=3) hnB; have f4:=cell_of (i:=4) hnB; have hbB:=hbA.alloc hbA.size (.cells (qcells (.slice a' x.rules.length c') x.goal.op x.goal.nt x.goal.rel (.slice d' x.goal.args.length e')) 30); have hb:=hid hbB
 have hcl:=hid (eqRules_t x.rules h0.1 h0.2.1 _ _ _ _ ((w.alloc (.cells (qcells (.slice a x.rules.length c) x.goal.op x.goal.nt x.goal.rel (.slice d x.goal.args.length e)) 30)).alloc (.cells (qcells (.slice a' x.rules.length c') x.goal.op x.goal.nt x.goal.rel (.slice d' x.goal.args.length e')) 30)) (k.below goodRg hbB) (k'.below goodRg hbB)); have hel:=hid (fun W (hW : Below w.heap.size w W)=>sameLit_t x.goal h0.2.2 d d' e e' _ _ W (h.below goodTg hW) (h'.below goodTg hW)); replace hnA:=hid hnA; replace hnA2:=hid hnA2; replace hnB:=hid hnB; replace h:=hid h; replace h':=hid h'; replace k:=hid k; replace k':=hid k'; clear hbA hbB
 go_enter Tryz.func8,Tryz.ntmps8
 go_wp2_with fail
 with_reducible refine hcl.out.mono ?_
 rintro e1 w1 ⟨rfl,hb1⟩; have hB1:=hid (hb.out.trans (hb1.mono hb.out.size)); have p1:=(World.cell?_of_block (hb1.block w.heap.size (by simp; omega))).trans d1; have r1:=(World.cell?_of_block (hb1.block (w.heap.size + 1) (by simp))).trans f1; have p2:=(World.cell?_of_block (hb1.block w.heap.size (by simp; omega))).trans d2; have r2:=(World.cell?_of_block (hb1.block (w.heap.size + 1) (by simp))).trans f2; have p3:=(World.cell?_of_block (hb1.block w.heap.size (by simp; omega))).trans d3; have r3:=(World.cell?_of_block (hb1.block (w.heap.size + 1) (by simp))).trans f3; have p4:=(World.cell?_of_block (hb1.block w.heap.size (by simp; omega))).trans d4; have r4:=(World.cell?_of_block (hb1.block (w.heap.size + 1) (by simp))).trans f4; have hel1:=hid (hel.out w1 hB1.out); clear hb1 d0 d1 d2 d3 d4 f0 f1 f2 f3 f4
 go_wp2_with fail
 with_reducible refine hel1.out.mono ?_
 rintro e2 w2 ⟨rfl,hb2⟩; have hB2:=hid (hB1.out.trans (hb2.mono hB1.out.size)); clear hb2
 go_wp2_with fail
 go_ret; exact ⟨rfl,hB2.out⟩
end Go.Proofs.YtbkdakbhagjkhaaGreatDoor
