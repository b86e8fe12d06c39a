/- ask: rules made, a literal more, rules more. -/
import Derived.Test.YtbkdakbhagjkhaaGreatDoorAskS
set_option linter.unusedVariables false
namespace Go.Proofs.YtbkdakbhagjkhaaGreatDoor
open Go.RowKit
open Go.Lib (hid itoa)
/-- several elements behind an owned row, with what turned -/
theorem OwnR.appendM {α : Type} {P : Program} {E t ty : TypeId} {sz bytes : Nat} {R : Rel α} {i : TypeInfo} {z : Value} (hR : Good sz R) (ht : P.underlying t = some (.slice E)) (hi : P.info? E = some i) (hz : i.zero = some z) (hsize : i.size = sz) (hby : i.bytes = bytes) (hzs : z.cells.size = sz) (hsz : 0 < sz)
  {S : Foot} {w : World} {l m : List α} {v : Value} (h : OwnR E sz R S w l v) {B : Nat} {vs : Value} {news : List Value} (hr : Row B w sz vs m.length news) (hone : ∀ u ∈ news,u.oneCell' = true)
  (hx : ∀ n y,m[n]? = some y → ∃ cs,(∀ j u,cs[j]? = some u → news[n * sz + j]? = some u) ∧ R (fun k=>S k ∧ v.ownBlock ≠ some k) w y cs) (h63 : l.length + m.length ≤ maxLen) (hbytes : (l.length + m.length) * bytes ≤ 140737488355328) (hS : ∀ k,w.heap.size ≤ k → S k) :
  ∃ v' w',AppRun P t t ty v vs v' w w' ∧ OwnR E sz R S w' (l ++ m) v' ∧ Fr (fun k=>v.ownBlock = some k) w w' ∧ (v'.ownBlock = v.ownBlock ∨ v'.ownBlock = some w.heap.size):=by
 obtain ⟨xs,h1,h2,h3⟩:=h; obtain ⟨v',w',hrun,hown,hg,hv⟩:=append_row w 0 t ty E i z sz bytes ht hi hz hsize hby hzs hsz v l.length xs h1 B vs m.length news hr hone h63 hbytes (Nat.zero_le _)
 have hkeep : ∀ {y : α} {ds : List Value},R (fun k=>S k ∧ v.ownBlock ≠ some k) w y ds → R (fun k=>S k ∧ v'.ownBlock ≠ some k) w' y ds:=by
  intro y ds hy
  refine hR.move hy fun k hk hu=>⟨⟨hu.1,?_⟩,hg.block k hk (fun e=>hu.2 e.symm)⟩
  rcases hv with hv | hv
  ·rw [hv]; exact hu.2
  ·rw [hv]; intro e; injection e with e; omega
 refine ⟨v',w',⟨hrun⟩,⟨xs ++ news,by rw [List.length_append]; exact hown,fun k hk=>?_,fun i y hy=>?_⟩,⟨hg.os,hg.tape,hg.output,hg.size,fun k hk hs=>hg.block k hk (fun e=>hs e.symm)⟩,hv⟩
 ·rcases hv with hv | hv
  ·exact h2 k (hv ▸ hk)
  ·rw [hv] at hk; injection hk with hk; subst hk; exact hS _ (Nat.le_refl _)
 ·by_cases hil : i < l.length
  ·rw [List.getElem?_append_left hil] at hy
   obtain ⟨ds,h4,h5⟩:=h3 i y hy; refine ⟨ds,fun j u hu=>?_,hkeep h5⟩; have:=h4 j u hu; rw [List.getElem?_append_left (List.getElem?_eq_some_iff.1 this).1]; exact this
  ·rw [List.getElem?_append_right (by omega)] at hy
   obtain ⟨ds,h4,h5⟩:=hx _ y hy; refine ⟨ds,fun j u hu=>?_,hkeep h5⟩; have hxl:=h1.1
   have hm : i * sz = l.length * sz + (i - l.length) * sz:=by rw [← Nat.add_mul]; congr 1; omega
   rw [List.getElem?_append_right (by omega),show i * sz + j - xs.length = (i - l.length) * sz + j by omega]; exact h4 j u hu
/-- literals behind a body -/
theorem litsPush {S S2 : Foot} {w : World} {l m : List (Option Nat × Lt)} {v vs : Value} (h : OwnR 28 4 LdR S w l v) (hm : OwnR 28 4 LdR S2 w m vs) (hS : ∀ q,w.heap.size ≤ q → S q) (hS2 : ∀ q,S2 q → S q ∧ v.ownBlock ≠ some q) (hl : l.length + m.length ≤ 1048576) :
  ∃ a c w',AppRun Tryz.prog 36 36 36 v vs (.slice a (l.length + m.length) c) w w' ∧ OwnR 28 4 LdR S w' (l ++ m) (.slice a (l.length + m.length) c) ∧ Fr (fun k=>v.ownBlock = some k) w w' ∧ ((Value.slice a (l.length + m.length) c).ownBlock = v.ownBlock ∨ (Value.slice a (l.length + m.length) c).ownBlock = some w.heap.size):=by
 obtain ⟨i0,hi,hz0,hz1,hz2⟩:=info_parts infoLit; obtain ⟨news,g1,g2,g3⟩:=sl_row goodLd (by decide) (hm.sl goodLd); obtain ⟨v',w',h1,h2,h3,h4⟩:=OwnR.appendM (t:=36) (ty:=36) goodLd (by kernel_rfl) hi hz0 hz1 hz2 rfl (by decide) h g1 g2 (fun n y hy=>by obtain ⟨cs,k1,k2⟩:=g3 n y hy; exact ⟨cs,k1,goodLd.mono k2 fun k _ hk=>hS2 k hk⟩) (by unfold maxLen; omega) (by omega) hS; obtain ⟨a,c,rfl,-,-⟩:=h2.slice; rw [List.length_append] at h1 h2 h4; exact ⟨a,c,w',h1,h2,h3,h4⟩
/-- rules behind rules -/
theorem rulesPush {S S2 : Foot} {w : World} {l m : List RuD} {v vs : Value} (h : OwnR 38 7 RuR S w l v) (hm : OwnR 38 7 RuR S2 w m vs) (hS : ∀ q,w.heap.size ≤ q → S q) (hS2 : ∀ q,S2 q → S q ∧ v.ownBlock ≠ some q) (hl : l.length + m.length ≤ 1048576) :
  ∃ a c w',AppRun Tryz.prog 25 25 25 v vs (.slice a (l.length + m.length) c) w w' ∧ OwnR 38 7 RuR S w' (l ++ m) (.slice a (l.length + m.length) c) ∧ Fr (fun k=>v.ownBlock = some k) w w' ∧ ((Value.slice a (l.length + m.length) c).ownBlock = v.ownBlock ∨ (Value.slice a (l.length + m.length) c).ownBlock = some w.heap.size):=by
 obtain ⟨i0,hi,hz0,hz1,hz2⟩:=info_parts infoRule; obtain ⟨news,g1,g2,g3⟩:=sl_row goodRu (by decide) (hm.sl goodRu); obtain ⟨v',w',h1,h2,h3,h4⟩:=OwnR.appendM (t:=25) (ty:=25) goodRu (by kernel_rfl) hi hz0 hz1 hz2 rfl (by decide) h g1 g2 (fun n y hy=>by obtain ⟨cs,k1,k2⟩:=g3 n y hy; exact ⟨cs,k1,goodRu.mono k2 fun k _ hk=>hS2 k hk⟩) (by unfold maxLen; omega) (by omega) hS; obtain ⟨a,c,rfl,-,-⟩:=h2.slice; rw [List.length_append] at h1 h2 h4; exact ⟨a,c,w',h1,h2,h3,h4⟩
/-- made[0]'s body is another -/
theorem made_turn {S : Foot} {w W : World} {r0 : RuD} {rest : List RuD} {g n mc : Nat} (h : OwnR 38 7 RuR S w (r0 :: rest) (.slice (some ⟨g,0,none⟩) n mc)) (hn : ((r0 :: rest).flatMap RuD.ids).Nodup) (hf : Fr (fun q=>r0.bb = some q) w W) (body : List (Option Nat × Lt)) (bv : Value)
  (hb : OwnR 28 4 LdR (fun q=>S q ∧ q ≠ g) W body bv) :
  OwnR 38 7 RuR S (W.setCell ⟨g,6,none⟩ bv) (⟨r0.head,r0.agg,r0.at_,bv.ownBlock,body⟩ :: rest) (.slice (some ⟨g,0,none⟩) n mc):=by
 obtain ⟨xs,h1,h2,h3⟩:=h; obtain ⟨a0,c0,e,_,_⟩:=owns_form h1; simp only [Value.slice.injEq] at e; obtain ⟨-,rfl,-⟩:=e; have hob : (Value.slice (some ⟨g,0,none⟩) (r0 :: rest).length mc).ownBlock = some g:=rfl
 have hown : ∀ k,k ≠ g → (W.setCell ⟨g,6,none⟩ bv).heap[k]? = W.heap[k]?:=fun k hk=>heap_setCell_other _ hk
 obtain ⟨cs0,k1,k2⟩:=h3 0 r0 rfl; obtain ⟨hv,bv0,rfl,e1,ho,e2,hbd⟩:=k2
 have hbg : r0.bb ≠ some g:=by
  intro e; have:=own_ge hbd (e2.trans e); exact this.2 hob
 have h1' : W.ownsRow 0 38 7 (.slice (some ⟨g,0,none⟩) (r0 :: rest).length mc) (r0 :: rest).length xs:=owns_move h1 (fun k hk=>hf.block k (h1.lt k hk).2 (fun e=>hbg (by rw [e]; exact hk.symm ▸ hob ▸ rfl))) (fun _ _=>Nat.zero_le _); have h2':=(h1'.stored 6 bv).1; refine ⟨xs.set 6 bv,h2',h2,fun i x hx=>?_⟩
 have hmem : ∀ {y : RuD},y ∈ r0 :: rest → ∀ k,k ∈ y.ids → True:=fun _ _ _=>trivial
 match i,hx with
 | 0,hx =>
  injection hx with hx; subst hx; refine ⟨(rucells r0.head.2.op r0.head.2.nt r0.head.2.rel hv r0.agg r0.at_ bv).toList,fun j u hu=>?_,hv,bv,rfl,e1,?_,rfl,?_⟩
  ·have hj : j < 7:=(List.getElem?_eq_some_iff.1 hu).1
   rw [Nat.zero_mul,Nat.zero_add]; have hxl:=h1.1; by_cases e6 : j = 6
   ·subst e6
    rw [List.getElem?_set_self (by rw [hxl]; simp only [List.length_cons]; omega)]; simpa using hu
   ·rw [List.getElem?_set_ne (fun e=>e6 e.symm)]
    have:=k1 j u (by
     match j,hj,e6,hu with
     | 0,_,_,hu=>simpa using hu
     | 1,_,_,hu=>simpa using hu
     | 2,_,_,hu=>simpa using hu
     | 3,_,_,hu=>simpa using hu
     | 4,_,_,hu=>simpa using hu
     | 5,_,_,hu=>simpa using hu
     | j + 6,hj,e6,_=>exact absurd (show j + 6 = 6 by omega) e6)
    rw [Nat.zero_mul,Nat.zero_add] at this; exact this
  ·refine (fl_tight ho).move goodFl fun k hk hk2=>⟨hk2.1,?_⟩
   have hkg : k ≠ g:=fun e=>hk2.1.2 (by rw [e]; rfl)
   refine (hown k hkg).trans (hf.block k hk fun eb=>?_); rw [List.flatMap_cons,List.nodup_append] at hn; have hn1:=hn.1; unfold RuD.ids at hn1; rw [List.nodup_append] at hn1; exact hn1.2.2 k (by rw [← e1,hk2.2]; simp) k (by rw [eb]; simp) rfl
  ·refine hb.move goodLd fun k hk hk2=>⟨⟨hk2.1,fun e=>hk2.2 (by injection e with e; exact e.symm)⟩,hown k hk2.2⟩
 | i + 1,hx =>
  obtain ⟨cs,h4,h5⟩:=h3 (i + 1) x hx; refine ⟨cs,fun j u hu=>?_,goodRu.move (ru_tight h5) fun k hk hk2=>⟨hk2.1,?_⟩⟩
  ·have:=h4 j u hu
   rw [List.getElem?_set_ne (by omega)]; exact this
  ·have hkg : k ≠ g:=fun e=>hk2.1.2 (by rw [e]; rfl)
   refine (hown k hkg).trans (hf.block k hk fun eb=>?_); rw [List.flatMap_cons,List.nodup_append] at hn; refine hn.2.2 k ?_ k (List.mem_flatMap.2 ⟨x,List.mem_of_getElem? (show rest[i]? = some x from hx),hk2.2⟩) rfl; unfold RuD.ids; rw [eb]; simp
theorem nodup_six {A B C D E F O : List Nat} {N0 N1 : Nat} (hn : (A ++ (B ++ C) ++ E).Nodup) (hlt : ∀ k ∈ A ++ (B ++ C) ++ E,k < N0) (hxy : (D ++ F).Nodup) (hge : ∀ k ∈ D ++ F,N0 ≤ k ∧ k < N1) (hO : O = B ∨ O = [N1]) (hN : N0 ≤ N1) : (A ++ (O ++ (C ++ D)) ++ (E ++ F)).Nodup:=by
 simp only [List.nodup_append,List.mem_append] at hn hxy ⊢; obtain ⟨⟨hA,⟨hB,hC,hBC⟩,hABC⟩,hE,hABCE⟩:=hn; obtain ⟨hD,hF,hDF⟩:=hxy
 have lA : ∀ k ∈ A,k < N0:=fun k hk=>hlt k (by simp [hk])
 have lB : ∀ k ∈ B,k < N0:=fun k hk=>hlt k (by simp [hk])
 have lC : ∀ k ∈ C,k < N0:=fun k hk=>hlt k (by simp [hk])
 have lE : ∀ k ∈ E,k < N0:=fun k hk=>hlt k (by simp [hk])
 have lD : ∀ k ∈ D,N0 ≤ k ∧ k < N1:=fun k hk=>hge k (by simp [hk])
 have lF : ∀ k ∈ F,N0 ≤ k ∧ k < N1:=fun k hk=>hge k (by simp [hk])
 have lO : ∀ k ∈ O,k ∈ B ∨ k = N1:=fun k hk=>by rcases hO with rfl | rfl; exact Or.inl hk; exact Or.inr (by simpa using hk)
 have hOn : O.Nodup:=by rcases hO with rfl | rfl; exact hB; simp
 refine ⟨⟨hA,⟨hOn,⟨hC,hD,?_⟩,?_⟩,?_⟩,⟨hE,hF,?_⟩,?_⟩
 ·intro a ha b hb; have:=lC a ha; have:=lD b hb; omega
 ·intro a ha b hb
  rcases lO a ha with h1 | h1
  ·rcases hb with hb | hb
   ·exact hBC a h1 b hb
   ·have:=lB a h1; have:=lD b hb; omega
  ·rcases hb with hb | hb
   ·have:=lC b hb; omega
   ·have:=lD b hb; omega
 ·intro a ha b hb
  rcases hb with hb | hb | hb
  ·rcases lO b hb with h1 | h1
   ·exact hABC a ha b (Or.inl h1)
   ·have:=lA a ha; omega
  ·exact hABC a ha b (Or.inr hb)
  ·have:=lA a ha; have:=lD b hb; omega
 ·intro a ha b hb; have:=lE a ha; have:=lF b hb; omega
 ·intro a ha b hb
  rcases ha with ha | ha | ha | ha
  ·rcases hb with hb | hb
   ·exact hABCE a (Or.inl ha) b hb
   ·have:=lA a ha; have:=lF b hb; omega
  ·rcases lO a ha with h1 | h1
   ·rcases hb with hb | hb
    ·exact hABCE a (Or.inr (Or.inl h1)) b hb
    ·have:=lB a h1; have:=lF b hb; omega
   ·rcases hb with hb | hb
    ·have:=lE b hb; omega
    ·have:=lF b hb; omega
  ·rcases hb with hb | hb
   ·exact hABCE a (Or.inr (Or.inr ha)) b hb
   ·have:=lC a ha; have:=lF b hb; omega
  ·rcases hb with hb | hb
   ·have:=lD a ha; have:=lE b hb; omega
   ·exact hDF a ha b hb
theorem ids_step {r0 : RuD} {rest ys : List RuD} {xs : List (Option Nat × Lt)} {o : Option Nat} {N0 N1 : Nat} (hn : ((r0 :: rest).flatMap RuD.ids).Nodup) (hlt : ∀ k ∈ (r0 :: rest).flatMap RuD.ids,k < N0) (hxy : (idsL xs ++ ys.flatMap RuD.ids).Nodup) (hge : ∀ k ∈ idsL xs ++ ys.flatMap RuD.ids,N0 ≤ k ∧ k < N1) (ho : o = r0.bb ∨ o = some N1) (hN : N0 ≤ N1) :
  (((⟨r0.head,r0.agg,r0.at_,o,r0.body ++ xs⟩ : RuD) :: (rest ++ ys)).flatMap RuD.ids).Nodup:=by
 rw [List.flatMap_cons,List.flatMap_append]; rw [List.flatMap_cons] at hn hlt; have e : idsL (r0.body ++ xs) = idsL r0.body ++ idsL xs:=List.filterMap_append; show (r0.head.1.toList ++ (o.toList ++ idsL (r0.body ++ xs)) ++ (rest.flatMap RuD.ids ++ ys.flatMap RuD.ids)).Nodup; rw [e]; exact nodup_six (B:=r0.bb.toList) hn hlt hxy hge (by rcases ho with rfl | rfl; exact Or.inl rfl; exact Or.inr rfl) hN
/-- blocks of an owned row of rules are there -/
theorem rules_lt {S : Foot} {w : World} {l : List RuD} {v : Value} (h : OwnR 38 7 RuR S w l v) : ∀ k ∈ l.flatMap RuD.ids,S k ∧ k < w.heap.size:=by
 intro k hk; obtain ⟨x,hx,hxk⟩:=List.mem_flatMap.1 hk; obtain ⟨i,hi⟩:=List.mem_iff_getElem?.1 hx; obtain ⟨xs,h1,h2,h3⟩:=h; obtain ⟨cs,h4,h5⟩:=h3 i x hi; refine ⟨(ru_ids h5 k hxk).1,?_⟩; obtain ⟨v1,v2,e,g1,ho,g2,hb⟩:=h5; unfold RuD.ids at hxk; rcases List.mem_append.1 hxk with hk | hk
 ·rw [← g1] at hk; exact ho.lt (by simpa using hk)
 ·rcases List.mem_append.1 hk with hk | hk
  ·rw [← g2] at hk; exact hb.lt (by simpa using hk)
  ·obtain ⟨y,hy,hyk⟩:=List.mem_filterMap.1 hk
   obtain ⟨i,hi⟩:=List.mem_iff_getElem?.1 hy; obtain ⟨xs,q1,q2,q3⟩:=hb; obtain ⟨cs,q4,u,rfl,hu,hoo⟩:=q3 i y hi; exact hoo.lt (hu.trans hyk)
theorem lits_lt {S : Foot} {w : World} {l : List (Option Nat × Lt)} {v : Value} (h : OwnR 28 4 LdR S w l v) : ∀ k ∈ idsL l,S k ∧ k < w.heap.size:=by
 intro k hk; refine ⟨lds_ids h k hk,?_⟩; obtain ⟨y,hy,hyk⟩:=List.mem_filterMap.1 hk; obtain ⟨i,hi⟩:=List.mem_iff_getElem?.1 hy; obtain ⟨xs,q1,q2,q3⟩:=h; obtain ⟨cs,q4,u,rfl,hu,hoo⟩:=q3 i y hi; exact hoo.lt (hu.trans hyk)
/-- literal's end: literals behind made[0]'s body, rules behind made -/
theorem made_push {S : Foot} {w : World} {N0 : Nat} {r0 : RuD} {rest ys : List RuD} {xs : List (Option Nat × Lt)} {mv v1 v2 : Value} (hm : OwnR 38 7 RuR S w (r0 :: rest) mv) (hn : ((r0 :: rest).flatMap RuD.ids).Nodup) (hN0 : ∀ k,k ∈ (r0 :: rest).flatMap RuD.ids ∨ mv.ownBlock = some k → k < N0) (hS : ∀ k,N0 ≤ k → S k)
  (h1 : OwnR 28 4 LdR (from_ N0) w xs v1) (h2 : OwnR 38 7 RuR (from_ N0) w ys v2) (hd : (idsL xs ++ ys.flatMap RuD.ids).Nodup) (hsz : N0 ≤ w.heap.size) (hl1 : r0.body.length + xs.length ≤ 1048576) (hl2 : (r0 :: rest).length + ys.length ≤ 1048576) :
  ∃ g mc ab cb,mv = .slice (some ⟨g,0,none⟩) (r0 :: rest).length mc ∧ w.cell? ⟨g,6,none⟩ = some (.slice ab r0.body.length cb) ∧
  ∃ a c W,AppRun Tryz.prog 36 36 36 (.slice ab r0.body.length cb) v1 (.slice a (r0.body.length + xs.length) c) w W ∧ (∃ u,W.cell? ⟨g,6,none⟩ = some u) ∧ W.frozen? ⟨g,6,none⟩ = false ∧
  ∃ a2 c2 W2 zs,AppRun Tryz.prog 25 25 25 mv v2 (.slice a2 ((r0 :: rest).length + ys.length) c2) (W.setCell ⟨g,6,none⟩ (.slice a (r0.body.length + xs.length) c)) W2 ∧
   OwnR 38 7 RuR S W2 zs (.slice a2 ((r0 :: rest).length + ys.length) c2) ∧ zs.map RuD.ru = ⟨r0.ru.head,r0.ru.agg,r0.ru.at_,r0.ru.body ++ xs.map (·.2)⟩ :: (rest.map RuD.ru ++ ys.map RuD.ru) ∧ (zs.flatMap RuD.ids).Nodup ∧ Fr S w W2:=by
 have hm0:=hm; obtain ⟨xs0,o1,o2,o3⟩:=hm; rcases o1.2 with ⟨rfl,h0⟩ | ⟨g,cap,cur,rfl,_,hg,hnc,_,_,_⟩
 ·simp at h0
 ·have hob : (Value.slice (some ⟨g,0,none⟩) (r0 :: rest).length cap).ownBlock = some g:=rfl
  obtain ⟨cs,k1,hv,bv,rfl,e1,ho,e2,hbd⟩:=o3 0 r0 rfl; obtain ⟨ab,cb,rfl,-,-⟩:=hbd.slice; have hgl:=lt_of_heap hg; have hgN : g < N0:=hN0 g (Or.inr rfl)
  have hbbN : ∀ q,(Value.slice ab r0.body.length cb).ownBlock = some q → q < N0:=fun q hq=>hN0 q (Or.inl (by
   rw [List.flatMap_cons]; refine List.mem_append.2 (Or.inl ?_); unfold RuD.ids
   rw [← e2,hq]; simp))
  have hbg : ∀ q,(Value.slice ab r0.body.length cb).ownBlock = some q → q ≠ g:=fun q hq e=>(own_ge hbd hq).2 (by rw [e]; rfl)
  have hbd' : OwnR 28 4 LdR (fun k=>S k ∧ k ≠ g) w r0.body (.slice ab r0.body.length cb):=hbd.mono goodLd fun k _ hk=>⟨hk.1,fun e=>hk.2 (by rw [e]; rfl)⟩
  have c6 : w.cell? ⟨g,6,none⟩ = some (.slice ab r0.body.length cb):=by
   have hlen : 6 < (r0 :: rest).length * 7:=by simp only [List.length_cons]; omega
   rw [o1.cellAt 6 hlen]; have:=k1 6 _ rfl; rw [Nat.zero_mul,Nat.zero_add] at this; exact this
  obtain ⟨a,c,W,run1,hO,hF,hvv⟩:=litsPush hbd' h1 (fun q hq=>⟨hS q (by omega),by omega⟩) (fun q hq=>⟨⟨hS q hq,by unfold from_ at hq; omega⟩,fun e=>by have:=hbbN q e; unfold from_ at hq; omega⟩) hl1; have hgW : W.heap[g]? = some (.cells cur 38 (0,0)):=(hF.block g hgl (fun e=>hbg g e rfl)).trans hg; have ht:=made_turn hm0 hn (by rw [← e2]; exact hF) (r0.body ++ xs) (.slice a (r0.body.length + xs.length) c) hO
  have hsz2 : w.heap.size ≤ (W.setCell ⟨g,6,none⟩ (.slice a (r0.body.length + xs.length) c)).heap.size:=by simpa [World.setCell] using hF.size
  have h2' : OwnR 38 7 RuR (from_ N0) (W.setCell ⟨g,6,none⟩ (.slice a (r0.body.length + xs.length) c)) ys v2:=h2.move goodRu fun k hk hk2=>⟨hk2,(heap_setCell_other _ (by unfold from_ at hk2; omega)).trans (hF.block k hk (fun e=>by have:=hbbN k e; unfold from_ at hk2; omega))⟩
  obtain ⟨a2,c2,W2,run2,hO2,hF2,-⟩:=rulesPush ht h2' (fun q hq=>hS q (by omega)) (fun q hq=>⟨hS q hq,fun e=>by have:=hob.symm.trans e; injection this with e2; unfold from_ at hq; omega⟩) hl2; have hFs : Fr S w (W.setCell ⟨g,6,none⟩ (.slice a (r0.body.length + xs.length) c)):=(hF.mono (fun k hk e=>(own_ge hbd e).1)).setCell (p:=⟨g,6,none⟩) (Or.inl (o2 g rfl)) _; refine ⟨g,cap,ab,cb,rfl,c6,a,c,W,run1,?_,free_of hgW,a2,c2,W2,_,run2,hO2,?_,?_,hFs.trans (hF2.mono (fun k hk e=>by rw [hob] at e; injection e with e; rw [← e]; exact o2 g rfl))⟩
  ·have h7:=(owns_move (w':=W) (base':=0) o1 (fun k hk=>by rw [hob] at hk; injection hk with hk; subst hk; exact hF.block _ hgl (fun e=>hbg _ e rfl)) (fun _ _=>Nat.zero_le _))
   have hlen : 6 < (r0 :: rest).length * 7:=by simp only [List.length_cons]; omega
   rw [h7.cellAt 6 hlen]; exact ⟨_,List.getElem?_eq_getElem (by rw [h7.1]; exact hlen)⟩
  ·show (⟨r0.head.2,r0.agg,r0.at_,(r0.body ++ xs).map (·.2)⟩ : Ru) :: (rest ++ ys).map RuD.ru = _
   rw [List.map_append,List.map_append]; rfl
  ·refine ids_step (N0:=N0) (N1:=w.heap.size) hn (fun k hk=>hN0 k (Or.inl hk)) hd (fun k hk=>?_) ?_ hsz
   ·rcases List.mem_append.1 hk with hk | hk
    ·exact lits_lt h1 k hk
    ·exact rules_lt h2 k hk
   ·rcases hvv with h | h
    ·exact Or.inl (h.trans e2)
    ·exact Or.inr h
end Go.Proofs.YtbkdakbhagjkhaaGreatDoor
