/- ask: rows made one behind the other in a region, with a block for a rule that may come at any time. -/
import Derived.Test.YtbkdakbhagjkhaaGreatDoorAskO
set_option linter.unusedVariables false
namespace Go.Proofs.YtbkdakbhagjkhaaGreatDoor
open Go.RowKit
open Go.Lib (hid itoa)
abbrev zrule : Array Value:=rucells 0 false [] (.slice none 0 0) 0 0 (.slice none 0 0)
/-- the region's memory: W its start, rb the rule's block (if it is there), rows: what was made -/
structure RS (W : World) (rb : Option Nat) (rows : List (Lt × Value)) (cur : World) : Prop where
 below : Below W.heap.size W cur
 own : ∀ p ∈ rows,OwnR 44 7 FlR (fun q=>W.heap.size ≤ q ∧ rb ≠ some q) cur p.1.args p.2
 nd : (rows.filterMap fun p=>p.2.ownBlock).Nodup
 zr : ∀ b,rb = some b → W.heap.size ≤ b ∧ cur.heap[b]? = some (.cells zrule 38 (0,0))
section
variable {W cur cur' : World} {rb : Option Nat} {rows : List (Lt × Value)}
theorem RS.start (W : World) : RS W none [] W.drew:=⟨(Below.refl _ _).drew,fun p hp=>by simp at hp,by simp,fun b h=>by cases h⟩
theorem RS.grow (h : RS W rb rows cur) (hb : Below cur.heap.size cur cur') : RS W rb rows cur' :=
 ⟨h.below.trans (hb.mono h.below.size),fun p hp=>(h.own p hp).below goodFl hb,h.nd,fun b hr=>⟨(h.zr b hr).1,below_keep hb (h.zr b hr).2 (lt_of_heap (h.zr b hr).2)⟩⟩
theorem RS.push (h : RS W rb rows cur) {l : Lt} {v : Value} (hb : Below cur.heap.size cur cur') (ho : OwnR 44 7 FlR (from_ cur.heap.size) cur' l.args v) : RS W rb (rows ++ [(l,v)]) cur':=by
 have hs:=h.below.size; refine ⟨(h.grow hb).below,fun p hp=>?_,?_,(h.grow hb).zr⟩
 ·rcases List.mem_append.1 hp with hp | hp
  ·exact (h.grow hb).own p hp
  ·simp at hp; subst hp
   refine ho.mono goodFl fun k hk hk2=>⟨Nat.le_trans hs hk2,fun e=>?_⟩
   have:=lt_of_heap (h.zr k e).2; unfold from_ at hk2; omega
 ·rw [List.filterMap_append,List.nodup_append]
  refine ⟨h.nd,by cases hv : v.ownBlock <;> simp [hv],fun a ha b hb2=>?_⟩; obtain ⟨p,hp,hpa⟩:=List.mem_filterMap.1 ha; obtain ⟨p2,hp2,hpb⟩:=List.mem_filterMap.1 hb2; simp at hp2; subst hp2; have h1:=(h.own p hp).lt hpa; have h2:=own_ge ho hpb; unfold from_ at h2; omega
theorem RS.newRule (h : RS W none rows cur) : RS W (some cur.heap.size) rows (cur.alloc (.cells zrule 38)):=by
 have hb : Below cur.heap.size cur (cur.alloc (.cells zrule 38)):=(Below.refl _ _).alloc (Nat.le_refl _) _; have hg:=h.grow hb; refine ⟨hg.below,fun p hp=>(h.own p hp).move goodFl fun k hk hk2=>⟨⟨hk2.1,fun e=>by injection e with e; omega⟩,hb.block k hk⟩,h.nd,fun b e=>?_⟩; injection e with e; subst e; exact ⟨h.below.size,heap_alloc_new' _ _⟩
end
/-- head and body are made -/
structure RS2 (W : World) (rb : Option Nat) (l0 : Lt) (v0 : Value) (xs : List (Option Nat × Lt)) (bv : Value) (cur : World) : Prop where
 below : Below W.heap.size W cur
 hd : OwnR 44 7 FlR (fun q=>W.heap.size ≤ q ∧ rb ≠ some q) cur l0.args v0
 bd : OwnR 28 4 LdR (fun q=>W.heap.size ≤ q ∧ rb ≠ some q) cur xs bv
 nd : (v0.ownBlock.toList ++ (bv.ownBlock.toList ++ idsL xs)).Nodup
 zr : ∀ b,rb = some b → W.heap.size ≤ b ∧ cur.heap[b]? = some (.cells zrule 38 (0,0))
section
variable {W cur cur' : World} {rb : Option Nat} {ps : List (Lt × Value)} {l0 : Lt} {v0 bv : Value} {xs : List (Option Nat × Lt)}
theorem idsL_map (ps : List (Lt × Value)) : idsL (ps.map fun p=>(p.2.ownBlock,p.1)) = ps.filterMap fun p=>p.2.ownBlock:=by unfold idsL; rw [List.filterMap_map]; rfl
theorem RS.build (h : RS W rb ((l0,v0) :: ps) cur) (hl : ps.length ≤ maxLen) : RS2 W rb l0 v0 (ps.map fun p=>(p.2.ownBlock,p.1)) (.slice (some ⟨cur.heap.size,0,none⟩) ps.length ps.length) (cur.alloc (.cells (ltRow ps).toArray 28)):=by
 have hb : Below cur.heap.size cur (cur.alloc (.cells (ltRow ps).toArray 28)):=(Below.refl _ _).alloc (Nat.le_refl _) _; have hg:=h.grow hb; refine ⟨hg.below,hg.own (l0,v0) (by simp),build_lits ps (heap_alloc_new' _ _) hl ⟨h.below.size,fun e=>by have:=lt_of_heap (h.zr _ e).2; omega⟩ (fun p hp=>(h.own p (by simp [hp])).move goodFl fun k hk hk2=>⟨⟨hk2,by omega⟩,hb.block k hk⟩),?_,hg.zr⟩; rw [idsL_map]; have hn:=h.nd
 have hlt : ∀ k ∈ ((l0,v0) :: ps).filterMap (fun p : Lt × Value=>p.2.ownBlock),k < cur.heap.size:=fun k hk=>by
  obtain ⟨p,hp,hpk⟩:=List.mem_filterMap.1 hk; exact (h.own p hp).lt hpk
 have e1 : ((l0,v0) :: ps).filterMap (fun p : Lt × Value=>p.2.ownBlock) = v0.ownBlock.toList ++ ps.filterMap (fun p=>p.2.ownBlock):=by
  rw [List.filterMap_cons]; cases v0.ownBlock <;> rfl
 rw [e1] at hn hlt; have e2 : (Value.slice (some ⟨cur.heap.size,0,none⟩) ps.length ps.length).ownBlock.toList = [cur.heap.size]:=rfl; rw [e2]
 have hperm : (v0.ownBlock.toList ++ ([cur.heap.size] ++ ps.filterMap (fun p=>p.2.ownBlock))).Perm ([cur.heap.size] ++ (v0.ownBlock.toList ++ ps.filterMap (fun p=>p.2.ownBlock))):=by
  rw [← List.append_assoc,← List.append_assoc]; exact List.Perm.append_right _ List.perm_append_comm
 rw [hperm.nodup_iff]; show (cur.heap.size :: _).Nodup; exact List.nodup_cons.2 ⟨fun hm=>Nat.lt_irrefl _ (hlt _ hm),hn⟩
theorem RS2.grow (h : RS2 W rb l0 v0 xs bv cur) (hb : Below cur.heap.size cur cur') : RS2 W rb l0 v0 xs bv cur' :=
 ⟨h.below.trans (hb.mono h.below.size),h.hd.below goodFl hb,h.bd.below goodLd hb,h.nd,fun b hr=>⟨(h.zr b hr).1,below_keep hb (h.zr b hr).2 (lt_of_heap (h.zr b hr).2)⟩⟩
theorem RS2.newRule (h : RS2 W none l0 v0 xs bv cur) : RS2 W (some cur.heap.size) l0 v0 xs bv (cur.alloc (.cells zrule 38)):=by
 have hb : Below cur.heap.size cur (cur.alloc (.cells zrule 38)):=(Below.refl _ _).alloc (Nat.le_refl _) _; have hg:=h.grow hb; refine ⟨hg.below,h.hd.move goodFl fun k hk hk2=>⟨⟨hk2.1,fun e=>by injection e with e; omega⟩,hb.block k hk⟩,h.bd.move goodLd fun k hk hk2=>⟨⟨hk2.1,fun e=>by injection e with e; omega⟩,hb.block k hk⟩,h.nd,fun b e=>?_⟩; injection e with e; subst e; exact ⟨h.below.size,heap_alloc_new' _ _⟩
/-- a new rule in a block of its own -/
structure NR (W : World) (RB : Nat) (x : RuD) (hv bv : Value) (cur : World) : Prop where
 below : Below W.heap.size W cur
 ge : W.heap.size ≤ RB
 row : cur.heap[RB]? = some (.cells (rucells x.head.2.op x.head.2.nt x.head.2.rel hv x.agg x.at_ bv) 38 (0,0))
 ru : RuR (fun q=>W.heap.size ≤ q ∧ q ≠ RB) cur x (rucells x.head.2.op x.head.2.nt x.head.2.rel hv x.agg x.at_ bv).toList
 nd : x.ids.Nodup
theorem below_setRow' {B : Nat} {w w' : World} (h : Below B w w') {g : Nat} (hg : B ≤ g) (cs : Array Value) : Below B w (w'.setRow g cs) :=
 ⟨h.os,h.tape,h.output,by simpa [World.setRow] using h.size,fun k hk=>(setRow_far (by omega) cs).trans (h.block k hk)⟩
theorem RS2.store {RB : Nat} (h : RS2 W (some RB) l0 v0 xs bv cur) : NR W RB ⟨(v0.ownBlock,l0),0,0,bv.ownBlock,xs⟩ v0 bv (cur.setRow RB (rucells l0.op l0.nt l0.rel v0 0 0 bv)):=by
 obtain ⟨h1,h2⟩:=h.zr RB rfl; refine ⟨below_setRow' h.below h1 _,h1,setRow_at h2 _,⟨v0,bv,rfl,rfl,h.hd.move goodFl fun k hk hk2=>?_,rfl,h.bd.move goodLd fun k hk hk2=>?_⟩,h.nd⟩
 ·have : k ≠ RB:=fun e=>hk2.2 (by rw [e])
  exact ⟨⟨hk2.1,this⟩,setRow_far this _⟩
 ·have : k ≠ RB:=fun e=>hk2.2 (by rw [e])
  exact ⟨⟨hk2.1,this⟩,setRow_far this _⟩
theorem NR.grow {RB : Nat} {x : RuD} {hv : Value} (h : NR W RB x hv bv cur) (hb : Below cur.heap.size cur cur') : NR W RB x hv bv cur' :=
 ⟨h.below.trans (hb.mono h.below.size),h.ge,below_keep hb h.row (lt_of_heap h.row),goodRu.below h.ru hb,h.nd⟩
end
theorem freshRel_len (K : PK) (st : PSt) (hb : st.rels + K.toks.length + 1 ≤ 4611686018427387904) : (newRelP K.ts st).1.length ≤ 1048576:=by
 have h1:=(freshP_le (namesP K.ts) [97,117,120] (K.ts.length + 1) st.rels).1
 have htl : K.ts.length = K.toks.length:=by unfold PK.ts; rw [List.length_map]
 have:=itoa_len (freshP (namesP K.ts) [97,117,120] (K.ts.length + 1) st.rels) (by omega); show ([97,117,120] ++ itoa _).length ≤ _; rw [List.length_append]; simp only [List.length_cons,List.length_nil]; omega
theorem NR.slices {W cur : World} {RB : Nat} {x : RuD} {hv bv : Value} (h : NR W RB x hv bv cur) : ∃ a c a2 c2,hv = .slice a x.head.2.args.length c ∧ bv = .slice a2 x.body.length c2:=by
 obtain ⟨v1,v2,e,-,ho,-,hb⟩:=h.ru; obtain ⟨a,c,hs,-⟩:=ho.slice; obtain ⟨a2,c2,hs2,-⟩:=hb.slice
 have e1 : hv = v1:=by have:=congrArg (fun l : List Value=>l[3]?) e; simpa using this
 have e2 : bv = v2:=by have:=congrArg (fun l : List Value=>l[6]?) e; simpa using this
 exact ⟨a,c,a2,c2,e1.trans hs,e2.trans hs2⟩
theorem ru_cells {rb : Nat} {w : World} {op : Int} {nt : Bool} {rel : List UInt8} {hv bv : Value} {agg at_ : Int} (h : w.heap[rb]? = some (.cells (rucells op nt rel hv agg at_ bv) 38 (0,0))) : w.cell? ⟨rb,0,none⟩ = some (iv op) ∧ w.cell? ⟨rb,1,none⟩ = some (.bool nt) ∧ w.cell? ⟨rb,2,none⟩ = some (sv rel) ∧ w.cell? ⟨rb,3,none⟩ = some hv ∧ w.cell? ⟨rb,4,none⟩ = some (iv agg) ∧ w.cell? ⟨rb,5,none⟩ = some (iv at_) ∧ w.cell? ⟨rb,6,none⟩ = some bv ∧ ∀ i,w.frozen? ⟨rb,i,none⟩ = false :=
 ⟨(cell_of h).trans rfl,(cell_of h).trans rfl,(cell_of h).trans rfl,(cell_of h).trans rfl,(cell_of h).trans rfl,(cell_of h).trans rfl,(cell_of h).trans rfl,fun i=>free_of h⟩
theorem lds_ids {S : Foot} {w : World} {l : List (Option Nat × Lt)} {v : Value} (h : OwnR 28 4 LdR S w l v) : ∀ k ∈ idsL l,S k:=by
 intro k hk; obtain ⟨x,hx,hxk⟩:=List.mem_filterMap.1 hk; obtain ⟨i,hi⟩:=List.mem_iff_getElem?.1 hx; obtain ⟨xs,h1,h2,h3⟩:=h; obtain ⟨cs,h4,h5⟩:=h3 i x hi; obtain ⟨u,rfl,hu,ho⟩:=h5; exact (own_ge ho (hu.trans hxk)).1
theorem ru_ids {S : Foot} {w : World} {x : RuD} {cs : List Value} (h : RuR S w x cs) : ∀ k ∈ x.ids,S k:=by
 obtain ⟨hv,bv,rfl,h1,ho,h2,hb⟩:=h; intro k hk; unfold RuD.ids at hk; rcases List.mem_append.1 hk with hk | hk
 ·rw [← h1] at hk
  exact own_ge ho (by simpa using hk)
 ·rcases List.mem_append.1 hk with hk | hk
  ·rw [← h2] at hk
   exact own_ge hb (by simpa using hk)
  ·exact lds_ids hb k hk
theorem build_rule {S T : Foot} {cur : World} {x : RuD} {cs : List Value} (h : RuR S cur x cs) (hS : ∀ k,k < cur.heap.size → S k → T k) (hT : T cur.heap.size) : OwnR 38 7 RuR T (cur.alloc (.cells cs.toArray 38)) [x] (.slice (some ⟨cur.heap.size,0,none⟩) 1 1):=by
 have hb : Below cur.heap.size cur (cur.alloc (.cells cs.toArray 38)):=(Below.refl _ _).alloc (Nat.le_refl _) _; have hl:=goodRu.len h
 refine own_build goodRu (heap_alloc_new' _ _) rfl (by omega) (by show 1 ≤ maxLen; decide) hT fun i y hy=>?_
 match i,hy with
 | 0,hy =>
  injection hy with hy; subst hy; exact ⟨cs,fun j u hu=>by simpa using hu,goodRu.move h fun k hk hk2=>⟨⟨hS k hk hk2,by omega⟩,hb.block k hk⟩⟩
theorem nodup_aux {x : RuD} {B : Nat} {xs : List (Option Nat × Lt)} (hn : (idsL xs).Nodup) (ha : ∀ k ∈ idsL xs,k < B) (hx : ∀ k ∈ x.ids,B ≤ k) (hd : x.ids.Nodup) : (idsL xs ++ [x].flatMap RuD.ids).Nodup:=by
 rw [List.nodup_append]; refine ⟨hn,by simpa using hd,fun k hk j hj=>?_⟩; have h1:=ha k hk; have h2:=hx j (by simpa using hj); omega
theorem happens_f (t : Tm) (w : World) : Calls Tryz.prog 80 #[.agg (fcells t)] w (PL1 w (happensF t)):=happens_any t w
theorem compare_f (op : Int) (a b : Tm) (w : World) : Calls Tryz.prog 81 #[iv op,.agg (fcells a),.agg (fcells b)] w (PL1 w (compareF op a b)):=compare_any op a b w
/-- what never and since answer -/
def PAux (pb : Nat) (K : PK) (w : World) (r : Option (List Lt × List Ru) × PSt) (e : Ending) (w' : World) : Prop :=
 PM pb K r.2 w' ∧ Fr (one pb) w w' ∧ match r.1 with
 | some q=>∃ v1 v2 xs ys,e = .returned (.tuple #[v1,v2,.bool true]) ∧ OwnR 28 4 LdR (from_ w.heap.size) w' xs v1 ∧ OwnR 38 7 RuR (from_ w.heap.size) w' ys v2 ∧ xs.map (·.2) = q.1 ∧ ys.map RuD.ru = q.2 ∧ (idsL xs ++ ys.flatMap RuD.ids).Nodup
 | none=>e = .returned (.tuple #[.slice none 0 0,.slice none 0 0,.bool false])
end Go.Proofs.YtbkdakbhagjkhaaGreatDoor
