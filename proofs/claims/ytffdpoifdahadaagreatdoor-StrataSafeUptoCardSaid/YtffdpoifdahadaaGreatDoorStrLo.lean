/- strata, the laws: what they share. -/
import Derived.Test.YtffdpoifdahadaaGreatDoorStrXf
import Derived.Test.YtffdpoifdahadaaGreatDoorStrXd
import Derived.Test.YtffdpoifdahadaaGreatDoorStrXc
import Derived.Test.YtffdpoifdahadaaGreatDoorAskI
set_option linter.unusedVariables false
set_option linter.unusedSimpArgs false
namespace Go.Proofs.YtffdpoifdahadaaGreatDoor
open Go.RowKit
open Go.Lib (hid)
theorem so_row {w:World} {l:List (List UInt8)} {v:Value} (h:SO w l v):Row w.heap.size w 1 v l.length (l.map sv):=by
 rcases h.2 with ⟨rfl,h0⟩ | ⟨g,cap,cur,rfl,-,hg,hn,hm,hs,ht⟩
 ·have:l=[]:=List.length_eq_zero_iff.1 h0
  subst this; exact ⟨none,0,0,0,rfl,rfl,fun h=>absurd h (by simp),fun j hj=>by simp at hj⟩
 ·refine ⟨some ⟨g,0,none⟩,cap,g,0,rfl,by simp,fun _=>⟨rfl,lt_of_some hg⟩,fun j hj=>?_⟩
  have hc:=(own_cell (i:=j) (x:=(l.map sv)[j]) h (by rw [List.getElem?_eq_getElem hj])).1; rw [Nat.zero_add]; exact hc
/-- append(l, m...) of rows of strings -/
theorem so_app {w:World} {l m:List (List UInt8)} {v vs:Value} (h:SO w l v) (hm:SO w m vs) (hl:l.length+m.length≤2000000000000) :
  ∃ (v':Value) (w2:World),AppRun Tryz.prog 36 36 36 v vs v' w w2∧(∃ a c,v'=.slice a (l++m).length c)∧SO w2 (l++m) v'∧(∀ k,v'.ownBlock=some k→v.ownBlock=some k∨w.heap.size≤k)∧Fr (fun k=>v.ownBlock=some k) w w2:=by
 obtain ⟨i0,hi,hz0,hz1,hz2⟩:=info_parts infoStrS
 obtain ⟨v',w2,hrun,hown,hg,hv⟩:=append_row (P:=Tryz.prog) w 0 36 36 9 i0 _ 1 16 (by kernel_rfl) hi hz0 hz1 hz2 rfl (by decide) v l.length _ h w.heap.size vs m.length (m.map sv) (so_row hm) (fun u hu=>by
  obtain ⟨x,-,rfl⟩:=List.mem_map.1 hu; rfl) (by unfold maxLen; omega) (by omega) (Nat.zero_le _)
 have hS:SO w2 (l++m) v':=by
  show w2.ownsRow 0 _ 1 v' _ _; rw [List.length_append,List.map_append]; exact hown
 obtain ⟨a,c,e,-,-⟩:=owns_form hS; refine ⟨v',w2,⟨hrun⟩,⟨a,c,e⟩,hS,fun k hk=>?_,⟨hg.os,hg.tape,hg.output,hg.size,fun k hk hs=>hg.block k hk (fun e=>hs e.symm)⟩⟩; rcases hv with e | e
 ·exact Or.inl (e ▸ hk)
 ·rw [hk] at e; injection e with e; right; omega
def lit00:Lg:=⟨0,false,[],[]⟩
/-- a query of the one rule -/
theorem one_rule {r:Rg} {ha:Option Addr} {hc:Nat} {ba:Option Addr} {bc:Nat} {S:Foot} {W:World} (h1:SlR 7 TgR S W r.head.args (.slice ha r.head.args.length hc)) (h2:SlR 4 LgR S W r.body (.slice ba r.body.length bc)) (hS:∀ k,S k→k < W.heap.size) :
  QR ⟨[r],lit00⟩ (some ⟨W.heap.size,0,none⟩) 1 none 0 (fun k=>k < W.heap.size+1) (W.alloc (.cells (rucells r.head.op r.head.nt r.head.rel (.slice ha r.head.args.length hc) r.agg r.at_ (.slice ba r.body.length bc)) 27)):=by
 have hb:Below W.heap.size W (W.alloc (.cells (rucells r.head.op r.head.nt r.head.rel (.slice ha r.head.args.length hc) r.agg r.at_ (.slice ba r.body.length bc)) 27)):=(Below.refl _ W).alloc (Nat.le_refl _) _; have hk:=heap_alloc_new' W (.cells (rucells r.head.op r.head.nt r.head.rel (.slice ha r.head.args.length hc) r.agg r.at_ (.slice ba r.body.length bc)) 27); obtain ⟨e0,e1,e2,e3,e4,e5,e6,-⟩:=ru_cells hk; refine ⟨⟨_,_,W.heap.size,0,fun _=>(rucells r.head.op r.head.nt r.head.rel (.slice ha r.head.args.length hc) r.agg r.at_ (.slice ba r.body.length bc)).toList,rfl,Nat.le_refl _,fun _=>⟨rfl,Nat.lt_succ_self _,lt_of_some hk⟩,fun i hi j u hu=>?_,fun i x hx=>?_⟩,SlR.nil _ _ _ _ _,fun k hk=>by simpa using hk⟩
 ·have:i=0:=by simp at hi; omega
  subst this; rw [Nat.zero_mul,Nat.zero_add]; refine (cell_of hk).trans ?_; rw [← hu]; simp
 ·rcases i with _ | i
  ·have:r=x:=by simpa using hx
   subst this; exact ⟨_,_,_,_,rfl,(h1.below goodTg hb).mono goodTg (fun k _ hs=>by have:=hS k hs; omega),(h2.below goodLg hb).mono goodLg (fun k _ hs=>by have:=hS k hs; omega)⟩
  ·simp at hx
theorem qgm_one {r:Rg} (h:RgM r):QgM ⟨[r],lit00⟩:=⟨⟨Nat.zero_le _,Nat.zero_le _,fun t ht=>by cases ht⟩,by simp,fun x hx=>by
 have:x=r:=by simpa using hx
 rw [this]; exact h⟩
theorem sh_tg {x:Lg} (h:ShL x):x.args.length≤1048576∧∀ t∈x.args,t.var.length≤1048576:=⟨by have:=h.1; omega,fun t ht=>by have:=h.2.2 t ht; omega⟩
theorem sh_sml {r:Rg} (h:Few28 ⟨[r],lit00⟩):Sml r.body:=RgB.sml (h.sm.bd.1 r (by simp))
theorem vars_len (x:Lg):(varsF x).length≤x.args.length:=by
 rw [← accK_all x x.args.length (Nat.le_refl _)]; exact accK_len x _
theorem seen_succ {body:List Lg} {l:List Nat} {k y:Nat} {x:Lg} (h:l[k]? = some y) (hx:body[y]? = some x) :
  seenV body (l.take (k+1))=if bindsF x=true then seenV body (l.take k)++varsF x else seenV body (l.take k):=by
 have e:litAt body y=x:=by unfold litAt; rw [List.getD_eq_getElem?_getD,hx]; rfl
 rw [List.take_add_one,h]; unfold seenV; rw [List.foldl_append]; show (if bindsF (litAt body y)=true then _ else _)=_; rw [e]
theorem seen_len {body:List Lg} (hb:∀ x∈body,x.args.length≤6) (l:List Nat):∀ a:List Nm,(l.foldl (fun s i=>if bindsF (litAt body i)=true then s++varsF (litAt body i) else s) a).length≤a.length+6 * l.length:=by
 induction l with
 | nil=>intro a; simp
 | cons i l ih =>
  intro a; rw [List.foldl_cons]; refine Nat.le_trans (ih _) ?_
  have h6:(varsF (litAt body i)).length≤6:=by
   refine Nat.le_trans (vars_len _) ?_; unfold litAt; by_cases hi:i < body.length
   ·rw [List.getD_eq_getElem?_getD,List.getElem?_eq_getElem hi]
    exact hb _ (List.getElem_mem hi)
   ·rw [List.getD_eq_getElem?_getD,List.getElem?_eq_none (by omega)]
    exact Nat.zero_le _
  split
  ·rw [List.length_append,List.length_cons]; omega
  ·rw [List.length_cons]; omega
/-- the loop's state: what is seen -/
structure SeenW (w4:World) (seen:List Nm) (v:Value) (w:World):Prop where
 row:SO w seen v
 ge:∀ k,v.ownBlock=some k→w4.heap.size≤k
 bel:Below w4.heap.size w4 w
theorem SeenW.below {w4 w w':World} {seen:List Nm} {v:Value} (h:SeenW w4 seen v w) (hb:Below w.heap.size w w'):SeenW w4 seen v w' :=
 ⟨owns_move h.row (fun k hk=>hb.block k (h.row.lt k hk).2) fun _ _=>Nat.zero_le _,h.ge,h.bel.trans (hb.mono h.bel.size)⟩
end Go.Proofs.YtffdpoifdahadaaGreatDoor
