/- strata, the law StrataSafe: the walk. -/
import Derived.Test.YtffdpoifdahadaaGreatDoorStrLo
import Derived.Test.YtffdpoifdahadaaGreatDoorStrPu
set_option linter.unusedVariables false
set_option linter.unusedSimpArgs false
namespace Go.Proofs.YtffdpoifdahadaaGreatDoor
open Go.RowKit
open Go.Lib (hid)
theorem rgm_sml {r:Rg} (h:RgM r):Sml r.body :=
 ⟨h.2.1,fun v=>Nat.le_trans (usesG_len' (fun x hx=>(h.2.2 x hx).2.1) v _ (Nat.le_refl _)) (by have:=h.2.1; omega),fun x hx=>(h.2.2 x hx).2.1,fun x hx t ht=>((h.2.2 x hx).2.2 t ht).1⟩
theorem POrd.open {r:Rg} {w w':World} {e:Ending} (h:POrd r w e w'):Below w.heap.size w w'∧∃ v,e=.returned (.tuple #[v,.bool (orderF r.head r.body).isSome]):=by
 obtain ⟨hb,h⟩:=h; refine ⟨hb,?_⟩
 cases e2:orderF r.head r.body with
 | none=>rw [e2] at h; exact ⟨_,h⟩
 | some l=>rw [e2] at h; obtain ⟨v,h,-⟩:=h; exact ⟨v,h⟩
/-- a body made anew, from the world w5 on -/
structure BN (w5:World) (S:Foot) (l:List Lg) (v:Value) (w:World):Prop where
 row:OwnR 24 4 LgR (fun k=>S k∨w5.heap.size≤k) w l v
 ow:∀ k,v.ownBlock=some k→w5.heap.size≤k
 bel:Below w5.heap.size w5 w
theorem BN.below {w5 w w':World} {S:Foot} {l:List Lg} {v:Value} (h:BN w5 S l v w) (hb:Below w.heap.size w w'):BN w5 S l v w' :=
 ⟨h.row.below goodLg hb,h.ow,h.bel.trans (hb.mono h.bel.size)⟩
theorem BN.start {w5 w:World} (S:Foot) (hb:Below w5.heap.size w5 w):BN w5 S [] (.slice (some ⟨w.heap.size,0,none⟩) 0 0) (w.alloc (.cells #[] 24)) :=
 ⟨own_build (n:=0) (xs:=[]) goodLg (heap_alloc_new' w (.cells #[] 24)) rfl rfl (Nat.zero_le _) (Or.inr hb.size) (fun i x hx=>by simp at hx),fun k hk=>by simp [Value.ownBlock] at hk; rw [← hk]; exact hb.size,hb.trans ((((Below.refl _ w).alloc (Nat.le_refl _) _)).mono hb.size)⟩
theorem BN.app {w5 w:World} {S S2:Foot} {l m:List Lg} {v vs:Value} (h:BN w5 S l v w) (hm:SlR 4 LgR S2 w m vs) (hS2:∀ q,S2 q→(S q∨w5.heap.size≤q)∧v.ownBlock≠some q) (hl:l.length+m.length≤1048576) :
  ∃ a c w6,AppRun Tryz.prog 25 25 25 v vs (.slice a (l.length+m.length) c) w w6∧BN w5 S (l++m) (.slice a (l.length+m.length) c) w6∧Fr (fun k=>v.ownBlock=some k) w w6∧((Value.slice a (l.length+m.length) c).ownBlock=v.ownBlock∨(Value.slice a (l.length+m.length) c).ownBlock=some w.heap.size):=by
 have h5:=h.bel.size; obtain ⟨a,c,w6,hrun,hown,hfr,hv⟩:=lgsPush h.row hm (fun q hq=>Or.inr (by omega)) hS2 hl; refine ⟨a,c,w6,hrun,⟨hown,?_,?_⟩,hfr,hv⟩
 ·intro k hk
  rcases hv with e | e
  ·exact h.ow k (e ▸ hk)
  ·rw [e] at hk; injection hk with hk; omega
 ·exact h.bel.trans (hfr.to_below (by omega) (fun k hk e=>by have:=h.ow k e; omega))
theorem lit_row1 {w:World} {S:Foot} {b:Nat} {x:Lg} {xa:Option Addr} {xc:Nat} (h:w.heap[b]? = some (.cells (lcells x.op x.nt x.rel (.slice xa x.args.length xc)) 24 (0,0))) (hx:SlR 7 TgR S w x.args (.slice xa x.args.length xc)):SlR 4 LgR (fun k=>S k∨k=b) w [x] (.slice (some ⟨b,0,none⟩) 1 1) :=
 SlR.of_block (E:=24) (fr:=(0,0)) (css:=[(lcells x.op x.nt x.rel (.slice xa x.args.length xc)).toList]) rfl (by intro cs hcs; simp at hcs; subst hcs; rfl) (by rw [h]; simp) (Or.inr rfl) fun i y cs hy hc=>by
  rcases i with _ | i
  ·simp at hy hc; subst hy hc
   exact ⟨xa,xc,rfl,hx.mono goodTg fun k _ hk=>Or.inl hk⟩
  ·simp at hy
theorem SlR.take {α:Type} {sz:Nat} {R:Rel α} {S:Foot} {w:World} {l:List α} {a:Option Addr} {len cap:Nat} (h:SlR sz R S w l (.slice a len cap)) (n:Nat) (hn:n≤l.length):SlR sz R S w (l.take n) (.slice a n cap):=by
 obtain ⟨a',cap',b,off,cs,h1,h2,h3,h4,h5⟩:=h; simp only [Value.slice.injEq] at h1; obtain ⟨rfl,rfl,rfl⟩:=h1
 have hl:(l.take n).length=n:=by rw [List.length_take]; omega
 refine ⟨a,cap,b,off,cs,by rw [hl],by omega,fun hp=>h3 (by omega),fun i hi=>h4 i (by omega),fun i x hx=>?_⟩
 have hi:i < n:=by have:=(List.getElem?_eq_some_iff.1 hx).1; omega
 rw [List.getElem?_take_of_lt hi] at hx; exact h5 i x hx
theorem SlR.drop {α:Type} {sz:Nat} {R:Rel α} {S:Foot} {w:World} {l:List α} {a:Option Addr} {len cap:Nat} (h:SlR sz R S w l (.slice a len cap)) (n:Nat) (hn:n≤l.length) (a2:Option Addr) (h2:∀ b off,a=some ⟨b,off,none⟩→n < l.length→a2=some ⟨b,off+n * sz,none⟩):SlR sz R S w (l.drop n) (.slice a2 (l.length - n) (cap - n)):=by
 obtain ⟨a',cap',b,off,cs,h1,hle,h3,h4,h5⟩:=h; simp only [Value.slice.injEq] at h1; obtain ⟨rfl,rfl,rfl⟩:=h1
 have hl:(l.drop n).length=l.length - n:=by rw [List.length_drop]
 refine ⟨a2,cap - n,b,off+n * sz,fun i=>cs (n+i),by rw [hl],by omega,fun hp=>?_,fun i hi j u hu=>?_,fun i x hx=>?_⟩
 ·obtain ⟨e,hs,hb⟩:=h3 (by omega)
  exact ⟨h2 b off e (by omega),hs,hb⟩
 ·have:=h4 (n+i) (by omega) j u hu
  rw [show off+n * sz+i * sz+j=off+(n+i) * sz+j by rw [Nat.add_mul]; omega]; exact this
 ·rw [List.getElem?_drop] at hx
  exact h5 (n+i) x hx
theorem sl_from (aa:Option Addr) (len ca k:Nat) (hk:k≤len) (W:World):(Instr.sliceAt 25 (.slice aa len ca) (some (.int .i64 (k:Int))) none none).run Tryz.prog W=.ok (.slice (if ca=k then aa else aa.map (·.add (k * 4))) (len - k) (ca - k)) W:=by
 have ht:Tryz.prog.underlying 25 = some (.slice (Tryz.prog.elem 25)):=by kernel_rfl
 have hz:∀ w,(sizeOf (Tryz.prog.elem 25)).run Tryz.prog w=.ok 4 w:=fun _=>by kernel_rfl
 rw [run_sliceAt_slice (h:=ht),run_slice_l (ht:=ht) (h0:=by omega) (h1:=by omega),hz]; simp [Result.andThen,sliced]
theorem from_at {aa:Option Addr} {ca k:Nat} (b off:Nat) (e:aa=some ⟨b,off,none⟩) (h:k < ca):(if ca=k then aa else aa.map (·.add (k * 4)))=some ⟨b,off+k * 4,none⟩:=by
 rw [if_neg (by omega),e]; simp [Addr.add]
theorem sl_upto (aa:Option Addr) (len ca k:Nat) (hk:k≤ca) (W:World):(Instr.sliceAt 25 (.slice aa len ca) none (some (.int .i64 (k:Int))) none).run Tryz.prog W=.ok (.slice aa k ca) W:=by
 have ht:Tryz.prog.underlying 25 = some (.slice (Tryz.prog.elem 25)):=by kernel_rfl
 have hz:∀ w,(sizeOf (Tryz.prog.elem 25)).run Tryz.prog w=.ok 4 w:=fun _=>by kernel_rfl
 rw [run_sliceAt_slice (h:=ht),run_slice_h (ht:=ht) (h0:=by omega) (h2:=by omega),hz]; simp [Result.andThen,sliced]; intro _; cases aa <;> simp [Addr.add]
set_option maxHeartbeats 40000000 in
set_option maxRecDepth 100000 in
theorem StrataSafe_walk (r:Rg) (ha:Option Addr) (hc:Nat) (ba:Option Addr) (bc:Nat) (wh:Int) (y:Lg) (ya:Option Addr) (yc:Nat) (S:Foot) (w:World) (hTab:Hid (Tab w)) (h1:SlR 7 TgR S w r.head.args (.slice ha r.head.args.length hc)) (h2:SlR 4 LgR S w r.body (.slice ba r.body.length bc)) (h3:SlR 7 TgR S w y.args (.slice ya y.args.length yc)) (hS:∀ k,S k→k < w.heap.size) (hM:RgM r) (hMy:LgM y) :
  Calls Tryz.prog 5 #[.agg (rucells r.head.op r.head.nt r.head.rel (.slice ha r.head.args.length hc) r.agg r.at_ (.slice ba r.body.length bc)),.int .i64 wh,.agg (lcells y.op y.nt y.rel (.slice ya y.args.length yc))] w fun e w'=>e=.returned (.bool true)∧Below w.heap.size w w':=by
 have hba:Below w.heap.size w (w.alloc (.cells (rucells r.head.op r.head.nt r.head.rel (.slice ha r.head.args.length hc) r.agg r.at_ (.slice ba r.body.length bc)) 27)):=(Below.refl _ w).alloc (Nat.le_refl _) _; have hb0:Below w.heap.size w ((w.alloc (.cells (rucells r.head.op r.head.nt r.head.rel (.slice ha r.head.args.length hc) r.agg r.at_ (.slice ba r.body.length bc)) 27)).alloc (.cells (lcells y.op y.nt y.rel (.slice ya y.args.length yc)) 24)):=hba.trans (((Below.refl _ (w.alloc (.cells (rucells r.head.op r.head.nt r.head.rel (.slice ha r.head.args.length hc) r.agg r.at_ (.slice ba r.body.length bc)) 27))).alloc (Nat.le_refl _) _).mono hba.size)
 have hsz1:(w.alloc (.cells (rucells r.head.op r.head.nt r.head.rel (.slice ha r.head.args.length hc) r.agg r.at_ (.slice ba r.body.length bc)) 27)).heap.size=w.heap.size+1:=by simp
 have hbn:((w.alloc (.cells (rucells r.head.op r.head.nt r.head.rel (.slice ha r.head.args.length hc) r.agg r.at_ (.slice ba r.body.length bc)) 27)).alloc (.cells (lcells y.op y.nt y.rel (.slice ya y.args.length yc)) 24)).heap[w.heap.size]? = some (.cells (rucells r.head.op r.head.nt r.head.rel (.slice ha r.head.args.length hc) r.agg r.at_ (.slice ba r.body.length bc)) 27 (0,0)):=(Below.heap_alloc _ _ _ (by rw [hsz1]; omega)).trans (heap_alloc_new' w _)
 have hbm:((w.alloc (.cells (rucells r.head.op r.head.nt r.head.rel (.slice ha r.head.args.length hc) r.agg r.at_ (.slice ba r.body.length bc)) 27)).alloc (.cells (lcells y.op y.nt y.rel (.slice ya y.args.length yc)) 24)).heap[w.heap.size+1]? = some (.cells (lcells y.op y.nt y.rel (.slice ya y.args.length yc)) 24 (0,0)):=by
  have:=heap_alloc_new' (w.alloc (.cells (rucells r.head.op r.head.nt r.head.rel (.slice ha r.head.args.length hc) r.agg r.at_ (.slice ba r.body.length bc)) 27)) (.cells (lcells y.op y.nt y.rel (.slice ya y.args.length yc)) 24); rw [hsz1] at this; exact this
 obtain ⟨W0,hW0⟩:∃ W0,W0=(w.alloc (.cells (rucells r.head.op r.head.nt r.head.rel (.slice ha r.head.args.length hc) r.agg r.at_ (.slice ba r.body.length bc)) 27)).alloc (.cells (lcells y.op y.nt y.rel (.slice ya y.args.length yc)) 24):=⟨_,rfl⟩; rw [← hW0] at hb0 hbn hbm; have hmv:=hid (fun (W:World) (hW:Below w.heap.size w W)=>(⟨h1.below goodTg hW,h2.below goodLg hW,h3.below goodTg hW,fun k hk=>Nat.lt_of_lt_of_le (hS k hk) hW.size⟩:SlR 7 TgR S W r.head.args (.slice ha r.head.args.length hc)∧SlR 4 LgR S W r.body (.slice ba r.body.length bc)∧SlR 7 TgR S W y.args (.slice ya y.args.length yc)∧∀ k,S k→k < W.heap.size)); have hwl:=lt_of_heap hbm; have hsm:=hid (small28_any W0 (((TabN.of hTab.out (Nat.le_refl w.heap.size)).below hb0).tab)); replace hW0:=hid hW0; replace hb0:=hid hb0; replace hbn:=hid hbn
 replace hbm:=hid hbm; replace hM:=hid hM; replace hMy:=hid hMy; replace hS:=hid hS; clear h1 h2 h3 hba hsz1
 go_enter Tryz.func5,Tryz.ntmps5
 go_wp2_with fail
 rw [← hW0.out]
 with_reducible refine hsm.out.mono ?_
 rintro e w1 ⟨rfl,hb1⟩; have hB1:=hid (hb0.out.trans (hb1.mono hb0.out.size)); have hk1:=hid (below_keep hb1 hbn.out (lt_of_heap hbn.out)); have hm1:=hid (below_keep hb1 hbm.out (lt_of_heap hbm.out)); obtain ⟨v0,v1,v2,v3,v4,v5,v6,-⟩:=ru_cells hk1.out; obtain ⟨f1,f2,-,fS⟩:=hmv.out w1 hB1.out; have ho:=hid (order_any r ha hc ba bc S w1 f1 f2 fS (rgm_sml hM.out) hM.out.1.2.1 (fun t ht=>(hM.out.1.2.2 t ht).1)); clear hb1 hsm f1 f2 fS
 go_wp2_with fail
 with_reducible refine ho.out.mono ?_
 intro e w2 h4; obtain ⟨hb2,vo,he2⟩:=h4.open; subst he2; have hB2:=hid (hB1.out.trans (hb2.mono hB1.out.size)); have hk2:=hid (below_keep hb2 hk1.out (lt_of_heap hk1.out)); have hm2:=hid (below_keep hb2 hm1.out (lt_of_heap hm1.out)); obtain ⟨ok,hok⟩:∃ ok,ok=(orderF r.head r.body).isSome:=⟨_,rfl⟩; rw [← hok]; replace hok:=hid hok; clear h4 v0 v1 v2 v3 v4 v5 v6 hb2 ho; obtain ⟨v0,v1,v2,v3,v4,v5,v6,-⟩:=ru_cells hk2.out; have hb3:Below w2.heap.size w2 (w2.alloc (.cells (rucells r.head.op r.head.nt r.head.rel (.slice ha r.head.args.length hc) r.agg r.at_ (.slice ba r.body.length bc)) 27)):=(Below.refl _ w2).alloc (Nat.le_refl _) _; obtain ⟨f1,f2,-,fS⟩:=hmv.out w2 hB2.out; have hq:=one_rule f1 f2 fS
 obtain ⟨W3,hW3⟩:∃ W3,W3=w2.alloc (.cells (rucells r.head.op r.head.nt r.head.rel (.slice ha r.head.args.length hc) r.agg r.at_ (.slice ba r.body.length bc)) 27):=⟨_,rfl⟩; rw [← hW3] at hb3 hq; have hB3:=hid (hB2.out.trans (hb3.mono hB2.out.size)); have hk3:=hid (below_keep hb3 hk2.out (lt_of_heap hk2.out)); have hm3:=hid (below_keep hb3 hm2.out (lt_of_heap hm2.out)); have hf:=hid (show Calls Tryz.prog 9 #[.agg #[.slice (some ⟨w2.heap.size,0,none⟩) 1 1,.int .i64 0,.bool false,.string ⟨#[]⟩,.slice none 0 0]] W3 (PB (Few28 ⟨[r],lit00⟩) W3) from few28_any ⟨[r],lit00⟩ (some ⟨w2.heap.size,0,none⟩) 1 none 0 _ W3 hq (qgm_one hM.out)); replace hW3:=hid hW3; clear hb3 hq f1 f2 fS
 go_wp2_with fail
 rw [← hW3.out]
 with_reducible refine hf.out.mono ?_
 rintro e w4 ⟨hb4,b,rfl,hfew⟩; have hB4:=hid (hB3.out.trans (hb4.mono hB3.out.size)); have hk4:=hid (below_keep hb4 hk3.out (lt_of_heap hk3.out)); have hm4:=hid (below_keep hb4 hm3.out (lt_of_heap hm3.out)); clear v0 v1 v2 v3 v4 v5 v6 hb4 hf
 cases b with
 | false =>
  go_wp2_with fail
  go_ret; exact ⟨rfl,hB4.out⟩
 | true =>
  replace hfew:=hid (hfew rfl); obtain ⟨v0,v1,v2,v3,-⟩:=lt_cells hm4.out; obtain ⟨-,-,f3,fS⟩:=hmv.out w4 hB4.out; have hs:=hid (short_any y ya yc S w4 f3 hMy.out); clear f3 fS
  go_wp2_with fail
  with_reducible refine hs.out.mono ?_
  rintro e w5 ⟨hb5,b,rfl,hsh⟩; have hB5:=hid (hB4.out.trans (hb5.mono hB4.out.size)); have hk5:=hid (below_keep hb5 hk4.out (lt_of_heap hk4.out)); have hm5:=hid (below_keep hb5 hm4.out (lt_of_heap hm4.out)); clear v0 v1 v2 v3 hb5 hs
  cases b with
  | false =>
   go_wp2_with fail
   go_ret; exact ⟨rfl,hB5.out⟩
  | true =>
   replace hsh:=hid (hsh rfl)
   cases ok with
   | false =>
    go_wp2_with fail
    go_ret; exact ⟨rfl,hB5.out⟩
   | true =>
    by_cases hw0:wh < 0
    ·have q0:decide (wh < 0)=true:=decide_eq_true hw0
     go_wp2_with fail
     go_ret; exact ⟨rfl,hB5.out⟩
    ·have q0:decide (wh < 0)=false:=decide_eq_false hw0
     obtain ⟨k,rfl⟩:∃ k:Nat,wh=(k:Int):=⟨wh.toNat,by omega⟩; obtain ⟨v0,v1,v2,v3,v4,v5,v6,-⟩:=ru_cells hk5.out; by_cases hkl:k < r.body.length
     ·have q1:decide ((r.body.length:Int)≤(k:Int))=false:=decide_eq_false (by omega)
      replace hw0:=hid hw0; obtain ⟨u0,u1,u2,u3,uf⟩:=lt_cells hm5.out; have uf0:=uf 0; have uf1:=uf 1; have hD5:=lt_of_heap hm5.out; have hw5:=lt_of_heap hk5.out; obtain ⟨W5,hW5⟩:∃ W,W=(w5.setCell ⟨w.heap.size+1,0,none⟩ (.int .i64 0)).setCell ⟨w.heap.size+1,1,none⟩ (.bool false):=⟨_,rfl⟩
      have hm6:W5.heap[w.heap.size+1]? = some (.cells (lcells 0 false y.rel (.slice ya y.args.length yc)) 24 (0,0)):=by
       rw [hW5]; have:=heap_setCell_same (heap_setCell_same hm5.out (i:=0) (.int .i64 0)) (i:=1) (.bool false); simpa [lcells] using this
      have hoth:∀ j,j≠w.heap.size+1→W5.heap[j]? = w5.heap[j]?:=fun j hj=>by rw [hW5]; exact (heap_setCell_other _ hj).trans (heap_setCell_other _ hj)
      have hk6:=(hoth w.heap.size (by omega)).trans hk5.out; have hBx:Below w.heap.size w W5:=hB5.out.trans (by rw [hW5]; exact (((Fr.refl (one (w.heap.size+1)) w5).setCell (p:=⟨w.heap.size+1,0,none⟩) (Or.inl rfl) _).setCell (p:=⟨w.heap.size+1,1,none⟩) (Or.inl rfl) _).to_below (by omega) (fun j hj e=>by unfold one at e; omega)); obtain ⟨x,hx⟩:∃ x,r.body[k]? = some x:=⟨_,List.getElem?_eq_getElem hkl⟩; obtain ⟨g,o,cs,i1,-,hg,hc2,hrt⟩:=(hmv.out W5 hBx).2.1.at (P:=Tryz.prog) (t:=25) (by kernel_rfl) (fun _=>by kernel_rfl) hx; obtain ⟨xa,xc,rfl,hX⟩:=hrt; have d0:=hc2 0 _ rfl; have d1:=hc2 1 _ rfl; have d2:=hc2 2 _ rfl; have d3:=hc2 3 _ rfl; rw [Nat.add_zero] at d0; clear hc2
      obtain ⟨W7,hW7⟩:∃ W,W=W5.alloc (.cells (lcells x.op x.nt x.rel (.slice xa x.args.length xc)) 24):=⟨_,rfl⟩; obtain ⟨W8,hW8⟩:∃ W,W=W7.alloc (.cells (rucells r.head.op r.head.nt r.head.rel (.slice ha r.head.args.length hc) r.agg r.at_ (.slice ba r.body.length bc)) 27):=⟨_,rfl⟩
      have hb7:Below W5.heap.size W5 W7:=by rw [hW7]; exact (Below.refl _ W5).alloc (Nat.le_refl _) _
      have hb8:Below W7.heap.size W7 W8:=by rw [hW8]; exact (Below.refl _ W7).alloc (Nat.le_refl _) _
      have hk7:W7.heap[W5.heap.size]? = some (.cells (lcells x.op x.nt x.rel (.slice xa x.args.length xc)) 24 (0,0)):=by rw [hW7]; exact heap_alloc_new' W5 _
      have hk8:W8.heap[W7.heap.size]? = some (.cells (rucells r.head.op r.head.nt r.head.rel (.slice ha r.head.args.length hc) r.agg r.at_ (.slice ba r.body.length bc)) 27 (0,0)):=by rw [hW8]; exact heap_alloc_new' W7 _
      have hw57:=hb7.size; have hB7:=hBx.trans (hb7.mono hBx.size); obtain ⟨y0,y1,y2,y3,y4,y5,y6,-⟩:=ru_cells hk6; obtain ⟨b0,b1,b2,b3,b4,b5,b6,-⟩:=ru_cells (below_keep hb7 hk6 (by have:=hBx.size; have:=lt_of_heap hk6; omega)); replace hx:=hid hx; replace hW5:=hid hW5; replace hW7:=hid hW7; replace hW8:=hid hW8; replace hk6:=hid hk6; replace hm6:=hid hm6; replace hk7:=hid hk7; replace hk8:=hid hk8; replace hoth:=hid hoth; clear hg
      go_upto_region 7 with (fail)
      rw [← hW5.out]
      go_upto_region 8 with (fail)
      rw [← hW7.out]
      go_upto_region 9 with (fail)
      rw [← hW8.out]; have hwW5:=hBx.size; have hw0':=lt_of_heap hk5.out
      have hS8:∀ q,S q→q < W8.drew.heap.size:=fun q hq=>by have:=hS.out q hq; have h9:=hb8.size; show q < W8.heap.size; omega
      have hB8:=hid ((hB7.trans (hb8.mono hB7.size)).drew); have hw6:=lt_of_heap hk6.out
      have hbc:r.body.length≤bc:=by
       obtain ⟨a',c',e9,h9⟩:=(hmv.out _ hBx).2.1.slice; simp only [Value.slice.injEq] at e9; omega
      have hn0:BN W8.drew S [] (.slice (some ⟨W8.heap.size,0,none⟩) 0 0) (W8.drew.alloc (.cells #[] 24)):=BN.start S (Below.refl _ _); have hBA1:Below w.heap.size w (W8.drew.alloc (.cells #[] 24)):=hB8.out.trans (hn0.bel.mono hB8.out.size)
      have hS2:∀ q,S q→(S q∨W8.drew.heap.size≤q)∧(Value.slice (some ⟨W8.heap.size,0,none⟩) 0 0).ownBlock≠some q:=fun q hq=>⟨Or.inl hq,fun e=>by simp [Value.ownBlock] at e; have:q < W8.heap.size:=hS8 q hq; omega⟩
      have hbl8:r.body.length≤8:=(hfew.out.2.1 r (by simp)).1; obtain ⟨a1,c1,A2,run1,hn1,-,-⟩:=hn0.app ((hmv.out _ hBA1).2.1.take k (by omega)) hS2 (by simp; omega)
      have hlt1:(r.body.take k).length=k:=by rw [List.length_take]; omega
      rw [hlt1,List.length_nil,Nat.zero_add] at run1 hn1; rw [List.nil_append] at hn1; have hBA2:Below w.heap.size w A2:=hB8.out.trans (hn1.bel.mono hB8.out.size)
      have hS3:∀ q,S q→(S q∨W8.drew.heap.size≤q)∧(Value.slice a1 k c1).ownBlock≠some q:=fun q hq=>⟨Or.inl hq,fun e=>by have:=hn1.ow q e; have:=hS8 q hq; omega⟩
      have hs2:=fun W=>sl_from ba r.body.length bc (k+1) (by omega) W
      obtain ⟨az,haz⟩:∃ az,az=(if bc=k+1 then ba else ba.map (·.add ((k+1) * 4))):=⟨_,rfl⟩; rw [← haz] at hs2; obtain ⟨a2,c2,A3,run2,hn2,-,-⟩:=hn1.app ((hmv.out _ hBA2).2.1.drop (k+1) (by omega) az (fun b off e h=>by rw [haz]; exact from_at b off e (by omega))) hS3 (by rw [hlt1,List.length_drop]; omega); obtain ⟨nl,hnl⟩:∃ nl,nl=k+(r.body.length - (k+1)):=⟨_,rfl⟩; rw [hlt1,List.length_drop,← hnl] at run2 hn2
      have hs1:=fun W=>sl_upto ba r.body.length bc k (by omega) W
      have haz2:(if bc=k+1 then ba else ba.map (fun x=>x.add ((k+1) * 4)))=az:=haz.symm
      have hs2':∀ W,(Instr.sliceAt 25 (.slice ba r.body.length bc) (some (.int .i64 ((k:Int)+1))) none none).run Tryz.prog W=.ok (.slice az (r.body.length - (k+1)) (bc - (k+1))) W:=fun W=>by have h9:=hs2 W; push_cast at h9; exact h9
      replace haz:=hid haz; replace hnl:=hid hnl
      have q4:(0:Int)≤(k:Int)+1:=by omega
      have q5:(k:Int)+1≤(r.body.length:Int):=by omega
      have q6:(k:Int)≤(bc:Int):=by omega
      have q3:IntKind.i64.wrap ((k:Int)+1)=((k+1:Nat):Int):=by rw [IntKind.wrap_i64]; omega
      have c8:W8.cell? ⟨w.heap.size,6,none⟩=some (.slice ba r.body.length bc):=(hb8.cell (p:=⟨w.heap.size,6,none⟩) (by show w.heap.size < W7.heap.size; omega)).trans b6
      have hw8:w.heap.size < W8.drew.heap.size:=by have h9:=hb8.size; show w.heap.size < W8.heap.size; omega
      have hT8:W7.heap.size < W8.drew.heap.size:=lt_of_heap hk8.out; have c9:(W8.drew.alloc (.cells #[] 24)).cell? ⟨w.heap.size,6,none⟩=some (.slice ba r.body.length bc):=(hn0.bel.cell (p:=⟨w.heap.size,6,none⟩) hw8).trans c8; have c10:A2.cell? ⟨w.heap.size,6,none⟩=some (.slice ba r.body.length bc):=(hn1.bel.cell (p:=⟨w.heap.size,6,none⟩) hw8).trans c8; have c11:A3.cell? ⟨w.heap.size,6,none⟩=some (.slice ba r.body.length bc):=(hn2.bel.cell (p:=⟨w.heap.size,6,none⟩) hw8).trans c8; have hkA3:A3.heap[W7.heap.size]? = some (.cells (rucells r.head.op r.head.nt r.head.rel (.slice ha r.head.args.length hc) r.agg r.at_ (.slice ba r.body.length bc)) 27 (0,0)):=below_keep hn2.bel hk8.out hT8; obtain ⟨e0,e1,e2,e3,e4,e5,e6,ef⟩:=ru_cells hkA3; have ef6:=ef 6
      obtain ⟨A4,hA4⟩:∃ W,W=A3.setCell ⟨W7.heap.size,6,none⟩ (.slice a2 nl c2):=⟨_,rfl⟩
      have hkA4:A4.heap[W7.heap.size]? = some (.cells (rucells r.head.op r.head.nt r.head.rel (.slice ha r.head.args.length hc) r.agg r.at_ (.slice a2 nl c2)) 27 (0,0)):=by
       rw [hA4]; have:=heap_setCell_same hkA3 (i:=6) (.slice a2 nl c2); simpa [rucells] using this
      have hoA4:∀ j,j≠W7.heap.size→A4.heap[j]? = A3.heap[j]?:=fun j hj=>by rw [hA4]; exact heap_setCell_other _ hj
      have hne7:w.heap.size≠W7.heap.size:=by omega
      have c12:(A3.setCell ⟨W7.heap.size,6,none⟩ (.slice a2 nl c2)).cell? ⟨w.heap.size,6,none⟩=some (.slice ba r.body.length bc):=(World.cell?_of_block (heap_setCell_other _ hne7)).trans c11; clear e0 e1 e2 e3 e4 e5 ef hS2 hS3 hn0 b0 b1 b2 b3 b4 b5 b6
      go_wp2_with fail
      refine wp_region_held_drew (S:=fun w'=>w'.cell? ⟨w.heap.size,6,none⟩=some (.slice ba r.body.length bc)) (by kernel_rfl) ?_ (fun hHeld=>?_)
      ·exact c8
      refine wTk (i:=1) (v:=?_) rfl ?hy ?_
      case hy =>
       intro w hSw
       (try dsimp only at hSw)
       go_simp
       all_goals with_reducible rfl
      try simp only [Act.put,sI,sZ,sS]
      refine wTk (i:=2) (v:=?_) rfl ?hy ?_
      case hy =>
       intro w hSw
       (try dsimp only at hSw)
       go_simp
       all_goals with_reducible rfl
      try simp only [Act.put,sI,sZ,sS]
      refine wTk (i:=3) (v:=?_) rfl ?hy ?_
      case hy =>
       intro w hSw
       (try dsimp only at hSw)
       go_simp
       all_goals with_reducible rfl
      try simp only [Act.put,sI,sZ,sS]
      refine wTk (i:=4) (v:=?_) rfl ?hy ?_
      case hy =>
       intro w hSw
       (try dsimp only at hSw)
       go_simp
       all_goals with_reducible rfl
      try simp only [Act.put,sI,sZ,sS]
      refine wTk (i:=6) (v:=?_) rfl ?hy ?_
      case hy =>
       intro w hSw
       (try dsimp only at hSw)
       go_simp
       all_goals with_reducible rfl
      try simp only [Act.put,sI,sZ,sS]
      refine wTk (i:=7) (v:=?_) rfl ?hy ?_
      case hy =>
       intro w hSw
       (try dsimp only at hSw)
       go_simp
       all_goals with_reducible rfl
      try simp only [Act.put,sI,sZ,sS]
      refine wTk (i:=8) (v:=?_) rfl ?hy ?_
      case hy =>
       intro w hSw
       (try dsimp only at hSw)
       go_simp
       all_goals with_reducible rfl
      try simp only [Act.put,sI,sZ,sS]
      refine wTk (i:=9) (v:=?_) rfl ?hy ?_
      case hy =>
       intro w hSw
       (try dsimp only at hSw)
       go_simp
       all_goals with_reducible rfl
      try simp only [Act.put,sI,sZ,sS]
      refine wTk (i:=10) (v:=?_) rfl ?hy ?_
      case hy =>
       intro w hSw
       (try dsimp only at hSw)
       go_simp
       all_goals with_reducible rfl
      try simp only [Act.put,sI,sZ,sS]
      refine wpAnyH_ready (rs:=[0]) (by as_aux_lemma=>kernel_rfl) (by simp) ?_; refine rdY rfl (fun K hK=>?_); go_simp
      skip
      refine hK.out _ _ ?_ (fun hHeld2=>?_)
      ·exact c9
      clear hK K hHeld; have hHeld:=hHeld2; clear hHeld2
      try simp only [Act.put,sI,sZ,sS]
      refine wpAnyH_ready (rs:=[5]) (by as_aux_lemma=>kernel_rfl) (by simp) ?_; refine rdY rfl (fun K hK=>?_); refine step_append_shut (by rfl) (.tmp 58) (.tmp 62) (by rfl) (by rfl) (by rfl) run1 ?_; refine hK.out _ _ ?_ (fun hHeld2=>?_)
      ·exact c10
      clear hK K hHeld; have hHeld:=hHeld2; clear hHeld2
      try simp only [Act.put,sI,sZ,sS]
      refine wpAnyH_ready (rs:=[11]) (by as_aux_lemma=>kernel_rfl) (by simp) ?_; refine rdY rfl (fun K hK=>?_); refine step_append_shut (by rfl) (.tmp 63) (.tmp 68) (by rfl) (by rfl) (by rfl) run2 ?_; refine hK.out _ _ ?_ (fun hHeld2=>?_)
      ·exact c11
      clear hK K hHeld; have hHeld:=hHeld2; clear hHeld2
      try simp only [Act.put,sI,sZ,sS]
      refine wTk (i:=12) (v:=?_) rfl ?hy ?_
      case hy =>
       intro w hSw
       (try dsimp only at hSw)
       go_simp
       all_goals with_reducible rfl
      try simp only [Act.put,sI,sZ,sS]
      refine wpAnyH_ready (rs:=[13]) (by as_aux_lemma=>kernel_rfl) (by simp) ?_; refine rdY rfl (fun K hK=>?_); go_simp
      skip
      refine hK.out _ _ ?_ (fun hHeld2=>?_)
      ·exact c12
      clear hK K hHeld; have hHeld:=hHeld2; clear hHeld2
      try simp only [Act.put,sI,sZ,sS]
      refine wpAnyH_done (by as_aux_lemma=>kernel_rfl) ?_ _
      go_upto_region 10 with (fail)
      rw [← hA4]; have hk68:W8.heap[w.heap.size]? = some (.cells (rucells r.head.op r.head.nt r.head.rel (.slice ha r.head.args.length hc) r.agg r.at_ (.slice ba r.body.length bc)) 27 (0,0)):=below_keep hb8 (below_keep hb7 hk6.out hw6) (by omega); have hm68:W8.heap[w.heap.size+1]? = some (.cells (lcells 0 false y.rel (.slice ya y.args.length yc)) 24 (0,0)):=below_keep hb8 (below_keep hb7 hm6.out (lt_of_heap hm6.out)) (by have:=lt_of_heap hm6.out; omega); have hk78:W8.heap[W5.heap.size]? = some (.cells (lcells x.op x.nt x.rel (.slice xa x.args.length xc)) 24 (0,0)):=below_keep hb8 hk7.out (lt_of_heap hk7.out)
      have hkp:∀ j ob,j≠W7.heap.size→W8.heap[j]? = some ob→A4.heap[j]? = some ob:=fun j ob hj h=>(hoA4 j hj).trans (below_keep hn2.bel h (lt_of_some h))
      have hkR:=hid (hkp _ _ hne7 hk68); have hmR:=hid (hkp _ _ (by have:=lt_of_heap hm6.out; omega) hm68); have hxR:=hid (hkp _ _ (by have:=lt_of_heap hk7.out; omega) hk78); have hB9:=hid (show Below w.heap.size w A4 from (hB8.out.trans (hn2.bel.mono (by omega))).trans (by rw [hA4]; exact ((Fr.refl (one W7.heap.size) A3).setCell (p:=⟨W7.heap.size,6,none⟩) (Or.inl rfl) _).to_below (by have:=lt_of_heap hkA3; omega) (fun j hj e=>by unfold one at e; omega))); have hRB:RgB r:=hfew.out.sm.bd.1 r (by simp); obtain ⟨lb,hlb⟩:∃ lb,lb=r.body.take k++r.body.drop (k+1):=⟨_,rfl⟩
      have hlbn:lb.length=nl:=by rw [hlb,List.length_append,hlt1,List.length_drop,hnl.out]
      have hlbm:∀ z∈lb,z∈r.body:=fun z hz=>by
       rw [hlb] at hz; rcases List.mem_append.1 hz with h | h
       ·exact List.mem_of_mem_take h
       ·exact List.mem_of_mem_drop h
      have hnl8:nl≤8:=by have:=hnl.out; omega
      rw [← hlb] at hn2; obtain ⟨f1,-,-,fS⟩:=hmv.out A4 hB9.out
      have hor:=order_any ⟨r.head,r.agg,r.at_,lb⟩ ha hc a2 c2 (fun q=>q < A4.heap.size) A4 (f1.mono goodTg fun q _ hq=>fS q hq) (by
       show SlR 4 LgR _ A4 lb (.slice a2 lb.length c2); rw [hlbn]
       refine (hn2.row.sl goodLg).move goodLg fun q hq hs=>⟨by have:A3.heap.size≤A4.heap.size:=(by rw [hA4]; simp [World.setCell]); omega,hoA4 q ?_⟩
       rcases hs with hs | hs
       ·have:=hS.out q hs; omega
       ·omega) (fun q hq=>hq) (RgB.sml (r:=⟨r.head,r.agg,r.at_,lb⟩) ⟨hRB.1,by show lb.length≤100000; omega,fun z hz=>hRB.2.2 z (hlbm z hz)⟩) hM.out.1.2.1 (fun t ht=>(hM.out.1.2.2 t ht).1)
      replace hor:=hid (show Calls Tryz.prog 10 #[.agg (rucells r.head.op r.head.nt r.head.rel (.slice ha r.head.args.length hc) r.agg r.at_ (.slice a2 nl c2))] A4 (POrd ⟨r.head,r.agg,r.at_,lb⟩ A4) from by rw [← hlbn]; exact hor); obtain ⟨e0,e1,e2,e3,e4,e5,e6,-⟩:=ru_cells hkA4; replace hkA4:=hid hkA4
      have hxl:=hid (show r.body=r.body.take k++x::r.body.drop (k+1) from by
       have h9:=List.drop_eq_getElem_cons hkl; rw [(List.getElem?_eq_some_iff.1 hx.out).2] at h9
       rw [← h9,List.take_append_drop])
      have hsafe:=hid ((order_iff r.head r.body).1 hok.out.symm); clear hn1 hn2 run1 run2 hs1 hs2 hs2' haz2 c8 c9 c10 c11 c12 hkA3 hoA4 hkp hk68 hm68 hk78 ef6 d0 d1 d2 d3 i1 hBA1 hBA2 q3 q4 q5 q6; replace hA4:=hid hA4
      go_wp2_with fail
      with_reducible refine hor.out.mono ?_
      intro e A5 h5; obtain ⟨hb9,vo2,he9⟩:=h5.open; subst he9; obtain ⟨wi,hwi⟩:∃ wi,wi=(orderF r.head lb).isSome:=⟨_,rfl⟩; rw [show (orderF (Rg.mk r.head r.agg r.at_ lb).head (Rg.mk r.head r.agg r.at_ lb).body).isSome=wi from hwi.symm]; have hB10:=hid (hB9.out.trans (hb9.mono hB9.out.size)); have hkR5:=hid (below_keep hb9 hkR.out (lt_of_heap hkR.out)); have hmR5:=hid (below_keep hb9 hmR.out (lt_of_heap hmR.out)); have hxR5:=below_keep hb9 hxR.out (lt_of_heap hxR.out); obtain ⟨z0,z1,z2,z3,-⟩:=lt_cells hxR5; obtain ⟨bi,hbi⟩:∃ bi,bi = !idleF x:=⟨_,rfl⟩
      have hwb:=hid (show bi=false→wi=true from fun h=>by
       rw [hwi,order_iff,hlb]; rw [hxl.out] at hsafe
       exact safe_less hsafe.out (by rw [h] at hbi; simpa using hbi.symm))
      replace hwi:=hid hwi; replace hlb:=hid hlb; clear h5 e0 e1 e2 e3 e4 e5 e6 hor hb9 z2 z3 f1 fS hxR5
      go_upto_region 11 with (fail)
      go_cut [14] from 76 to 94 (fun v14 wy=>v14=.bool bi∧A5=wy)
      case first =>
       by_cases o0:x.op=0
       ·rw [o0] at z0
        obtain ⟨nt,hnt⟩:∃ nt,nt=x.nt:=⟨_,rfl⟩; rw [← hnt] at z1; have hb2:=hid (show bi = !nt from by rw [hbi]; unfold idleF; rw [o0,← hnt]; cases nt <;> rfl); replace o0:=hid o0; replace hnt:=hid hnt; replace hbi:=hid hbi
        cases nt with
        | false =>
         go_wp2_with fail
         go_meet
         exact ⟨by rw [hb2.out]; rfl,rfl⟩
        | true =>
         go_wp2_with fail
         go_meet
         exact ⟨by rw [hb2.out]; rfl,rfl⟩
       ·have qo0:(x.op == 0)=false:=by simpa using o0
        by_cases o1:x.op=1
        ·rw [o1] at z0
         have hb2:=hid (show bi=true from by rw [hbi]; unfold idleF; rw [o1]; simp); replace o0:=hid o0; replace o1:=hid o1; replace hbi:=hid hbi
         go_wp2_with fail
         go_meet
         exact ⟨by rw [hb2.out],rfl⟩
        ·have qo1:(x.op == 1)=false:=by simpa using o1
         have hb2:=hid (show bi=(x.op == 5) from by
          rw [hbi]; unfold idleF
          by_cases o5:x.op=5 <;> simp [o0,o1,o5])
         replace o0:=hid o0; replace o1:=hid o1; replace hbi:=hid hbi
         go_wp2_with fail
         go_meet
         exact ⟨by rw [hb2.out],rfl⟩
      case rest =>
       obtain ⟨rfl,hwc⟩:=hcut; subst hwc; replace hbi:=hid hbi; obtain ⟨v0,v1,v2,v3,v4,v5,v6,-⟩:=ru_cells hkR5.out; obtain ⟨A6,hA6⟩:∃ W,W=A5.alloc (.cells (rucells r.head.op r.head.nt r.head.rel (.slice ha r.head.args.length hc) r.agg r.at_ (.slice ba r.body.length bc)) 27):=⟨_,rfl⟩
       have hb6:Below A5.heap.size A5 A6:=by rw [hA6]; exact (Below.refl _ A5).alloc (Nat.le_refl _) _
       have hk15:A6.heap[A5.heap.size]? = some (.cells (rucells r.head.op r.head.nt r.head.rel (.slice ha r.head.args.length hc) r.agg r.at_ (.slice ba r.body.length bc)) 27 (0,0)):=by rw [hA6]; exact heap_alloc_new' A5 _
       have hT15:A5.heap.size < A6.drew.heap.size:=lt_of_heap hk15; have hwA5:=hB10.out.size; have hRl:=lt_of_heap hkR5.out; have hml:=lt_of_heap hmR5.out; have c0:A6.cell? ⟨w.heap.size,6,none⟩=some (.slice ba r.body.length bc):=(hb6.cell (p:=⟨w.heap.size,6,none⟩) hRl).trans v6; obtain ⟨u0,u1,u2,u3,-⟩:=lt_cells (below_keep hb6 hmR5.out hml); have hB11:=hid (hB10.out.trans ((hb6.mono hwA5).drew))
       have hS6:∀ q,S q→q < A6.drew.heap.size:=fun q hq=>Nat.lt_of_lt_of_le (hS.out q hq) hB11.out.size
       obtain ⟨y',hy'⟩:∃ y':Lg,y'=⟨0,false,y.rel,y.args⟩:=⟨_,rfl⟩
       have hf:∀ W,Below A6.drew.heap.size A6.drew W→(W.cell? ⟨w.heap.size,6,none⟩=some (.slice ba r.body.length bc)∧W.cell? ⟨w.heap.size+1,0,none⟩=some (.int .i64 0)∧W.cell? ⟨w.heap.size+1,1,none⟩=some (.bool false)∧W.cell? ⟨w.heap.size+1,2,none⟩=some (sv y.rel)∧W.cell? ⟨w.heap.size+1,3,none⟩=some (.slice ya y.args.length yc)):=fun W hW =>
        ⟨(hW.cell (p:=⟨w.heap.size,6,none⟩) (Nat.lt_trans hRl hT15)).trans c0,(hW.cell (p:=⟨w.heap.size+1,0,none⟩) (Nat.lt_trans hml hT15)).trans u0,(hW.cell (p:=⟨w.heap.size+1,1,none⟩) (Nat.lt_trans hml hT15)).trans u1,(hW.cell (p:=⟨w.heap.size+1,2,none⟩) (Nat.lt_trans hml hT15)).trans u2,(hW.cell (p:=⟨w.heap.size+1,3,none⟩) (Nat.lt_trans hml hT15)).trans u3⟩
       have hfm:∀ W,Below A6.drew.heap.size A6.drew W→(SlR 4 LgR S W r.body (.slice ba r.body.length bc)∧SlR 7 TgR S W y.args (.slice ya y.args.length yc)):=fun W hW=>by
        obtain ⟨-,f2,f3,-⟩:=hmv.out W (hB11.out.trans (hW.mono hB11.out.size)); exact ⟨f2,f3⟩
       have hS0:∀ (g:Nat),A6.drew.heap.size≤g→∀ q,S q→(S q∨A6.drew.heap.size≤q)∧(Value.slice (some ⟨g,0,none⟩) 0 0).ownBlock≠some q:=fun g hg q hq=>⟨Or.inl hq,fun e=>by simp [Value.ownBlock] at e; have:=hS6 q hq; omega⟩
       have hS1:∀ (g:Nat) (v:Value),A6.drew.heap.size≤g→(∀ q,v.ownBlock=some q→A6.drew.heap.size≤q∧q≠g)→∀ q,(S q∨q=g)→(S q∨A6.drew.heap.size≤q)∧v.ownBlock≠some q:=fun g v hg hv q hq=>by
        rcases hq with hq | rfl
        ·exact ⟨Or.inl hq,fun e=>by have:=(hv q e).1; have:=hS6 q hq; omega⟩
        ·exact ⟨Or.inr hg,fun e=>(hv _ e).2 rfl⟩
       have hlr:∀ (W:World) (b:Nat),Below A6.drew.heap.size A6.drew W→W.heap[b]? = some (.cells (lcells 0 false y.rel (.slice ya y.args.length yc)) 24 (0,0))→SlR 4 LgR (fun q=>S q∨q=b) W [y'] (.slice (some ⟨b,0,none⟩) 1 1):=fun W b hW h=>by
        rw [hy']; exact lit_row1 (x:=⟨0,false,y.rel,y.args⟩) h (hfm W hW).2
       have hfin:∀ (a:Option Addr) (c:Nat) (B:World),BN A6.drew S (r.body++[y']) (.slice a (r.body.length+1) c) B→((B.setCell ⟨A5.heap.size,6,none⟩ (.slice a (r.body.length+1) c)).heap[A5.heap.size]? = some (.cells (rucells r.head.op r.head.nt r.head.rel (.slice ha r.head.args.length hc) r.agg r.at_ (.slice a (r.body.length+1) c)) 27 (0,0))∧SlR 4 LgR (fun q=>q < (B.setCell ⟨A5.heap.size,6,none⟩ (.slice a (r.body.length+1) c)).heap.size) (B.setCell ⟨A5.heap.size,6,none⟩ (.slice a (r.body.length+1) c)) (r.body++[y']) (.slice a (r.body.length+1) c)∧Below w.heap.size w (B.setCell ⟨A5.heap.size,6,none⟩ (.slice a (r.body.length+1) c))):=by
        intro a c B hn; have hkB:=below_keep hn.bel hk15 hT15; refine ⟨?_,?_,?_⟩
        ·have:=heap_setCell_same hkB (i:=6) (.slice a (r.body.length+1) c)
         simpa [rucells] using this
        ·refine (hn.row.sl goodLg).move goodLg fun q hq hs=>⟨by simpa [World.setCell] using hq,heap_setCell_other _ ?_⟩
         rcases hs with hs | hs
         ·have:=hS.out q hs; omega
         ·omega
        ·exact (hB11.out.trans (hn.bel.mono hB11.out.size)).trans (((Fr.refl (one A5.heap.size) B).setCell (p:=⟨A5.heap.size,6,none⟩) (Or.inl rfl) _).to_below (by have:=lt_of_heap hkB; omega) (fun j hj e=>by unfold one at e; omega))
       have hef:∀ B,Below A6.drew.heap.size A6.drew B→(B.cell? ⟨A5.heap.size,6,none⟩=some (.slice ba r.body.length bc)∧B.frozen? ⟨A5.heap.size,6,none⟩=false):=fun B hB=>by
        obtain ⟨-,-,-,-,-,-,e6,ef⟩:=ru_cells (below_keep hB hk15 hT15); exact ⟨e6,ef 6⟩
       have hff:∀ (v:Value) (B:World),Below A6.drew.heap.size A6.drew B→((B.setCell ⟨A5.heap.size,6,none⟩ v).cell? ⟨w.heap.size,6,none⟩=some (.slice ba r.body.length bc)∧(B.setCell ⟨A5.heap.size,6,none⟩ v).cell? ⟨w.heap.size+1,0,none⟩=some (.int .i64 0)∧(B.setCell ⟨A5.heap.size,6,none⟩ v).cell? ⟨w.heap.size+1,1,none⟩=some (.bool false)∧(B.setCell ⟨A5.heap.size,6,none⟩ v).cell? ⟨w.heap.size+1,2,none⟩=some (sv y.rel)∧(B.setCell ⟨A5.heap.size,6,none⟩ v).cell? ⟨w.heap.size+1,3,none⟩=some (.slice ya y.args.length yc)):=fun v B hB=>by
        obtain ⟨g0,g1,g2,g3,g4⟩:=hf B hB
        have n1:w.heap.size≠A5.heap.size:=by omega
        have n2:w.heap.size+1≠A5.heap.size:=by omega
        exact ⟨(World.cell?_of_block (heap_setCell_other _ n1)).trans g0,(World.cell?_of_block (heap_setCell_other _ n2)).trans g1,(World.cell?_of_block (heap_setCell_other _ n2)).trans g2,(World.cell?_of_block (heap_setCell_other _ n2)).trans g3,(World.cell?_of_block (heap_setCell_other _ n2)).trans g4⟩
       replace hk15:=hid hk15; replace hfin:=hid hfin; replace hff:=hid hff; replace hef:=hid hef; replace hA6:=hid hA6; replace hfm:=hid hfm; replace hS0:=hid hS0; replace hS1:=hid hS1; replace hlr:=hid hlr; replace hy':=hid hy'
       go_upto_region 13 with (fail)
       rw [← hA6.out]
       go_cut [6] from 95 to 103 (fun v6 wz=>v6=.bool false∧Hid (∃ (a:Option Addr) (c:Nat),wz.heap[A5.heap.size]? = some (.cells (rucells r.head.op r.head.nt r.head.rel (.slice ha r.head.args.length hc) r.agg r.at_ (.slice a (r.body.length+1) c)) 27 (0,0))∧SlR 4 LgR (fun q=>q < wz.heap.size) wz (r.body++[y']) (.slice a (r.body.length+1) c)∧Below w.heap.size w wz))
       case first =>
        obtain ⟨c0',u0',u1',u2',u3'⟩:=hf A6.drew (Below.refl _ _); replace hf:=hid hf
        go_wp2_with fail
        refine wp_region_held_drew (S:=fun w'=>w'.cell? ⟨w.heap.size,6,none⟩=some (.slice ba r.body.length bc)∧w'.cell? ⟨w.heap.size+1,0,none⟩=some (.int .i64 0)∧w'.cell? ⟨w.heap.size+1,1,none⟩=some (.bool false)∧w'.cell? ⟨w.heap.size+1,2,none⟩=some (sv y.rel)∧w'.cell? ⟨w.heap.size+1,3,none⟩=some (.slice ya y.args.length yc)) (by kernel_rfl) ?_ (fun hHeld=>?_)
        ·exact ⟨c0',u0',u1',u2',u3'⟩
        refine wTk (i:=1) (v:=?_) rfl ?hy ?_
        case hy =>
         intro w hSw
         (try dsimp only at hSw)
         go_simp
         all_goals with_reducible rfl
        try simp only [Act.put,sI,sZ,sS]
        refine wTk (i:=2) (v:=?_) rfl ?hy ?_
        case hy =>
         intro w hSw
         (try dsimp only at hSw)
         go_simp
         all_goals with_reducible rfl
        try simp only [Act.put,sI,sZ,sS]
        refine wTk (i:=4) (v:=?_) rfl ?hy ?_
        case hy =>
         intro w hSw
         (try dsimp only at hSw)
         go_simp
         all_goals with_reducible rfl
        try simp only [Act.put,sI,sZ,sS]
        refine wpAnyH_ready (rs:=[0,5]) (by as_aux_lemma=>kernel_rfl) (by simp) ?_; refine AllReadyH.cons (o:=⟨_,_,_,_,_,_⟩) rfl (fun KK hKK=>?_) (AllReadyH.cons (o:=⟨_,_,_,_,_,_⟩) rfl (fun KK hKK=>?_) AllReadyH.nil)
        all_goals clear hHeld
        ·have n0:BN A6.drew S [] (.slice (some ⟨A6.drew.heap.size,0,none⟩) 0 0) (A6.drew.alloc (.cells #[] 24)):=BN.start S (Below.refl _ _)
         go_simp; refine hKK.out _ _ ?_ (fun hHeld2=>?_)
         ·exact hf.out _ n0.bel
         clear hKK KK; have hHeld:=hHeld2; clear hHeld2
         try simp only [Act.put,sI,sZ,sS]
         refine wpAnyH_ready (rs:=[3,5]) (by as_aux_lemma=>kernel_rfl) (by simp) ?_; refine AllReadyH.cons (o:=⟨_,_,_,_,_,_⟩) rfl (fun KK hKK=>?_) (AllReadyH.cons (o:=⟨_,_,_,_,_,_⟩) rfl (fun KK hKK=>?_) AllReadyH.nil)
         all_goals clear hHeld
         ·obtain ⟨a1,c1,B2,run3,n1,fr1,ov1⟩:=n0.app (hfm.out _ n0.bel).1 (hS0.out A6.drew.heap.size (by first | exact Nat.le_refl _ | exact Nat.le_succ _)) (by simp; omega)
          simp only [List.length_nil,Nat.zero_add,List.nil_append] at run3 n1 ov1; refine step_append_shut (by rfl) (.tmp 95) (.tmp 97) (by rfl) (by rfl) (by rfl) run3 ?_; refine hKK.out _ _ ?_ (fun hHeld2=>?_)
          ·exact hf.out _ n1.bel
          clear hKK KK; have hHeld:=hHeld2; clear hHeld2
          try simp only [Act.put,sI,sZ,sS]
          refine wpAnyH_ready (rs:=[5]) (by as_aux_lemma=>kernel_rfl) (by simp) ?_; refine AllReadyH.cons (o:=⟨_,_,_,_,_,_⟩) rfl (fun KK hKK=>?_) AllReadyH.nil
          all_goals clear hHeld
          have hbL:Below B2.heap.size B2 (B2.alloc (.cells (lcells 0 false y.rel (.slice ya y.args.length yc)) 24)):=(Below.refl _ _).alloc (Nat.le_refl _) _; have n2:=n1.below hbL; have hkL:=heap_alloc_new' B2 (.cells (lcells 0 false y.rel (.slice ya y.args.length yc)) 24); go_simp; refine hKK.out _ _ ?_ (fun hHeld2=>?_)
          ·exact hf.out _ n2.bel
          clear hKK KK; have hHeld:=hHeld2; clear hHeld2
          try simp only [Act.put,sI,sZ,sS]
          obtain ⟨a6,c6,B6,run6,n6,-,-⟩:=n2.app (hlr.out _ _ n2.bel hkL) (hS1.out B2.heap.size _ n1.bel.size (fun q hq=>⟨n1.ow q hq,by have:=n1.row.lt hq; omega⟩)) (by simp; omega); simp only [List.length_singleton] at run6 n6; refine wpAnyH_ready (rs:=[6]) (by as_aux_lemma=>kernel_rfl) (by simp) ?_; refine AllReadyH.cons (o:=⟨_,_,_,_,_,_⟩) rfl (fun KK hKK=>?_) AllReadyH.nil
          all_goals clear hHeld
          refine step_append_shut (by rfl) (.tmp 98) (.tmp 100) (by rfl) (by rfl) (by rfl) run6 ?_; refine hKK.out _ _ ?_ (fun hHeld2=>?_)
          ·exact hf.out _ n6.bel
          clear hKK KK; have hHeld:=hHeld2; clear hHeld2
          try simp only [Act.put,sI,sZ,sS]
          refine wTk (i:=7) (v:=?_) rfl ?hy ?_
          case hy =>
           intro w hSw
           (try dsimp only at hSw)
           go_simp
           all_goals with_reducible rfl
          try simp only [Act.put,sI,sZ,sS]
          obtain ⟨e6,ef6⟩:=hef.out B6 n6.bel; refine wpAnyH_ready (rs:=[8]) (by as_aux_lemma=>kernel_rfl) (by simp) ?_; refine AllReadyH.cons (o:=⟨_,_,_,_,_,_⟩) rfl (fun KK hKK=>?_) AllReadyH.nil
          all_goals clear hHeld
          go_simp; refine hKK.out _ _ ?_ (fun hHeld2=>?_)
          ·exact hff.out _ B6 n6.bel
          clear hKK KK; have hHeld:=hHeld2; clear hHeld2
          try simp only [Act.put,sI,sZ,sS]
          refine wpAnyH_done (by as_aux_lemma=>kernel_rfl) ?_ _
          go_wp2_with fail
          go_meet
          exact ⟨rfl,hid ⟨a6,c6,hfin.out a6 c6 B6 n6⟩⟩
         ·have hbL:Below (A6.drew.alloc (.cells #[] 24)).heap.size (A6.drew.alloc (.cells #[] 24)) ((A6.drew.alloc (.cells #[] 24)).alloc (.cells (lcells 0 false y.rel (.slice ya y.args.length yc)) 24)):=(Below.refl _ _).alloc (Nat.le_refl _) _
          obtain ⟨b,hb⟩:∃ b,b=A6.heap.size+1:=⟨_,rfl⟩
          have hbE:b=(A6.drew.alloc (.cells #[] 24)).heap.size:=by rw [hb]; simp
          have hkL:((A6.drew.alloc (.cells #[] 24)).alloc (.cells (lcells 0 false y.rel (.slice ya y.args.length yc)) 24)).heap[b]? = some (.cells (lcells 0 false y.rel (.slice ya y.args.length yc)) 24 (0,0)):=by rw [hbE]; exact heap_alloc_new' _ _
          have hb2:A6.drew.heap.size < b:=by rw [hb]; exact Nat.lt_succ_self _
          have hb3:A6.heap.size < b:=hb2; clear hbE; replace hb:=hid hb; have n0':=n0.below hbL; go_simp; refine hKK.out _ _ ?_ (fun hHeld2=>?_)
          ·exact hf.out _ n0'.bel
          clear hKK KK; have hHeld:=hHeld2; clear hHeld2
          try simp only [Act.put,sI,sZ,sS]
          refine wpAnyH_ready (rs:=[3]) (by as_aux_lemma=>kernel_rfl) (by simp) ?_; refine AllReadyH.cons (o:=⟨_,_,_,_,_,_⟩) rfl (fun KK hKK=>?_) AllReadyH.nil
          all_goals clear hHeld
          obtain ⟨a1,c1,B2,run3,n1,fr1,ov1⟩:=n0'.app (hfm.out _ n0'.bel).1 (hS0.out A6.drew.heap.size (by first | exact Nat.le_refl _ | exact Nat.le_succ _)) (by simp; omega); simp only [List.length_nil,Nat.zero_add,List.nil_append] at run3 n1 ov1; refine step_append_shut (by rfl) (.tmp 95) (.tmp 97) (by rfl) (by rfl) (by rfl) run3 ?_; refine hKK.out _ _ ?_ (fun hHeld2=>?_)
          ·exact hf.out _ n1.bel
          clear hKK KK; have hHeld:=hHeld2; clear hHeld2
          try simp only [Act.put,sI,sZ,sS]
          have hkL2:=(fr1.block b (lt_of_heap hkL) (fun e=>by simp [Value.ownBlock] at e; omega)).trans hkL
          obtain ⟨a6,c6,B6,run6,n6,-,-⟩:=n1.app (hlr.out _ _ n1.bel hkL2) (hS1.out b _ (Nat.le_of_lt hb2) (fun q hq=>⟨n1.ow q hq,fun e=>by
           rcases ov1 with e9 | e9
           ·rw [e9] at hq; simp [Value.ownBlock] at hq; omega
           ·rw [e9] at hq; injection hq with hq; have:=lt_of_heap hkL; omega⟩)) (by simp; omega)
          simp only [List.length_singleton] at run6 n6; rw [hb.out] at run6; refine wpAnyH_ready (rs:=[6]) (by as_aux_lemma=>kernel_rfl) (by simp) ?_; refine AllReadyH.cons (o:=⟨_,_,_,_,_,_⟩) rfl (fun KK hKK=>?_) AllReadyH.nil
          all_goals clear hHeld
          refine step_append_shut (by rfl) (.tmp 98) (.tmp 100) (by rfl) (by rfl) (by rfl) run6 ?_; refine hKK.out _ _ ?_ (fun hHeld2=>?_)
          ·exact hf.out _ n6.bel
          clear hKK KK; have hHeld:=hHeld2; clear hHeld2
          try simp only [Act.put,sI,sZ,sS]
          refine wTk (i:=7) (v:=?_) rfl ?hy ?_
          case hy =>
           intro w hSw
           (try dsimp only at hSw)
           go_simp
           all_goals with_reducible rfl
          try simp only [Act.put,sI,sZ,sS]
          obtain ⟨e6,ef6⟩:=hef.out B6 n6.bel; refine wpAnyH_ready (rs:=[8]) (by as_aux_lemma=>kernel_rfl) (by simp) ?_; refine AllReadyH.cons (o:=⟨_,_,_,_,_,_⟩) rfl (fun KK hKK=>?_) AllReadyH.nil
          all_goals clear hHeld
          go_simp; refine hKK.out _ _ ?_ (fun hHeld2=>?_)
          ·exact hff.out _ B6 n6.bel
          clear hKK KK; have hHeld:=hHeld2; clear hHeld2
          try simp only [Act.put,sI,sZ,sS]
          refine wpAnyH_done (by as_aux_lemma=>kernel_rfl) ?_ _
          go_wp2_with fail
          go_meet
          exact ⟨rfl,hid ⟨a6,c6,hfin.out a6 c6 B6 n6⟩⟩
        ·have hbL:Below A6.drew.heap.size A6.drew (A6.drew.alloc (.cells (lcells 0 false y.rel (.slice ya y.args.length yc)) 24)):=(Below.refl _ _).alloc (Nat.le_refl _) _
         have hkL0:=heap_alloc_new' A6.drew (.cells (lcells 0 false y.rel (.slice ya y.args.length yc)) 24); go_simp; refine hKK.out _ _ ?_ (fun hHeld2=>?_)
         ·exact hf.out _ hbL
         clear hKK KK; have hHeld:=hHeld2; clear hHeld2
         try simp only [Act.put,sI,sZ,sS]
         refine wpAnyH_ready (rs:=[0]) (by as_aux_lemma=>kernel_rfl) (by simp) ?_; refine AllReadyH.cons (o:=⟨_,_,_,_,_,_⟩) rfl (fun KK hKK=>?_) AllReadyH.nil
         all_goals clear hHeld
         have n0:=BN.start (w5:=A6.drew) S hbL
         have hC1:(A6.drew.alloc (.cells (lcells 0 false y.rel (.slice ya y.args.length yc)) 24)).heap.size=A6.heap.size+1:=by simp
         rw [hC1] at n0; have hkL:=(Below.heap_alloc (A6.drew.alloc (.cells (lcells 0 false y.rel (.slice ya y.args.length yc)) 24)) (.cells #[] 24) _ (lt_of_heap hkL0)).trans hkL0; have hsC:A6.drew.heap.size < (A6.drew.alloc (.cells (lcells 0 false y.rel (.slice ya y.args.length yc)) 24)).heap.size:=lt_of_heap hkL0; go_simp; refine hKK.out _ _ ?_ (fun hHeld2=>?_)
         ·exact hf.out _ n0.bel
         clear hKK KK; have hHeld:=hHeld2; clear hHeld2
         try simp only [Act.put,sI,sZ,sS]
         refine wpAnyH_ready (rs:=[3]) (by as_aux_lemma=>kernel_rfl) (by simp) ?_; refine AllReadyH.cons (o:=⟨_,_,_,_,_,_⟩) rfl (fun KK hKK=>?_) AllReadyH.nil
         all_goals clear hHeld
         obtain ⟨a1,c1,B2,run3,n1,fr1,ov1⟩:=n0.app (hfm.out _ n0.bel).1 (hS0.out (A6.heap.size+1) (by first | exact Nat.le_refl _ | exact Nat.le_succ _)) (by simp; omega); simp only [List.length_nil,Nat.zero_add,List.nil_append] at run3 n1 ov1; refine step_append_shut (by rfl) (.tmp 95) (.tmp 97) (by rfl) (by rfl) (by rfl) run3 ?_; refine hKK.out _ _ ?_ (fun hHeld2=>?_)
         ·exact hf.out _ n1.bel
         clear hKK KK; have hHeld:=hHeld2; clear hHeld2
         try simp only [Act.put,sI,sZ,sS]
         have hkL2:=(fr1.block A6.drew.heap.size (lt_of_heap hkL) (fun e=>by simp [Value.ownBlock] at e)).trans hkL
         obtain ⟨a6,c6,B6,run6,n6,-,-⟩:=n1.app (hlr.out _ _ n1.bel hkL2) (hS1.out A6.drew.heap.size _ (Nat.le_refl _) (fun q hq=>⟨n1.ow q hq,fun e=>by
          rcases ov1 with e9 | e9
          ·rw [e9] at hq; simp [Value.ownBlock] at hq; omega
          ·rw [e9] at hq; injection hq with hq; have:=lt_of_heap hkL; omega⟩)) (by simp; omega)
         simp only [List.length_singleton] at run6 n6; refine wpAnyH_ready (rs:=[6]) (by as_aux_lemma=>kernel_rfl) (by simp) ?_; refine AllReadyH.cons (o:=⟨_,_,_,_,_,_⟩) rfl (fun KK hKK=>?_) AllReadyH.nil
         all_goals clear hHeld
         refine step_append_shut (by rfl) (.tmp 98) (.tmp 100) (by rfl) (by rfl) (by rfl) run6 ?_; refine hKK.out _ _ ?_ (fun hHeld2=>?_)
         ·exact hf.out _ n6.bel
         clear hKK KK; have hHeld:=hHeld2; clear hHeld2
         try simp only [Act.put,sI,sZ,sS]
         refine wTk (i:=7) (v:=?_) rfl ?hy ?_
         case hy =>
          intro w hSw
          (try dsimp only at hSw)
          go_simp
          all_goals with_reducible rfl
         try simp only [Act.put,sI,sZ,sS]
         obtain ⟨e6,ef6⟩:=hef.out B6 n6.bel; refine wpAnyH_ready (rs:=[8]) (by as_aux_lemma=>kernel_rfl) (by simp) ?_; refine AllReadyH.cons (o:=⟨_,_,_,_,_,_⟩) rfl (fun KK hKK=>?_) AllReadyH.nil
         all_goals clear hHeld
         go_simp; refine hKK.out _ _ ?_ (fun hHeld2=>?_)
         ·exact hff.out _ B6 n6.bel
         clear hKK KK; have hHeld:=hHeld2; clear hHeld2
         try simp only [Act.put,sI,sZ,sS]
         refine wpAnyH_done (by as_aux_lemma=>kernel_rfl) ?_ _
         go_wp2_with fail
         go_meet
         exact ⟨rfl,hid ⟨a6,c6,hfin.out a6 c6 B6 n6⟩⟩
       case rest =>
        obtain ⟨rfl,hq⟩:=hcut; obtain ⟨ag,cg,hkG,hGr,hBG⟩:=hq.out; obtain ⟨e0,e1,e2,e3,e4,e5,e6,-⟩:=ru_cells hkG; obtain ⟨bg,hbg⟩:∃ bg,bg=r.body++[y']:=⟨_,rfl⟩
        have hbgn:bg.length=r.body.length+1:=by rw [hbg]; simp
        rw [← hbg] at hGr; obtain ⟨f1,-,-,fS⟩:=hmv.out wc hBG
        have hor2:=order_any ⟨r.head,r.agg,r.at_,bg⟩ ha hc ag cg (fun q=>q < wc.heap.size) wc (f1.mono goodTg fun q _ hq=>fS q hq) (by
         show SlR 4 LgR _ wc bg (.slice ag bg.length cg)
         rw [hbgn]; exact hGr) (fun q hq=>hq) (RgB.sml (r:=⟨r.head,r.agg,r.at_,bg⟩) ⟨hRB.1,by show bg.length≤100000; omega,fun z hz=>by
          rw [show (Rg.mk r.head r.agg r.at_ bg).body=r.body++[y'] from hbg] at hz; rcases List.mem_append.1 hz with h | h
          ·exact hRB.2.2 z h
          ·rw [List.mem_singleton.1 h,hy'.out]
           exact ⟨by show y.rel.length≤40000; have:=hsh.out.2.1; omega,by show y.args.length≤100000; have:=hsh.out.1; omega,fun t ht=>by have:=hsh.out.2.2 t ht; omega⟩⟩) hM.out.1.2.1 (fun t ht=>(hM.out.1.2.2 t ht).1)
        replace hor2:=hid (show Calls Tryz.prog 10 #[.agg (rucells r.head.op r.head.nt r.head.rel (.slice ha r.head.args.length hc) r.agg r.at_ (.slice ag (r.body.length+1) cg))] wc (POrd ⟨r.head,r.agg,r.at_,bg⟩ wc) from by rw [← hbgn]; exact hor2)
        have hw2:(orderF r.head bg).isSome=true:=by rw [order_iff,hbg]; exact safe_more hsafe.out (by rw [hy'.out]) (by rw [hy'.out])
        replace hw2:=hid hw2; replace hbg:=hid hbg; replace hbgn:=hid hbgn; replace hkG:=hid hkG; clear f1 fS hq v0 v1 v2 v3 v4 v5 v6 u0 u1 u2 u3 c0
        go_wp2_with fail
        with_reducible refine hor2.out.mono ?_
        intro e A9 h9; obtain ⟨hb12,vo3,he9⟩:=h9.open; subst he9; rw [show (orderF (Rg.mk r.head r.agg r.at_ bg).head (Rg.mk r.head r.agg r.at_ bg).body).isSome=true from hw2.out]; have hBf:=hBG.trans (hb12.mono hBG.size); clear h9
        cases bi with
        | true =>
         go_wp2_with fail
         go_ret; exact ⟨rfl,hBf⟩
        | false =>
         have hwt:=hwb.out rfl; subst hwt
         go_wp2_with fail
         go_ret; exact ⟨rfl,hBf⟩
     ·have q1:decide ((r.body.length:Int)≤(k:Int))=true:=decide_eq_true (by omega)
      replace hw0:=hid hw0
      go_wp2_with fail
      go_ret; exact ⟨rfl,hB5.out⟩
end Go.Proofs.YtffdpoifdahadaaGreatDoor
