/- StrXc: SlOf, StrXc, in one text. -/
import Derived.Test.YtffdpoifdahadaaGreatDoorRel
import Derived.Test.YtffdpoifdahadaaGreatDoorStrXb
import Derived.Test.YtffdpoifdahadaaGreatDoorAskBd
set_option linter.unusedVariables false
set_option linter.unusedSimpArgs false
set_option maxHeartbeats 40000000
set_option maxRecDepth 100000
namespace Go.Proofs.YtffdpoifdahadaaGreatDoor
open Go.RowKit
theorem mJ {α:Type} {sz:Nat}:∀ (css:List (List α)) (i j:Nat) (cs:List α),(∀ cs∈css,cs.length=sz)->css[i]? = some cs->j < sz->css.flatten[i * sz+j]? = cs[j]?
 | [],i,j,cs,_,h,_=>by simp at h
 | c::css,0,j,cs,hs,h,hj=>by
  simp at h; subst h; have:=hs c List.mem_cons_self; rw [List.flatten_cons,Nat.zero_mul,Nat.zero_add,Aa (by omega)]
 | c::css,i+1,j,cs,hs,h,hj=>by
  have hc:=hs c List.mem_cons_self; rw [List.flatten_cons,Ab (by rw [hc,Nat.succ_mul]; omega),hc,show (i+1) * sz+j - sz=i * sz+j by rw [Nat.succ_mul]; omega]; exact mJ css i j cs (fun x hx=>hs x (List.mem_cons_of_mem _ hx)) (by simpa using h) hj
theorem SlR.of_block {α:Type} {sz:Nat} {R:Rel α} {S:aP} {W:World} {l:List α} {b:Nat} {css:List (List Value)} {E:TypeId} {fr:Nat × Nat} (hlen:css.length=l.length) (hs:∀ cs∈css,cs.length=sz)
  (h:W.heap[b]? = some (.cells css.flatten.toArray E fr)) (hS:S b) (hR:∀ (i:Nat) x cs,l[i]? = some x->css[i]? = some cs->R S W x cs):SlR sz R S W l (.slice (some ⟨b,0,none⟩) l.length l.length):=by
 refine ⟨_,_,b,0,fun i=>css.getD i [],rfl,zM _,fun _=>⟨rfl,hS,aL h⟩,fun i hi j u hu=>?_,fun i x hx=>?_⟩
 ·have hi2:i < css.length:=by omega
  have hci:css[i]? = some css[i]:=zR hi2; simp only [zZ,hci,Option.getD_some] at hu
  have hj:j < sz:=by
   have:=(List.getElem?_eq_some_iff.1 hu).1; rw [hs _ (List.getElem_mem hi2)] at this; exact this
  rw [Nat.zero_add]; refine (aj h).trans ?_; rw [List.getElem?_toArray,mJ css i j _ hs hci hj]; exact hu
 ·have hi2:i < css.length:=by have:=(List.getElem?_eq_some_iff.1 hx).1; omega
  have hci:css[i]? = some css[i]:=zR hi2; simp only [zZ,hci,Option.getD_some]; exact hR i x _ hx hci
end Go.Proofs.YtffdpoifdahadaaGreatDoor
namespace Go.Proofs.YtffdpoifdahadaaGreatDoor
open Go.RowKit
open Go.Lib (hid)
theorem dV {s:List UInt8} {u:Qu} (h:de s=.ok u) (hs:s.length<=1000):Qsm u.g:=by
 obtain ⟨h1,h2⟩:=pH h (by omega); refine ⟨h1,?_⟩; have h3:=h2 hs; unfold cI at h3; split at h3
 ·cases h3
 ·rename_i hc
  simp only [not_or,Nat.not_lt] at hc; omega
structure SmM (w:World) (b0 b1 b2 b3 b4:Nat) (W:World):Prop where
 r0:W.heap[b0]? = some (.cells (aR ⟨[120],0,[],0,0,[],0⟩ none 0) 63 (0,0))
 r1:W.heap[b1]? = some (.cells ((aR ⟨[120],0,[],0,0,[],0⟩ none 0)++(aR ⟨[121],0,[],0,0,[],0⟩ none 0)) 63 (0,0))
 r2:W.heap[b2]? = some (.cells ((aR ⟨[120],0,[],0,0,[],0⟩ none 0)++(aR ⟨[121],0,[],0,0,[],0⟩ none 0)) 63 (0,0))
 r3:W.heap[b3]? = some (.cells ((aR ⟨[121],0,[],0,0,[],0⟩ none 0)++(aR ⟨[95,49],0,[],0,0,[],0⟩ none 0)) 63 (0,0))
 r4:W.heap[b4]? = some (.cells ((ap 3 false [] (.slice (some ⟨b1,0,none⟩) 2 2))++(ap 1 false [] (.slice (some ⟨b2,0,none⟩) 2 2))++(ap 0 false [101,118,101,110,116] (.slice (some ⟨b3,0,none⟩) 2 2))) 24 (0,0))
theorem za (t:Tg) (W:World) (S:aP) (b:Nat) (h:W.heap[b]? = some (.cells (aR t none 0) 63 (0,0))) (hS:S b) (ht:t.ln=0):SlR 7 TgR S W [t] (.slice (some ⟨b,0,none⟩) 1 1) :=
 SlR.of_block (E:=63) (fr:=(0,0)) (css:=[(aR t none 0).toList]) rfl (by intro cs hcs; simp at hcs; subst hcs; rfl) (by rw [h]; simp) hS fun i x cs hx hc=>by
  rcases i with _ | i
  ·simp at hx hc; subst hx hc; exact ⟨none,0,rfl⟩
  ·simp at hx
theorem rg (t u:Tg) (W:World) (S:aP) (b:Nat) (h:W.heap[b]? = some (.cells ((aR t none 0)++(aR u none 0)) 63 (0,0))) (hS:S b):SlR 7 TgR S W [t,u] (.slice (some ⟨b,0,none⟩) 2 2) :=
 SlR.of_block (E:=63) (fr:=(0,0)) (css:=[(aR t none 0).toList,(aR u none 0).toList]) rfl (by intro cs hcs; simp at hcs; rcases hcs with rfl | rfl <;> rfl) (by rw [h]; simp) hS fun i x cs hx hc=>by
  rcases i with _ | i
  ·simp at hx hc; subst hx hc; exact ⟨none,0,rfl⟩
  ·rcases i with _ | i
   ·simp at hx hc; subst hx hc; exact ⟨none,0,rfl⟩
   ·simp at hx
theorem SmM.rule {w W:World} {b0 b1 b2 b3 b4:Nat} (h:SmM w b0 b1 b2 b3 b4 W) (S:aP) (hS:∀ k,k=b0\/k=b1\/k=b2\/k=b3\/k=b4->S k) :
  SlR 7 TgR S W dH.head.args (.slice (some ⟨b0,0,none⟩) 1 1)/\SlR 4 LgR S W dH.body (.slice (some ⟨b4,0,none⟩) 3 3):=by
 refine ⟨za _ W S b0 h.r0 (hS _ (by simp)) rfl,?_⟩
 refine SlR.of_block (E:=24) (fr:=(0,0)) (l:=dH.body) (css:=[(ap 3 false [] (.slice (some ⟨b1,0,none⟩) 2 2)).toList,(ap 1 false [] (.slice (some ⟨b2,0,none⟩) 2 2)).toList,(ap 0 false [101,118,101,110,116] (.slice (some ⟨b3,0,none⟩) 2 2)).toList]) rfl (by intro cs hcs; simp at hcs; rcases hcs with rfl | rfl | rfl <;> rfl) (by rw [h.r4]; simp) (hS _ (by simp)) fun i x cs hx hc=>?_
 rcases i with _ | i
 ·simp [dH] at hx hc; subst hx hc; exact ⟨some ⟨b1,0,none⟩,2,rfl,rg _ _ W S b1 h.r1 (hS _ (by simp))⟩
 ·rcases i with _ | i
  ·simp [dH] at hx hc; subst hx hc; exact ⟨some ⟨b2,0,none⟩,2,rfl,rg _ _ W S b2 h.r2 (hS _ (by simp))⟩
  ·rcases i with _ | i
   ·simp [dH] at hx hc; subst hx hc; exact ⟨some ⟨b3,0,none⟩,2,rfl,rg _ _ W S b3 h.r3 (hS _ (by simp))⟩
   ·simp [dH] at hx
theorem wW {α β:Type} (f:α->β):∀ l:List α,(l.map fun x=>[f x]).flatten=l.map f
 | []=>rfl
 | a::l=>by rw [List.map_cons,List.map_cons,List.flatten_cons,wW f l]; rfl
theorem i6 (l:List Nat) (W:World) (S:aP) (b:Nat) (h:W.heap[b]? = some (.cells (l.map fun n:Nat=>iv (n:Int)).toArray 3 (0,0))) (hS:S b):SlR 1 nm S W l (.slice (some ⟨b,0,none⟩) l.length l.length) :=
 SlR.of_block (E:=3) (fr:=(0,0)) (css:=l.map fun n:Nat=>[iv (n:Int)]) (by simp) (by intro cs hcs; obtain ⟨n,-,rfl⟩:=List.mem_map.1 hcs; rfl) (by
  rw [h,wW]) hS fun i x cs hx hc=>by
  rw [Ai,hx] at hc; injection hc with hc; exact hc.symm
theorem lZ (L:List (List Nat)) (bs:List Nat) (W:World) (S:aP) (b:Nat) (hl:bs.length=L.length) (h:W.heap[b]? = some (.cells ((List.range L.length).map fun i=>Value.slice (some ⟨bs.getD i 0,0,none⟩) (L.getD i []).length (L.getD i []).length).toArray 33 (0,0))) (hS:S b) (hr:∀ (i:Nat) l,L[i]? = some l->SlR 1 nm S W l (.slice (some ⟨bs.getD i 0,0,none⟩) l.length l.length)):SlR 1 mX S W L (.slice (some ⟨b,0,none⟩) L.length L.length) :=
 SlR.of_block (E:=33) (fr:=(0,0)) (css:=(List.range L.length).map fun i=>[Value.slice (some ⟨bs.getD i 0,0,none⟩) (L.getD i []).length (L.getD i []).length]) (by simp) (by intro cs hcs; obtain ⟨n,-,rfl⟩:=List.mem_map.1 hcs; rfl) (by
  rw [h,wW]) hS fun i x cs hx hc=>by
  have hi:=(List.getElem?_eq_some_iff.1 hx).1; rw [Ai,List.getElem?_range hi] at hc; injection hc with hc
  have e:L.getD i []=x:=by rw [zZ,hx]; rfl
  dsimp only at hc
  rw [e] at hc; subst hc; exact ⟨_,rfl,hr i x hx⟩
theorem zf:Sml dH.body:=⟨by decide,fun v=>by
  have:=jj (lits:=dH.body) (by intro x hx; simp [dH] at hx; rcases hx with rfl | rfl | rfl <;> decide) v dH.body.length (zM _)
  exact zV this (by decide),by intro x hx; simp [dH] at hx; rcases hx with rfl | rfl | rfl <;> decide,by intro x hx t ht; simp [dH] at hx; rcases hx with rfl | rfl | rfl <;> (simp at ht; rcases ht with rfl | rfl <;> decide)⟩
theorem pw (w:World) (hTab:Tab w):Calls Tryz.prog 8 #[] w fun e w'=>e=.returned (.bool true)/\Below w.heap.size w w':=by
 have hT:=hid hTab; have hB0:=hid (zN w.heap.size w); obtain ⟨u1,hu1,hr1⟩:=iO smR1; have hq1:=dV hu1 (by decide); obtain ⟨u2,hu2,hr2⟩:=iO smR2; have hq2:=dV hu2 (by decide); obtain ⟨u3,hu3,hr3⟩:=iO smR3; have hq3:=dV hu3 (by decide); obtain ⟨u4,hu4,hr4⟩:=iO smR4; have hq4:=dV hu4 (by decide); obtain ⟨u5,hu5,hr5⟩:=iO smR5; have hq5:=dV hu5 (by decide); obtain ⟨u6,hu6,hr6⟩:=iO smR6; have hq6:=dV hu6 (by decide); obtain ⟨u7,hu7,hr7⟩:=iO smR7; have hq7:=dV hu7 (by decide); obtain ⟨u8,hu8,hr8⟩:=iO smR8; have hq8:=dV hu8 (by decide); clear hTab; have h1:=hid (ft smS1 (by decide) u1 hu1 hq1 w hT.out)
 go_enter Tryz.func8,Tryz.ntmps8
 go_wp2_with fail
 refine h1.out.mono ?_; rintro e w1 ⟨hb1,a1,c1,rfl,hs1⟩; rw [hr1] at hs1 ⊢; have hB1:=hid (hB0.out.trans (hb1.mono hB0.out.size)); replace hs1:=hid hs1; have h2:=hid (ft smS2 (by decide) u2 hu2 hq2 w1 ((da.of hT.out (zM w.heap.size)).below hB1.out).tab); clear hb1 h1; simp only [zT,z_]
 go_wp2_with fail
 refine h2.out.mono ?_; rintro e w2 ⟨hb2,a2,c2,rfl,hs2⟩; rw [hr2] at hs2 ⊢; have hB2:=hid (hB1.out.trans (hb2.mono hB1.out.size)); replace hs2:=hid hs2; have h3:=hid (ft smS3 (by decide) u3 hu3 hq3 w2 ((da.of hT.out (zM w.heap.size)).below hB2.out).tab); replace hs1:=hid (hs1.out.below bF hb2); clear hb2 h2; simp only [zT,z_]
 go_wp2_with fail
 refine h3.out.mono ?_; rintro e w3 ⟨hb3,a3,c3,rfl,hs3⟩; rw [hr3] at hs3 ⊢; have hB3:=hid (hB2.out.trans (hb3.mono hB2.out.size)); replace hs3:=hid hs3; have h4:=hid (ft smS4 (by decide) u4 hu4 hq4 w3 ((da.of hT.out (zM w.heap.size)).below hB3.out).tab); replace hs1:=hid (hs1.out.below bF hb3); replace hs2:=hid (hs2.out.below bF hb3); clear hs3; clear hb3 h3; simp only [zT,z_]
 go_wp2_with fail
 refine h4.out.mono ?_; rintro e w4 ⟨hb4,a4,c4,rfl,hs4⟩; rw [hr4] at hs4 ⊢; have hB4:=hid (hB3.out.trans (hb4.mono hB3.out.size)); replace hs4:=hid hs4; have h5:=hid (ft smS5 (by decide) u5 hu5 hq5 w4 ((da.of hT.out (zM w.heap.size)).below hB4.out).tab); replace hs1:=hid (hs1.out.below bF hb4); replace hs2:=hid (hs2.out.below bF hb4); clear hs4; clear hb4 h4; simp only [zT,z_]
 go_wp2_with fail
 refine h5.out.mono ?_; rintro e w5 ⟨hb5,a5,c5,rfl,hs5⟩; rw [hr5] at hs5 ⊢; have hB5:=hid (hB4.out.trans (hb5.mono hB4.out.size)); replace hs5:=hid hs5; have h6:=hid (ft smS6 (by decide) u6 hu6 hq6 w5 ((da.of hT.out (zM w.heap.size)).below hB5.out).tab); replace hs1:=hid (hs1.out.below bF hb5); replace hs2:=hid (hs2.out.below bF hb5); clear hs5; clear hb5 h5; simp only [zT,z_]
 go_wp2_with fail
 refine h6.out.mono ?_; rintro e w6 ⟨hb6,a6,c6,rfl,hs6⟩; rw [hr6] at hs6 ⊢; have hB6:=hid (hB5.out.trans (hb6.mono hB5.out.size)); replace hs6:=hid hs6; have h7:=hid (ft smS7 (by decide) u7 hu7 hq7 w6 ((da.of hT.out (zM w.heap.size)).below hB6.out).tab); replace hs1:=hid (hs1.out.below bF hb6); replace hs2:=hid (hs2.out.below bF hb6); clear hs6; clear hb6 h6; simp only [zT,z_]
 go_wp2_with fail
 refine h7.out.mono ?_; rintro e w7 ⟨hb7,a7,c7,rfl,hs7⟩; rw [hr7] at hs7 ⊢; have hB7:=hid (hB6.out.trans (hb7.mono hB6.out.size)); replace hs7:=hid hs7; have h8:=hid (ft smS8 (by decide) u8 hu8 hq8 w7 ((da.of hT.out (zM w.heap.size)).below hB7.out).tab); replace hs1:=hid (hs1.out.below bF hb7); replace hs2:=hid (hs2.out.below bF hb7); clear hs7; clear hb7 h7; simp only [zT,z_]
 go_wp2_with fail
 refine h8.out.mono ?_; rintro e w8 ⟨hb8,a8,c8,rfl,hs8⟩; rw [hr8] at hs8 ⊢; have hB8:=hid (hB7.out.trans (hb8.mono hB7.out.size)); replace hs8:=hid hs8; replace hs1:=hid (hs1.out.below bF hb8); replace hs2:=hid (hs2.out.below bF hb8); clear hs8; clear hb8 h8; simp only [zT,z_]
 go_wp2_with fail
 have hat:=at5 w8 (.cells (aR ⟨[120],0,[],0,0,[],0⟩ none 0) 63) (.cells ((aR ⟨[120],0,[],0,0,[],0⟩ none 0)++(aR ⟨[121],0,[],0,0,[],0⟩ none 0)) 63) (.cells ((aR ⟨[120],0,[],0,0,[],0⟩ none 0)++(aR ⟨[121],0,[],0,0,[],0⟩ none 0)) 63) (.cells ((aR ⟨[121],0,[],0,0,[],0⟩ none 0)++(aR ⟨[95,49],0,[],0,0,[],0⟩ none 0)) 63) (.cells ((ap 3 false [] (.slice (some ⟨w8.heap.size+1,0,none⟩) 2 2))++(ap 1 false [] (.slice (some ⟨w8.heap.size+1+1,0,none⟩) 2 2))++(ap 0 false [101,118,101,110,116] (.slice (some ⟨w8.heap.size+1+1+1,0,none⟩) 2 2))) 24)
 obtain ⟨wA,hwA⟩:∃ wA,wA=((((w8.alloc (.cells (aR ⟨[120],0,[],0,0,[],0⟩ none 0) 63)).alloc (.cells ((aR ⟨[120],0,[],0,0,[],0⟩ none 0)++(aR ⟨[121],0,[],0,0,[],0⟩ none 0)) 63)).alloc (.cells ((aR ⟨[120],0,[],0,0,[],0⟩ none 0)++(aR ⟨[121],0,[],0,0,[],0⟩ none 0)) 63)).alloc (.cells ((aR ⟨[121],0,[],0,0,[],0⟩ none 0)++(aR ⟨[95,49],0,[],0,0,[],0⟩ none 0)) 63)).alloc (.cells ((ap 3 false [] (.slice (some ⟨w8.heap.size+1,0,none⟩) 2 2))++(ap 1 false [] (.slice (some ⟨w8.heap.size+1+1,0,none⟩) 2 2))++(ap 0 false [101,118,101,110,116] (.slice (some ⟨w8.heap.size+1+1+1,0,none⟩) 2 2))) 24):=⟨_,rfl⟩; rw [← hwA] at hat; obtain ⟨m0,m1,m2,m3,m4,hbA⟩:=hat
 have hBA:=hid (hB8.out.trans (hbA.mono hB8.out.size)); have hM:SmM w w8.heap.size (w8.heap.size+1) (w8.heap.size+1+1) (w8.heap.size+1+1+1) (w8.heap.size+1+1+1+1) wA:=⟨m0,m1,m2,m3,m4⟩; have hsA:w8.heap.size+1+1+1+1 < wA.heap.size:=aL m4
 obtain ⟨hrA,hrB⟩:=hM.rule (fun k=>k < wA.heap.size) fun k hk=>by rcases hk with rfl | rfl | rfl | rfl | rfl <;> (show _ < wA.heap.size; omega)
 have hor:=nN dH (some ⟨w8.heap.size,0,none⟩) 1 (some ⟨w8.heap.size+1+1+1+1,0,none⟩) 3 _ wA hrA hrB (fun k hk=>hk) zf (by decide) (by intro t ht; simp [dH] at ht; subst ht; decide); rw [hwA] at hor; refine hor.mono ?_; rw [← hwA]; rintro e w9 ⟨hb9,hres⟩; rw [smO] at hres; obtain ⟨v9,rfl,hI9,-⟩:=hres; have hB9:=hid (hBA.out.trans (hb9.mono hBA.out.size)); obtain ⟨a9,c9,rfl,-,-⟩:=bp hI9; replace hI9:=hid hI9; have hsA1:=((hs1.out.below bF hbA).below bF hb9); have hsA2:=((hs2.out.below bF hbA).below bF hb9)
 have hsA3:SlR 1 nm (fun _=>True) w9 [2,1,0] (.slice a9 3 c9):=(wN hI9.out).mono ep fun _ _ _=>trivial
 clear hs1 hs2 hbA hb9 hor hM m0 m1 m2 m3 m4 hrA hrB
 have b1:=af w9 (.cells #[iv 1] 3); obtain ⟨x1,hx1⟩:∃ x,x=w9.alloc (.cells #[iv 1] 3):=⟨_,rfl⟩; rw [← hx1] at b1
 have z1:x1.heap.size=w9.heap.size+1:=by rw [hx1]; simp
 have b2:=af x1 (.cells #[iv 0] 3); obtain ⟨x2,hx2⟩:∃ x,x=x1.alloc (.cells #[iv 0] 3):=⟨_,rfl⟩
 have b12:x2.heap[w9.heap.size]? = some (.cells #[iv 1] 3 (0,0)):=by rw [hx2]; exact bt b1
 rw [← hx2,z1] at b2
 have z2:x2.heap.size=w9.heap.size+1+1:=by rw [hx2]; simp [z1]
 have b3:=af x2 (.cells #[.slice (some ⟨w9.heap.size,0,none⟩) 1 1,.slice (some ⟨w9.heap.size+1,0,none⟩) 1 1] 33); obtain ⟨x3,hx3⟩:∃ x,x=x2.alloc (.cells #[.slice (some ⟨w9.heap.size,0,none⟩) 1 1,.slice (some ⟨w9.heap.size+1,0,none⟩) 1 1] 33):=⟨_,rfl⟩
 have b13:x3.heap[w9.heap.size]? = some (.cells #[iv 1] 3 (0,0)):=by rw [hx3]; exact bt b12
 have b23:x3.heap[w9.heap.size+1]? = some (.cells #[iv 0] 3 (0,0)):=by rw [hx3]; exact bt b2
 rw [← hx3,z2] at b3
 have hb3x:Below w9.heap.size w9 x3:=by
  rw [hx3,hx2,hx1]; exact (((zN _ w9).alloc (zM _) _).alloc (by simp) _).alloc (by simp; omega) _
 have hrw1:SlR 1 mX (fun _=>True) x3 [[1],[0]] (.slice (some ⟨w9.heap.size+1+1,0,none⟩) 2 2):=lZ [[1],[0]] [w9.heap.size,w9.heap.size+1] x3 _ _ rfl b3 trivial fun i l hl=>by
  rcases i with _ | i
  ·simp at hl; subst hl; exact i6 [1] x3 _ _ b13 trivial
  ·rcases i with _ | i
   ·simp at hl; subst hl; exact i6 [0] x3 _ _ b23 trivial
   ·simp at hl
 have hsm1:=hid (gU [[1],[0]] [[1],[0]] a1 (some ⟨w9.heap.size+1+1,0,none⟩) c1 2 _ _ x3 (hsA1.below bF hb3x) hrw1 (by decide) (by decide) (by decide) (by decide)); have hBx:=hid (hB9.out.trans (hb3x.mono hB9.out.size)); replace hsA2:=hid (hsA2.below bF hb3x); replace hsA3:=hid (hsA3.below ep hb3x); replace hx1:=hid hx1; replace hx2:=hid hx2; replace hx3:=hid hx3; clear b1 b2 b3 b12 b13 b23 z1 z2 hrw1 hsA1 hb3x hI9; have hv9l:(bQ [2,1,0]).length=3:=rfl; rw [hv9l]; replace hsm1:=hsm1.out; rw [zP rfl,hx3.out,hx2.out,hx1.out] at hsm1
 go_wp2_with fail
 refine hsm1.mono ?_; rw [← hx1.out,← hx2.out,← hx3.out]; rintro e y0 ⟨rfl,hby⟩; have hBy:=hid (hBx.out.trans (hby.mono hBx.out.size))
 have hsB2:=hsA2.out.below bF hby
 have hsB3:=hsA3.out.below ep hby
 clear hsm1 hby hsA2 hsA3; have d1:=af y0 (.cells #[iv 0,iv 1,iv 2,iv 3] 3); obtain ⟨y1,hy1⟩:∃ x,x=y0.alloc (.cells #[iv 0,iv 1,iv 2,iv 3] 3):=⟨_,rfl⟩; rw [← hy1] at d1
 have t1:y1.heap.size=y0.heap.size+1:=by rw [hy1]; simp
 have d2:=af y1 (.cells #[.slice (some ⟨y0.heap.size,0,none⟩) 4 4] 33); obtain ⟨y2,hy2⟩:∃ x,x=y1.alloc (.cells #[.slice (some ⟨y0.heap.size,0,none⟩) 4 4] 33):=⟨_,rfl⟩
 have d12:y2.heap[y0.heap.size]? = some (.cells #[iv 0,iv 1,iv 2,iv 3] 3 (0,0)):=by rw [hy2]; exact bt d1
 rw [← hy2,t1] at d2
 have hby2:Below y0.heap.size y0 y2:=by
  rw [hy2,hy1]; exact ((zN _ y0).alloc (zM _) _).alloc (by simp) _
 have hrw2:SlR 1 mX (fun _=>True) y2 [[0,1,2,3]] (.slice (some ⟨y0.heap.size+1,0,none⟩) 1 1):=lZ [[0,1,2,3]] [y0.heap.size] y2 _ _ rfl d2 trivial fun i l hl=>by
  rcases i with _ | i
  ·simp at hl; subst hl; exact i6 [0,1,2,3] y2 _ _ d12 trivial
  ·simp at hl
 have hsm2:=gU [[0,1,2,3]] [[0,1,2,3]] a2 (some ⟨y0.heap.size+1,0,none⟩) c2 1 _ _ y2 (hsB2.below bF hby2) hrw2 (by decide) (by decide) (by decide) (by decide); have hBy2:=hid (hBy.out.trans (hby2.mono hBy.out.size)); replace hsB3:=hid (hsB3.below ep hby2); rw [zP rfl,hy2,hy1] at hsm2; replace hy1:=hid hy1; replace hy2:=hid hy2; clear d1 d2 d12 t1 hrw2 hsB2 hby2
 go_wp2_with fail
 refine hsm2.mono ?_; rw [← hy1.out,← hy2.out]; rintro e z0 ⟨rfl,hbz⟩; have hBz:=hid (hBy2.out.trans (hbz.mono hBy2.out.size)); have hsC3:=hsB3.out.below ep hbz; clear hsm2 hbz hsB3; have f1:=af z0 (.cells #[iv 2,iv 1,iv 0] 3); have hbz1:Below z0.heap.size z0 (z0.alloc (.cells #[iv 2,iv 1,iv 0] 3)):=(zN _ z0).alloc (zM _) _; have hsm3:=jQ [2,1,0] [2,1,0] a9 (some ⟨z0.heap.size,0,none⟩) c9 3 _ (fun _=>True) (z0.alloc (.cells #[iv 2,iv 1,iv 0] 3)) (hsC3.below ep hbz1) (i6 [2,1,0] _ _ _ f1 trivial) (by decide) (by decide); rw [zP rfl] at hsm3; have hBz1:=hid (hBz.out.trans (hbz1.mono hBz.out.size)); clear f1 hsC3
 go_wp2_with fail
 refine hsm3.mono ?_; rintro e z2 ⟨rfl,hbz2⟩; have hBf:=hid (hBz1.out.trans (hbz2.mono hBz1.out.size)); clear hbz2 hsm3
 go_wp2_with fail
 go_ret; exact ⟨rfl,hBf.out⟩
end Go.Proofs.YtffdpoifdahadaaGreatDoor
