/- AskYc: AskYa, AskYb, AskYc, in one text. -/
import Derived.Test.YtffdpoifdahadaaGreatDoorAskX
import Derived.Test.YtffdpoifdahadaaGreatDoorLexW8
set_option linter.unusedVariables false
set_option linter.unusedSimpArgs false
set_option maxHeartbeats 40000000
set_option maxRecDepth 100000
namespace Go.Proofs.YtffdpoifdahadaaGreatDoor
open Go.RowKit
open Go.Lib (hid byteCells itoa)
theorem yX:liesAt Tryz.prog Tryz.prog.depth 111 (3 / Tryz.prog.cellsOf 111) 0 109 1=true:=by kernel_rfl
theorem sh (b:Nat) (w:World) (h0:w.cell? ⟨b,0,none⟩=some (.pointer none)) (hsh:w.shape? b=some (111,3)) (hfz:w.frozen? ⟨b,0,none⟩=false) :
  Calls Tryz.prog 69 #[.pointer (some ⟨b,0,none⟩)] w fun e w'=>e=.returned (.tuple #[])/\w'=w.setCell ⟨b,0,none⟩ (.pointer (some ⟨b,0,none⟩)):=by
 obtain ⟨j,hj,hjs⟩:=Option.map_eq_some_iff.1 o8
 go_enter Tryz.func69,Tryz.ntmps69
 go_wp2
 rw [Lib.run_to_unsafe w ⟨b,0,none⟩ Tryz.underlying106 Tryz.underlying167 hj (by rw [hjs]; decide) hsh (Nat.zero_lt_succ 2)]; simp only [Result.andThen]; rw [Oper.upon_value]
 go_wp2
 rw [run_callFunc_extern Tryz.func100 (by kernel_rfl) (by kernel_rfl) (by kernel_rfl) (e:=Extern.AbiNoEscape.same) (by kernel_rfl)]; rw [Lib.run_noEscape]; simp only [Result.andThen]; rw [Oper.upon_value]
 go_wp2
 rw [Lib.run_from_unsafe w ⟨b,0,none⟩ Tryz.underlying167 Tryz.underlying106 hj hsh yX]; simp only [Result.andThen]; rw [Oper.upon_value]
 go_wp2
 go_end0
 exact ⟨rfl,rfl⟩
def dx (G:aP) (b:Nat) (l:List UInt8) (n:Nat) (w:World):Prop :=
 G b/\∃ p v,(p=.pointer none\/p=.pointer (some ⟨b,0,none⟩))/\w.heap[b]? = some (.cells #[p,v,iv n] 111 (0,0))/\w.ownsRow 0 5 1 v l.length (byteCells l)/\v.ownBlock≠some b/\∀ k,v.ownBlock=some k->G k
theorem dx.fr {G S:aP} {b:Nat} {l:List UInt8} {n:Nat} {w w':World} (h:dx G b l n w) (hf:Fr S w w') (hs:∀ k,k < w.heap.size->G k->¬ S k):dx G b l n w':=by
 obtain ⟨h1,p,v,h2,h3,h4,h5,h6⟩:=h; refine ⟨h1,p,v,h2,hf.keep h3 (hs b (ae h3) h1),aJ h4 (fun k hk=>hf.block k (h4.lt k hk).2 (hs k (h4.lt k hk).2 (h6 k hk))) (fun _ _=>zW _),h5,h6⟩
theorem dx.below {G:aP} {b:Nat} {l:List UInt8} {n:Nat} {w w':World} (h:dx G b l n w) (hb:Below w.heap.size w w'):dx G b l n w':=h.fr (Fr.of_below hb (fun _=>False)) (fun _ _ _ h=>h)
theorem dx.mono {G H:aP} {b:Nat} {l:List UInt8} {n:Nat} {w:World} (h:dx G b l n w) (hg:∀ k,k < w.heap.size->G k->H k):dx H b l n w:=by
 obtain ⟨h1,p,v,h2,h3,h4,h5,h6⟩:=h; exact ⟨hg b (ae h3) h1,p,v,h2,h3,h4,h5,fun k hk=>hg k (h4.lt k hk).2 (h6 k hk)⟩
theorem mR (G:aP) (b:Nat) (l:List UInt8) (n:Nat) (w:World) (h:dx G b l n w) :
  Calls Tryz.prog 69 #[.pointer (some ⟨b,0,none⟩)] w fun e w'=>e=.returned (.tuple #[])/\dx G b l n w'/\Fr G w w'/\∃ v,w'.heap[b]? = some (.cells #[.pointer (some ⟨b,0,none⟩),v,iv n] 111 (0,0)):=by
 obtain ⟨h1,p,v,h2,h3,h4,h5,h6⟩:=id h; rcases h2 with rfl | rfl
 ·refine (sh b w ((aj h3).trans rfl) (by simp [World.shape?,h3]) (bX h3)).mono ?_
  rintro e w' ⟨rfl,rfl⟩; have hs:=aC (i:=0) h3 (.pointer (some ⟨b,0,none⟩)); refine ⟨rfl,⟨h1,_,v,Or.inr rfl,hs,aJ h4 (fun k hk=>ak _ (fun e=>h5 (e ▸ hk))) (fun _ _=>zW _),h5,h6⟩,(Fr.refl _ _).setCell (Or.inl h1) _,v,hs⟩
 ·refine (f_ b w ((aj h3).trans rfl)).mono ?_
  rintro e w' ⟨rfl,rfl⟩; exact ⟨rfl,h,Fr.refl _ _,v,h3⟩
theorem sk (G:aP) (B b:Nat) (l s:List UInt8) (n:Nat) (w:World) (h:dx G b l n w) (hG:∀ k,w.heap.size<=k->G k) (hGB:∀ k,G k->B<=k) (hty:∀ k,B<=k->k < w.heap.size->¬ G k->∀ cur,w.heap[k]?≠some (.cells cur 5 (0,0))) (hBw:B<=w.heap.size) (hlen:l.length+s.length<=140737488355328) :
  Calls Tryz.prog 43 #[.pointer (some ⟨b,0,none⟩),sv s] w fun e w'=>e=.returned (.tuple #[.int .i64 s.length,.nilIface])/\dx G b (l++s) n w'/\Fr G w w':=by
 obtain ⟨i0,hi,hz0,hz1,hz2⟩:=info_parts kf; have hcall:=hid (mR G b l n w h); replace hG:=hid hG; replace hGB:=hid hGB; replace hty:=hid hty; clear h
 go_enter Tryz.func43,Tryz.ntmps43
 go_wp2_with fail
 refine hcall.out.mono ?_; rintro e w1 ⟨rfl,h1,hf1,v1,hv1⟩; obtain ⟨g1,p,v,g2,g3,g4,g5,g6⟩:=id h1
 have hpv:p=.pointer (some ⟨b,0,none⟩)/\v=v1:=by
  have:=g3.symm.trans hv1; simp at this; exact this
 obtain ⟨rfl,rfl⟩:=hpv; replace g4:w1.ownsRow B 5 1 v l.length (byteCells l):=aJ g4 (fun _ _=>rfl) (fun k hk=>hGB.out k (g6 k hk)); have c0:w1.cell? ⟨b,0,none⟩=some (.pointer (some ⟨b,0,none⟩)):=(aj g3).trans rfl; have c1:w1.cell? ⟨b,1,none⟩=some v:=(aj g3).trans rfl; have hs1:=hf1.size; clear hcall hv1; replace h1:=hid h1; replace hf1:=hid hf1
 go_wp2_with (at_builtin; refine Lib.wpList_append_own_string _ rfl _ _ 107 9 rfl B 5 i0 Tryz.underlying107 Tryz.underlying9 hi hz0 hz1 hz2 _ _ _ rfl g4 ⟨s.toArray⟩ rfl ?c3 ?c4 ?c5 ?_)
 case c3=>exact (show l.length+s.length<=maxLen by unfold maxLen; omega)
 case c4=>exact (show l.length+s.length<=140737488355328 by omega)
 case c5=>exact zV hBw hs1
 intro v' w2 hown' hgrow hnil; have hlt:=ae g3; have hb2:w2.heap[b]? = some (.cells #[.pointer (some ⟨b,0,none⟩),v,iv n] 111 (0,0)):=(hgrow.block b hlt (fun e=>g5 e.symm)).trans g3; have d0:w2.cell? ⟨b,0,none⟩=some (.pointer (some ⟨b,0,none⟩)):=(aj hb2).trans rfl; have d1:w2.cell? ⟨b,1,none⟩=some v:=(aj hb2).trans rfl; have f1:w2.frozen? ⟨b,1,none⟩=false:=bX hb2
 have hown2:w2.ownsRow B 5 1 v' (l++s).length (byteCells (l++s)):=by
  rw [zQ,Lib.byteCells_append]; exact hown'
 have hne:v'.ownBlock≠some b:=Lib.ownBlock_ne hown2 hb2 (by decide); have hF2:Fr G w w2:=hf1.out.grown hgrow (fun k hk=>Or.inl (g6 k hk))
 have hv'G:∀ k,v'.ownBlock=some k->G k:=fun k hk=>by
  rcases Classical.em (G k) with h | h
  ·exact h
  ·exfalso
   have hkB:=(hown2.lt k hk).1
   have hkw:k < w.heap.size:=Nat.lt_of_not_le fun h9=>h (hG.out k h9)
   have e1:w2.heap[k]? = w1.heap[k]?:=hgrow.block k (zS hkw hs1) (fun e=>h (g6 k e.symm)); have e2:w1.heap[k]? = w.heap[k]?:=hf1.out.block k hkw h; rcases hown2.2 with ⟨rfl,_⟩ | ⟨g,cap,cur,rfl,_,hg,_⟩
   ·cases hk
   ·simp [Value.ownBlock] at hk
    subst hk; exact hty.out _ hkB hkw h cur (by rw [← e2,← e1]; exact hg)
 obtain ⟨ao,cap,hv',-,-⟩:=bp hown2; subst hv'; have hset:=aC (i:=1) hb2 (.slice ao (l++s).length cap)
 have hfin:=hid (show dx G b (l++s) n (w2.setCell ⟨b,1,none⟩ (.slice ao (l++s).length cap))/\Fr G w (w2.setCell ⟨b,1,none⟩ (.slice ao (l++s).length cap)) from
  ⟨⟨g1,_,_,Or.inr rfl,hset,aJ hown2 (fun k hk=>ak _ (fun e=>hne (e ▸ hk))) (fun _ _=>zW _),hne,hv'G⟩,hF2.setCell (Or.inl g1) _⟩)
 simp only [zQ] at hfin; clear hset hown2 hown' hgrow hF2 hv'G hne
 go_wp2
 go_ret2
 exact ⟨rfl,hfin.out.1,hfin.out.2⟩
theorem xE (G:aP) (B b:Nat) (l s:List UInt8) (n:Nat) (w:World) (h:dx G b l n w) (hg:GOk G B w) (hlen:l.length+s.length<=140737488355328) :
  Calls Tryz.prog 43 #[.pointer (some ⟨b,0,none⟩),sv s] w fun e w'=>e=.returned (.tuple #[.int .i64 s.length,.nilIface])/\dx G b (l++s) n w'/\Fr G w w' :=
 sk G B b l s n w h hg.up hg.low hg.ty hg.le hlen
theorem xF (G:aP) (B b:Nat) (l:List UInt8) (c:UInt8) (n:Nat) (w:World) (h:dx G b l n w) (hg:GOk G B w) (hlen:l.length<=140737488355327) :
  Calls Tryz.prog 85 #[.pointer (some ⟨b,0,none⟩),bv c] w fun e w'=>e=.returned .nilIface/\dx G b (l++[c]) n w'/\Fr G w w':=by
 obtain ⟨i0,hi,hz0,hz1,hz2⟩:=info_parts kf; have hcall:=hid (mR G b l n w h); replace hg:=hid hg; clear h
 go_enter Tryz.func85,Tryz.ntmps85
 go_wp2_with fail
 refine hcall.out.mono ?_; rintro e w1 ⟨rfl,h1,hf1,v1,hv1⟩; obtain ⟨g1,p,v,g2,g3,g4,g5,g6⟩:=id h1
 have hpv:p=.pointer (some ⟨b,0,none⟩)/\v=v1:=by
  have:=g3.symm.trans hv1; simp at this; exact this
 obtain ⟨rfl,rfl⟩:=hpv; replace g4:w1.ownsRow B 5 1 v l.length (byteCells l):=aJ g4 (fun _ _=>rfl) (fun k hk=>hg.out.low k (g6 k hk)); have c0:w1.cell? ⟨b,0,none⟩=some (.pointer (some ⟨b,0,none⟩)):=(aj g3).trans rfl; have c1:w1.cell? ⟨b,1,none⟩=some v:=(aj g3).trans rfl; have hs1:=hf1.size; have hBw:=hg.out.le; have hlt0:=ae g3; have g4a:(w1.alloc (.cells #[bv c] 5)).ownsRow B 5 1 v l.length (byteCells l):=g4.alloc _; have g3a:(w1.alloc (.cells #[bv c] 5)).heap[b]? = some (.cells #[.pointer (some ⟨b,0,none⟩),v,iv n] 111 (0,0)):=(z7 _ _ _ hlt0).trans g3; have hfa:Fr G w (w1.alloc (.cells #[bv c] 5)):=hf1.alloc _; clear hcall hv1; replace h1:=hid h1; replace hf1:=hid hf1
 go_wp2_with (at_builtin; refine wpList_append_own _ rfl (.tmp 11) (.tmp 13) 107 rfl B 5 i0 (.int .u8 0) 1 1 Tryz.underlying107 hi hz0 hz1 hz2 rfl (by decide) _ _ _ rfl g4a ⟨w1.heap.size,0,none⟩ 1 1 [bv c] rfl rfl (nU _ _ _) (m8 rfl) (by unfold maxLen; omega) (by omega) (by simp; omega) ?_)
 intro v' w2 hown' hgrow hnil; have hlt:=ae g3a; have hb2:w2.heap[b]? = some (.cells #[.pointer (some ⟨b,0,none⟩),v,iv n] 111 (0,0)):=(hgrow.block b hlt (fun e=>g5 e.symm)).trans g3a; have d0:w2.cell? ⟨b,0,none⟩=some (.pointer (some ⟨b,0,none⟩)):=(aj hb2).trans rfl; have d1:w2.cell? ⟨b,1,none⟩=some v:=(aj hb2).trans rfl; have f1:w2.frozen? ⟨b,1,none⟩=false:=bX hb2
 have hown2:w2.ownsRow B 5 1 v' (l++[c]).length (byteCells (l++[c])):=by
  rw [zQ,Lib.byteCells_append]; exact hown'
 have hne:v'.ownBlock≠some b:=Lib.ownBlock_ne hown2 hb2 (by decide); have hF2:Fr G w w2:=hfa.grown hgrow (fun k hk=>Or.inl (g6 k hk))
 have hv'G:∀ k,v'.ownBlock=some k->G k:=fun k hk=>by
  rcases Classical.em (G k) with h | h
  ·exact h
  ·exfalso
   have hkB:=(hown2.lt k hk).1
   have hkw:k < w.heap.size:=Nat.lt_of_not_le fun h9=>h (hg.out.up k h9)
   have e1:w2.heap[k]? = (w1.alloc (.cells #[bv c] 5)).heap[k]?:=hgrow.block k (by simp; omega) (fun e=>h (g6 k e.symm)); have e2:(w1.alloc (.cells #[bv c] 5)).heap[k]? = w.heap[k]?:=hfa.block k hkw h; rcases hown2.2 with ⟨rfl,_⟩ | ⟨g,cap,cur,rfl,_,hg2,_⟩
   ·cases hk
   ·simp [Value.ownBlock] at hk
    subst hk; exact hg.out.ty _ hkB hkw h cur (by rw [← e2,← e1]; exact hg2)
 obtain ⟨ao,cap,hv',-,-⟩:=bp hown2; subst hv'; have hset:=aC (i:=1) hb2 (.slice ao (l++[c]).length cap)
 have hfin:=hid (show dx G b (l++[c]) n (w2.setCell ⟨b,1,none⟩ (.slice ao (l++[c]).length cap))/\Fr G w (w2.setCell ⟨b,1,none⟩ (.slice ao (l++[c]).length cap)) from
  ⟨⟨g1,_,_,Or.inr rfl,hset,aJ hown2 (fun k hk=>ak _ (fun e=>hne (e ▸ hk))) (fun _ _=>zW _),hne,hv'G⟩,hF2.setCell (Or.inl g1) _⟩)
 simp only [zQ] at hfin; clear hset hown2 hown' hgrow hF2 hv'G hne g4a g3a hfa
 go_wp2
 go_ret; exact ⟨rfl,hfin.out.1,hfin.out.2⟩

theorem dx.new (G:aP) (w:World) (hG:G w.heap.size):dx G w.heap.size [] 0 (w.alloc (.cells #[.pointer none,.slice none 0 0,iv 0] 111)) :=
 ⟨hG,_,_,Or.inl rfl,af _ _,World.ownsRow_nil _ _ _ _,by simp [Value.ownBlock],fun k h=>by simp [Value.ownBlock] at h⟩
theorem dx.wild {G:aP} {b:Nat} {l:List UInt8} {n:Nat} {w:World} (h:dx G b l n w):w.cell? ⟨b,2,none⟩=some (iv n)/\w.frozen? ⟨b,2,none⟩=false:=by
 obtain ⟨h1,p,v,h2,h3,h4,h5,h6⟩:=h; exact ⟨(aj (i:=2) h3).trans rfl,bX h3⟩
theorem dx.setWild {G:aP} {b:Nat} {l:List UInt8} {n:Nat} {w:World} (h:dx G b l n w) (m:Nat):dx G b l m (w.setCell ⟨b,2,none⟩ (iv m))/\Fr G w (w.setCell ⟨b,2,none⟩ (iv m)):=by
 obtain ⟨h1,p,v,h2,h3,h4,h5,h6⟩:=h; exact ⟨⟨h1,p,v,h2,aC h3 (i:=2) (iv m),aJ h4 (fun k hk=>ak _ (fun e=>h5 (e ▸ hk))) (fun _ _=>zW _),h5,h6⟩,(Fr.refl _ _).setCell (Or.inl h1) _⟩
theorem dx.lt {G:aP} {b:Nat} {l:List UInt8} {n:Nat} {w:World} (h:dx G b l n w):b < w.heap.size:=by
 obtain ⟨h1,p,v,h2,h3,-⟩:=h; exact ae h3
theorem GOk.box {G:aP} {B:Nat} {w:World} (h:GOk G B w) {cs:Array Value} {t:TypeId} (ht:t≠5):GOk (fun k=>G k/\k≠w.heap.size) B (w.alloc (.cells cs t)):=by
 refine ⟨fun k hk=>?_,fun k hk=>h.low k hk.1,fun k h1 h2 h3 cur e=>?_,zV h.le (by simp)⟩
 ·simp at hk; exact ⟨h.up k (by omega),by omega⟩
 ·by_cases hk:k=w.heap.size
  ·subst hk
   have:=af w (.cells cs t); rw [e] at this; simp at this; exact ht this.2.symm
  ·have hk2:k < w.heap.size:=by simp at h2; omega
   rw [z7 _ _ _ hk2] at e; exact h.ty k h1 hk2 (fun hg=>h3 ⟨hg,hk⟩) cur e
theorem dx.box {G:aP} {b:Nat} {l:List UInt8} {n:Nat} {w:World} (h:dx G b l n w) (o:Obj):dx (fun k=>G k/\k≠w.heap.size) b l n (w.alloc o) :=
 (h.mono (H:=fun k=>G k/\k≠w.heap.size) fun k hk hg=>⟨hg,by omega⟩).below ((zN _ _).alloc (zM _) _)
theorem GOk.drew {G:aP} {B:Nat} {w:World} (h:GOk G B w):GOk G B w.drew:=h.below ((zN _ _).drew)
end Go.Proofs.YtffdpoifdahadaaGreatDoor
namespace Go.Proofs.YtffdpoifdahadaaGreatDoor
open Go.RowKit
open Go.Lib (hid byteCells itoa)
theorem qM (G:aP) (b:Nat) (l:List UInt8) (n:Nat) (w:World) (h:dx G b l n w) :
  Calls Tryz.prog 45 #[.pointer (some ⟨b,0,none⟩)] w fun e w'=>e=.returned (iv l.length)/\w'=w:=by
 obtain ⟨h1,p,v,h2,h3,h4,h5,h6⟩:=h; obtain ⟨a,c,rfl,-,-⟩:=bp h4; have c1:w.cell? ⟨b,1,none⟩=some (.slice a l.length c):=(aj (i:=1) h3).trans rfl; clear h1 h2 h3 h4 h5 h6
 go_enter Tryz.func45,Tryz.ntmps45
 go_wp2_with fail
 go_ret; exact ⟨rfl,rfl⟩
theorem qL (G:aP) (B b:Nat) (l:List UInt8) (n:Nat) (w:World) (h:dx G b l n w) (hGB:∀ k,G k->B<=k) (h0:l≠[]) :
  Calls Tryz.prog 46 #[.pointer (some ⟨b,0,none⟩)] w fun e w'=>e=.returned (sv l)/\Below B w w':=by
 obtain ⟨h1,p,v,h2,h3,hown,h5,h6⟩:=h
 have hl0:l.length≠0:=by simpa using h0
 obtain ⟨g,cap,cur,rfl,hg,hnc,hcm,hcs⟩:∃ g cap cur,v=.slice (some ⟨g,0,none⟩) l.length cap/\w.heap[g]? = some (.cells cur 5 (0,0))/\l.length<=cap/\cap<=maxLen/\cur.size=cap * 1:=by
  rcases hown.2 with ⟨_,hz⟩ | ⟨g,cap,cur,hv,_,r2,r3,r4,r5,_⟩
  ·exact absurd hz hl0
  ·exact ⟨g,cap,cur,hv,r2,r3,r4,r5⟩
 have hbg:B<=g:=hGB g (h6 g rfl); have c1:w.drew.cell? ⟨b,1,none⟩=some (.slice (some ⟨g,0,none⟩) l.length cap):=(aj (i:=1) h3).trans rfl
 have hSD:(Builtin.unsafeSliceData_ #[107] 138 #[.slice (some ⟨g,0,none⟩) l.length cap]).run Tryz.prog w.drew=.ok (.pointer (some ⟨g,0,none⟩)) w.drew :=
  Lib.run_unsafeSliceData_row _ _ _ _ _ _ (by omega)
 have hUS:(Builtin.unsafeString_ #[138,3] 9 #[.pointer (some ⟨g,0,none⟩),.int .i64 l.length]).run Tryz.prog w.drew=.ok (.string ⟨l.toArray⟩) (w.drew.freeze ⟨g,0,none⟩ l.length):=by
  refine Lib.run_unsafeString_row w.drew 138 3 9 5 Tryz.underlying138 (by kernel_rfl) g cur.size (by have hg':w.drew.heap[g]? = some (.cells cur 5 (0,0)):=hg; simp [World.shape?,hg']) l h0 (by omega) (by unfold maxLen at hcm; omega) ?_; intro j x hx; have:=hown.cells (g:=g) rfl j (.int .u8 x.toNat) (by simp [Lib.byteCells,hx]); exact this
 have mixed:Tryz.prog.follows Departure.mixedOrders=true:=by kernel_rfl
 have hfin:=hid (Lib.below_freeze (Below.drew (zN B w)) (p:=⟨g,0,none⟩) hbg l.length); clear h1 h2 h3 hown h5 h6 hg
 go_enter Tryz.func46,Tryz.ntmps46
 go_wp2_with fail
 go_region_o
 all_goals (go_wp2_with fail; go_ret; exact ⟨rfl,hfin.out⟩)
end Go.Proofs.YtffdpoifdahadaaGreatDoor
namespace Go.Proofs.YtffdpoifdahadaaGreatDoor
open Go.RowKit
open Go.Lib (hid byteCells itoa)
structure Tg where
 var:List UInt8
 kind:Int
 vt:List UInt8
 n:Int
 m:Int
 vs:List UInt8
 ln:Nat
abbrev eU (t:Tg) (a:Option Addr) (c:Nat):Array Value:=#[iv t.kind,sv t.vt,iv t.n,iv t.m,sv t.vs,.slice a t.ln c]
abbrev aR (t:Tg) (a:Option Addr) (c:Nat):Array Value:=#[sv t.var,iv t.kind,sv t.vt,iv t.n,iv t.m,sv t.vs,.slice a t.ln c]
def d_ (t:Tg):Bool:=decide (t.vt=[]) && decide (t.m=0) && decide (t.ln=0)
def dS (t:Tg):Option (List UInt8) :=
 if d_ t=false then none
 else if t.kind=3/\t.vs=[]/\-9007199254740992<=t.n/\t.n<=9007199254740992 then some (itoa t.n)
 else if t.kind=4/\t.n=0/\t.vs.length<=4096 then some (er [⟨3,t.vs,0,0⟩])
 else none
def eT:List UInt8->Bool
 | []=>false
 | c::r=>c == 95 && (parse r 1 9007199254740992).isSome
def aX (al:Bool) (t:Tg) (l:List UInt8) (n:Nat):Option (List UInt8 × Nat) :=
 if t.var=[] then (dS t).map fun s=>(l++s,n)
 else if t.kind≠0\/t.n≠0\/d_ t=false\/t.vs≠[] then none
 else if eT t.var=true then if al=true/\t.var=[95]++itoa ((n+1:Nat):Int) then some (l++[95],n+1) else none
 else if et t.var=true then some (l++t.var,n) else none
structure WS (G:aP) (B b:Nat) (l:List UInt8) (n:Nat) (w:World):Prop where
 bld:dx G b l n w
 gok:GOk G B w
 tab:nk B w
section
variable {G:aP} {B b n:Nat} {l:List UInt8} {w w':World}
theorem WS.fr (h:WS G B b l n w) (hf:Fr G w w') {l':List UInt8} {n':Nat} (hb:dx G b l' n' w'):WS G B b l' n' w':=⟨hb,h.gok.self hf,h.tab.fr hf h.gok.low⟩
theorem WS.below (h:WS G B b l n w) (hb:Below w.heap.size w w'):WS G B b l n w':=h.fr (Fr.of_below hb _) (h.bld.below hb)
theorem WS.box (h:WS G B b l n w) (cs:Array Value) {t:TypeId} (ht:t≠5):WS (fun k=>G k/\k≠w.heap.size) B b l n (w.alloc (.cells cs t)) :=
 ⟨h.bld.box _,h.gok.box ht,h.tab.fr (Fr.of_below ((zN _ _).alloc (zM _) _) (fun _=>False)) (fun _ x=>x.elim)⟩
theorem WS.out {G':aP} {l':List UInt8} {n':Nat} (h:WS G B b l n w) (h':WS G' B b l' n' w') (hf:Fr G w w') (hs:∀ k,G' k->G k):WS G B b l' n' w':=h.fr hf (h'.bld.mono fun k _ hk=>hs k hk)
theorem WS.write (h:WS G B b l n w) (s:List UInt8) (hl:l.length+s.length<=140737488355328) :
  Calls Tryz.prog 43 #[.pointer (some ⟨b,0,none⟩),sv s] w fun e w'=>e=.returned (.tuple #[.int .i64 s.length,.nilIface])/\WS G B b (l++s) n w'/\Fr G w w' :=
 (xE G B b l s n w h.bld h.gok hl).mono fun e w' hp=>⟨hp.1,h.fr hp.2.2 hp.2.1,hp.2.2⟩
theorem WS.writeB (h:WS G B b l n w) (c:UInt8) (hl:l.length<=140737488355327) :
  Calls Tryz.prog 85 #[.pointer (some ⟨b,0,none⟩),bv c] w fun e w'=>e=.returned .nilIface/\WS G B b (l++[c]) n w'/\Fr G w w' :=
 (xF G B b l c n w h.bld h.gok hl).mono fun e w' hp=>⟨hp.1,h.fr hp.2.2 hp.2.1,hp.2.2⟩
end
def PW (G:aP) (B b:Nat) (w:World) (r:Option (List UInt8 × Nat)) (e:Ending) (w':World):Prop :=
 e=.returned (.bool r.isSome)/\Fr G w w'/\∀ x,r=some x->WS G B b x.1 x.2 w'
theorem nL (t:Tg) (a:Option Addr) (c:Nat) (w:World):Calls Tryz.prog 102 #[.agg (eU t a c)] w fun e w'=>e=.returned (.bool (d_ t))/\Below w.heap.size w w':=by
 obtain ⟨r,hr⟩:∃ r,r=d_ t:=⟨_,rfl⟩; rw [← hr]; unfold d_ at hr; have hbe:=hid ((zN w.heap.size w).alloc (zM _) (.cells (eU t a c) 61))
 have h1:(t.vt == [])=decide (t.vt=[]):=by by_cases h:t.vt=[] <;> simp [h]
 have h2:(t.m == 0)=decide (t.m=0):=by by_cases h:t.m=0 <;> simp [h]
 have h3:((t.ln:Int) == 0)=decide (t.ln=0):=by by_cases h:t.ln=0 <;> simp [h]
 obtain ⟨b1,e1⟩:∃ b1,decide (t.vt=[])=b1:=⟨_,rfl⟩; obtain ⟨b2,e2⟩:∃ b2,decide (t.m=0)=b2:=⟨_,rfl⟩; obtain ⟨b3,e3⟩:∃ b3,decide (t.ln=0)=b3:=⟨_,rfl⟩; rw [e1] at h1; rw [e2] at h2; rw [e3] at h3; rw [e1,e2,e3] at hr; subst hr; replace e1:=hid e1; replace e2:=hid e2; replace e3:=hid e3
 go_enter Tryz.func102,Tryz.ntmps102
 cases b1 <;> cases b2 <;> cases b3
 all_goals
  go_wp2_with fail
  go_ret; exact ⟨rfl,hbe.out⟩
theorem jG (t:Tg) (a:Option Addr) (c:Nat) (w:World) (hv:t.var.length<=1048576):Calls Tryz.prog 30 #[.agg (aR t a c)] w fun e w'=>e=.returned (.bool (eT t.var))/\Below w.heap.size w w':=by
 obtain ⟨var,kind,vt,n,m,vs,ln⟩:=t; replace hv:var.length<=1048576:=hv
 show Calls Tryz.prog 30 #[.agg #[sv var,iv kind,sv vt,iv n,iv m,sv vs,.slice a ln c]] w fun e w'=>e=.returned (.bool (eT var))/\Below w.heap.size w w'
 have hbe:=hid ((zN w.heap.size w).alloc (zM _) (.cells #[sv var,iv kind,sv vt,iv n,iv m,sv vs,.slice a ln c] 63)); have hp:=hid (fun W=>Tryz.strings_HasPrefix ⟨var.toArray⟩ ⟨[95].toArray⟩ W)
 cases var with
 | nil =>
  go_enter Tryz.func30,Tryz.ntmps30
  go_wp2_with fail
  refine (hp.out _).mono ?_; rintro e w1 ⟨rfl,rfl⟩; rw [show Lib.hasPrefix (⟨([]:List UInt8).toArray⟩:ByteArray).data.toList (⟨[95].toArray⟩:ByteArray).data.toList=false from rfl]
  go_wp2_with fail
  go_ret; exact ⟨rfl,hbe.out⟩
 | cons y r =>
  have hpv:Lib.hasPrefix (⟨(y::r).toArray⟩:ByteArray).data.toList (⟨[95].toArray⟩:ByteArray).data.toList=(y == 95):=by
   show ([95]:List UInt8).isPrefixOf (y::r)=_; simp only [List.isPrefixOf,Bool.and_true]; rw [Bool.eq_iff_iff,beq_iff_eq,beq_iff_eq]; exact eq_comm
  by_cases hy:y=95
  ·subst hy
   have hex:=qv 95 r
   have hrl:r.length<=1048576:=by simp at hv; omega
   have hpa:=hid (fun W=>ku r 1 9007199254740992 W (by omega)); obtain ⟨o,ho⟩:∃ o,o=parse r 1 9007199254740992:=⟨_,rfl⟩; rw [← ho] at hpa
   have hwf:eT (95::r)=o.isSome:=by show ((95:UInt8) == 95 && (parse r 1 9007199254740992).isSome)=_; rw [← ho]; rfl
   rw [hwf]; replace ho:=hid ho; replace hwf:=hid hwf
   go_enter Tryz.func30,Tryz.ntmps30
   go_wp2_with fail
   refine (hp.out _).mono ?_; rintro e w1 ⟨rfl,rfl⟩; rw [hpv]
   go_wp2_with fail
   refine (hpa.out _).mono ?_; rintro e w2 ⟨rfl,hb2⟩; have hb:=hid (hbe.out.trans (hb2.mono (by simp))); clear hb2
   go_wp2_with fail
   go_ret; exact ⟨rfl,hb.out⟩
  ·have hwf:eT (y::r)=false:=by show (y == 95 && _)=false; simp [hy]
   rw [hwf]; replace hwf:=hid hwf
   have hpv':(y == 95)=false:=by simp [hy]
   rw [hpv'] at hpv; replace hy:=hid hy
   go_enter Tryz.func30,Tryz.ntmps30
   go_wp2_with fail
   refine (hp.out _).mono ?_; rintro e w1 ⟨rfl,rfl⟩; rw [hpv]
   go_wp2_with fail
   go_ret; exact ⟨rfl,hbe.out⟩
theorem xK (s:List UInt8) (w:World):SlR 4 TkR (fun _=>True) (w.alloc (.cells #[iv 3,sv s,iv 0,iv 0] 95)) [⟨3,s,0,0⟩] (.slice (some ⟨w.heap.size,0,none⟩) 1 1):=by
 have hn:=af w (.cells #[iv 3,sv s,iv 0,iv 0] 95)
 exact (iZ (S:=fun _=>True) (xs:=[iv 3,sv s,iv 0,iv 0]) cY hn rfl rfl (by show 1<=maxLen; decide) trivial fun i x hx=>by
  match i,hx with
  | 0,hx =>
   injection hx with hx; subst hx
   exact ⟨[iv 3,sv s,iv 0,iv 0],fun j u hu=>by simpa using hu,rfl⟩).sl cY
theorem lG (s:List UInt8) (h:s.length<=4096):(er [⟨3,s,0,0⟩]).length<=8194:=by
 have e:er [⟨3,s,0,0⟩]=dc s:=by
  unfold er; rw [if_pos (by simp [db,h])]; simp [wrF,tkW]
 rw [e]; unfold dc; have:=iM s; simp; omega
theorem oZ (G:aP) (B b:Nat) (l:List UInt8) (n:Nat) (t:Tg) (a:Option Addr) (c:Nat) (w:World) (h:WS G B b l n w) (hl:l.length<=140737488000000) :
  Calls Tryz.prog 101 #[pt b,.agg (eU t a c)] w (PW G B b w ((dS t).map fun s=>(l++s,n))):=by
 obtain ⟨R,hR⟩:∃ R,R=(dS t).map fun s=>(l++s,n):=⟨_,rfl⟩
 rw [← hR]; replace hR:=hid hR; have hpl:=hid (nL t a c (w.alloc (.cells (eU t a c) 61))); have hbn:=af w (.cells (eU t a c) 61); have hW0:=hid (h.box (eU t a c) (t:=61) (by decide)); have hF0:=hid (Fr.of_below ((zN _ w).alloc (zM _) (.cells (eU t a c) 61)) G); replace h:=hid h
 go_enter Tryz.func101,Tryz.ntmps101
 go_wp2_with fail
 with_reducible refine hpl.out.mono ?_
 rintro e w1 ⟨rfl,hb1⟩; have hW1:=hid (hW0.out.below hb1); have hF1:=hid (hF0.out.trans (Fr.of_below hb1 _)); have hb1k:=an hb1 hbn (ae hbn); have c0:w1.cell? ⟨w.heap.size,0,none⟩=some (iv t.kind):=(aj (i:=0) hb1k).trans rfl; have c2:w1.cell? ⟨w.heap.size,2,none⟩=some (iv t.n):=(aj (i:=2) hb1k).trans rfl; have c4:w1.cell? ⟨w.heap.size,4,none⟩=some (sv t.vs):=(aj (i:=4) hb1k).trans rfl; have hbl:=hid (ae hb1k); clear hpl hb1 hb1k hbn hW0 hF0; obtain ⟨pl,hp⟩:∃ pl,pl=d_ t:=⟨_,rfl⟩; rw [← hp]
 cases pl with
 | false =>
  replace hR:=hid (show R=none from by rw [hR.out]; unfold dS; rw [if_pos hp.symm]; rfl); replace hp:=hid hp
  go_wp2_with fail
  go_ret; exact ⟨by rw [hR.out]; rfl,hF1.out,fun x hx=>by rw [hR.out] at hx; cases hx⟩
 | true =>
  replace hR:=hid (show R=Option.map (fun s=>(l++s,n)) (if t.kind=3/\t.vs=[]/\-9007199254740992<=t.n/\t.n<=9007199254740992 then some (itoa t.n) else if t.kind=4/\t.n=0/\t.vs.length<=4096 then some (er [⟨3,t.vs,0,0⟩]) else none) from by rw [hR.out]; unfold dS; rw [if_neg (by rw [← hp]; decide)]); replace hp:=hid hp; by_cases hk3:t.kind=3
  ·have k3:(t.kind == 3)=true:=by simp [hk3]
   have k4:(t.kind == 4)=false:=by simp [hk3]
   have hno4:¬ (t.kind=4/\t.n=0/\t.vs.length<=4096):=fun e=>by omega
   rw [if_neg hno4] at hR; by_cases hvs:t.vs=[]
   ·have kv:(t.vs == [])=true:=by simp [hvs]
    by_cases hlo:-9007199254740992<=t.n
    ·have klo:decide (-9007199254740992<=t.n)=true:=zP hlo
     by_cases hhi:t.n<=9007199254740992
     ·have khi:decide (t.n<=9007199254740992)=true:=zP hhi
      replace hR:=hid (show R=some (l++itoa t.n,n) from by rw [hR.out,if_pos ⟨hk3,hvs,hlo,hhi⟩]; rfl); have hil:=fR t.n (by omega) (by omega); replace hk3:=hid hk3; replace hvs:=hid hvs;go_wp2_with fail;refine wp_region_held_drew (S:=fun w'=>w'.cell? ⟨w.heap.size,2,none⟩=some (iv t.n)) (by kernel_rfl) ?_ (fun hHeld=>?_)
      ·exact c2
      have hbd:Below w1.heap.size w1 w1.drew:=(zN _ w1).drew; have hbl2:=hid (zS hbl.out hbd.size); have hWd:=hid (hW1.out.below hbd); have hFd:=hid (hF1.out.trans (Fr.of_below hbd _)); generalize w1.drew=wd at *; refine wTk (i:=0) (v:=?_) rfl ?hy ?_
      case hy =>
       intro w hSw; have hq:=hSw; go_simp
       all_goals with_reducible rfl
      (try simp only [Act.put,sI,sZ,sS]);refine wTk (i:=1) (v:=?_) rfl ?hy ?_
      case hy =>
       intro w hSw; have hq:=hSw; go_simp
       all_goals with_reducible rfl
      (try simp only [Act.put,sI,sZ,sS]);refine wTk (i:=2) (v:=?_) rfl ?hy ?_
      case hy =>
       intro w hSw; have hq:=hSw; go_simp
       all_goals with_reducible rfl
      (try simp only [Act.put,sI,sZ,sS]);refine wTk (i:=3) (v:=?_) rfl ?hy ?_
      case hy =>
       intro w hSw; have hq:=hSw; go_simp
       all_goals with_reducible rfl
      (try simp only [Act.put,sI,sZ,sS]);refine wTk (i:=4) (v:=?_) rfl ?hy ?_
      case hy =>
       intro w hSw; have hq:=hSw; go_simp
       all_goals with_reducible rfl
      (try simp only [Act.put,sI,sZ,sS]);refine wpAnyH_ready (rs:=[5]) (by as_aux_lemma=>kernel_rfl) (by simp) ?_; refine rdY rfl (fun K hK=>?_); go_simp;go_at_call 97;(with_reducible refine (fl t.n wd (by omega) (by omega) (hid hWd.out.tab.tab)).mono ?_);rintro e w2 ⟨rfl,hb2⟩; have hW2:=hid (hWd.out.below hb2); have hF2:=hid (hFd.out.trans (Fr.of_below hb2 _)); refine hK.out _ _ ?_ (fun hHeld2=>?_)
      ·exact (Af (hb2.block _ hbl2.out)).trans hHeld
      clear hK K; clear hHeld; have hHeld:=hHeld2; clear hHeld2;(try simp only [Act.put,sI,sZ,sS]);refine wpAnyH_ready (rs:=[6]) (by as_aux_lemma=>kernel_rfl) (by simp) ?_; refine rdY rfl (fun K hK=>?_); go_simp;go_at_call 43;(with_reducible refine (hW2.out.write (itoa t.n) (by omega)).mono ?_);rintro e w3 ⟨rfl,hW3,hf3⟩; replace hW3:=hid hW3; replace hf3:=hid hf3; refine hK.out _ _ ?_ (fun hHeld2=>?_)
      ·exact (Af (hf3.out.block _ (zS hbl2.out hb2.size) (fun e=>e.2 rfl))).trans hHeld
      clear hK K; clear hHeld; have hHeld:=hHeld2; clear hHeld2;(try simp only [Act.put,sI,sZ,sS]);refine wpAnyH_done (by as_aux_lemma=>kernel_rfl) ?_ _;go_wp2_with fail;(go_ret; refine ⟨by rw [hR.out]; rfl,hF2.out.trans (hf3.out.mono fun k _ hk=>hk.1),fun x hx=>?_⟩; rw [hR.out] at hx; injection hx with hx; subst hx);(exact h.out.out hW3.out (hF2.out.trans (hf3.out.mono fun k _ hk=>hk.1)) fun k hk=>hk.1)
     ·have khi:decide (t.n<=9007199254740992)=false:=zO hhi
      replace hR:=hid (show R=none from by rw [hR.out,if_neg (fun e=>hhi e.2.2.2)]; rfl); replace hk3:=hid hk3; replace hvs:=hid hvs;go_wp2_with fail
      go_ret; exact ⟨by rw [hR.out]; rfl,hF1.out,fun x hx=>by rw [hR.out] at hx; cases hx⟩
    ·have klo:decide (-9007199254740992<=t.n)=false:=zO hlo
     replace hR:=hid (show R=none from by rw [hR.out,if_neg (fun e=>hlo e.2.2.1)]; rfl); replace hk3:=hid hk3; replace hvs:=hid hvs;go_wp2_with fail
     go_ret; exact ⟨by rw [hR.out]; rfl,hF1.out,fun x hx=>by rw [hR.out] at hx; cases hx⟩
   ·have kv:(t.vs == [])=false:=by simp [hvs]
    replace hR:=hid (show R=none from by rw [hR.out,if_neg (fun e=>hvs e.2.1)]; rfl); replace hk3:=hid hk3; replace hvs:=hid hvs;go_wp2_with fail
    go_ret; exact ⟨by rw [hR.out]; rfl,hF1.out,fun x hx=>by rw [hR.out] at hx; cases hx⟩
  ·have k3:(t.kind == 3)=false:=by simp [hk3]
   replace hR:=hid (show R=Option.map (fun s=>(l++s,n)) (if t.kind=4/\t.n=0/\t.vs.length<=4096 then some (er [⟨3,t.vs,0,0⟩]) else none) from by rw [hR.out,if_neg (fun e=>hk3 e.1)]); replace hk3:=hid hk3; by_cases hk4:t.kind=4
   ·have k4:(t.kind == 4)=true:=by simp [hk4]
    by_cases hn0:t.n=0
    ·have kn:(t.n == 0)=true:=by simp [hn0]
     by_cases hle:t.vs.length<=4096
     ·have kl:decide ((t.vs.length:Int)<=4096)=true:=zP (by omega)
      (have kli:(t.vs.length:Int)<=4096:=by omega);replace hR:=hid (show R=some (l++er [⟨3,t.vs,0,0⟩],n) from by rw [hR.out,if_pos ⟨hk4,hn0,hle⟩]; rfl); have hil:=lG t.vs hle; replace hk4:=hid hk4; replace hn0:=hid hn0;go_wp2_with fail;refine wp_region_held_drew (S:=fun w'=>w'.cell? ⟨w.heap.size,4,none⟩=some (sv t.vs)) (by kernel_rfl) ?_ (fun hHeld=>?_)
      ·exact c4
      have hbd:Below w1.heap.size w1 w1.drew:=(zN _ w1).drew; have hbl2:=hid (zS hbl.out hbd.size); have hWd:=hid (hW1.out.below hbd); have hFd:=hid (hF1.out.trans (Fr.of_below hbd _)); generalize w1.drew=wd at *; refine wTk (i:=0) (v:=?_) rfl ?hy ?_
      case hy =>
       intro w hSw; have hq:=hSw; go_simp
       all_goals with_reducible rfl
      (try simp only [Act.put,sI,sZ,sS]);refine wTk (i:=1) (v:=?_) rfl ?hy ?_
      case hy =>
       intro w hSw; have hq:=hSw; go_simp
       all_goals with_reducible rfl
      (try simp only [Act.put,sI,sZ,sS]);refine wTk (i:=2) (v:=?_) rfl ?hy ?_
      case hy =>
       intro w hSw; have hq:=hSw; go_simp
       all_goals with_reducible rfl
      (try simp only [Act.put,sI,sZ,sS]);refine wTk (i:=3) (v:=?_) rfl ?hy ?_
      case hy =>
       intro w hSw; have hq:=hSw; go_simp
       all_goals with_reducible rfl
      (try simp only [Act.put,sI,sZ,sS]);refine wTk (i:=4) (v:=?_) rfl ?hy ?_
      case hy =>
       intro w hSw; have hq:=hSw; go_simp
       all_goals with_reducible rfl
      (try simp only [Act.put,sI,sZ,sS]);refine wTk (i:=5) (v:=?_) rfl ?hy ?_
      case hy =>
       intro w hSw; have hq:=hSw; go_simp
       all_goals with_reducible rfl
      (try simp only [Act.put,sI,sZ,sS]);refine wpAnyH_ready (rs:=[6]) (by as_aux_lemma=>kernel_rfl) (by simp) ?_; refine rdY rfl (fun K hK=>?_); go_simp; have hbx:Below wd.heap.size wd (wd.alloc (.cells #[iv 3,sv t.vs,iv 0,iv 0] 95)):=(zN _ _).alloc (zM _) _; refine hK.out _ _ ?_ (fun hHeld2=>?_)
      ·exact (Af (hbx.block _ hbl2.out)).trans hHeld
      clear hK K; clear hHeld; have hHeld:=hHeld2; clear hHeld2;(try simp only [Act.put,sI,sZ,sS]);have hWx:=hid (hWd.out.below hbx); have hFx:=hid (hFd.out.trans (Fr.of_below hbx _)); have hsl:=hid (xK t.vs wd); refine wpAnyH_ready (rs:=[7]) (by as_aux_lemma=>kernel_rfl) (by simp) ?_; refine rdY rfl (fun K hK=>?_); go_simp;go_at_call 122;have hwa:=hid (tq [⟨3,t.vs,0,0⟩] _ (fun _=>True) _ (by show (1:Nat)<=40000; decide) (fun y hy=>by simp at hy; subst hy; unfold TkB; exact ⟨by show t.vs.length<=_; omega,by show (-9223372036854775808:Int)<=0; decide,by show (0:Int)<=9223372036854775807; decide⟩) hsl.out (hid hWx.out.tab.tab));(with_reducible refine hwa.out.mono ?_);rintro e w2 ⟨rfl,hb2⟩; have hW2:=hid (hWx.out.below hb2); have hF2:=hid (hFx.out.trans (Fr.of_below hb2 _)); refine hK.out _ _ ?_ (fun hHeld2=>?_)
      ·exact (Af (hb2.block _ (zS hbl2.out hbx.size))).trans hHeld
      clear hK K; clear hHeld; have hHeld:=hHeld2; clear hHeld2;(try simp only [Act.put,sI,sZ,sS]);refine wpAnyH_ready (rs:=[8]) (by as_aux_lemma=>kernel_rfl) (by simp) ?_; refine rdY rfl (fun K hK=>?_); go_simp;go_at_call 43;(with_reducible refine (hW2.out.write (er [⟨3,t.vs,0,0⟩]) (by omega)).mono ?_);rintro e w3 ⟨rfl,hW3,hf3⟩; replace hW3:=hid hW3; replace hf3:=hid hf3; refine hK.out _ _ ?_ (fun hHeld2=>?_)
      ·exact (Af (hf3.out.block _ (zS (zS hbl2.out hbx.size) hb2.size) (fun e=>e.2 rfl))).trans hHeld
      clear hK K; clear hHeld; have hHeld:=hHeld2; clear hHeld2;(try simp only [Act.put,sI,sZ,sS]);refine wpAnyH_done (by as_aux_lemma=>kernel_rfl) ?_ _;go_wp2_with fail;(go_ret; refine ⟨by rw [hR.out]; rfl,hF2.out.trans (hf3.out.mono fun k _ hk=>hk.1),fun x hx=>?_⟩; rw [hR.out] at hx; injection hx with hx; subst hx);(exact h.out.out hW3.out (hF2.out.trans (hf3.out.mono fun k _ hk=>hk.1)) fun k hk=>hk.1)
     ·have kl:decide ((t.vs.length:Int)<=4096)=false:=zO (by omega)
      (have kli:¬ (t.vs.length:Int)<=4096:=by omega);replace hR:=hid (show R=none from by rw [hR.out,if_neg (fun e=>hle e.2.2)]; rfl); replace hk4:=hid hk4; replace hn0:=hid hn0;go_wp2_with fail
      go_ret; exact ⟨by rw [hR.out]; rfl,hF1.out,fun x hx=>by rw [hR.out] at hx; cases hx⟩
    ·have kn:(t.n == 0)=false:=by simp [hn0]
     replace hR:=hid (show R=none from by rw [hR.out,if_neg (fun e=>hn0 e.2.1)]; rfl); replace hk4:=hid hk4; replace hn0:=hid hn0;go_wp2_with fail
     go_ret; exact ⟨by rw [hR.out]; rfl,hF1.out,fun x hx=>by rw [hR.out] at hx; cases hx⟩
   ·have k4:(t.kind == 4)=false:=by simp [hk4]
    replace hR:=hid (show R=none from by rw [hR.out,if_neg (fun e=>hk4 e.1)]; rfl); replace hk4:=hid hk4;go_wp2_with fail
    go_ret; exact ⟨by rw [hR.out]; rfl,hF1.out,fun x hx=>by rw [hR.out] at hx; cases hx⟩
end Go.Proofs.YtffdpoifdahadaaGreatDoor
