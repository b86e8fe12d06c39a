/- strings.Builder with a frame: what this builder may write. -/
import Derived.Test.YtffdpoifdahadaaGreatDoorLexW5
import Derived.Test.YtffdpoifdahadaaGreatDoorRel
set_option linter.unusedVariables false
set_option maxHeartbeats 40000000
set_option maxRecDepth 100000
namespace Go.Proofs.YtffdpoifdahadaaGreatDoor
open Go.RowKit
open Go.Lib (hid byteCells)
def BldF (G:aP) (b:Nat) (l:List UInt8) (w:World):Prop :=
 G b/\∃ p v,(p=.pointer none\/p=.pointer (some ⟨b,0,none⟩))/\w.heap[b]? = some (.cells #[p,v] 109 (0,0))/\w.ownsRow 0 5 1 v l.length (byteCells l)/\v.ownBlock≠some b/\∀ k,v.ownBlock=some k->G k
theorem BldF.new (G:aP) (w:World) (hG:G w.heap.size):BldF G w.heap.size [] (w.alloc (.cells #[.pointer none,.slice none 0 0] 109)) :=
 ⟨hG,_,_,Or.inl rfl,af _ _,World.ownsRow_nil _ _ _ _,by simp [Value.ownBlock],fun k h=>by simp [Value.ownBlock] at h⟩
theorem BldF.fr {G S:aP} {b:Nat} {l:List UInt8} {w w':World} (h:BldF G b l w) (hf:Fr S w w') (hs:∀ k,k < w.heap.size->G k->¬ S k):BldF G b l w':=by
 obtain ⟨h1,p,v,h2,h3,h4,h5,h6⟩:=h; refine ⟨h1,p,v,h2,hf.keep h3 (hs b (ae h3) h1),aJ h4 (fun k hk=>hf.block k (h4.lt k hk).2 (hs k (h4.lt k hk).2 (h6 k hk))) (fun _ _=>zW _),h5,h6⟩
theorem BldF.below {G:aP} {b:Nat} {l:List UInt8} {w w':World} (h:BldF G b l w) (hb:Below w.heap.size w w'):BldF G b l w':=h.fr (Fr.of_below hb (fun _=>False)) (fun _ _ _ h=>h)
theorem BldF.mono {G H:aP} {b:Nat} {l:List UInt8} {w:World} (h:BldF G b l w) (hg:∀ k,k < w.heap.size->G k->H k):BldF H b l w:=by
 obtain ⟨h1,p,v,h2,h3,h4,h5,h6⟩:=h; exact ⟨hg b (ae h3) h1,p,v,h2,h3,h4,h5,fun k hk=>hg k (h4.lt k hk).2 (h6 k hk)⟩
theorem BldF.bld {B b:Nat} {l:List UInt8} {w:World} (h:BldF (aF B) b l w):Lib.IsBuilder 109 5 B b (byteCells l) w:=by
 obtain ⟨h1,p,v,h2,h3,h4,h5,h6⟩:=h; have:Lib.BuilderAt 109 5 B b p (byteCells l) w:=⟨h1,v,h3,by rw [Lib.byteCells_length]; exact aJ h4 (fun _ _=>rfl) h6,h5⟩; rcases h2 with rfl | rfl
 ·exact Or.inl this
 ·exact Or.inr this
theorem mS (G:aP) (b:Nat) (l:List UInt8) (w:World) (h:BldF G b l w) :
  Calls Tryz.prog 69 #[.pointer (some ⟨b,0,none⟩)] w fun e w'=>e=.returned (.tuple #[])/\BldF G b l w'/\Fr G w w'/\∃ v,w'.heap[b]? = some (.cells #[.pointer (some ⟨b,0,none⟩),v] 109 (0,0)):=by
 obtain ⟨h1,p,v,h2,h3,h4,h5,h6⟩:=id h; rcases h2 with rfl | rfl
 ·refine (ip b w ((aj h3).trans rfl) (by simp [World.shape?,h3]) (bX h3)).mono ?_
  rintro e w' ⟨rfl,rfl⟩; have hs:=aC (i:=0) h3 (.pointer (some ⟨b,0,none⟩)); refine ⟨rfl,⟨h1,_,v,Or.inr rfl,hs,aJ h4 (fun k hk=>ak _ (fun e=>h5 (e ▸ hk))) (fun _ _=>zW _),h5,h6⟩,(Fr.refl _ _).setCell (Or.inl h1) _,v,hs⟩
 ·refine (f_ b w ((aj h3).trans rfl)).mono ?_
  rintro e w' ⟨rfl,rfl⟩; exact ⟨rfl,h,Fr.refl _ _,v,h3⟩
theorem sm (G:aP) (B b:Nat) (l s:List UInt8) (w:World) (h:BldF G b l w) (hG:∀ k,w.heap.size<=k->G k) (hGB:∀ k,G k->B<=k) (hty:∀ k,B<=k->k < w.heap.size->¬ G k->∀ cur,w.heap[k]?≠some (.cells cur 5 (0,0))) (hBw:B<=w.heap.size) (hlen:l.length+s.length<=140737488355328) :
  Calls Tryz.prog 43 #[.pointer (some ⟨b,0,none⟩),sv s] w fun e w'=>e=.returned (.tuple #[.int .i64 s.length,.nilIface])/\BldF G b (l++s) w'/\Fr G w w':=by
 obtain ⟨i0,hi,hz0,hz1,hz2⟩:=info_parts kf; have hcall:=hid (mS G b l w h); replace hG:=hid hG; replace hGB:=hid hGB; replace hty:=hid hty; clear h
 go_enter Tryz.func43,Tryz.ntmps43
 go_wp2_with fail
 refine hcall.out.mono ?_; rintro e w1 ⟨rfl,h1,hf1,v1,hv1⟩; obtain ⟨g1,p,v,g2,g3,g4,g5,g6⟩:=id h1
 have hpv:p=.pointer (some ⟨b,0,none⟩)/\v=v1:=by
  have:=g3.symm.trans hv1; simp at this; exact this
 obtain ⟨rfl,rfl⟩:=hpv; replace g4:w1.ownsRow B 5 1 v l.length (byteCells l):=aJ g4 (fun _ _=>rfl) (fun k hk=>hGB.out k (g6 k hk)); have c0:w1.cell? ⟨b,0,none⟩=some (.pointer (some ⟨b,0,none⟩)):=(aj g3).trans rfl; have c1:w1.cell? ⟨b,1,none⟩=some v:=(aj g3).trans rfl; have hs1:=hf1.size; clear hcall hv1; replace h1:=hid h1; replace hf1:=hid hf1
 go_wp2_with (at_builtin; refine Lib.wpList_append_own_string _ rfl _ _ 107 9 rfl B 5 i0 Tryz.underlying107 Tryz.underlying9 hi hz0 hz1 hz2 _ _ _ rfl g4 ⟨s.toArray⟩ rfl ?c3 ?c4 ?c5 ?_)
 case c3=>exact (show l.length+s.length<=maxLen by unfold maxLen; omega)
 case c4=>exact (show l.length+s.length<=140737488355328 by omega)
 case c5=>exact zV hBw hs1
 intro v' w2 hown' hgrow hnil; have hlt:=ae g3; have hb2:w2.heap[b]? = some (.cells #[.pointer (some ⟨b,0,none⟩),v] 109 (0,0)):=(hgrow.block b hlt (fun e=>g5 e.symm)).trans g3; have d0:w2.cell? ⟨b,0,none⟩=some (.pointer (some ⟨b,0,none⟩)):=(aj hb2).trans rfl; have d1:w2.cell? ⟨b,1,none⟩=some v:=(aj hb2).trans rfl; have f1:w2.frozen? ⟨b,1,none⟩=false:=bX hb2
 have hown2:w2.ownsRow B 5 1 v' (l++s).length (byteCells (l++s)):=by
  rw [zQ,Lib.byteCells_append]; exact hown'
 have hne:v'.ownBlock≠some b:=Lib.ownBlock_ne hown2 hb2 (by decide); have hF2:Fr G w w2:=hf1.out.grown hgrow (fun k hk=>Or.inl (g6 k hk))
 have hv'G:∀ k,v'.ownBlock=some k->G k:=fun k hk=>by
  rcases Classical.em (G k) with h | h
  ·exact h
  ·exfalso
   have hkB:=(hown2.lt k hk).1
   have hkw:k < w.heap.size:=Nat.lt_of_not_le fun h9=>h (hG.out k h9)
   have e1:w2.heap[k]? = w1.heap[k]?:=hgrow.block k (zS hkw hs1) (fun e=>h (g6 k e.symm)); have e2:w1.heap[k]? = w.heap[k]?:=hf1.out.block k hkw h; rcases hown2.2 with ⟨rfl,_⟩ | ⟨g,cap,cur,rfl,_,hg,_⟩
   ·cases hk
   ·simp [Value.ownBlock] at hk
    subst hk; exact hty.out _ hkB hkw h cur (by rw [← e2,← e1]; exact hg)
 obtain ⟨ao,cap,hv',-,-⟩:=bp hown2; subst hv'; have hset:=aC (i:=1) hb2 (.slice ao (l++s).length cap)
 have hfin:=hid (show BldF G b (l++s) (w2.setCell ⟨b,1,none⟩ (.slice ao (l++s).length cap))/\Fr G w (w2.setCell ⟨b,1,none⟩ (.slice ao (l++s).length cap)) from
  ⟨⟨g1,_,_,Or.inr rfl,hset,aJ hown2 (fun k hk=>ak _ (fun e=>hne (e ▸ hk))) (fun _ _=>zW _),hne,hv'G⟩,hF2.setCell (Or.inl g1) _⟩)
 simp only [zQ] at hfin; clear hset hown2 hown' hgrow hF2 hv'G hne
 go_wp2
 go_ret2
 exact ⟨rfl,hfin.out.1,hfin.out.2⟩
end Go.Proofs.YtffdpoifdahadaaGreatDoor
