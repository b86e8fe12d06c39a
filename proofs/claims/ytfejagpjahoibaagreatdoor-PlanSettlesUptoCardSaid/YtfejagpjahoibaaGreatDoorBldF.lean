/- BldF: LexT, Builder, BldF, in one text. -/
import Derived.Test.YtfejagpjahoibaaGreatDoorLexP
import Derived.Test.YtfejagpjahoibaaGreatDoorShelf
import Derived.Lib.AppendIntMem
import Derived.Test.YtfejagpjahoibaaGreatDoorChecked
import Derived.Test.YtfejagpjahoibaaGreatDoorRel
import Derived.Lib.Strings
import Derived.Lib.Slices
import Derived.Lib.Walk
import Derived.Lib.Builder
import Derived.Lib.AppendStr
import Derived.Lib.UnsafeStr
import Derived.Laws.Externs
import Derived.Shelf.Strings.Builder1
import Derived.Laws.IdiomCopy
set_option linter.unusedVariables false
namespace Go.Proofs.YtfejagpjahoibaaGreatDoor
open Go.RowKit
open Go.Lib (hid itoa)
def Tab (w : World) : Prop := Lib.TabIs Tryz.prog w "internal/strconv.uint64pow10" .u64 Lib.pow10Tab
theorem Tab.below {w w':World} (h:Tab w) (hb:Below w.heap.size w w'):Tab w':=Lib.tabBelow_of_tabIs h w' hb
theorem ntext_any (n:Int) (w:World) (h0:-9223372036854775808≤n) (h1:n≤9223372036854775807) (ht:Hid (Tab w)) :
  Calls Tryz.prog 61 #[iv n] w fun e w'=>e=.returned (sv (itoa n))∧Below w.heap.size w w':=by
 go_enter Tryz.func61,Tryz.ntmps61
 go_wp2_with fail
 refine (Tryz.strconv_Itoa n h0 h1 _ ht.out).mono ?_; rintro e w' ⟨rfl,k,os,rfl⟩
 go_wp2_with fail
 go_ret; exact ⟨rfl,Lib.below_grow _ _ (Nat.le_refl _) _ _⟩

end Go.Proofs.YtfejagpjahoibaaGreatDoor
namespace Go.Proofs.YtfejagpjahoibaaGreatDoor
open Go.RowKit

theorem bldSize:(Tryz.prog.info? 83).map (·.size)=some 2:=by kernel_rfl
theorem bldLies:liesAt Tryz.prog Tryz.prog.depth 83 (2 / Tryz.prog.cellsOf 83) 0 83 1=true:=by kernel_rfl
theorem bldByte:(Tryz.prog.info? 5).map (fun i=>(i.zero,i.size,i.bytes))=some (some (.int .u8 0),1,1):=by kernel_rfl

set_option maxHeartbeats 1000000 in
set_option maxRecDepth 100000 in
theorem copyCheck_used (b:Nat) (w:World) (h0:w.cell? ⟨b,0,none⟩=some (.pointer (some ⟨b,0,none⟩))) :
  Calls Tryz.prog 78 #[.pointer (some ⟨b,0,none⟩)] w fun e w'=>e=.returned (.tuple #[])∧w'=w:=by
 obtain ⟨j,hj,_⟩:=Option.map_eq_some_iff.1 bldSize
 go_enter Tryz.func78,Tryz.ntmps78
 go_wp2
 rw [Lib.run_neq_ptr_same w _ Tryz.underlying80 hj]
 go_wp2
 go_end0
 exact ⟨rfl,rfl⟩

set_option maxHeartbeats 1000000 in
set_option maxRecDepth 100000 in
theorem copyCheck_fresh (b:Nat) (w:World) (h0:w.cell? ⟨b,0,none⟩=some (.pointer none)) (hsh:w.shape? b=some (83,2)) (hfz:w.frozen? ⟨b,0,none⟩=false) :
  Calls Tryz.prog 78 #[.pointer (some ⟨b,0,none⟩)] w fun e w'=>e=.returned (.tuple #[])∧w'=w.setCell ⟨b,0,none⟩ (.pointer (some ⟨b,0,none⟩)):=by
 obtain ⟨j,hj,hjs⟩:=Option.map_eq_some_iff.1 bldSize
 go_enter Tryz.func78,Tryz.ntmps78
 go_wp2
 rw [Lib.run_to_unsafe w ⟨b,0,none⟩ Tryz.underlying80 Tryz.underlying152 hj (by rw [hjs]; decide) hsh (Nat.zero_lt_succ 1)]; simp only [Result.andThen]; rw [Oper.upon_value]
 go_wp2
 rw [run_callFunc_extern Tryz.func84 (by kernel_rfl) (by kernel_rfl) (by kernel_rfl) (e:=Extern.AbiNoEscape.same) (by kernel_rfl)]; rw [Lib.run_noEscape]; simp only [Result.andThen]; rw [Oper.upon_value]
 go_wp2
 rw [Lib.run_from_unsafe w ⟨b,0,none⟩ Tryz.underlying152 Tryz.underlying80 hj hsh bldLies]; simp only [Result.andThen]; rw [Oper.upon_value]
 go_wp2
 go_end0
 exact ⟨rfl,rfl⟩

theorem copyCheck (B b:Nat) (bs:List Value) (w:World) (h:Lib.IsBuilder 83 5 B b bs w) :
  Calls Tryz.prog 78 #[.pointer (some ⟨b,0,none⟩)] w fun e w'=>e=.returned (.tuple #[])∧(Lib.BuilderAt 83 5 B b (.pointer (some ⟨b,0,none⟩)) bs w'∧Below B w w'):=by
 rcases h with h | h
 ·refine (copyCheck_fresh b w h.cell0 h.shape h.frozen0).mono ?_
  rintro e w' ⟨rfl,rfl⟩; exact ⟨rfl,h.used _,(Below.refl B w).setCell (p:=⟨b,0,none⟩) h.1 _⟩
 ·refine (copyCheck_used b w h.cell0).mono ?_
  rintro e w' ⟨rfl,rfl⟩; exact ⟨rfl,h,Below.refl B _⟩

def lays169_ren:Go.Shelf.Ren:=⟨fun | 169=>34 | n=>n,fun | 70=>80 | 9=>9 | 0=>0 | 72=>83 | 37=>81 | 127=>135 | 3=>3 | 5=>5 | n=>n,fun | n=>n⟩
theorem lays169:Go.Proofs.Lays.n169 Tryz.prog lays169_ren:={
 mixed:=by kernel_rfl
 f169:=Tryz.func34.trans (congrArg some (by kernel_rfl))
 t0:=Tryz.underlying0
 a0:=Tryz.isAgg0
 z0:=Tryz.sizeOf0
 v0:=Tryz.zeroValue0
 t3:=Tryz.underlying3
 a3:=Tryz.isAgg3
 z3:=Tryz.sizeOf3
 v3:=Tryz.zeroValue3
 t9:=Tryz.underlying9
 a9:=Tryz.isAgg9
 z9:=Tryz.sizeOf9
 v9:=Tryz.zeroValue9
 t37:=Tryz.underlying81
 a37:=Tryz.isAgg81
 z37:=Tryz.sizeOf81
 v37:=Tryz.zeroValue81
 t70:=Tryz.underlying80
 a70:=Tryz.isAgg80
 z70:=Tryz.sizeOf80
 v70:=Tryz.zeroValue80
 t72:=Tryz.underlying83
 a72:=Tryz.isAgg83
 z72:=Tryz.sizeOf83
 v72:=Tryz.zeroValue83
 t127:=Tryz.underlying135
 a127:=Tryz.isAgg135
 z127:=Tryz.sizeOf135
 v127:=Tryz.zeroValue135 }
theorem extra169:Builder.Extra Tryz.prog lays169_ren:={
 sizeBuilder:=by kernel_rfl
 liesBuilder:=by kernel_rfl
 t5:=Tryz.underlying5
 a5:=Tryz.isAgg5
 z5:=Tryz.sizeOf5
 v5:=Tryz.zeroValue5
 infoByte:=by kernel_rfl
 cellsByte:=by kernel_rfl
 sizeByte:=by kernel_rfl
 neB5:=by decide }

theorem bldString (B b:Nat) (l:List UInt8) (w:World) (h:Lib.IsBuilder 83 5 B b (Lib.byteCells l) w) (hBw:B≤w.heap.size) :
  Calls Tryz.prog 34 #[.pointer (some ⟨b,0,none⟩)] w fun e w'=>e=.returned (.string ⟨l.toArray⟩)∧Below B w w':=Any.Builder_String_any lays169 extra169 B b l w h hBw

end Go.Proofs.YtfejagpjahoibaaGreatDoor
namespace Go.Proofs.YtfejagpjahoibaaGreatDoor
open Go.RowKit
open Go.Lib (hid byteCells)
/-- block b is a builder that holds l; it and its buffer lie in G -/
def BldF (G:Foot) (b:Nat) (l:List UInt8) (w:World):Prop :=
 G b∧∃ p v,(p=.pointer none∨p=.pointer (some ⟨b,0,none⟩))∧w.heap[b]? = some (.cells #[p,v] 83 (0,0))∧w.ownsRow 0 5 1 v l.length (byteCells l)∧v.ownBlock≠some b∧∀ k,v.ownBlock=some k→G k
theorem BldF.new (G:Foot) (w:World) (hG:G w.heap.size):BldF G w.heap.size [] (w.alloc (.cells #[.pointer none,.slice none 0 0] 83)) :=
 ⟨hG,_,_,Or.inl rfl,heap_alloc_new' _ _,World.ownsRow_nil _ _ _ _,by simp [Value.ownBlock],fun k h=>by simp [Value.ownBlock] at h⟩
theorem BldF.fr {G S:Foot} {b:Nat} {l:List UInt8} {w w':World} (h:BldF G b l w) (hf:Fr S w w') (hs:∀ k,k < w.heap.size→G k→¬ S k):BldF G b l w':=by
 obtain ⟨h1,p,v,h2,h3,h4,h5,h6⟩:=h; refine ⟨h1,p,v,h2,hf.keep h3 (hs b (lt_of_heap h3) h1),owns_move h4 (fun k hk=>hf.block k (h4.lt k hk).2 (hs k (h4.lt k hk).2 (h6 k hk))) (fun _ _=>Nat.zero_le _),h5,h6⟩
theorem BldF.below {G:Foot} {b:Nat} {l:List UInt8} {w w':World} (h:BldF G b l w) (hb:Below w.heap.size w w'):BldF G b l w':=h.fr (Fr.of_below hb (fun _=>False)) (fun _ _ _ h=>h)
theorem BldF.mono {G H:Foot} {b:Nat} {l:List UInt8} {w:World} (h:BldF G b l w) (hg:∀ k,k < w.heap.size→G k→H k):BldF H b l w:=by
 obtain ⟨h1,p,v,h2,h3,h4,h5,h6⟩:=h; exact ⟨hg b (lt_of_heap h3) h1,p,v,h2,h3,h4,h5,fun k hk=>hg k (h4.lt k hk).2 (h6 k hk)⟩
theorem BldF.bld {B b:Nat} {l:List UInt8} {w:World} (h:BldF (from_ B) b l w):Lib.IsBuilder 83 5 B b (byteCells l) w:=by
 obtain ⟨h1,p,v,h2,h3,h4,h5,h6⟩:=h; have:Lib.BuilderAt 83 5 B b p (byteCells l) w:=⟨h1,v,h3,by rw [Lib.byteCells_length]; exact owns_move h4 (fun _ _=>rfl) h6,h5⟩; rcases h2 with rfl | rfl
 ·exact Or.inl this
 ·exact Or.inr this
theorem bldF_check (G:Foot) (b:Nat) (l:List UInt8) (w:World) (h:BldF G b l w) :
  Calls Tryz.prog 78 #[.pointer (some ⟨b,0,none⟩)] w fun e w'=>e=.returned (.tuple #[])∧BldF G b l w'∧Fr G w w'∧∃ v,w'.heap[b]? = some (.cells #[.pointer (some ⟨b,0,none⟩),v] 83 (0,0)):=by
 obtain ⟨h1,p,v,h2,h3,h4,h5,h6⟩:=id h; rcases h2 with rfl | rfl
 ·refine (copyCheck_fresh b w ((cell_of h3).trans rfl) (by simp [World.shape?,h3]) (free_of h3)).mono ?_
  rintro e w' ⟨rfl,rfl⟩; have hs:=heap_setCell_same (i:=0) h3 (.pointer (some ⟨b,0,none⟩)); refine ⟨rfl,⟨h1,_,v,Or.inr rfl,hs,owns_move h4 (fun k hk=>heap_setCell_other _ (fun e=>h5 (e ▸ hk))) (fun _ _=>Nat.zero_le _),h5,h6⟩,(Fr.refl _ _).setCell (Or.inl h1) _,v,hs⟩
 ·refine (copyCheck_used b w ((cell_of h3).trans rfl)).mono ?_
  rintro e w' ⟨rfl,rfl⟩; exact ⟨rfl,h,Fr.refl _ _,v,h3⟩
set_option maxHeartbeats 2000000 in
set_option maxRecDepth 100000 in
theorem bldF_write (G:Foot) (B b:Nat) (l s:List UInt8) (w:World) (h:BldF G b l w) (hG:∀ k,w.heap.size≤k→G k) (hGB:∀ k,G k→B≤k) (hty:∀ k,B≤k→k < w.heap.size→¬ G k→∀ cur,w.heap[k]?≠some (.cells cur 5 (0,0))) (hBw:B≤w.heap.size) (hlen:l.length+s.length≤140737488355328) :
  Calls Tryz.prog 60 #[.pointer (some ⟨b,0,none⟩),sv s] w fun e w'=>e=.returned (.tuple #[.int .i64 s.length,.nilIface])∧BldF G b (l++s) w'∧Fr G w w':=by
 obtain ⟨i0,hi,hz0,hz1,hz2⟩:=info_parts bldByte; have hcall:=hid (bldF_check G b l w h); replace hG:=hid hG; replace hGB:=hid hGB; replace hty:=hid hty; clear h
 go_enter Tryz.func60,Tryz.ntmps60
 go_wp2_with fail
 refine hcall.out.mono ?_; rintro e w1 ⟨rfl,h1,hf1,v1,hv1⟩; obtain ⟨g1,p,v,g2,g3,g4,g5,g6⟩:=id h1
 have hpv:p=.pointer (some ⟨b,0,none⟩)∧v=v1:=by
  have:=g3.symm.trans hv1; simp at this; exact this
 obtain ⟨rfl,rfl⟩:=hpv; replace g4:w1.ownsRow B 5 1 v l.length (byteCells l):=owns_move g4 (fun _ _=>rfl) (fun k hk=>hGB.out k (g6 k hk)); have c0:w1.cell? ⟨b,0,none⟩=some (.pointer (some ⟨b,0,none⟩)):=(cell_of g3).trans rfl; have c1:w1.cell? ⟨b,1,none⟩=some v:=(cell_of g3).trans rfl; have hs1:=hf1.size; clear hcall hv1; replace h1:=hid h1; replace hf1:=hid hf1
 go_wp2_with (at_builtin; refine Lib.wpList_append_own_string _ rfl _ _ 81 9 rfl B 5 i0 Tryz.underlying81 Tryz.underlying9 hi hz0 hz1 hz2 _ _ _ rfl g4 ⟨s.toArray⟩ rfl ?c3 ?c4 ?c5 ?_)
 case c3=>exact (show l.length+s.length≤maxLen by unfold maxLen; omega)
 case c4=>exact (show l.length+s.length≤140737488355328 by omega)
 case c5=>exact Nat.le_trans hBw hs1
 intro v' w2 hown' hgrow hnil; have hlt:=lt_of_heap g3; have hb2:w2.heap[b]? = some (.cells #[.pointer (some ⟨b,0,none⟩),v] 83 (0,0)):=(hgrow.block b hlt (fun e=>g5 e.symm)).trans g3; have d0:w2.cell? ⟨b,0,none⟩=some (.pointer (some ⟨b,0,none⟩)):=(cell_of hb2).trans rfl; have d1:w2.cell? ⟨b,1,none⟩=some v:=(cell_of hb2).trans rfl; have f1:w2.frozen? ⟨b,1,none⟩=false:=free_of hb2
 have hown2:w2.ownsRow B 5 1 v' (l++s).length (byteCells (l++s)):=by
  rw [List.length_append,Lib.byteCells_append]; exact hown'
 have hne:v'.ownBlock≠some b:=Lib.ownBlock_ne hown2 hb2 (by decide); have hF2:Fr G w w2:=hf1.out.grown hgrow (fun k hk=>Or.inl (g6 k hk))
 have hv'G:∀ k,v'.ownBlock=some k→G k:=fun k hk=>by
  rcases Classical.em (G k) with h | h
  ·exact h
  ·exfalso
   have hkB:=(hown2.lt k hk).1
   have hkw:k < w.heap.size:=Nat.lt_of_not_le fun h9=>h (hG.out k h9)
   have e1:w2.heap[k]? = w1.heap[k]?:=hgrow.block k (Nat.lt_of_lt_of_le hkw hs1) (fun e=>h (g6 k e.symm)); have e2:w1.heap[k]? = w.heap[k]?:=hf1.out.block k hkw h; rcases hown2.2 with ⟨rfl,_⟩ | ⟨g,cap,cur,rfl,_,hg,_⟩
   ·cases hk
   ·simp [Value.ownBlock] at hk
    subst hk; exact hty.out _ hkB hkw h cur (by rw [← e2,← e1]; exact hg)
 obtain ⟨ao,cap,hv',-,-⟩:=owns_form hown2; subst hv'; have hset:=heap_setCell_same (i:=1) hb2 (.slice ao (l++s).length cap)
 have hfin:=hid (show BldF G b (l++s) (w2.setCell ⟨b,1,none⟩ (.slice ao (l++s).length cap))∧Fr G w (w2.setCell ⟨b,1,none⟩ (.slice ao (l++s).length cap)) from
  ⟨⟨g1,_,_,Or.inr rfl,hset,owns_move hown2 (fun k hk=>heap_setCell_other _ (fun e=>hne (e ▸ hk))) (fun _ _=>Nat.zero_le _),hne,hv'G⟩,hF2.setCell (Or.inl g1) _⟩)
 simp only [List.length_append] at hfin; clear hset hown2 hown' hgrow hF2 hv'G hne
 go_wp2
 go_ret2
 exact ⟨rfl,hfin.out.1,hfin.out.2⟩
end Go.Proofs.YtfejagpjahoibaaGreatDoor
