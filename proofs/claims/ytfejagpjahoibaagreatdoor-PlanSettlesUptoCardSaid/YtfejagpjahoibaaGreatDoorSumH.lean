/- SumH: Dgst, SumH, in one text. -/
import Derived.Test.YtfejagpjahoibaaGreatDoorSha3
import Derived.ChangeKeysEq
import Derived.Laws.StructEq
set_option linter.unusedVariables false
namespace Go.Proofs.YtfejagpjahoibaaGreatDoor
open Go.RowKit
open Go.Lib (hid byteCells)
theorem bc_at (D:List UInt8) {i:Nat} (h:i < D.length):(byteCells D).toArray[i]? = some (bv (D.getD i 0)):=by
 simp [byteCells,h]
end Go.Proofs.YtfejagpjahoibaaGreatDoor
set_option linter.unusedSimpArgs false
namespace Go.Proofs.YtfejagpjahoibaaGreatDoor
open Go.RowKit
open Go.Lib (hid byteCells)
def hexL:List UInt8:=[48,49,50,51,52,53,54,55,56,57,97,98,99,100,101,102]
def hexDg (k:Nat):UInt8:=hexL.getD k 0
def hx (l:List UInt8) (j:Nat):UInt8:=if j % 2=0 then hexDg ((l.getD (j / 2) 0).toNat / 16) else hexDg ((l.getD (j / 2) 0).toNat % 16)
def hexF (l:List UInt8):List UInt8:=(List.range 64).map (hx l)
def hxK (l:List UInt8) (n:Nat):Nat→UInt8:=fun j=>if j < n then hx l j else 0
theorem hxK_succ (l:List UInt8) (n:Nat):updB (hxK l n) n (hx l n)=hxK l (n+1):=by
 funext j
 unfold updB hxK; by_cases e:j=n
 ·subst e; rw [if_pos rfl,if_pos (by omega)]
 ·rw [if_neg e]
  by_cases h2:j < n
  ·rw [if_pos h2,if_pos (by omega)]
  ·rw [if_neg h2,if_neg (by omega)]
theorem idx32 (l:List UInt8) (hl:l.length=32) (w:World) (k:Nat) (hk:k < 32):(Instr.index 75 (.agg (byteCells l).toArray) (.int .i64 (k:Int))).run Tryz.prog w=.ok (bv (l.getD k 0)) w:=by
 have hu:Tryz.prog.underlying 75 = some (.array 32 5):=Tryz.underlying75
 have pk:Tryz.prog.plainKey 5 = true:=by kernel_rfl
 have p1:(part 5 (byteCells l).toArray k).run Tryz.prog w=.ok (bv (l.getD k 0)) w:=run_part_plain w pk (bc_at l (by omega))
 have hz:∀ w,(sizeOf 5).run Tryz.prog w=.ok 1 w:=fun _=>by kernel_rfl
 have h1:(k:Int) < 32:=by omega
 simp [Instr.index,run_underlying hu,asIntOf,h1,hz,p1,go_sem]; rw [if_pos hk]; have p3:=bc_at l (i:=k) (by omega); simp at p3; rw [p3]; simp [go_sem]
theorem hexDg_at (m:Nat) (h:m < 16) (h':m < ({ data:=#[48,49,50,51,52,53,54,55,56,57,97,98,99,100,101,102] }:ByteArray).size):({ data:=#[48,49,50,51,52,53,54,55,56,57,97,98,99,100,101,102] }:ByteArray)[m]'h'=hexDg m:=by
 match m,h with
 | 0,_=>rfl
 | 1,_=>rfl
 | 2,_=>rfl
 | 3,_=>rfl
 | 4,_=>rfl
 | 5,_=>rfl
 | 6,_=>rfl
 | 7,_=>rfl
 | 8,_=>rfl
 | 9,_=>rfl
 | 10,_=>rfl
 | 11,_=>rfl
 | 12,_=>rfl
 | 13,_=>rfl
 | 14,_=>rfl
 | 15,_=>rfl
 | n+16,h=>exact absurd h (by omega)
/-- the memory of Hex: the row of digits -/
structure XM (G B:Nat) (d:Nat→UInt8) (w0 w:World):Prop where
 dg:w.heap[G]? = some (.cells (bcells 64 d) 118 (0,0))
 bel:Below B w0 w
 far:B≤G
theorem XM.set {G B:Nat} {d:Nat→UInt8} {w0 w:World} (m:XM G B d w0 w) (k:Nat) (x:UInt8):XM G B (updB d k x) w0 (w.setCell ⟨G,k,none⟩ (bv x)) :=
 ⟨by rw [← bcells_set]; exact heap_setCell_same m.dg _,m.bel.setCell m.far _,m.far⟩
theorem XM.cell {G B:Nat} {d:Nat→UInt8} {w0 w:World} (m:XM G B d w0 w) {k:Nat} (hk:k < 64):w.cell? ⟨G,k,none⟩=some (bv (d k)):=(cell_of m.dg).trans (arr_at _ hk)
theorem hx_conv (W:World) (b c:Nat) (l:List UInt8) (h:W.heap[b]? = some (.cells (bcells 64 (hxK l 64)) 118 (0,0))) :
  (convert 81 9 (.slice (some ⟨b,0,none⟩) 64 c)).run Tryz.prog W=.ok (sv (hexF l)) W:=by
 have hlen:(hexF l).length=64:=by simp [hexF]
 have:=run_convert_bytes_back (P:=Tryz.prog) W 81 9 5 ⟨b,0,none⟩ c (hexF l) (by kernel_rfl) (by kernel_rfl) (by kernel_rfl) (fun j hj=>by
  rw [hlen] at hj
  have e2:(⟨b,0,none⟩:Addr).add j=⟨b,j,none⟩:=by
   simp only [Addr.add]; split <;> simp_all
  rw [e2,cell_of h,arr_at _ (by omega)]
  simp [hexF,hxK,hj])
 rwa [hlen] at this
set_option maxHeartbeats 2000000 in
set_option maxRecDepth 100000 in
theorem hex_any (l:List UInt8) (hl:l.length=32) (w:World):Calls Tryz.prog 26 #[dgv l] w fun e w'=>e=.returned (sv (hexF l))∧Below w.heap.size w w':=by
 obtain ⟨res,hres⟩:∃ res,res=hexF l:=⟨_,rfl⟩; rw [← hres]; replace hres:=hid hres; unfold dgv
 have hsz:(byteCells l).toArray.size=32:=by simp [Lib.byteCells_length,hl]
 have hix:=hid (fun W k hk=>idx32 l hl W k hk); generalize (byteCells l).toArray=C at *; replace hsz:=hid hsz
 go_enter Tryz.func26,Tryz.ntmps26
 have hrow:∀ o,((w.alloc (.cells C 75)).alloc o).heap[w.heap.size]? = some (.cells C 75 (0,0)):=fun o=>(Below.heap_alloc _ _ _ (by simp)).trans (heap_alloc_new' _ _)
 replace hrow:=hid hrow
 go_wp2_with (first | (refine wpList_load_row rfl 75 (.tmp 1) rfl w.heap.size rfl 75 _ (0,0) _ (hrow.out _) Tryz.underlying75 rfl (by rw [hsz.out]; kernel_rfl) ?_))
 go_loopw [7] (fun v wr=>∃ k:Nat,v=.int .i64 k∧k≤32∧Hid (XM (w.heap.size+1) w.heap.size (hxK l (2 * k)) w wr)) (fun i _=>32 - (intOf i).toNat)
 case atStart =>
  refine ⟨0,rfl,Nat.zero_le _,hid ⟨?_,((Below.refl _ _).alloc (Nat.le_refl _) _).alloc (by simp) _,by omega⟩⟩; have:=heap_alloc_new' (w.alloc (.cells C 75)) (.cells (bcells 64 (hxK l (2 * 0))) 118 (0,0))
  have e:(w.alloc (.cells C 75)).heap.size=w.heap.size+1:=by simp
  rw [e] at this; exact this
 case round =>
  obtain ⟨k,rfl,hk,hG⟩:=hrel; clear hrow hsz; by_cases hlt:k < 32
  ·have q1:decide ((k:Int) < 32)=true:=decide_eq_true (by omega)
   have q1':decide (k < 32)=true:=decide_eq_true hlt; have hixw:=hix.out wr k hlt; obtain ⟨x,hx0⟩:∃ x,x=l.getD k 0:=⟨_,rfl⟩
   have ha:x.toNat / 16 < 16:=by have:=x.toNat_lt; omega
   have hb:x.toNat % 16 < 16:=by omega
   obtain ⟨i,hi⟩:∃ i,i=x.toNat / 16:=⟨_,rfl⟩; obtain ⟨j,hj⟩:∃ j,j=x.toNat % 16:=⟨_,rfl⟩; obtain ⟨p,hp⟩:∃ p,p=2 * k:=⟨_,rfl⟩; rw [← hi] at ha; rw [← hj] at hb; have d1:=hexDg_at i ha (show i < 16 from ha); have d2:=hexDg_at j hb (show j < 16 from hb)
   have c1:(x.toNat:Int) / 16=(i:Int):=by omega
   have c2:(x.toNat:Int) % 16=(j:Int):=by omega
   have b1:(0:Int)≤(i:Int)∧(i:Int) < 16:=by omega
   have b2:(0:Int)≤(j:Int)∧(j:Int) < 16:=by omega
   have e1:IntKind.i64.wrap (2 * (k:Int))=(p:Int):=by rw [i64_wrap_id _ (by omega) (by omega)]; omega
   have e2:IntKind.i64.wrap ((p:Int)+1)=((p+1:Nat):Int):=by rw [i64_wrap_id _ (by omega) (by omega)]; omega
   have l0:(0:Int)≤(p:Int):=by omega
   have l1:(p:Int) < 64:=by omega
   have l2:(p:Int)+1 < 64:=by omega
   have l3:(0:Int)≤(p:Int)+1:=by omega
   rw [← hp] at hG; have f1:wr.frozen? ⟨w.heap.size+1,p,none⟩=false:=free_of hG.out.dg; have g1:=hG.out.cell (k:=p) (by omega); have hs1:=hG.out.set p (hexDg i); have f2:=free_of hs1.dg (i:=p+1); have g2:=hs1.cell (k:=p+1) (by omega); have hs2:=hs1.set (p+1) (hexDg j)
   have hx1:hx l p=hexDg i:=by unfold hx; rw [if_pos (by omega),show p / 2=k by omega,← hx0,← hi]
   have hx2:hx l (p+1)=hexDg j:=by unfold hx; rw [if_neg (by omega),show (p+1) / 2=k by omega,← hx0,← hj]
   rw [← hx1,hxK_succ,← hx2,hxK_succ,hx1,hx2,show p+1+1=2 * (k+1) by omega] at hs2; replace hs2:=hid hs2; clear hs1 hG; replace hx0:=hid hx0; replace hi:=hid hi; replace hj:=hid hj; replace hp:=hid hp; clear hx1 hx2; rw [← hx0.out] at hixw
   go_wp2_with fail
   refine ⟨⟨k+1,rfl,by omega,hs2⟩,by simp [intOf]; omega⟩
  ·have hk32:k=32:=by omega
   subst hk32
   have q1:decide ((((32:Nat):Nat):Int) < 32)=false:=by decide
   clear hlt hk hix
   have hcv:=fun c=>hx_conv wr (w.heap.size+1) c l hG.out.dg
   rw [← hres.out] at hcv; have hbel:=hid hG.out.bel; have hdg:=hid hG.out.dg; clear hG
   go_wp2_with fail
   exact bodyPost_ret (by simp [results,Tryz.results26,go_sem]) rfl ⟨rfl,hbel.out⟩
end Go.Proofs.YtfejagpjahoibaaGreatDoor
