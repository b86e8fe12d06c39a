/- TextW: CodeS, CodeW1, CodeW2, TextW, in one text. -/
import Derived.Test.YtfejagpjahoibaaGreatDoorRel
import Derived.Test.YtfejagpjahoibaaGreatDoorChecked
set_option linter.unusedVariables false
namespace Go.Proofs.YtfejagpjahoibaaGreatDoor

def vencF:Nat→Nat→List UInt8
 | 0,_=>[]
 | f+1,n=>if n < 128 then [UInt8.ofNat n] else UInt8.ofNat (n % 128+128)::vencF f (n / 128)
/-- the varint of a natural number below 2^63 -/
def venc (n:Nat):List UInt8:=vencF 9 n
def nenc (n:Int):List UInt8:=if n < 0 then [] else venc n.toNat
def zig (n:Int):Int:=if n < 0 then -2 * n - 1 else 2 * n
def inR (n:Int):Bool:=decide (-1152921504606846976≤n) && decide (n≤1152921504606846976)
def ienc (n:Int):List UInt8:=if inR n then venc (zig n).toNat else []
def tenc (s:List UInt8):List UInt8:=venc s.length++s
def bufOf (pre:List UInt8):Array Value:=(pre.map (fun b=>Value.int .u8 b.toNat)++List.replicate (9 - pre.length) (Value.int .u8 0)).toArray
theorem buf_at (pre:List UInt8) (h:pre.length≤8):(bufOf pre)[pre.length]? = some (Value.int .u8 0):=by
 simp [bufOf,List.getElem?_append,List.getElem?_replicate]; omega
theorem buf_set (pre:List UInt8) (h:pre.length≤8) (v:Int) (b:UInt8) (hb:v=b.toNat):(bufOf pre).setIfInBounds pre.length (Value.int .u8 v)=bufOf (pre++[b]):=by
 subst hb; obtain ⟨m,hm⟩:∃ m,9 - pre.length=m+1:=⟨8 - pre.length,by omega⟩; simp only [bufOf,List.setIfInBounds_toArray,hm,List.replicate_succ,List.length_append,List.length_cons,List.length_nil,List.map_append]; rw [List.set_append_right _ _ (by simp)]; simp; omega

theorem vencF_bound:∀ f n,n < 128 ^ f→0 < f→1≤(vencF f n).length∧(vencF f n).length≤f:=by
 intro f
 induction f with
 | zero=>intro n _ h; omega
 | succ f ih =>
  intro n hn _; unfold vencF; split
  ·simp
  ·rename_i h
   have h2:n / 128 < 128 ^ f:=by rw [Nat.div_lt_iff_lt_mul (by decide)]; rw [Nat.pow_succ] at hn; exact hn
   have hf:0 < f:=by
    rcases Nat.eq_zero_or_pos f with rfl | hf
    ·simp at h2; omega
    ·exact hf
   have:=ih (n / 128) h2 hf; simp; omega
theorem venc_bound (n:Nat) (h:n < 9223372036854775808):1≤(venc n).length∧(venc n).length≤9 :=
 vencF_bound 9 n (by simpa using h) (by decide)
theorem ienc_bound (n:Int):(ienc n).length≤9:=by
 unfold ienc inR; split
 ·rename_i h; simp at h
  refine (venc_bound _ ?_).2; unfold zig; split <;> omega
 ·simp
end Go.Proofs.YtfejagpjahoibaaGreatDoor
namespace Go.Proofs.YtfejagpjahoibaaGreatDoor
open Go.RowKit
open Go.Lib (hid IsBuilder byteCells)

theorem conv_buf (w:World) (pre:List UInt8) (c:UInt8):(convert 81 9 (.slice (some ⟨w.heap.size,0,none⟩) (pre.length+1) 9)).run Tryz.prog (w.alloc (.cells (bufOf (pre++[c])) 125))=.ok (.string ⟨(pre++[c]).toArray⟩) (w.alloc (.cells (bufOf (pre++[c])) 125)):=by
 have e:pre.length+1=(pre++[c]).length:=by simp
 rw [e]; refine run_convert_bytes_back (P:=Tryz.prog) _ 81 9 5 _ 9 _ (by kernel_rfl) (by kernel_rfl) (by kernel_rfl) ?_; intro j hj
 have e2:(⟨w.heap.size,0,none⟩:Addr).add j=⟨w.heap.size,j,none⟩:=by
  simp only [Addr.add,Nat.zero_add]; split <;> simp_all
 rw [e2,World.cell?_alloc_at _ _ _ _ rfl]; simp only [bufOf,List.getElem?_toArray,List.getElem?_append,List.length_map,hj,if_true,List.getElem?_map,List.getElem?_eq_getElem hj]; rfl

set_option maxHeartbeats 1000000 in
set_option maxRecDepth 100000 in
theorem num_pos (n:Int) (w:World) (h0:0≤n) (h1:n≤9223372036854775807) :
  Calls Tryz.prog 29 #[.int .i64 n] w fun e w'=>e=.returned (.string ⟨(venc n.toNat).toArray⟩)∧Below w.heap.size w w':=by
 have hd:decide (n < 0)=false:=by simp; omega
 have hal:Tryz.prog.arrayLen 125 = 9:=by kernel_rfl
 go_enter Tryz.func29,Tryz.ntmps29
 go_wp2
 go_loopw [0,4] (fun m i wr=>∃ (q:Int) (pre:List UInt8),wr=w.alloc (.cells (bufOf pre) 125)∧m=.int .i64 q∧i=.int .i64 (pre.length:Int)∧0≤q∧q≤9223372036854775807∧pre.length≤8∧venc n.toNat=pre++vencF (9 - pre.length) q.toNat∧q < 128 ^ (9 - pre.length)) (fun _ i _=>9 - (intOf i).toNat)
 case atStart=>exact ⟨n,[],rfl,rfl,rfl,by omega,by omega,by simp,rfl,by simp; omega⟩
 case round =>
  obtain ⟨q,pre,rfl,rfl,rfl,h0,h1,h2,h3,h4⟩:=hrel; have H3:=Go.Lib.hid h3; clear h3; have H4:=Go.Lib.hid h4; clear h4; have hat:=buf_at pre h2
  have h8:¬ q < 128→pre.length≤7:=fun hq=>by
   have:=H4.out; rcases Nat.lt_or_ge pre.length 8 with h | h
   ·omega
   ·have e:pre.length=8:=by omega
    rw [e] at this; simp at this; omega
  by_cases hq:q < 128
  ·clear h8
   obtain ⟨c,hc⟩:∃ c:UInt8,q=c.toNat:=⟨UInt8.ofNat q.toNat,by simp; omega⟩; have hset:=buf_set pre h2 q c hc
   have hsl:∀ W,(Instr.sliceAt 125 (.pointer (some ⟨w.heap.size,0,none⟩)) none (some (.int .i64 ((pre.length:Int)+1))) none).run Tryz.prog W=.ok (.slice (some ⟨w.heap.size,0,none⟩) (pre.length+1) 9) W:=by
    intro W; rw [run_sliceAt_array_h W 125 ⟨w.heap.size,0,none⟩ (by kernel_rfl) .i64 ((pre.length:Int)+1) (by omega) (by rw [hal]; omega)]
    have hz:(sizeOf (Tryz.prog.elem 125)).run Tryz.prog W=.ok 1 W:=by kernel_rfl
    rw [hz,hal]; simp [Result.andThen,slicedAt,Addr.add]
   have hcv:=conv_buf w pre c
   have hv:venc n.toNat=pre++[c]:=by
    rw [H3.out]; obtain ⟨m,hm⟩:∃ m,9 - pre.length=m+1:=⟨8 - pre.length,by omega⟩; rw [hm,vencF,if_pos (by omega)]; subst hc; simp
   have Hv:=hid hv; have Hc:=hid hc; clear hv hc H3 H4
   go_wp2
   go_ret; refine ⟨?_,(Below.refl _ _).alloc (Nat.le_refl _) _⟩; rw [Hv.out]; rfl
  ·have h7:=h8 hq
   clear h8
   obtain ⟨c,hc⟩:∃ c:UInt8,bits BinOp.or IntKind.i64 (bits BinOp.and IntKind.i64 q 127) 128 % 256=c.toNat∧c=UInt8.ofNat (q.toNat % 128+128) :=
    ⟨UInt8.ofNat (q.toNat % 128+128),by rw [and127_or128 q h0 (by omega)]; simp; omega,rfl⟩
   have hset:=buf_set pre h2 _ c hc.1; have Hc:=hid hc.2; clear hc
   go_wp2
   refine ⟨⟨q / 128,pre++[c],rfl,rfl,by simp,by omega,by omega,by simp; omega,?_,?_⟩,by simp [intOf]; omega⟩
   ·rw [H3.out]
    obtain ⟨m,hm⟩:∃ m,9 - pre.length=m+1:=⟨8 - pre.length,by omega⟩
    have hm2:9 - (pre++[c]).length=m:=by simp; omega
    rw [hm,hm2,vencF,if_neg (by omega),Hc.out]
    have:(q / 128).toNat=q.toNat / 128:=by omega
    simp [this]
   ·have h:=H4.out
    obtain ⟨m,hm⟩:∃ m,9 - pre.length=m+1:=⟨8 - pre.length,by omega⟩
    have hm2:9 - (pre++[c]).length=m:=by simp; omega
    rw [hm,Int.pow_succ] at h; rw [hm2]; omega

theorem num_neg (n:Int) (w:World) (h0:n < 0) :
  Calls Tryz.prog 29 #[.int .i64 n] w fun e w'=>e=.returned (.string ⟨#[]⟩)∧Below w.heap.size w w':=by
 have hd:decide (n < 0)=true:=by simp; omega
 go_enter Tryz.func29,Tryz.ntmps29
 go_wp2
 go_ret; exact ⟨rfl,Below.refl _ _⟩
theorem num_any (n:Int) (w:World) (h1:n≤9223372036854775807) :
  Calls Tryz.prog 29 #[.int .i64 n] w fun e w'=>e=.returned (.string ⟨(nenc n).toArray⟩)∧Below w.heap.size w w':=by
 unfold nenc; split
 ·exact num_neg n w ‹_›
 ·exact num_pos n w (by omega) h1
end Go.Proofs.YtfejagpjahoibaaGreatDoor
namespace Go.Proofs.YtfejagpjahoibaaGreatDoor
open Go.RowKit
open Go.Lib (hid IsBuilder byteCells)

theorem int_any (n:Int) (w:World) :
  Calls Tryz.prog 28 #[.int .i64 n] w fun e w'=>e=.returned (.string ⟨(ienc n).toArray⟩)∧Below w.heap.size w w':=by
 by_cases h1:n < -1152921504606846976
 ·have hv:ienc n=[]:=by simp [ienc,inR]; omega
  rw [hv]
  go_enter Tryz.func28,Tryz.ntmps28
  go_wp2
  go_ret; exact ⟨rfl,Below.refl _ _⟩
 by_cases h2:1152921504606846976 < n
 ·have hv:ienc n=[]:=by simp [ienc,inR]; omega
  rw [hv]
  go_enter Tryz.func28,Tryz.ntmps28
  go_wp2
  go_ret; exact ⟨rfl,Below.refl _ _⟩
 by_cases h3:n < 0
 ·have hv:ienc n=venc (-2 * n - 1).toNat:=by
   unfold ienc zig inR; rw [if_pos h3,if_pos (by simp; omega)]
  rw [hv]
  go_enter Tryz.func28,Tryz.ntmps28
  go_wp2_with (go_at_call 29; refine (num_pos _ _ (by omega) (by omega)).mono ?_; rintro e w' ⟨rfl,hb⟩)
  go_ret; exact ⟨by simp,hb⟩
 ·have hv:ienc n=venc (2 * n).toNat:=by
   unfold ienc zig inR; rw [if_neg h3,if_pos (by simp; omega)]
  rw [hv]
  go_enter Tryz.func28,Tryz.ntmps28
  go_wp2_with (go_at_call 29; refine (num_pos _ _ (by omega) (by omega)).mono ?_; rintro e w' ⟨rfl,hb⟩)
  go_ret; exact ⟨by simp,hb⟩
end Go.Proofs.YtfejagpjahoibaaGreatDoor
namespace Go.Proofs.YtfejagpjahoibaaGreatDoor
open Go.RowKit
open Go.Lib (hid IsBuilder byteCells)

theorem text_any (s:List UInt8) (w:World) (hs:s.length≤140737488355328) :
  Calls Tryz.prog 30 #[.string ⟨s.toArray⟩] w fun e w'=>e=.returned (.string ⟨(tenc s).toArray⟩)∧Below w.heap.size w w':=by
 have hb2:=(venc_bound s.length (by omega)).2
 go_enter Tryz.func30,Tryz.ntmps30
 go_wp2_with (go_at_call 29; refine (num_pos _ _ (by omega) (by omega)).mono ?_; rw [Int.toNat_natCast]; rintro e w' ⟨rfl,hb⟩)
 go_ret; exact ⟨by simp [tenc,ByteArray.mk_append_mk],hb⟩
end Go.Proofs.YtfejagpjahoibaaGreatDoor
