/- Sha1: U32, Sha1, in one text. -/
import Derived.Test.YtfejagpjahoibaaGreatDoorChecked
import Derived.Test.YtfejagpjahoibaaGreatDoorRel
import Derived.Laws.BitsAllLaws
set_option linter.unusedVariables false
namespace Go.Proofs.YtfejagpjahoibaaGreatDoor
open Go.RowKit
abbrev wv (c:UInt32):Value:=.int .u32 (c.toNat:Int)
/-! the operations under names of their own, so that no rewriting opens them -/
def xW (a b:UInt32):UInt32:=a ^^^ b
def aW (a b:UInt32):UInt32:=a &&& b
def oW (a b:UInt32):UInt32:=a ||| b
def nW (a:UInt32):UInt32:=xW 4294967295 a
def addW (a b:UInt32):UInt32:=a+b
/-- a / 2^n -/
def divW (a:UInt32) (n:Nat):UInt32:=UInt32.ofNat (a.toNat / n)
/-- a · 2^n -/
def mulW (a:UInt32) (n:Nat):UInt32:=UInt32.ofNat (a.toNat * n)
def byteW (c:UInt8):UInt32:=UInt32.ofNat c.toNat
def lowW (c:UInt32):UInt8:=UInt8.ofNat (c.toNat % 256)
theorem u32_lt (c:UInt32):c.toNat < 4294967296:=c.toNat_lt
theorem ux32 (a b:UInt32):bits .xor .u32 (a.toNat:Int) (b.toNat:Int)=((xW a b).toNat:Int):=by
 rw [u32_xor_nat _ _ (u32_lt a) (u32_lt b)]; unfold xW; rw [UInt32.toNat_xor]
theorem ua32 (a b:UInt32):bits .and .u32 (a.toNat:Int) (b.toNat:Int)=((aW a b).toNat:Int):=by
 rw [u32_and_nat _ _ (u32_lt a) (u32_lt b)]; unfold aW; rw [UInt32.toNat_and]
theorem uo32 (a b:UInt32):bits .or .u32 (a.toNat:Int) (b.toNat:Int)=((oW a b).toNat:Int):=by
 rw [u32_or_nat _ _ (u32_lt a) (u32_lt b)]; unfold oW; rw [UInt32.toNat_or]
theorem un32 (a:UInt32):bits .xor .u32 IntKind.u32.max (a.toNat:Int)=((nW a).toNat:Int):=ux32 4294967295 a
theorem uadd32 (a b:UInt32):((a.toNat:Int)+(b.toNat:Int)) % 4294967296=((addW a b).toNat:Int):=by
 unfold addW; rw [UInt32.toNat_add]; omega
theorem udiv32 (a:UInt32) (n:Nat):(a.toNat:Int) / (n:Int)=((divW a n).toNat:Int):=by
 have h:=u32_lt a; have h2:=Nat.div_le_self a.toNat n; unfold divW; rw [UInt32.toNat_ofNat_of_lt' (show a.toNat / n < UInt32.size by unfold UInt32.size; omega)]; simp
theorem umul32 (a:UInt32) (n:Nat):(a.toNat:Int) * (n:Int) % 4294967296=((mulW a n).toNat:Int):=by
 unfold mulW; rw [UInt32.toNat_ofNat']; simp
theorem ubyte32 (c:UInt8):(c.toNat:Int)=((byteW c).toNat:Int):=by
 have:=c.toNat_lt; unfold byteW; rw [UInt32.toNat_ofNat_of_lt' (show c.toNat < UInt32.size by unfold UInt32.size; omega)]
theorem ulow32 (c:UInt32):(c.toNat:Int) % 256=((lowW c).toNat:Int):=by
 unfold lowW; simp
/-- n cells, as a function lists them -/
def arrW (n:Nat) (f:Nat→Value):Array Value:=((List.range n).map f).toArray
theorem arr_at {n:Nat} (f:Nat→Value) {k:Nat} (h:k < n):(arrW n f)[k]? = some (f k):=by
 simp [arrW,h]
theorem arr_size (n:Nat) (f:Nat→Value):(arrW n f).size=n:=by simp [arrW]
theorem arr_set {n:Nat} (f:Nat→Value) (k:Nat) (v:Value) (g:Nat→Value) (h1:g k=v) (h2:∀ j,j < n→j≠k→g j=f j):(arrW n f).setIfInBounds k v=arrW n g:=by
 apply Array.ext_getElem?; intro j; rw [Array.getElem?_setIfInBounds]; by_cases hj:j < n
 ·rw [arr_at g hj]
  by_cases e:k=j
  ·subst e; rw [if_pos rfl,if_pos (by rw [arr_size]; exact hj),h1]
  ·rw [if_neg e,arr_at f hj,h2 j hj (fun e2=>e e2.symm)]
 ·have e1:(arrW n g)[j]? = none:=Array.getElem?_eq_none (by rw [arr_size]; omega)
  have e2:(arrW n f)[j]? = none:=Array.getElem?_eq_none (by rw [arr_size]; omega); rw [e1,e2]; split
  ·split
   ·rename_i h3 h4; rw [arr_size] at h4; omega
   ·rfl
  ·rfl
end Go.Proofs.YtfejagpjahoibaaGreatDoor
namespace Go.Proofs.YtfejagpjahoibaaGreatDoor
open Go.RowKit
open Go.Lib (hid)
/-- a rotated to the right by k -/
def rotW (a:UInt32) (k:Nat):UInt32:=oW (mulW a (2 ^ (32 - k))) (divW a (2 ^ k))
theorem rot7 (x:UInt32) (w:World):Calls Tryz.prog 74 #[wv x,.int .i64 (-7)] w fun e w'=>e=.returned (wv (rotW x 7))∧w=w':=by
 have hs:bits BinOp.and IntKind.u64 (IntKind.u64.wrap (-7)) 31=25:=by decide +kernel
 have hm:(x.toNat:Int) * 33554432 % 4294967296=((mulW x 33554432).toNat:Int):=umul32 x 33554432; have hd:(x.toNat:Int) / 128=((divW x 128).toNat:Int):=udiv32 x 128; have ho:=uo32 (mulW x 33554432) (divW x 128); have hr:rotW x 7=oW (mulW x 33554432) (divW x 128):=rfl; rw [hr]; clear hr
 go_enter Tryz.func74,Tryz.ntmps74
 go_wp2_with fail
 go_ret; exact ⟨rfl,rfl⟩
theorem rot18 (x:UInt32) (w:World):Calls Tryz.prog 74 #[wv x,.int .i64 (-18)] w fun e w'=>e=.returned (wv (rotW x 18))∧w=w':=by
 have hs:bits BinOp.and IntKind.u64 (IntKind.u64.wrap (-18)) 31=14:=by decide +kernel
 have hm:(x.toNat:Int) * 16384 % 4294967296=((mulW x 16384).toNat:Int):=umul32 x 16384; have hd:(x.toNat:Int) / 262144=((divW x 262144).toNat:Int):=udiv32 x 262144; have ho:=uo32 (mulW x 16384) (divW x 262144); have hr:rotW x 18=oW (mulW x 16384) (divW x 262144):=rfl; rw [hr]; clear hr
 go_enter Tryz.func74,Tryz.ntmps74
 go_wp2_with fail
 go_ret; exact ⟨rfl,rfl⟩
theorem rot17 (x:UInt32) (w:World):Calls Tryz.prog 74 #[wv x,.int .i64 (-17)] w fun e w'=>e=.returned (wv (rotW x 17))∧w=w':=by
 have hs:bits BinOp.and IntKind.u64 (IntKind.u64.wrap (-17)) 31=15:=by decide +kernel
 have hm:(x.toNat:Int) * 32768 % 4294967296=((mulW x 32768).toNat:Int):=umul32 x 32768; have hd:(x.toNat:Int) / 131072=((divW x 131072).toNat:Int):=udiv32 x 131072; have ho:=uo32 (mulW x 32768) (divW x 131072); have hr:rotW x 17=oW (mulW x 32768) (divW x 131072):=rfl; rw [hr]; clear hr
 go_enter Tryz.func74,Tryz.ntmps74
 go_wp2_with fail
 go_ret; exact ⟨rfl,rfl⟩
theorem rot19 (x:UInt32) (w:World):Calls Tryz.prog 74 #[wv x,.int .i64 (-19)] w fun e w'=>e=.returned (wv (rotW x 19))∧w=w':=by
 have hs:bits BinOp.and IntKind.u64 (IntKind.u64.wrap (-19)) 31=13:=by decide +kernel
 have hm:(x.toNat:Int) * 8192 % 4294967296=((mulW x 8192).toNat:Int):=umul32 x 8192; have hd:(x.toNat:Int) / 524288=((divW x 524288).toNat:Int):=udiv32 x 524288; have ho:=uo32 (mulW x 8192) (divW x 524288); have hr:rotW x 19=oW (mulW x 8192) (divW x 524288):=rfl; rw [hr]; clear hr
 go_enter Tryz.func74,Tryz.ntmps74
 go_wp2_with fail
 go_ret; exact ⟨rfl,rfl⟩
theorem rot6 (x:UInt32) (w:World):Calls Tryz.prog 74 #[wv x,.int .i64 (-6)] w fun e w'=>e=.returned (wv (rotW x 6))∧w=w':=by
 have hs:bits BinOp.and IntKind.u64 (IntKind.u64.wrap (-6)) 31=26:=by decide +kernel
 have hm:(x.toNat:Int) * 67108864 % 4294967296=((mulW x 67108864).toNat:Int):=umul32 x 67108864; have hd:(x.toNat:Int) / 64=((divW x 64).toNat:Int):=udiv32 x 64; have ho:=uo32 (mulW x 67108864) (divW x 64); have hr:rotW x 6=oW (mulW x 67108864) (divW x 64):=rfl; rw [hr]; clear hr
 go_enter Tryz.func74,Tryz.ntmps74
 go_wp2_with fail
 go_ret; exact ⟨rfl,rfl⟩
theorem rot11 (x:UInt32) (w:World):Calls Tryz.prog 74 #[wv x,.int .i64 (-11)] w fun e w'=>e=.returned (wv (rotW x 11))∧w=w':=by
 have hs:bits BinOp.and IntKind.u64 (IntKind.u64.wrap (-11)) 31=21:=by decide +kernel
 have hm:(x.toNat:Int) * 2097152 % 4294967296=((mulW x 2097152).toNat:Int):=umul32 x 2097152; have hd:(x.toNat:Int) / 2048=((divW x 2048).toNat:Int):=udiv32 x 2048; have ho:=uo32 (mulW x 2097152) (divW x 2048); have hr:rotW x 11=oW (mulW x 2097152) (divW x 2048):=rfl; rw [hr]; clear hr
 go_enter Tryz.func74,Tryz.ntmps74
 go_wp2_with fail
 go_ret; exact ⟨rfl,rfl⟩
theorem rot25 (x:UInt32) (w:World):Calls Tryz.prog 74 #[wv x,.int .i64 (-25)] w fun e w'=>e=.returned (wv (rotW x 25))∧w=w':=by
 have hs:bits BinOp.and IntKind.u64 (IntKind.u64.wrap (-25)) 31=7:=by decide +kernel
 have hm:(x.toNat:Int) * 128 % 4294967296=((mulW x 128).toNat:Int):=umul32 x 128; have hd:(x.toNat:Int) / 33554432=((divW x 33554432).toNat:Int):=udiv32 x 33554432; have ho:=uo32 (mulW x 128) (divW x 33554432); have hr:rotW x 25=oW (mulW x 128) (divW x 33554432):=rfl; rw [hr]; clear hr
 go_enter Tryz.func74,Tryz.ntmps74
 go_wp2_with fail
 go_ret; exact ⟨rfl,rfl⟩
theorem rot2 (x:UInt32) (w:World):Calls Tryz.prog 74 #[wv x,.int .i64 (-2)] w fun e w'=>e=.returned (wv (rotW x 2))∧w=w':=by
 have hs:bits BinOp.and IntKind.u64 (IntKind.u64.wrap (-2)) 31=30:=by decide +kernel
 have hm:(x.toNat:Int) * 1073741824 % 4294967296=((mulW x 1073741824).toNat:Int):=umul32 x 1073741824; have hd:(x.toNat:Int) / 4=((divW x 4).toNat:Int):=udiv32 x 4; have ho:=uo32 (mulW x 1073741824) (divW x 4); have hr:rotW x 2=oW (mulW x 1073741824) (divW x 4):=rfl; rw [hr]; clear hr
 go_enter Tryz.func74,Tryz.ntmps74
 go_wp2_with fail
 go_ret; exact ⟨rfl,rfl⟩
theorem rot13 (x:UInt32) (w:World):Calls Tryz.prog 74 #[wv x,.int .i64 (-13)] w fun e w'=>e=.returned (wv (rotW x 13))∧w=w':=by
 have hs:bits BinOp.and IntKind.u64 (IntKind.u64.wrap (-13)) 31=19:=by decide +kernel
 have hm:(x.toNat:Int) * 524288 % 4294967296=((mulW x 524288).toNat:Int):=umul32 x 524288; have hd:(x.toNat:Int) / 8192=((divW x 8192).toNat:Int):=udiv32 x 8192; have ho:=uo32 (mulW x 524288) (divW x 8192); have hr:rotW x 13=oW (mulW x 524288) (divW x 8192):=rfl; rw [hr]; clear hr
 go_enter Tryz.func74,Tryz.ntmps74
 go_wp2_with fail
 go_ret; exact ⟨rfl,rfl⟩
theorem rot22 (x:UInt32) (w:World):Calls Tryz.prog 74 #[wv x,.int .i64 (-22)] w fun e w'=>e=.returned (wv (rotW x 22))∧w=w':=by
 have hs:bits BinOp.and IntKind.u64 (IntKind.u64.wrap (-22)) 31=10:=by decide +kernel
 have hm:(x.toNat:Int) * 1024 % 4294967296=((mulW x 1024).toNat:Int):=umul32 x 1024; have hd:(x.toNat:Int) / 4194304=((divW x 4194304).toNat:Int):=udiv32 x 4194304; have ho:=uo32 (mulW x 1024) (divW x 4194304); have hr:rotW x 22=oW (mulW x 1024) (divW x 4194304):=rfl; rw [hr]; clear hr
 go_enter Tryz.func74,Tryz.ntmps74
 go_wp2_with fail
 go_ret; exact ⟨rfl,rfl⟩
end Go.Proofs.YtfejagpjahoibaaGreatDoor
