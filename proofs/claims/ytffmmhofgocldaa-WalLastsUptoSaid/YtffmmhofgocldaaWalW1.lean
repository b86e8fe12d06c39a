/- wal: record. -/
import Derived.Test.YtffmmhofgocldaaWalM
import Derived.Test.YtffmmhofgocldaaPressW6
import Derived.Deep.RegionHeld3
import Derived.StillTailTactics
set_option linter.unusedVariables false
namespace Go.Proofs.Ytffmmhofgocldaa
open Go.RowKit
open Go.Lib (hid byteCells)
theorem conv4 (W : World) (b : Nat) (l : List UInt8) (T : TypeId) (hl : l.length = 4) (h : W.heap[b]? = some (.cells (byteCells l).toArray T (0, 0))) :
    (convert 57 9 (.slice (some ⟨b, 0, none⟩) 4 4)).run Try.prog W = .ok (sv l) W := by
  have := run_convert_bytes_back (P := Try.prog) W 57 9 5 ⟨b, 0, none⟩ 4 l (by kernel_rfl) (by kernel_rfl) (by kernel_rfl) (fun j hj => by
    have e2 : (⟨b, 0, none⟩ : Addr).add j = ⟨b, j, none⟩ := by
      simp only [Addr.add, Nat.zero_add]; split <;> simp_all
    rw [e2, cell_of h]
    simp [Lib.byteCells, hj])
  rwa [hl] at this
set_option maxHeartbeats 2000000 in
set_option maxRecDepth 100000 in
theorem record_any (p : List UInt8) (w : World) (hp : p.length ≤ 1048576) :
    Calls Try.prog 38 #[sv p] w fun e w' => e = .returned (sv (recF p)) ∧ Below w.heap.size w w' := by
  have hpk := hid (pack_any p w (by omega))
  have hpl := pack_le p
  have hrec : recF p = venc (packF p).length ++ le4 (crcF (packF p)) ++ packF p := rfl
  generalize recF p = res at *
  generalize packF p = P at *
  have hcr := hid (fun w => crc_any P w (by omega))
  generalize crcF P = c at *
  have hle : le4 c = [lowW c, lowW (divW c 256), lowW (divW c 65536), lowW (divW c 16777216)] := rfl
  have l0 := ulow32 c
  have d1 : (c.toNat : Int) / 256 = ((divW c 256).toNat : Int) := udiv32 c 256
  have l1 := ulow32 (divW c 256)
  have d2 : (c.toNat : Int) / 65536 = ((divW c 65536).toNat : Int) := udiv32 c 65536
  have l2 := ulow32 (divW c 65536)
  have d3 : (c.toNat : Int) / 16777216 = ((divW c 16777216).toNat : Int) := udiv32 c 16777216
  have l3 := ulow32 (divW c 16777216)
  generalize lowW c = b0 at *
  generalize divW c 256 = c1 at *
  generalize divW c 65536 = c2 at *
  generalize divW c 16777216 = c3 at *
  generalize lowW c1 = b1 at *
  generalize lowW c2 = b2 at *
  generalize lowW c3 = b3 at *
  have hl4 : (le4 c).length = 4 := rfl
  generalize le4 c = C4 at *
  have hn := fun w => num_nat P.length w (by omega)
  have hv := venc_le9 P.length
  generalize venc P.length = V at *
  replace hrec := hid hrec
  replace hn := hid hn
  go_enter Try.func38, Try.ntmps38
  go_wp2_with fail
  refine hpk.out.mono ?_
  rintro e w1 ⟨rfl, hb1⟩
  replace hb1 := hid hb1
  clear hpk
  go_wp2_with fail
  refine (hcr.out w1).mono ?_
  rintro e w2 ⟨rfl, hb2⟩
  replace hb2 := hid (hb1.out.trans (hb2.mono hb1.out.size))
  clear hb1 hcr
  go_wp2_with fail
  have hcells : #[Value.int IntKind.u8 (b0.toNat : Int), Value.int IntKind.u8 b1.toNat, Value.int IntKind.u8 b2.toNat, Value.int IntKind.u8 b3.toNat] = (byteCells C4).toArray := by rw [hle]; rfl
  have hq3 := heap_alloc_new' w2 (.cells #[Value.int IntKind.u8 (b0.toNat : Int), Value.int IntKind.u8 b1.toNat, Value.int IntKind.u8 b2.toNat, Value.int IntKind.u8 b3.toNat] 91)
  have hb3 := hid (hb2.out.alloc hb2.out.size (.cells #[Value.int IntKind.u8 (b0.toNat : Int), Value.int IntKind.u8 b1.toNat, Value.int IntKind.u8 b2.toNat, Value.int IntKind.u8 b3.toNat] 91))
  generalize w2.alloc (.cells #[Value.int IntKind.u8 (b0.toNat : Int), Value.int IntKind.u8 b1.toNat, Value.int IntKind.u8 b2.toNat, Value.int IntKind.u8 b3.toNat] 91) = W3 at *
  rw [hcells] at hq3
  generalize w2.heap.size = b5 at *
  have q3 : W3.heap[b5]? = some (.cells (byteCells C4).toArray 91 (0, 0)) := hq3
  have q3d : W3.drew.heap[b5]? = some (.cells (byteCells C4).toArray 91 (0, 0)) := hq3
  have q5 : b5 < W3.drew.heap.size := lt_of_heap q3d
  have hcv := fun W h => conv4 W b5 C4 91 hl4 h
  clear hcells hq3 hle l0 l1 l2 l3 d1 d2 d3
  have s1 : ¬ 9223372036854775807 < V.length + 4 := by omega
  have s2 : ¬ 9223372036854775807 < V.length + 4 + P.length := by omega
  go_region_held3 (fun w' => w'.heap[b5]? = some (.cells (byteCells C4).toArray 91 (0, 0))) (first | with_reducible exact q3d | with_reducible exact q4 | go_keep)
      (first | (go_at_call 52; refine (hn.out _).mono ?_; rintro e W4 ⟨rfl, hb4⟩; have q4 := below_keep hb4 q3d q5))
  have hB := hid (hb3.out.drew.trans (hb4.mono (by have := hb3.out.size; exact this)))
  clear hn hb4 q4
  go_wp2_with fail
  go_ret
  exact ⟨by rw [hrec.out]; simp [ByteArray.mk_append_mk], hB.out⟩
end Go.Proofs.Ytffmmhofgocldaa
