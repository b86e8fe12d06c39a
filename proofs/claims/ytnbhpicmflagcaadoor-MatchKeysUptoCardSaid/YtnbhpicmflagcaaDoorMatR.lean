/- retroactlaw39.small, in plain Lean: three requests. -/
import Derived.Test.YtnbhpicmflagcaaDoorMatO
import Derived.Test.YtnbhpicmflagcaaDoorMatQ
import Derived.Test.YtnbhpicmflagcaaDoorShaE
set_option linter.unusedVariables false
set_option linter.unusedSimpArgs false
namespace Go.Proofs.YtnbhpicmflagcaaDoor
def oneV : Val := .mk 3 [] 1 0 [] []
def rA : Req := ⟨[48], [112, 97, 121], [oneV], 0, [], 0, 0, false⟩
def rB : Req := ⟨[48], [112, 97, 121], [oneV], 1, [], 0, 0, true⟩
def rC : Req := ⟨[48, 46, 49], [112, 97, 121], [], 0, [], 0, 0, false⟩
theorem aAA : alk rA rA = true := alk_true (AlikeP.rfl' _)
theorem aBB : alk rB rB = true := alk_true (AlikeP.rfl' _)
theorem aCC : alk rC rC = true := alk_true (AlikeP.rfl' _)
theorem aAB : alk rA rB = false := alk_false fun h => by have := h.1; cases this
theorem aBA : alk rB rA = false := alk_false fun h => by have := h.1; cases this
theorem aAC : alk rA rC = false := alk_false fun h => by have := h.2.1; cases this
theorem aCA : alk rC rA = false := alk_false fun h => by have := h.2.1; cases this
theorem aBC : alk rB rC = false := alk_false fun h => by have := h.2.1; cases this
theorem aCB : alk rC rB = false := alk_false fun h => by have := h.2.1; cases this
theorem r3 : List.range 3 = [0, 1, 2] := rfl
theorem r2 : List.range 2 = [0, 1] := rfl
theorem r1 : List.range 1 = [0] := rfl
theorem r0 : List.range 0 = [] := rfl
theorem mate0 : mateF [rA, rB, rC] [rC, rB, rA] 0 = some 2 := by
  simp [mateF, restF, cntF, freF, rq, r3, r2, r1, r0, aAA, aBB, aCC, aAB, aBA, aAC, aCA, aBC, aCB]
theorem mate1 : mateF [rA, rB, rC] [rC, rB, rA] 1 = some 1 := by
  simp [mateF, restF, cntF, freF, rq, r3, r2, r1, r0, aAA, aBB, aCC, aAB, aBA, aAC, aCA, aBC, aCB]
theorem mate2 : mateF [rA, rB, rC] [rC, rB, rA] 2 = some 0 := by
  simp [mateF, restF, cntF, freF, rq, r3, r2, r1, r0, aAA, aBB, aCC, aAB, aBA, aAC, aCA, aBC, aCB]
theorem mate0b : mateF [rA, rB, rC] [rB] 0 = none := by
  simp [mateF, restF, cntF, freF, rq, r3, r2, r1, r0, aAA, aBB, aCC, aAB, aBA, aAC, aCA, aBC, aCB]
theorem mate1b : mateF [rA, rB, rC] [rB] 1 = some 0 := by
  simp [mateF, restF, cntF, freF, rq, r3, r2, r1, r0, aAA, aBB, aCC, aAB, aBA, aAC, aCA, aBC, aCB]
theorem mate2b : mateF [rA, rB, rC] [rB] 2 = none := by
  simp [mateF, restF, cntF, freF, rq, r3, r2, r1, r0, aAA, aBB, aCC, aAB, aBA, aAC, aCA, aBC, aCB]
theorem small_pairs : pairsF [rA, rB, rC] [rC, rB, rA] 3 = [(0, 2), (1, 1), (2, 0)] := by
  rw [pairs_succ, pairs_succ, pairs_succ, mate0, mate1, mate2]
  rfl
theorem small_only1 : (onlyF [rA, rB, rC] [rB] 3).length = 2 := by
  rw [only_succ, only_succ, only_succ, mate0b, mate1b, mate2b]
  rfl
theorem small_only2 : (onlyF [rA, rB, rC] [rC, rB, rA] 3).length = 0 := by
  rw [only_succ, only_succ, only_succ, mate0, mate1, mate2]
  rfl
theorem fA : fitB [48] [112, 97, 121] [oneV] rA = true := dec_true ⟨rfl, rfl, rfl⟩
theorem fB : fitB [48] [112, 97, 121] [oneV] rB = true := dec_true ⟨rfl, rfl, rfl⟩
theorem fC : fitB [48] [112, 97, 121] [oneV] rC = false := dec_false fun h => by have := h.1; cases this
theorem small_ord : ordF [rA, rB, rC] [48] [112, 97, 121] [oneV] = 2 := by
  simp [ordF, fA, fB, fC]
theorem gA : fitO [48] [112, 97, 121] [oneV] 1 rA = false := dec_false fun h => by have := h.1; cases this
theorem gB : fitO [48] [112, 97, 121] [oneV] 1 rB = true := dec_true ⟨rfl, rfl, rfl, rfl⟩
theorem small_find1 : findF [rA, rB, rC] [48] [112, 97, 121] [oneV] 1 = some 1 := by
  simp [findF, List.findIdx?_cons, gA, gB]
theorem hA : fitO [48] [112, 97, 121] [] 0 rA = false := dec_false fun h => by have := h.2.2.2; cases this
theorem hB : fitO [48] [112, 97, 121] [] 0 rB = false := dec_false fun h => by have := h.1; cases this
theorem hC : fitO [48] [112, 97, 121] [] 0 rC = false := dec_false fun h => by have := h.2.1; cases this
theorem small_find2 : findF [rA, rB, rC] [48] [112, 97, 121] [] 0 = none := by
  simp [findF, List.findIdx?_cons, hA, hB, hC]
theorem enc_one : encF oneV = [3, 0, 2, 0, 0, 0] := by
  rw [encF_eq]
  show headF oneV ++ _ = _
  decide +kernel
theorem bytes_one : bytesF oneV = [3, 0, 2, 0, 0, 0] := by
  unfold bytesF rightF
  rw [vldF_eq]
  have : nodeF oneV = true := by decide +kernel
  have h2 : (List.foldl (fun o y => o.bind (vldF y)) (some (16384 - 1)) oneV.l) = some 16383 := rfl
  rw [h2]
  simp [this, enc_one]
theorem keyA : keyS rA = [1, 48, 3, 112, 97, 121, 0, 1, 6, 3, 0, 2, 0, 0, 0] := by
  unfold keyS argF
  show headK rA ++ (([oneV].map _).flatten) = _
  simp only [List.map_cons, List.map_nil, bytes_one]
  decide +kernel
theorem keyB : keyS rB = [1, 48, 3, 112, 97, 121, 2, 1, 6, 3, 0, 2, 0, 0, 0] := by
  unfold keyS argF
  show headK rB ++ (([oneV].map _).flatten) = _
  simp only [List.map_cons, List.map_nil, bytes_one]
  decide +kernel
theorem shaA : shaF (keyS rA) = [196, 218, 142, 176, 12, 194, 186, 90, 96, 208, 173, 55, 100, 122, 201, 189, 181, 229, 223, 106, 6, 247, 123, 204, 152, 181, 186, 154, 214, 155, 14, 138] := by
  rw [keyA, shaF_short _ [120, 0, 0, 0, 0, 0, 0, 0, 0, 0, 0, 0, 128, 100859906, 1635319809, 19923824] [3302657712, 214088282, 1624288567, 1685768637, 3051741034, 116882380, 2562046618, 3600486026] (by decide) (by decide +kernel) (by decide +kernel)]
  decide +kernel
theorem shaB0 : (shaF (keyS rB))[0]? = some 95 := by
  rw [keyB, shaF_short _ [120, 0, 0, 0, 0, 0, 0, 0, 0, 0, 0, 0, 128, 100859906, 1635320321, 19923824] [1602946849, 397900698, 857681551, 3368811687, 2085524437, 2189371393, 2086872047, 381334182] (by decide) (by decide +kernel) (by decide +kernel)]
  decide +kernel
theorem keys_differ : keyF rA ≠ keyF rB := by
  intro h
  have h0 : (hexF (shaF (keyS rA)))[0]? = (hexF (shaF (keyS rB)))[0]? := by
    unfold keyF at h; rw [h]
  unfold hexF at h0
  rw [List.getElem?_map, List.getElem?_map, List.getElem?_range (by decide)] at h0
  simp only [Option.map_some, Option.some.injEq] at h0
  unfold hx at h0
  rw [if_pos (by decide), if_pos (by decide), List.getD_eq_getElem?_getD, List.getD_eq_getElem?_getD, show 0 / 2 = 0 from rfl, shaB0, shaA] at h0
  revert h0
  decide +kernel
theorem shaA_not : shaF (keyS rA) ≠ List.replicate 32 0 := by rw [shaA]; decide +kernel
end Go.Proofs.YtnbhpicmflagcaaDoor
