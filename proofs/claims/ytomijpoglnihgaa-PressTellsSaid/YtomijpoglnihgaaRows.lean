/-
  No cell of these rows narrows 'for every input' (looked for: loops, veiled, ifaces, maps, wideKeys, modest, calm, conditions, laid).
  DERIVED. THE GIVEN ROWS OF THIS SEAT. 4 by the template 'for every input the law returns true; each argument reads behind the call as it read before'; 0 by the template 'total and deterministic' (their statements: YtomijpoglnihgaaTotals.lean).
  GIVEN WITH THE SEED: the statements are not yours to turn. If you find one false, say at which input.
  Laid BY PROGRAM, IN A SANDBOX (cutbox-rows.mjs): the forced cells as the released guide's own fill.sh prints them over the translation 696d3fe422433c9b… (all of the seat's roots in one cut). By AI agents, Wed Nov 11 2026. No macro, syntax, notation, axiom, sorry.
-/
import Derived.Test.YtomijpoglnihgaaChecked
import GoSem.Claim
import GoSem.ClaimJoined
import GoSem.ClaimMapViews
import Derived.JoinedTies
import Derived.KernelRfl
namespace Go.Proofs.Ytomijpoglnihgaa
/- THE CELL 'sum', in the pinned program and in every row, IS THE sha256 OF THE DUMP (.gsa) THAT YtomijpoglnihgaaProg.lean LOADS. Nothing in Lean hashes anything: it is a label: what it is worth is what the hold of that sum in a sandbox is worth. -/
noncomputable def Try.pinned : Pinned := { name := "ytomijpoglnihgaa", sum := "696d3fe422433c9b763601c6dedf59c5b529ffa8934741fd0d4a2481a046139e", checked := Try.checked }
namespace Rows
def none {H : Type} : Left H := { results := [], args := [] }

/-- 'retroactlaw04.PressTells': WHATEVER THE INPUT: true; the input reads as it did. -/
def pressTellsSpec : ChangeSpec := { name := "pressTells", fn := fun _ => fun
  | [d1, d2] => { results := [.lit (.bool true)], args := [d1, d2] }
  | _ => none }
def pressTellsRow : OpenClaim := { program := "ytomijpoglnihgaa", sum := "696d3fe422433c9b763601c6dedf59c5b529ffa8934741fd0d4a2481a046139e", func := "retroact/retroactlaw04.PressTells", spec := "pressTells", inPlace := ["internal/abi.NoEscape"], unfollowed := true, recurses := true, apart := false }
def PressTellsSaid : Prop := pressTellsRow.holds Try.pinned (OpenSpec.ofChange pressTellsSpec)

/-- ITS FALSE NEIGHBOUR: 'it returns false'. Refute it at one input. -/
def pressTellsWrong : ChangeSpec := { name := "pressTells", fn := fun _ => fun
  | [d1, d2] => { results := [.lit (.bool false)], args := [d1, d2] }
  | _ => none }
def PressTellsWrongFalsely : Prop := pressTellsRow.holds Try.pinned (OpenSpec.ofChange pressTellsWrong)

/-- 'retroactlaw04.PressBack': WHATEVER THE INPUT: true; the input reads as it did. -/
def pressBackSpec : ChangeSpec := { name := "pressBack", fn := fun _ => fun
  | [d] => { results := [.lit (.bool true)], args := [d] }
  | _ => none }
def pressBackRow : OpenClaim := { program := "ytomijpoglnihgaa", sum := "696d3fe422433c9b763601c6dedf59c5b529ffa8934741fd0d4a2481a046139e", func := "retroact/retroactlaw04.PressBack", spec := "pressBack", inPlace := ["internal/abi.NoEscape"], unfollowed := true, recurses := true, apart := false }
def PressBackSaid : Prop := pressBackRow.holds Try.pinned (OpenSpec.ofChange pressBackSpec)

/-- ITS FALSE NEIGHBOUR: 'it returns false'. Refute it at one input. -/
def pressBackWrong : ChangeSpec := { name := "pressBack", fn := fun _ => fun
  | [d] => { results := [.lit (.bool false)], args := [d] }
  | _ => none }
def PressBackWrongFalsely : Prop := pressBackRow.holds Try.pinned (OpenSpec.ofChange pressBackWrong)

/-- 'retroactlaw04.PressCuts': WHATEVER THE INPUT: true; the input reads as it did. -/
def pressCutsSpec : ChangeSpec := { name := "pressCuts", fn := fun _ => fun
  | [d1, d2, d3] => { results := [.lit (.bool true)], args := [d1, d2, d3] }
  | _ => none }
def pressCutsRow : OpenClaim := { program := "ytomijpoglnihgaa", sum := "696d3fe422433c9b763601c6dedf59c5b529ffa8934741fd0d4a2481a046139e", func := "retroact/retroactlaw04.PressCuts", spec := "pressCuts", inPlace := ["internal/abi.NoEscape"], unfollowed := true, recurses := true, apart := false }
def PressCutsSaid : Prop := pressCutsRow.holds Try.pinned (OpenSpec.ofChange pressCutsSpec)

/-- ITS FALSE NEIGHBOUR: 'it returns false'. Refute it at one input. -/
def pressCutsWrong : ChangeSpec := { name := "pressCuts", fn := fun _ => fun
  | [d1, d2, d3] => { results := [.lit (.bool false)], args := [d1, d2, d3] }
  | _ => none }
def PressCutsWrongFalsely : Prop := pressCutsRow.holds Try.pinned (OpenSpec.ofChange pressCutsWrong)

/-- 'retroactlaw04.PressRepeats': WHATEVER THE INPUT: true; the input reads as it did. -/
def pressRepeatsSpec : ChangeSpec := { name := "pressRepeats", fn := fun _ => fun
  | [d1, d2] => { results := [.lit (.bool true)], args := [d1, d2] }
  | _ => none }
def pressRepeatsRow : OpenClaim := { program := "ytomijpoglnihgaa", sum := "696d3fe422433c9b763601c6dedf59c5b529ffa8934741fd0d4a2481a046139e", func := "retroact/retroactlaw04.PressRepeats", spec := "pressRepeats", inPlace := ["internal/abi.NoEscape"], unfollowed := true, recurses := true, apart := false }
def PressRepeatsSaid : Prop := pressRepeatsRow.holds Try.pinned (OpenSpec.ofChange pressRepeatsSpec)

/-- ITS FALSE NEIGHBOUR: 'it returns false'. Refute it at one input. -/
def pressRepeatsWrong : ChangeSpec := { name := "pressRepeats", fn := fun _ => fun
  | [d1, d2] => { results := [.lit (.bool false)], args := [d1, d2] }
  | _ => none }
def PressRepeatsWrongFalsely : Prop := pressRepeatsRow.holds Try.pinned (OpenSpec.ofChange pressRepeatsWrong)

/- THE SECOND FORM. 'bulk': how many values and letters a reading holds, each counted each time it is reached (what is shared counts as often as it is met; a slice's spare places count too). A statement '..UptoSaid' is the law's where the arguments, and the package variables that the reading takes, are together of bulk at most 1048576: NARROWER than '..Said'. Prove '..Said' where nothing that the law and all that it calls make is longer than what came in: it says more and counts as full. Else prove '..UptoSaid'. A law counts once. -/
mutual
def uptoBulk {H : Type} : DataW H → Nat
  | .lit (.string bytes) => bytes.length + 1
  | .lit _ => 1
  | .nil => 1
  | .ptr d => uptoBulk d + 1
  | .slice elems spare => uptoBulkAll elems + uptoBulkAll spare + 1
  | .agg parts => uptoBulkAll parts + 1
  | .iface _ d => uptoBulk d + 1
  | .map entries => uptoBulkEntries entries + 1
  | .held _ => 1
def uptoBulkAll {H : Type} : List (DataW H) → Nat
  | [] => 0
  | d :: r => uptoBulk d + uptoBulkAll r
def uptoBulkEntries {H : Type} : List (Lit × DataW H) → Nat
  | [] => 0
  | x :: r => uptoBulkEntry x + uptoBulkEntries r
def uptoBulkEntry {H : Type} : Lit × DataW H → Nat
  | (.string bytes, d) => bytes.length + uptoBulk d + 1
  | (_, d) => uptoBulk d + 1
 end
def uptoSmall : (H : Type) → List (DataW H) → Bool := fun _ ds => decide (uptoBulkAll ds ≤ 1048576)
def OpenSpec.upto (s : _root_.Go.ChangeSpec) : _root_.Go.OpenSpec := { _root_.Go.OpenSpec.ofChange s with cond := some uptoSmall }

/-- 'retroactlaw04.PressTells', WHERE WHAT IT READS IS OF BULK AT MOST 1048576: true; the input reads as it did. -/
def pressTellsUptoRow : OpenClaim := { program := "ytomijpoglnihgaa", sum := "696d3fe422433c9b763601c6dedf59c5b529ffa8934741fd0d4a2481a046139e", func := "retroact/retroactlaw04.PressTells", spec := "pressTells", inPlace := ["internal/abi.NoEscape"], unfollowed := true, recurses := true, apart := false, narrowed := true }
def PressTellsUptoSaid : Prop := pressTellsUptoRow.holds Try.pinned (OpenSpec.upto pressTellsSpec)

/-- 'retroactlaw04.PressBack', WHERE WHAT IT READS IS OF BULK AT MOST 1048576: true; the input reads as it did. -/
def pressBackUptoRow : OpenClaim := { program := "ytomijpoglnihgaa", sum := "696d3fe422433c9b763601c6dedf59c5b529ffa8934741fd0d4a2481a046139e", func := "retroact/retroactlaw04.PressBack", spec := "pressBack", inPlace := ["internal/abi.NoEscape"], unfollowed := true, recurses := true, apart := false, narrowed := true }
def PressBackUptoSaid : Prop := pressBackUptoRow.holds Try.pinned (OpenSpec.upto pressBackSpec)

/-- 'retroactlaw04.PressCuts', WHERE WHAT IT READS IS OF BULK AT MOST 1048576: true; the input reads as it did. -/
def pressCutsUptoRow : OpenClaim := { program := "ytomijpoglnihgaa", sum := "696d3fe422433c9b763601c6dedf59c5b529ffa8934741fd0d4a2481a046139e", func := "retroact/retroactlaw04.PressCuts", spec := "pressCuts", inPlace := ["internal/abi.NoEscape"], unfollowed := true, recurses := true, apart := false, narrowed := true }
def PressCutsUptoSaid : Prop := pressCutsUptoRow.holds Try.pinned (OpenSpec.upto pressCutsSpec)

/-- 'retroactlaw04.PressRepeats', WHERE WHAT IT READS IS OF BULK AT MOST 1048576: true; the input reads as it did. -/
def pressRepeatsUptoRow : OpenClaim := { program := "ytomijpoglnihgaa", sum := "696d3fe422433c9b763601c6dedf59c5b529ffa8934741fd0d4a2481a046139e", func := "retroact/retroactlaw04.PressRepeats", spec := "pressRepeats", inPlace := ["internal/abi.NoEscape"], unfollowed := true, recurses := true, apart := false, narrowed := true }
def PressRepeatsUptoSaid : Prop := pressRepeatsUptoRow.holds Try.pinned (OpenSpec.upto pressRepeatsSpec)

end Rows
end Go.Proofs.Ytomijpoglnihgaa
