/-
  NARROWER THAN 'FOR EVERY INPUT', by the rows' own cells (each row's printed sentence says how): WorldTells: loops · WorldRepeats: loops · WorldRetries: loops · WorldCopies: loops · WorldOnce: loops.
  DERIVED. THE GIVEN ROWS OF THIS SEAT. 5 by the template 'for every input the law returns true; each argument reads behind the call as it read before'; 0 by the template 'total and deterministic' (their statements: YthagdeadmoidnaaTotals.lean).
  GIVEN WITH THE SEED: the statements are not yours to turn. If you find one false, say at which input.
  Laid BY PROGRAM, IN A SANDBOX (cutbox-rows.mjs): the forced cells as the released guide's own fill.sh prints them over the translation 2867c83598325993… (all of the seat's roots in one cut). By AI agents, Wed Nov 11 2026. No macro, syntax, notation, axiom, sorry.
-/
import Derived.Test.YthagdeadmoidnaaChecked
import GoSem.Claim
import GoSem.ClaimJoined
import GoSem.ClaimMapViews
import Derived.JoinedTies
import Derived.KernelRfl
namespace Go.Proofs.Ythagdeadmoidnaa
/- THE CELL 'sum', in the pinned program and in every row, IS THE sha256 OF THE DUMP (.gsa) THAT YthagdeadmoidnaaProg.lean LOADS. Nothing in Lean hashes anything: it is a label: what it is worth is what the hold of that sum in a sandbox is worth. -/
noncomputable def Try.pinned : Pinned := { name := "ythagdeadmoidnaa", sum := "2867c835983259937ffacd4b87ce650bcc9e78f8f844b0c79637e48c122c710c", checked := Try.checked }
namespace Rows
def none {H : Type} : Left H := { results := [], args := [] }

/-- 'retroactlaw46.WorldTells': WHATEVER THE INPUT: true; the input reads as it did. -/
def worldTellsSpec : ChangeSpec := { name := "worldTells", fn := fun _ => fun
  | [d] => { results := [.lit (.bool true)], args := [d] }
  | _ => none }
def worldTellsRow : OpenClaim := { program := "ythagdeadmoidnaa", sum := "2867c835983259937ffacd4b87ce650bcc9e78f8f844b0c79637e48c122c710c", func := "retroact/retroactlaw46.WorldTells", spec := "worldTells", unfollowed := true, recurses := true, loops := true, apart := false }
def WorldTellsSaid : Prop := worldTellsRow.holds Try.pinned (OpenSpec.ofChange worldTellsSpec)

/-- ITS FALSE NEIGHBOUR: 'it returns false'. Refute it at one input. -/
def worldTellsWrong : ChangeSpec := { name := "worldTells", fn := fun _ => fun
  | [d] => { results := [.lit (.bool false)], args := [d] }
  | _ => none }
def WorldTellsWrongFalsely : Prop := worldTellsRow.holds Try.pinned (OpenSpec.ofChange worldTellsWrong)

/-- 'retroactlaw46.WorldRepeats': WHATEVER THE INPUT: true; the input reads as it did. -/
def worldRepeatsSpec : ChangeSpec := { name := "worldRepeats", fn := fun _ => fun
  | [d1, d2] => { results := [.lit (.bool true)], args := [d1, d2] }
  | _ => none }
def worldRepeatsRow : OpenClaim := { program := "ythagdeadmoidnaa", sum := "2867c835983259937ffacd4b87ce650bcc9e78f8f844b0c79637e48c122c710c", func := "retroact/retroactlaw46.WorldRepeats", spec := "worldRepeats", unfollowed := true, recurses := true, loops := true, apart := false }
def WorldRepeatsSaid : Prop := worldRepeatsRow.holds Try.pinned (OpenSpec.ofChange worldRepeatsSpec)

/-- ITS FALSE NEIGHBOUR: 'it returns false'. Refute it at one input. -/
def worldRepeatsWrong : ChangeSpec := { name := "worldRepeats", fn := fun _ => fun
  | [d1, d2] => { results := [.lit (.bool false)], args := [d1, d2] }
  | _ => none }
def WorldRepeatsWrongFalsely : Prop := worldRepeatsRow.holds Try.pinned (OpenSpec.ofChange worldRepeatsWrong)

/-- 'retroactlaw46.WorldRetries': WHATEVER THE INPUT: true; the input reads as it did. -/
def worldRetriesSpec : ChangeSpec := { name := "worldRetries", fn := fun _ => fun
  | [d1, d2] => { results := [.lit (.bool true)], args := [d1, d2] }
  | _ => none }
def worldRetriesRow : OpenClaim := { program := "ythagdeadmoidnaa", sum := "2867c835983259937ffacd4b87ce650bcc9e78f8f844b0c79637e48c122c710c", func := "retroact/retroactlaw46.WorldRetries", spec := "worldRetries", unfollowed := true, recurses := true, loops := true, apart := false }
def WorldRetriesSaid : Prop := worldRetriesRow.holds Try.pinned (OpenSpec.ofChange worldRetriesSpec)

/-- ITS FALSE NEIGHBOUR: 'it returns false'. Refute it at one input. -/
def worldRetriesWrong : ChangeSpec := { name := "worldRetries", fn := fun _ => fun
  | [d1, d2] => { results := [.lit (.bool false)], args := [d1, d2] }
  | _ => none }
def WorldRetriesWrongFalsely : Prop := worldRetriesRow.holds Try.pinned (OpenSpec.ofChange worldRetriesWrong)

/-- 'retroactlaw46.WorldCopies': WHATEVER THE INPUT: true; the input reads as it did. -/
def worldCopiesSpec : ChangeSpec := { name := "worldCopies", fn := fun _ => fun
  | [d1, d2] => { results := [.lit (.bool true)], args := [d1, d2] }
  | _ => none }
def worldCopiesRow : OpenClaim := { program := "ythagdeadmoidnaa", sum := "2867c835983259937ffacd4b87ce650bcc9e78f8f844b0c79637e48c122c710c", func := "retroact/retroactlaw46.WorldCopies", spec := "worldCopies", unfollowed := true, recurses := true, loops := true, apart := false }
def WorldCopiesSaid : Prop := worldCopiesRow.holds Try.pinned (OpenSpec.ofChange worldCopiesSpec)

/-- ITS FALSE NEIGHBOUR: 'it returns false'. Refute it at one input. -/
def worldCopiesWrong : ChangeSpec := { name := "worldCopies", fn := fun _ => fun
  | [d1, d2] => { results := [.lit (.bool false)], args := [d1, d2] }
  | _ => none }
def WorldCopiesWrongFalsely : Prop := worldCopiesRow.holds Try.pinned (OpenSpec.ofChange worldCopiesWrong)

/-- 'retroactlaw46.WorldOnce': WHATEVER THE INPUT: true; the input reads as it did. -/
def worldOnceSpec : ChangeSpec := { name := "worldOnce", fn := fun _ => fun
  | [d] => { results := [.lit (.bool true)], args := [d] }
  | _ => none }
def worldOnceRow : OpenClaim := { program := "ythagdeadmoidnaa", sum := "2867c835983259937ffacd4b87ce650bcc9e78f8f844b0c79637e48c122c710c", func := "retroact/retroactlaw46.WorldOnce", spec := "worldOnce", unfollowed := true, recurses := true, loops := true, apart := false }
def WorldOnceSaid : Prop := worldOnceRow.holds Try.pinned (OpenSpec.ofChange worldOnceSpec)

/-- ITS FALSE NEIGHBOUR: 'it returns false'. Refute it at one input. -/
def worldOnceWrong : ChangeSpec := { name := "worldOnce", fn := fun _ => fun
  | [d] => { results := [.lit (.bool false)], args := [d] }
  | _ => none }
def WorldOnceWrongFalsely : Prop := worldOnceRow.holds Try.pinned (OpenSpec.ofChange worldOnceWrong)

/- THE SECOND FORM. 'bulk': how many values and letters a reading holds, each counted each time it is reached (what is shared counts as often as it is met; a slice's spare places count too). A statement '..UptoSaid' is the law's where the arguments, and the package variables that the reading takes, are together of bulk at most 1048576: NARROWER than '..Said'. Prove '..Said' where nothing that the law and all that it calls make is longer than what came in: it says more and counts as full. Else prove '..UptoSaid'. A law counts once. -/
mutual
def uptoBulk {H : Type} : DataW H → Nat
  | .lit (.string bytes) => bytes.length + 1
  | .lit _ => 1
  | .nil => 1
  | .ptr d => uptoBulk d + 1
  | .slice elems spare => uptoBulkAll elems + uptoBulkAll spare + 1
  | .agg parts => uptoBulkAll parts + 1
  | .iface _ d => uptoBulk d + 1
  | .map entries => uptoBulkEntries entries + 1
  | .held _ => 1
def uptoBulkAll {H : Type} : List (DataW H) → Nat
  | [] => 0
  | d :: r => uptoBulk d + uptoBulkAll r
def uptoBulkEntries {H : Type} : List (Lit × DataW H) → Nat
  | [] => 0
  | x :: r => uptoBulkEntry x + uptoBulkEntries r
def uptoBulkEntry {H : Type} : Lit × DataW H → Nat
  | (.string bytes, d) => bytes.length + uptoBulk d + 1
  | (_, d) => uptoBulk d + 1
 end
def uptoSmall : (H : Type) → List (DataW H) → Bool := fun _ ds => decide (uptoBulkAll ds ≤ 1048576)
def OpenSpec.upto (s : _root_.Go.ChangeSpec) : _root_.Go.OpenSpec := { _root_.Go.OpenSpec.ofChange s with cond := some uptoSmall }

/-- 'retroactlaw46.WorldTells', WHERE WHAT IT READS IS OF BULK AT MOST 1048576: true; the input reads as it did. -/
def worldTellsUptoRow : OpenClaim := { program := "ythagdeadmoidnaa", sum := "2867c835983259937ffacd4b87ce650bcc9e78f8f844b0c79637e48c122c710c", func := "retroact/retroactlaw46.WorldTells", spec := "worldTells", unfollowed := true, recurses := true, loops := true, apart := false, narrowed := true }
def WorldTellsUptoSaid : Prop := worldTellsUptoRow.holds Try.pinned (OpenSpec.upto worldTellsSpec)

/-- 'retroactlaw46.WorldRepeats', WHERE WHAT IT READS IS OF BULK AT MOST 1048576: true; the input reads as it did. -/
def worldRepeatsUptoRow : OpenClaim := { program := "ythagdeadmoidnaa", sum := "2867c835983259937ffacd4b87ce650bcc9e78f8f844b0c79637e48c122c710c", func := "retroact/retroactlaw46.WorldRepeats", spec := "worldRepeats", unfollowed := true, recurses := true, loops := true, apart := false, narrowed := true }
def WorldRepeatsUptoSaid : Prop := worldRepeatsUptoRow.holds Try.pinned (OpenSpec.upto worldRepeatsSpec)

/-- 'retroactlaw46.WorldRetries', WHERE WHAT IT READS IS OF BULK AT MOST 1048576: true; the input reads as it did. -/
def worldRetriesUptoRow : OpenClaim := { program := "ythagdeadmoidnaa", sum := "2867c835983259937ffacd4b87ce650bcc9e78f8f844b0c79637e48c122c710c", func := "retroact/retroactlaw46.WorldRetries", spec := "worldRetries", unfollowed := true, recurses := true, loops := true, apart := false, narrowed := true }
def WorldRetriesUptoSaid : Prop := worldRetriesUptoRow.holds Try.pinned (OpenSpec.upto worldRetriesSpec)

/-- 'retroactlaw46.WorldCopies', WHERE WHAT IT READS IS OF BULK AT MOST 1048576: true; the input reads as it did. -/
def worldCopiesUptoRow : OpenClaim := { program := "ythagdeadmoidnaa", sum := "2867c835983259937ffacd4b87ce650bcc9e78f8f844b0c79637e48c122c710c", func := "retroact/retroactlaw46.WorldCopies", spec := "worldCopies", unfollowed := true, recurses := true, loops := true, apart := false, narrowed := true }
def WorldCopiesUptoSaid : Prop := worldCopiesUptoRow.holds Try.pinned (OpenSpec.upto worldCopiesSpec)

/-- 'retroactlaw46.WorldOnce', WHERE WHAT IT READS IS OF BULK AT MOST 1048576: true; the input reads as it did. -/
def worldOnceUptoRow : OpenClaim := { program := "ythagdeadmoidnaa", sum := "2867c835983259937ffacd4b87ce650bcc9e78f8f844b0c79637e48c122c710c", func := "retroact/retroactlaw46.WorldOnce", spec := "worldOnce", unfollowed := true, recurses := true, loops := true, apart := false, narrowed := true }
def WorldOnceUptoSaid : Prop := worldOnceUptoRow.holds Try.pinned (OpenSpec.upto worldOnceSpec)

end Rows
end Go.Proofs.Ythagdeadmoidnaa
