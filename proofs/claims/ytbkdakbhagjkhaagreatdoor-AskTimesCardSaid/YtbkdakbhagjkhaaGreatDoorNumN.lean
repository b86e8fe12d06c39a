/- Chapter 01 (num): the plain functions of the package's operations, and their laws. -/
import Derived.Below
set_option linter.unusedVariables false
namespace Go.Proofs.YtbkdakbhagjkhaaGreatDoor
end Go.Proofs.YtbkdakbhagjkhaaGreatDoor
