/- What the form's own reach gives on a slice of integers. -/
import Derived.Test.YtffdpoifdahadaaGreatDoorFrame
set_option linter.unusedVariables false
namespace Go.Proofs.YtffdpoifdahadaaGreatDoor
end Go.Proofs.YtffdpoifdahadaaGreatDoor
