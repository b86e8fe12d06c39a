/- What the form's own reach gives on a slice of integers. -/
import Derived.Test.YtfejagpjahoibaaGreatDoorAgg
set_option linter.unusedVariables false
namespace Go.Proofs.YtfejagpjahoibaaGreatDoor
end Go.Proofs.YtfejagpjahoibaaGreatDoor
