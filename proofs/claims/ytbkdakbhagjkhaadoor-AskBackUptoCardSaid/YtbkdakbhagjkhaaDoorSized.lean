/- What the form's own reach gives on a slice of integers. -/
import Derived.Test.YtbkdakbhagjkhaaDoorFrame
set_option linter.unusedVariables false
namespace Go.Proofs.YtbkdakbhagjkhaaDoor
end Go.Proofs.YtbkdakbhagjkhaaDoor
