/- What the form's own reach gives on a slice of integers. -/
import Derived.Test.YtdmgfnnpjoihfaaDoorAgg
set_option linter.unusedVariables false
namespace Go.Proofs.YtdmgfnnpjoihfaaDoor
end Go.Proofs.YtdmgfnnpjoihfaaDoor
