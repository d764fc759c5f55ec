import Derived.Test.YtjhknfpociahoaaDoorDerL10
namespace Go.Proofs.YtjhknfpociahoaaDoor
open Go Go.HW Go.RowKit
set_option linter.unusedVariables false
set_option linter.unusedSimpArgs false

/-! ### arcs are read -/
/-! ### arcs that were packed -/
end Go.Proofs.YtjhknfpociahoaaDoor
