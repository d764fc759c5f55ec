import Derived.Test.YtjhknfpociahoaaDoorDerL8
namespace Go.Proofs.YtjhknfpociahoaaDoor
open Go Go.HW Go.RowKit
set_option linter.unusedVariables false
set_option linter.unusedSimpArgs false

/-! ### heads -/
end Go.Proofs.YtjhknfpociahoaaDoor
