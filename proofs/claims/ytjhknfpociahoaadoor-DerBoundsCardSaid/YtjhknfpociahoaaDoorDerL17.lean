import Derived.Test.YtjhknfpociahoaaDoorDerL16
namespace Go.Proofs.YtjhknfpociahoaaDoor
open Go Go.HW Go.RowKit
set_option linter.unusedVariables false
set_option linter.unusedSimpArgs false

/-! ### how big a value is -/
end Go.Proofs.YtjhknfpociahoaaDoor
