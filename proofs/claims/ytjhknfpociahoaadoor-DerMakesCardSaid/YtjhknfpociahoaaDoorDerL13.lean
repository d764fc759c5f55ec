import Derived.Test.YtjhknfpociahoaaDoorDerL12
namespace Go.Proofs.YtjhknfpociahoaaDoor
open Go Go.HW Go.RowKit
set_option linter.unusedVariables false
set_option linter.unusedSimpArgs false

/-! ### the reference reads -/
end Go.Proofs.YtjhknfpociahoaaDoor
