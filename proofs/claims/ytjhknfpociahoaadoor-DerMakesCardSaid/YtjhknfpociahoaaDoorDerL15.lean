import Derived.Test.YtjhknfpociahoaaDoorDerL14
namespace Go.Proofs.YtjhknfpociahoaaDoor
open Go Go.HW Go.RowKit
set_option linter.unusedVariables false
set_option linter.unusedSimpArgs false

/-! ### the code reads -/
end Go.Proofs.YtjhknfpociahoaaDoor
