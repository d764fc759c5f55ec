import Derived.Test.YtjhknfpociahoaaDoorDerL15
namespace Go.Proofs.YtjhknfpociahoaaDoor
open Go Go.HW Go.RowKit
set_option linter.unusedVariables false
set_option linter.unusedSimpArgs false

theorem eqD_self (v : Der) : eqD v v = true := eqD_true.2 rfl
end Go.Proofs.YtjhknfpociahoaaDoor
