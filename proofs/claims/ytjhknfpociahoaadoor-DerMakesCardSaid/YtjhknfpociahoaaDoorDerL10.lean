import Derived.Test.YtjhknfpociahoaaDoorDerL9
namespace Go.Proofs.YtjhknfpociahoaaDoor
open Go Go.HW Go.RowKit
set_option linter.unusedVariables false
set_option linter.unusedSimpArgs false

/-! ### whole numbers are read -/
theorem reqTT {α : Type} (x : Option α) : req True x = x := if_pos trivial
end Go.Proofs.YtjhknfpociahoaaDoor
