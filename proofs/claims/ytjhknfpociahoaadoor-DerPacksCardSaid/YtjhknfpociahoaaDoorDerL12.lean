import Derived.Test.YtjhknfpociahoaaDoorDerL11
namespace Go.Proofs.YtjhknfpociahoaaDoor
open Go Go.HW Go.RowKit
set_option linter.unusedVariables false
set_option linter.unusedSimpArgs false

/-! ### a value's kind, of its first byte -/
/-! ### leaves -/
theorem U64L.nil : U64L [] := fun x hx => by cases hx
end Go.Proofs.YtjhknfpociahoaaDoor
