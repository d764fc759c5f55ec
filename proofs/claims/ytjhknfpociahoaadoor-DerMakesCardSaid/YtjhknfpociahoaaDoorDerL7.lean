import Derived.Test.YtjhknfpociahoaaDoorDerL6
namespace Go.Proofs.YtjhknfpociahoaaDoor
open Go Go.HW Go.RowKit
set_option linter.unusedVariables false
set_option linter.unusedSimpArgs false

/-! ### the reference packs -/
/-! ### the code packs -/
end Go.Proofs.YtjhknfpociahoaaDoor
