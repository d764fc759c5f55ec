import Derived.Test.YtjhknfpociahoaaDoorDerL4
namespace Go.Proofs.YtjhknfpociahoaaDoor
open Go Go.HW Go.RowKit
set_option linter.unusedVariables false
set_option linter.unusedSimpArgs false

end Go.Proofs.YtjhknfpociahoaaDoor
