import Derived.Test.YtfbogkhgfaibbaaDoorHw6
import Derived.Laws.Externs
namespace Go.HW
open Go Go.RowKit
set_option linter.unusedVariables false
set_option linter.unusedSimpArgs false

/-! ### math/bits -/
end Go.HW
