import Derived.Test.YtfbogkhgfaibbaaDoorTmOnce
import Derived.Test.YtfbogkhgfaibbaaDoorTb2
namespace Go.Proofs.YtfbogkhgfaibbaaDoor
open Go Go.HW Go.RowKit
set_option linter.unusedVariables false
set_option linter.unusedSimpArgs false

/-! ### TermsMeans -/
/-! ### TermsMakes -/
end Go.Proofs.YtfbogkhgfaibbaaDoor
