import Derived.Test.YtfbogkhgfaibbaaDoorTb1
namespace Go.Proofs.YtfbogkhgfaibbaaDoor
open Go Go.HW Go.RowKit
set_option linter.unusedVariables false
set_option linter.unusedSimpArgs false

/-! ### escutcheon/escutcheonlaw29.TermsMakes: function 6 -/
end Go.Proofs.YtfbogkhgfaibbaaDoor
