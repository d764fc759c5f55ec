import Derived.Test.YtfbogkhgfaibbaaDoorTa7
namespace Go.Proofs.YtfbogkhgfaibbaaDoor
open Go Go.HW Go.RowKit
set_option linter.unusedVariables false
set_option linter.unusedSimpArgs false

/-! ### escutcheon/escutcheonlaw29.walk: function 19 -/
end Go.Proofs.YtfbogkhgfaibbaaDoor
