import Derived.Test.YtfbogkhgfaibbaaDoorTa4
namespace Go.Proofs.YtfbogkhgfaibbaaDoor
open Go Go.HW Go.RowKit
set_option linter.unusedVariables false
set_option linter.unusedSimpArgs false

/-! ### escutcheon/escutcheonref29.Order: function 17 -/
end Go.Proofs.YtfbogkhgfaibbaaDoor
