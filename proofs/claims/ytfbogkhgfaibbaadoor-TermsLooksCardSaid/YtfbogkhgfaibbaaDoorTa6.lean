import Derived.Test.YtfbogkhgfaibbaaDoorTa5
namespace Go.Proofs.YtfbogkhgfaibbaaDoor
open Go Go.HW Go.RowKit
set_option linter.unusedVariables false
set_option linter.unusedSimpArgs false

/-! ### escutcheon/escutcheonref29.Learn: function 25 -/
end Go.Proofs.YtfbogkhgfaibbaaDoor
