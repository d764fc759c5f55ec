import Derived.Test.YtfbogkhgfaibbaaDoorTg1
namespace Go.Proofs.YtfbogkhgfaibbaaDoor
open Go Go.HW Go.RowKit
set_option linter.unusedVariables false
set_option linter.unusedSimpArgs false

/-! ### escutcheon/escutcheonlaw29.TermsLooks: function 9 -/
end Go.Proofs.YtfbogkhgfaibbaaDoor
