import Derived.Test.YtfbogkhgfaibbaaDoorTb2
namespace Go.Proofs.YtfbogkhgfaibbaaDoor
open Go Go.HW Go.RowKit
set_option linter.unusedVariables false
set_option linter.unusedSimpArgs false


/-! ### escutcheon/escutcheonlaw29.TermsSeals: function 5 -/
end Go.Proofs.YtfbogkhgfaibbaaDoor
