import Derived.Test.YtfbogkhgfaibbaaDoorTg2
namespace Go.Proofs.YtfbogkhgfaibbaaDoor
open Go Go.HW Go.RowKit
set_option linter.unusedVariables false
set_option linter.unusedSimpArgs false

/-! ### escutcheon/escutcheonlaw29.TermsForms: function 10 -/
end Go.Proofs.YtfbogkhgfaibbaaDoor
