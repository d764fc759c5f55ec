import Derived.Test.YtfbogkhgfaibbaaDoorTmKeys6
import Derived.Test.YtfbogkhgfaibbaaDoorTb1
namespace Go.Proofs.YtfbogkhgfaibbaaDoor
open Go Go.HW Go.RowKit
set_option linter.unusedVariables false
set_option linter.unusedSimpArgs false

theorem enter24 (args : Array Value) (w : World) : (callFunc 24 args).run Tryd.prog w = .ok (.enter 24 args) w:=by kernel_rfl
/-! ### escutcheon/terms.Learn: function 23 -/
/-! ### escutcheon/escutcheonlaw29.TermsLearns: function 8 -/
end Go.Proofs.YtfbogkhgfaibbaaDoor
