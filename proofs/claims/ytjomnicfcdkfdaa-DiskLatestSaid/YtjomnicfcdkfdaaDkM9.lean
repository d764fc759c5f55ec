import Derived.Test.YtjomnicfcdkfdaaDkM8
namespace Go.Proofs.Ytjomnicfcdkfdaa
open Go Go.HW Go.RowKit
set_option linter.unusedVariables false
set_option linter.unusedSimpArgs false

theorem ta5 (w : World) : (isAgg 5).run Try.prog w = .ok false w := by kernel_rfl
end Go.Proofs.Ytjomnicfcdkfdaa
