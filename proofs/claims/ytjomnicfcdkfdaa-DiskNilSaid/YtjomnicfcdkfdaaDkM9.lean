import Derived.Test.YtjomnicfcdkfdaaDkM8
namespace Go.Proofs.Ytjomnicfcdkfdaa
open Go Go.HW Go.RowKit
set_option linter.unusedVariables false
set_option linter.unusedSimpArgs false

noncomputable def B29 : Code := bodyOf Try.f29
theorem en29 (args : Array Value) (w : World) : (callFunc 29 args).run Try.prog w = .ok (.enter 29 args) w := by kernel_rfl
theorem ta5 (w : World) : (isAgg 5).run Try.prog w = .ok false w := by kernel_rfl
end Go.Proofs.Ytjomnicfcdkfdaa
