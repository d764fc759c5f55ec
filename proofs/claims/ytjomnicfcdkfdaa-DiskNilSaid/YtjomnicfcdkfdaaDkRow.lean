import Derived.Test.YtjomnicfcdkfdaaRows
import Derived.Test.YtjomnicfcdkfdaaHw8
import Derived.Test.YtjomnicfcdkfdaaDkBase
import Derived.ChangeSlices
namespace Go.Proofs.Ytjomnicfcdkfdaa
open Go Go.HW Go.RowKit Go.ChangeShapes Go.WideShapes Go.ChangeAt Go.Lib
set_option linter.unusedVariables false

theorem own : ownKnob Try.prog.godebug = none := by kernel_rfl
theorem laidOut : laidOutB Try.prog = true := by kernel_rfl
end Go.Proofs.Ytjomnicfcdkfdaa
