import Derived.Test.YtjomnicfcdkfdaaDkS
namespace Go.Proofs.Ytjomnicfcdkfdaa
open Go Go.HW Go.RowKit
set_option linter.unusedVariables false
set_option linter.unusedSimpArgs false

end Go.Proofs.Ytjomnicfcdkfdaa
