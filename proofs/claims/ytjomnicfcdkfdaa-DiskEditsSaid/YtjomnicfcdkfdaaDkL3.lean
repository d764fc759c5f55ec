import Derived.Test.YtjomnicfcdkfdaaDkL1
namespace Go.Proofs.Ytjomnicfcdkfdaa
open Go Go.HW Go.RowKit
set_option linter.unusedVariables false
set_option linter.unusedSimpArgs false

/-! ### disks that are not there -/
section
variable {N : Nat} {S : Slots} {w0 : World} {I : Mem} {H : Heap} {Q : Exit → Act → World → Prop} {ops : Array Oper} {l : List Nat} {i d : Nat} {o : Oper} {v : Value}
end

end Go.Proofs.Ytjomnicfcdkfdaa
