import Derived.Test.YtfbogkhgfaibbaaDoorHw18
namespace Go.HW
open Go Go.RowKit
set_option linter.unusedVariables false
set_option linter.unusedSimpArgs false
section
variable {Kc : Act → World → Prop} {xh : Option Nat} {P : Program} {o : Oper} {S : Slots} {w0 : World} {I M M0 : Mem} {H A J : Heap} {R : Ending → World → Prop} {N : Nat} {f : FuncId} {K : List Item} {ops : Array Oper} {lab : Lab} {ids : Nat → Option Nat} {l : List Nat} {i d : Nat}

end
end Go.HW
