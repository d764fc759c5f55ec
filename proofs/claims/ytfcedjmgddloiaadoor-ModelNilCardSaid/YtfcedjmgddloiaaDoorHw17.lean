import Derived.Test.YtfcedjmgddloiaaDoorHw16
namespace Go.HW
open Go Go.RowKit
set_option linter.unusedVariables false
set_option linter.unusedSimpArgs false

/-! ### pointers to structs and arrays -/
section
variable {P : Program} {o : Oper} {S : Slots} {w0 : World} {I : Nat → Option Obj} {H : Heap}
theorem p_nilCheck {x : Operand} {b off : Nat} (ho : o.op = .nilCheck x) (hx : ev S x = some (ptr b off)) : FPure P o S (ptr b off) := fun ρ hρ w => by
  simp only [execOp, ho, hρ _ _ hx]; rfl
end
end Go.HW
