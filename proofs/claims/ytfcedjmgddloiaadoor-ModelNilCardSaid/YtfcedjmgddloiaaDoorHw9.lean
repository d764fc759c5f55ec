import Derived.Test.YtfcedjmgddloiaaDoorHw7
namespace Go.HW
open Go Go.RowKit
set_option linter.unusedVariables false
set_option linter.unusedSimpArgs false

/-! ### texts -/
/-- Bytes as a text. -/
def str (s : List UInt8) : Value := .string ⟨s.toArray⟩
section
variable {P : Program} {o : Oper} {S : Slots} {w0 : World} {I : Nat → Option Obj} {H : Heap}
theorem run_builtin {b : Builtin} {args : Array Operand} {ts : Array TypeId} {vs : Array Value} {ρ : Operand → Value} (ho : o.op = .call { callee := .builtin b, args := args, argTypes := ts }) (hv : args.map ρ = vs) (w : World) :
    ∃ cs, (execOp ρ o).run P w = (builtin b ts o.type cs vs).run P w := by
  refine ⟨args.map fun | .const _ => true | _ => false, ?_⟩
  simp only [execOp, ho]
  refine (run_of_bind (a := { target := .builtin b ts o.type (args.map fun | .const _ => true | _ => false), args := args.map ρ }) (w' := w) rfl).trans ?_
  rw [hv]
  rfl
end
end Go.HW
