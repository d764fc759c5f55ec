import Derived.Test.YtfbogkhgfaibbaaDoorHw16
namespace Go.HW
open Go Go.RowKit
set_option linter.unusedVariables false
set_option linter.unusedSimpArgs false

/-! ### pointers to structs and arrays -/
section
variable {P : Program} {o : Oper} {S : Slots} {w0 : World} {I : Nat → Option Obj} {H : Heap}
theorem p_nilCheck {x : Operand} {b off : Nat} (ho : o.op = .nilCheck x) (hx : ev S x = some (ptr b off)) : FPure P o S (ptr b off) := fun ρ hρ w => by
  simp only [execOp, ho, hρ _ _ hx]; rfl
theorem i_loadBoxO {t t' : TypeId} {x : Operand} {b off : Nat} {c : Array Value} {v : Value} {z : Nat × Nat} (hb : I b = some (.cells c t' z)) (hv : c[off]? = some v) (ha : ∀ w, (isAgg t).run P w = .ok false w) (ho : o.op = .load t x) (hx : ev S x = some (ptr b off)) : FImm P o I S v := fun ρ hρ w hi => by
  simp only [execOp, ho, hρ _ _ hx]
  refine val_run ?_
  show ((isAgg t).bind _).run P w = _
  rw [run_of_bind (ha w)]
  exact run_load (by rw [cell_of (hi b _ hb), hv])
end
end Go.HW
