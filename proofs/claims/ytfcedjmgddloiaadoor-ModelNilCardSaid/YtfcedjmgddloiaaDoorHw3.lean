import Derived.Test.YtfcedjmgddloiaaDoorHw2
namespace Go.HW
open Go Go.RowKit
set_option linter.unusedVariables false
set_option linter.unusedSimpArgs false

/-! ### what an operation does, as far as the slots are known -/

def Val (S : Slots) (ρ : Operand → Value) : Prop := ∀ x v, ev S x = some v → ρ x = v
theorem Agree.val {N : Nat} {S : Slots} {a : Act} (h : Agree N S a) : Val S a.eval := fun _ _ hx => h.eval hx

def FPure (P : Program) (o : Oper) (S : Slots) (v : Value) : Prop := ∀ ρ, Val S ρ → ∀ w, (execOp ρ o).run P w = .ok (.value v) w
def FQuiet (P : Program) (o : Oper) (w0 : World) (I : Nat → Option Obj) (S : Slots) (H : Heap) (v : Value) : Prop :=
  ∀ ρ, Val S ρ → ∀ w, Cls w0 I H w → (execOp ρ o).run P w = .ok (.value v) w ∨
    ∃ f args, (execOp ρ o).run P w = .ok (.enter f args) w ∧ Calls P f args w fun e w' => e = .returned v ∧ Below w.heap.size w w'
def FNew (P : Program) (o : Oper) (S : Slots) (ob : Obj) (mk : Nat → Value) : Prop := ∀ ρ, Val S ρ → ∀ w, (execOp ρ o).run P w = .ok (.value (mk w.heap.size)) (w.alloc ob)
def FPut (P : Program) (o : Oper) (w0 : World) (I : Nat → Option Obj) (S : Slots) (H H' : Heap) : Prop :=
  ∀ ρ, Val S ρ → ∀ w, Cls w0 I H w → ∃ w', (execOp ρ o).run P w = .ok .skip w' ∧ Cls w0 I H' w'

/-! ### integers -/
section
variable {P : Program} {o : Oper} {S : Slots}

theorem p_move {x : Operand} {v : Value} (ho : o.op = .move x) (hx : ev S x = some v) : FPure P o S v := fun ρ hρ w => by
  simp only [execOp, ho, hρ _ _ hx]; rfl
theorem p_assign {x : Operand} {v : Value} (ho : o.op = .assign x) (hx : ev S x = some v) : FPure P o S v := fun ρ hρ w => by
  simp only [execOp, ho, hρ _ _ hx]; rfl
theorem p_pick_true {c x y : Operand} {v : Value} (ho : o.op = .pick c x y) (hc : ev S c = some (.bool true)) (hx : ev S x = some v) : FPure P o S v := fun ρ hρ w => by
  simp only [execOp, ho, hρ _ _ hc, hρ _ _ hx]; rfl
theorem p_pick_false {c x y : Operand} {v : Value} (ho : o.op = .pick c x y) (hc : ev S c = some (.bool false)) (hy : ev S y = some v) : FPure P o S v := fun ρ hρ w => by
  simp only [execOp, ho, hρ _ _ hc, hρ _ _ hy]; rfl

variable {T U : TypeId} {x y : Operand} {k : IntKind} {a b : Int}
theorem p_not {p : Bool} (ho : o.op = .unOp .not T x) (hx : ev S x = some (.bool p)) : FPure P o S (.bool (!p)) := fun ρ hρ w => by
  simp only [execOp, ho, hρ _ _ hx]; rfl

theorem p_extract {t : Operand} {i : Nat} {vs : Array Value} {v : Value} (ho : o.op = .extract t i) (hx : ev S t = some (.tuple vs)) (hi : vs[i]? = some v) : FPure P o S v := fun ρ hρ w => by
  simp only [execOp, ho, hρ _ _ hx, Instr.extract, hi]; rfl
end
end Go.HW
