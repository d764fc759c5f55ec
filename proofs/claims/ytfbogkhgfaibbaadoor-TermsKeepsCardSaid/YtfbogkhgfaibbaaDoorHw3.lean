import Derived.Test.YtfbogkhgfaibbaaDoorHw2
namespace Go.HW
open Go Go.RowKit
set_option linter.unusedVariables false
set_option linter.unusedSimpArgs false

/-! ### what an operation does, as far as the slots are known -/

def Val (S : Slots) (ρ : Operand → Value) : Prop := ∀ x v, ev S x = some v → ρ x = v
theorem Agree.val {N : Nat} {S : Slots} {a : Act} (h : Agree N S a) : Val S a.eval := fun _ _ hx => h.eval hx

def FPure (P : Program) (o : Oper) (S : Slots) (v : Value) : Prop := ∀ ρ, Val S ρ → ∀ w, (execOp ρ o).run P w = .ok (.value v) w
def FQuiet (P : Program) (o : Oper) (w0 : World) (I : Nat → Option Obj) (S : Slots) (H : Heap) (v : Value) : Prop :=
  ∀ ρ, Val S ρ → ∀ w, Cls w0 I H w → (execOp ρ o).run P w = .ok (.value v) w ∨
    ∃ f args, (execOp ρ o).run P w = .ok (.enter f args) w ∧ Calls P f args w fun e w' => e = .returned v ∧ Below w.heap.size w w'
def FNew (P : Program) (o : Oper) (S : Slots) (ob : Obj) (mk : Nat → Value) : Prop := ∀ ρ, Val S ρ → ∀ w, (execOp ρ o).run P w = .ok (.value (mk w.heap.size)) (w.alloc ob)
def FPut (P : Program) (o : Oper) (w0 : World) (I : Nat → Option Obj) (S : Slots) (H H' : Heap) : Prop :=
  ∀ ρ, Val S ρ → ∀ w, Cls w0 I H w → ∃ w', (execOp ρ o).run P w = .ok .skip w' ∧ Cls w0 I H' w'

/-! ### integers -/
section
variable {P : Program} {o : Oper} {S : Slots}

theorem p_move {x : Operand} {v : Value} (ho : o.op = .move x) (hx : ev S x = some v) : FPure P o S v := fun ρ hρ w => by
  simp only [execOp, ho, hρ _ _ hx]; rfl
theorem p_assign {x : Operand} {v : Value} (ho : o.op = .assign x) (hx : ev S x = some v) : FPure P o S v := fun ρ hρ w => by
  simp only [execOp, ho, hρ _ _ hx]; rfl
theorem p_pick_true {c x y : Operand} {v : Value} (ho : o.op = .pick c x y) (hc : ev S c = some (.bool true)) (hx : ev S x = some v) : FPure P o S v := fun ρ hρ w => by
  simp only [execOp, ho, hρ _ _ hc, hρ _ _ hx]; rfl
theorem p_pick_false {c x y : Operand} {v : Value} (ho : o.op = .pick c x y) (hc : ev S c = some (.bool false)) (hy : ev S y = some v) : FPure P o S v := fun ρ hρ w => by
  simp only [execOp, ho, hρ _ _ hc, hρ _ _ hy]; rfl

theorem ne_self_ite {α β : Type} [DecidableEq α] (k : α) (x y : β) : (if k ≠ k then x else y) = y := by rw [if_neg (fun h => h rfl)]

theorem p_int {op : BinOp} {T U : TypeId} {x y : Operand} {k : IntKind} {a b : Int} {v : Value} (ho : o.op = .binOp op T x y U) (hx : ev S x = some (.int k a)) (hy : ev S y = some (.int k b))
    (hr : ∀ w, (binOp op T (.int k a) (.int k b)).run P w = .ok v w) : FPure P o S v := fun ρ hρ w => by
  simp only [execOp, ho, hρ _ _ hx, hρ _ _ hy]
  have : (eqGuard op T x y (.int k a) (.int k b)) = pure () := by cases op <;> rfl
  simp only [this]
  have h2 := hr w
  show (((binOp op T (.int k a) (.int k b)) : Sem Value).bind fun v => Sem.pure (Next.value v)).run P w = _
  rw [Sem.run_bind', h2]
  rfl

variable {T U : TypeId} {x y : Operand} {k : IntKind} {a b : Int}
theorem p_add (ho : o.op = .binOp .add T x y U) (hx : ev S x = some (.int k a)) (hy : ev S y = some (.int k b)) : FPure P o S (.int k (k.wrap (a + b))) :=
  p_int ho hx hy fun w => by simp only [binOp, ne_self_ite]; rfl
theorem p_sub (ho : o.op = .binOp .sub T x y U) (hx : ev S x = some (.int k a)) (hy : ev S y = some (.int k b)) : FPure P o S (.int k (k.wrap (a - b))) :=
  p_int ho hx hy fun w => by simp only [binOp, ne_self_ite]; rfl
theorem p_mul (ho : o.op = .binOp .mul T x y U) (hx : ev S x = some (.int k a)) (hy : ev S y = some (.int k b)) : FPure P o S (.int k (k.wrap (a * b))) :=
  p_int ho hx hy fun w => by simp only [binOp, ne_self_ite]; rfl
theorem p_quo (h0 : b ≠ 0) (ho : o.op = .binOp .quo T x y U) (hx : ev S x = some (.int k a)) (hy : ev S y = some (.int k b)) : FPure P o S (.int k (k.wrap (a.tdiv b))) :=
  p_int ho hx hy fun w => by simp only [binOp, ne_self_ite, Op.intDiv, if_neg h0]; rfl
theorem p_eql (ho : o.op = .binOp .eql T x y U) (hx : ev S x = some (.int k a)) (hy : ev S y = some (.int k b)) : FPure P o S (.bool (a == b)) :=
  p_int ho hx hy fun w => by simp only [binOp, ne_self_ite]; rfl
theorem p_neq (ho : o.op = .binOp .neq T x y U) (hx : ev S x = some (.int k a)) (hy : ev S y = some (.int k b)) : FPure P o S (.bool (a != b)) :=
  p_int ho hx hy fun w => by simp only [binOp, ne_self_ite]; rfl
theorem p_lss (ho : o.op = .binOp .lss T x y U) (hx : ev S x = some (.int k a)) (hy : ev S y = some (.int k b)) : FPure P o S (.bool (decide (a < b))) :=
  p_int ho hx hy fun w => by simp only [binOp, ne_self_ite]; rfl
theorem p_leq (ho : o.op = .binOp .leq T x y U) (hx : ev S x = some (.int k a)) (hy : ev S y = some (.int k b)) : FPure P o S (.bool (decide (a ≤ b))) :=
  p_int ho hx hy fun w => by simp only [binOp, ne_self_ite]; rfl
theorem p_gtr (ho : o.op = .binOp .gtr T x y U) (hx : ev S x = some (.int k a)) (hy : ev S y = some (.int k b)) : FPure P o S (.bool (decide (b < a))) :=
  p_int ho hx hy fun w => by simp only [binOp, ne_self_ite]; rfl
theorem p_geq (ho : o.op = .binOp .geq T x y U) (hx : ev S x = some (.int k a)) (hy : ev S y = some (.int k b)) : FPure P o S (.bool (decide (b ≤ a))) :=
  p_int ho hx hy fun w => by simp only [binOp, ne_self_ite]; rfl

theorem p_not {p : Bool} (ho : o.op = .unOp .not T x) (hx : ev S x = some (.bool p)) : FPure P o S (.bool (!p)) := fun ρ hρ w => by
  simp only [execOp, ho, hρ _ _ hx]; rfl

/-- Equality of Bools. -/
theorem p_eqb {p q : Bool} (hu : ∀ w, (underlying T).run P w = .ok .bool w) (ho : o.op = .binOp .eql T x y U) (hx : ev S x = some (.bool p)) (hy : ev S y = some (.bool q)) : FPure P o S (.bool (p == q)) := fun ρ hρ w => by
  simp only [execOp, ho, hρ _ _ hx, hρ _ _ hy]
  show ((binOp .eql T (.bool p) (.bool q)).bind fun v => Sem.pure (Next.value v)).run P w = _
  show (((Op.equal T (.bool p) (.bool q)).bind fun v => Sem.pure (Value.bool v)).bind fun v => Sem.pure (Next.value v)).run P w = _
  rw [Sem.run_bind', Sem.run_bind']
  have : (Op.equal T (.bool p) (.bool q)).run P w = .ok (p == q) w := by
    show ((underlying T).bind _).run P w = _
    rw [Sem.run_bind', hu w]; rfl
  rw [this]; rfl
theorem p_neb {p q : Bool} (hu : ∀ w, (underlying T).run P w = .ok .bool w) (ho : o.op = .binOp .neq T x y U) (hx : ev S x = some (.bool p)) (hy : ev S y = some (.bool q)) : FPure P o S (.bool (!(p == q))) := fun ρ hρ w => by
  simp only [execOp, ho, hρ _ _ hx, hρ _ _ hy]
  show (((Op.equal T (.bool p) (.bool q)).bind fun v => Sem.pure (Value.bool (!v))).bind fun v => Sem.pure (Next.value v)).run P w = _
  rw [Sem.run_bind', Sem.run_bind']
  have : (Op.equal T (.bool p) (.bool q)).run P w = .ok (p == q) w := by
    show ((underlying T).bind _).run P w = _
    rw [Sem.run_bind', hu w]; rfl
  rw [this]; rfl

/-- A number of one kind as one of another. -/
theorem p_conv {T2 : TypeId} {k2 : IntKind} {d : TypeDesc} (h1 : ∀ w, (underlying T).run P w = .ok d w) (h2 : ∀ w, (underlying T2).run P w = .ok (.int k2) w) (hd : ∃ j, d = .int j)
    (ho : o.op = .convert T T2 x) (hx : ev S x = some (.int k a)) : ∀ ρ, Val S ρ → ∀ w, (execOp ρ o).run P w = .ok (.value (.int k2 (k2.wrap a))) w := fun ρ hρ w => by
  obtain ⟨j, rfl⟩ := hd
  simp only [execOp, ho, hρ _ _ hx]
  show ((convert T T2 (.int k a)).bind fun v => Sem.pure (Next.value v)).run P w = _
  rw [Sem.run_bind']
  have : (convert T T2 (.int k a)).run P w = .ok (.int k2 (k2.wrap a)) w := by
    show ((underlying T).bind fun s => (underlying T2).bind _).run P w = _
    rw [Sem.run_bind', h1 w]
    show ((underlying T2).bind _).run P w = _
    rw [Sem.run_bind', h2 w]; rfl
  rw [this]; rfl

theorem p_extract {t : Operand} {i : Nat} {vs : Array Value} {v : Value} (ho : o.op = .extract t i) (hx : ev S t = some (.tuple vs)) (hi : vs[i]? = some v) : FPure P o S v := fun ρ hρ w => by
  simp only [execOp, ho, hρ _ _ hx, Instr.extract, hi]; rfl
end
end Go.HW
