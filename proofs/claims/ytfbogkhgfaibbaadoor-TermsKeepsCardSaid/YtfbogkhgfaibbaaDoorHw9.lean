import Derived.Test.YtfbogkhgfaibbaaDoorHw7
namespace Go.HW
open Go Go.RowKit
set_option linter.unusedVariables false
set_option linter.unusedSimpArgs false

/-! ### texts -/
/-- Bytes as a text. -/
def str (s : List UInt8) : Value := .string ⟨s.toArray⟩
/-- A text's byte as a number. -/
def chr (s : List UInt8) (i : Nat) : Int := ((s.getD i 0).toNat : Int)

section
variable {P : Program} {o : Oper} {S : Slots} {w0 : World} {I : Nat → Option Obj} {H : Heap}
theorem p_strIndex {T : TypeId} {x y : Operand} {s : List UInt8} {k : IntKind} {i : Int} (hu : ∀ w, (underlying T).run P w = .ok .string w) (h0 : 0 ≤ i) (h1 : i < (s.length : Int)) (ho : o.op = .index T x y) (hx : ev S x = some (str s)) (hy : ev S y = some (.int k i)) :
    FPure P o S (.int .u8 (chr s i.toNat)) := fun ρ hρ w => by
  simp only [execOp, ho, hρ _ _ hx, hρ _ _ hy]
  refine val_run ?_
  unfold Instr.index
  refine (run_of_bind (show (asIntOf (.int k i)).run P w = .ok (k, i) w from rfl)).trans ?_
  refine (run_of_bind (hu w)).trans ?_
  have hlt : i.toNat < s.length := by omega
  have hg : (⟨s.toArray⟩ : ByteArray)[i.toNat]? = some (s.getD i.toNat 0) := by
    have h2 : i.toNat < (⟨s.toArray⟩ : ByteArray).size := by show i.toNat < s.toArray.size; simpa using hlt
    rw [getElem?_pos (⟨s.toArray⟩ : ByteArray) i.toNat h2]
    congr 1
    show s.toArray[i.toNat] = _
    simp [hlt]
  simp only [str, if_pos h0, hg]
  rfl
theorem run_builtin {b : Builtin} {args : Array Operand} {ts : Array TypeId} {vs : Array Value} {ρ : Operand → Value} (ho : o.op = .call { callee := .builtin b, args := args, argTypes := ts }) (hv : args.map ρ = vs) (w : World) :
    ∃ cs, (execOp ρ o).run P w = (builtin b ts o.type cs vs).run P w := by
  refine ⟨args.map fun | .const _ => true | _ => false, ?_⟩
  simp only [execOp, ho]
  refine (run_of_bind (a := { target := .builtin b ts o.type (args.map fun | .const _ => true | _ => false), args := args.map ρ }) (w' := w) rfl).trans ?_
  rw [hv]
  rfl
theorem p_strLen {T : TypeId} {x : Operand} {s : List UInt8} (hu : ∀ w, (underlying T).run P w = .ok .string w) (ho : o.op = .call { callee := .builtin .len, args := #[x], argTypes := #[T] }) (hx : ev S x = some (str s)) : FPure P o S (.int .i64 (s.length : Int)) := fun ρ hρ w => by
  obtain ⟨cs, h⟩ := run_builtin (P := P) (ρ := ρ) (vs := #[str s]) ho (by simp [hρ _ _ hx]) w
  rw [h]
  refine val_run ?_
  unfold Builtin.len_
  refine (run_of_bind (hu w)).trans ?_
  show Result.ok (goInt (s.toArray.size)) w = _
  simp [goInt]
end
end Go.HW
