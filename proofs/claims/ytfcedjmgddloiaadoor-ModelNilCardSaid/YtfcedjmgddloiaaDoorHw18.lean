import Derived.Test.YtfcedjmgddloiaaDoorHw17
import Derived.Deep.AppendSrc
import Derived.Laws.CopyRow
namespace Go.HW
open Go Go.RowKit
set_option linter.unusedVariables false
set_option linter.unusedSimpArgs false

/-! ### append(x, make([]T, m)...) -/
section
variable {P : Program} (w : World)
end
section
variable {P : Program} {o : Oper} {S : Slots} {w0 : World} {I : Nat → Option Obj} {H : Heap}
variable {R : Ending → World → Prop} {N : Nat} {f : FuncId} {K : List Item} {ops : Array Oper} {lab : Lab} {ids : Nat → Option Nat} {l : List Nat} {i d : Nat}
/-- a part of a block's cells -/
theorem f_loadSubA {t t' : TypeId} {x : Operand} {b j n off : Nat} {c : Array Value} {vs : List Value} (ha : ∀ w, (isAgg t).run P w = .ok true w) (hs : ∀ w, (sizeOf t).run P w = .ok n w) (hH : H[j]? = some (some b, .cells c t' (0, 0))) (hl : vs.length = n) (hv : (c.toList.drop off).take n = vs)
    (ho : o.op = .load t x) (hx : ev S x = some (ptr b off)) : FQuiet P o w0 I S H (.agg vs.toArray) := fun ρ hρ w hc => .inl (by
  simp only [execOp, ho, hρ _ _ hx]
  refine val_run ?_
  have hb := hc.own b _ (List.mem_of_getElem? hH)
  show ((isAgg t).bind _).run P w = _
  rw [run_of_bind (ha w)]
  show ((sizeOf t).bind _).run P w = _
  rw [run_of_bind (hs w)]
  refine (run_of_bind (run_loadCells (b := b) (off := off) (vs := vs) hl (fun k v hk => ?_))).trans rfl
  rw [cell_of hb]
  rw [← hv] at hk
  have hkn : k < n := by
    rcases Nat.lt_or_ge k n with h | h
    · exact h
    · rw [List.getElem?_eq_none (by simp; omega)] at hk; cases hk
  rw [List.getElem?_take_of_lt hkn, List.getElem?_drop] at hk
  simpa using hk)
theorem OwnS.V {α : Type} {s : Shape α} {M : Mem} {v : Value} {cur : Array Value} {xs : List α} (h : OwnS s M v cur xs) : ∃ cs, OwnV v cur s.n xs.length cs := by obtain ⟨cs, h1, _⟩ := h; exact ⟨cs, h1⟩
end
end Go.HW
