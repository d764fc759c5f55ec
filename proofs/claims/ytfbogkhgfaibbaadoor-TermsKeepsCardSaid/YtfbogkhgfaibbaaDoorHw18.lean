import Derived.Test.YtfbogkhgfaibbaaDoorHw17
import Derived.Deep.AppendSrc
import Derived.Laws.CopyRow
namespace Go.HW
open Go Go.RowKit
set_option linter.unusedVariables false
set_option linter.unusedSimpArgs false

/-! ### append(x, make([]T, m)...) -/
section
variable {Kc : Act → World → Prop} {P : Program} (w : World)
end
section
variable {Kc : Act → World → Prop} {P : Program} {o : Oper} {S : Slots} {w0 : World} {I : Nat → Option Obj} {H : Heap}
variable {R : Ending → World → Prop} {N : Nat} {f : FuncId} {K : List Item} {ops : Array Oper} {lab : Lab} {ids : Nat → Option Nat} {l : List Nat} {i d : Nat}
/-- a whole element into an own row -/
theorem f_storeElA {v : Value} {cur : Array Value} {e n i sz j : Nat} {cs vs : List Value} {t : TypeId} {x y : Operand} (hs : ∀ w, (sizeOf t).run P w = .ok sz w) (hH : H[j]? = some (v.ownBlock, .cells cur e (0, 0))) (h : OwnV v cur sz n cs) (hlt : i < n) (hl : vs.length = sz) (h1 : ∀ u ∈ vs, OneCell u)
    (ho : o.op = .store t x y) (hx : ev S x = some (elp v (i * sz))) (hy : ev S y = some (.agg vs.toArray)) : FPut P o w0 I S H (H.set j (v.ownBlock, .cells (splice cur (i * sz) vs) e (0, 0))) := by
  rcases h.2 with ⟨rfl, rfl⟩ | ⟨g, cap, rfl, k1, k2, k3, k4⟩
  · omega
  · have hle : (i + 1) * sz ≤ cap * sz := Nat.mul_le_mul_right _ (by omega)
    rw [Nat.add_mul] at hle
    have hr := put_of_store (P := P) (o := o) (S := S) (w0 := w0) (I := I) (H := H) (y := y) (x := x) (off := i * sz) (v := .agg vs.toArray) hs hH (by simpa [Value.cells] using hl) (by rw [k3]; omega) (fun u hu => h1 u (by simpa [Value.cells] using hu)) ho (by
      rw [hx]
      show some (Value.pointer (some ((⟨g, 0, none⟩ : Addr).add (i * sz)))) = _
      rw [add_none, Nat.zero_add]) hy
    rw [show (Value.agg vs.toArray).cells.toList = vs by simp [Value.cells]] at hr
    exact hr
theorem OwnS.V {α : Type} {s : Shape α} {M : Mem} {v : Value} {cur : Array Value} {xs : List α} (h : OwnS s M v cur xs) : ∃ cs, OwnV v cur s.n xs.length cs := by obtain ⟨cs, h1, _⟩ := h; exact ⟨cs, h1⟩
end
end Go.HW
