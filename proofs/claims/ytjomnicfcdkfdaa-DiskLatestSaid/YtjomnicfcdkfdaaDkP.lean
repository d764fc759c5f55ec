import Derived.Test.YtjomnicfcdkfdaaDkL5
namespace Go.Proofs.Ytjomnicfcdkfdaa
open Go Go.HW Go.RowKit
set_option linter.unusedVariables false
set_option linter.unusedSimpArgs false
theorem W.heapIs {N : Nat} {S : Slots} {w0 : World} {I : Mem} {H H2 : Heap} {Q : Exit → Act → World → Prop} {ops : Array Oper} {l : List Nat} (hH : H = H2) (h : WW N w0 I ops l Q S H2) : WW N w0 I ops l Q S H := by subst hH; exact h
section
variable {N : Nat} {S : Slots} {w0 : World} {I : Mem} {H : Heap} {Q : Exit → Act → World → Prop} {ops : Array Oper} {l : List Nat} {i d : Nat} {o : Oper} {v : Value} {X : Type} {u : X → Value} {cl : Call} {fo : Operand} {g : FuncId} {args : Array Value}
end
theorem hasD_in {s : Dk} {n : Int} (h0 : 0 ≤ n) (h1 : n < s.n) : hasD s n = true := by unfold hasD; exact decide_eq_true ⟨h0, h1⟩
end Go.Proofs.Ytjomnicfcdkfdaa
