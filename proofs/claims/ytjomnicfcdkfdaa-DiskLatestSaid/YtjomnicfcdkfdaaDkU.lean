import Derived.Test.YtjomnicfcdkfdaaDkP
namespace Go.Proofs.Ytjomnicfcdkfdaa
open Go Go.HW Go.RowKit
set_option linter.unusedVariables false
set_option linter.unusedSimpArgs false

/-! ### bytes stay bytes; a change and its undoing -/
def Byt (b : List Int) : Prop := ∀ x ∈ b, 0 ≤ x ∧ x ≤ 255
def BytL (l : List Wr) : Prop := ∀ p ∈ l, Byt p.2
structure BD (s : Dk) : Prop where
  set : BytL s.set
  late : BytL s.late
end Go.Proofs.Ytjomnicfcdkfdaa
