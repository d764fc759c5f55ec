import Derived.Test.YtjomnicfcdkfdaaDkL1
namespace Go.Proofs.Ytjomnicfcdkfdaa
open Go Go.HW Go.RowKit
set_option linter.unusedVariables false
set_option linter.unusedSimpArgs false

/-! ### disks that are not there -/
section
variable {N : Nat} {S : Slots} {w0 : World} {I : Mem} {H : Heap} {Q : Exit → Act → World → Prop} {ops : Array Oper} {l : List Nat} {i d : Nat} {o : Oper} {v : Value}
theorem cls_addNil {o : Obj} {w : World} (h : Cls w0 I H w) : Cls w0 I ((none, o) :: H) w := ⟨h.os, h.tape, h.output, h.size, h.imm, fun b o e => (by
    rcases List.mem_cons.1 e with e | e
    · cases e
    · exact h.own b o e), fun b o e => (by
    rcases List.mem_cons.1 e with e | e
    · cases e
    · exact h.disj b o e), h.nodup⟩
end

end Go.Proofs.Ytjomnicfcdkfdaa
