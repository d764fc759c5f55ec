import Derived.Test.YtjomnicfcdkfdaaRows
import Derived.Test.YtjomnicfcdkfdaaHw8
import Derived.Test.YtjomnicfcdkfdaaDkTy
import Derived.ChangeSlices
namespace Go.Proofs.Ytjomnicfcdkfdaa
open Go Go.HW Go.RowKit Go.ChangeShapes Go.WideShapes Go.ChangeAt Go.Lib
set_option linter.unusedVariables false

theorem own : ownKnob Try.prog.godebug = none := by kernel_rfl
theorem laidOut : laidOutB Try.prog = true := by kernel_rfl
theorem cell_plain {w : World} {a : Addr} {v : Value} (h : w.cell? (a.add 0) = some v) : a.spot = none := by
  obtain ⟨b, o, s⟩ := a
  cases s with
  | none => rfl
  | some q =>
    exfalso
    have e : (Addr.add ⟨b, o, some q⟩ 0) = ⟨b, o, some q⟩ := by unfold Addr.add; simp
    rw [e] at h
    unfold World.cell? at h
    split at h
    · simp at h
    · cases h
theorem cell_arr {w : World} {b o i : Nat} {v : Value} (h : w.cell? (Addr.add ⟨b, o, none⟩ i) = some v) : ∃ arr t z, w.heap[b]? = some (.cells arr t z) ∧ arr[o + i]? = some v := by
  have e : (Addr.add ⟨b, o, none⟩ i) = ⟨b, o + i, none⟩ := by unfold Addr.add; split <;> simp_all
  rw [e] at h
  unfold World.cell? at h
  simp only at h
  split at h
  · rename_i c t z hb
    simp at h
    exact ⟨c, t, z, hb, h⟩
  · cases h
end Go.Proofs.Ytjomnicfcdkfdaa
