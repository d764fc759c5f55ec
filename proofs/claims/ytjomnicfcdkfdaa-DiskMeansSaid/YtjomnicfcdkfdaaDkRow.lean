import Derived.Test.YtjomnicfcdkfdaaRows
import Derived.Test.YtjomnicfcdkfdaaHw8
import Derived.Test.YtjomnicfcdkfdaaDkTy
import Derived.ChangeSlices
namespace Go.Proofs.Ytjomnicfcdkfdaa
open Go Go.HW Go.RowKit Go.ChangeShapes Go.WideShapes Go.ChangeAt Go.Lib
set_option linter.unusedVariables false

theorem own : ownKnob Try.prog.godebug = none := by kernel_rfl
theorem laidOut : laidOutB Try.prog = true := by kernel_rfl
theorem cell_plain {w : World} {a : Addr} {v : Value} (h : w.cell? (a.add 0) = some v) : a.spot = none := by
  obtain ⟨b, o, s⟩ := a
  cases s with
  | none => rfl
  | some q =>
    exfalso
    have e : (Addr.add ⟨b, o, some q⟩ 0) = ⟨b, o, some q⟩ := by unfold Addr.add; simp
    rw [e] at h
    unfold World.cell? at h
    split at h
    · simp at h
    · cases h
theorem cell_arr {w : World} {b o i : Nat} {v : Value} (h : w.cell? (Addr.add ⟨b, o, none⟩ i) = some v) : ∃ arr t z, w.heap[b]? = some (.cells arr t z) ∧ arr[o + i]? = some v := by
  have e : (Addr.add ⟨b, o, none⟩ i) = ⟨b, o + i, none⟩ := by unfold Addr.add; split <;> simp_all
  rw [e] at h
  unfold World.cell? at h
  simp only at h
  split at h
  · rename_i c t z hb
    simp at h
    exact ⟨c, t, z, hb, h⟩
  · cases h
theorem open_nums {H : Type} {enc : TypeId × Value → H} {w : World} {r : Reach} {b0 base : Nat} {held : Bool} {t e : TypeId} {k : IntKind} {v : Value} {d : DataW H} {p : List MemPlace}
    (ht : Try.prog.underlying t = some (.slice e)) (he : Try.prog.underlying e = some (.int k)) (hc : Try.prog.cellsOf e = 1)
    (hv : Value.okWide Try.prog w r b0 t v) (h : DataW.Trod enc Try.prog w base (fun _ => true) held t v d p) : ∃ xs : List Int, IntRow (heapOf w) k v xs ∧ (∀ x ∈ xs, (Lit.int k x).wf = true) := by
  obtain ⟨a0, n0, c0, rfl⟩ := okWide_slice ht hv
  obtain ⟨fuel, hf⟩ := h
  rcases open_ints ht he hc hf with ⟨hcs, hx⟩ | ⟨a, len, cap, zs, hcs, _, hl, hm, hz, hx, hcell, hwz⟩
  · simp [Value.cells] at hcs
    obtain ⟨rfl, rfl, rfl⟩ := hcs
    exact ⟨[], ⟨rfl, none, 0, rfl, Nat.le_refl _, Or.inl rfl⟩, fun x hx => by cases hx⟩
  · simp [Value.cells] at hcs
    obtain ⟨rfl, rfl, rfl⟩ := hcs
    simp only [if_true] at hz
    have hlen : (zs.take n0).length = n0 := by rw [List.length_take]; omega
    refine ⟨zs.take n0, ⟨?_, some a, c0, by rw [hlen], by omega, ?_⟩, fun x hx => hwz x (List.mem_of_mem_take hx)⟩
    · simp [encl]
    · rcases Nat.eq_zero_or_pos n0 with h0 | h0
      · left; rw [hlen]; exact h0
      · right
        have hs := cell_plain (hcell 0 (by omega))
        obtain ⟨b, o, s⟩ := a
        simp only at hs
        subst hs
        obtain ⟨arr, t', z, hb, hv⟩ := cell_arr (hcell 0 (by omega))
        refine ⟨b, o, arr, t', z, rfl, hb, fun i q hi => ?_⟩
        have hil : i < (zs.take n0).length := by
          have := (List.getElem?_eq_some_iff.1 hi).1
          simpa [encl] using this
        obtain ⟨arr', t2, z2, hb', hv'⟩ := cell_arr (hcell i (by omega))
        have := hb.symm.trans hb'
        simp only [Option.some.injEq, Obj.cells.injEq] at this
        obtain ⟨rfl, -, -⟩ := this
        have eq : (encl k (zs.take n0))[i]? = some (.int k (zs.getD i 0)) := by
          unfold encl
          rw [List.getElem?_map, List.getElem?_take, if_pos (by omega)]
          have hiz : i < zs.length := by omega
          simp [List.getElem?_eq_getElem hiz]
        rw [eq] at hi
        cases hi
        exact hv'
end Go.Proofs.Ytjomnicfcdkfdaa
