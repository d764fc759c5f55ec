import Derived.Test.YtjhknfpociahoaaDoorDerL11
namespace Go.Proofs.YtjhknfpociahoaaDoor
open Go Go.HW Go.RowKit
set_option linter.unusedVariables false
set_option linter.unusedSimpArgs false

/-! ### a value's kind, of its first byte -/
/-! ### leaves -/
theorem mk_ok {K : Int} {f : Bool} {N : Int} {b : List Int} {s : List UInt8} {a : List Int} {ks : List Der} (hK : 0 ≤ K ∧ K ≤ 10) (hN : I64 N) (hb : U8L b) (ha : U64L a) (hk : ∀ t ∈ ks, DOk t) : DOk (Der.mk K f N b s a ks) := by
  rw [DOk_iff]; exact ⟨by unfold I64; simp; omega, hN, hb, ha, hk⟩
theorem U64L.nil : U64L [] := fun x hx => by cases hx
end Go.Proofs.YtjhknfpociahoaaDoor
