import Derived.Test.YtjhknfpociahoaaDoorDerL17
namespace Go.Proofs.YtjhknfpociahoaaDoor
open Go Go.HW Go.RowKit
set_option linter.unusedVariables false
set_option linter.unusedSimpArgs false

theorem DerPacks_law {v w : Der} (hv : DOk v) (hw : DOk w) : law13_DerPacks.f v w = some true := by
  unfold law13_DerPacks.f
  obtain ⟨p, e1, h1⟩ := few_eq v
  obtain ⟨q, e2, h2⟩ := few_eq w
  rw [e1, e2, known_eq]
  simp only [Option.bind_some]
  cases p with
  | false => rfl
  | true =>
    cases q with
    | false => rfl
    | true =>
      have t1 := h1 rfl
      rw [dBytes_eq v t1 hv, rBytes_eq v t1 hv, dMay_eq v t1, rMay_eq v t1, show der_Same.f (Der.fuel v) v w = some (eqD v w) from dsame _ v w (Nat.le_refl _) t1, show ref13_Same.f (Der.fuel v) v w = some (eqD v w) from rsame _ v w (Nat.le_refl _) t1 hv hw, show der_Same.f (Der.fuel v) v v = some (eqD v v) from dsame _ v v (Nat.le_refl _) t1, eqD_self]
      simp [law13_num.f]
end Go.Proofs.YtjhknfpociahoaaDoor
