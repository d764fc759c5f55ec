import Derived.Test.YtjhknfpociahoaaDoorDerL7
namespace Go.Proofs.YtjhknfpociahoaaDoor
open Go Go.HW Go.RowKit
set_option linter.unusedVariables false
set_option linter.unusedSimpArgs false

theorem known_eq : law13_known.f = some true := by kernel_rfl
theorem U8L.append {a b : List Int} (ha : U8L a) (hb : U8L b) : U8L (a ++ b) := fun x hx => (List.mem_append.1 hx).elim (ha x) (hb x)
theorem U8L.nil : U8L [] := fun x hx => by cases hx
theorem U8L.cons {x : Int} {l : List Int} (h0 : 0 ≤ x) (h1 : x ≤ 255) (hl : U8L l) : U8L (x :: l) := fun y hy => by
  rcases List.mem_cons.1 hy with rfl | hy
  · exact ⟨h0, h1⟩
  · exact hl y hy
/-! ### whole numbers: as few bytes as can be; unlike numbers have unlike ones -/
end Go.Proofs.YtjhknfpociahoaaDoor
