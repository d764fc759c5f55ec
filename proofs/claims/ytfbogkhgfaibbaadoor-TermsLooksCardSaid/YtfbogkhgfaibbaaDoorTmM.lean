import Derived.Test.YtfbogkhgfaibbaaDoorTmOf3
import Derived.Test.YtfbogkhgfaibbaaDoorTb2
namespace Go.Proofs.YtfbogkhgfaibbaaDoor
open Go Go.HW Go.RowKit
set_option linter.unusedVariables false
set_option linter.unusedSimpArgs false

/-! ### TermsMeans -/
theorem szTo301 {t : Tm} (h : ¬ 300 < szTo t 301) : tsz t ≤ 300 := by
  unfold szTo at h; split at h <;> omega
/-! ### TermsMakes -/
end Go.Proofs.YtfbogkhgfaibbaaDoor
