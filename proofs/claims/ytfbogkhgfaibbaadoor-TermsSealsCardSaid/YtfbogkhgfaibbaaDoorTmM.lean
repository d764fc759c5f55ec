import Derived.Test.YtfbogkhgfaibbaaDoorTmR
import Derived.Test.YtfbogkhgfaibbaaDoorTb2
namespace Go.Proofs.YtfbogkhgfaibbaaDoor
open Go Go.HW Go.RowKit
set_option linter.unusedVariables false
set_option linter.unusedSimpArgs false

/-! ### TermsMeans -/
theorem known_mono {us vs : List U} (h : ∀ u ∈ us, u ∈ vs) {v : U} (hk : Known2 us v) : Known2 vs v := hk.mono fun _ hd => hd.mono fun _ ⟨y, hy, e⟩ => ⟨y, h y hy, e⟩
theorem szTo301 {t : Tm} (h : ¬ 300 < szTo t 301) : tsz t ≤ 300 := by
  unfold szTo at h; split at h <;> omega
/-! ### TermsMakes -/
theorem fit_bi {k : K2} {a b : U} (h : a.ok) (h2 : b.ok) (hs : a.size ≤ 300) (hs2 : b.size ≤ 300) : Fit (.bi k a b) := ⟨⟨h, h2⟩, by show a.size + b.size + 1 ≤ 2000; omega⟩
end Go.Proofs.YtfbogkhgfaibbaaDoor
