import Derived.Test.YtfbogkhgfaibbaaDoorTmY
import Derived.Test.YtfbogkhgfaibbaaDoorTd1
section
namespace Go.Proofs.YtfbogkhgfaibbaaDoor
open Go Go.HW Go.RowKit
set_option linter.unusedVariables false
set_option linter.unusedSimpArgs false

/-! ### what may be handed in -/
/-! #### the program's May -/
/-! #### Can -/
/-- u can be made out of these. -/
def Known2 (us : List U) (v : U) : Prop := Syn (Der fun x => ∃ y ∈ us, x = y.ordr) v
end Go.Proofs.YtfbogkhgfaibbaaDoor
end

section
namespace Go.Proofs.YtfbogkhgfaibbaaDoor
open Go Go.HW Go.RowKit
set_option linter.unusedVariables false
set_option linter.unusedSimpArgs false
theorem known_law : law29_known.f = some true := by kernel_rfl

/-! ### TermsKeeps -/
def bareB (n : Int) : U → Bool
  | .s m => m == n
  | .bi .pair a b => bareB n a || bareB n b
  | .bi .enc _ b => bareB n b
  | .bi .sign _ b => bareB n b
  | _ => false
theorem bare_ordr {n : Int} : ∀ {u : U}, bareB n u.ordr = bareB n u
  | .d _ => rfl
  | .s _ => rfl
  | .un _ _ => rfl
  | .bi k a b => by
    have ha := bare_ordr (n := n) (u := a)
    have hb := bare_ordr (n := n) (u := b)
    rw [ordr_bi]
    split
    · rename_i h; rw [h.1]; rfl
    · cases k <;> simp [bareB, ha, hb]
theorem keeps {us : List U} {n : Int} (h : ∀ u ∈ us, bareB n u = false) : ¬ Known2 us (.s n) := fun hk => by
  have hd : Der (fun x => ∃ y ∈ us, x = y.ordr) (.s n) := hk
  have := hd (fun u => bareB n u = false) (fun u ⟨y, hy, e⟩ => by rw [e, bare_ordr]; exact h y hy) fun u hu p hp => by
    cases u with
    | bi k a b =>
      cases k
      case pair =>
        have hu : (bareB n a || bareB n b) = false := hu
        rw [Bool.or_eq_false_iff] at hu
        rcases hp with rfl | rfl
        · exact hu.1
        · exact hu.2
      case sign => obtain rfl : p = b := hp; exact hu
      case enc => obtain rfl : p = b := hp.2; exact hu
      all_goals exact hp.elim
    | _ => exact hp.elim
  simp [bareB] at this
end Go.Proofs.YtfbogkhgfaibbaaDoor
end

section
namespace Go.Proofs.YtfbogkhgfaibbaaDoor
open Go Go.HW Go.RowKit
set_option linter.unusedVariables false

/-! ### TermsParts -/
theorem TermsParts_law {t : Tm} {n : Int} : law29_TermsParts.f t n = some true := by
  unfold law29_TermsParts.f
  rw [sized t (by decide) (by decide)]
  by_cases c1 : 300 < szTo t 301
  · simp [c1, known_law]
  · have hz : tsz t ≤ 300 := by unfold szTo at c1; split at c1 <;> omega
    have ho : ∀ m, law29_once.f t m = some true := fun m => by unfold law29_once.f; rw [if_pos (by omega)]
    simp [c1, ho, known_law]
end Go.Proofs.YtfbogkhgfaibbaaDoor
end
