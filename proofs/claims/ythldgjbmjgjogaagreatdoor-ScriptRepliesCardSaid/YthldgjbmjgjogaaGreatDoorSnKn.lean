import Derived.Test.YthldgjbmjgjogaaGreatDoorSnAo2
namespace Go.Proofs.YthldgjbmjgjogaaGreatDoor
open Go Go.HW Go.RowKit
set_option linter.unusedVariables false
set_option linter.unusedSimpArgs false
set_option maxRecDepth 20000

/-! ### known: "give 1" is no act -/
abbrev give1 : List UInt8 := [103, 105, 118, 101, 32, 49]
theorem give1_split : splitL give1 = [[103, 105, 118, 101], [49]] := by kernel_rfl
abbrev giveA : Act := Act.mk 4 0 1 0 0 0 ([] : List Int) ([] : List Int) (Cmd.mk 0 0 0 0 0 0 ([] : List Int) ([] : List Int)) ([] : List Int) ([] : List Int)
theorem give1_take : script_take.f 4 [110, 100] [[49]] = some giveA := by kernel_rfl
theorem give1_may : script_MayAct.f giveA = some true := by kernel_rfl
theorem give1_text : (script_actText.f giveA).map (fun t => (t.length == 71)) = some true := by kernel_rfl
theorem give1_no : NoAct give1 := fun k h1 h14 hn => by
  rw [give1_split] at hn ⊢
  have hk : k = 4 := by
    match k, h1, h14 with
    | 4, _, _ => rfl
    | 1, _, _ | 2, _, _ | 3, _, _ | 5, _, _ | 6, _, _ | 7, _, _ | 8, _, _ | 9, _, _ | 10, _, _ | 11, _, _ | 12, _, _ | 13, _, _ | 14, _, _ => exact absurd hn (by decide)
    | k + 15, _, h => omega
  subst hk
  refine ⟨giveA, give1_take, .inr ⟨give1_may, ?_⟩⟩
  have h := give1_text
  cases hq : script_actText.f giveA with
  | none => rw [hq] at h; cases h
  | some t =>
    rw [hq] at h
    refine ⟨t, rfl, fun e => ?_⟩
    subst e
    exact absurd h (by decide)
theorem actOf_give1 {M : Mem} (w : World) (hM : Ext M (heapOf w)) (hG : GlobE M) : Calls Tryz.prog 8 #[str [103, 105, 118, 101, 32, 49]] w fun e w' => e = .returned (.tuple #[.agg zAce, .int .i64 4]) ∧ Below w.heap.size w w' := actOf8 (s := give1) (by decide) give1_no w hM hG
end Go.Proofs.YthldgjbmjgjogaaGreatDoor
