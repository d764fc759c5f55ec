import Derived.Test.YthldgjbmjgjogaaGreatDoorSg1
import Derived.Test.YthldgjbmjgjogaaGreatDoorSnHx
namespace Go.Proofs.YthldgjbmjgjogaaGreatDoor
open Go Go.HW Go.RowKit
set_option linter.unusedVariables false
set_option linter.unusedSimpArgs false
set_option maxRecDepth 20000

theorem known_true : law31_known.f = some true := by kernel_rfl
theorem ScriptReplies_true {a0 : Reply} (hw : a0.Wf) (a1 : Int) : law31_ScriptReplies.f a0 a1 = some true := by
  unfold law31_ScriptReplies.f
  rcases Big_eq (a := a0) with h | ⟨h, h10, hp⟩
  · rw [h, known_true]; rfl
  · obtain ⟨t, h1, h2⟩ := ReplyText_eq hw h10 hp
    rw [h, h1, h2, known_true]
    simp
end Go.Proofs.YthldgjbmjgjogaaGreatDoor
