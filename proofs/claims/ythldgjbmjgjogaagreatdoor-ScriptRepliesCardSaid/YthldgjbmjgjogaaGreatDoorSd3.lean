import Derived.Test.YthldgjbmjgjogaaGreatDoorSd2
namespace Go.Proofs.YthldgjbmjgjogaaGreatDoor
open Go Go.HW Go.RowKit
set_option linter.unusedVariables false
set_option linter.unusedSimpArgs false

/-! ### escutcheon/escutcheonref31.ActText: function 23 -/
/-! ### escutcheon/escutcheonref31.SameAct: function 13 -/
end Go.Proofs.YthldgjbmjgjogaaGreatDoor
