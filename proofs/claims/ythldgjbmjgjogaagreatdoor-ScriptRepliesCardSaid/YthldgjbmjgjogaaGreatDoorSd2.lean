import Derived.Test.YthldgjbmjgjogaaGreatDoorSd1
namespace Go.Proofs.YthldgjbmjgjogaaGreatDoor
open Go Go.HW Go.RowKit
set_option linter.unusedVariables false
set_option linter.unusedSimpArgs false

/-! ### escutcheon/escutcheonref31.MayAct: function 20 -/
end Go.Proofs.YthldgjbmjgjogaaGreatDoor
