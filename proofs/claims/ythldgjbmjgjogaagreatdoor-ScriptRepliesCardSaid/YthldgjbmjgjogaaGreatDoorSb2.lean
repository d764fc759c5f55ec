import Derived.Test.YthldgjbmjgjogaaGreatDoorSb1
namespace Go.Proofs.YthldgjbmjgjogaaGreatDoor
open Go Go.HW Go.RowKit
set_option linter.unusedVariables false
set_option linter.unusedSimpArgs false

/-! ### escutcheon/escutcheonref31.CmdText: function 22 -/
end Go.Proofs.YthldgjbmjgjogaaGreatDoor
