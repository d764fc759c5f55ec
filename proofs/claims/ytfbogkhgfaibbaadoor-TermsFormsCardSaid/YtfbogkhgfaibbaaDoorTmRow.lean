import Derived.Test.YtfbogkhgfaibbaaDoorRows
import Derived.Test.YtfbogkhgfaibbaaDoorTie
import Derived.Test.YtfbogkhgfaibbaaDoorCards
import Derived.Test.YtfbogkhgfaibbaaDoorHw8
import Derived.Test.YtfbogkhgfaibbaaDoorTmLib
import Derived.Lib.LaidIn
import Derived.Lib.LaidTab
import Derived.LaidHandle
import Derived.SevenTiedAt
import Derived.ChangeSlices
namespace Go.Proofs.YtfbogkhgfaibbaaDoor
open Go Go.HW Go.RowKit Go.ChangeShapes Go.WideShapes Go.ChangeAt Go.Lib
set_option linter.unusedVariables false

theorem own : ownKnob Tryd.prog.godebug = none := by kernel_rfl
theorem laidOut : laidOutB Tryd.prog = true := by kernel_rfl
/-- The numbers of a table. -/
def litsOf : DataW Unit → List Value
  | .agg l => l.map fun
    | .lit (.int k z) => Value.int k z
    | _ => undef
  | _ => []
theorem d_pow : (Rows.laid_internal_strconv_uint64pow10 : DataW Unit) = Lib.tabData .u64 Lib.pow10Tab := by kernel_rfl
theorem var_stays {w w' : World} (h : Imm (heapOf w) w') {n : String} {v : Array Value} (hc : w.var? Tryd.prog n = some v) : w'.var? Tryd.prog n = some v := by
  unfold World.var? at hc ⊢
  cases hg : Tryd.prog.globalNamed n with
  | none => rw [hg] at hc; cases hc
  | some g =>
    rw [hg, Option.bind_some] at hc
    rw [Option.bind_some]
    cases ho : w.heap[g]? with
    | none => rw [ho] at hc; cases hc
    | some o => rw [h g o ho]; rw [ho] at hc; exact hc
end Go.Proofs.YtfbogkhgfaibbaaDoor
