import Derived.Test.YtfbogkhgfaibbaaDoorRows
import Derived.Test.YtfbogkhgfaibbaaDoorTie
import Derived.Test.YtfbogkhgfaibbaaDoorCards
import Derived.Test.YtfbogkhgfaibbaaDoorHw8
import Derived.Test.YtfbogkhgfaibbaaDoorTmLib
import Derived.Lib.LaidIn
import Derived.Lib.LaidTab
import Derived.LaidHandle
import Derived.SevenTiedAt
import Derived.ChangeSlices
namespace Go.Proofs.YtfbogkhgfaibbaaDoor
open Go Go.HW Go.RowKit Go.ChangeShapes Go.WideShapes Go.ChangeAt Go.Lib
set_option linter.unusedVariables false

theorem own : ownKnob Tryd.prog.godebug = none := by kernel_rfl
theorem laidOut : laidOutB Tryd.prog = true := by kernel_rfl
/-- What the rows list. -/
abbrev laidL : List (String × DataW Unit) := [("math/bits.deBruijn32tab", Rows.laid_math_bits_deBruijn32tab), ("math/bits.deBruijn64tab", Rows.laid_math_bits_deBruijn64tab), ("internal/strconv.uint64pow10", Rows.laid_internal_strconv_uint64pow10)]
/-- The numbers of a table. -/
def litsOf : DataW Unit → List Value
  | .agg l => l.map fun
    | .lit (.int k z) => Value.int k z
    | _ => undef
  | _ => []
/-- A world that meets the condition: the settled one, the three tables laid. -/
noncomputable def laidWorld (os : Os) : World :=
  let w0 := World.holding Tryd.prog os ⟨#[], #[], []⟩
  let put (h : Array Obj) (g : Nat) (cs : Array Value) : Array Obj := h.modify g fun
    | .cells _ t frozen => .cells cs t frozen
    | o => o
  let h1 := put w0.heap 0 (litsOf Rows.laid_internal_strconv_uint64pow10).toArray
  let h2 := put h1 4 (litsOf Rows.laid_math_bits_deBruijn32tab).toArray
  let h3 := put h2 5 (litsOf Rows.laid_math_bits_deBruijn64tab).toArray
  { w0 with heap := h3 }
theorem laid_met (os : Os) (args : Array Value) : laidMetH Tryd.prog laidL ((laidWorld os).forCall (fun _ _ => 0) ⟨#[], args, []⟩).memory :=
  (LaidIn.of_run (l := laidL) [0, 4, 5] 8 (by kernel_rfl) (by kernel_rfl) (by kernel_rfl) (by kernel_rfl)).met
theorem d_pow : (Rows.laid_internal_strconv_uint64pow10 : DataW Unit) = Lib.tabData .u64 Lib.pow10Tab := by kernel_rfl
theorem pow_of {W : World} (h : laidMetH Tryd.prog laidL W) : Lib.TabIs Tryd.prog W "internal/strconv.uint64pow10" .u64 Lib.pow10Tab := by
  have hL : laidMet Tryd.prog laidL W := h
  obtain ⟨ps, ⟨g1, t1, cs1, f1, p1, q1, _, _, _, _, ⟨g2, t2, cs2, f2, p2, q2, _, _, _, _, ⟨g, t', cs, fuel, p, q, hg', ht', hvar, hd, _, _⟩, _⟩, _⟩, _⟩ := hL
  obtain rfl := Option.some.inj ((show Tryd.prog.globalNamed "internal/strconv.uint64pow10" = some 0 by kernel_rfl).symm.trans hg')
  obtain rfl := Option.some.inj ((show (Tryd.prog.globals[0]?).map (·.type) = some 147 by kernel_rfl).symm.trans ht')
  unfold Lib.TabIs
  rw [d_pow] at hd
  rw [hvar, ← Lib.cells_of_tab (n := 20) (by kernel_rfl : Tryd.prog.underlying 147 = some (.array 20 99)) (by kernel_rfl : Tryd.prog.underlying 99 = some (.int .u64)) (by kernel_rfl) (by kernel_rfl) hd]
theorem var_stays {w w' : World} (h : Imm (heapOf w) w') {n : String} {v : Array Value} (hc : w.var? Tryd.prog n = some v) : w'.var? Tryd.prog n = some v := by
  unfold World.var? at hc ⊢
  cases hg : Tryd.prog.globalNamed n with
  | none => rw [hg] at hc; cases hc
  | some g =>
    rw [hg, Option.bind_some] at hc
    rw [Option.bind_some]
    cases ho : w.heap[g]? with
    | none => rw [ho] at hc; cases hc
    | some o => rw [h g o ho]; rw [ho] at hc; exact hc
theorem glob_of {W : World} (h : laidMetH Tryd.prog laidL W) : Glob (heapOf W) := fun w' hw => var_stays hw (pow_of h)
end Go.Proofs.YtfbogkhgfaibbaaDoor
