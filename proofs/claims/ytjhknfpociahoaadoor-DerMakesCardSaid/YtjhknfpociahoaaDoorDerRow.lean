import Derived.Test.YtjhknfpociahoaaDoorRows
import Derived.Test.YtjhknfpociahoaaDoorTie
import Derived.Test.YtjhknfpociahoaaDoorCards
import Derived.Test.YtjhknfpociahoaaDoorHw8
import Derived.Test.YtjhknfpociahoaaDoorDerLib
import Derived.Lib.LaidIn
import Derived.Lib.LaidU8T
import Derived.LaidHandle
import Derived.SevenTiedAt
namespace Go.Proofs.YtjhknfpociahoaaDoor
open Go Go.HW Go.RowKit Go.ChangeShapes Go.WideShapes Go.ChangeAt Go.Lib Go.Shelf

theorem own : ownKnob Tryd.prog.godebug = none := by kernel_rfl
theorem laidOut : laidOutB Tryd.prog = true := by kernel_rfl
/-- What the rows list. -/
abbrev laidL : List (String × DataW Unit) := [("unicode/utf8.acceptRanges", Rows.laid_unicode_utf8_acceptRanges), ("unicode/utf8.first", Rows.laid_unicode_utf8_first)]
/-- A world that meets the condition: the settled one, the two tables laid. -/
noncomputable def laidWorld (os : Os) : World :=
  let w0 := World.holding Tryd.prog os ⟨#[], #[], []⟩
  let put (h : Array Obj) (g : Nat) (cs : Array Value) : Array Obj := h.modify g fun
    | .cells _ t frozen => .cells cs t frozen
    | o => o
  let h1 := put w0.heap 0 (Lib.firstTab.map fun z => Value.int .u8 z).toArray
  let h2 := put h1 1 ((List.range 16).flatMap fun i => [Value.int .u8 (Lib.accLo i), Value.int .u8 (Lib.accHi i)]).toArray
  { w0 with heap := h2 }
theorem laid_met (os : Os) (args : Array Value) : laidMetH Tryd.prog laidL ((laidWorld os).forCall (fun _ _ => 0) ⟨#[], args, []⟩).memory :=
  (LaidIn.of_run (l := laidL) [1, 0] 8 (by kernel_rfl) (by kernel_rfl) (by kernel_rfl) (by kernel_rfl)).met
theorem d_first : Rows.laid_unicode_utf8_first = Lib.firstData := by kernel_rfl
theorem d_accept : (Rows.laid_unicode_utf8_acceptRanges : DataW Unit) = Lib.acceptData := by kernel_rfl
theorem tabs_of {W : World} (h : laidMetH Tryd.prog laidL W) : Lib.Utf8Tabs (Tryd.lays196_ren.g 3) (Tryd.lays196_ren.g 4) W := by
  have hL : laidMet Tryd.prog laidL W := h
  refine utf8Tabs_of_readsT (U8Types.of196 Tryd.lays196) ⟨by kernel_rfl, by kernel_rfl, by kernel_rfl, by kernel_rfl, by kernel_rfl, by kernel_rfl, by kernel_rfl⟩ ?_ ?_
  · have := Lib.laidMet.reads hL (.tail _ (.head _))
    rwa [d_first] at this
  · have := Lib.laidMet.reads hL (.head _)
    rwa [d_accept] at this
theorem cell_stays {w w' : World} (h : Imm (heapOf w) w') {a : Addr} {v : Value} (hc : w.cell? a = some v) : w'.cell? a = some v := by
  unfold World.cell? at hc ⊢
  cases ho : w.heap[a.block]? with
  | none => rw [ho] at hc; simp at hc
  | some o => rw [h a.block o ho]; rw [ho] at hc; exact hc
theorem glob_of {W : World} (h : laidMetH Tryd.prog laidL W) : Glob (heapOf W) := fun w' hw => by
  obtain ⟨h1, h2⟩ := tabs_of h
  exact ⟨fun c hc => cell_stays hw (h1 c hc), fun i hi => ⟨cell_stays hw (h2 i hi).1, cell_stays hw (h2 i hi).2⟩⟩
theorem i64_of {n : Int} (h : (Lit.int .i64 n).wf = true) : -9223372036854775808 ≤ n ∧ n ≤ 9223372036854775807 := int_wf h
end Go.Proofs.YtjhknfpociahoaaDoor
