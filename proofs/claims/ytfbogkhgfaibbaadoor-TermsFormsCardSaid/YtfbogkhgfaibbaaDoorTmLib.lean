import Derived.Test.YtfbogkhgfaibbaaDoorTmBase
import Derived.Test.YtfbogkhgfaibbaaDoorShelf
namespace Go.Proofs.YtfbogkhgfaibbaaDoor
open Go Go.HW Go.RowKit
set_option linter.unusedVariables false

/-- The table of tens stays as it is laid. -/
def Glob (M : Mem) : Prop := ∀ w, Imm M w → Lib.TabIs Tryd.prog w "internal/strconv.uint64pow10" .u64 Lib.pow10Tab
theorem Glob.mono {M M' : Mem} (h : Glob M) (hx : Ext M M') : Glob M' := fun w hi => h w fun b o e => hi b o (hx b o e)
theorem itoa_ok {M : Mem} (hG : Glob M) (n : Int) (h0 : -9223372036854775808 ≤ n) (h1 : n ≤ 9223372036854775807) (w : World) (hM : Ext M (heapOf w)) : Calls Tryd.prog 47 #[.int .i64 n] w fun e w' => e = .returned (str (Lib.itoa n)) ∧ Below w.heap.size w w' := by
  refine (Tryd.strconv_Itoa n h0 h1 w (hG w hM)).mono ?_
  rintro e w' ⟨he, k, os, rfl⟩
  refine ⟨he, ?_⟩
  exact ⟨rfl, rfl, rfl, by show w.heap.size ≤ (w.heap ++ os).size; simp, fun i hi => by show (w.heap ++ os)[i]? = _; rw [Array.getElem?_append_left hi]⟩
end Go.Proofs.YtfbogkhgfaibbaaDoor
