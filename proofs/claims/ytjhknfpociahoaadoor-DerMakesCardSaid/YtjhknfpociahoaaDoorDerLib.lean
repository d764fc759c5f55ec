import Derived.Test.YtjhknfpociahoaaDoorDerBase
import Derived.Test.YtjhknfpociahoaaDoorShelf
namespace Go.Proofs.YtjhknfpociahoaaDoor
open Go Go.HW Go.RowKit
set_option linter.unusedVariables false

/-- The two tables of unicode/utf8 stay as they are laid. -/
def Glob (M : Mem) : Prop := ∀ w, Imm M w → Lib.Utf8Tabs (Tryd.lays196_ren.g 3) (Tryd.lays196_ren.g 4) w
theorem Glob.mono {M M' : Mem} (h : Glob M) (hx : Ext M M') : Glob M' := fun w hi => h w fun b o e => hi b o (hx b o e)
theorem valid_ok {M : Mem} (hG : Glob M) (s : List UInt8) (hs : s.length ≤ 9223372036854775807) (w : World) (hM : Ext M (heapOf w)) : Calls Tryd.prog 49 #[str s] w fun e w' => e = .returned (.bool (Lib.validD s)) ∧ Below w.heap.size w w' := by
  exact Any.utf8_ValidString Tryd.lays196 ⟨s.toArray⟩ w (by simpa [ByteArray.size] using hs) (hG w hM)
def len64 (x : Int) : Int := Lib.bitLen x.toNat
theorem len64_ok (x : Int) (h0 : 0 ≤ x) (h1 : x ≤ 18446744073709551615) (w : World) : Calls Tryd.prog 67 #[.int .u64 x] w fun e w' => e = .returned (.int .i64 (len64 x)) ∧ Below w.heap.size w w' :=
  (Tryd.bits_Len64 x w h0 h1).mono fun e w' ⟨he, hw⟩ => ⟨he, by rw [hw]; exact Below.refl _ _⟩
end Go.Proofs.YtjhknfpociahoaaDoor
