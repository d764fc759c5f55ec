import Derived.Test.YtjhknfpociahoaaDoorDerL3
namespace Go.Proofs.YtjhknfpociahoaaDoor
open Go Go.HW Go.RowKit
set_option linter.unusedVariables false
set_option linter.unusedSimpArgs false

@[simp] theorem mk_kind (k f n b s a ks) : Der.kind (Der.mk k f n b s a ks) = k := rfl
@[simp] theorem mk_flag (k f n b s a ks) : Der.flag (Der.mk k f n b s a ks) = f := rfl
@[simp] theorem mk_num (k f n b s a ks) : Der.num (Der.mk k f n b s a ks) = n := rfl
@[simp] theorem mk_bytes (k f n b s a ks) : Der.bytes (Der.mk k f n b s a ks) = b := rfl
@[simp] theorem mk_text (k f n b s a ks) : Der.text (Der.mk k f n b s a ks) = s := rfl
@[simp] theorem mk_arcs (k f n b s a ks) : Der.arcs (Der.mk k f n b s a ks) = a := rfl
@[simp] theorem mk_kids (k f n b s a ks) : Tree.kids (Der.mk k f n b s a ks) = ks := rfl

/-! ### which values may be -/
def tagOf (v : Der) : Int := if Der.kind v < 1 ∨ 11 ≤ Der.kind v then 0 else if Der.kind v = 8 then 160 + Int.tmod (Der.num v) 31 else [0, 1, 2, 3, 4, 6, 12, 48, 160, 49, 24].getD (Der.kind v).toNat 0
end Go.Proofs.YtjhknfpociahoaaDoor
