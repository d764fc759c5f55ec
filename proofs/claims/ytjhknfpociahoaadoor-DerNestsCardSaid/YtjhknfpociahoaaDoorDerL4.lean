import Derived.Test.YtjhknfpociahoaaDoorDerL3
namespace Go.Proofs.YtjhknfpociahoaaDoor
open Go Go.HW Go.RowKit
set_option linter.unusedVariables false
set_option linter.unusedSimpArgs false

@[simp] theorem mk_kind (k f n b s a ks) : Der.kind (Der.mk k f n b s a ks) = k := rfl
@[simp] theorem mk_flag (k f n b s a ks) : Der.flag (Der.mk k f n b s a ks) = f := rfl
@[simp] theorem mk_num (k f n b s a ks) : Der.num (Der.mk k f n b s a ks) = n := rfl
@[simp] theorem mk_bytes (k f n b s a ks) : Der.bytes (Der.mk k f n b s a ks) = b := rfl
@[simp] theorem mk_text (k f n b s a ks) : Der.text (Der.mk k f n b s a ks) = s := rfl
@[simp] theorem mk_arcs (k f n b s a ks) : Der.arcs (Der.mk k f n b s a ks) = a := rfl
@[simp] theorem mk_kids (k f n b s a ks) : Tree.kids (Der.mk k f n b s a ks) = ks := rfl

/-! ### which values may be -/
def tagOf (v : Der) : Int := if Der.kind v < 1 ∨ 11 ≤ Der.kind v then 0 else if Der.kind v = 8 then 160 + Int.tmod (Der.num v) 31 else [0, 1, 2, 3, 4, 6, 12, 48, 160, 49, 24].getD (Der.kind v).toNat 0
def dig (t : List UInt8) (i : Nat) : Bool := decide (48 ≤ chr t i) && decide (chr t i ≤ 57)
def timeB (t : List UInt8) : Bool := (t.length == 15) && (chr t 14 == 90) && (List.range 14).all (dig t)
def arcsB (a : List Int) : Bool := decide (2 ≤ a.length) && decide (a.length ≤ 16) && decide (a.getD 0 0 ≤ 2) && (a.getD 0 0 == 2 || decide (a.getD 1 0 < 40)) && a.all (fun x => decide (x < 2147483648))
def textB (v : Der) : Bool := if Der.kind v = 10 then timeB (Der.text v) else if Der.kind v = 6 then Lib.validD (Der.text v) else Der.text v == []
def ownB (v : Der) : Bool :=
  decide (1 ≤ Der.kind v) && decide (Der.kind v ≤ 10) && (if Der.kind v = 5 then arcsB (Der.arcs v) else Der.arcs v == []) && textB v &&
  (Der.num v == 0 || Der.kind v == 2 || (Der.kind v == 8 && decide (0 ≤ Der.num v) && decide (Der.num v ≤ 30))) &&
  (if Der.kind v = 8 ∨ Der.kind v = 9 then decide ((Tree.kids v).length = 1) else if Der.kind v = 7 then true else decide ((Tree.kids v).length = 0)) &&
  (!Der.flag v || Der.kind v == 1) && (Der.bytes v == [] || Der.kind v == 3 || Der.kind v == 4)
def mayB : Nat → Der → Bool
  | 0, _ => false
  | d + 1, v => ownB v && (Tree.kids v).all (mayB d)

theorem ite_some {α : Type} (c : Prop) [Decidable c] (a b : α) : (if c then some a else some b) = some (if c then a else b) := by split <;> rfl
theorem kinds (k : Int) : k < 1 ∨ 11 ≤ k ∨ k = 1 ∨ k = 2 ∨ k = 3 ∨ k = 4 ∨ k = 5 ∨ k = 6 ∨ k = 7 ∨ k = 8 ∨ k = 9 ∨ k = 10 := by omega
end Go.Proofs.YtjhknfpociahoaaDoor
