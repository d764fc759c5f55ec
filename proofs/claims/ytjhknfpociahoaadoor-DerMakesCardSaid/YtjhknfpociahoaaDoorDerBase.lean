import Derived.Test.YtjhknfpociahoaaDoorHw16
import Derived.Test.YtjhknfpociahoaaDoorChecked
namespace Go.Proofs.YtjhknfpociahoaaDoor
open Go Go.HW Go.RowKit
set_option linter.unusedVariables false
set_option linter.unusedSimpArgs false

abbrev DerP := Int × Bool × Int × List Int × List UInt8 × List Int
abbrev Der := Tree DerP
abbrev ShDerP : Shape DerP := Sh.pair (Sh.int .i64) (Sh.pair Sh.bool (Sh.pair (Sh.int .i64) (Sh.pair (Sh.ints .u8) (Sh.pair Sh.str (Sh.ints .u64)))))
abbrev ShDer : Shape Der := Sh.tree ShDerP
def Der.kind (t : Der) : Int := t.val.1
def Der.flag (t : Der) : Bool := t.val.2.1
def Der.num (t : Der) : Int := t.val.2.2.1
def Der.bytes (t : Der) : List Int := t.val.2.2.2.1
def Der.text (t : Der) : List UInt8 := t.val.2.2.2.2.1
def Der.arcs (t : Der) : List Int := t.val.2.2.2.2.2
def Der.mk (k : Int) (f : Bool) (n : Int) (b : List Int) (s : List UInt8) (a : List Int) (kids : List Der) : Der := .node (k, f, n, b, s, a) kids
def Der.dflt : Der := Der.mk 0 false 0 [] [] [] []
def Der.fuel (t : Der) : Nat := t.depth
abbrev Der.ce (t : Der) (b a k : Value) : Array Value := #[.int .i64 (Der.kind t), .bool (Der.flag t), .int .i64 (Der.num t), b, str (Der.text t), a, k]
theorem Der.op {M : Mem} {l : List Value} {t : Der} (h : ShDer.rep M l t) : ∃ b a k : Value, l = [.int .i64 (Der.kind t), .bool (Der.flag t), .int .i64 (Der.num t), b, str (Der.text t), a, k] ∧ IntRow M .u8 b (Der.bytes t) ∧ IntRow M .u64 a (Der.arcs t) ∧ RowS ShDer M k (Tree.kids t) := by
  obtain ⟨l', v, rfl, h1, h2⟩ := tree_open h
  obtain ⟨l1, r1, rfl, e1, l2, r2, rfl, e2, l3, r3, rfl, e3, l4, r4, rfl, ⟨b, e4, hb⟩, l5, r5, rfl, e5, ⟨a, e6, ha⟩⟩ := h1
  have e1 : l1 = _ := e1
  have e2 : l2 = _ := e2
  have e3 : l3 = _ := e3
  have e5 : l5 = _ := e5
  subst e1; subst e2; subst e3; subst e4; subst e5; subst e6
  exact ⟨b, a, v, rfl, hb, ha, h2⟩
theorem Der.cl {M : Mem} {t : Der} {b a k : Value} (hb : IntRow M .u8 b (Der.bytes t)) (ha : IntRow M .u64 a (Der.arcs t)) (hk : RowS ShDer M k (Tree.kids t)) : ShDer.rep M [.int .i64 (Der.kind t), .bool (Der.flag t), .int .i64 (Der.num t), b, str (Der.text t), a, k] t := by
  have h1 : ShDerP.rep M [.int .i64 (Der.kind t), .bool (Der.flag t), .int .i64 (Der.num t), b, str (Der.text t), a] t.val :=
    ⟨[_], _, rfl, rfl, [_], _, rfl, rfl, [_], _, rfl, rfl, [_], _, rfl, ⟨_, rfl, hb⟩, [_], _, rfl, rfl, ⟨_, rfl, ha⟩⟩
  have := tree_close (s := ShDerP) h1 hk
  rwa [Tree.eta] at this
end Go.Proofs.YtjhknfpociahoaaDoor
