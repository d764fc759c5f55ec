import Derived.Test.YtfbogkhgfaibbaaDoorHw20
import Derived.Test.YtfbogkhgfaibbaaDoorChecked
namespace Go.Proofs.YtfbogkhgfaibbaaDoor
open Go Go.HW Go.RowKit
set_option linter.unusedVariables false
set_option linter.unusedSimpArgs false

abbrev TmP := Int × Int
abbrev Tm := Tree TmP
abbrev ShTmP : Shape TmP := Sh.pair (Sh.int .i64) (Sh.int .i64)
abbrev ShTm : Shape Tm := Sh.tree ShTmP
def Tm.kind (t : Tm) : Int := t.val.1
def Tm.num (t : Tm) : Int := t.val.2
def Tm.mk (k : Int) (n : Int) (kids : List Tm) : Tm := .node (k, n) kids
def Tm.dflt : Tm := Tm.mk 0 0 []
def Tm.fuel (t : Tm) : Nat := t.depth
abbrev Tm.ce (t : Tm) (k : Value) : Array Value := #[.int .i64 (Tm.kind t), .int .i64 (Tm.num t), k]
theorem Tm.op {M : Mem} {l : List Value} {t : Tm} (h : ShTm.rep M l t) : ∃ k : Value, l = [.int .i64 (Tm.kind t), .int .i64 (Tm.num t), k] ∧ RowS ShTm M k (Tree.kids t) := by
  obtain ⟨l', v, rfl, h1, h2⟩ := tree_open h
  obtain ⟨l1, r1, rfl, e1, e2⟩ := h1
  have e1 : l1 = _ := e1
  have e2 : r1 = _ := e2
  subst e1; subst e2
  exact ⟨v, rfl, h2⟩
theorem Tm.cl {M : Mem} {t : Tm} {k : Value} (hk : RowS ShTm M k (Tree.kids t)) : ShTm.rep M [.int .i64 (Tm.kind t), .int .i64 (Tm.num t), k] t := by
  have h1 : ShTmP.rep M [.int .i64 (Tm.kind t), .int .i64 (Tm.num t)] t.val := ⟨[_], _, rfl, rfl, rfl⟩
  have := tree_close (s := ShTmP) h1 hk
  rwa [Tree.eta] at this
end Go.Proofs.YtfbogkhgfaibbaaDoor
