import Derived.Test.YtlpodhejgcmbpaaHw18
import Derived.Test.YtlpodhejgcmbpaaShelf
import Derived.Test.YtlpodhejgcmbpaaChecked
namespace Go.Proofs.Ytlpodhejgcmbpaa
open Go Go.HW Go.RowKit
set_option linter.unusedVariables false
set_option linter.unusedSimpArgs false

abbrev Begun := List Int × List Int
abbrev ShBegun : Shape Begun := Sh.pair (Sh.ints .u64) (Sh.ints .u64)
def Begun.start (t : Begun) : List Int := t.1
def Begun.k (t : Begun) : List Int := t.2
def Begun.mk (a b : List Int) : Begun := (a, b)
def Begun.dflt : Begun := ([], [])
theorem Begun.op {M : Mem} {l : List Value} {t : Begun} (h : ShBegun.rep M l t) : ∃ a b : Value, l = [a, b] ∧ IntRow M .u64 a (Begun.start t) ∧ IntRow M .u64 b (Begun.k t) := by
  obtain ⟨l1, l2, rfl, ⟨a, e1, ha⟩, ⟨b, e2, hb⟩⟩ := h
  subst e1; subst e2
  exact ⟨a, b, rfl, ha, hb⟩
theorem Begun.cl {M : Mem} {t : Begun} {a b : Value} (ha : IntRow M .u64 a (Begun.start t)) (hb : IntRow M .u64 b (Begun.k t)) : ShBegun.rep M [a, b] t := ⟨[a], [b], rfl, ⟨a, rfl, ha⟩, ⟨b, rfl, hb⟩⟩
end Go.Proofs.Ytlpodhejgcmbpaa
