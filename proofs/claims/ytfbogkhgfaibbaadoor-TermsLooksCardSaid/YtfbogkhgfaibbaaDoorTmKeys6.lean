import Derived.Test.YtfbogkhgfaibbaaDoorTmX
import Derived.Test.YtfbogkhgfaibbaaDoorHw26
import Derived.Sort.OwnSorted
section
namespace Go.Proofs.YtfbogkhgfaibbaaDoor
open Go Go.HW Go.RowKit
set_option linter.unusedVariables false
set_option linter.unusedSimpArgs false

/-! ### maps.Keys, slices.Sorted, of what is known -/
end Go.Proofs.YtfbogkhgfaibbaaDoor
end

section
namespace Go.Proofs.YtfbogkhgfaibbaaDoor
open Go Go.HW Go.RowKit
set_option linter.unusedVariables false
set_option linter.unusedSimpArgs false

abbrev StK (M : Mem) : Type := {x : List (List UInt8) × Value × Array Value // OwnS Sh.str M x.2.1 x.2.2 x.1}
abbrev stepK {M : Mem} (s : StK M) (x : List UInt8) (t : StK M) : Prop := t.1.1 = s.1.1 ++ [x]
theorem StK.steps {M : Mem} : ∀ {xs : List (List UInt8)} {s s' : StK M}, Steps stepK s xs s' → s'.1.1 = s.1.1 ++ xs
  | [], s, s', h => by rw [show s' = s from h]; simp
  | x :: xs, s, s', ⟨t, h1, h2⟩ => by rw [StK.steps h2, h1]; simp
end Go.Proofs.YtfbogkhgfaibbaaDoor
end

section
namespace Go.Proofs.YtfbogkhgfaibbaaDoor
open Go Go.HW Go.RowKit
set_option linter.unusedVariables false
set_option linter.unusedSimpArgs false

end Go.Proofs.YtfbogkhgfaibbaaDoor
end

section
namespace Go.Proofs.YtfbogkhgfaibbaaDoor
open Go Go.HW Go.RowKit Go.Sort
set_option linter.unusedVariables false
set_option linter.unusedSimpArgs false

end Go.Proofs.YtfbogkhgfaibbaaDoor
end

section
namespace Go.Proofs.YtfbogkhgfaibbaaDoor
open Go Go.HW Go.RowKit
set_option linter.unusedVariables false
set_option linter.unusedSimpArgs false

end Go.Proofs.YtfbogkhgfaibbaaDoor
end

section
namespace Go.Proofs.YtfbogkhgfaibbaaDoor
open Go Go.HW Go.RowKit
set_option linter.unusedVariables false
set_option linter.unusedSimpArgs false

end Go.Proofs.YtfbogkhgfaibbaaDoor
end
