/-
  No cell of these rows narrows 'for every input' (looked for: loops, veiled, ifaces, maps, wideKeys, modest, calm, conditions, laid).
  DERIVED. THE GIVEN ROWS OF THIS SEAT. 5 by the template 'for every input the law returns true; each argument reads behind the call as it read before'; 0 by the template 'total and deterministic' (their statements: YtillmeddkdcenaaTotals.lean).
  GIVEN WITH THE SEED: the statements are not yours to turn. If you find one false, say at which input.
  Laid BY PROGRAM, IN A SANDBOX (cutbox-rows.mjs): the forced cells as the released guide's own fill.sh prints them over the translation 463218c5edfe95a9… (all of the seat's roots in one cut). By AI agents, Wed Nov 11 2026. No macro, syntax, notation, axiom, sorry.
-/
import Derived.Test.YtillmeddkdcenaaChecked
import GoSem.Claim
import GoSem.ClaimJoined
import GoSem.ClaimMapViews
import Derived.JoinedTies
import Derived.KernelRfl
namespace Go.Proofs.Ytillmeddkdcenaa
/- THE CELL 'sum', in the pinned program and in every row, IS THE sha256 OF THE DUMP (.gsa) THAT YtillmeddkdcenaaProg.lean LOADS. Nothing in Lean hashes anything: it is a label: what it is worth is what the hold of that sum in a sandbox is worth. -/
noncomputable def Try.pinned : Pinned := { name := "ytillmeddkdcenaa", sum := "463218c5edfe95a9e3b75567f2ddc7419e7500ac4158153560ae4db9e56e9a58", checked := Try.checked }
namespace Rows
def none {H : Type} : Left H := { results := [], args := [] }

/-- 'escutcheonlaw03.ScalarSigns': WHATEVER THE INPUT: true; the input reads as it did. -/
def scalarSignsSpec : ChangeSpec := { name := "scalarSigns", fn := fun _ => fun
  | [d1, d2] => { results := [.lit (.bool true)], args := [d1, d2] }
  | _ => none }
def scalarSignsRow : OpenClaim := { program := "ytillmeddkdcenaa", sum := "463218c5edfe95a9e3b75567f2ddc7419e7500ac4158153560ae4db9e56e9a58", func := "escutcheon/escutcheonlaw03.ScalarSigns", spec := "scalarSigns", inPlace := ["math/bits.Add64", "math/bits.Sub64"], apart := false }
def ScalarSignsSaid : Prop := scalarSignsRow.holds Try.pinned (OpenSpec.ofChange scalarSignsSpec)

/-- ITS FALSE NEIGHBOUR: 'it returns false'. Refute it at one input. -/
def scalarSignsWrong : ChangeSpec := { name := "scalarSigns", fn := fun _ => fun
  | [d1, d2] => { results := [.lit (.bool false)], args := [d1, d2] }
  | _ => none }
def ScalarSignsWrongFalsely : Prop := scalarSignsRow.holds Try.pinned (OpenSpec.ofChange scalarSignsWrong)

/-- 'escutcheonlaw03.ScalarIs': WHATEVER THE INPUT: true; the input reads as it did. -/
def scalarIsSpec : ChangeSpec := { name := "scalarIs", fn := fun _ => fun
  | [d1, d2, d3] => { results := [.lit (.bool true)], args := [d1, d2, d3] }
  | _ => none }
def scalarIsRow : OpenClaim := { program := "ytillmeddkdcenaa", sum := "463218c5edfe95a9e3b75567f2ddc7419e7500ac4158153560ae4db9e56e9a58", func := "escutcheon/escutcheonlaw03.ScalarIs", spec := "scalarIs", inPlace := ["math/bits.Add64", "math/bits.Sub64"], apart := false }
def ScalarIsSaid : Prop := scalarIsRow.holds Try.pinned (OpenSpec.ofChange scalarIsSpec)

/-- ITS FALSE NEIGHBOUR: 'it returns false'. Refute it at one input. -/
def scalarIsWrong : ChangeSpec := { name := "scalarIs", fn := fun _ => fun
  | [d1, d2, d3] => { results := [.lit (.bool false)], args := [d1, d2, d3] }
  | _ => none }
def ScalarIsWrongFalsely : Prop := scalarIsRow.holds Try.pinned (OpenSpec.ofChange scalarIsWrong)

/-- 'escutcheonlaw03.ScalarWhole': WHATEVER THE INPUT: true; the input reads as it did. -/
def scalarWholeSpec : ChangeSpec := { name := "scalarWhole", fn := fun _ => fun
  | [d1, d2] => { results := [.lit (.bool true)], args := [d1, d2] }
  | _ => none }
def scalarWholeRow : OpenClaim := { program := "ytillmeddkdcenaa", sum := "463218c5edfe95a9e3b75567f2ddc7419e7500ac4158153560ae4db9e56e9a58", func := "escutcheon/escutcheonlaw03.ScalarWhole", spec := "scalarWhole", inPlace := ["math/bits.Add64", "math/bits.Sub64"], apart := false }
def ScalarWholeSaid : Prop := scalarWholeRow.holds Try.pinned (OpenSpec.ofChange scalarWholeSpec)

/-- ITS FALSE NEIGHBOUR: 'it returns false'. Refute it at one input. -/
def scalarWholeWrong : ChangeSpec := { name := "scalarWhole", fn := fun _ => fun
  | [d1, d2] => { results := [.lit (.bool false)], args := [d1, d2] }
  | _ => none }
def ScalarWholeWrongFalsely : Prop := scalarWholeRow.holds Try.pinned (OpenSpec.ofChange scalarWholeWrong)

/-- 'escutcheonlaw03.ScalarReckons': WHATEVER THE INPUT: true; the input reads as it did. -/
def scalarReckonsSpec : ChangeSpec := { name := "scalarReckons", fn := fun _ => fun
  | [d1, d2, d3] => { results := [.lit (.bool true)], args := [d1, d2, d3] }
  | _ => none }
def scalarReckonsRow : OpenClaim := { program := "ytillmeddkdcenaa", sum := "463218c5edfe95a9e3b75567f2ddc7419e7500ac4158153560ae4db9e56e9a58", func := "escutcheon/escutcheonlaw03.ScalarReckons", spec := "scalarReckons", inPlace := ["math/bits.Add64", "math/bits.Sub64"], apart := false }
def ScalarReckonsSaid : Prop := scalarReckonsRow.holds Try.pinned (OpenSpec.ofChange scalarReckonsSpec)

/-- ITS FALSE NEIGHBOUR: 'it returns false'. Refute it at one input. -/
def scalarReckonsWrong : ChangeSpec := { name := "scalarReckons", fn := fun _ => fun
  | [d1, d2, d3] => { results := [.lit (.bool false)], args := [d1, d2, d3] }
  | _ => none }
def ScalarReckonsWrongFalsely : Prop := scalarReckonsRow.holds Try.pinned (OpenSpec.ofChange scalarReckonsWrong)

/-- 'escutcheonlaw03.ScalarReduces': WHATEVER THE INPUT: true; the input reads as it did. -/
def scalarReducesSpec : ChangeSpec := { name := "scalarReduces", fn := fun _ => fun
  | [d1, d2] => { results := [.lit (.bool true)], args := [d1, d2] }
  | _ => none }
def scalarReducesRow : OpenClaim := { program := "ytillmeddkdcenaa", sum := "463218c5edfe95a9e3b75567f2ddc7419e7500ac4158153560ae4db9e56e9a58", func := "escutcheon/escutcheonlaw03.ScalarReduces", spec := "scalarReduces", inPlace := ["math/bits.Sub64", "math/bits.Add64"], apart := false }
def ScalarReducesSaid : Prop := scalarReducesRow.holds Try.pinned (OpenSpec.ofChange scalarReducesSpec)

/-- ITS FALSE NEIGHBOUR: 'it returns false'. Refute it at one input. -/
def scalarReducesWrong : ChangeSpec := { name := "scalarReduces", fn := fun _ => fun
  | [d1, d2] => { results := [.lit (.bool false)], args := [d1, d2] }
  | _ => none }
def ScalarReducesWrongFalsely : Prop := scalarReducesRow.holds Try.pinned (OpenSpec.ofChange scalarReducesWrong)

/- THE SECOND FORM. 'bulk': how many values and letters a reading holds, each counted each time it is reached (what is shared counts as often as it is met; a slice's spare places count too). A statement '..UptoSaid' is the law's where the arguments, and the package variables that the reading takes, are together of bulk at most 1048576: NARROWER than '..Said'. Prove '..Said' where nothing that the law and all that it calls make is longer than what came in: it says more and counts as full. Else prove '..UptoSaid'. A law counts once. -/
mutual
def uptoBulk {H : Type} : DataW H → Nat
  | .lit (.string bytes) => bytes.length + 1
  | .lit _ => 1
  | .nil => 1
  | .ptr d => uptoBulk d + 1
  | .slice elems spare => uptoBulkAll elems + uptoBulkAll spare + 1
  | .agg parts => uptoBulkAll parts + 1
  | .iface _ d => uptoBulk d + 1
  | .map entries => uptoBulkEntries entries + 1
  | .held _ => 1
def uptoBulkAll {H : Type} : List (DataW H) → Nat
  | [] => 0
  | d :: r => uptoBulk d + uptoBulkAll r
def uptoBulkEntries {H : Type} : List (Lit × DataW H) → Nat
  | [] => 0
  | x :: r => uptoBulkEntry x + uptoBulkEntries r
def uptoBulkEntry {H : Type} : Lit × DataW H → Nat
  | (.string bytes, d) => bytes.length + uptoBulk d + 1
  | (_, d) => uptoBulk d + 1
 end
def uptoSmall : (H : Type) → List (DataW H) → Bool := fun _ ds => decide (uptoBulkAll ds ≤ 1048576)
def OpenSpec.upto (s : _root_.Go.ChangeSpec) : _root_.Go.OpenSpec := { _root_.Go.OpenSpec.ofChange s with cond := some uptoSmall }

/-- 'escutcheonlaw03.ScalarSigns', WHERE WHAT IT READS IS OF BULK AT MOST 1048576: true; the input reads as it did. -/
def scalarSignsUptoRow : OpenClaim := { program := "ytillmeddkdcenaa", sum := "463218c5edfe95a9e3b75567f2ddc7419e7500ac4158153560ae4db9e56e9a58", func := "escutcheon/escutcheonlaw03.ScalarSigns", spec := "scalarSigns", inPlace := ["math/bits.Add64", "math/bits.Sub64"], apart := false, narrowed := true }
def ScalarSignsUptoSaid : Prop := scalarSignsUptoRow.holds Try.pinned (OpenSpec.upto scalarSignsSpec)

/-- 'escutcheonlaw03.ScalarIs', WHERE WHAT IT READS IS OF BULK AT MOST 1048576: true; the input reads as it did. -/
def scalarIsUptoRow : OpenClaim := { program := "ytillmeddkdcenaa", sum := "463218c5edfe95a9e3b75567f2ddc7419e7500ac4158153560ae4db9e56e9a58", func := "escutcheon/escutcheonlaw03.ScalarIs", spec := "scalarIs", inPlace := ["math/bits.Add64", "math/bits.Sub64"], apart := false, narrowed := true }
def ScalarIsUptoSaid : Prop := scalarIsUptoRow.holds Try.pinned (OpenSpec.upto scalarIsSpec)

/-- 'escutcheonlaw03.ScalarWhole', WHERE WHAT IT READS IS OF BULK AT MOST 1048576: true; the input reads as it did. -/
def scalarWholeUptoRow : OpenClaim := { program := "ytillmeddkdcenaa", sum := "463218c5edfe95a9e3b75567f2ddc7419e7500ac4158153560ae4db9e56e9a58", func := "escutcheon/escutcheonlaw03.ScalarWhole", spec := "scalarWhole", inPlace := ["math/bits.Add64", "math/bits.Sub64"], apart := false, narrowed := true }
def ScalarWholeUptoSaid : Prop := scalarWholeUptoRow.holds Try.pinned (OpenSpec.upto scalarWholeSpec)

/-- 'escutcheonlaw03.ScalarReckons', WHERE WHAT IT READS IS OF BULK AT MOST 1048576: true; the input reads as it did. -/
def scalarReckonsUptoRow : OpenClaim := { program := "ytillmeddkdcenaa", sum := "463218c5edfe95a9e3b75567f2ddc7419e7500ac4158153560ae4db9e56e9a58", func := "escutcheon/escutcheonlaw03.ScalarReckons", spec := "scalarReckons", inPlace := ["math/bits.Add64", "math/bits.Sub64"], apart := false, narrowed := true }
def ScalarReckonsUptoSaid : Prop := scalarReckonsUptoRow.holds Try.pinned (OpenSpec.upto scalarReckonsSpec)

/-- 'escutcheonlaw03.ScalarReduces', WHERE WHAT IT READS IS OF BULK AT MOST 1048576: true; the input reads as it did. -/
def scalarReducesUptoRow : OpenClaim := { program := "ytillmeddkdcenaa", sum := "463218c5edfe95a9e3b75567f2ddc7419e7500ac4158153560ae4db9e56e9a58", func := "escutcheon/escutcheonlaw03.ScalarReduces", spec := "scalarReduces", inPlace := ["math/bits.Sub64", "math/bits.Add64"], apart := false, narrowed := true }
def ScalarReducesUptoSaid : Prop := scalarReducesUptoRow.holds Try.pinned (OpenSpec.upto scalarReducesSpec)

end Rows
end Go.Proofs.Ytillmeddkdcenaa
