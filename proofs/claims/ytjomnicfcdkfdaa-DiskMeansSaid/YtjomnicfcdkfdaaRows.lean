/-
  No cell of these rows narrows 'for every input' (looked for: loops, veiled, ifaces, maps, wideKeys, modest, calm, conditions, laid).
  DERIVED. THE GIVEN ROWS OF THIS SEAT. 7 by the template 'for every input the law returns true; each argument reads behind the call as it read before'; 0 by the template 'total and deterministic' (their statements: YtjomnicfcdkfdaaTotals.lean).
  GIVEN WITH THE SEED: the statements are not yours to turn. If you find one false, say at which input.
  Laid BY PROGRAM, IN A SANDBOX (cutbox-rows.mjs): the forced cells as the released guide's own fill.sh prints them over the translation fe41e6bc518d764b… (all of the seat's roots in one cut). By AI agents, Wed Nov 11 2026. No macro, syntax, notation, axiom, sorry.
-/
import Derived.Test.YtjomnicfcdkfdaaChecked
import GoSem.Claim
import GoSem.ClaimJoined
import GoSem.ClaimMapViews
import Derived.JoinedTies
import Derived.KernelRfl
namespace Go.Proofs.Ytjomnicfcdkfdaa
/- THE CELL 'sum', in the pinned program and in every row, IS THE sha256 OF THE DUMP (.gsa) THAT YtjomnicfcdkfdaaProg.lean LOADS. Nothing in Lean hashes anything: it is a label: what it is worth is what the hold of that sum in a sandbox is worth. -/
noncomputable def Try.pinned : Pinned := { name := "ytjomnicfcdkfdaa", sum := "fe41e6bc518d764be8f130e20f2cd60941ff0a37fc858c41fe3698c088c9d9dd", checked := Try.checked }
namespace Rows
def none {H : Type} : Left H := { results := [], args := [] }

/-- 'escutcheonlaw14.DiskFuses': WHATEVER THE INPUT: true; the input reads as it did. -/
def diskFusesSpec : ChangeSpec := { name := "diskFuses", fn := fun _ => fun
  | [d1, d2] => { results := [.lit (.bool true)], args := [d1, d2] }
  | _ => none }
def diskFusesRow : OpenClaim := { program := "ytjomnicfcdkfdaa", sum := "fe41e6bc518d764be8f130e20f2cd60941ff0a37fc858c41fe3698c088c9d9dd", func := "escutcheon/escutcheonlaw14.DiskFuses", spec := "diskFuses", unfollowed := true, recurses := true, apart := false }
def DiskFusesSaid : Prop := diskFusesRow.holds Try.pinned (OpenSpec.ofChange diskFusesSpec)

/-- ITS FALSE NEIGHBOUR: 'it returns false'. Refute it at one input. -/
def diskFusesWrong : ChangeSpec := { name := "diskFuses", fn := fun _ => fun
  | [d1, d2] => { results := [.lit (.bool false)], args := [d1, d2] }
  | _ => none }
def DiskFusesWrongFalsely : Prop := diskFusesRow.holds Try.pinned (OpenSpec.ofChange diskFusesWrong)

/-- 'escutcheonlaw14.DiskLatest': WHATEVER THE INPUT: true; the input reads as it did. -/
def diskLatestSpec : ChangeSpec := { name := "diskLatest", fn := fun _ => fun
  | [d1, d2, d3, d4] => { results := [.lit (.bool true)], args := [d1, d2, d3, d4] }
  | _ => none }
def diskLatestRow : OpenClaim := { program := "ytjomnicfcdkfdaa", sum := "fe41e6bc518d764be8f130e20f2cd60941ff0a37fc858c41fe3698c088c9d9dd", func := "escutcheon/escutcheonlaw14.DiskLatest", spec := "diskLatest", inPlace := ["maps.clone"], unfollowed := true, recurses := true, apart := false }
def DiskLatestSaid : Prop := diskLatestRow.holds Try.pinned (OpenSpec.ofChange diskLatestSpec)

/-- ITS FALSE NEIGHBOUR: 'it returns false'. Refute it at one input. -/
def diskLatestWrong : ChangeSpec := { name := "diskLatest", fn := fun _ => fun
  | [d1, d2, d3, d4] => { results := [.lit (.bool false)], args := [d1, d2, d3, d4] }
  | _ => none }
def DiskLatestWrongFalsely : Prop := diskLatestRow.holds Try.pinned (OpenSpec.ofChange diskLatestWrong)

/-- 'escutcheonlaw14.DiskMeans': WHATEVER THE INPUT: true; the input reads as it did. -/
def diskMeansSpec : ChangeSpec := { name := "diskMeans", fn := fun _ => fun
  | [d1, d2, d3] => { results := [.lit (.bool true)], args := [d1, d2, d3] }
  | _ => none }
def diskMeansRow : OpenClaim := { program := "ytjomnicfcdkfdaa", sum := "fe41e6bc518d764be8f130e20f2cd60941ff0a37fc858c41fe3698c088c9d9dd", func := "escutcheon/escutcheonlaw14.DiskMeans", spec := "diskMeans", unfollowed := true, recurses := true, apart := false }
def DiskMeansSaid : Prop := diskMeansRow.holds Try.pinned (OpenSpec.ofChange diskMeansSpec)

/-- ITS FALSE NEIGHBOUR: 'it returns false'. Refute it at one input. -/
def diskMeansWrong : ChangeSpec := { name := "diskMeans", fn := fun _ => fun
  | [d1, d2, d3] => { results := [.lit (.bool false)], args := [d1, d2, d3] }
  | _ => none }
def DiskMeansWrongFalsely : Prop := diskMeansRow.holds Try.pinned (OpenSpec.ofChange diskMeansWrong)

/-- 'escutcheonlaw14.DiskPlays': WHATEVER THE INPUT: true; the input reads as it did. -/
def diskPlaysSpec : ChangeSpec := { name := "diskPlays", fn := fun _ => fun
  | [d1, d2] => { results := [.lit (.bool true)], args := [d1, d2] }
  | _ => none }
def diskPlaysRow : OpenClaim := { program := "ytjomnicfcdkfdaa", sum := "fe41e6bc518d764be8f130e20f2cd60941ff0a37fc858c41fe3698c088c9d9dd", func := "escutcheon/escutcheonlaw14.DiskPlays", spec := "diskPlays", unfollowed := true, recurses := true, apart := false }
def DiskPlaysSaid : Prop := diskPlaysRow.holds Try.pinned (OpenSpec.ofChange diskPlaysSpec)

/-- ITS FALSE NEIGHBOUR: 'it returns false'. Refute it at one input. -/
def diskPlaysWrong : ChangeSpec := { name := "diskPlays", fn := fun _ => fun
  | [d1, d2] => { results := [.lit (.bool false)], args := [d1, d2] }
  | _ => none }
def DiskPlaysWrongFalsely : Prop := diskPlaysRow.holds Try.pinned (OpenSpec.ofChange diskPlaysWrong)

/-- 'escutcheonlaw14.DiskApart': WHATEVER THE INPUT: true; the input reads as it did. -/
def diskApartSpec : ChangeSpec := { name := "diskApart", fn := fun _ => fun
  | [d1, d2, d3, d4] => { results := [.lit (.bool true)], args := [d1, d2, d3, d4] }
  | _ => none }
def diskApartRow : OpenClaim := { program := "ytjomnicfcdkfdaa", sum := "fe41e6bc518d764be8f130e20f2cd60941ff0a37fc858c41fe3698c088c9d9dd", func := "escutcheon/escutcheonlaw14.DiskApart", spec := "diskApart", inPlace := ["maps.clone"], unfollowed := true, recurses := true, apart := false }
def DiskApartSaid : Prop := diskApartRow.holds Try.pinned (OpenSpec.ofChange diskApartSpec)

/-- ITS FALSE NEIGHBOUR: 'it returns false'. Refute it at one input. -/
def diskApartWrong : ChangeSpec := { name := "diskApart", fn := fun _ => fun
  | [d1, d2, d3, d4] => { results := [.lit (.bool false)], args := [d1, d2, d3, d4] }
  | _ => none }
def DiskApartWrongFalsely : Prop := diskApartRow.holds Try.pinned (OpenSpec.ofChange diskApartWrong)

/-- 'escutcheonlaw14.DiskEdits': WHATEVER THE INPUT: true; the input reads as it did. -/
def diskEditsSpec : ChangeSpec := { name := "diskEdits", fn := fun _ => fun
  | [d1, d2, d3, d4, d5] => { results := [.lit (.bool true)], args := [d1, d2, d3, d4, d5] }
  | _ => none }
def diskEditsRow : OpenClaim := { program := "ytjomnicfcdkfdaa", sum := "fe41e6bc518d764be8f130e20f2cd60941ff0a37fc858c41fe3698c088c9d9dd", func := "escutcheon/escutcheonlaw14.DiskEdits", spec := "diskEdits", inPlace := ["maps.clone"], unfollowed := true, recurses := true, apart := false }
def DiskEditsSaid : Prop := diskEditsRow.holds Try.pinned (OpenSpec.ofChange diskEditsSpec)

/-- ITS FALSE NEIGHBOUR: 'it returns false'. Refute it at one input. -/
def diskEditsWrong : ChangeSpec := { name := "diskEdits", fn := fun _ => fun
  | [d1, d2, d3, d4, d5] => { results := [.lit (.bool false)], args := [d1, d2, d3, d4, d5] }
  | _ => none }
def DiskEditsWrongFalsely : Prop := diskEditsRow.holds Try.pinned (OpenSpec.ofChange diskEditsWrong)

/-- 'escutcheonlaw14.DiskNil': WHATEVER THE INPUT: true; the input reads as it did. -/
def diskNilSpec : ChangeSpec := { name := "diskNil", fn := fun _ => fun
  | [] => { results := [.lit (.bool true)], args := [] }
  | _ => none }
def diskNilRow : OpenClaim := { program := "ytjomnicfcdkfdaa", sum := "fe41e6bc518d764be8f130e20f2cd60941ff0a37fc858c41fe3698c088c9d9dd", func := "escutcheon/escutcheonlaw14.DiskNil", spec := "diskNil", inPlace := ["maps.clone"], unfollowed := true, recurses := true, apart := false }
def DiskNilSaid : Prop := diskNilRow.holds Try.pinned (OpenSpec.ofChange diskNilSpec)

/-- ITS FALSE NEIGHBOUR: 'it returns false'. Refute it at one input. -/
def diskNilWrong : ChangeSpec := { name := "diskNil", fn := fun _ => fun
  | [] => { results := [.lit (.bool false)], args := [] }
  | _ => none }
def DiskNilWrongFalsely : Prop := diskNilRow.holds Try.pinned (OpenSpec.ofChange diskNilWrong)

/- THE SECOND FORM. 'bulk': how many values and letters a reading holds, each counted each time it is reached (what is shared counts as often as it is met; a slice's spare places count too). A statement '..UptoSaid' is the law's where the arguments, and the package variables that the reading takes, are together of bulk at most 1048576: NARROWER than '..Said'. Prove '..Said' where nothing that the law and all that it calls make is longer than what came in: it says more and counts as full. Else prove '..UptoSaid'. A law counts once. -/
mutual
def uptoBulk {H : Type} : DataW H → Nat
  | .lit (.string bytes) => bytes.length + 1
  | .lit _ => 1
  | .nil => 1
  | .ptr d => uptoBulk d + 1
  | .slice elems spare => uptoBulkAll elems + uptoBulkAll spare + 1
  | .agg parts => uptoBulkAll parts + 1
  | .iface _ d => uptoBulk d + 1
  | .map entries => uptoBulkEntries entries + 1
  | .held _ => 1
def uptoBulkAll {H : Type} : List (DataW H) → Nat
  | [] => 0
  | d :: r => uptoBulk d + uptoBulkAll r
def uptoBulkEntries {H : Type} : List (Lit × DataW H) → Nat
  | [] => 0
  | x :: r => uptoBulkEntry x + uptoBulkEntries r
def uptoBulkEntry {H : Type} : Lit × DataW H → Nat
  | (.string bytes, d) => bytes.length + uptoBulk d + 1
  | (_, d) => uptoBulk d + 1
 end
def uptoSmall : (H : Type) → List (DataW H) → Bool := fun _ ds => decide (uptoBulkAll ds ≤ 1048576)
def OpenSpec.upto (s : _root_.Go.ChangeSpec) : _root_.Go.OpenSpec := { _root_.Go.OpenSpec.ofChange s with cond := some uptoSmall }

/-- 'escutcheonlaw14.DiskFuses', WHERE WHAT IT READS IS OF BULK AT MOST 1048576: true; the input reads as it did. -/
def diskFusesUptoRow : OpenClaim := { program := "ytjomnicfcdkfdaa", sum := "fe41e6bc518d764be8f130e20f2cd60941ff0a37fc858c41fe3698c088c9d9dd", func := "escutcheon/escutcheonlaw14.DiskFuses", spec := "diskFuses", unfollowed := true, recurses := true, apart := false, narrowed := true }
def DiskFusesUptoSaid : Prop := diskFusesUptoRow.holds Try.pinned (OpenSpec.upto diskFusesSpec)

/-- 'escutcheonlaw14.DiskLatest', WHERE WHAT IT READS IS OF BULK AT MOST 1048576: true; the input reads as it did. -/
def diskLatestUptoRow : OpenClaim := { program := "ytjomnicfcdkfdaa", sum := "fe41e6bc518d764be8f130e20f2cd60941ff0a37fc858c41fe3698c088c9d9dd", func := "escutcheon/escutcheonlaw14.DiskLatest", spec := "diskLatest", inPlace := ["maps.clone"], unfollowed := true, recurses := true, apart := false, narrowed := true }
def DiskLatestUptoSaid : Prop := diskLatestUptoRow.holds Try.pinned (OpenSpec.upto diskLatestSpec)

/-- 'escutcheonlaw14.DiskMeans', WHERE WHAT IT READS IS OF BULK AT MOST 1048576: true; the input reads as it did. -/
def diskMeansUptoRow : OpenClaim := { program := "ytjomnicfcdkfdaa", sum := "fe41e6bc518d764be8f130e20f2cd60941ff0a37fc858c41fe3698c088c9d9dd", func := "escutcheon/escutcheonlaw14.DiskMeans", spec := "diskMeans", unfollowed := true, recurses := true, apart := false, narrowed := true }
def DiskMeansUptoSaid : Prop := diskMeansUptoRow.holds Try.pinned (OpenSpec.upto diskMeansSpec)

/-- 'escutcheonlaw14.DiskPlays', WHERE WHAT IT READS IS OF BULK AT MOST 1048576: true; the input reads as it did. -/
def diskPlaysUptoRow : OpenClaim := { program := "ytjomnicfcdkfdaa", sum := "fe41e6bc518d764be8f130e20f2cd60941ff0a37fc858c41fe3698c088c9d9dd", func := "escutcheon/escutcheonlaw14.DiskPlays", spec := "diskPlays", unfollowed := true, recurses := true, apart := false, narrowed := true }
def DiskPlaysUptoSaid : Prop := diskPlaysUptoRow.holds Try.pinned (OpenSpec.upto diskPlaysSpec)

/-- 'escutcheonlaw14.DiskApart', WHERE WHAT IT READS IS OF BULK AT MOST 1048576: true; the input reads as it did. -/
def diskApartUptoRow : OpenClaim := { program := "ytjomnicfcdkfdaa", sum := "fe41e6bc518d764be8f130e20f2cd60941ff0a37fc858c41fe3698c088c9d9dd", func := "escutcheon/escutcheonlaw14.DiskApart", spec := "diskApart", inPlace := ["maps.clone"], unfollowed := true, recurses := true, apart := false, narrowed := true }
def DiskApartUptoSaid : Prop := diskApartUptoRow.holds Try.pinned (OpenSpec.upto diskApartSpec)

/-- 'escutcheonlaw14.DiskEdits', WHERE WHAT IT READS IS OF BULK AT MOST 1048576: true; the input reads as it did. -/
def diskEditsUptoRow : OpenClaim := { program := "ytjomnicfcdkfdaa", sum := "fe41e6bc518d764be8f130e20f2cd60941ff0a37fc858c41fe3698c088c9d9dd", func := "escutcheon/escutcheonlaw14.DiskEdits", spec := "diskEdits", inPlace := ["maps.clone"], unfollowed := true, recurses := true, apart := false, narrowed := true }
def DiskEditsUptoSaid : Prop := diskEditsUptoRow.holds Try.pinned (OpenSpec.upto diskEditsSpec)

/-- 'escutcheonlaw14.DiskNil', WHERE WHAT IT READS IS OF BULK AT MOST 1048576: true; the input reads as it did. -/
def diskNilUptoRow : OpenClaim := { program := "ytjomnicfcdkfdaa", sum := "fe41e6bc518d764be8f130e20f2cd60941ff0a37fc858c41fe3698c088c9d9dd", func := "escutcheon/escutcheonlaw14.DiskNil", spec := "diskNil", inPlace := ["maps.clone"], unfollowed := true, recurses := true, apart := false, narrowed := true }
def DiskNilUptoSaid : Prop := diskNilUptoRow.holds Try.pinned (OpenSpec.upto diskNilSpec)

end Rows
end Go.Proofs.Ytjomnicfcdkfdaa
