/-
  NARROWER THAN 'FOR EVERY INPUT', by the rows' own cells (each row's printed sentence says how): DerPacks: loops, laid · DerReads: laid · DerMeans: loops, laid · DerOrders: laid · DerBounds: laid · DerNests: loops, laid · DerMakes: loops, laid.
  DERIVED. THE GIVEN ROWS OF THIS SEAT. 7 by the template 'for every input the law returns true; each argument reads behind the call as it read before'; 0 by the template 'total and deterministic' (their statements: YtjhknfpociahoaaDoorTotals.lean).
  GIVEN WITH THE SEED: the statements are not yours to turn. If you find one false, say at which input.
  Laid BY PROGRAM, IN A SANDBOX (cutbox-rows.mjs): the forced cells as the released guide's own fill.sh prints them over the translation 2bc6f3a1d0bf8d99… (all of the seat's roots in one cut). By AI agents, Wed Nov 11 2026. No macro, syntax, notation, axiom, sorry.
-/
import Derived.Test.YtjhknfpociahoaaDoorChecked
import GoSem.PinnedTables
import GoSem.Claim
import GoSem.ClaimJoined
import GoSem.ClaimMapViews
import Derived.JoinedTies
import Derived.KernelRfl
namespace Go.Proofs.YtjhknfpociahoaaDoor
/- THE CELL 'sum', in the pinned program and in every row, IS THE sha256 OF THE DUMP (.gsa) THAT YtjhknfpociahoaaDoorProg.lean LOADS. Nothing in Lean hashes anything: it is a label: what it is worth is what the hold of that sum in a sandbox is worth. -/
noncomputable def Tryd.pinned : Pinned := { name := "ytjhknfpociahoaadoor", sum := "2bc6f3a1d0bf8d99174aa05d576dd65fd4ab346479153be1386197e800f56f25", checked := Tryd.checked }
namespace Rows
def none {H : Type} : Left H := { results := [], args := [] }

/- WHAT THE LISTED PACKAGE-LEVEL VARIABLES READ AS WHEN THE CALL BEGINS. Each datum BY PROGRAM (the guide's laid-datum.mjs) off the statement by which the dump's own 'gosem.cut.vars' lays the variable. In a bare row this is a premise. The card (YtjhknfpociahoaaDoorCards.lean) ties it to the program's text. -/
def laid_unicode_utf8_acceptRanges {H : Type} : DataW H := .agg [.agg [.lit (.int .u8 128), .lit (.int .u8 191)], .agg [.lit (.int .u8 160), .lit (.int .u8 191)], .agg [.lit (.int .u8 128), .lit (.int .u8 159)], .agg [.lit (.int .u8 144), .lit (.int .u8 191)], .agg [.lit (.int .u8 128), .lit (.int .u8 143)], .agg [.lit (.int .u8 0), .lit (.int .u8 0)], .agg [.lit (.int .u8 0), .lit (.int .u8 0)], .agg [.lit (.int .u8 0), .lit (.int .u8 0)], .agg [.lit (.int .u8 0), .lit (.int .u8 0)], .agg [.lit (.int .u8 0), .lit (.int .u8 0)], .agg [.lit (.int .u8 0), .lit (.int .u8 0)], .agg [.lit (.int .u8 0), .lit (.int .u8 0)], .agg [.lit (.int .u8 0), .lit (.int .u8 0)], .agg [.lit (.int .u8 0), .lit (.int .u8 0)], .agg [.lit (.int .u8 0), .lit (.int .u8 0)], .agg [.lit (.int .u8 0), .lit (.int .u8 0)]]
/-- One of Go's own tables, pinned by name: the form's constant. -/
def laid_unicode_utf8_first : DataW Unit := Go.Pinned.utf8First

/-- 'escutcheonlaw13.DerPacks': WHATEVER THE INPUT: true; the input reads as it did. -/
def derPacksSpec : ChangeSpec := { name := "derPacks", fn := fun _ => fun
  | [d1, d2] => { results := [.lit (.bool true)], args := [d1, d2] }
  | _ => none }
def derPacksRow : OpenClaim := { program := "ytjhknfpociahoaadoor", sum := "2bc6f3a1d0bf8d99174aa05d576dd65fd4ab346479153be1386197e800f56f25", func := "escutcheon/escutcheonlaw13.DerPacks", spec := "derPacks", unfollowed := true, recurses := true, named := ["unicode/utf8.first", "unicode/utf8.acceptRanges"], loops := true, apart := false, laid := [("unicode/utf8.acceptRanges", laid_unicode_utf8_acceptRanges), ("unicode/utf8.first", laid_unicode_utf8_first)] }
def DerPacksSaid : Prop := derPacksRow.holds Tryd.pinned (OpenSpec.ofChange derPacksSpec)

/-- ITS FALSE NEIGHBOUR: 'it returns false'. Refute it at one input. -/
def derPacksWrong : ChangeSpec := { name := "derPacks", fn := fun _ => fun
  | [d1, d2] => { results := [.lit (.bool false)], args := [d1, d2] }
  | _ => none }
def DerPacksWrongFalsely : Prop := derPacksRow.holds Tryd.pinned (OpenSpec.ofChange derPacksWrong)

/-- 'escutcheonlaw13.DerReads': WHATEVER THE INPUT: true; the input reads as it did. -/
def derReadsSpec : ChangeSpec := { name := "derReads", fn := fun _ => fun
  | [d] => { results := [.lit (.bool true)], args := [d] }
  | _ => none }
def derReadsRow : OpenClaim := { program := "ytjhknfpociahoaadoor", sum := "2bc6f3a1d0bf8d99174aa05d576dd65fd4ab346479153be1386197e800f56f25", func := "escutcheon/escutcheonlaw13.DerReads", spec := "derReads", unfollowed := true, recurses := true, named := ["unicode/utf8.first", "unicode/utf8.acceptRanges"], apart := false, laid := [("unicode/utf8.acceptRanges", laid_unicode_utf8_acceptRanges), ("unicode/utf8.first", laid_unicode_utf8_first)] }
def DerReadsSaid : Prop := derReadsRow.holds Tryd.pinned (OpenSpec.ofChange derReadsSpec)

/-- ITS FALSE NEIGHBOUR: 'it returns false'. Refute it at one input. -/
def derReadsWrong : ChangeSpec := { name := "derReads", fn := fun _ => fun
  | [d] => { results := [.lit (.bool false)], args := [d] }
  | _ => none }
def DerReadsWrongFalsely : Prop := derReadsRow.holds Tryd.pinned (OpenSpec.ofChange derReadsWrong)

/-- 'escutcheonlaw13.DerMeans': WHATEVER THE INPUT: true; the input reads as it did. -/
def derMeansSpec : ChangeSpec := { name := "derMeans", fn := fun _ => fun
  | [d1, d2, d3] => { results := [.lit (.bool true)], args := [d1, d2, d3] }
  | _ => none }
def derMeansRow : OpenClaim := { program := "ytjhknfpociahoaadoor", sum := "2bc6f3a1d0bf8d99174aa05d576dd65fd4ab346479153be1386197e800f56f25", func := "escutcheon/escutcheonlaw13.DerMeans", spec := "derMeans", unfollowed := true, recurses := true, named := ["unicode/utf8.first", "unicode/utf8.acceptRanges"], loops := true, apart := false, laid := [("unicode/utf8.acceptRanges", laid_unicode_utf8_acceptRanges), ("unicode/utf8.first", laid_unicode_utf8_first)] }
def DerMeansSaid : Prop := derMeansRow.holds Tryd.pinned (OpenSpec.ofChange derMeansSpec)

/-- ITS FALSE NEIGHBOUR: 'it returns false'. Refute it at one input. -/
def derMeansWrong : ChangeSpec := { name := "derMeans", fn := fun _ => fun
  | [d1, d2, d3] => { results := [.lit (.bool false)], args := [d1, d2, d3] }
  | _ => none }
def DerMeansWrongFalsely : Prop := derMeansRow.holds Tryd.pinned (OpenSpec.ofChange derMeansWrong)

/-- 'escutcheonlaw13.DerOrders': WHATEVER THE INPUT: true; the input reads as it did. -/
def derOrdersSpec : ChangeSpec := { name := "derOrders", fn := fun _ => fun
  | [d1, d2] => { results := [.lit (.bool true)], args := [d1, d2] }
  | _ => none }
def derOrdersRow : OpenClaim := { program := "ytjhknfpociahoaadoor", sum := "2bc6f3a1d0bf8d99174aa05d576dd65fd4ab346479153be1386197e800f56f25", func := "escutcheon/escutcheonlaw13.DerOrders", spec := "derOrders", unfollowed := true, recurses := true, named := ["unicode/utf8.first", "unicode/utf8.acceptRanges"], apart := false, laid := [("unicode/utf8.acceptRanges", laid_unicode_utf8_acceptRanges), ("unicode/utf8.first", laid_unicode_utf8_first)] }
def DerOrdersSaid : Prop := derOrdersRow.holds Tryd.pinned (OpenSpec.ofChange derOrdersSpec)

/-- ITS FALSE NEIGHBOUR: 'it returns false'. Refute it at one input. -/
def derOrdersWrong : ChangeSpec := { name := "derOrders", fn := fun _ => fun
  | [d1, d2] => { results := [.lit (.bool false)], args := [d1, d2] }
  | _ => none }
def DerOrdersWrongFalsely : Prop := derOrdersRow.holds Tryd.pinned (OpenSpec.ofChange derOrdersWrong)

/-- 'escutcheonlaw13.DerBounds': WHATEVER THE INPUT: true; the input reads as it did. -/
def derBoundsSpec : ChangeSpec := { name := "derBounds", fn := fun _ => fun
  | [] => { results := [.lit (.bool true)], args := [] }
  | _ => none }
def derBoundsRow : OpenClaim := { program := "ytjhknfpociahoaadoor", sum := "2bc6f3a1d0bf8d99174aa05d576dd65fd4ab346479153be1386197e800f56f25", func := "escutcheon/escutcheonlaw13.DerBounds", spec := "derBounds", unfollowed := true, recurses := true, named := ["unicode/utf8.first", "unicode/utf8.acceptRanges"], apart := false, laid := [("unicode/utf8.acceptRanges", laid_unicode_utf8_acceptRanges), ("unicode/utf8.first", laid_unicode_utf8_first)] }
def DerBoundsSaid : Prop := derBoundsRow.holds Tryd.pinned (OpenSpec.ofChange derBoundsSpec)

/-- ITS FALSE NEIGHBOUR: 'it returns false'. Refute it at one input. -/
def derBoundsWrong : ChangeSpec := { name := "derBounds", fn := fun _ => fun
  | [] => { results := [.lit (.bool false)], args := [] }
  | _ => none }
def DerBoundsWrongFalsely : Prop := derBoundsRow.holds Tryd.pinned (OpenSpec.ofChange derBoundsWrong)

/-- 'escutcheonlaw13.DerNests': WHATEVER THE INPUT: true; the input reads as it did. -/
def derNestsSpec : ChangeSpec := { name := "derNests", fn := fun _ => fun
  | [d1, d2] => { results := [.lit (.bool true)], args := [d1, d2] }
  | _ => none }
def derNestsRow : OpenClaim := { program := "ytjhknfpociahoaadoor", sum := "2bc6f3a1d0bf8d99174aa05d576dd65fd4ab346479153be1386197e800f56f25", func := "escutcheon/escutcheonlaw13.DerNests", spec := "derNests", unfollowed := true, recurses := true, named := ["unicode/utf8.first", "unicode/utf8.acceptRanges"], loops := true, apart := false, laid := [("unicode/utf8.acceptRanges", laid_unicode_utf8_acceptRanges), ("unicode/utf8.first", laid_unicode_utf8_first)] }
def DerNestsSaid : Prop := derNestsRow.holds Tryd.pinned (OpenSpec.ofChange derNestsSpec)

/-- ITS FALSE NEIGHBOUR: 'it returns false'. Refute it at one input. -/
def derNestsWrong : ChangeSpec := { name := "derNests", fn := fun _ => fun
  | [d1, d2] => { results := [.lit (.bool false)], args := [d1, d2] }
  | _ => none }
def DerNestsWrongFalsely : Prop := derNestsRow.holds Tryd.pinned (OpenSpec.ofChange derNestsWrong)

/-- 'escutcheonlaw13.DerMakes': WHATEVER THE INPUT: true; the input reads as it did. -/
def derMakesSpec : ChangeSpec := { name := "derMakes", fn := fun _ => fun
  | [d1, d2, d3, d4, d5, d6] => { results := [.lit (.bool true)], args := [d1, d2, d3, d4, d5, d6] }
  | _ => none }
def derMakesRow : OpenClaim := { program := "ytjhknfpociahoaadoor", sum := "2bc6f3a1d0bf8d99174aa05d576dd65fd4ab346479153be1386197e800f56f25", func := "escutcheon/escutcheonlaw13.DerMakes", spec := "derMakes", unfollowed := true, recurses := true, named := ["unicode/utf8.first", "unicode/utf8.acceptRanges"], loops := true, apart := false, laid := [("unicode/utf8.acceptRanges", laid_unicode_utf8_acceptRanges), ("unicode/utf8.first", laid_unicode_utf8_first)] }
def DerMakesSaid : Prop := derMakesRow.holds Tryd.pinned (OpenSpec.ofChange derMakesSpec)

/-- ITS FALSE NEIGHBOUR: 'it returns false'. Refute it at one input. -/
def derMakesWrong : ChangeSpec := { name := "derMakes", fn := fun _ => fun
  | [d1, d2, d3, d4, d5, d6] => { results := [.lit (.bool false)], args := [d1, d2, d3, d4, d5, d6] }
  | _ => none }
def DerMakesWrongFalsely : Prop := derMakesRow.holds Tryd.pinned (OpenSpec.ofChange derMakesWrong)

/- THE SECOND FORM. 'bulk': how many values and letters a reading holds, each counted each time it is reached (what is shared counts as often as it is met; a slice's spare places count too). A statement '..UptoSaid' is the law's where the arguments, and the package variables that the reading takes, are together of bulk at most 1048576: NARROWER than '..Said'. Prove '..Said' where nothing that the law and all that it calls make is longer than what came in: it says more and counts as full. Else prove '..UptoSaid'. A law counts once. -/
mutual
def uptoBulk {H : Type} : DataW H → Nat
  | .lit (.string bytes) => bytes.length + 1
  | .lit _ => 1
  | .nil => 1
  | .ptr d => uptoBulk d + 1
  | .slice elems spare => uptoBulkAll elems + uptoBulkAll spare + 1
  | .agg parts => uptoBulkAll parts + 1
  | .iface _ d => uptoBulk d + 1
  | .map entries => uptoBulkEntries entries + 1
  | .held _ => 1
def uptoBulkAll {H : Type} : List (DataW H) → Nat
  | [] => 0
  | d :: r => uptoBulk d + uptoBulkAll r
def uptoBulkEntries {H : Type} : List (Lit × DataW H) → Nat
  | [] => 0
  | x :: r => uptoBulkEntry x + uptoBulkEntries r
def uptoBulkEntry {H : Type} : Lit × DataW H → Nat
  | (.string bytes, d) => bytes.length + uptoBulk d + 1
  | (_, d) => uptoBulk d + 1
 end
def uptoSmall : (H : Type) → List (DataW H) → Bool := fun _ ds => decide (uptoBulkAll ds ≤ 1048576)
def OpenSpec.upto (s : _root_.Go.ChangeSpec) : _root_.Go.OpenSpec := { _root_.Go.OpenSpec.ofChange s with cond := some uptoSmall }

/-- 'escutcheonlaw13.DerPacks', WHERE WHAT IT READS IS OF BULK AT MOST 1048576: true; the input reads as it did. -/
def derPacksUptoRow : OpenClaim := { program := "ytjhknfpociahoaadoor", sum := "2bc6f3a1d0bf8d99174aa05d576dd65fd4ab346479153be1386197e800f56f25", func := "escutcheon/escutcheonlaw13.DerPacks", spec := "derPacks", unfollowed := true, recurses := true, named := ["unicode/utf8.first", "unicode/utf8.acceptRanges"], loops := true, apart := false, laid := [("unicode/utf8.acceptRanges", laid_unicode_utf8_acceptRanges), ("unicode/utf8.first", laid_unicode_utf8_first)], narrowed := true }
def DerPacksUptoSaid : Prop := derPacksUptoRow.holds Tryd.pinned (OpenSpec.upto derPacksSpec)

/-- 'escutcheonlaw13.DerReads', WHERE WHAT IT READS IS OF BULK AT MOST 1048576: true; the input reads as it did. -/
def derReadsUptoRow : OpenClaim := { program := "ytjhknfpociahoaadoor", sum := "2bc6f3a1d0bf8d99174aa05d576dd65fd4ab346479153be1386197e800f56f25", func := "escutcheon/escutcheonlaw13.DerReads", spec := "derReads", unfollowed := true, recurses := true, named := ["unicode/utf8.first", "unicode/utf8.acceptRanges"], apart := false, laid := [("unicode/utf8.acceptRanges", laid_unicode_utf8_acceptRanges), ("unicode/utf8.first", laid_unicode_utf8_first)], narrowed := true }
def DerReadsUptoSaid : Prop := derReadsUptoRow.holds Tryd.pinned (OpenSpec.upto derReadsSpec)

/-- 'escutcheonlaw13.DerMeans', WHERE WHAT IT READS IS OF BULK AT MOST 1048576: true; the input reads as it did. -/
def derMeansUptoRow : OpenClaim := { program := "ytjhknfpociahoaadoor", sum := "2bc6f3a1d0bf8d99174aa05d576dd65fd4ab346479153be1386197e800f56f25", func := "escutcheon/escutcheonlaw13.DerMeans", spec := "derMeans", unfollowed := true, recurses := true, named := ["unicode/utf8.first", "unicode/utf8.acceptRanges"], loops := true, apart := false, laid := [("unicode/utf8.acceptRanges", laid_unicode_utf8_acceptRanges), ("unicode/utf8.first", laid_unicode_utf8_first)], narrowed := true }
def DerMeansUptoSaid : Prop := derMeansUptoRow.holds Tryd.pinned (OpenSpec.upto derMeansSpec)

/-- 'escutcheonlaw13.DerOrders', WHERE WHAT IT READS IS OF BULK AT MOST 1048576: true; the input reads as it did. -/
def derOrdersUptoRow : OpenClaim := { program := "ytjhknfpociahoaadoor", sum := "2bc6f3a1d0bf8d99174aa05d576dd65fd4ab346479153be1386197e800f56f25", func := "escutcheon/escutcheonlaw13.DerOrders", spec := "derOrders", unfollowed := true, recurses := true, named := ["unicode/utf8.first", "unicode/utf8.acceptRanges"], apart := false, laid := [("unicode/utf8.acceptRanges", laid_unicode_utf8_acceptRanges), ("unicode/utf8.first", laid_unicode_utf8_first)], narrowed := true }
def DerOrdersUptoSaid : Prop := derOrdersUptoRow.holds Tryd.pinned (OpenSpec.upto derOrdersSpec)

/-- 'escutcheonlaw13.DerBounds', WHERE WHAT IT READS IS OF BULK AT MOST 1048576: true; the input reads as it did. -/
def derBoundsUptoRow : OpenClaim := { program := "ytjhknfpociahoaadoor", sum := "2bc6f3a1d0bf8d99174aa05d576dd65fd4ab346479153be1386197e800f56f25", func := "escutcheon/escutcheonlaw13.DerBounds", spec := "derBounds", unfollowed := true, recurses := true, named := ["unicode/utf8.first", "unicode/utf8.acceptRanges"], apart := false, laid := [("unicode/utf8.acceptRanges", laid_unicode_utf8_acceptRanges), ("unicode/utf8.first", laid_unicode_utf8_first)], narrowed := true }
def DerBoundsUptoSaid : Prop := derBoundsUptoRow.holds Tryd.pinned (OpenSpec.upto derBoundsSpec)

/-- 'escutcheonlaw13.DerNests', WHERE WHAT IT READS IS OF BULK AT MOST 1048576: true; the input reads as it did. -/
def derNestsUptoRow : OpenClaim := { program := "ytjhknfpociahoaadoor", sum := "2bc6f3a1d0bf8d99174aa05d576dd65fd4ab346479153be1386197e800f56f25", func := "escutcheon/escutcheonlaw13.DerNests", spec := "derNests", unfollowed := true, recurses := true, named := ["unicode/utf8.first", "unicode/utf8.acceptRanges"], loops := true, apart := false, laid := [("unicode/utf8.acceptRanges", laid_unicode_utf8_acceptRanges), ("unicode/utf8.first", laid_unicode_utf8_first)], narrowed := true }
def DerNestsUptoSaid : Prop := derNestsUptoRow.holds Tryd.pinned (OpenSpec.upto derNestsSpec)

/-- 'escutcheonlaw13.DerMakes', WHERE WHAT IT READS IS OF BULK AT MOST 1048576: true; the input reads as it did. -/
def derMakesUptoRow : OpenClaim := { program := "ytjhknfpociahoaadoor", sum := "2bc6f3a1d0bf8d99174aa05d576dd65fd4ab346479153be1386197e800f56f25", func := "escutcheon/escutcheonlaw13.DerMakes", spec := "derMakes", unfollowed := true, recurses := true, named := ["unicode/utf8.first", "unicode/utf8.acceptRanges"], loops := true, apart := false, laid := [("unicode/utf8.acceptRanges", laid_unicode_utf8_acceptRanges), ("unicode/utf8.first", laid_unicode_utf8_first)], narrowed := true }
def DerMakesUptoSaid : Prop := derMakesUptoRow.holds Tryd.pinned (OpenSpec.upto derMakesSpec)

end Rows
end Go.Proofs.YtjhknfpociahoaaDoor
