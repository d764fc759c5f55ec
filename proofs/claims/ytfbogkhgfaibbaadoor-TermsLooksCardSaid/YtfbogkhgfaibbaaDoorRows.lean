/-
  NARROWER THAN 'FOR EVERY INPUT', by the rows' own cells (each row's printed sentence says how): TermsMeans: loops, laid · TermsKeeps: loops, laid · TermsSeals: loops, laid · TermsMakes: loops, laid · TermsParts: loops, laid · TermsLearns: loops, laid · TermsLooks: loops, laid · TermsForms: loops, laid.
  DERIVED. THE GIVEN ROWS OF THIS SEAT. 8 by the template 'for every input the law returns true; each argument reads behind the call as it read before'; 0 by the template 'total and deterministic' (their statements: YtfbogkhgfaibbaaDoorTotals.lean).
  GIVEN WITH THE SEED: the statements are not yours to turn. If you find one false, say at which input.
  Laid BY PROGRAM, IN A SANDBOX (cutbox-rows.mjs): the forced cells as the released guide's own fill.sh prints them over the translation ab3605dc5f74d6a7… (all of the seat's roots in one cut). By AI agents, Wed Nov 11 2026. No macro, syntax, notation, axiom, sorry.
-/
import Derived.Test.YtfbogkhgfaibbaaDoorChecked
import GoSem.Claim
import GoSem.ClaimJoined
import GoSem.ClaimMapViews
import Derived.JoinedTies
import Derived.KernelRfl
namespace Go.Proofs.YtfbogkhgfaibbaaDoor
/- THE CELL 'sum', in the pinned program and in every row, IS THE sha256 OF THE DUMP (.gsa) THAT YtfbogkhgfaibbaaDoorProg.lean LOADS. Nothing in Lean hashes anything: it is a label: what it is worth is what the hold of that sum in a sandbox is worth. -/
noncomputable def Tryd.pinned : Pinned := { name := "ytfbogkhgfaibbaadoor", sum := "ab3605dc5f74d6a70774f3a1054f59a1c25365a0aa44d8d1699391433bc75c2d", checked := Tryd.checked }
namespace Rows
def none {H : Type} : Left H := { results := [], args := [] }

/- WHAT THE LISTED PACKAGE-LEVEL VARIABLES READ AS WHEN THE CALL BEGINS. Each datum BY PROGRAM (the guide's laid-datum.mjs) off the statement by which the dump's own 'gosem.cut.vars' lays the variable. In a bare row this is a premise. The card (YtfbogkhgfaibbaaDoorCards.lean) ties it to the program's text. -/
def laid_math_bits_deBruijn32tab {H : Type} : DataW H := .agg [.lit (.int .u8 0), .lit (.int .u8 1), .lit (.int .u8 28), .lit (.int .u8 2), .lit (.int .u8 29), .lit (.int .u8 14), .lit (.int .u8 24), .lit (.int .u8 3), .lit (.int .u8 30), .lit (.int .u8 22), .lit (.int .u8 20), .lit (.int .u8 15), .lit (.int .u8 25), .lit (.int .u8 17), .lit (.int .u8 4), .lit (.int .u8 8), .lit (.int .u8 31), .lit (.int .u8 27), .lit (.int .u8 13), .lit (.int .u8 23), .lit (.int .u8 21), .lit (.int .u8 19), .lit (.int .u8 16), .lit (.int .u8 7), .lit (.int .u8 26), .lit (.int .u8 12), .lit (.int .u8 18), .lit (.int .u8 6), .lit (.int .u8 11), .lit (.int .u8 5), .lit (.int .u8 10), .lit (.int .u8 9)]
def laid_math_bits_deBruijn64tab {H : Type} : DataW H := .agg [.lit (.int .u8 0), .lit (.int .u8 1), .lit (.int .u8 56), .lit (.int .u8 2), .lit (.int .u8 57), .lit (.int .u8 49), .lit (.int .u8 28), .lit (.int .u8 3), .lit (.int .u8 61), .lit (.int .u8 58), .lit (.int .u8 42), .lit (.int .u8 50), .lit (.int .u8 38), .lit (.int .u8 29), .lit (.int .u8 17), .lit (.int .u8 4), .lit (.int .u8 62), .lit (.int .u8 47), .lit (.int .u8 59), .lit (.int .u8 36), .lit (.int .u8 45), .lit (.int .u8 43), .lit (.int .u8 51), .lit (.int .u8 22), .lit (.int .u8 53), .lit (.int .u8 39), .lit (.int .u8 33), .lit (.int .u8 30), .lit (.int .u8 24), .lit (.int .u8 18), .lit (.int .u8 12), .lit (.int .u8 5), .lit (.int .u8 63), .lit (.int .u8 55), .lit (.int .u8 48), .lit (.int .u8 27), .lit (.int .u8 60), .lit (.int .u8 41), .lit (.int .u8 37), .lit (.int .u8 16), .lit (.int .u8 46), .lit (.int .u8 35), .lit (.int .u8 44), .lit (.int .u8 21), .lit (.int .u8 52), .lit (.int .u8 32), .lit (.int .u8 23), .lit (.int .u8 11), .lit (.int .u8 54), .lit (.int .u8 26), .lit (.int .u8 40), .lit (.int .u8 15), .lit (.int .u8 34), .lit (.int .u8 20), .lit (.int .u8 31), .lit (.int .u8 10), .lit (.int .u8 25), .lit (.int .u8 14), .lit (.int .u8 19), .lit (.int .u8 9), .lit (.int .u8 13), .lit (.int .u8 8), .lit (.int .u8 7), .lit (.int .u8 6)]
def laid_internal_strconv_uint64pow10 {H : Type} : DataW H := .agg [.lit (.int .u64 1), .lit (.int .u64 10), .lit (.int .u64 100), .lit (.int .u64 1000), .lit (.int .u64 10000), .lit (.int .u64 100000), .lit (.int .u64 1000000), .lit (.int .u64 10000000), .lit (.int .u64 100000000), .lit (.int .u64 1000000000), .lit (.int .u64 10000000000), .lit (.int .u64 100000000000), .lit (.int .u64 1000000000000), .lit (.int .u64 10000000000000), .lit (.int .u64 100000000000000), .lit (.int .u64 1000000000000000), .lit (.int .u64 10000000000000000), .lit (.int .u64 100000000000000000), .lit (.int .u64 1000000000000000000), .lit (.int .u64 10000000000000000000)]
def laid_strconv_ErrRange {H : Type} : DataW H := .iface "*errors.errorString" (.ptr (.agg [.lit (.string [118, 97, 108, 117, 101, 32, 111, 117, 116, 32, 111, 102, 32, 114, 97, 110, 103, 101])]))
def laid_strconv_ErrSyntax {H : Type} : DataW H := .iface "*errors.errorString" (.ptr (.agg [.lit (.string [105, 110, 118, 97, 108, 105, 100, 32, 115, 121, 110, 116, 97, 120])]))

/-- 'escutcheonlaw29.TermsMeans': WHATEVER THE INPUT: true; the input reads as it did. -/
def termsMeansSpec : ChangeSpec := { name := "termsMeans", fn := fun _ => fun
  | [d1, d2, d3] => { results := [.lit (.bool true)], args := [d1, d2, d3] }
  | _ => none }
def termsMeansRow : OpenClaim := { program := "ytfbogkhgfaibbaadoor", sum := "ab3605dc5f74d6a70774f3a1054f59a1c25365a0aa44d8d1699391433bc75c2d", func := "escutcheon/escutcheonlaw29.TermsMeans", spec := "termsMeans", inPlace := ["internal/abi.NoEscape", "internal/bytealg.MakeNoZero"], unfollowed := true, recurses := true, named := ["internal/strconv.uint64pow10", "math/bits.deBruijn32tab", "math/bits.deBruijn64tab"], loops := true, apart := false, laid := [("math/bits.deBruijn32tab", laid_math_bits_deBruijn32tab), ("math/bits.deBruijn64tab", laid_math_bits_deBruijn64tab), ("internal/strconv.uint64pow10", laid_internal_strconv_uint64pow10)] }
def TermsMeansSaid : Prop := termsMeansRow.holds Tryd.pinned (OpenSpec.ofChange termsMeansSpec)

/-- ITS FALSE NEIGHBOUR: 'it returns false'. Refute it at one input. -/
def termsMeansWrong : ChangeSpec := { name := "termsMeans", fn := fun _ => fun
  | [d1, d2, d3] => { results := [.lit (.bool false)], args := [d1, d2, d3] }
  | _ => none }
def TermsMeansWrongFalsely : Prop := termsMeansRow.holds Tryd.pinned (OpenSpec.ofChange termsMeansWrong)

/-- 'escutcheonlaw29.TermsKeeps': WHATEVER THE INPUT: true; the input reads as it did. -/
def termsKeepsSpec : ChangeSpec := { name := "termsKeeps", fn := fun _ => fun
  | [d1, d2] => { results := [.lit (.bool true)], args := [d1, d2] }
  | _ => none }
def termsKeepsRow : OpenClaim := { program := "ytfbogkhgfaibbaadoor", sum := "ab3605dc5f74d6a70774f3a1054f59a1c25365a0aa44d8d1699391433bc75c2d", func := "escutcheon/escutcheonlaw29.TermsKeeps", spec := "termsKeeps", inPlace := ["internal/abi.NoEscape", "internal/bytealg.MakeNoZero"], unfollowed := true, recurses := true, named := ["internal/strconv.uint64pow10", "math/bits.deBruijn32tab", "math/bits.deBruijn64tab"], loops := true, apart := false, laid := [("math/bits.deBruijn32tab", laid_math_bits_deBruijn32tab), ("math/bits.deBruijn64tab", laid_math_bits_deBruijn64tab), ("internal/strconv.uint64pow10", laid_internal_strconv_uint64pow10)] }
def TermsKeepsSaid : Prop := termsKeepsRow.holds Tryd.pinned (OpenSpec.ofChange termsKeepsSpec)

/-- ITS FALSE NEIGHBOUR: 'it returns false'. Refute it at one input. -/
def termsKeepsWrong : ChangeSpec := { name := "termsKeeps", fn := fun _ => fun
  | [d1, d2] => { results := [.lit (.bool false)], args := [d1, d2] }
  | _ => none }
def TermsKeepsWrongFalsely : Prop := termsKeepsRow.holds Tryd.pinned (OpenSpec.ofChange termsKeepsWrong)

/-- 'escutcheonlaw29.TermsSeals': WHATEVER THE INPUT: true; the input reads as it did. -/
def termsSealsSpec : ChangeSpec := { name := "termsSeals", fn := fun _ => fun
  | [d1, d2, d3, d4] => { results := [.lit (.bool true)], args := [d1, d2, d3, d4] }
  | _ => none }
def termsSealsRow : OpenClaim := { program := "ytfbogkhgfaibbaadoor", sum := "ab3605dc5f74d6a70774f3a1054f59a1c25365a0aa44d8d1699391433bc75c2d", func := "escutcheon/escutcheonlaw29.TermsSeals", spec := "termsSeals", inPlace := ["internal/abi.NoEscape", "internal/bytealg.MakeNoZero"], unfollowed := true, recurses := true, named := ["internal/strconv.uint64pow10", "math/bits.deBruijn32tab", "math/bits.deBruijn64tab"], loops := true, apart := false, laid := [("math/bits.deBruijn32tab", laid_math_bits_deBruijn32tab), ("math/bits.deBruijn64tab", laid_math_bits_deBruijn64tab), ("internal/strconv.uint64pow10", laid_internal_strconv_uint64pow10)] }
def TermsSealsSaid : Prop := termsSealsRow.holds Tryd.pinned (OpenSpec.ofChange termsSealsSpec)

/-- ITS FALSE NEIGHBOUR: 'it returns false'. Refute it at one input. -/
def termsSealsWrong : ChangeSpec := { name := "termsSeals", fn := fun _ => fun
  | [d1, d2, d3, d4] => { results := [.lit (.bool false)], args := [d1, d2, d3, d4] }
  | _ => none }
def TermsSealsWrongFalsely : Prop := termsSealsRow.holds Tryd.pinned (OpenSpec.ofChange termsSealsWrong)

/-- 'escutcheonlaw29.TermsMakes': WHATEVER THE INPUT: true; the input reads as it did. -/
def termsMakesSpec : ChangeSpec := { name := "termsMakes", fn := fun _ => fun
  | [d1, d2, d3] => { results := [.lit (.bool true)], args := [d1, d2, d3] }
  | _ => none }
def termsMakesRow : OpenClaim := { program := "ytfbogkhgfaibbaadoor", sum := "ab3605dc5f74d6a70774f3a1054f59a1c25365a0aa44d8d1699391433bc75c2d", func := "escutcheon/escutcheonlaw29.TermsMakes", spec := "termsMakes", inPlace := ["internal/abi.NoEscape", "internal/bytealg.MakeNoZero"], unfollowed := true, recurses := true, named := ["internal/strconv.uint64pow10", "math/bits.deBruijn32tab", "math/bits.deBruijn64tab"], loops := true, apart := false, laid := [("math/bits.deBruijn32tab", laid_math_bits_deBruijn32tab), ("math/bits.deBruijn64tab", laid_math_bits_deBruijn64tab), ("internal/strconv.uint64pow10", laid_internal_strconv_uint64pow10)] }
def TermsMakesSaid : Prop := termsMakesRow.holds Tryd.pinned (OpenSpec.ofChange termsMakesSpec)

/-- ITS FALSE NEIGHBOUR: 'it returns false'. Refute it at one input. -/
def termsMakesWrong : ChangeSpec := { name := "termsMakes", fn := fun _ => fun
  | [d1, d2, d3] => { results := [.lit (.bool false)], args := [d1, d2, d3] }
  | _ => none }
def TermsMakesWrongFalsely : Prop := termsMakesRow.holds Tryd.pinned (OpenSpec.ofChange termsMakesWrong)

/-- 'escutcheonlaw29.TermsParts': WHATEVER THE INPUT: true; the input reads as it did. -/
def termsPartsSpec : ChangeSpec := { name := "termsParts", fn := fun _ => fun
  | [d1, d2] => { results := [.lit (.bool true)], args := [d1, d2] }
  | _ => none }
def termsPartsRow : OpenClaim := { program := "ytfbogkhgfaibbaadoor", sum := "ab3605dc5f74d6a70774f3a1054f59a1c25365a0aa44d8d1699391433bc75c2d", func := "escutcheon/escutcheonlaw29.TermsParts", spec := "termsParts", inPlace := ["internal/abi.NoEscape", "internal/bytealg.MakeNoZero"], unfollowed := true, recurses := true, named := ["internal/strconv.uint64pow10", "math/bits.deBruijn32tab", "math/bits.deBruijn64tab"], loops := true, apart := false, laid := [("math/bits.deBruijn32tab", laid_math_bits_deBruijn32tab), ("math/bits.deBruijn64tab", laid_math_bits_deBruijn64tab), ("internal/strconv.uint64pow10", laid_internal_strconv_uint64pow10)] }
def TermsPartsSaid : Prop := termsPartsRow.holds Tryd.pinned (OpenSpec.ofChange termsPartsSpec)

/-- ITS FALSE NEIGHBOUR: 'it returns false'. Refute it at one input. -/
def termsPartsWrong : ChangeSpec := { name := "termsParts", fn := fun _ => fun
  | [d1, d2] => { results := [.lit (.bool false)], args := [d1, d2] }
  | _ => none }
def TermsPartsWrongFalsely : Prop := termsPartsRow.holds Tryd.pinned (OpenSpec.ofChange termsPartsWrong)

/-- 'escutcheonlaw29.TermsLearns': WHATEVER THE INPUT: true; the input reads as it did. -/
def termsLearnsSpec : ChangeSpec := { name := "termsLearns", fn := fun _ => fun
  | [d1, d2] => { results := [.lit (.bool true)], args := [d1, d2] }
  | _ => none }
def termsLearnsRow : OpenClaim := { program := "ytfbogkhgfaibbaadoor", sum := "ab3605dc5f74d6a70774f3a1054f59a1c25365a0aa44d8d1699391433bc75c2d", func := "escutcheon/escutcheonlaw29.TermsLearns", spec := "termsLearns", inPlace := ["internal/abi.NoEscape", "internal/bytealg.MakeNoZero"], unfollowed := true, recurses := true, named := ["internal/strconv.uint64pow10", "math/bits.deBruijn32tab", "math/bits.deBruijn64tab"], loops := true, apart := false, laid := [("math/bits.deBruijn32tab", laid_math_bits_deBruijn32tab), ("math/bits.deBruijn64tab", laid_math_bits_deBruijn64tab), ("internal/strconv.uint64pow10", laid_internal_strconv_uint64pow10)] }
def TermsLearnsSaid : Prop := termsLearnsRow.holds Tryd.pinned (OpenSpec.ofChange termsLearnsSpec)

/-- ITS FALSE NEIGHBOUR: 'it returns false'. Refute it at one input. -/
def termsLearnsWrong : ChangeSpec := { name := "termsLearns", fn := fun _ => fun
  | [d1, d2] => { results := [.lit (.bool false)], args := [d1, d2] }
  | _ => none }
def TermsLearnsWrongFalsely : Prop := termsLearnsRow.holds Tryd.pinned (OpenSpec.ofChange termsLearnsWrong)

/-- 'escutcheonlaw29.TermsLooks': WHATEVER THE INPUT: true; the input reads as it did. -/
def termsLooksSpec : ChangeSpec := { name := "termsLooks", fn := fun _ => fun
  | [d1, d2, d3] => { results := [.lit (.bool true)], args := [d1, d2, d3] }
  | _ => none }
def termsLooksRow : OpenClaim := { program := "ytfbogkhgfaibbaadoor", sum := "ab3605dc5f74d6a70774f3a1054f59a1c25365a0aa44d8d1699391433bc75c2d", func := "escutcheon/escutcheonlaw29.TermsLooks", spec := "termsLooks", inPlace := ["internal/abi.NoEscape", "internal/bytealg.MakeNoZero"], unfollowed := true, recurses := true, named := ["internal/strconv.uint64pow10", "math/bits.deBruijn32tab", "math/bits.deBruijn64tab", "strconv.ErrSyntax", "strconv.ErrRange"], loops := true, apart := false, laid := [("math/bits.deBruijn32tab", laid_math_bits_deBruijn32tab), ("math/bits.deBruijn64tab", laid_math_bits_deBruijn64tab), ("internal/strconv.uint64pow10", laid_internal_strconv_uint64pow10), ("strconv.ErrRange", laid_strconv_ErrRange), ("strconv.ErrSyntax", laid_strconv_ErrSyntax)] }
def TermsLooksSaid : Prop := termsLooksRow.holds Tryd.pinned (OpenSpec.ofChange termsLooksSpec)

/-- ITS FALSE NEIGHBOUR: 'it returns false'. Refute it at one input. -/
def termsLooksWrong : ChangeSpec := { name := "termsLooks", fn := fun _ => fun
  | [d1, d2, d3] => { results := [.lit (.bool false)], args := [d1, d2, d3] }
  | _ => none }
def TermsLooksWrongFalsely : Prop := termsLooksRow.holds Tryd.pinned (OpenSpec.ofChange termsLooksWrong)

/-- 'escutcheonlaw29.TermsForms': WHATEVER THE INPUT: true; the input reads as it did. -/
def termsFormsSpec : ChangeSpec := { name := "termsForms", fn := fun _ => fun
  | [d1, d2, d3] => { results := [.lit (.bool true)], args := [d1, d2, d3] }
  | _ => none }
def termsFormsRow : OpenClaim := { program := "ytfbogkhgfaibbaadoor", sum := "ab3605dc5f74d6a70774f3a1054f59a1c25365a0aa44d8d1699391433bc75c2d", func := "escutcheon/escutcheonlaw29.TermsForms", spec := "termsForms", inPlace := ["internal/abi.NoEscape", "internal/bytealg.MakeNoZero"], unfollowed := true, recurses := true, named := ["internal/strconv.uint64pow10", "math/bits.deBruijn32tab", "math/bits.deBruijn64tab", "strconv.ErrSyntax", "strconv.ErrRange"], loops := true, apart := false, laid := [("math/bits.deBruijn32tab", laid_math_bits_deBruijn32tab), ("math/bits.deBruijn64tab", laid_math_bits_deBruijn64tab), ("internal/strconv.uint64pow10", laid_internal_strconv_uint64pow10), ("strconv.ErrRange", laid_strconv_ErrRange), ("strconv.ErrSyntax", laid_strconv_ErrSyntax)] }
def TermsFormsSaid : Prop := termsFormsRow.holds Tryd.pinned (OpenSpec.ofChange termsFormsSpec)

/-- ITS FALSE NEIGHBOUR: 'it returns false'. Refute it at one input. -/
def termsFormsWrong : ChangeSpec := { name := "termsForms", fn := fun _ => fun
  | [d1, d2, d3] => { results := [.lit (.bool false)], args := [d1, d2, d3] }
  | _ => none }
def TermsFormsWrongFalsely : Prop := termsFormsRow.holds Tryd.pinned (OpenSpec.ofChange termsFormsWrong)

/- THE SECOND FORM. 'bulk': how many values and letters a reading holds, each counted each time it is reached (what is shared counts as often as it is met; a slice's spare places count too). A statement '..UptoSaid' is the law's where the arguments, and the package variables that the reading takes, are together of bulk at most 1048576: NARROWER than '..Said'. Prove '..Said' where nothing that the law and all that it calls make is longer than what came in: it says more and counts as full. Else prove '..UptoSaid'. A law counts once. -/
mutual
def uptoBulk {H : Type} : DataW H → Nat
  | .lit (.string bytes) => bytes.length + 1
  | .lit _ => 1
  | .nil => 1
  | .ptr d => uptoBulk d + 1
  | .slice elems spare => uptoBulkAll elems + uptoBulkAll spare + 1
  | .agg parts => uptoBulkAll parts + 1
  | .iface _ d => uptoBulk d + 1
  | .map entries => uptoBulkEntries entries + 1
  | .held _ => 1
def uptoBulkAll {H : Type} : List (DataW H) → Nat
  | [] => 0
  | d :: r => uptoBulk d + uptoBulkAll r
def uptoBulkEntries {H : Type} : List (Lit × DataW H) → Nat
  | [] => 0
  | x :: r => uptoBulkEntry x + uptoBulkEntries r
def uptoBulkEntry {H : Type} : Lit × DataW H → Nat
  | (.string bytes, d) => bytes.length + uptoBulk d + 1
  | (_, d) => uptoBulk d + 1
 end
def uptoSmall : (H : Type) → List (DataW H) → Bool := fun _ ds => decide (uptoBulkAll ds ≤ 1048576)
def OpenSpec.upto (s : _root_.Go.ChangeSpec) : _root_.Go.OpenSpec := { _root_.Go.OpenSpec.ofChange s with cond := some uptoSmall }

/-- 'escutcheonlaw29.TermsMeans', WHERE WHAT IT READS IS OF BULK AT MOST 1048576: true; the input reads as it did. -/
def termsMeansUptoRow : OpenClaim := { program := "ytfbogkhgfaibbaadoor", sum := "ab3605dc5f74d6a70774f3a1054f59a1c25365a0aa44d8d1699391433bc75c2d", func := "escutcheon/escutcheonlaw29.TermsMeans", spec := "termsMeans", inPlace := ["internal/abi.NoEscape", "internal/bytealg.MakeNoZero"], unfollowed := true, recurses := true, named := ["internal/strconv.uint64pow10", "math/bits.deBruijn32tab", "math/bits.deBruijn64tab"], loops := true, apart := false, laid := [("math/bits.deBruijn32tab", laid_math_bits_deBruijn32tab), ("math/bits.deBruijn64tab", laid_math_bits_deBruijn64tab), ("internal/strconv.uint64pow10", laid_internal_strconv_uint64pow10)], narrowed := true }
def TermsMeansUptoSaid : Prop := termsMeansUptoRow.holds Tryd.pinned (OpenSpec.upto termsMeansSpec)

/-- 'escutcheonlaw29.TermsKeeps', WHERE WHAT IT READS IS OF BULK AT MOST 1048576: true; the input reads as it did. -/
def termsKeepsUptoRow : OpenClaim := { program := "ytfbogkhgfaibbaadoor", sum := "ab3605dc5f74d6a70774f3a1054f59a1c25365a0aa44d8d1699391433bc75c2d", func := "escutcheon/escutcheonlaw29.TermsKeeps", spec := "termsKeeps", inPlace := ["internal/abi.NoEscape", "internal/bytealg.MakeNoZero"], unfollowed := true, recurses := true, named := ["internal/strconv.uint64pow10", "math/bits.deBruijn32tab", "math/bits.deBruijn64tab"], loops := true, apart := false, laid := [("math/bits.deBruijn32tab", laid_math_bits_deBruijn32tab), ("math/bits.deBruijn64tab", laid_math_bits_deBruijn64tab), ("internal/strconv.uint64pow10", laid_internal_strconv_uint64pow10)], narrowed := true }
def TermsKeepsUptoSaid : Prop := termsKeepsUptoRow.holds Tryd.pinned (OpenSpec.upto termsKeepsSpec)

/-- 'escutcheonlaw29.TermsSeals', WHERE WHAT IT READS IS OF BULK AT MOST 1048576: true; the input reads as it did. -/
def termsSealsUptoRow : OpenClaim := { program := "ytfbogkhgfaibbaadoor", sum := "ab3605dc5f74d6a70774f3a1054f59a1c25365a0aa44d8d1699391433bc75c2d", func := "escutcheon/escutcheonlaw29.TermsSeals", spec := "termsSeals", inPlace := ["internal/abi.NoEscape", "internal/bytealg.MakeNoZero"], unfollowed := true, recurses := true, named := ["internal/strconv.uint64pow10", "math/bits.deBruijn32tab", "math/bits.deBruijn64tab"], loops := true, apart := false, laid := [("math/bits.deBruijn32tab", laid_math_bits_deBruijn32tab), ("math/bits.deBruijn64tab", laid_math_bits_deBruijn64tab), ("internal/strconv.uint64pow10", laid_internal_strconv_uint64pow10)], narrowed := true }
def TermsSealsUptoSaid : Prop := termsSealsUptoRow.holds Tryd.pinned (OpenSpec.upto termsSealsSpec)

/-- 'escutcheonlaw29.TermsMakes', WHERE WHAT IT READS IS OF BULK AT MOST 1048576: true; the input reads as it did. -/
def termsMakesUptoRow : OpenClaim := { program := "ytfbogkhgfaibbaadoor", sum := "ab3605dc5f74d6a70774f3a1054f59a1c25365a0aa44d8d1699391433bc75c2d", func := "escutcheon/escutcheonlaw29.TermsMakes", spec := "termsMakes", inPlace := ["internal/abi.NoEscape", "internal/bytealg.MakeNoZero"], unfollowed := true, recurses := true, named := ["internal/strconv.uint64pow10", "math/bits.deBruijn32tab", "math/bits.deBruijn64tab"], loops := true, apart := false, laid := [("math/bits.deBruijn32tab", laid_math_bits_deBruijn32tab), ("math/bits.deBruijn64tab", laid_math_bits_deBruijn64tab), ("internal/strconv.uint64pow10", laid_internal_strconv_uint64pow10)], narrowed := true }
def TermsMakesUptoSaid : Prop := termsMakesUptoRow.holds Tryd.pinned (OpenSpec.upto termsMakesSpec)

/-- 'escutcheonlaw29.TermsParts', WHERE WHAT IT READS IS OF BULK AT MOST 1048576: true; the input reads as it did. -/
def termsPartsUptoRow : OpenClaim := { program := "ytfbogkhgfaibbaadoor", sum := "ab3605dc5f74d6a70774f3a1054f59a1c25365a0aa44d8d1699391433bc75c2d", func := "escutcheon/escutcheonlaw29.TermsParts", spec := "termsParts", inPlace := ["internal/abi.NoEscape", "internal/bytealg.MakeNoZero"], unfollowed := true, recurses := true, named := ["internal/strconv.uint64pow10", "math/bits.deBruijn32tab", "math/bits.deBruijn64tab"], loops := true, apart := false, laid := [("math/bits.deBruijn32tab", laid_math_bits_deBruijn32tab), ("math/bits.deBruijn64tab", laid_math_bits_deBruijn64tab), ("internal/strconv.uint64pow10", laid_internal_strconv_uint64pow10)], narrowed := true }
def TermsPartsUptoSaid : Prop := termsPartsUptoRow.holds Tryd.pinned (OpenSpec.upto termsPartsSpec)

/-- 'escutcheonlaw29.TermsLearns', WHERE WHAT IT READS IS OF BULK AT MOST 1048576: true; the input reads as it did. -/
def termsLearnsUptoRow : OpenClaim := { program := "ytfbogkhgfaibbaadoor", sum := "ab3605dc5f74d6a70774f3a1054f59a1c25365a0aa44d8d1699391433bc75c2d", func := "escutcheon/escutcheonlaw29.TermsLearns", spec := "termsLearns", inPlace := ["internal/abi.NoEscape", "internal/bytealg.MakeNoZero"], unfollowed := true, recurses := true, named := ["internal/strconv.uint64pow10", "math/bits.deBruijn32tab", "math/bits.deBruijn64tab"], loops := true, apart := false, laid := [("math/bits.deBruijn32tab", laid_math_bits_deBruijn32tab), ("math/bits.deBruijn64tab", laid_math_bits_deBruijn64tab), ("internal/strconv.uint64pow10", laid_internal_strconv_uint64pow10)], narrowed := true }
def TermsLearnsUptoSaid : Prop := termsLearnsUptoRow.holds Tryd.pinned (OpenSpec.upto termsLearnsSpec)

/-- 'escutcheonlaw29.TermsLooks', WHERE WHAT IT READS IS OF BULK AT MOST 1048576: true; the input reads as it did. -/
def termsLooksUptoRow : OpenClaim := { program := "ytfbogkhgfaibbaadoor", sum := "ab3605dc5f74d6a70774f3a1054f59a1c25365a0aa44d8d1699391433bc75c2d", func := "escutcheon/escutcheonlaw29.TermsLooks", spec := "termsLooks", inPlace := ["internal/abi.NoEscape", "internal/bytealg.MakeNoZero"], unfollowed := true, recurses := true, named := ["internal/strconv.uint64pow10", "math/bits.deBruijn32tab", "math/bits.deBruijn64tab", "strconv.ErrSyntax", "strconv.ErrRange"], loops := true, apart := false, laid := [("math/bits.deBruijn32tab", laid_math_bits_deBruijn32tab), ("math/bits.deBruijn64tab", laid_math_bits_deBruijn64tab), ("internal/strconv.uint64pow10", laid_internal_strconv_uint64pow10), ("strconv.ErrRange", laid_strconv_ErrRange), ("strconv.ErrSyntax", laid_strconv_ErrSyntax)], narrowed := true }
def TermsLooksUptoSaid : Prop := termsLooksUptoRow.holds Tryd.pinned (OpenSpec.upto termsLooksSpec)

/-- 'escutcheonlaw29.TermsForms', WHERE WHAT IT READS IS OF BULK AT MOST 1048576: true; the input reads as it did. -/
def termsFormsUptoRow : OpenClaim := { program := "ytfbogkhgfaibbaadoor", sum := "ab3605dc5f74d6a70774f3a1054f59a1c25365a0aa44d8d1699391433bc75c2d", func := "escutcheon/escutcheonlaw29.TermsForms", spec := "termsForms", inPlace := ["internal/abi.NoEscape", "internal/bytealg.MakeNoZero"], unfollowed := true, recurses := true, named := ["internal/strconv.uint64pow10", "math/bits.deBruijn32tab", "math/bits.deBruijn64tab", "strconv.ErrSyntax", "strconv.ErrRange"], loops := true, apart := false, laid := [("math/bits.deBruijn32tab", laid_math_bits_deBruijn32tab), ("math/bits.deBruijn64tab", laid_math_bits_deBruijn64tab), ("internal/strconv.uint64pow10", laid_internal_strconv_uint64pow10), ("strconv.ErrRange", laid_strconv_ErrRange), ("strconv.ErrSyntax", laid_strconv_ErrSyntax)], narrowed := true }
def TermsFormsUptoSaid : Prop := termsFormsUptoRow.holds Tryd.pinned (OpenSpec.upto termsFormsSpec)

end Rows
end Go.Proofs.YtfbogkhgfaibbaaDoor
