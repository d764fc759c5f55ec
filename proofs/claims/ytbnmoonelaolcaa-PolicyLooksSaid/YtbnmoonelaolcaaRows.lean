/-
  No cell of these rows narrows 'for every input' (looked for: loops, veiled, ifaces, maps, wideKeys, modest, calm, conditions, laid).
  DERIVED. THE GIVEN ROWS OF THIS SEAT. 4 by the template 'for every input the law returns true; each argument reads behind the call as it read before'; 0 by the template 'total and deterministic' (their statements: YtbnmoonelaolcaaTotals.lean).
  GIVEN WITH THE SEED: the statements are not yours to turn. If you find one false, say at which input.
  Laid BY PROGRAM, IN A SANDBOX (cutbox-rows.mjs): the forced cells as the released guide's own fill.sh prints them over the translation 4ed4dbd546e03a1e… (all of the seat's roots in one cut). By AI agents, Wed Nov 11 2026. No macro, syntax, notation, axiom, sorry.
-/
import Derived.Test.YtbnmoonelaolcaaChecked
import GoSem.Claim
import GoSem.ClaimJoined
import GoSem.ClaimMapViews
import Derived.JoinedTies
import Derived.KernelRfl
namespace Go.Proofs.Ytbnmoonelaolcaa
/- THE CELL 'sum', in the pinned program and in every row, IS THE sha256 OF THE DUMP (.gsa) THAT YtbnmoonelaolcaaProg.lean LOADS. Nothing in Lean hashes anything: it is a label: what it is worth is what the hold of that sum in a sandbox is worth. -/
noncomputable def Try.pinned : Pinned := { name := "ytbnmoonelaolcaa", sum := "4ed4dbd546e03a1e8beb485c902ba20764256f1a7c8e850fc7900905a6770251", checked := Try.checked }
namespace Rows
def none {H : Type} : Left H := { results := [], args := [] }

/-- 'escutcheonlaw21.PolicyChildren': WHATEVER THE INPUT: true; the input reads as it did. -/
def policyChildrenSpec : ChangeSpec := { name := "policyChildren", fn := fun _ => fun
  | [d1, d2, d3, d4, d5] => { results := [.lit (.bool true)], args := [d1, d2, d3, d4, d5] }
  | _ => none }
def policyChildrenRow : OpenClaim := { program := "ytbnmoonelaolcaa", sum := "4ed4dbd546e03a1e8beb485c902ba20764256f1a7c8e850fc7900905a6770251", func := "escutcheon/escutcheonlaw21.PolicyChildren", spec := "policyChildren", apart := false }
def PolicyChildrenSaid : Prop := policyChildrenRow.holds Try.pinned (OpenSpec.ofChange policyChildrenSpec)

/-- ITS FALSE NEIGHBOUR: 'it returns false'. Refute it at one input. -/
def policyChildrenWrong : ChangeSpec := { name := "policyChildren", fn := fun _ => fun
  | [d1, d2, d3, d4, d5] => { results := [.lit (.bool false)], args := [d1, d2, d3, d4, d5] }
  | _ => none }
def PolicyChildrenWrongFalsely : Prop := policyChildrenRow.holds Try.pinned (OpenSpec.ofChange policyChildrenWrong)

/-- 'escutcheonlaw21.PolicyRules': WHATEVER THE INPUT: true; the input reads as it did. -/
def policyRulesSpec : ChangeSpec := { name := "policyRules", fn := fun _ => fun
  | [d1, d2, d3] => { results := [.lit (.bool true)], args := [d1, d2, d3] }
  | _ => none }
def policyRulesRow : OpenClaim := { program := "ytbnmoonelaolcaa", sum := "4ed4dbd546e03a1e8beb485c902ba20764256f1a7c8e850fc7900905a6770251", func := "escutcheon/escutcheonlaw21.PolicyRules", spec := "policyRules", unfollowed := true, recurses := true, apart := false }
def PolicyRulesSaid : Prop := policyRulesRow.holds Try.pinned (OpenSpec.ofChange policyRulesSpec)

/-- ITS FALSE NEIGHBOUR: 'it returns false'. Refute it at one input. -/
def policyRulesWrong : ChangeSpec := { name := "policyRules", fn := fun _ => fun
  | [d1, d2, d3] => { results := [.lit (.bool false)], args := [d1, d2, d3] }
  | _ => none }
def PolicyRulesWrongFalsely : Prop := policyRulesRow.holds Try.pinned (OpenSpec.ofChange policyRulesWrong)

/-- 'escutcheonlaw21.PolicyLess': WHATEVER THE INPUT: true; the input reads as it did. -/
def policyLessSpec : ChangeSpec := { name := "policyLess", fn := fun _ => fun
  | [d1, d2, d3, d4, d5] => { results := [.lit (.bool true)], args := [d1, d2, d3, d4, d5] }
  | _ => none }
def policyLessRow : OpenClaim := { program := "ytbnmoonelaolcaa", sum := "4ed4dbd546e03a1e8beb485c902ba20764256f1a7c8e850fc7900905a6770251", func := "escutcheon/escutcheonlaw21.PolicyLess", spec := "policyLess", unfollowed := true, recurses := true, apart := false }
def PolicyLessSaid : Prop := policyLessRow.holds Try.pinned (OpenSpec.ofChange policyLessSpec)

/-- ITS FALSE NEIGHBOUR: 'it returns false'. Refute it at one input. -/
def policyLessWrong : ChangeSpec := { name := "policyLess", fn := fun _ => fun
  | [d1, d2, d3, d4, d5] => { results := [.lit (.bool false)], args := [d1, d2, d3, d4, d5] }
  | _ => none }
def PolicyLessWrongFalsely : Prop := policyLessRow.holds Try.pinned (OpenSpec.ofChange policyLessWrong)

/-- 'escutcheonlaw21.PolicyLooks': WHATEVER THE INPUT: true; the input reads as it did. -/
def policyLooksSpec : ChangeSpec := { name := "policyLooks", fn := fun _ => fun
  | [d1, d2, d3] => { results := [.lit (.bool true)], args := [d1, d2, d3] }
  | _ => none }
def policyLooksRow : OpenClaim := { program := "ytbnmoonelaolcaa", sum := "4ed4dbd546e03a1e8beb485c902ba20764256f1a7c8e850fc7900905a6770251", func := "escutcheon/escutcheonlaw21.PolicyLooks", spec := "policyLooks", inPlace := ["internal/abi.NoEscape", "internal/bytealg.MakeNoZero"], apart := false }
def PolicyLooksSaid : Prop := policyLooksRow.holds Try.pinned (OpenSpec.ofChange policyLooksSpec)

/-- ITS FALSE NEIGHBOUR: 'it returns false'. Refute it at one input. -/
def policyLooksWrong : ChangeSpec := { name := "policyLooks", fn := fun _ => fun
  | [d1, d2, d3] => { results := [.lit (.bool false)], args := [d1, d2, d3] }
  | _ => none }
def PolicyLooksWrongFalsely : Prop := policyLooksRow.holds Try.pinned (OpenSpec.ofChange policyLooksWrong)

/- THE SECOND FORM. 'bulk': how many values and letters a reading holds, each counted each time it is reached (what is shared counts as often as it is met; a slice's spare places count too). A statement '..UptoSaid' is the law's where the arguments, and the package variables that the reading takes, are together of bulk at most 1048576: NARROWER than '..Said'. Prove '..Said' where nothing that the law and all that it calls make is longer than what came in: it says more and counts as full. Else prove '..UptoSaid'. A law counts once. -/
mutual
def uptoBulk {H : Type} : DataW H → Nat
  | .lit (.string bytes) => bytes.length + 1
  | .lit _ => 1
  | .nil => 1
  | .ptr d => uptoBulk d + 1
  | .slice elems spare => uptoBulkAll elems + uptoBulkAll spare + 1
  | .agg parts => uptoBulkAll parts + 1
  | .iface _ d => uptoBulk d + 1
  | .map entries => uptoBulkEntries entries + 1
  | .held _ => 1
def uptoBulkAll {H : Type} : List (DataW H) → Nat
  | [] => 0
  | d :: r => uptoBulk d + uptoBulkAll r
def uptoBulkEntries {H : Type} : List (Lit × DataW H) → Nat
  | [] => 0
  | x :: r => uptoBulkEntry x + uptoBulkEntries r
def uptoBulkEntry {H : Type} : Lit × DataW H → Nat
  | (.string bytes, d) => bytes.length + uptoBulk d + 1
  | (_, d) => uptoBulk d + 1
 end
def uptoSmall : (H : Type) → List (DataW H) → Bool := fun _ ds => decide (uptoBulkAll ds ≤ 1048576)
def OpenSpec.upto (s : _root_.Go.ChangeSpec) : _root_.Go.OpenSpec := { _root_.Go.OpenSpec.ofChange s with cond := some uptoSmall }

/-- 'escutcheonlaw21.PolicyChildren', WHERE WHAT IT READS IS OF BULK AT MOST 1048576: true; the input reads as it did. -/
def policyChildrenUptoRow : OpenClaim := { program := "ytbnmoonelaolcaa", sum := "4ed4dbd546e03a1e8beb485c902ba20764256f1a7c8e850fc7900905a6770251", func := "escutcheon/escutcheonlaw21.PolicyChildren", spec := "policyChildren", apart := false, narrowed := true }
def PolicyChildrenUptoSaid : Prop := policyChildrenUptoRow.holds Try.pinned (OpenSpec.upto policyChildrenSpec)

/-- 'escutcheonlaw21.PolicyRules', WHERE WHAT IT READS IS OF BULK AT MOST 1048576: true; the input reads as it did. -/
def policyRulesUptoRow : OpenClaim := { program := "ytbnmoonelaolcaa", sum := "4ed4dbd546e03a1e8beb485c902ba20764256f1a7c8e850fc7900905a6770251", func := "escutcheon/escutcheonlaw21.PolicyRules", spec := "policyRules", unfollowed := true, recurses := true, apart := false, narrowed := true }
def PolicyRulesUptoSaid : Prop := policyRulesUptoRow.holds Try.pinned (OpenSpec.upto policyRulesSpec)

/-- 'escutcheonlaw21.PolicyLess', WHERE WHAT IT READS IS OF BULK AT MOST 1048576: true; the input reads as it did. -/
def policyLessUptoRow : OpenClaim := { program := "ytbnmoonelaolcaa", sum := "4ed4dbd546e03a1e8beb485c902ba20764256f1a7c8e850fc7900905a6770251", func := "escutcheon/escutcheonlaw21.PolicyLess", spec := "policyLess", unfollowed := true, recurses := true, apart := false, narrowed := true }
def PolicyLessUptoSaid : Prop := policyLessUptoRow.holds Try.pinned (OpenSpec.upto policyLessSpec)

/-- 'escutcheonlaw21.PolicyLooks', WHERE WHAT IT READS IS OF BULK AT MOST 1048576: true; the input reads as it did. -/
def policyLooksUptoRow : OpenClaim := { program := "ytbnmoonelaolcaa", sum := "4ed4dbd546e03a1e8beb485c902ba20764256f1a7c8e850fc7900905a6770251", func := "escutcheon/escutcheonlaw21.PolicyLooks", spec := "policyLooks", inPlace := ["internal/abi.NoEscape", "internal/bytealg.MakeNoZero"], apart := false, narrowed := true }
def PolicyLooksUptoSaid : Prop := policyLooksUptoRow.holds Try.pinned (OpenSpec.upto policyLooksSpec)

end Rows
end Go.Proofs.Ytbnmoonelaolcaa
