/-
  DERIVED. GIVEN WITH THE SEED: THE CARDS: each row of YtfcedjmgddloiaaDoorRows.lean that lists a variable, with what it lists TIED to the program's text (the seventh form; the later family's looks); each row that meets fmt, with fmt's text TOLD by the authors' own Lean function (tested against real Go, not proved from fmt's source: count such statements apart). THE CARD IS WHAT COUNTS. Prove the row's statement (the work); the ties are given (YtfcedjmgddloiaaDoorTie.lean); close each card by the builder's one call (the guide's Derived/Test/ToyasCard.lean, 'card_holds'). Laid BY PROGRAM, IN A SANDBOX (cutbox-door.mjs). By AI agents, Wed Nov 11 2026. No macro, syntax, notation, axiom, sorry.
-/
import Derived.Test.YtfcedjmgddloiaaDoorRows
import GoSem.ClaimSeven
namespace Go.Proofs.YtfcedjmgddloiaaDoor
namespace Rows

/-- THE TIED CARD OF 'escutcheonlaw26.ModelNil'. -/
def modelNilCard : Claim7 := { stood := { row := modelNilRow, standIns := [], harness := (true, "a0e771a1a277357d6f510ecf1028c2c71016041147c41f6b47e9186b118fc453"), looks := true }, kinds := [], alts := [], laidByText := true, laidKinds := [.data, .pinned], laidTests := true, laidLooks := .later }
def ModelNilCardSaid : Prop := Claim7.holds Tryd.pinned (.plain (OpenSpec.ofChange modelNilSpec)) modelNilCard

/-- THE SECOND FORM's CARD OF 'escutcheonlaw26.ModelNil'. -/
def modelNilUptoCard : Claim7 := { stood := { row := modelNilUptoRow, standIns := [], harness := (true, "a0e771a1a277357d6f510ecf1028c2c71016041147c41f6b47e9186b118fc453"), looks := true }, kinds := [], alts := [], laidByText := true, laidKinds := [.data, .pinned], laidTests := true, laidLooks := .later }
def ModelNilUptoCardSaid : Prop := Claim7.holds Tryd.pinned (.plain (OpenSpec.upto modelNilSpec)) modelNilUptoCard
end Rows
end Go.Proofs.YtfcedjmgddloiaaDoor
