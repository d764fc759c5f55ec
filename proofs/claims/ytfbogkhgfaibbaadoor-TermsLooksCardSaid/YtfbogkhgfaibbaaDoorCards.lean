/-
  DERIVED. GIVEN WITH THE SEED: THE CARDS: each row of YtfbogkhgfaibbaaDoorRows.lean that lists a variable, with what it lists TIED to the program's text (the seventh form; the later family's looks); each row that meets fmt, with fmt's text TOLD by the authors' own Lean function (tested against real Go, not proved from fmt's source: count such statements apart). THE CARD IS WHAT COUNTS. Prove the row's statement (the work); the ties are given (YtfbogkhgfaibbaaDoorTie.lean); close each card by the builder's one call (the guide's Derived/Test/ToyasCard.lean, 'card_holds'). Laid BY PROGRAM, IN A SANDBOX (cutbox-door.mjs). By AI agents, Wed Nov 11 2026. No macro, syntax, notation, axiom, sorry.
-/
import Derived.Test.YtfbogkhgfaibbaaDoorRows
import GoSem.ClaimSeven
namespace Go.Proofs.YtfbogkhgfaibbaaDoor
namespace Rows

/-- THE TIED CARD OF 'escutcheonlaw29.TermsMeans'. -/
def termsMeansCard : Claim7 := { stood := { row := termsMeansRow, standIns := [], harness := (true, "556adf0a9970e8b5bbaf006d1e51a64115eca95168f8aeb99a309fb812cc3062"), looks := true }, kinds := [], alts := [], laidByText := true, laidKinds := [.data, .data, .data], laidTests := true, laidLooks := .later }
def TermsMeansCardSaid : Prop := Claim7.holds Tryd.pinned (.plain (OpenSpec.ofChange termsMeansSpec)) termsMeansCard

/-- THE TIED CARD OF 'escutcheonlaw29.TermsKeeps'. -/
def termsKeepsCard : Claim7 := { stood := { row := termsKeepsRow, standIns := [], harness := (true, "556adf0a9970e8b5bbaf006d1e51a64115eca95168f8aeb99a309fb812cc3062"), looks := true }, kinds := [], alts := [], laidByText := true, laidKinds := [.data, .data, .data], laidTests := true, laidLooks := .later }
def TermsKeepsCardSaid : Prop := Claim7.holds Tryd.pinned (.plain (OpenSpec.ofChange termsKeepsSpec)) termsKeepsCard

/-- THE TIED CARD OF 'escutcheonlaw29.TermsSeals'. -/
def termsSealsCard : Claim7 := { stood := { row := termsSealsRow, standIns := [], harness := (true, "556adf0a9970e8b5bbaf006d1e51a64115eca95168f8aeb99a309fb812cc3062"), looks := true }, kinds := [], alts := [], laidByText := true, laidKinds := [.data, .data, .data], laidTests := true, laidLooks := .later }
def TermsSealsCardSaid : Prop := Claim7.holds Tryd.pinned (.plain (OpenSpec.ofChange termsSealsSpec)) termsSealsCard

/-- THE TIED CARD OF 'escutcheonlaw29.TermsMakes'. -/
def termsMakesCard : Claim7 := { stood := { row := termsMakesRow, standIns := [], harness := (true, "556adf0a9970e8b5bbaf006d1e51a64115eca95168f8aeb99a309fb812cc3062"), looks := true }, kinds := [], alts := [], laidByText := true, laidKinds := [.data, .data, .data], laidTests := true, laidLooks := .later }
def TermsMakesCardSaid : Prop := Claim7.holds Tryd.pinned (.plain (OpenSpec.ofChange termsMakesSpec)) termsMakesCard

/-- THE TIED CARD OF 'escutcheonlaw29.TermsParts'. -/
def termsPartsCard : Claim7 := { stood := { row := termsPartsRow, standIns := [], harness := (true, "556adf0a9970e8b5bbaf006d1e51a64115eca95168f8aeb99a309fb812cc3062"), looks := true }, kinds := [], alts := [], laidByText := true, laidKinds := [.data, .data, .data], laidTests := true, laidLooks := .later }
def TermsPartsCardSaid : Prop := Claim7.holds Tryd.pinned (.plain (OpenSpec.ofChange termsPartsSpec)) termsPartsCard

/-- THE TIED CARD OF 'escutcheonlaw29.TermsLearns'. -/
def termsLearnsCard : Claim7 := { stood := { row := termsLearnsRow, standIns := [], harness := (true, "556adf0a9970e8b5bbaf006d1e51a64115eca95168f8aeb99a309fb812cc3062"), looks := true }, kinds := [], alts := [], laidByText := true, laidKinds := [.data, .data, .data], laidTests := true, laidLooks := .later }
def TermsLearnsCardSaid : Prop := Claim7.holds Tryd.pinned (.plain (OpenSpec.ofChange termsLearnsSpec)) termsLearnsCard

/-- THE TIED CARD OF 'escutcheonlaw29.TermsLooks'. -/
def termsLooksCard : Claim7 := { stood := { row := termsLooksRow, standIns := [], harness := (true, "556adf0a9970e8b5bbaf006d1e51a64115eca95168f8aeb99a309fb812cc3062"), looks := true }, kinds := [], alts := [], laidByText := true, laidKinds := [.data, .data, .data, .sentinel, .sentinel], laidTests := true, laidLooks := .later }
def TermsLooksCardSaid : Prop := Claim7.holds Tryd.pinned (.plain (OpenSpec.ofChange termsLooksSpec)) termsLooksCard

/-- THE TIED CARD OF 'escutcheonlaw29.TermsForms'. -/
def termsFormsCard : Claim7 := { stood := { row := termsFormsRow, standIns := [], harness := (true, "556adf0a9970e8b5bbaf006d1e51a64115eca95168f8aeb99a309fb812cc3062"), looks := true }, kinds := [], alts := [], laidByText := true, laidKinds := [.data, .data, .data, .sentinel, .sentinel], laidTests := true, laidLooks := .later }
def TermsFormsCardSaid : Prop := Claim7.holds Tryd.pinned (.plain (OpenSpec.ofChange termsFormsSpec)) termsFormsCard

/-- THE SECOND FORM's CARD OF 'escutcheonlaw29.TermsMeans'. -/
def termsMeansUptoCard : Claim7 := { stood := { row := termsMeansUptoRow, standIns := [], harness := (true, "556adf0a9970e8b5bbaf006d1e51a64115eca95168f8aeb99a309fb812cc3062"), looks := true }, kinds := [], alts := [], laidByText := true, laidKinds := [.data, .data, .data], laidTests := true, laidLooks := .later }
def TermsMeansUptoCardSaid : Prop := Claim7.holds Tryd.pinned (.plain (OpenSpec.upto termsMeansSpec)) termsMeansUptoCard

/-- THE SECOND FORM's CARD OF 'escutcheonlaw29.TermsKeeps'. -/
def termsKeepsUptoCard : Claim7 := { stood := { row := termsKeepsUptoRow, standIns := [], harness := (true, "556adf0a9970e8b5bbaf006d1e51a64115eca95168f8aeb99a309fb812cc3062"), looks := true }, kinds := [], alts := [], laidByText := true, laidKinds := [.data, .data, .data], laidTests := true, laidLooks := .later }
def TermsKeepsUptoCardSaid : Prop := Claim7.holds Tryd.pinned (.plain (OpenSpec.upto termsKeepsSpec)) termsKeepsUptoCard

/-- THE SECOND FORM's CARD OF 'escutcheonlaw29.TermsSeals'. -/
def termsSealsUptoCard : Claim7 := { stood := { row := termsSealsUptoRow, standIns := [], harness := (true, "556adf0a9970e8b5bbaf006d1e51a64115eca95168f8aeb99a309fb812cc3062"), looks := true }, kinds := [], alts := [], laidByText := true, laidKinds := [.data, .data, .data], laidTests := true, laidLooks := .later }
def TermsSealsUptoCardSaid : Prop := Claim7.holds Tryd.pinned (.plain (OpenSpec.upto termsSealsSpec)) termsSealsUptoCard

/-- THE SECOND FORM's CARD OF 'escutcheonlaw29.TermsMakes'. -/
def termsMakesUptoCard : Claim7 := { stood := { row := termsMakesUptoRow, standIns := [], harness := (true, "556adf0a9970e8b5bbaf006d1e51a64115eca95168f8aeb99a309fb812cc3062"), looks := true }, kinds := [], alts := [], laidByText := true, laidKinds := [.data, .data, .data], laidTests := true, laidLooks := .later }
def TermsMakesUptoCardSaid : Prop := Claim7.holds Tryd.pinned (.plain (OpenSpec.upto termsMakesSpec)) termsMakesUptoCard

/-- THE SECOND FORM's CARD OF 'escutcheonlaw29.TermsParts'. -/
def termsPartsUptoCard : Claim7 := { stood := { row := termsPartsUptoRow, standIns := [], harness := (true, "556adf0a9970e8b5bbaf006d1e51a64115eca95168f8aeb99a309fb812cc3062"), looks := true }, kinds := [], alts := [], laidByText := true, laidKinds := [.data, .data, .data], laidTests := true, laidLooks := .later }
def TermsPartsUptoCardSaid : Prop := Claim7.holds Tryd.pinned (.plain (OpenSpec.upto termsPartsSpec)) termsPartsUptoCard

/-- THE SECOND FORM's CARD OF 'escutcheonlaw29.TermsLearns'. -/
def termsLearnsUptoCard : Claim7 := { stood := { row := termsLearnsUptoRow, standIns := [], harness := (true, "556adf0a9970e8b5bbaf006d1e51a64115eca95168f8aeb99a309fb812cc3062"), looks := true }, kinds := [], alts := [], laidByText := true, laidKinds := [.data, .data, .data], laidTests := true, laidLooks := .later }
def TermsLearnsUptoCardSaid : Prop := Claim7.holds Tryd.pinned (.plain (OpenSpec.upto termsLearnsSpec)) termsLearnsUptoCard

/-- THE SECOND FORM's CARD OF 'escutcheonlaw29.TermsLooks'. -/
def termsLooksUptoCard : Claim7 := { stood := { row := termsLooksUptoRow, standIns := [], harness := (true, "556adf0a9970e8b5bbaf006d1e51a64115eca95168f8aeb99a309fb812cc3062"), looks := true }, kinds := [], alts := [], laidByText := true, laidKinds := [.data, .data, .data, .sentinel, .sentinel], laidTests := true, laidLooks := .later }
def TermsLooksUptoCardSaid : Prop := Claim7.holds Tryd.pinned (.plain (OpenSpec.upto termsLooksSpec)) termsLooksUptoCard

/-- THE SECOND FORM's CARD OF 'escutcheonlaw29.TermsForms'. -/
def termsFormsUptoCard : Claim7 := { stood := { row := termsFormsUptoRow, standIns := [], harness := (true, "556adf0a9970e8b5bbaf006d1e51a64115eca95168f8aeb99a309fb812cc3062"), looks := true }, kinds := [], alts := [], laidByText := true, laidKinds := [.data, .data, .data, .sentinel, .sentinel], laidTests := true, laidLooks := .later }
def TermsFormsUptoCardSaid : Prop := Claim7.holds Tryd.pinned (.plain (OpenSpec.upto termsFormsSpec)) termsFormsUptoCard
end Rows
end Go.Proofs.YtfbogkhgfaibbaaDoor
