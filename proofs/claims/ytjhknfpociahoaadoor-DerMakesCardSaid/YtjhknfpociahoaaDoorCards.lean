/-
  DERIVED. GIVEN WITH THE SEED: THE CARDS: each row of YtjhknfpociahoaaDoorRows.lean that lists a variable, with what it lists TIED to the program's text (the seventh form; the later family's looks); each row that meets fmt, with fmt's text TOLD by the authors' own Lean function (tested against real Go, not proved from fmt's source: count such statements apart). THE CARD IS WHAT COUNTS. Prove the row's statement (the work); the ties are given (YtjhknfpociahoaaDoorTie.lean); close each card by the builder's one call (the guide's Derived/Test/ToyasCard.lean, 'card_holds'). Laid BY PROGRAM, IN A SANDBOX (cutbox-door.mjs). By AI agents, Wed Nov 11 2026. No macro, syntax, notation, axiom, sorry.
-/
import Derived.Test.YtjhknfpociahoaaDoorRows
import GoSem.ClaimSeven
namespace Go.Proofs.YtjhknfpociahoaaDoor
namespace Rows

/-- THE TIED CARD OF 'escutcheonlaw13.DerPacks'. -/
def derPacksCard : Claim7 := { stood := { row := derPacksRow, standIns := [], harness := (true, "f244a042b6d290398c613c32902d0749077c6941af889079e6f5ee56edb6cf41"), looks := false }, kinds := [], alts := [], laidByText := true, laidKinds := [.data, .pinned], laidTests := true, laidLooks := .later }
def DerPacksCardSaid : Prop := Claim7.holds Tryd.pinned (.plain (OpenSpec.ofChange derPacksSpec)) derPacksCard

/-- THE TIED CARD OF 'escutcheonlaw13.DerReads'. -/
def derReadsCard : Claim7 := { stood := { row := derReadsRow, standIns := [], harness := (true, "f244a042b6d290398c613c32902d0749077c6941af889079e6f5ee56edb6cf41"), looks := false }, kinds := [], alts := [], laidByText := true, laidKinds := [.data, .pinned], laidTests := true, laidLooks := .later }
def DerReadsCardSaid : Prop := Claim7.holds Tryd.pinned (.plain (OpenSpec.ofChange derReadsSpec)) derReadsCard

/-- THE TIED CARD OF 'escutcheonlaw13.DerMeans'. -/
def derMeansCard : Claim7 := { stood := { row := derMeansRow, standIns := [], harness := (true, "f244a042b6d290398c613c32902d0749077c6941af889079e6f5ee56edb6cf41"), looks := false }, kinds := [], alts := [], laidByText := true, laidKinds := [.data, .pinned], laidTests := true, laidLooks := .later }
def DerMeansCardSaid : Prop := Claim7.holds Tryd.pinned (.plain (OpenSpec.ofChange derMeansSpec)) derMeansCard

/-- THE TIED CARD OF 'escutcheonlaw13.DerOrders'. -/
def derOrdersCard : Claim7 := { stood := { row := derOrdersRow, standIns := [], harness := (true, "f244a042b6d290398c613c32902d0749077c6941af889079e6f5ee56edb6cf41"), looks := false }, kinds := [], alts := [], laidByText := true, laidKinds := [.data, .pinned], laidTests := true, laidLooks := .later }
def DerOrdersCardSaid : Prop := Claim7.holds Tryd.pinned (.plain (OpenSpec.ofChange derOrdersSpec)) derOrdersCard

/-- THE TIED CARD OF 'escutcheonlaw13.DerBounds'. -/
def derBoundsCard : Claim7 := { stood := { row := derBoundsRow, standIns := [], harness := (true, "f244a042b6d290398c613c32902d0749077c6941af889079e6f5ee56edb6cf41"), looks := false }, kinds := [], alts := [], laidByText := true, laidKinds := [.data, .pinned], laidTests := true, laidLooks := .later }
def DerBoundsCardSaid : Prop := Claim7.holds Tryd.pinned (.plain (OpenSpec.ofChange derBoundsSpec)) derBoundsCard

/-- THE TIED CARD OF 'escutcheonlaw13.DerNests'. -/
def derNestsCard : Claim7 := { stood := { row := derNestsRow, standIns := [], harness := (true, "f244a042b6d290398c613c32902d0749077c6941af889079e6f5ee56edb6cf41"), looks := false }, kinds := [], alts := [], laidByText := true, laidKinds := [.data, .pinned], laidTests := true, laidLooks := .later }
def DerNestsCardSaid : Prop := Claim7.holds Tryd.pinned (.plain (OpenSpec.ofChange derNestsSpec)) derNestsCard

/-- THE TIED CARD OF 'escutcheonlaw13.DerMakes'. -/
def derMakesCard : Claim7 := { stood := { row := derMakesRow, standIns := [], harness := (true, "f244a042b6d290398c613c32902d0749077c6941af889079e6f5ee56edb6cf41"), looks := false }, kinds := [], alts := [], laidByText := true, laidKinds := [.data, .pinned], laidTests := true, laidLooks := .later }
def DerMakesCardSaid : Prop := Claim7.holds Tryd.pinned (.plain (OpenSpec.ofChange derMakesSpec)) derMakesCard

/-- THE SECOND FORM's CARD OF 'escutcheonlaw13.DerPacks'. -/
def derPacksUptoCard : Claim7 := { stood := { row := derPacksUptoRow, standIns := [], harness := (true, "f244a042b6d290398c613c32902d0749077c6941af889079e6f5ee56edb6cf41"), looks := false }, kinds := [], alts := [], laidByText := true, laidKinds := [.data, .pinned], laidTests := true, laidLooks := .later }
def DerPacksUptoCardSaid : Prop := Claim7.holds Tryd.pinned (.plain (OpenSpec.upto derPacksSpec)) derPacksUptoCard

/-- THE SECOND FORM's CARD OF 'escutcheonlaw13.DerReads'. -/
def derReadsUptoCard : Claim7 := { stood := { row := derReadsUptoRow, standIns := [], harness := (true, "f244a042b6d290398c613c32902d0749077c6941af889079e6f5ee56edb6cf41"), looks := false }, kinds := [], alts := [], laidByText := true, laidKinds := [.data, .pinned], laidTests := true, laidLooks := .later }
def DerReadsUptoCardSaid : Prop := Claim7.holds Tryd.pinned (.plain (OpenSpec.upto derReadsSpec)) derReadsUptoCard

/-- THE SECOND FORM's CARD OF 'escutcheonlaw13.DerMeans'. -/
def derMeansUptoCard : Claim7 := { stood := { row := derMeansUptoRow, standIns := [], harness := (true, "f244a042b6d290398c613c32902d0749077c6941af889079e6f5ee56edb6cf41"), looks := false }, kinds := [], alts := [], laidByText := true, laidKinds := [.data, .pinned], laidTests := true, laidLooks := .later }
def DerMeansUptoCardSaid : Prop := Claim7.holds Tryd.pinned (.plain (OpenSpec.upto derMeansSpec)) derMeansUptoCard

/-- THE SECOND FORM's CARD OF 'escutcheonlaw13.DerOrders'. -/
def derOrdersUptoCard : Claim7 := { stood := { row := derOrdersUptoRow, standIns := [], harness := (true, "f244a042b6d290398c613c32902d0749077c6941af889079e6f5ee56edb6cf41"), looks := false }, kinds := [], alts := [], laidByText := true, laidKinds := [.data, .pinned], laidTests := true, laidLooks := .later }
def DerOrdersUptoCardSaid : Prop := Claim7.holds Tryd.pinned (.plain (OpenSpec.upto derOrdersSpec)) derOrdersUptoCard

/-- THE SECOND FORM's CARD OF 'escutcheonlaw13.DerBounds'. -/
def derBoundsUptoCard : Claim7 := { stood := { row := derBoundsUptoRow, standIns := [], harness := (true, "f244a042b6d290398c613c32902d0749077c6941af889079e6f5ee56edb6cf41"), looks := false }, kinds := [], alts := [], laidByText := true, laidKinds := [.data, .pinned], laidTests := true, laidLooks := .later }
def DerBoundsUptoCardSaid : Prop := Claim7.holds Tryd.pinned (.plain (OpenSpec.upto derBoundsSpec)) derBoundsUptoCard

/-- THE SECOND FORM's CARD OF 'escutcheonlaw13.DerNests'. -/
def derNestsUptoCard : Claim7 := { stood := { row := derNestsUptoRow, standIns := [], harness := (true, "f244a042b6d290398c613c32902d0749077c6941af889079e6f5ee56edb6cf41"), looks := false }, kinds := [], alts := [], laidByText := true, laidKinds := [.data, .pinned], laidTests := true, laidLooks := .later }
def DerNestsUptoCardSaid : Prop := Claim7.holds Tryd.pinned (.plain (OpenSpec.upto derNestsSpec)) derNestsUptoCard

/-- THE SECOND FORM's CARD OF 'escutcheonlaw13.DerMakes'. -/
def derMakesUptoCard : Claim7 := { stood := { row := derMakesUptoRow, standIns := [], harness := (true, "f244a042b6d290398c613c32902d0749077c6941af889079e6f5ee56edb6cf41"), looks := false }, kinds := [], alts := [], laidByText := true, laidKinds := [.data, .pinned], laidTests := true, laidLooks := .later }
def DerMakesUptoCardSaid : Prop := Claim7.holds Tryd.pinned (.plain (OpenSpec.upto derMakesSpec)) derMakesUptoCard
end Rows
end Go.Proofs.YtjhknfpociahoaaDoor
