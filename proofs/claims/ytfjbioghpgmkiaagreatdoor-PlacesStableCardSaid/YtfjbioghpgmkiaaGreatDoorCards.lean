/-
  DERIVED. GIVEN WITH THE SEED: THE CARDS: each row of YtfjbioghpgmkiaaGreatDoorRows.lean that lists a variable, with what it lists TIED to the program's text (the seventh form; the later family's looks); each row that meets fmt, with fmt's text TOLD by the authors' own Lean function (tested against real Go, not proved from fmt's source: count such statements apart). THE CARD IS WHAT COUNTS. Prove the row's statement (the work); the ties are given (YtfjbioghpgmkiaaGreatDoorTie.lean); close each card by the builder's one call (the guide's Derived/Test/ToyasCard.lean, 'card_holds'). Laid BY PROGRAM, IN A SANDBOX (cutbox-door.mjs). By AI agents, Wed Nov 11 2026. No macro, syntax, notation, axiom, sorry.
-/
import Derived.Test.YtfjbioghpgmkiaaGreatDoorRows
import GoSem.ClaimSeven
namespace Go.Proofs.YtfjbioghpgmkiaaGreatDoor
namespace Rows

/-- THE TIED CARD OF 'sorteslaw19.PlacesClasses'. -/
def placesClassesCard : Claim7 := { stood := { row := placesClassesRow, standIns := [], harness := (true, "35f03f22328a066497a796c1ee267de1d8b5afc0cf1b1893de3f127b458d55f1"), looks := false }, kinds := [], alts := [], laidByText := true, laidKinds := [.data, .pinned], laidTests := true, laidLooks := .later }
def PlacesClassesCardSaid : Prop := Claim7.holds Tryz.pinned (.plain (OpenSpec.ofChange placesClassesSpec)) placesClassesCard

/-- THE TIED CARD OF 'sorteslaw19.PlacesEqual'. -/
def placesEqualCard : Claim7 := { stood := { row := placesEqualRow, standIns := [], harness := (true, "35f03f22328a066497a796c1ee267de1d8b5afc0cf1b1893de3f127b458d55f1"), looks := false }, kinds := [], alts := [], laidByText := true, laidKinds := [.data, .pinned], laidTests := true, laidLooks := .later }
def PlacesEqualCardSaid : Prop := Claim7.holds Tryz.pinned (.plain (OpenSpec.ofChange placesEqualSpec)) placesEqualCard

/-- THE TIED CARD OF 'sorteslaw19.PlacesOne'. -/
def placesOneCard : Claim7 := { stood := { row := placesOneRow, standIns := [], harness := (true, "35f03f22328a066497a796c1ee267de1d8b5afc0cf1b1893de3f127b458d55f1"), looks := false }, kinds := [], alts := [], laidByText := true, laidKinds := [.data, .pinned], laidTests := true, laidLooks := .later }
def PlacesOneCardSaid : Prop := Claim7.holds Tryz.pinned (.plain (OpenSpec.ofChange placesOneSpec)) placesOneCard

/-- THE TIED CARD OF 'sorteslaw19.PlacesFamilies'. -/
def placesFamiliesCard : Claim7 := { stood := { row := placesFamiliesRow, standIns := [], harness := (true, "35f03f22328a066497a796c1ee267de1d8b5afc0cf1b1893de3f127b458d55f1"), looks := false }, kinds := [], alts := [], laidByText := true, laidKinds := [.data, .pinned], laidTests := true, laidLooks := .later }
def PlacesFamiliesCardSaid : Prop := Claim7.holds Tryz.pinned (.plain (OpenSpec.ofChange placesFamiliesSpec)) placesFamiliesCard

/-- THE TIED CARD OF 'sorteslaw19.PlacesKeeps'. -/
def placesKeepsCard : Claim7 := { stood := { row := placesKeepsRow, standIns := [], harness := (true, "35f03f22328a066497a796c1ee267de1d8b5afc0cf1b1893de3f127b458d55f1"), looks := false }, kinds := [], alts := [], laidByText := true, laidKinds := [.data, .pinned], laidTests := true, laidLooks := .later }
def PlacesKeepsCardSaid : Prop := Claim7.holds Tryz.pinned (.plain (OpenSpec.ofChange placesKeepsSpec)) placesKeepsCard

/-- THE TIED CARD OF 'sorteslaw19.PlacesOrders'. -/
def placesOrdersCard : Claim7 := { stood := { row := placesOrdersRow, standIns := [], harness := (true, "35f03f22328a066497a796c1ee267de1d8b5afc0cf1b1893de3f127b458d55f1"), looks := false }, kinds := [], alts := [], laidByText := true, laidKinds := [.data, .pinned], laidTests := true, laidLooks := .later }
def PlacesOrdersCardSaid : Prop := Claim7.holds Tryz.pinned (.plain (OpenSpec.ofChange placesOrdersSpec)) placesOrdersCard

/-- THE TIED CARD OF 'sorteslaw19.PlacesNumbers'. -/
def placesNumbersCard : Claim7 := { stood := { row := placesNumbersRow, standIns := [], harness := (true, "35f03f22328a066497a796c1ee267de1d8b5afc0cf1b1893de3f127b458d55f1"), looks := false }, kinds := [], alts := [], laidByText := true, laidKinds := [.data, .pinned], laidTests := true, laidLooks := .later }
def PlacesNumbersCardSaid : Prop := Claim7.holds Tryz.pinned (.plain (OpenSpec.ofChange placesNumbersSpec)) placesNumbersCard

/-- THE TIED CARD OF 'sorteslaw19.PlacesStable'. -/
def placesStableCard : Claim7 := { stood := { row := placesStableRow, standIns := [], harness := (true, "35f03f22328a066497a796c1ee267de1d8b5afc0cf1b1893de3f127b458d55f1"), looks := false }, kinds := [], alts := [], laidByText := true, laidKinds := [.data, .pinned], laidTests := true, laidLooks := .later }
def PlacesStableCardSaid : Prop := Claim7.holds Tryz.pinned (.plain (OpenSpec.ofChange placesStableSpec)) placesStableCard

/-- THE SECOND FORM's CARD OF 'sorteslaw19.PlacesClasses'. -/
def placesClassesUptoCard : Claim7 := { stood := { row := placesClassesUptoRow, standIns := [], harness := (true, "35f03f22328a066497a796c1ee267de1d8b5afc0cf1b1893de3f127b458d55f1"), looks := false }, kinds := [], alts := [], laidByText := true, laidKinds := [.data, .pinned], laidTests := true, laidLooks := .later }
def PlacesClassesUptoCardSaid : Prop := Claim7.holds Tryz.pinned (.plain (OpenSpec.upto placesClassesSpec)) placesClassesUptoCard

/-- THE SECOND FORM's CARD OF 'sorteslaw19.PlacesEqual'. -/
def placesEqualUptoCard : Claim7 := { stood := { row := placesEqualUptoRow, standIns := [], harness := (true, "35f03f22328a066497a796c1ee267de1d8b5afc0cf1b1893de3f127b458d55f1"), looks := false }, kinds := [], alts := [], laidByText := true, laidKinds := [.data, .pinned], laidTests := true, laidLooks := .later }
def PlacesEqualUptoCardSaid : Prop := Claim7.holds Tryz.pinned (.plain (OpenSpec.upto placesEqualSpec)) placesEqualUptoCard

/-- THE SECOND FORM's CARD OF 'sorteslaw19.PlacesOne'. -/
def placesOneUptoCard : Claim7 := { stood := { row := placesOneUptoRow, standIns := [], harness := (true, "35f03f22328a066497a796c1ee267de1d8b5afc0cf1b1893de3f127b458d55f1"), looks := false }, kinds := [], alts := [], laidByText := true, laidKinds := [.data, .pinned], laidTests := true, laidLooks := .later }
def PlacesOneUptoCardSaid : Prop := Claim7.holds Tryz.pinned (.plain (OpenSpec.upto placesOneSpec)) placesOneUptoCard

/-- THE SECOND FORM's CARD OF 'sorteslaw19.PlacesFamilies'. -/
def placesFamiliesUptoCard : Claim7 := { stood := { row := placesFamiliesUptoRow, standIns := [], harness := (true, "35f03f22328a066497a796c1ee267de1d8b5afc0cf1b1893de3f127b458d55f1"), looks := false }, kinds := [], alts := [], laidByText := true, laidKinds := [.data, .pinned], laidTests := true, laidLooks := .later }
def PlacesFamiliesUptoCardSaid : Prop := Claim7.holds Tryz.pinned (.plain (OpenSpec.upto placesFamiliesSpec)) placesFamiliesUptoCard

/-- THE SECOND FORM's CARD OF 'sorteslaw19.PlacesKeeps'. -/
def placesKeepsUptoCard : Claim7 := { stood := { row := placesKeepsUptoRow, standIns := [], harness := (true, "35f03f22328a066497a796c1ee267de1d8b5afc0cf1b1893de3f127b458d55f1"), looks := false }, kinds := [], alts := [], laidByText := true, laidKinds := [.data, .pinned], laidTests := true, laidLooks := .later }
def PlacesKeepsUptoCardSaid : Prop := Claim7.holds Tryz.pinned (.plain (OpenSpec.upto placesKeepsSpec)) placesKeepsUptoCard

/-- THE SECOND FORM's CARD OF 'sorteslaw19.PlacesOrders'. -/
def placesOrdersUptoCard : Claim7 := { stood := { row := placesOrdersUptoRow, standIns := [], harness := (true, "35f03f22328a066497a796c1ee267de1d8b5afc0cf1b1893de3f127b458d55f1"), looks := false }, kinds := [], alts := [], laidByText := true, laidKinds := [.data, .pinned], laidTests := true, laidLooks := .later }
def PlacesOrdersUptoCardSaid : Prop := Claim7.holds Tryz.pinned (.plain (OpenSpec.upto placesOrdersSpec)) placesOrdersUptoCard

/-- THE SECOND FORM's CARD OF 'sorteslaw19.PlacesNumbers'. -/
def placesNumbersUptoCard : Claim7 := { stood := { row := placesNumbersUptoRow, standIns := [], harness := (true, "35f03f22328a066497a796c1ee267de1d8b5afc0cf1b1893de3f127b458d55f1"), looks := false }, kinds := [], alts := [], laidByText := true, laidKinds := [.data, .pinned], laidTests := true, laidLooks := .later }
def PlacesNumbersUptoCardSaid : Prop := Claim7.holds Tryz.pinned (.plain (OpenSpec.upto placesNumbersSpec)) placesNumbersUptoCard

/-- THE SECOND FORM's CARD OF 'sorteslaw19.PlacesStable'. -/
def placesStableUptoCard : Claim7 := { stood := { row := placesStableUptoRow, standIns := [], harness := (true, "35f03f22328a066497a796c1ee267de1d8b5afc0cf1b1893de3f127b458d55f1"), looks := false }, kinds := [], alts := [], laidByText := true, laidKinds := [.data, .pinned], laidTests := true, laidLooks := .later }
def PlacesStableUptoCardSaid : Prop := Claim7.holds Tryz.pinned (.plain (OpenSpec.upto placesStableSpec)) placesStableUptoCard
end Rows
end Go.Proofs.YtfjbioghpgmkiaaGreatDoor
