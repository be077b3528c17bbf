/-
  DERIVED. GIVEN WITH THE SEED: THE CARDS: each row of YtplkndjlfkkjlaaGreatDoorRows.lean that lists a variable, with what it lists TIED to the program's text (the seventh form; the later family's looks); each row that meets fmt, with fmt's text TOLD by the authors' own Lean function (tested against real Go, not proved from fmt's source: count such statements apart). THE CARD IS WHAT COUNTS. Prove the row's statement (the work); the ties are given (YtplkndjlfkkjlaaGreatDoorTie.lean); close each card by the builder's one call (the guide's Derived/Test/ToyasCard.lean, 'card_holds'). Laid BY PROGRAM, IN A SANDBOX (cutbox-door.mjs). By AI agents, Wed Nov 11 2026. No macro, syntax, notation, axiom, sorry.
-/
import Derived.Test.YtplkndjlfkkjlaaGreatDoorRows
import GoSem.ClaimSeven
namespace Go.Proofs.YtplkndjlfkkjlaaGreatDoor
namespace Rows

/-- THE TIED CARD OF 'sortestop.TopFair'. -/
def topFairCard : Claim7 := { stood := { row := topFairRow, standIns := [], harness := (true, "e89e871c736305d361c85978f457fe638a313a1ec54ce59abeb776cd9c314d45"), looks := false }, kinds := [], alts := [], laidByText := true, laidKinds := [.data, .data, .data, .data, .data, .data, .pinned], laidTests := true, laidLooks := .later }
def TopFairCardSaid : Prop := Claim7.holds Tryz.pinned (.plain (OpenSpec.ofChange topFairSpec)) topFairCard

/-- THE TIED CARD OF 'sortestop.TopOdds'. -/
def topOddsCard : Claim7 := { stood := { row := topOddsRow, standIns := [], harness := (true, "e89e871c736305d361c85978f457fe638a313a1ec54ce59abeb776cd9c314d45"), looks := false }, kinds := [], alts := [], laidByText := true, laidKinds := [.data, .data, .data, .data, .data, .data, .pinned], laidTests := true, laidLooks := .later }
def TopOddsCardSaid : Prop := Claim7.holds Tryz.pinned (.plain (OpenSpec.ofChange topOddsSpec)) topOddsCard

/-- THE SECOND FORM's CARD OF 'sortestop.TopFair'. -/
def topFairUptoCard : Claim7 := { stood := { row := topFairUptoRow, standIns := [], harness := (true, "e89e871c736305d361c85978f457fe638a313a1ec54ce59abeb776cd9c314d45"), looks := false }, kinds := [], alts := [], laidByText := true, laidKinds := [.data, .data, .data, .data, .data, .data, .pinned], laidTests := true, laidLooks := .later }
def TopFairUptoCardSaid : Prop := Claim7.holds Tryz.pinned (.plain (OpenSpec.upto topFairSpec)) topFairUptoCard

/-- THE SECOND FORM's CARD OF 'sortestop.TopOdds'. -/
def topOddsUptoCard : Claim7 := { stood := { row := topOddsUptoRow, standIns := [], harness := (true, "e89e871c736305d361c85978f457fe638a313a1ec54ce59abeb776cd9c314d45"), looks := false }, kinds := [], alts := [], laidByText := true, laidKinds := [.data, .data, .data, .data, .data, .data, .pinned], laidTests := true, laidLooks := .later }
def TopOddsUptoCardSaid : Prop := Claim7.holds Tryz.pinned (.plain (OpenSpec.upto topOddsSpec)) topOddsUptoCard
end Rows
end Go.Proofs.YtplkndjlfkkjlaaGreatDoor
