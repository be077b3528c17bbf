/-
  DERIVED. GIVEN WITH THE SEED: THE CARDS: each row of YtbgldmoikimmpaaGreatDoorRows.lean that lists a variable, with what it lists TIED to the program's text (the seventh form; the later family's looks); each row that meets fmt, with fmt's text TOLD by the authors' own Lean function (tested against real Go, not proved from fmt's source: count such statements apart). THE CARD IS WHAT COUNTS. Prove the row's statement (the work); the ties are given (YtbgldmoikimmpaaGreatDoorTie.lean); close each card by the builder's one call (the guide's Derived/Test/ToyasCard.lean, 'card_holds'). Laid BY PROGRAM, IN A SANDBOX (cutbox-door.mjs). By AI agents, Wed Nov 11 2026. No macro, syntax, notation, axiom, sorry.
-/
import Derived.Test.YtbgldmoikimmpaaGreatDoorRows
import GoSem.ClaimSeven
namespace Go.Proofs.YtbgldmoikimmpaaGreatDoor
namespace Rows

/-- THE TIED CARD OF 'sortestop.TopReshare'. -/
def topReshareCard : Claim7 := { stood := { row := topReshareRow, standIns := [], harness := (true, "78d2b33d4299b13d6ddb0f511c64c1c8b6f7d66faeeaa35cb34eb636de0ec4f6"), looks := false }, kinds := [], alts := [], laidByText := true, laidKinds := [.data, .data, .data, .data, .data, .data, .pinned], laidTests := true, laidLooks := .later }
def TopReshareCardSaid : Prop := Claim7.holds Tryz.pinned (.plain (OpenSpec.ofChange topReshareSpec)) topReshareCard

/-- THE SECOND FORM's CARD OF 'sortestop.TopReshare'. -/
def topReshareUptoCard : Claim7 := { stood := { row := topReshareUptoRow, standIns := [], harness := (true, "78d2b33d4299b13d6ddb0f511c64c1c8b6f7d66faeeaa35cb34eb636de0ec4f6"), looks := false }, kinds := [], alts := [], laidByText := true, laidKinds := [.data, .data, .data, .data, .data, .data, .pinned], laidTests := true, laidLooks := .later }
def TopReshareUptoCardSaid : Prop := Claim7.holds Tryz.pinned (.plain (OpenSpec.upto topReshareSpec)) topReshareUptoCard
end Rows
end Go.Proofs.YtbgldmoikimmpaaGreatDoor
