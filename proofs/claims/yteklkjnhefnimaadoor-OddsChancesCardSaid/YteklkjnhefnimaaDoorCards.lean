/-
  DERIVED. GIVEN WITH THE SEED: THE CARDS: each row of YteklkjnhefnimaaDoorRows.lean that lists a variable, with what it lists TIED to the program's text (the seventh form; the later family's looks); each row that meets fmt, with fmt's text TOLD by the authors' own Lean function (tested against real Go, not proved from fmt's source: count such statements apart). THE CARD IS WHAT COUNTS. Prove the row's statement (the work); the ties are given (YteklkjnhefnimaaDoorTie.lean); close each card by the builder's one call (the guide's Derived/Test/ToyasCard.lean, 'card_holds'). Laid BY PROGRAM, IN A SANDBOX (cutbox-door.mjs). By AI agents, Wed Nov 11 2026. No macro, syntax, notation, axiom, sorry.
-/
import Derived.Test.YteklkjnhefnimaaDoorRows
import GoSem.ClaimSeven
namespace Go.Proofs.YteklkjnhefnimaaDoor
namespace Rows

/-- THE TIED CARD OF 'sorteslaw18.OddsChoose'. -/
def oddsChooseCard : Claim7 := { stood := { row := oddsChooseRow, standIns := [], harness := (true, "c3c17c700b3a93366b2e5cf245b0e98cf673a84bbfd0cd9ac426e550fba44681"), looks := false }, kinds := [], alts := [], laidByText := true, laidKinds := [.data, .pinned], laidTests := true, laidLooks := .later }
def OddsChooseCardSaid : Prop := Claim7.holds Tryd.pinned (.plain (OpenSpec.ofChange oddsChooseSpec)) oddsChooseCard

/-- THE TIED CARD OF 'sorteslaw18.OddsRanks'. -/
def oddsRanksCard : Claim7 := { stood := { row := oddsRanksRow, standIns := [], harness := (true, "c3c17c700b3a93366b2e5cf245b0e98cf673a84bbfd0cd9ac426e550fba44681"), looks := false }, kinds := [], alts := [], laidByText := true, laidKinds := [.data, .pinned], laidTests := true, laidLooks := .later }
def OddsRanksCardSaid : Prop := Claim7.holds Tryd.pinned (.plain (OpenSpec.ofChange oddsRanksSpec)) oddsRanksCard

/-- THE TIED CARD OF 'sorteslaw18.OddsInverse'. -/
def oddsInverseCard : Claim7 := { stood := { row := oddsInverseRow, standIns := [], harness := (true, "c3c17c700b3a93366b2e5cf245b0e98cf673a84bbfd0cd9ac426e550fba44681"), looks := false }, kinds := [], alts := [], laidByText := true, laidKinds := [.data, .pinned], laidTests := true, laidLooks := .later }
def OddsInverseCardSaid : Prop := Claim7.holds Tryd.pinned (.plain (OpenSpec.ofChange oddsInverseSpec)) oddsInverseCard

/-- THE TIED CARD OF 'sorteslaw18.OddsOrder'. -/
def oddsOrderCard : Claim7 := { stood := { row := oddsOrderRow, standIns := [], harness := (true, "c3c17c700b3a93366b2e5cf245b0e98cf673a84bbfd0cd9ac426e550fba44681"), looks := false }, kinds := [], alts := [], laidByText := true, laidKinds := [.data, .pinned], laidTests := true, laidLooks := .later }
def OddsOrderCardSaid : Prop := Claim7.holds Tryd.pinned (.plain (OpenSpec.ofChange oddsOrderSpec)) oddsOrderCard

/-- THE TIED CARD OF 'sorteslaw18.OddsMatch'. -/
def oddsMatchCard : Claim7 := { stood := { row := oddsMatchRow, standIns := [], harness := (true, "c3c17c700b3a93366b2e5cf245b0e98cf673a84bbfd0cd9ac426e550fba44681"), looks := false }, kinds := [], alts := [], laidByText := true, laidKinds := [.data, .pinned], laidTests := true, laidLooks := .later }
def OddsMatchCardSaid : Prop := Claim7.holds Tryd.pinned (.plain (OpenSpec.ofChange oddsMatchSpec)) oddsMatchCard

/-- THE TIED CARD OF 'sorteslaw18.OddsMoney'. -/
def oddsMoneyCard : Claim7 := { stood := { row := oddsMoneyRow, standIns := [], harness := (true, "c3c17c700b3a93366b2e5cf245b0e98cf673a84bbfd0cd9ac426e550fba44681"), looks := false }, kinds := [], alts := [], laidByText := true, laidKinds := [.data, .pinned], laidTests := true, laidLooks := .later }
def OddsMoneyCardSaid : Prop := Claim7.holds Tryd.pinned (.plain (OpenSpec.ofChange oddsMoneySpec)) oddsMoneyCard

/-- THE TIED CARD OF 'sorteslaw18.OddsCounts'. -/
def oddsCountsCard : Claim7 := { stood := { row := oddsCountsRow, standIns := [], harness := (true, "c3c17c700b3a93366b2e5cf245b0e98cf673a84bbfd0cd9ac426e550fba44681"), looks := false }, kinds := [], alts := [], laidByText := true, laidKinds := [.data, .pinned], laidTests := true, laidLooks := .later }
def OddsCountsCardSaid : Prop := Claim7.holds Tryd.pinned (.plain (OpenSpec.ofChange oddsCountsSpec)) oddsCountsCard

/-- THE TIED CARD OF 'sorteslaw18.OddsChances'. -/
def oddsChancesCard : Claim7 := { stood := { row := oddsChancesRow, standIns := [], harness := (true, "c3c17c700b3a93366b2e5cf245b0e98cf673a84bbfd0cd9ac426e550fba44681"), looks := false }, kinds := [], alts := [], laidByText := true, laidKinds := [.data, .pinned], laidTests := true, laidLooks := .later }
def OddsChancesCardSaid : Prop := Claim7.holds Tryd.pinned (.plain (OpenSpec.ofChange oddsChancesSpec)) oddsChancesCard

/-- THE SECOND FORM's CARD OF 'sorteslaw18.OddsChoose'. -/
def oddsChooseUptoCard : Claim7 := { stood := { row := oddsChooseUptoRow, standIns := [], harness := (true, "c3c17c700b3a93366b2e5cf245b0e98cf673a84bbfd0cd9ac426e550fba44681"), looks := false }, kinds := [], alts := [], laidByText := true, laidKinds := [.data, .pinned], laidTests := true, laidLooks := .later }
def OddsChooseUptoCardSaid : Prop := Claim7.holds Tryd.pinned (.plain (OpenSpec.upto oddsChooseSpec)) oddsChooseUptoCard

/-- THE SECOND FORM's CARD OF 'sorteslaw18.OddsRanks'. -/
def oddsRanksUptoCard : Claim7 := { stood := { row := oddsRanksUptoRow, standIns := [], harness := (true, "c3c17c700b3a93366b2e5cf245b0e98cf673a84bbfd0cd9ac426e550fba44681"), looks := false }, kinds := [], alts := [], laidByText := true, laidKinds := [.data, .pinned], laidTests := true, laidLooks := .later }
def OddsRanksUptoCardSaid : Prop := Claim7.holds Tryd.pinned (.plain (OpenSpec.upto oddsRanksSpec)) oddsRanksUptoCard

/-- THE SECOND FORM's CARD OF 'sorteslaw18.OddsInverse'. -/
def oddsInverseUptoCard : Claim7 := { stood := { row := oddsInverseUptoRow, standIns := [], harness := (true, "c3c17c700b3a93366b2e5cf245b0e98cf673a84bbfd0cd9ac426e550fba44681"), looks := false }, kinds := [], alts := [], laidByText := true, laidKinds := [.data, .pinned], laidTests := true, laidLooks := .later }
def OddsInverseUptoCardSaid : Prop := Claim7.holds Tryd.pinned (.plain (OpenSpec.upto oddsInverseSpec)) oddsInverseUptoCard

/-- THE SECOND FORM's CARD OF 'sorteslaw18.OddsOrder'. -/
def oddsOrderUptoCard : Claim7 := { stood := { row := oddsOrderUptoRow, standIns := [], harness := (true, "c3c17c700b3a93366b2e5cf245b0e98cf673a84bbfd0cd9ac426e550fba44681"), looks := false }, kinds := [], alts := [], laidByText := true, laidKinds := [.data, .pinned], laidTests := true, laidLooks := .later }
def OddsOrderUptoCardSaid : Prop := Claim7.holds Tryd.pinned (.plain (OpenSpec.upto oddsOrderSpec)) oddsOrderUptoCard

/-- THE SECOND FORM's CARD OF 'sorteslaw18.OddsMatch'. -/
def oddsMatchUptoCard : Claim7 := { stood := { row := oddsMatchUptoRow, standIns := [], harness := (true, "c3c17c700b3a93366b2e5cf245b0e98cf673a84bbfd0cd9ac426e550fba44681"), looks := false }, kinds := [], alts := [], laidByText := true, laidKinds := [.data, .pinned], laidTests := true, laidLooks := .later }
def OddsMatchUptoCardSaid : Prop := Claim7.holds Tryd.pinned (.plain (OpenSpec.upto oddsMatchSpec)) oddsMatchUptoCard

/-- THE SECOND FORM's CARD OF 'sorteslaw18.OddsMoney'. -/
def oddsMoneyUptoCard : Claim7 := { stood := { row := oddsMoneyUptoRow, standIns := [], harness := (true, "c3c17c700b3a93366b2e5cf245b0e98cf673a84bbfd0cd9ac426e550fba44681"), looks := false }, kinds := [], alts := [], laidByText := true, laidKinds := [.data, .pinned], laidTests := true, laidLooks := .later }
def OddsMoneyUptoCardSaid : Prop := Claim7.holds Tryd.pinned (.plain (OpenSpec.upto oddsMoneySpec)) oddsMoneyUptoCard

/-- THE SECOND FORM's CARD OF 'sorteslaw18.OddsCounts'. -/
def oddsCountsUptoCard : Claim7 := { stood := { row := oddsCountsUptoRow, standIns := [], harness := (true, "c3c17c700b3a93366b2e5cf245b0e98cf673a84bbfd0cd9ac426e550fba44681"), looks := false }, kinds := [], alts := [], laidByText := true, laidKinds := [.data, .pinned], laidTests := true, laidLooks := .later }
def OddsCountsUptoCardSaid : Prop := Claim7.holds Tryd.pinned (.plain (OpenSpec.upto oddsCountsSpec)) oddsCountsUptoCard

/-- THE SECOND FORM's CARD OF 'sorteslaw18.OddsChances'. -/
def oddsChancesUptoCard : Claim7 := { stood := { row := oddsChancesUptoRow, standIns := [], harness := (true, "c3c17c700b3a93366b2e5cf245b0e98cf673a84bbfd0cd9ac426e550fba44681"), looks := false }, kinds := [], alts := [], laidByText := true, laidKinds := [.data, .pinned], laidTests := true, laidLooks := .later }
def OddsChancesUptoCardSaid : Prop := Claim7.holds Tryd.pinned (.plain (OpenSpec.upto oddsChancesSpec)) oddsChancesUptoCard
end Rows
end Go.Proofs.YteklkjnhefnimaaDoor
