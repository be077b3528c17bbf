/-
  NARROWER THAN 'FOR EVERY INPUT', by the rows' own cells (each row's printed sentence says how): OddsChoose: laid · OddsRanks: laid · OddsInverse: laid · OddsOrder: laid · OddsMatch: laid · OddsMoney: laid · OddsCounts: laid · OddsChances: laid.
  DERIVED. THE GIVEN ROWS OF THIS SEAT. 8 by the template 'for every input the law returns true; each argument reads behind the call as it read before'; 0 by the template 'total and deterministic' (their statements: YteklkjnhefnimaaDoorTotals.lean).
  GIVEN WITH THE SEED: the statements are not yours to turn. If you find one false, say at which input.
  Laid BY PROGRAM, IN A SANDBOX (cutbox-rows.mjs): the forced cells as the released guide's own fill.sh prints them over the translation a2b9a049cab59a2d… (all of the seat's roots in one cut). By AI agents, Wed Nov 11 2026. No macro, syntax, notation, axiom, sorry.
-/
import Derived.Test.YteklkjnhefnimaaDoorChecked
import GoSem.PinnedTables
import GoSem.Claim
import GoSem.ClaimJoined
import GoSem.ClaimMapViews
import Derived.JoinedTies
import Derived.KernelRfl
namespace Go.Proofs.YteklkjnhefnimaaDoor
/- THE CELL 'sum', in the pinned program and in every row, IS THE sha256 OF THE DUMP (.gsa) THAT YteklkjnhefnimaaDoorProg.lean LOADS. Nothing in Lean hashes anything: it is a label: what it is worth is what the hold of that sum in a sandbox is worth. -/
noncomputable def Tryd.pinned : Pinned := { name := "yteklkjnhefnimaadoor", sum := "a2b9a049cab59a2d731b5219991f9b6ecd1a52e9726039dcb474b3402ea6beed", checked := Tryd.checked }
namespace Rows
def none {H : Type} : Left H := { results := [], args := [] }

/- WHAT THE LISTED PACKAGE-LEVEL VARIABLES READ AS WHEN THE CALL BEGINS. Each datum BY PROGRAM (the guide's laid-datum.mjs) off the statement by which the dump's own 'gosem.cut.vars' lays the variable. In a bare row this is a premise. The card (YteklkjnhefnimaaDoorCards.lean) ties it to the program's text. -/
def laid_unicode_utf8_acceptRanges {H : Type} : DataW H := .agg [.agg [.lit (.int .u8 128), .lit (.int .u8 191)], .agg [.lit (.int .u8 160), .lit (.int .u8 191)], .agg [.lit (.int .u8 128), .lit (.int .u8 159)], .agg [.lit (.int .u8 144), .lit (.int .u8 191)], .agg [.lit (.int .u8 128), .lit (.int .u8 143)], .agg [.lit (.int .u8 0), .lit (.int .u8 0)], .agg [.lit (.int .u8 0), .lit (.int .u8 0)], .agg [.lit (.int .u8 0), .lit (.int .u8 0)], .agg [.lit (.int .u8 0), .lit (.int .u8 0)], .agg [.lit (.int .u8 0), .lit (.int .u8 0)], .agg [.lit (.int .u8 0), .lit (.int .u8 0)], .agg [.lit (.int .u8 0), .lit (.int .u8 0)], .agg [.lit (.int .u8 0), .lit (.int .u8 0)], .agg [.lit (.int .u8 0), .lit (.int .u8 0)], .agg [.lit (.int .u8 0), .lit (.int .u8 0)], .agg [.lit (.int .u8 0), .lit (.int .u8 0)]]
/-- One of Go's own tables, pinned by name: the form's constant. -/
def laid_unicode_utf8_first : DataW Unit := Go.Pinned.utf8First

/-- 'sorteslaw18.OddsChoose': WHATEVER THE INPUT: true; the input reads as it did. -/
def oddsChooseSpec : ChangeSpec := { name := "oddsChoose", fn := fun _ => fun
  | [d1, d2] => { results := [.lit (.bool true)], args := [d1, d2] }
  | _ => none }
def oddsChooseRow : OpenClaim := { program := "yteklkjnhefnimaadoor", sum := "a2b9a049cab59a2d731b5219991f9b6ecd1a52e9726039dcb474b3402ea6beed", func := "sortes/sorteslaw18.OddsChoose", spec := "oddsChoose", inPlace := ["internal/bytealg.IndexByteString", "internal/bytealg.IndexString"], unfollowed := true, recurses := true, named := ["unicode/utf8.first", "unicode/utf8.acceptRanges", "internal/bytealg.MaxLen"], apart := false, laid := [("unicode/utf8.acceptRanges", laid_unicode_utf8_acceptRanges), ("unicode/utf8.first", laid_unicode_utf8_first)] }
def OddsChooseSaid : Prop := oddsChooseRow.holds Tryd.pinned (OpenSpec.ofChange oddsChooseSpec)

/-- ITS FALSE NEIGHBOUR: 'it returns false'. Refute it at one input. -/
def oddsChooseWrong : ChangeSpec := { name := "oddsChoose", fn := fun _ => fun
  | [d1, d2] => { results := [.lit (.bool false)], args := [d1, d2] }
  | _ => none }
def OddsChooseWrongFalsely : Prop := oddsChooseRow.holds Tryd.pinned (OpenSpec.ofChange oddsChooseWrong)

/-- 'sorteslaw18.OddsRanks': WHATEVER THE INPUT: true; the input reads as it did. -/
def oddsRanksSpec : ChangeSpec := { name := "oddsRanks", fn := fun _ => fun
  | [d1, d2, d3] => { results := [.lit (.bool true)], args := [d1, d2, d3] }
  | _ => none }
def oddsRanksRow : OpenClaim := { program := "yteklkjnhefnimaadoor", sum := "a2b9a049cab59a2d731b5219991f9b6ecd1a52e9726039dcb474b3402ea6beed", func := "sortes/sorteslaw18.OddsRanks", spec := "oddsRanks", inPlace := ["internal/bytealg.IndexByteString", "internal/bytealg.IndexString"], unfollowed := true, recurses := true, named := ["unicode/utf8.first", "unicode/utf8.acceptRanges", "internal/bytealg.MaxLen"], apart := false, laid := [("unicode/utf8.acceptRanges", laid_unicode_utf8_acceptRanges), ("unicode/utf8.first", laid_unicode_utf8_first)] }
def OddsRanksSaid : Prop := oddsRanksRow.holds Tryd.pinned (OpenSpec.ofChange oddsRanksSpec)

/-- ITS FALSE NEIGHBOUR: 'it returns false'. Refute it at one input. -/
def oddsRanksWrong : ChangeSpec := { name := "oddsRanks", fn := fun _ => fun
  | [d1, d2, d3] => { results := [.lit (.bool false)], args := [d1, d2, d3] }
  | _ => none }
def OddsRanksWrongFalsely : Prop := oddsRanksRow.holds Tryd.pinned (OpenSpec.ofChange oddsRanksWrong)

/-- 'sorteslaw18.OddsInverse': WHATEVER THE INPUT: true; the input reads as it did. -/
def oddsInverseSpec : ChangeSpec := { name := "oddsInverse", fn := fun _ => fun
  | [d1, d2, d3] => { results := [.lit (.bool true)], args := [d1, d2, d3] }
  | _ => none }
def oddsInverseRow : OpenClaim := { program := "yteklkjnhefnimaadoor", sum := "a2b9a049cab59a2d731b5219991f9b6ecd1a52e9726039dcb474b3402ea6beed", func := "sortes/sorteslaw18.OddsInverse", spec := "oddsInverse", inPlace := ["internal/bytealg.IndexByteString", "internal/bytealg.IndexString"], unfollowed := true, recurses := true, named := ["unicode/utf8.first", "unicode/utf8.acceptRanges", "internal/bytealg.MaxLen"], apart := false, laid := [("unicode/utf8.acceptRanges", laid_unicode_utf8_acceptRanges), ("unicode/utf8.first", laid_unicode_utf8_first)] }
def OddsInverseSaid : Prop := oddsInverseRow.holds Tryd.pinned (OpenSpec.ofChange oddsInverseSpec)

/-- ITS FALSE NEIGHBOUR: 'it returns false'. Refute it at one input. -/
def oddsInverseWrong : ChangeSpec := { name := "oddsInverse", fn := fun _ => fun
  | [d1, d2, d3] => { results := [.lit (.bool false)], args := [d1, d2, d3] }
  | _ => none }
def OddsInverseWrongFalsely : Prop := oddsInverseRow.holds Tryd.pinned (OpenSpec.ofChange oddsInverseWrong)

/-- 'sorteslaw18.OddsOrder': WHATEVER THE INPUT: true; the input reads as it did. -/
def oddsOrderSpec : ChangeSpec := { name := "oddsOrder", fn := fun _ => fun
  | [d1, d2] => { results := [.lit (.bool true)], args := [d1, d2] }
  | _ => none }
def oddsOrderRow : OpenClaim := { program := "yteklkjnhefnimaadoor", sum := "a2b9a049cab59a2d731b5219991f9b6ecd1a52e9726039dcb474b3402ea6beed", func := "sortes/sorteslaw18.OddsOrder", spec := "oddsOrder", inPlace := ["internal/bytealg.IndexByteString", "internal/bytealg.IndexString"], unfollowed := true, recurses := true, named := ["unicode/utf8.first", "unicode/utf8.acceptRanges", "internal/bytealg.MaxLen"], apart := false, laid := [("unicode/utf8.acceptRanges", laid_unicode_utf8_acceptRanges), ("unicode/utf8.first", laid_unicode_utf8_first)] }
def OddsOrderSaid : Prop := oddsOrderRow.holds Tryd.pinned (OpenSpec.ofChange oddsOrderSpec)

/-- ITS FALSE NEIGHBOUR: 'it returns false'. Refute it at one input. -/
def oddsOrderWrong : ChangeSpec := { name := "oddsOrder", fn := fun _ => fun
  | [d1, d2] => { results := [.lit (.bool false)], args := [d1, d2] }
  | _ => none }
def OddsOrderWrongFalsely : Prop := oddsOrderRow.holds Tryd.pinned (OpenSpec.ofChange oddsOrderWrong)

/-- 'sorteslaw18.OddsMatch': WHATEVER THE INPUT: true; the input reads as it did. -/
def oddsMatchSpec : ChangeSpec := { name := "oddsMatch", fn := fun _ => fun
  | [d1, d2] => { results := [.lit (.bool true)], args := [d1, d2] }
  | _ => none }
def oddsMatchRow : OpenClaim := { program := "yteklkjnhefnimaadoor", sum := "a2b9a049cab59a2d731b5219991f9b6ecd1a52e9726039dcb474b3402ea6beed", func := "sortes/sorteslaw18.OddsMatch", spec := "oddsMatch", inPlace := ["internal/bytealg.IndexByteString", "internal/bytealg.IndexString"], unfollowed := true, recurses := true, named := ["unicode/utf8.first", "unicode/utf8.acceptRanges", "internal/bytealg.MaxLen"], apart := false, laid := [("unicode/utf8.acceptRanges", laid_unicode_utf8_acceptRanges), ("unicode/utf8.first", laid_unicode_utf8_first)] }
def OddsMatchSaid : Prop := oddsMatchRow.holds Tryd.pinned (OpenSpec.ofChange oddsMatchSpec)

/-- ITS FALSE NEIGHBOUR: 'it returns false'. Refute it at one input. -/
def oddsMatchWrong : ChangeSpec := { name := "oddsMatch", fn := fun _ => fun
  | [d1, d2] => { results := [.lit (.bool false)], args := [d1, d2] }
  | _ => none }
def OddsMatchWrongFalsely : Prop := oddsMatchRow.holds Tryd.pinned (OpenSpec.ofChange oddsMatchWrong)

/-- 'sorteslaw18.OddsMoney': WHATEVER THE INPUT: true; the input reads as it did. -/
def oddsMoneySpec : ChangeSpec := { name := "oddsMoney", fn := fun _ => fun
  | [d1, d2, d3] => { results := [.lit (.bool true)], args := [d1, d2, d3] }
  | _ => none }
def oddsMoneyRow : OpenClaim := { program := "yteklkjnhefnimaadoor", sum := "a2b9a049cab59a2d731b5219991f9b6ecd1a52e9726039dcb474b3402ea6beed", func := "sortes/sorteslaw18.OddsMoney", spec := "oddsMoney", inPlace := ["internal/bytealg.IndexByteString", "internal/bytealg.IndexString"], unfollowed := true, recurses := true, named := ["unicode/utf8.first", "unicode/utf8.acceptRanges", "internal/bytealg.MaxLen"], apart := false, laid := [("unicode/utf8.acceptRanges", laid_unicode_utf8_acceptRanges), ("unicode/utf8.first", laid_unicode_utf8_first)] }
def OddsMoneySaid : Prop := oddsMoneyRow.holds Tryd.pinned (OpenSpec.ofChange oddsMoneySpec)

/-- ITS FALSE NEIGHBOUR: 'it returns false'. Refute it at one input. -/
def oddsMoneyWrong : ChangeSpec := { name := "oddsMoney", fn := fun _ => fun
  | [d1, d2, d3] => { results := [.lit (.bool false)], args := [d1, d2, d3] }
  | _ => none }
def OddsMoneyWrongFalsely : Prop := oddsMoneyRow.holds Tryd.pinned (OpenSpec.ofChange oddsMoneyWrong)

/-- 'sorteslaw18.OddsCounts': WHATEVER THE INPUT: true; the input reads as it did. -/
def oddsCountsSpec : ChangeSpec := { name := "oddsCounts", fn := fun _ => fun
  | [d1, d2, d3] => { results := [.lit (.bool true)], args := [d1, d2, d3] }
  | _ => none }
def oddsCountsRow : OpenClaim := { program := "yteklkjnhefnimaadoor", sum := "a2b9a049cab59a2d731b5219991f9b6ecd1a52e9726039dcb474b3402ea6beed", func := "sortes/sorteslaw18.OddsCounts", spec := "oddsCounts", inPlace := ["internal/bytealg.IndexByteString", "internal/bytealg.IndexString"], unfollowed := true, recurses := true, named := ["unicode/utf8.first", "unicode/utf8.acceptRanges", "internal/bytealg.MaxLen"], apart := false, laid := [("unicode/utf8.acceptRanges", laid_unicode_utf8_acceptRanges), ("unicode/utf8.first", laid_unicode_utf8_first)] }
def OddsCountsSaid : Prop := oddsCountsRow.holds Tryd.pinned (OpenSpec.ofChange oddsCountsSpec)

/-- ITS FALSE NEIGHBOUR: 'it returns false'. Refute it at one input. -/
def oddsCountsWrong : ChangeSpec := { name := "oddsCounts", fn := fun _ => fun
  | [d1, d2, d3] => { results := [.lit (.bool false)], args := [d1, d2, d3] }
  | _ => none }
def OddsCountsWrongFalsely : Prop := oddsCountsRow.holds Tryd.pinned (OpenSpec.ofChange oddsCountsWrong)

/-- 'sorteslaw18.OddsChances': WHATEVER THE INPUT: true; the input reads as it did. -/
def oddsChancesSpec : ChangeSpec := { name := "oddsChances", fn := fun _ => fun
  | [d1, d2, d3] => { results := [.lit (.bool true)], args := [d1, d2, d3] }
  | _ => none }
def oddsChancesRow : OpenClaim := { program := "yteklkjnhefnimaadoor", sum := "a2b9a049cab59a2d731b5219991f9b6ecd1a52e9726039dcb474b3402ea6beed", func := "sortes/sorteslaw18.OddsChances", spec := "oddsChances", inPlace := ["internal/bytealg.IndexByteString", "internal/bytealg.IndexString"], unfollowed := true, recurses := true, named := ["unicode/utf8.first", "unicode/utf8.acceptRanges", "internal/bytealg.MaxLen"], apart := false, laid := [("unicode/utf8.acceptRanges", laid_unicode_utf8_acceptRanges), ("unicode/utf8.first", laid_unicode_utf8_first)] }
def OddsChancesSaid : Prop := oddsChancesRow.holds Tryd.pinned (OpenSpec.ofChange oddsChancesSpec)

/-- ITS FALSE NEIGHBOUR: 'it returns false'. Refute it at one input. -/
def oddsChancesWrong : ChangeSpec := { name := "oddsChances", fn := fun _ => fun
  | [d1, d2, d3] => { results := [.lit (.bool false)], args := [d1, d2, d3] }
  | _ => none }
def OddsChancesWrongFalsely : Prop := oddsChancesRow.holds Tryd.pinned (OpenSpec.ofChange oddsChancesWrong)

/- THE SECOND FORM. 'bulk': how many values and letters a reading holds, each counted each time it is reached (what is shared counts as often as it is met; a slice's spare places count too). A statement '..UptoSaid' is the law's where the arguments, and the package variables that the reading takes, are together of bulk at most 1048576: NARROWER than '..Said'. Prove '..Said' where nothing that the law and all that it calls make is longer than what came in: it says more and counts as full. Else prove '..UptoSaid'. A law counts once. -/
mutual
def uptoBulk {H : Type} : DataW H → Nat
  | .lit (.string bytes) => bytes.length + 1
  | .lit _ => 1
  | .nil => 1
  | .ptr d => uptoBulk d + 1
  | .slice elems spare => uptoBulkAll elems + uptoBulkAll spare + 1
  | .agg parts => uptoBulkAll parts + 1
  | .iface _ d => uptoBulk d + 1
  | .map entries => uptoBulkEntries entries + 1
  | .held _ => 1
def uptoBulkAll {H : Type} : List (DataW H) → Nat
  | [] => 0
  | d :: r => uptoBulk d + uptoBulkAll r
def uptoBulkEntries {H : Type} : List (Lit × DataW H) → Nat
  | [] => 0
  | x :: r => uptoBulkEntry x + uptoBulkEntries r
def uptoBulkEntry {H : Type} : Lit × DataW H → Nat
  | (.string bytes, d) => bytes.length + uptoBulk d + 1
  | (_, d) => uptoBulk d + 1
 end
def uptoSmall : (H : Type) → List (DataW H) → Bool := fun _ ds => decide (uptoBulkAll ds ≤ 1048576)
def OpenSpec.upto (s : _root_.Go.ChangeSpec) : _root_.Go.OpenSpec := { _root_.Go.OpenSpec.ofChange s with cond := some uptoSmall }

/-- 'sorteslaw18.OddsChoose', WHERE WHAT IT READS IS OF BULK AT MOST 1048576: true; the input reads as it did. -/
def oddsChooseUptoRow : OpenClaim := { program := "yteklkjnhefnimaadoor", sum := "a2b9a049cab59a2d731b5219991f9b6ecd1a52e9726039dcb474b3402ea6beed", func := "sortes/sorteslaw18.OddsChoose", spec := "oddsChoose", inPlace := ["internal/bytealg.IndexByteString", "internal/bytealg.IndexString"], unfollowed := true, recurses := true, named := ["unicode/utf8.first", "unicode/utf8.acceptRanges", "internal/bytealg.MaxLen"], apart := false, laid := [("unicode/utf8.acceptRanges", laid_unicode_utf8_acceptRanges), ("unicode/utf8.first", laid_unicode_utf8_first)], narrowed := true }
def OddsChooseUptoSaid : Prop := oddsChooseUptoRow.holds Tryd.pinned (OpenSpec.upto oddsChooseSpec)

/-- 'sorteslaw18.OddsRanks', WHERE WHAT IT READS IS OF BULK AT MOST 1048576: true; the input reads as it did. -/
def oddsRanksUptoRow : OpenClaim := { program := "yteklkjnhefnimaadoor", sum := "a2b9a049cab59a2d731b5219991f9b6ecd1a52e9726039dcb474b3402ea6beed", func := "sortes/sorteslaw18.OddsRanks", spec := "oddsRanks", inPlace := ["internal/bytealg.IndexByteString", "internal/bytealg.IndexString"], unfollowed := true, recurses := true, named := ["unicode/utf8.first", "unicode/utf8.acceptRanges", "internal/bytealg.MaxLen"], apart := false, laid := [("unicode/utf8.acceptRanges", laid_unicode_utf8_acceptRanges), ("unicode/utf8.first", laid_unicode_utf8_first)], narrowed := true }
def OddsRanksUptoSaid : Prop := oddsRanksUptoRow.holds Tryd.pinned (OpenSpec.upto oddsRanksSpec)

/-- 'sorteslaw18.OddsInverse', WHERE WHAT IT READS IS OF BULK AT MOST 1048576: true; the input reads as it did. -/
def oddsInverseUptoRow : OpenClaim := { program := "yteklkjnhefnimaadoor", sum := "a2b9a049cab59a2d731b5219991f9b6ecd1a52e9726039dcb474b3402ea6beed", func := "sortes/sorteslaw18.OddsInverse", spec := "oddsInverse", inPlace := ["internal/bytealg.IndexByteString", "internal/bytealg.IndexString"], unfollowed := true, recurses := true, named := ["unicode/utf8.first", "unicode/utf8.acceptRanges", "internal/bytealg.MaxLen"], apart := false, laid := [("unicode/utf8.acceptRanges", laid_unicode_utf8_acceptRanges), ("unicode/utf8.first", laid_unicode_utf8_first)], narrowed := true }
def OddsInverseUptoSaid : Prop := oddsInverseUptoRow.holds Tryd.pinned (OpenSpec.upto oddsInverseSpec)

/-- 'sorteslaw18.OddsOrder', WHERE WHAT IT READS IS OF BULK AT MOST 1048576: true; the input reads as it did. -/
def oddsOrderUptoRow : OpenClaim := { program := "yteklkjnhefnimaadoor", sum := "a2b9a049cab59a2d731b5219991f9b6ecd1a52e9726039dcb474b3402ea6beed", func := "sortes/sorteslaw18.OddsOrder", spec := "oddsOrder", inPlace := ["internal/bytealg.IndexByteString", "internal/bytealg.IndexString"], unfollowed := true, recurses := true, named := ["unicode/utf8.first", "unicode/utf8.acceptRanges", "internal/bytealg.MaxLen"], apart := false, laid := [("unicode/utf8.acceptRanges", laid_unicode_utf8_acceptRanges), ("unicode/utf8.first", laid_unicode_utf8_first)], narrowed := true }
def OddsOrderUptoSaid : Prop := oddsOrderUptoRow.holds Tryd.pinned (OpenSpec.upto oddsOrderSpec)

/-- 'sorteslaw18.OddsMatch', WHERE WHAT IT READS IS OF BULK AT MOST 1048576: true; the input reads as it did. -/
def oddsMatchUptoRow : OpenClaim := { program := "yteklkjnhefnimaadoor", sum := "a2b9a049cab59a2d731b5219991f9b6ecd1a52e9726039dcb474b3402ea6beed", func := "sortes/sorteslaw18.OddsMatch", spec := "oddsMatch", inPlace := ["internal/bytealg.IndexByteString", "internal/bytealg.IndexString"], unfollowed := true, recurses := true, named := ["unicode/utf8.first", "unicode/utf8.acceptRanges", "internal/bytealg.MaxLen"], apart := false, laid := [("unicode/utf8.acceptRanges", laid_unicode_utf8_acceptRanges), ("unicode/utf8.first", laid_unicode_utf8_first)], narrowed := true }
def OddsMatchUptoSaid : Prop := oddsMatchUptoRow.holds Tryd.pinned (OpenSpec.upto oddsMatchSpec)

/-- 'sorteslaw18.OddsMoney', WHERE WHAT IT READS IS OF BULK AT MOST 1048576: true; the input reads as it did. -/
def oddsMoneyUptoRow : OpenClaim := { program := "yteklkjnhefnimaadoor", sum := "a2b9a049cab59a2d731b5219991f9b6ecd1a52e9726039dcb474b3402ea6beed", func := "sortes/sorteslaw18.OddsMoney", spec := "oddsMoney", inPlace := ["internal/bytealg.IndexByteString", "internal/bytealg.IndexString"], unfollowed := true, recurses := true, named := ["unicode/utf8.first", "unicode/utf8.acceptRanges", "internal/bytealg.MaxLen"], apart := false, laid := [("unicode/utf8.acceptRanges", laid_unicode_utf8_acceptRanges), ("unicode/utf8.first", laid_unicode_utf8_first)], narrowed := true }
def OddsMoneyUptoSaid : Prop := oddsMoneyUptoRow.holds Tryd.pinned (OpenSpec.upto oddsMoneySpec)

/-- 'sorteslaw18.OddsCounts', WHERE WHAT IT READS IS OF BULK AT MOST 1048576: true; the input reads as it did. -/
def oddsCountsUptoRow : OpenClaim := { program := "yteklkjnhefnimaadoor", sum := "a2b9a049cab59a2d731b5219991f9b6ecd1a52e9726039dcb474b3402ea6beed", func := "sortes/sorteslaw18.OddsCounts", spec := "oddsCounts", inPlace := ["internal/bytealg.IndexByteString", "internal/bytealg.IndexString"], unfollowed := true, recurses := true, named := ["unicode/utf8.first", "unicode/utf8.acceptRanges", "internal/bytealg.MaxLen"], apart := false, laid := [("unicode/utf8.acceptRanges", laid_unicode_utf8_acceptRanges), ("unicode/utf8.first", laid_unicode_utf8_first)], narrowed := true }
def OddsCountsUptoSaid : Prop := oddsCountsUptoRow.holds Tryd.pinned (OpenSpec.upto oddsCountsSpec)

/-- 'sorteslaw18.OddsChances', WHERE WHAT IT READS IS OF BULK AT MOST 1048576: true; the input reads as it did. -/
def oddsChancesUptoRow : OpenClaim := { program := "yteklkjnhefnimaadoor", sum := "a2b9a049cab59a2d731b5219991f9b6ecd1a52e9726039dcb474b3402ea6beed", func := "sortes/sorteslaw18.OddsChances", spec := "oddsChances", inPlace := ["internal/bytealg.IndexByteString", "internal/bytealg.IndexString"], unfollowed := true, recurses := true, named := ["unicode/utf8.first", "unicode/utf8.acceptRanges", "internal/bytealg.MaxLen"], apart := false, laid := [("unicode/utf8.acceptRanges", laid_unicode_utf8_acceptRanges), ("unicode/utf8.first", laid_unicode_utf8_first)], narrowed := true }
def OddsChancesUptoSaid : Prop := oddsChancesUptoRow.holds Tryd.pinned (OpenSpec.upto oddsChancesSpec)

end Rows
end Go.Proofs.YteklkjnhefnimaaDoor
