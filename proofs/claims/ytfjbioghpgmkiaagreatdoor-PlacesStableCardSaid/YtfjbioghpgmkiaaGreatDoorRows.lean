/-
  NARROWER THAN 'FOR EVERY INPUT', by the rows' own cells (each row's printed sentence says how): PlacesClasses: laid · PlacesEqual: laid · PlacesOne: laid · PlacesFamilies: laid · PlacesKeeps: laid · PlacesOrders: laid · PlacesNumbers: laid · PlacesStable: laid.
  DERIVED. THE GIVEN ROWS OF THIS SEAT. 8 by the template 'for every input the law returns true; each argument reads behind the call as it read before'; 0 by the template 'total and deterministic' (their statements: YtfjbioghpgmkiaaGreatDoorTotals.lean).
  GIVEN WITH THE SEED: the statements are not yours to turn. If you find one false, say at which input.
  Laid BY PROGRAM, IN A SANDBOX (cutbox-rows.mjs): the forced cells as the released guide's own fill.sh prints them over the translation c6418fa544137aa3… (all of the seat's roots in one cut). By AI agents, Wed Nov 11 2026. No macro, syntax, notation, axiom, sorry.
-/
import Derived.Test.YtfjbioghpgmkiaaGreatDoorChecked
import GoSem.PinnedTables
import GoSem.Claim
import GoSem.ClaimJoined
import GoSem.ClaimMapViews
import Derived.JoinedTies
import Derived.KernelRfl
namespace Go.Proofs.YtfjbioghpgmkiaaGreatDoor
/- THE CELL 'sum', in the pinned program and in every row, IS THE sha256 OF THE DUMP (.gsa) THAT YtfjbioghpgmkiaaGreatDoorProg.lean LOADS. Nothing in Lean hashes anything: it is a label: what it is worth is what the hold of that sum in a sandbox is worth. -/
noncomputable def Tryz.pinned : Pinned := { name := "ytfjbioghpgmkiaagreatdoor", sum := "c6418fa544137aa3e74847e070e7f4d7220c72ea295dd78ddde8ebb850a4d80e", checked := Tryz.checked }
namespace Rows
def none {H : Type} : Left H := { results := [], args := [] }

/- WHAT THE LISTED PACKAGE-LEVEL VARIABLES READ AS WHEN THE CALL BEGINS. Each datum BY PROGRAM (the guide's laid-datum.mjs) off the statement by which the dump's own 'gosem.cut.vars' lays the variable. In a bare row this is a premise. The card (YtfjbioghpgmkiaaGreatDoorCards.lean) ties it to the program's text. -/
def laid_unicode_utf8_acceptRanges {H : Type} : DataW H := .agg [.agg [.lit (.int .u8 128), .lit (.int .u8 191)], .agg [.lit (.int .u8 160), .lit (.int .u8 191)], .agg [.lit (.int .u8 128), .lit (.int .u8 159)], .agg [.lit (.int .u8 144), .lit (.int .u8 191)], .agg [.lit (.int .u8 128), .lit (.int .u8 143)], .agg [.lit (.int .u8 0), .lit (.int .u8 0)], .agg [.lit (.int .u8 0), .lit (.int .u8 0)], .agg [.lit (.int .u8 0), .lit (.int .u8 0)], .agg [.lit (.int .u8 0), .lit (.int .u8 0)], .agg [.lit (.int .u8 0), .lit (.int .u8 0)], .agg [.lit (.int .u8 0), .lit (.int .u8 0)], .agg [.lit (.int .u8 0), .lit (.int .u8 0)], .agg [.lit (.int .u8 0), .lit (.int .u8 0)], .agg [.lit (.int .u8 0), .lit (.int .u8 0)], .agg [.lit (.int .u8 0), .lit (.int .u8 0)], .agg [.lit (.int .u8 0), .lit (.int .u8 0)]]
/-- One of Go's own tables, pinned by name: the form's constant. -/
def laid_unicode_utf8_first : DataW Unit := Go.Pinned.utf8First

/-- 'sorteslaw19.PlacesClasses': WHATEVER THE INPUT: true; the input reads as it did. -/
def placesClassesSpec : ChangeSpec := { name := "placesClasses", fn := fun _ => fun
  | [d1, d2, d3] => { results := [.lit (.bool true)], args := [d1, d2, d3] }
  | _ => none }
def placesClassesRow : OpenClaim := { program := "ytfjbioghpgmkiaagreatdoor", sum := "c6418fa544137aa3e74847e070e7f4d7220c72ea295dd78ddde8ebb850a4d80e", func := "sortes/sorteslaw19.PlacesClasses", spec := "placesClasses", inPlace := ["internal/bytealg.IndexByteString", "internal/bytealg.IndexString"], unfollowed := true, recurses := true, named := ["unicode/utf8.first", "unicode/utf8.acceptRanges", "internal/bytealg.MaxLen"], apart := false, laid := [("unicode/utf8.acceptRanges", laid_unicode_utf8_acceptRanges), ("unicode/utf8.first", laid_unicode_utf8_first)] }
def PlacesClassesSaid : Prop := placesClassesRow.holds Tryz.pinned (OpenSpec.ofChange placesClassesSpec)

/-- ITS FALSE NEIGHBOUR: 'it returns false'. Refute it at one input. -/
def placesClassesWrong : ChangeSpec := { name := "placesClasses", fn := fun _ => fun
  | [d1, d2, d3] => { results := [.lit (.bool false)], args := [d1, d2, d3] }
  | _ => none }
def PlacesClassesWrongFalsely : Prop := placesClassesRow.holds Tryz.pinned (OpenSpec.ofChange placesClassesWrong)

/-- 'sorteslaw19.PlacesEqual': WHATEVER THE INPUT: true; the input reads as it did. -/
def placesEqualSpec : ChangeSpec := { name := "placesEqual", fn := fun _ => fun
  | [d1, d2, d3] => { results := [.lit (.bool true)], args := [d1, d2, d3] }
  | _ => none }
def placesEqualRow : OpenClaim := { program := "ytfjbioghpgmkiaagreatdoor", sum := "c6418fa544137aa3e74847e070e7f4d7220c72ea295dd78ddde8ebb850a4d80e", func := "sortes/sorteslaw19.PlacesEqual", spec := "placesEqual", inPlace := ["internal/bytealg.IndexByteString", "internal/bytealg.IndexString"], unfollowed := true, recurses := true, named := ["unicode/utf8.first", "unicode/utf8.acceptRanges", "internal/bytealg.MaxLen"], apart := false, laid := [("unicode/utf8.acceptRanges", laid_unicode_utf8_acceptRanges), ("unicode/utf8.first", laid_unicode_utf8_first)] }
def PlacesEqualSaid : Prop := placesEqualRow.holds Tryz.pinned (OpenSpec.ofChange placesEqualSpec)

/-- ITS FALSE NEIGHBOUR: 'it returns false'. Refute it at one input. -/
def placesEqualWrong : ChangeSpec := { name := "placesEqual", fn := fun _ => fun
  | [d1, d2, d3] => { results := [.lit (.bool false)], args := [d1, d2, d3] }
  | _ => none }
def PlacesEqualWrongFalsely : Prop := placesEqualRow.holds Tryz.pinned (OpenSpec.ofChange placesEqualWrong)

/-- 'sorteslaw19.PlacesOne': WHATEVER THE INPUT: true; the input reads as it did. -/
def placesOneSpec : ChangeSpec := { name := "placesOne", fn := fun _ => fun
  | [d1, d2, d3] => { results := [.lit (.bool true)], args := [d1, d2, d3] }
  | _ => none }
def placesOneRow : OpenClaim := { program := "ytfjbioghpgmkiaagreatdoor", sum := "c6418fa544137aa3e74847e070e7f4d7220c72ea295dd78ddde8ebb850a4d80e", func := "sortes/sorteslaw19.PlacesOne", spec := "placesOne", inPlace := ["internal/bytealg.IndexByteString", "internal/bytealg.IndexString"], unfollowed := true, recurses := true, named := ["unicode/utf8.first", "unicode/utf8.acceptRanges", "internal/bytealg.MaxLen"], apart := false, laid := [("unicode/utf8.acceptRanges", laid_unicode_utf8_acceptRanges), ("unicode/utf8.first", laid_unicode_utf8_first)] }
def PlacesOneSaid : Prop := placesOneRow.holds Tryz.pinned (OpenSpec.ofChange placesOneSpec)

/-- ITS FALSE NEIGHBOUR: 'it returns false'. Refute it at one input. -/
def placesOneWrong : ChangeSpec := { name := "placesOne", fn := fun _ => fun
  | [d1, d2, d3] => { results := [.lit (.bool false)], args := [d1, d2, d3] }
  | _ => none }
def PlacesOneWrongFalsely : Prop := placesOneRow.holds Tryz.pinned (OpenSpec.ofChange placesOneWrong)

/-- 'sorteslaw19.PlacesFamilies': WHATEVER THE INPUT: true; the input reads as it did. -/
def placesFamiliesSpec : ChangeSpec := { name := "placesFamilies", fn := fun _ => fun
  | [d1, d2, d3] => { results := [.lit (.bool true)], args := [d1, d2, d3] }
  | _ => none }
def placesFamiliesRow : OpenClaim := { program := "ytfjbioghpgmkiaagreatdoor", sum := "c6418fa544137aa3e74847e070e7f4d7220c72ea295dd78ddde8ebb850a4d80e", func := "sortes/sorteslaw19.PlacesFamilies", spec := "placesFamilies", inPlace := ["internal/bytealg.IndexByteString", "internal/bytealg.IndexString"], unfollowed := true, recurses := true, named := ["unicode/utf8.first", "unicode/utf8.acceptRanges", "internal/bytealg.MaxLen"], apart := false, laid := [("unicode/utf8.acceptRanges", laid_unicode_utf8_acceptRanges), ("unicode/utf8.first", laid_unicode_utf8_first)] }
def PlacesFamiliesSaid : Prop := placesFamiliesRow.holds Tryz.pinned (OpenSpec.ofChange placesFamiliesSpec)

/-- ITS FALSE NEIGHBOUR: 'it returns false'. Refute it at one input. -/
def placesFamiliesWrong : ChangeSpec := { name := "placesFamilies", fn := fun _ => fun
  | [d1, d2, d3] => { results := [.lit (.bool false)], args := [d1, d2, d3] }
  | _ => none }
def PlacesFamiliesWrongFalsely : Prop := placesFamiliesRow.holds Tryz.pinned (OpenSpec.ofChange placesFamiliesWrong)

/-- 'sorteslaw19.PlacesKeeps': WHATEVER THE INPUT: true; the input reads as it did. -/
def placesKeepsSpec : ChangeSpec := { name := "placesKeeps", fn := fun _ => fun
  | [d1, d2] => { results := [.lit (.bool true)], args := [d1, d2] }
  | _ => none }
def placesKeepsRow : OpenClaim := { program := "ytfjbioghpgmkiaagreatdoor", sum := "c6418fa544137aa3e74847e070e7f4d7220c72ea295dd78ddde8ebb850a4d80e", func := "sortes/sorteslaw19.PlacesKeeps", spec := "placesKeeps", inPlace := ["internal/bytealg.IndexByteString", "internal/bytealg.IndexString"], unfollowed := true, recurses := true, named := ["unicode/utf8.first", "unicode/utf8.acceptRanges", "internal/bytealg.MaxLen"], apart := false, laid := [("unicode/utf8.acceptRanges", laid_unicode_utf8_acceptRanges), ("unicode/utf8.first", laid_unicode_utf8_first)] }
def PlacesKeepsSaid : Prop := placesKeepsRow.holds Tryz.pinned (OpenSpec.ofChange placesKeepsSpec)

/-- ITS FALSE NEIGHBOUR: 'it returns false'. Refute it at one input. -/
def placesKeepsWrong : ChangeSpec := { name := "placesKeeps", fn := fun _ => fun
  | [d1, d2] => { results := [.lit (.bool false)], args := [d1, d2] }
  | _ => none }
def PlacesKeepsWrongFalsely : Prop := placesKeepsRow.holds Tryz.pinned (OpenSpec.ofChange placesKeepsWrong)

/-- 'sorteslaw19.PlacesOrders': WHATEVER THE INPUT: true; the input reads as it did. -/
def placesOrdersSpec : ChangeSpec := { name := "placesOrders", fn := fun _ => fun
  | [d1, d2, d3] => { results := [.lit (.bool true)], args := [d1, d2, d3] }
  | _ => none }
def placesOrdersRow : OpenClaim := { program := "ytfjbioghpgmkiaagreatdoor", sum := "c6418fa544137aa3e74847e070e7f4d7220c72ea295dd78ddde8ebb850a4d80e", func := "sortes/sorteslaw19.PlacesOrders", spec := "placesOrders", inPlace := ["internal/bytealg.IndexByteString", "internal/bytealg.IndexString"], unfollowed := true, recurses := true, named := ["unicode/utf8.first", "unicode/utf8.acceptRanges", "internal/bytealg.MaxLen"], apart := false, laid := [("unicode/utf8.acceptRanges", laid_unicode_utf8_acceptRanges), ("unicode/utf8.first", laid_unicode_utf8_first)] }
def PlacesOrdersSaid : Prop := placesOrdersRow.holds Tryz.pinned (OpenSpec.ofChange placesOrdersSpec)

/-- ITS FALSE NEIGHBOUR: 'it returns false'. Refute it at one input. -/
def placesOrdersWrong : ChangeSpec := { name := "placesOrders", fn := fun _ => fun
  | [d1, d2, d3] => { results := [.lit (.bool false)], args := [d1, d2, d3] }
  | _ => none }
def PlacesOrdersWrongFalsely : Prop := placesOrdersRow.holds Tryz.pinned (OpenSpec.ofChange placesOrdersWrong)

/-- 'sorteslaw19.PlacesNumbers': WHATEVER THE INPUT: true; the input reads as it did. -/
def placesNumbersSpec : ChangeSpec := { name := "placesNumbers", fn := fun _ => fun
  | [d1, d2, d3] => { results := [.lit (.bool true)], args := [d1, d2, d3] }
  | _ => none }
def placesNumbersRow : OpenClaim := { program := "ytfjbioghpgmkiaagreatdoor", sum := "c6418fa544137aa3e74847e070e7f4d7220c72ea295dd78ddde8ebb850a4d80e", func := "sortes/sorteslaw19.PlacesNumbers", spec := "placesNumbers", inPlace := ["internal/bytealg.IndexByteString", "internal/bytealg.IndexString"], unfollowed := true, recurses := true, named := ["unicode/utf8.first", "unicode/utf8.acceptRanges", "internal/bytealg.MaxLen"], apart := false, laid := [("unicode/utf8.acceptRanges", laid_unicode_utf8_acceptRanges), ("unicode/utf8.first", laid_unicode_utf8_first)] }
def PlacesNumbersSaid : Prop := placesNumbersRow.holds Tryz.pinned (OpenSpec.ofChange placesNumbersSpec)

/-- ITS FALSE NEIGHBOUR: 'it returns false'. Refute it at one input. -/
def placesNumbersWrong : ChangeSpec := { name := "placesNumbers", fn := fun _ => fun
  | [d1, d2, d3] => { results := [.lit (.bool false)], args := [d1, d2, d3] }
  | _ => none }
def PlacesNumbersWrongFalsely : Prop := placesNumbersRow.holds Tryz.pinned (OpenSpec.ofChange placesNumbersWrong)

/-- 'sorteslaw19.PlacesStable': WHATEVER THE INPUT: true; the input reads as it did. -/
def placesStableSpec : ChangeSpec := { name := "placesStable", fn := fun _ => fun
  | [d1, d2, d3] => { results := [.lit (.bool true)], args := [d1, d2, d3] }
  | _ => none }
def placesStableRow : OpenClaim := { program := "ytfjbioghpgmkiaagreatdoor", sum := "c6418fa544137aa3e74847e070e7f4d7220c72ea295dd78ddde8ebb850a4d80e", func := "sortes/sorteslaw19.PlacesStable", spec := "placesStable", inPlace := ["internal/bytealg.IndexByteString", "internal/bytealg.IndexString"], unfollowed := true, recurses := true, named := ["unicode/utf8.first", "unicode/utf8.acceptRanges", "internal/bytealg.MaxLen"], apart := false, laid := [("unicode/utf8.acceptRanges", laid_unicode_utf8_acceptRanges), ("unicode/utf8.first", laid_unicode_utf8_first)] }
def PlacesStableSaid : Prop := placesStableRow.holds Tryz.pinned (OpenSpec.ofChange placesStableSpec)

/-- ITS FALSE NEIGHBOUR: 'it returns false'. Refute it at one input. -/
def placesStableWrong : ChangeSpec := { name := "placesStable", fn := fun _ => fun
  | [d1, d2, d3] => { results := [.lit (.bool false)], args := [d1, d2, d3] }
  | _ => none }
def PlacesStableWrongFalsely : Prop := placesStableRow.holds Tryz.pinned (OpenSpec.ofChange placesStableWrong)

/- THE SECOND FORM. 'bulk': how many values and letters a reading holds, each counted each time it is reached (what is shared counts as often as it is met; a slice's spare places count too). A statement '..UptoSaid' is the law's where the arguments, and the package variables that the reading takes, are together of bulk at most 1048576: NARROWER than '..Said'. Prove '..Said' where nothing that the law and all that it calls make is longer than what came in: it says more and counts as full. Else prove '..UptoSaid'. A law counts once. -/
mutual
def uptoBulk {H : Type} : DataW H → Nat
  | .lit (.string bytes) => bytes.length + 1
  | .lit _ => 1
  | .nil => 1
  | .ptr d => uptoBulk d + 1
  | .slice elems spare => uptoBulkAll elems + uptoBulkAll spare + 1
  | .agg parts => uptoBulkAll parts + 1
  | .iface _ d => uptoBulk d + 1
  | .map entries => uptoBulkEntries entries + 1
  | .held _ => 1
def uptoBulkAll {H : Type} : List (DataW H) → Nat
  | [] => 0
  | d :: r => uptoBulk d + uptoBulkAll r
def uptoBulkEntries {H : Type} : List (Lit × DataW H) → Nat
  | [] => 0
  | x :: r => uptoBulkEntry x + uptoBulkEntries r
def uptoBulkEntry {H : Type} : Lit × DataW H → Nat
  | (.string bytes, d) => bytes.length + uptoBulk d + 1
  | (_, d) => uptoBulk d + 1
 end
def uptoSmall : (H : Type) → List (DataW H) → Bool := fun _ ds => decide (uptoBulkAll ds ≤ 1048576)
def OpenSpec.upto (s : _root_.Go.ChangeSpec) : _root_.Go.OpenSpec := { _root_.Go.OpenSpec.ofChange s with cond := some uptoSmall }

/-- 'sorteslaw19.PlacesClasses', WHERE WHAT IT READS IS OF BULK AT MOST 1048576: true; the input reads as it did. -/
def placesClassesUptoRow : OpenClaim := { program := "ytfjbioghpgmkiaagreatdoor", sum := "c6418fa544137aa3e74847e070e7f4d7220c72ea295dd78ddde8ebb850a4d80e", func := "sortes/sorteslaw19.PlacesClasses", spec := "placesClasses", inPlace := ["internal/bytealg.IndexByteString", "internal/bytealg.IndexString"], unfollowed := true, recurses := true, named := ["unicode/utf8.first", "unicode/utf8.acceptRanges", "internal/bytealg.MaxLen"], apart := false, laid := [("unicode/utf8.acceptRanges", laid_unicode_utf8_acceptRanges), ("unicode/utf8.first", laid_unicode_utf8_first)], narrowed := true }
def PlacesClassesUptoSaid : Prop := placesClassesUptoRow.holds Tryz.pinned (OpenSpec.upto placesClassesSpec)

/-- 'sorteslaw19.PlacesEqual', WHERE WHAT IT READS IS OF BULK AT MOST 1048576: true; the input reads as it did. -/
def placesEqualUptoRow : OpenClaim := { program := "ytfjbioghpgmkiaagreatdoor", sum := "c6418fa544137aa3e74847e070e7f4d7220c72ea295dd78ddde8ebb850a4d80e", func := "sortes/sorteslaw19.PlacesEqual", spec := "placesEqual", inPlace := ["internal/bytealg.IndexByteString", "internal/bytealg.IndexString"], unfollowed := true, recurses := true, named := ["unicode/utf8.first", "unicode/utf8.acceptRanges", "internal/bytealg.MaxLen"], apart := false, laid := [("unicode/utf8.acceptRanges", laid_unicode_utf8_acceptRanges), ("unicode/utf8.first", laid_unicode_utf8_first)], narrowed := true }
def PlacesEqualUptoSaid : Prop := placesEqualUptoRow.holds Tryz.pinned (OpenSpec.upto placesEqualSpec)

/-- 'sorteslaw19.PlacesOne', WHERE WHAT IT READS IS OF BULK AT MOST 1048576: true; the input reads as it did. -/
def placesOneUptoRow : OpenClaim := { program := "ytfjbioghpgmkiaagreatdoor", sum := "c6418fa544137aa3e74847e070e7f4d7220c72ea295dd78ddde8ebb850a4d80e", func := "sortes/sorteslaw19.PlacesOne", spec := "placesOne", inPlace := ["internal/bytealg.IndexByteString", "internal/bytealg.IndexString"], unfollowed := true, recurses := true, named := ["unicode/utf8.first", "unicode/utf8.acceptRanges", "internal/bytealg.MaxLen"], apart := false, laid := [("unicode/utf8.acceptRanges", laid_unicode_utf8_acceptRanges), ("unicode/utf8.first", laid_unicode_utf8_first)], narrowed := true }
def PlacesOneUptoSaid : Prop := placesOneUptoRow.holds Tryz.pinned (OpenSpec.upto placesOneSpec)

/-- 'sorteslaw19.PlacesFamilies', WHERE WHAT IT READS IS OF BULK AT MOST 1048576: true; the input reads as it did. -/
def placesFamiliesUptoRow : OpenClaim := { program := "ytfjbioghpgmkiaagreatdoor", sum := "c6418fa544137aa3e74847e070e7f4d7220c72ea295dd78ddde8ebb850a4d80e", func := "sortes/sorteslaw19.PlacesFamilies", spec := "placesFamilies", inPlace := ["internal/bytealg.IndexByteString", "internal/bytealg.IndexString"], unfollowed := true, recurses := true, named := ["unicode/utf8.first", "unicode/utf8.acceptRanges", "internal/bytealg.MaxLen"], apart := false, laid := [("unicode/utf8.acceptRanges", laid_unicode_utf8_acceptRanges), ("unicode/utf8.first", laid_unicode_utf8_first)], narrowed := true }
def PlacesFamiliesUptoSaid : Prop := placesFamiliesUptoRow.holds Tryz.pinned (OpenSpec.upto placesFamiliesSpec)

/-- 'sorteslaw19.PlacesKeeps', WHERE WHAT IT READS IS OF BULK AT MOST 1048576: true; the input reads as it did. -/
def placesKeepsUptoRow : OpenClaim := { program := "ytfjbioghpgmkiaagreatdoor", sum := "c6418fa544137aa3e74847e070e7f4d7220c72ea295dd78ddde8ebb850a4d80e", func := "sortes/sorteslaw19.PlacesKeeps", spec := "placesKeeps", inPlace := ["internal/bytealg.IndexByteString", "internal/bytealg.IndexString"], unfollowed := true, recurses := true, named := ["unicode/utf8.first", "unicode/utf8.acceptRanges", "internal/bytealg.MaxLen"], apart := false, laid := [("unicode/utf8.acceptRanges", laid_unicode_utf8_acceptRanges), ("unicode/utf8.first", laid_unicode_utf8_first)], narrowed := true }
def PlacesKeepsUptoSaid : Prop := placesKeepsUptoRow.holds Tryz.pinned (OpenSpec.upto placesKeepsSpec)

/-- 'sorteslaw19.PlacesOrders', WHERE WHAT IT READS IS OF BULK AT MOST 1048576: true; the input reads as it did. -/
def placesOrdersUptoRow : OpenClaim := { program := "ytfjbioghpgmkiaagreatdoor", sum := "c6418fa544137aa3e74847e070e7f4d7220c72ea295dd78ddde8ebb850a4d80e", func := "sortes/sorteslaw19.PlacesOrders", spec := "placesOrders", inPlace := ["internal/bytealg.IndexByteString", "internal/bytealg.IndexString"], unfollowed := true, recurses := true, named := ["unicode/utf8.first", "unicode/utf8.acceptRanges", "internal/bytealg.MaxLen"], apart := false, laid := [("unicode/utf8.acceptRanges", laid_unicode_utf8_acceptRanges), ("unicode/utf8.first", laid_unicode_utf8_first)], narrowed := true }
def PlacesOrdersUptoSaid : Prop := placesOrdersUptoRow.holds Tryz.pinned (OpenSpec.upto placesOrdersSpec)

/-- 'sorteslaw19.PlacesNumbers', WHERE WHAT IT READS IS OF BULK AT MOST 1048576: true; the input reads as it did. -/
def placesNumbersUptoRow : OpenClaim := { program := "ytfjbioghpgmkiaagreatdoor", sum := "c6418fa544137aa3e74847e070e7f4d7220c72ea295dd78ddde8ebb850a4d80e", func := "sortes/sorteslaw19.PlacesNumbers", spec := "placesNumbers", inPlace := ["internal/bytealg.IndexByteString", "internal/bytealg.IndexString"], unfollowed := true, recurses := true, named := ["unicode/utf8.first", "unicode/utf8.acceptRanges", "internal/bytealg.MaxLen"], apart := false, laid := [("unicode/utf8.acceptRanges", laid_unicode_utf8_acceptRanges), ("unicode/utf8.first", laid_unicode_utf8_first)], narrowed := true }
def PlacesNumbersUptoSaid : Prop := placesNumbersUptoRow.holds Tryz.pinned (OpenSpec.upto placesNumbersSpec)

/-- 'sorteslaw19.PlacesStable', WHERE WHAT IT READS IS OF BULK AT MOST 1048576: true; the input reads as it did. -/
def placesStableUptoRow : OpenClaim := { program := "ytfjbioghpgmkiaagreatdoor", sum := "c6418fa544137aa3e74847e070e7f4d7220c72ea295dd78ddde8ebb850a4d80e", func := "sortes/sorteslaw19.PlacesStable", spec := "placesStable", inPlace := ["internal/bytealg.IndexByteString", "internal/bytealg.IndexString"], unfollowed := true, recurses := true, named := ["unicode/utf8.first", "unicode/utf8.acceptRanges", "internal/bytealg.MaxLen"], apart := false, laid := [("unicode/utf8.acceptRanges", laid_unicode_utf8_acceptRanges), ("unicode/utf8.first", laid_unicode_utf8_first)], narrowed := true }
def PlacesStableUptoSaid : Prop := placesStableUptoRow.holds Tryz.pinned (OpenSpec.upto placesStableSpec)

end Rows
end Go.Proofs.YtfjbioghpgmkiaaGreatDoor
