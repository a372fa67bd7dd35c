/-
  NARROWER THAN 'FOR EVERY INPUT', by the rows' own cells (each row's printed sentence says how): PlaneParses: laid · PlaneApart: laid · PlaneFrees: laid · PlaneDiffs: laid · PlaneTexts: laid · PlaneDoes: laid.
  DERIVED. THE GIVEN ROWS OF THIS SEAT. 6 by the template 'for every input the law returns true; each argument reads behind the call as it read before'; 0 by the template 'total and deterministic' (their statements: YteghmnlngkcgiaaDoorTotals.lean).
  GIVEN WITH THE SEED: the statements are not yours to turn. If you find one false, say at which input.
  Laid BY PROGRAM, IN A SANDBOX (cutbox-rows.mjs): the forced cells as the released guide's own fill.sh prints them over the translation 9e6cfd2bb6e9c3a0… (all of the seat's roots in one cut). By AI agents, Wed Nov 11 2026. No macro, syntax, notation, axiom, sorry.
-/
import Derived.Test.YteghmnlngkcgiaaDoorChecked
import GoSem.PinnedTables
import GoSem.Claim
import GoSem.ClaimJoined
import GoSem.ClaimMapViews
import Derived.JoinedTies
import Derived.KernelRfl
namespace Go.Proofs.YteghmnlngkcgiaaDoor
/- THE CELL 'sum', in the pinned program and in every row, IS THE sha256 OF THE DUMP (.gsa) THAT YteghmnlngkcgiaaDoorProg.lean LOADS. Nothing in Lean hashes anything: it is a label: what it is worth is what the hold of that sum in a sandbox is worth. -/
noncomputable def Tryd.pinned : Pinned := { name := "yteghmnlngkcgiaadoor", sum := "9e6cfd2bb6e9c3a00d4cdf33aca36d02c9f714ac67d8d3ceadcd505b3bdde1bc", checked := Tryd.checked }
namespace Rows
def none {H : Type} : Left H := { results := [], args := [] }

/- WHAT THE LISTED PACKAGE-LEVEL VARIABLES READ AS WHEN THE CALL BEGINS. Each datum BY PROGRAM (the guide's laid-datum.mjs) off the statement by which the dump's own 'gosem.cut.vars' lays the variable. In a bare row this is a premise. The card (YteghmnlngkcgiaaDoorCards.lean) ties it to the program's text. -/
def laid_unicode_utf8_acceptRanges {H : Type} : DataW H := .agg [.agg [.lit (.int .u8 128), .lit (.int .u8 191)], .agg [.lit (.int .u8 160), .lit (.int .u8 191)], .agg [.lit (.int .u8 128), .lit (.int .u8 159)], .agg [.lit (.int .u8 144), .lit (.int .u8 191)], .agg [.lit (.int .u8 128), .lit (.int .u8 143)], .agg [.lit (.int .u8 0), .lit (.int .u8 0)], .agg [.lit (.int .u8 0), .lit (.int .u8 0)], .agg [.lit (.int .u8 0), .lit (.int .u8 0)], .agg [.lit (.int .u8 0), .lit (.int .u8 0)], .agg [.lit (.int .u8 0), .lit (.int .u8 0)], .agg [.lit (.int .u8 0), .lit (.int .u8 0)], .agg [.lit (.int .u8 0), .lit (.int .u8 0)], .agg [.lit (.int .u8 0), .lit (.int .u8 0)], .agg [.lit (.int .u8 0), .lit (.int .u8 0)], .agg [.lit (.int .u8 0), .lit (.int .u8 0)], .agg [.lit (.int .u8 0), .lit (.int .u8 0)]]
/-- One of Go's own tables, pinned by name: the form's constant. -/
def laid_unicode_utf8_first : DataW Unit := Go.Pinned.utf8First

/-- 'stillagelaw09.PlaneParses': WHATEVER THE INPUT: true; the input reads as it did. -/
def planeParsesSpec : ChangeSpec := { name := "planeParses", fn := fun _ => fun
  | [d1, d2] => { results := [.lit (.bool true)], args := [d1, d2] }
  | _ => none }
def planeParsesRow : OpenClaim := { program := "yteghmnlngkcgiaadoor", sum := "9e6cfd2bb6e9c3a00d4cdf33aca36d02c9f714ac67d8d3ceadcd505b3bdde1bc", func := "stillage/stillagelaw09.PlaneParses", spec := "planeParses", inPlace := ["internal/bytealg.IndexByteString", "internal/bytealg.IndexString"], unfollowed := true, recurses := true, named := ["unicode/utf8.first", "unicode/utf8.acceptRanges", "internal/bytealg.MaxLen"], apart := false, laid := [("unicode/utf8.acceptRanges", laid_unicode_utf8_acceptRanges), ("unicode/utf8.first", laid_unicode_utf8_first)] }
def PlaneParsesSaid : Prop := planeParsesRow.holds Tryd.pinned (OpenSpec.ofChange planeParsesSpec)

/-- ITS FALSE NEIGHBOUR: 'it returns false'. Refute it at one input. -/
def planeParsesWrong : ChangeSpec := { name := "planeParses", fn := fun _ => fun
  | [d1, d2] => { results := [.lit (.bool false)], args := [d1, d2] }
  | _ => none }
def PlaneParsesWrongFalsely : Prop := planeParsesRow.holds Tryd.pinned (OpenSpec.ofChange planeParsesWrong)

/-- 'stillagelaw09.PlaneApart': WHATEVER THE INPUT: true; the input reads as it did. -/
def planeApartSpec : ChangeSpec := { name := "planeApart", fn := fun _ => fun
  | [d1, d2, d3] => { results := [.lit (.bool true)], args := [d1, d2, d3] }
  | _ => none }
def planeApartRow : OpenClaim := { program := "yteghmnlngkcgiaadoor", sum := "9e6cfd2bb6e9c3a00d4cdf33aca36d02c9f714ac67d8d3ceadcd505b3bdde1bc", func := "stillage/stillagelaw09.PlaneApart", spec := "planeApart", inPlace := ["internal/bytealg.IndexByteString", "internal/bytealg.IndexString"], unfollowed := true, recurses := true, named := ["unicode/utf8.first", "unicode/utf8.acceptRanges", "internal/bytealg.MaxLen"], apart := false, laid := [("unicode/utf8.acceptRanges", laid_unicode_utf8_acceptRanges), ("unicode/utf8.first", laid_unicode_utf8_first)] }
def PlaneApartSaid : Prop := planeApartRow.holds Tryd.pinned (OpenSpec.ofChange planeApartSpec)

/-- ITS FALSE NEIGHBOUR: 'it returns false'. Refute it at one input. -/
def planeApartWrong : ChangeSpec := { name := "planeApart", fn := fun _ => fun
  | [d1, d2, d3] => { results := [.lit (.bool false)], args := [d1, d2, d3] }
  | _ => none }
def PlaneApartWrongFalsely : Prop := planeApartRow.holds Tryd.pinned (OpenSpec.ofChange planeApartWrong)

/-- 'stillagelaw09.PlaneFrees': WHATEVER THE INPUT: true; the input reads as it did. -/
def planeFreesSpec : ChangeSpec := { name := "planeFrees", fn := fun _ => fun
  | [d1, d2, d3] => { results := [.lit (.bool true)], args := [d1, d2, d3] }
  | _ => none }
def planeFreesRow : OpenClaim := { program := "yteghmnlngkcgiaadoor", sum := "9e6cfd2bb6e9c3a00d4cdf33aca36d02c9f714ac67d8d3ceadcd505b3bdde1bc", func := "stillage/stillagelaw09.PlaneFrees", spec := "planeFrees", inPlace := ["internal/bytealg.IndexByteString", "internal/bytealg.IndexString"], unfollowed := true, recurses := true, named := ["unicode/utf8.first", "unicode/utf8.acceptRanges", "internal/bytealg.MaxLen"], apart := false, laid := [("unicode/utf8.acceptRanges", laid_unicode_utf8_acceptRanges), ("unicode/utf8.first", laid_unicode_utf8_first)] }
def PlaneFreesSaid : Prop := planeFreesRow.holds Tryd.pinned (OpenSpec.ofChange planeFreesSpec)

/-- ITS FALSE NEIGHBOUR: 'it returns false'. Refute it at one input. -/
def planeFreesWrong : ChangeSpec := { name := "planeFrees", fn := fun _ => fun
  | [d1, d2, d3] => { results := [.lit (.bool false)], args := [d1, d2, d3] }
  | _ => none }
def PlaneFreesWrongFalsely : Prop := planeFreesRow.holds Tryd.pinned (OpenSpec.ofChange planeFreesWrong)

/-- 'stillagelaw09.PlaneDiffs': WHATEVER THE INPUT: true; the input reads as it did. -/
def planeDiffsSpec : ChangeSpec := { name := "planeDiffs", fn := fun _ => fun
  | [d1, d2, d3] => { results := [.lit (.bool true)], args := [d1, d2, d3] }
  | _ => none }
def planeDiffsRow : OpenClaim := { program := "yteghmnlngkcgiaadoor", sum := "9e6cfd2bb6e9c3a00d4cdf33aca36d02c9f714ac67d8d3ceadcd505b3bdde1bc", func := "stillage/stillagelaw09.PlaneDiffs", spec := "planeDiffs", inPlace := ["internal/bytealg.IndexByteString", "internal/bytealg.IndexString"], unfollowed := true, recurses := true, named := ["unicode/utf8.first", "unicode/utf8.acceptRanges", "internal/bytealg.MaxLen"], apart := false, laid := [("unicode/utf8.acceptRanges", laid_unicode_utf8_acceptRanges), ("unicode/utf8.first", laid_unicode_utf8_first)] }
def PlaneDiffsSaid : Prop := planeDiffsRow.holds Tryd.pinned (OpenSpec.ofChange planeDiffsSpec)

/-- ITS FALSE NEIGHBOUR: 'it returns false'. Refute it at one input. -/
def planeDiffsWrong : ChangeSpec := { name := "planeDiffs", fn := fun _ => fun
  | [d1, d2, d3] => { results := [.lit (.bool false)], args := [d1, d2, d3] }
  | _ => none }
def PlaneDiffsWrongFalsely : Prop := planeDiffsRow.holds Tryd.pinned (OpenSpec.ofChange planeDiffsWrong)

/-- 'stillagelaw09.PlaneTexts': WHATEVER THE INPUT: true; the input reads as it did. -/
def planeTextsSpec : ChangeSpec := { name := "planeTexts", fn := fun _ => fun
  | [d1, d2] => { results := [.lit (.bool true)], args := [d1, d2] }
  | _ => none }
def planeTextsRow : OpenClaim := { program := "yteghmnlngkcgiaadoor", sum := "9e6cfd2bb6e9c3a00d4cdf33aca36d02c9f714ac67d8d3ceadcd505b3bdde1bc", func := "stillage/stillagelaw09.PlaneTexts", spec := "planeTexts", inPlace := ["internal/bytealg.IndexByteString", "internal/bytealg.IndexString"], unfollowed := true, recurses := true, named := ["unicode/utf8.first", "unicode/utf8.acceptRanges", "internal/bytealg.MaxLen"], apart := false, laid := [("unicode/utf8.acceptRanges", laid_unicode_utf8_acceptRanges), ("unicode/utf8.first", laid_unicode_utf8_first)] }
def PlaneTextsSaid : Prop := planeTextsRow.holds Tryd.pinned (OpenSpec.ofChange planeTextsSpec)

/-- ITS FALSE NEIGHBOUR: 'it returns false'. Refute it at one input. -/
def planeTextsWrong : ChangeSpec := { name := "planeTexts", fn := fun _ => fun
  | [d1, d2] => { results := [.lit (.bool false)], args := [d1, d2] }
  | _ => none }
def PlaneTextsWrongFalsely : Prop := planeTextsRow.holds Tryd.pinned (OpenSpec.ofChange planeTextsWrong)

/-- 'stillagelaw09.PlaneDoes': WHATEVER THE INPUT: true; the input reads as it did. -/
def planeDoesSpec : ChangeSpec := { name := "planeDoes", fn := fun _ => fun
  | [d1, d2] => { results := [.lit (.bool true)], args := [d1, d2] }
  | _ => none }
def planeDoesRow : OpenClaim := { program := "yteghmnlngkcgiaadoor", sum := "9e6cfd2bb6e9c3a00d4cdf33aca36d02c9f714ac67d8d3ceadcd505b3bdde1bc", func := "stillage/stillagelaw09.PlaneDoes", spec := "planeDoes", inPlace := ["internal/bytealg.IndexByteString", "internal/bytealg.IndexString"], unfollowed := true, recurses := true, named := ["unicode/utf8.first", "unicode/utf8.acceptRanges", "internal/bytealg.MaxLen"], apart := false, laid := [("unicode/utf8.acceptRanges", laid_unicode_utf8_acceptRanges), ("unicode/utf8.first", laid_unicode_utf8_first)] }
def PlaneDoesSaid : Prop := planeDoesRow.holds Tryd.pinned (OpenSpec.ofChange planeDoesSpec)

/-- ITS FALSE NEIGHBOUR: 'it returns false'. Refute it at one input. -/
def planeDoesWrong : ChangeSpec := { name := "planeDoes", fn := fun _ => fun
  | [d1, d2] => { results := [.lit (.bool false)], args := [d1, d2] }
  | _ => none }
def PlaneDoesWrongFalsely : Prop := planeDoesRow.holds Tryd.pinned (OpenSpec.ofChange planeDoesWrong)

/- THE SECOND FORM. 'bulk': how many values and letters a reading holds, each counted each time it is reached (what is shared counts as often as it is met; a slice's spare places count too). A statement '..UptoSaid' is the law's where the arguments, and the package variables that the reading takes, are together of bulk at most 1048576: NARROWER than '..Said'. Prove '..Said' where nothing that the law and all that it calls make is longer than what came in: it says more and counts as full. Else prove '..UptoSaid'. A law counts once. -/
mutual
def uptoBulk {H : Type} : DataW H → Nat
  | .lit (.string bytes) => bytes.length + 1
  | .lit _ => 1
  | .nil => 1
  | .ptr d => uptoBulk d + 1
  | .slice elems spare => uptoBulkAll elems + uptoBulkAll spare + 1
  | .agg parts => uptoBulkAll parts + 1
  | .iface _ d => uptoBulk d + 1
  | .map entries => uptoBulkEntries entries + 1
  | .held _ => 1
def uptoBulkAll {H : Type} : List (DataW H) → Nat
  | [] => 0
  | d :: r => uptoBulk d + uptoBulkAll r
def uptoBulkEntries {H : Type} : List (Lit × DataW H) → Nat
  | [] => 0
  | x :: r => uptoBulkEntry x + uptoBulkEntries r
def uptoBulkEntry {H : Type} : Lit × DataW H → Nat
  | (.string bytes, d) => bytes.length + uptoBulk d + 1
  | (_, d) => uptoBulk d + 1
 end
def uptoSmall : (H : Type) → List (DataW H) → Bool := fun _ ds => decide (uptoBulkAll ds ≤ 1048576)
def OpenSpec.upto (s : _root_.Go.ChangeSpec) : _root_.Go.OpenSpec := { _root_.Go.OpenSpec.ofChange s with cond := some uptoSmall }

/-- 'stillagelaw09.PlaneParses', WHERE WHAT IT READS IS OF BULK AT MOST 1048576: true; the input reads as it did. -/
def planeParsesUptoRow : OpenClaim := { program := "yteghmnlngkcgiaadoor", sum := "9e6cfd2bb6e9c3a00d4cdf33aca36d02c9f714ac67d8d3ceadcd505b3bdde1bc", func := "stillage/stillagelaw09.PlaneParses", spec := "planeParses", inPlace := ["internal/bytealg.IndexByteString", "internal/bytealg.IndexString"], unfollowed := true, recurses := true, named := ["unicode/utf8.first", "unicode/utf8.acceptRanges", "internal/bytealg.MaxLen"], apart := false, laid := [("unicode/utf8.acceptRanges", laid_unicode_utf8_acceptRanges), ("unicode/utf8.first", laid_unicode_utf8_first)], narrowed := true }
def PlaneParsesUptoSaid : Prop := planeParsesUptoRow.holds Tryd.pinned (OpenSpec.upto planeParsesSpec)

/-- 'stillagelaw09.PlaneApart', WHERE WHAT IT READS IS OF BULK AT MOST 1048576: true; the input reads as it did. -/
def planeApartUptoRow : OpenClaim := { program := "yteghmnlngkcgiaadoor", sum := "9e6cfd2bb6e9c3a00d4cdf33aca36d02c9f714ac67d8d3ceadcd505b3bdde1bc", func := "stillage/stillagelaw09.PlaneApart", spec := "planeApart", inPlace := ["internal/bytealg.IndexByteString", "internal/bytealg.IndexString"], unfollowed := true, recurses := true, named := ["unicode/utf8.first", "unicode/utf8.acceptRanges", "internal/bytealg.MaxLen"], apart := false, laid := [("unicode/utf8.acceptRanges", laid_unicode_utf8_acceptRanges), ("unicode/utf8.first", laid_unicode_utf8_first)], narrowed := true }
def PlaneApartUptoSaid : Prop := planeApartUptoRow.holds Tryd.pinned (OpenSpec.upto planeApartSpec)

/-- 'stillagelaw09.PlaneFrees', WHERE WHAT IT READS IS OF BULK AT MOST 1048576: true; the input reads as it did. -/
def planeFreesUptoRow : OpenClaim := { program := "yteghmnlngkcgiaadoor", sum := "9e6cfd2bb6e9c3a00d4cdf33aca36d02c9f714ac67d8d3ceadcd505b3bdde1bc", func := "stillage/stillagelaw09.PlaneFrees", spec := "planeFrees", inPlace := ["internal/bytealg.IndexByteString", "internal/bytealg.IndexString"], unfollowed := true, recurses := true, named := ["unicode/utf8.first", "unicode/utf8.acceptRanges", "internal/bytealg.MaxLen"], apart := false, laid := [("unicode/utf8.acceptRanges", laid_unicode_utf8_acceptRanges), ("unicode/utf8.first", laid_unicode_utf8_first)], narrowed := true }
def PlaneFreesUptoSaid : Prop := planeFreesUptoRow.holds Tryd.pinned (OpenSpec.upto planeFreesSpec)

/-- 'stillagelaw09.PlaneDiffs', WHERE WHAT IT READS IS OF BULK AT MOST 1048576: true; the input reads as it did. -/
def planeDiffsUptoRow : OpenClaim := { program := "yteghmnlngkcgiaadoor", sum := "9e6cfd2bb6e9c3a00d4cdf33aca36d02c9f714ac67d8d3ceadcd505b3bdde1bc", func := "stillage/stillagelaw09.PlaneDiffs", spec := "planeDiffs", inPlace := ["internal/bytealg.IndexByteString", "internal/bytealg.IndexString"], unfollowed := true, recurses := true, named := ["unicode/utf8.first", "unicode/utf8.acceptRanges", "internal/bytealg.MaxLen"], apart := false, laid := [("unicode/utf8.acceptRanges", laid_unicode_utf8_acceptRanges), ("unicode/utf8.first", laid_unicode_utf8_first)], narrowed := true }
def PlaneDiffsUptoSaid : Prop := planeDiffsUptoRow.holds Tryd.pinned (OpenSpec.upto planeDiffsSpec)

/-- 'stillagelaw09.PlaneTexts', WHERE WHAT IT READS IS OF BULK AT MOST 1048576: true; the input reads as it did. -/
def planeTextsUptoRow : OpenClaim := { program := "yteghmnlngkcgiaadoor", sum := "9e6cfd2bb6e9c3a00d4cdf33aca36d02c9f714ac67d8d3ceadcd505b3bdde1bc", func := "stillage/stillagelaw09.PlaneTexts", spec := "planeTexts", inPlace := ["internal/bytealg.IndexByteString", "internal/bytealg.IndexString"], unfollowed := true, recurses := true, named := ["unicode/utf8.first", "unicode/utf8.acceptRanges", "internal/bytealg.MaxLen"], apart := false, laid := [("unicode/utf8.acceptRanges", laid_unicode_utf8_acceptRanges), ("unicode/utf8.first", laid_unicode_utf8_first)], narrowed := true }
def PlaneTextsUptoSaid : Prop := planeTextsUptoRow.holds Tryd.pinned (OpenSpec.upto planeTextsSpec)

/-- 'stillagelaw09.PlaneDoes', WHERE WHAT IT READS IS OF BULK AT MOST 1048576: true; the input reads as it did. -/
def planeDoesUptoRow : OpenClaim := { program := "yteghmnlngkcgiaadoor", sum := "9e6cfd2bb6e9c3a00d4cdf33aca36d02c9f714ac67d8d3ceadcd505b3bdde1bc", func := "stillage/stillagelaw09.PlaneDoes", spec := "planeDoes", inPlace := ["internal/bytealg.IndexByteString", "internal/bytealg.IndexString"], unfollowed := true, recurses := true, named := ["unicode/utf8.first", "unicode/utf8.acceptRanges", "internal/bytealg.MaxLen"], apart := false, laid := [("unicode/utf8.acceptRanges", laid_unicode_utf8_acceptRanges), ("unicode/utf8.first", laid_unicode_utf8_first)], narrowed := true }
def PlaneDoesUptoSaid : Prop := planeDoesUptoRow.holds Tryd.pinned (OpenSpec.upto planeDoesSpec)

end Rows
end Go.Proofs.YteghmnlngkcgiaaDoor
