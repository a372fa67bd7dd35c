/-
  NARROWER THAN 'FOR EVERY INPUT', by the rows' own cells (each row's printed sentence says how): SetsOf: laid · SetsTell: laid · SetsMake: laid · SetsSeek: laid · SetsRules: laid · SetsBack: laid · SetsWalk: laid · SetsEnds: laid · SetsFirst: laid.
  DERIVED. THE GIVEN ROWS OF THIS SEAT. 9 by the template 'for every input the law returns true; each argument reads behind the call as it read before'; 0 by the template 'total and deterministic' (their statements: YtfijicdniabkoaaDoorTotals.lean).
  GIVEN WITH THE SEED: the statements are not yours to turn. If you find one false, say at which input.
  Laid BY PROGRAM, IN A SANDBOX (cutbox-rows.mjs): the forced cells as the released guide's own fill.sh prints them over the translation 2d43d1b2c5ab9f08… (all of the seat's roots in one cut). By AI agents, Wed Nov 11 2026. No macro, syntax, notation, axiom, sorry.
-/
import Derived.Test.YtfijicdniabkoaaDoorChecked
import GoSem.PinnedTables
import GoSem.Claim
import GoSem.ClaimJoined
import GoSem.ClaimMapViews
import Derived.JoinedTies
import Derived.KernelRfl
namespace Go.Proofs.YtfijicdniabkoaaDoor
/- THE CELL 'sum', in the pinned program and in every row, IS THE sha256 OF THE DUMP (.gsa) THAT YtfijicdniabkoaaDoorProg.lean LOADS. Nothing in Lean hashes anything: it is a label: what it is worth is what the hold of that sum in a sandbox is worth. -/
noncomputable def Tryd.pinned : Pinned := { name := "ytfijicdniabkoaadoor", sum := "2d43d1b2c5ab9f089def612a093815e607c29414e5d36db312f1801d01ee8cf4", checked := Tryd.checked }
namespace Rows
def none {H : Type} : Left H := { results := [], args := [] }

/- WHAT THE LISTED PACKAGE-LEVEL VARIABLES READ AS WHEN THE CALL BEGINS. Each datum BY PROGRAM (the guide's laid-datum.mjs) off the statement by which the dump's own 'gosem.cut.vars' lays the variable. In a bare row this is a premise. The card (YtfijicdniabkoaaDoorCards.lean) ties it to the program's text. -/
def laid_unicode_utf8_acceptRanges {H : Type} : DataW H := .agg [.agg [.lit (.int .u8 128), .lit (.int .u8 191)], .agg [.lit (.int .u8 160), .lit (.int .u8 191)], .agg [.lit (.int .u8 128), .lit (.int .u8 159)], .agg [.lit (.int .u8 144), .lit (.int .u8 191)], .agg [.lit (.int .u8 128), .lit (.int .u8 143)], .agg [.lit (.int .u8 0), .lit (.int .u8 0)], .agg [.lit (.int .u8 0), .lit (.int .u8 0)], .agg [.lit (.int .u8 0), .lit (.int .u8 0)], .agg [.lit (.int .u8 0), .lit (.int .u8 0)], .agg [.lit (.int .u8 0), .lit (.int .u8 0)], .agg [.lit (.int .u8 0), .lit (.int .u8 0)], .agg [.lit (.int .u8 0), .lit (.int .u8 0)], .agg [.lit (.int .u8 0), .lit (.int .u8 0)], .agg [.lit (.int .u8 0), .lit (.int .u8 0)], .agg [.lit (.int .u8 0), .lit (.int .u8 0)], .agg [.lit (.int .u8 0), .lit (.int .u8 0)]]
/-- One of Go's own tables, pinned by name: the form's constant. -/
def laid_unicode_utf8_first : DataW Unit := Go.Pinned.utf8First

/-- 'stillagelaw01.SetsOf': WHATEVER THE INPUT: true; the input reads as it did. -/
def setsOfSpec : ChangeSpec := { name := "setsOf", fn := fun _ => fun
  | [d] => { results := [.lit (.bool true)], args := [d] }
  | _ => none }
def setsOfRow : OpenClaim := { program := "ytfijicdniabkoaadoor", sum := "2d43d1b2c5ab9f089def612a093815e607c29414e5d36db312f1801d01ee8cf4", func := "stillage/stillagelaw01.SetsOf", spec := "setsOf", inPlace := ["internal/bytealg.IndexByteString", "internal/bytealg.IndexString"], unfollowed := true, recurses := true, named := ["unicode/utf8.first", "unicode/utf8.acceptRanges", "internal/bytealg.MaxLen"], apart := false, laid := [("unicode/utf8.acceptRanges", laid_unicode_utf8_acceptRanges), ("unicode/utf8.first", laid_unicode_utf8_first)] }
def SetsOfSaid : Prop := setsOfRow.holds Tryd.pinned (OpenSpec.ofChange setsOfSpec)

/-- ITS FALSE NEIGHBOUR: 'it returns false'. Refute it at one input. -/
def setsOfWrong : ChangeSpec := { name := "setsOf", fn := fun _ => fun
  | [d] => { results := [.lit (.bool false)], args := [d] }
  | _ => none }
def SetsOfWrongFalsely : Prop := setsOfRow.holds Tryd.pinned (OpenSpec.ofChange setsOfWrong)

/-- 'stillagelaw01.SetsTell': WHATEVER THE INPUT: true; the input reads as it did. -/
def setsTellSpec : ChangeSpec := { name := "setsTell", fn := fun _ => fun
  | [d1, d2] => { results := [.lit (.bool true)], args := [d1, d2] }
  | _ => none }
def setsTellRow : OpenClaim := { program := "ytfijicdniabkoaadoor", sum := "2d43d1b2c5ab9f089def612a093815e607c29414e5d36db312f1801d01ee8cf4", func := "stillage/stillagelaw01.SetsTell", spec := "setsTell", inPlace := ["internal/bytealg.IndexByteString", "internal/bytealg.IndexString"], unfollowed := true, recurses := true, named := ["unicode/utf8.first", "unicode/utf8.acceptRanges", "internal/bytealg.MaxLen"], apart := false, laid := [("unicode/utf8.acceptRanges", laid_unicode_utf8_acceptRanges), ("unicode/utf8.first", laid_unicode_utf8_first)] }
def SetsTellSaid : Prop := setsTellRow.holds Tryd.pinned (OpenSpec.ofChange setsTellSpec)

/-- ITS FALSE NEIGHBOUR: 'it returns false'. Refute it at one input. -/
def setsTellWrong : ChangeSpec := { name := "setsTell", fn := fun _ => fun
  | [d1, d2] => { results := [.lit (.bool false)], args := [d1, d2] }
  | _ => none }
def SetsTellWrongFalsely : Prop := setsTellRow.holds Tryd.pinned (OpenSpec.ofChange setsTellWrong)

/-- 'stillagelaw01.SetsMake': WHATEVER THE INPUT: true; the input reads as it did. -/
def setsMakeSpec : ChangeSpec := { name := "setsMake", fn := fun _ => fun
  | [d1, d2] => { results := [.lit (.bool true)], args := [d1, d2] }
  | _ => none }
def setsMakeRow : OpenClaim := { program := "ytfijicdniabkoaadoor", sum := "2d43d1b2c5ab9f089def612a093815e607c29414e5d36db312f1801d01ee8cf4", func := "stillage/stillagelaw01.SetsMake", spec := "setsMake", inPlace := ["internal/bytealg.IndexByteString", "internal/bytealg.IndexString"], unfollowed := true, recurses := true, named := ["unicode/utf8.first", "unicode/utf8.acceptRanges", "internal/bytealg.MaxLen"], apart := false, laid := [("unicode/utf8.acceptRanges", laid_unicode_utf8_acceptRanges), ("unicode/utf8.first", laid_unicode_utf8_first)] }
def SetsMakeSaid : Prop := setsMakeRow.holds Tryd.pinned (OpenSpec.ofChange setsMakeSpec)

/-- ITS FALSE NEIGHBOUR: 'it returns false'. Refute it at one input. -/
def setsMakeWrong : ChangeSpec := { name := "setsMake", fn := fun _ => fun
  | [d1, d2] => { results := [.lit (.bool false)], args := [d1, d2] }
  | _ => none }
def SetsMakeWrongFalsely : Prop := setsMakeRow.holds Tryd.pinned (OpenSpec.ofChange setsMakeWrong)

/-- 'stillagelaw01.SetsSeek': WHATEVER THE INPUT: true; the input reads as it did. -/
def setsSeekSpec : ChangeSpec := { name := "setsSeek", fn := fun _ => fun
  | [d1, d2, d3] => { results := [.lit (.bool true)], args := [d1, d2, d3] }
  | _ => none }
def setsSeekRow : OpenClaim := { program := "ytfijicdniabkoaadoor", sum := "2d43d1b2c5ab9f089def612a093815e607c29414e5d36db312f1801d01ee8cf4", func := "stillage/stillagelaw01.SetsSeek", spec := "setsSeek", inPlace := ["internal/bytealg.IndexByteString", "internal/bytealg.IndexString"], unfollowed := true, recurses := true, named := ["unicode/utf8.first", "unicode/utf8.acceptRanges", "internal/bytealg.MaxLen"], apart := false, laid := [("unicode/utf8.acceptRanges", laid_unicode_utf8_acceptRanges), ("unicode/utf8.first", laid_unicode_utf8_first)] }
def SetsSeekSaid : Prop := setsSeekRow.holds Tryd.pinned (OpenSpec.ofChange setsSeekSpec)

/-- ITS FALSE NEIGHBOUR: 'it returns false'. Refute it at one input. -/
def setsSeekWrong : ChangeSpec := { name := "setsSeek", fn := fun _ => fun
  | [d1, d2, d3] => { results := [.lit (.bool false)], args := [d1, d2, d3] }
  | _ => none }
def SetsSeekWrongFalsely : Prop := setsSeekRow.holds Tryd.pinned (OpenSpec.ofChange setsSeekWrong)

/-- 'stillagelaw01.SetsRules': WHATEVER THE INPUT: true; the input reads as it did. -/
def setsRulesSpec : ChangeSpec := { name := "setsRules", fn := fun _ => fun
  | [d1, d2, d3] => { results := [.lit (.bool true)], args := [d1, d2, d3] }
  | _ => none }
def setsRulesRow : OpenClaim := { program := "ytfijicdniabkoaadoor", sum := "2d43d1b2c5ab9f089def612a093815e607c29414e5d36db312f1801d01ee8cf4", func := "stillage/stillagelaw01.SetsRules", spec := "setsRules", inPlace := ["internal/bytealg.IndexByteString", "internal/bytealg.IndexString"], unfollowed := true, recurses := true, named := ["unicode/utf8.first", "unicode/utf8.acceptRanges", "internal/bytealg.MaxLen"], apart := false, laid := [("unicode/utf8.acceptRanges", laid_unicode_utf8_acceptRanges), ("unicode/utf8.first", laid_unicode_utf8_first)] }
def SetsRulesSaid : Prop := setsRulesRow.holds Tryd.pinned (OpenSpec.ofChange setsRulesSpec)

/-- ITS FALSE NEIGHBOUR: 'it returns false'. Refute it at one input. -/
def setsRulesWrong : ChangeSpec := { name := "setsRules", fn := fun _ => fun
  | [d1, d2, d3] => { results := [.lit (.bool false)], args := [d1, d2, d3] }
  | _ => none }
def SetsRulesWrongFalsely : Prop := setsRulesRow.holds Tryd.pinned (OpenSpec.ofChange setsRulesWrong)

/-- 'stillagelaw01.SetsBack': WHATEVER THE INPUT: true; the input reads as it did. -/
def setsBackSpec : ChangeSpec := { name := "setsBack", fn := fun _ => fun
  | [d1, d2] => { results := [.lit (.bool true)], args := [d1, d2] }
  | _ => none }
def setsBackRow : OpenClaim := { program := "ytfijicdniabkoaadoor", sum := "2d43d1b2c5ab9f089def612a093815e607c29414e5d36db312f1801d01ee8cf4", func := "stillage/stillagelaw01.SetsBack", spec := "setsBack", inPlace := ["internal/bytealg.IndexByteString", "internal/bytealg.IndexString"], unfollowed := true, recurses := true, named := ["unicode/utf8.first", "unicode/utf8.acceptRanges", "internal/bytealg.MaxLen"], apart := false, laid := [("unicode/utf8.acceptRanges", laid_unicode_utf8_acceptRanges), ("unicode/utf8.first", laid_unicode_utf8_first)] }
def SetsBackSaid : Prop := setsBackRow.holds Tryd.pinned (OpenSpec.ofChange setsBackSpec)

/-- ITS FALSE NEIGHBOUR: 'it returns false'. Refute it at one input. -/
def setsBackWrong : ChangeSpec := { name := "setsBack", fn := fun _ => fun
  | [d1, d2] => { results := [.lit (.bool false)], args := [d1, d2] }
  | _ => none }
def SetsBackWrongFalsely : Prop := setsBackRow.holds Tryd.pinned (OpenSpec.ofChange setsBackWrong)

/-- 'stillagelaw01.SetsWalk': WHATEVER THE INPUT: true; the input reads as it did. -/
def setsWalkSpec : ChangeSpec := { name := "setsWalk", fn := fun _ => fun
  | [d] => { results := [.lit (.bool true)], args := [d] }
  | _ => none }
def setsWalkRow : OpenClaim := { program := "ytfijicdniabkoaadoor", sum := "2d43d1b2c5ab9f089def612a093815e607c29414e5d36db312f1801d01ee8cf4", func := "stillage/stillagelaw01.SetsWalk", spec := "setsWalk", inPlace := ["internal/bytealg.IndexByteString", "internal/bytealg.IndexString"], unfollowed := true, recurses := true, named := ["unicode/utf8.first", "unicode/utf8.acceptRanges", "internal/bytealg.MaxLen"], apart := false, laid := [("unicode/utf8.acceptRanges", laid_unicode_utf8_acceptRanges), ("unicode/utf8.first", laid_unicode_utf8_first)] }
def SetsWalkSaid : Prop := setsWalkRow.holds Tryd.pinned (OpenSpec.ofChange setsWalkSpec)

/-- ITS FALSE NEIGHBOUR: 'it returns false'. Refute it at one input. -/
def setsWalkWrong : ChangeSpec := { name := "setsWalk", fn := fun _ => fun
  | [d] => { results := [.lit (.bool false)], args := [d] }
  | _ => none }
def SetsWalkWrongFalsely : Prop := setsWalkRow.holds Tryd.pinned (OpenSpec.ofChange setsWalkWrong)

/-- 'stillagelaw01.SetsEnds': WHATEVER THE INPUT: true; the input reads as it did. -/
def setsEndsSpec : ChangeSpec := { name := "setsEnds", fn := fun _ => fun
  | [d1, d2, d3] => { results := [.lit (.bool true)], args := [d1, d2, d3] }
  | _ => none }
def setsEndsRow : OpenClaim := { program := "ytfijicdniabkoaadoor", sum := "2d43d1b2c5ab9f089def612a093815e607c29414e5d36db312f1801d01ee8cf4", func := "stillage/stillagelaw01.SetsEnds", spec := "setsEnds", inPlace := ["internal/bytealg.IndexByteString", "internal/bytealg.IndexString"], unfollowed := true, recurses := true, named := ["unicode/utf8.first", "unicode/utf8.acceptRanges", "internal/bytealg.MaxLen"], apart := false, laid := [("unicode/utf8.acceptRanges", laid_unicode_utf8_acceptRanges), ("unicode/utf8.first", laid_unicode_utf8_first)] }
def SetsEndsSaid : Prop := setsEndsRow.holds Tryd.pinned (OpenSpec.ofChange setsEndsSpec)

/-- ITS FALSE NEIGHBOUR: 'it returns false'. Refute it at one input. -/
def setsEndsWrong : ChangeSpec := { name := "setsEnds", fn := fun _ => fun
  | [d1, d2, d3] => { results := [.lit (.bool false)], args := [d1, d2, d3] }
  | _ => none }
def SetsEndsWrongFalsely : Prop := setsEndsRow.holds Tryd.pinned (OpenSpec.ofChange setsEndsWrong)

/-- 'stillagelaw01.SetsFirst': WHATEVER THE INPUT: true; the input reads as it did. -/
def setsFirstSpec : ChangeSpec := { name := "setsFirst", fn := fun _ => fun
  | [d1, d2] => { results := [.lit (.bool true)], args := [d1, d2] }
  | _ => none }
def setsFirstRow : OpenClaim := { program := "ytfijicdniabkoaadoor", sum := "2d43d1b2c5ab9f089def612a093815e607c29414e5d36db312f1801d01ee8cf4", func := "stillage/stillagelaw01.SetsFirst", spec := "setsFirst", inPlace := ["internal/bytealg.IndexByteString", "internal/bytealg.IndexString"], unfollowed := true, recurses := true, named := ["unicode/utf8.first", "unicode/utf8.acceptRanges", "internal/bytealg.MaxLen"], apart := false, laid := [("unicode/utf8.acceptRanges", laid_unicode_utf8_acceptRanges), ("unicode/utf8.first", laid_unicode_utf8_first)] }
def SetsFirstSaid : Prop := setsFirstRow.holds Tryd.pinned (OpenSpec.ofChange setsFirstSpec)

/-- ITS FALSE NEIGHBOUR: 'it returns false'. Refute it at one input. -/
def setsFirstWrong : ChangeSpec := { name := "setsFirst", fn := fun _ => fun
  | [d1, d2] => { results := [.lit (.bool false)], args := [d1, d2] }
  | _ => none }
def SetsFirstWrongFalsely : Prop := setsFirstRow.holds Tryd.pinned (OpenSpec.ofChange setsFirstWrong)

/- THE SECOND FORM. 'bulk': how many values and letters a reading holds, each counted each time it is reached (what is shared counts as often as it is met; a slice's spare places count too). A statement '..UptoSaid' is the law's where the arguments, and the package variables that the reading takes, are together of bulk at most 1048576: NARROWER than '..Said'. Prove '..Said' where nothing that the law and all that it calls make is longer than what came in: it says more and counts as full. Else prove '..UptoSaid'. A law counts once. -/
mutual
def uptoBulk {H : Type} : DataW H → Nat
  | .lit (.string bytes) => bytes.length + 1
  | .lit _ => 1
  | .nil => 1
  | .ptr d => uptoBulk d + 1
  | .slice elems spare => uptoBulkAll elems + uptoBulkAll spare + 1
  | .agg parts => uptoBulkAll parts + 1
  | .iface _ d => uptoBulk d + 1
  | .map entries => uptoBulkEntries entries + 1
  | .held _ => 1
def uptoBulkAll {H : Type} : List (DataW H) → Nat
  | [] => 0
  | d :: r => uptoBulk d + uptoBulkAll r
def uptoBulkEntries {H : Type} : List (Lit × DataW H) → Nat
  | [] => 0
  | x :: r => uptoBulkEntry x + uptoBulkEntries r
def uptoBulkEntry {H : Type} : Lit × DataW H → Nat
  | (.string bytes, d) => bytes.length + uptoBulk d + 1
  | (_, d) => uptoBulk d + 1
 end
def uptoSmall : (H : Type) → List (DataW H) → Bool := fun _ ds => decide (uptoBulkAll ds ≤ 1048576)
def OpenSpec.upto (s : _root_.Go.ChangeSpec) : _root_.Go.OpenSpec := { _root_.Go.OpenSpec.ofChange s with cond := some uptoSmall }

/-- 'stillagelaw01.SetsOf', WHERE WHAT IT READS IS OF BULK AT MOST 1048576: true; the input reads as it did. -/
def setsOfUptoRow : OpenClaim := { program := "ytfijicdniabkoaadoor", sum := "2d43d1b2c5ab9f089def612a093815e607c29414e5d36db312f1801d01ee8cf4", func := "stillage/stillagelaw01.SetsOf", spec := "setsOf", inPlace := ["internal/bytealg.IndexByteString", "internal/bytealg.IndexString"], unfollowed := true, recurses := true, named := ["unicode/utf8.first", "unicode/utf8.acceptRanges", "internal/bytealg.MaxLen"], apart := false, laid := [("unicode/utf8.acceptRanges", laid_unicode_utf8_acceptRanges), ("unicode/utf8.first", laid_unicode_utf8_first)], narrowed := true }
def SetsOfUptoSaid : Prop := setsOfUptoRow.holds Tryd.pinned (OpenSpec.upto setsOfSpec)

/-- 'stillagelaw01.SetsTell', WHERE WHAT IT READS IS OF BULK AT MOST 1048576: true; the input reads as it did. -/
def setsTellUptoRow : OpenClaim := { program := "ytfijicdniabkoaadoor", sum := "2d43d1b2c5ab9f089def612a093815e607c29414e5d36db312f1801d01ee8cf4", func := "stillage/stillagelaw01.SetsTell", spec := "setsTell", inPlace := ["internal/bytealg.IndexByteString", "internal/bytealg.IndexString"], unfollowed := true, recurses := true, named := ["unicode/utf8.first", "unicode/utf8.acceptRanges", "internal/bytealg.MaxLen"], apart := false, laid := [("unicode/utf8.acceptRanges", laid_unicode_utf8_acceptRanges), ("unicode/utf8.first", laid_unicode_utf8_first)], narrowed := true }
def SetsTellUptoSaid : Prop := setsTellUptoRow.holds Tryd.pinned (OpenSpec.upto setsTellSpec)

/-- 'stillagelaw01.SetsMake', WHERE WHAT IT READS IS OF BULK AT MOST 1048576: true; the input reads as it did. -/
def setsMakeUptoRow : OpenClaim := { program := "ytfijicdniabkoaadoor", sum := "2d43d1b2c5ab9f089def612a093815e607c29414e5d36db312f1801d01ee8cf4", func := "stillage/stillagelaw01.SetsMake", spec := "setsMake", inPlace := ["internal/bytealg.IndexByteString", "internal/bytealg.IndexString"], unfollowed := true, recurses := true, named := ["unicode/utf8.first", "unicode/utf8.acceptRanges", "internal/bytealg.MaxLen"], apart := false, laid := [("unicode/utf8.acceptRanges", laid_unicode_utf8_acceptRanges), ("unicode/utf8.first", laid_unicode_utf8_first)], narrowed := true }
def SetsMakeUptoSaid : Prop := setsMakeUptoRow.holds Tryd.pinned (OpenSpec.upto setsMakeSpec)

/-- 'stillagelaw01.SetsSeek', WHERE WHAT IT READS IS OF BULK AT MOST 1048576: true; the input reads as it did. -/
def setsSeekUptoRow : OpenClaim := { program := "ytfijicdniabkoaadoor", sum := "2d43d1b2c5ab9f089def612a093815e607c29414e5d36db312f1801d01ee8cf4", func := "stillage/stillagelaw01.SetsSeek", spec := "setsSeek", inPlace := ["internal/bytealg.IndexByteString", "internal/bytealg.IndexString"], unfollowed := true, recurses := true, named := ["unicode/utf8.first", "unicode/utf8.acceptRanges", "internal/bytealg.MaxLen"], apart := false, laid := [("unicode/utf8.acceptRanges", laid_unicode_utf8_acceptRanges), ("unicode/utf8.first", laid_unicode_utf8_first)], narrowed := true }
def SetsSeekUptoSaid : Prop := setsSeekUptoRow.holds Tryd.pinned (OpenSpec.upto setsSeekSpec)

/-- 'stillagelaw01.SetsRules', WHERE WHAT IT READS IS OF BULK AT MOST 1048576: true; the input reads as it did. -/
def setsRulesUptoRow : OpenClaim := { program := "ytfijicdniabkoaadoor", sum := "2d43d1b2c5ab9f089def612a093815e607c29414e5d36db312f1801d01ee8cf4", func := "stillage/stillagelaw01.SetsRules", spec := "setsRules", inPlace := ["internal/bytealg.IndexByteString", "internal/bytealg.IndexString"], unfollowed := true, recurses := true, named := ["unicode/utf8.first", "unicode/utf8.acceptRanges", "internal/bytealg.MaxLen"], apart := false, laid := [("unicode/utf8.acceptRanges", laid_unicode_utf8_acceptRanges), ("unicode/utf8.first", laid_unicode_utf8_first)], narrowed := true }
def SetsRulesUptoSaid : Prop := setsRulesUptoRow.holds Tryd.pinned (OpenSpec.upto setsRulesSpec)

/-- 'stillagelaw01.SetsBack', WHERE WHAT IT READS IS OF BULK AT MOST 1048576: true; the input reads as it did. -/
def setsBackUptoRow : OpenClaim := { program := "ytfijicdniabkoaadoor", sum := "2d43d1b2c5ab9f089def612a093815e607c29414e5d36db312f1801d01ee8cf4", func := "stillage/stillagelaw01.SetsBack", spec := "setsBack", inPlace := ["internal/bytealg.IndexByteString", "internal/bytealg.IndexString"], unfollowed := true, recurses := true, named := ["unicode/utf8.first", "unicode/utf8.acceptRanges", "internal/bytealg.MaxLen"], apart := false, laid := [("unicode/utf8.acceptRanges", laid_unicode_utf8_acceptRanges), ("unicode/utf8.first", laid_unicode_utf8_first)], narrowed := true }
def SetsBackUptoSaid : Prop := setsBackUptoRow.holds Tryd.pinned (OpenSpec.upto setsBackSpec)

/-- 'stillagelaw01.SetsWalk', WHERE WHAT IT READS IS OF BULK AT MOST 1048576: true; the input reads as it did. -/
def setsWalkUptoRow : OpenClaim := { program := "ytfijicdniabkoaadoor", sum := "2d43d1b2c5ab9f089def612a093815e607c29414e5d36db312f1801d01ee8cf4", func := "stillage/stillagelaw01.SetsWalk", spec := "setsWalk", inPlace := ["internal/bytealg.IndexByteString", "internal/bytealg.IndexString"], unfollowed := true, recurses := true, named := ["unicode/utf8.first", "unicode/utf8.acceptRanges", "internal/bytealg.MaxLen"], apart := false, laid := [("unicode/utf8.acceptRanges", laid_unicode_utf8_acceptRanges), ("unicode/utf8.first", laid_unicode_utf8_first)], narrowed := true }
def SetsWalkUptoSaid : Prop := setsWalkUptoRow.holds Tryd.pinned (OpenSpec.upto setsWalkSpec)

/-- 'stillagelaw01.SetsEnds', WHERE WHAT IT READS IS OF BULK AT MOST 1048576: true; the input reads as it did. -/
def setsEndsUptoRow : OpenClaim := { program := "ytfijicdniabkoaadoor", sum := "2d43d1b2c5ab9f089def612a093815e607c29414e5d36db312f1801d01ee8cf4", func := "stillage/stillagelaw01.SetsEnds", spec := "setsEnds", inPlace := ["internal/bytealg.IndexByteString", "internal/bytealg.IndexString"], unfollowed := true, recurses := true, named := ["unicode/utf8.first", "unicode/utf8.acceptRanges", "internal/bytealg.MaxLen"], apart := false, laid := [("unicode/utf8.acceptRanges", laid_unicode_utf8_acceptRanges), ("unicode/utf8.first", laid_unicode_utf8_first)], narrowed := true }
def SetsEndsUptoSaid : Prop := setsEndsUptoRow.holds Tryd.pinned (OpenSpec.upto setsEndsSpec)

/-- 'stillagelaw01.SetsFirst', WHERE WHAT IT READS IS OF BULK AT MOST 1048576: true; the input reads as it did. -/
def setsFirstUptoRow : OpenClaim := { program := "ytfijicdniabkoaadoor", sum := "2d43d1b2c5ab9f089def612a093815e607c29414e5d36db312f1801d01ee8cf4", func := "stillage/stillagelaw01.SetsFirst", spec := "setsFirst", inPlace := ["internal/bytealg.IndexByteString", "internal/bytealg.IndexString"], unfollowed := true, recurses := true, named := ["unicode/utf8.first", "unicode/utf8.acceptRanges", "internal/bytealg.MaxLen"], apart := false, laid := [("unicode/utf8.acceptRanges", laid_unicode_utf8_acceptRanges), ("unicode/utf8.first", laid_unicode_utf8_first)], narrowed := true }
def SetsFirstUptoSaid : Prop := setsFirstUptoRow.holds Tryd.pinned (OpenSpec.upto setsFirstSpec)

end Rows
end Go.Proofs.YtfijicdniabkoaaDoor
