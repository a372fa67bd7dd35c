/-
  DERIVED. GIVEN WITH THE SEED: THE CARDS: each row of YtaihpnmojiagnaaGreatDoorRows.lean that lists a variable, with what it lists TIED to the program's text (the seventh form; the later family's looks); each row that meets fmt, with fmt's text TOLD by the authors' own Lean function (tested against real Go, not proved from fmt's source: count such statements apart). THE CARD IS WHAT COUNTS. Prove the row's statement (the work); the ties are given (YtaihpnmojiagnaaGreatDoorTie.lean); close each card by the builder's one call (the guide's Derived/Test/ToyasCard.lean, 'card_holds'). Laid BY PROGRAM, IN A SANDBOX (cutbox-door.mjs). By AI agents, Wed Nov 11 2026. No macro, syntax, notation, axiom, sorry.
-/
import Derived.Test.YtaihpnmojiagnaaGreatDoorRows
import GoSem.ClaimSeven
namespace Go.Proofs.YtaihpnmojiagnaaGreatDoor
namespace Rows

/-- THE TIED CARD OF 'stillagelaw12.TableInodes'. -/
def tableInodesCard : Claim7 := { stood := { row := tableInodesRow, standIns := [], harness := (true, "4ef512ea1b47707dd33faed9b73c31d6b123628a67e92000334c8d8c9eb5f612"), looks := true }, kinds := [], alts := [], laidByText := true, laidKinds := [.data, .handle, .pinned], laidTests := true, laidLooks := .later }
def TableInodesCardSaid : Prop := Claim7.holds Tryz.pinned (.plain (OpenSpec.ofChange tableInodesSpec)) tableInodesCard

/-- THE TIED CARD OF 'stillagelaw12.TableEntries'. -/
def tableEntriesCard : Claim7 := { stood := { row := tableEntriesRow, standIns := [], harness := (true, "4ef512ea1b47707dd33faed9b73c31d6b123628a67e92000334c8d8c9eb5f612"), looks := true }, kinds := [], alts := [], laidByText := true, laidKinds := [.data, .handle, .pinned], laidTests := true, laidLooks := .later }
def TableEntriesCardSaid : Prop := Claim7.holds Tryz.pinned (.plain (OpenSpec.ofChange tableEntriesSpec)) tableEntriesCard

/-- THE TIED CARD OF 'stillagelaw12.TableSnaps'. -/
def tableSnapsCard : Claim7 := { stood := { row := tableSnapsRow, standIns := [], harness := (true, "4ef512ea1b47707dd33faed9b73c31d6b123628a67e92000334c8d8c9eb5f612"), looks := true }, kinds := [], alts := [], laidByText := true, laidKinds := [.data, .handle, .pinned], laidTests := true, laidLooks := .later }
def TableSnapsCardSaid : Prop := Claim7.holds Tryz.pinned (.plain (OpenSpec.ofChange tableSnapsSpec)) tableSnapsCard

/-- THE SECOND FORM's CARD OF 'stillagelaw12.TableInodes'. -/
def tableInodesUptoCard : Claim7 := { stood := { row := tableInodesUptoRow, standIns := [], harness := (true, "4ef512ea1b47707dd33faed9b73c31d6b123628a67e92000334c8d8c9eb5f612"), looks := true }, kinds := [], alts := [], laidByText := true, laidKinds := [.data, .handle, .pinned], laidTests := true, laidLooks := .later }
def TableInodesUptoCardSaid : Prop := Claim7.holds Tryz.pinned (.plain (OpenSpec.upto tableInodesSpec)) tableInodesUptoCard

/-- THE SECOND FORM's CARD OF 'stillagelaw12.TableEntries'. -/
def tableEntriesUptoCard : Claim7 := { stood := { row := tableEntriesUptoRow, standIns := [], harness := (true, "4ef512ea1b47707dd33faed9b73c31d6b123628a67e92000334c8d8c9eb5f612"), looks := true }, kinds := [], alts := [], laidByText := true, laidKinds := [.data, .handle, .pinned], laidTests := true, laidLooks := .later }
def TableEntriesUptoCardSaid : Prop := Claim7.holds Tryz.pinned (.plain (OpenSpec.upto tableEntriesSpec)) tableEntriesUptoCard

/-- THE SECOND FORM's CARD OF 'stillagelaw12.TableSnaps'. -/
def tableSnapsUptoCard : Claim7 := { stood := { row := tableSnapsUptoRow, standIns := [], harness := (true, "4ef512ea1b47707dd33faed9b73c31d6b123628a67e92000334c8d8c9eb5f612"), looks := true }, kinds := [], alts := [], laidByText := true, laidKinds := [.data, .handle, .pinned], laidTests := true, laidLooks := .later }
def TableSnapsUptoCardSaid : Prop := Claim7.holds Tryz.pinned (.plain (OpenSpec.upto tableSnapsSpec)) tableSnapsUptoCard
end Rows
end Go.Proofs.YtaihpnmojiagnaaGreatDoor
