/-
  DERIVED. GIVEN WITH THE SEED: THE CARDS: each row of YtojhlijcinenoaaDoorRows.lean that lists a variable, with what it lists TIED to the program's text (the seventh form; the later family's looks); each row that meets fmt, with fmt's text TOLD by the authors' own Lean function (tested against real Go, not proved from fmt's source: count such statements apart). THE CARD IS WHAT COUNTS. Prove the row's statement (the work); the ties are given (YtojhlijcinenoaaDoorTie.lean); close each card by the builder's one call (the guide's Derived/Test/ToyasCard.lean, 'card_holds'). Laid BY PROGRAM, IN A SANDBOX (cutbox-door.mjs). By AI agents, Wed Nov 11 2026. No macro, syntax, notation, axiom, sorry.
-/
import Derived.Test.YtojhlijcinenoaaDoorRows
import GoSem.ClaimSeven
namespace Go.Proofs.YtojhlijcinenoaaDoor
namespace Rows

/-- THE TIED CARD OF 'stillagelaw07.LogDies'. -/
def logDiesCard : Claim7 := { stood := { row := logDiesRow, standIns := [], harness := (true, "53974670f88b055a26625995df0a73af0799ba48152c85c84603fd05744cf05c"), looks := false }, kinds := [], alts := [], laidByText := true, laidKinds := [.data, .pinned], laidTests := true, laidLooks := .later }
def LogDiesCardSaid : Prop := Claim7.holds Tryd.pinned (.plain (OpenSpec.ofChange logDiesSpec)) logDiesCard

/-- THE TIED CARD OF 'stillagelaw07.LogReads'. -/
def logReadsCard : Claim7 := { stood := { row := logReadsRow, standIns := [], harness := (true, "53974670f88b055a26625995df0a73af0799ba48152c85c84603fd05744cf05c"), looks := false }, kinds := [], alts := [], laidByText := true, laidKinds := [.data, .pinned], laidTests := true, laidLooks := .later }
def LogReadsCardSaid : Prop := Claim7.holds Tryd.pinned (.plain (OpenSpec.ofChange logReadsSpec)) logReadsCard

/-- THE TIED CARD OF 'stillagelaw07.LogKeeps'. -/
def logKeepsCard : Claim7 := { stood := { row := logKeepsRow, standIns := [], harness := (true, "53974670f88b055a26625995df0a73af0799ba48152c85c84603fd05744cf05c"), looks := false }, kinds := [], alts := [], laidByText := true, laidKinds := [.data, .pinned], laidTests := true, laidLooks := .later }
def LogKeepsCardSaid : Prop := Claim7.holds Tryd.pinned (.plain (OpenSpec.ofChange logKeepsSpec)) logKeepsCard

/-- THE TIED CARD OF 'stillagelaw07.LogAgain'. -/
def logAgainCard : Claim7 := { stood := { row := logAgainRow, standIns := [], harness := (true, "53974670f88b055a26625995df0a73af0799ba48152c85c84603fd05744cf05c"), looks := false }, kinds := [], alts := [], laidByText := true, laidKinds := [.data, .pinned], laidTests := true, laidLooks := .later }
def LogAgainCardSaid : Prop := Claim7.holds Tryd.pinned (.plain (OpenSpec.ofChange logAgainSpec)) logAgainCard

/-- THE SECOND FORM's CARD OF 'stillagelaw07.LogDies'. -/
def logDiesUptoCard : Claim7 := { stood := { row := logDiesUptoRow, standIns := [], harness := (true, "53974670f88b055a26625995df0a73af0799ba48152c85c84603fd05744cf05c"), looks := false }, kinds := [], alts := [], laidByText := true, laidKinds := [.data, .pinned], laidTests := true, laidLooks := .later }
def LogDiesUptoCardSaid : Prop := Claim7.holds Tryd.pinned (.plain (OpenSpec.upto logDiesSpec)) logDiesUptoCard

/-- THE SECOND FORM's CARD OF 'stillagelaw07.LogReads'. -/
def logReadsUptoCard : Claim7 := { stood := { row := logReadsUptoRow, standIns := [], harness := (true, "53974670f88b055a26625995df0a73af0799ba48152c85c84603fd05744cf05c"), looks := false }, kinds := [], alts := [], laidByText := true, laidKinds := [.data, .pinned], laidTests := true, laidLooks := .later }
def LogReadsUptoCardSaid : Prop := Claim7.holds Tryd.pinned (.plain (OpenSpec.upto logReadsSpec)) logReadsUptoCard

/-- THE SECOND FORM's CARD OF 'stillagelaw07.LogKeeps'. -/
def logKeepsUptoCard : Claim7 := { stood := { row := logKeepsUptoRow, standIns := [], harness := (true, "53974670f88b055a26625995df0a73af0799ba48152c85c84603fd05744cf05c"), looks := false }, kinds := [], alts := [], laidByText := true, laidKinds := [.data, .pinned], laidTests := true, laidLooks := .later }
def LogKeepsUptoCardSaid : Prop := Claim7.holds Tryd.pinned (.plain (OpenSpec.upto logKeepsSpec)) logKeepsUptoCard

/-- THE SECOND FORM's CARD OF 'stillagelaw07.LogAgain'. -/
def logAgainUptoCard : Claim7 := { stood := { row := logAgainUptoRow, standIns := [], harness := (true, "53974670f88b055a26625995df0a73af0799ba48152c85c84603fd05744cf05c"), looks := false }, kinds := [], alts := [], laidByText := true, laidKinds := [.data, .pinned], laidTests := true, laidLooks := .later }
def LogAgainUptoCardSaid : Prop := Claim7.holds Tryd.pinned (.plain (OpenSpec.upto logAgainSpec)) logAgainUptoCard
end Rows
end Go.Proofs.YtojhlijcinenoaaDoor
