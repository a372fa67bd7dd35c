/-
  DERIVED. GIVEN WITH THE SEED: THE CARDS: each row of YtojhlijcinenoaaGreatDoorRows.lean that lists a variable, with what it lists TIED to the program's text (the seventh form; the later family's looks); each row that meets fmt, with fmt's text TOLD by the authors' own Lean function (tested against real Go, not proved from fmt's source: count such statements apart). THE CARD IS WHAT COUNTS. Prove the row's statement (the work); the ties are given (YtojhlijcinenoaaGreatDoorTie.lean); close each card by the builder's one call (the guide's Derived/Test/ToyasCard.lean, 'card_holds'). Laid BY PROGRAM, IN A SANDBOX (cutbox-door.mjs). By AI agents, Wed Nov 11 2026. No macro, syntax, notation, axiom, sorry.
-/
import Derived.Test.YtojhlijcinenoaaGreatDoorRows
import GoSem.ClaimSeven
namespace Go.Proofs.YtojhlijcinenoaaGreatDoor
namespace Rows

/-- THE TIED CARD OF 'stillagelaw07.LogDoes'. -/
def logDoesCard : Claim7 := { stood := { row := logDoesRow, standIns := [], harness := (true, "42cbce285cc4131b8a458ae6fe3aee91cc657d21b9816787b39bd798bc3ef71a"), looks := true }, kinds := [], alts := [], laidByText := true, laidKinds := [.data, .pinned], laidTests := true, laidLooks := .later }
def LogDoesCardSaid : Prop := Claim7.holds Tryz.pinned (.plain (OpenSpec.ofChange logDoesSpec)) logDoesCard

/-- THE SECOND FORM's CARD OF 'stillagelaw07.LogDoes'. -/
def logDoesUptoCard : Claim7 := { stood := { row := logDoesUptoRow, standIns := [], harness := (true, "42cbce285cc4131b8a458ae6fe3aee91cc657d21b9816787b39bd798bc3ef71a"), looks := true }, kinds := [], alts := [], laidByText := true, laidKinds := [.data, .pinned], laidTests := true, laidLooks := .later }
def LogDoesUptoCardSaid : Prop := Claim7.holds Tryz.pinned (.plain (OpenSpec.upto logDoesSpec)) logDoesUptoCard
end Rows
end Go.Proofs.YtojhlijcinenoaaGreatDoor
