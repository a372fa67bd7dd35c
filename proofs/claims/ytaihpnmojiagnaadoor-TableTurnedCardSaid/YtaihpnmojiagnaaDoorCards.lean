/-
  DERIVED. GIVEN WITH THE SEED: THE CARDS: each row of YtaihpnmojiagnaaDoorRows.lean that lists a variable, with what it lists TIED to the program's text (the seventh form; the later family's looks); each row that meets fmt, with fmt's text TOLD by the authors' own Lean function (tested against real Go, not proved from fmt's source: count such statements apart). THE CARD IS WHAT COUNTS. Prove the row's statement (the work); the ties are given (YtaihpnmojiagnaaDoorTie.lean); close each card by the builder's one call (the guide's Derived/Test/ToyasCard.lean, 'card_holds'). Laid BY PROGRAM, IN A SANDBOX (cutbox-door.mjs). By AI agents, Wed Nov 11 2026. No macro, syntax, notation, axiom, sorry.
-/
import Derived.Test.YtaihpnmojiagnaaDoorRows
import GoSem.ClaimSeven
namespace Go.Proofs.YtaihpnmojiagnaaDoor
namespace Rows

/-- THE TIED CARD OF 'stillagelaw12.TableNames'. -/
def tableNamesCard : Claim7 := { stood := { row := tableNamesRow, standIns := [], harness := (true, "e3763639382950213bb11b452cc9449a877d5e631bdb33d4f5c8a1c787318730"), looks := true }, kinds := [], alts := [], laidByText := true, laidKinds := [.data, .handle, .pinned], laidTests := true, laidLooks := .later }
def TableNamesCardSaid : Prop := Claim7.holds Tryd.pinned (.plain (OpenSpec.ofChange tableNamesSpec)) tableNamesCard

/-- THE TIED CARD OF 'stillagelaw12.TableTurned'. -/
def tableTurnedCard : Claim7 := { stood := { row := tableTurnedRow, standIns := [], harness := (true, "e3763639382950213bb11b452cc9449a877d5e631bdb33d4f5c8a1c787318730"), looks := true }, kinds := [], alts := [], laidByText := true, laidKinds := [.data, .handle, .pinned], laidTests := true, laidLooks := .later }
def TableTurnedCardSaid : Prop := Claim7.holds Tryd.pinned (.plain (OpenSpec.ofChange tableTurnedSpec)) tableTurnedCard

/-- THE TIED CARD OF 'stillagelaw12.TableSizes'. -/
def tableSizesCard : Claim7 := { stood := { row := tableSizesRow, standIns := [], harness := (true, "e3763639382950213bb11b452cc9449a877d5e631bdb33d4f5c8a1c787318730"), looks := true }, kinds := [], alts := [], laidByText := true, laidKinds := [.data, .handle, .pinned], laidTests := true, laidLooks := .later }
def TableSizesCardSaid : Prop := Claim7.holds Tryd.pinned (.plain (OpenSpec.ofChange tableSizesSpec)) tableSizesCard

/-- THE TIED CARD OF 'stillagelaw12.TableBack'. -/
def tableBackCard : Claim7 := { stood := { row := tableBackRow, standIns := [], harness := (true, "e3763639382950213bb11b452cc9449a877d5e631bdb33d4f5c8a1c787318730"), looks := true }, kinds := [], alts := [], laidByText := true, laidKinds := [.data, .handle, .pinned], laidTests := true, laidLooks := .later }
def TableBackCardSaid : Prop := Claim7.holds Tryd.pinned (.plain (OpenSpec.ofChange tableBackSpec)) tableBackCard

/-- THE TIED CARD OF 'stillagelaw12.TableOnly'. -/
def tableOnlyCard : Claim7 := { stood := { row := tableOnlyRow, standIns := [], harness := (true, "e3763639382950213bb11b452cc9449a877d5e631bdb33d4f5c8a1c787318730"), looks := true }, kinds := [], alts := [], laidByText := true, laidKinds := [.data, .handle, .pinned], laidTests := true, laidLooks := .later }
def TableOnlyCardSaid : Prop := Claim7.holds Tryd.pinned (.plain (OpenSpec.ofChange tableOnlySpec)) tableOnlyCard

/-- THE SECOND FORM's CARD OF 'stillagelaw12.TableNames'. -/
def tableNamesUptoCard : Claim7 := { stood := { row := tableNamesUptoRow, standIns := [], harness := (true, "e3763639382950213bb11b452cc9449a877d5e631bdb33d4f5c8a1c787318730"), looks := true }, kinds := [], alts := [], laidByText := true, laidKinds := [.data, .handle, .pinned], laidTests := true, laidLooks := .later }
def TableNamesUptoCardSaid : Prop := Claim7.holds Tryd.pinned (.plain (OpenSpec.upto tableNamesSpec)) tableNamesUptoCard

/-- THE SECOND FORM's CARD OF 'stillagelaw12.TableTurned'. -/
def tableTurnedUptoCard : Claim7 := { stood := { row := tableTurnedUptoRow, standIns := [], harness := (true, "e3763639382950213bb11b452cc9449a877d5e631bdb33d4f5c8a1c787318730"), looks := true }, kinds := [], alts := [], laidByText := true, laidKinds := [.data, .handle, .pinned], laidTests := true, laidLooks := .later }
def TableTurnedUptoCardSaid : Prop := Claim7.holds Tryd.pinned (.plain (OpenSpec.upto tableTurnedSpec)) tableTurnedUptoCard

/-- THE SECOND FORM's CARD OF 'stillagelaw12.TableSizes'. -/
def tableSizesUptoCard : Claim7 := { stood := { row := tableSizesUptoRow, standIns := [], harness := (true, "e3763639382950213bb11b452cc9449a877d5e631bdb33d4f5c8a1c787318730"), looks := true }, kinds := [], alts := [], laidByText := true, laidKinds := [.data, .handle, .pinned], laidTests := true, laidLooks := .later }
def TableSizesUptoCardSaid : Prop := Claim7.holds Tryd.pinned (.plain (OpenSpec.upto tableSizesSpec)) tableSizesUptoCard

/-- THE SECOND FORM's CARD OF 'stillagelaw12.TableBack'. -/
def tableBackUptoCard : Claim7 := { stood := { row := tableBackUptoRow, standIns := [], harness := (true, "e3763639382950213bb11b452cc9449a877d5e631bdb33d4f5c8a1c787318730"), looks := true }, kinds := [], alts := [], laidByText := true, laidKinds := [.data, .handle, .pinned], laidTests := true, laidLooks := .later }
def TableBackUptoCardSaid : Prop := Claim7.holds Tryd.pinned (.plain (OpenSpec.upto tableBackSpec)) tableBackUptoCard

/-- THE SECOND FORM's CARD OF 'stillagelaw12.TableOnly'. -/
def tableOnlyUptoCard : Claim7 := { stood := { row := tableOnlyUptoRow, standIns := [], harness := (true, "e3763639382950213bb11b452cc9449a877d5e631bdb33d4f5c8a1c787318730"), looks := true }, kinds := [], alts := [], laidByText := true, laidKinds := [.data, .handle, .pinned], laidTests := true, laidLooks := .later }
def TableOnlyUptoCardSaid : Prop := Claim7.holds Tryd.pinned (.plain (OpenSpec.upto tableOnlySpec)) tableOnlyUptoCard
end Rows
end Go.Proofs.YtaihpnmojiagnaaDoor
