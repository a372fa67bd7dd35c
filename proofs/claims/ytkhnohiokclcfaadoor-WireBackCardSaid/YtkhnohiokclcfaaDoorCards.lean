/-
  DERIVED. GIVEN WITH THE SEED: THE CARDS: each row of YtkhnohiokclcfaaDoorRows.lean that lists a variable, with what it lists TIED to the program's text (the seventh form; the later family's looks); each row that meets fmt, with fmt's text TOLD by the authors' own Lean function (tested against real Go, not proved from fmt's source: count such statements apart). THE CARD IS WHAT COUNTS. Prove the row's statement (the work); the ties are given (YtkhnohiokclcfaaDoorTie.lean); close each card by the builder's one call (the guide's Derived/Test/ToyasCard.lean, 'card_holds'). Laid BY PROGRAM, IN A SANDBOX (cutbox-door.mjs). By AI agents, Wed Nov 11 2026. No macro, syntax, notation, axiom, sorry.
-/
import Derived.Test.YtkhnohiokclcfaaDoorRows
import GoSem.ClaimSeven
namespace Go.Proofs.YtkhnohiokclcfaaDoor
namespace Rows

/-- THE TIED CARD OF 'stillagelaw03.WireLays'. -/
def wireLaysCard : Claim7 := { stood := { row := wireLaysRow, standIns := [], harness := (true, "fd0238e78196416a9e661367e483e8818995b1792e046d09a89655fdb058f8d8"), looks := true }, kinds := [], alts := [], laidByText := true, laidKinds := [.handle], laidTests := true, laidLooks := .later }
def WireLaysCardSaid : Prop := Claim7.holds Tryd.pinned (.plain (OpenSpec.ofChange wireLaysSpec)) wireLaysCard

/-- THE TIED CARD OF 'stillagelaw03.WireRow'. -/
def wireRowCard : Claim7 := { stood := { row := wireRowRow, standIns := [], harness := (true, "fd0238e78196416a9e661367e483e8818995b1792e046d09a89655fdb058f8d8"), looks := true }, kinds := [], alts := [], laidByText := true, laidKinds := [.handle], laidTests := true, laidLooks := .later }
def WireRowCardSaid : Prop := Claim7.holds Tryd.pinned (.plain (OpenSpec.ofChange wireRowSpec)) wireRowCard

/-- THE TIED CARD OF 'stillagelaw03.WireOnly'. -/
def wireOnlyCard : Claim7 := { stood := { row := wireOnlyRow, standIns := [], harness := (true, "fd0238e78196416a9e661367e483e8818995b1792e046d09a89655fdb058f8d8"), looks := true }, kinds := [], alts := [], laidByText := true, laidKinds := [.handle], laidTests := true, laidLooks := .later }
def WireOnlyCardSaid : Prop := Claim7.holds Tryd.pinned (.plain (OpenSpec.ofChange wireOnlySpec)) wireOnlyCard

/-- THE TIED CARD OF 'stillagelaw03.WireLimits'. -/
def wireLimitsCard : Claim7 := { stood := { row := wireLimitsRow, standIns := [], harness := (true, "fd0238e78196416a9e661367e483e8818995b1792e046d09a89655fdb058f8d8"), looks := true }, kinds := [], alts := [], laidByText := true, laidKinds := [.handle], laidTests := true, laidLooks := .later }
def WireLimitsCardSaid : Prop := Claim7.holds Tryd.pinned (.plain (OpenSpec.ofChange wireLimitsSpec)) wireLimitsCard

/-- THE TIED CARD OF 'stillagelaw03.WireCut'. -/
def wireCutCard : Claim7 := { stood := { row := wireCutRow, standIns := [], harness := (true, "fd0238e78196416a9e661367e483e8818995b1792e046d09a89655fdb058f8d8"), looks := true }, kinds := [], alts := [], laidByText := true, laidKinds := [.handle], laidTests := true, laidLooks := .later }
def WireCutCardSaid : Prop := Claim7.holds Tryd.pinned (.plain (OpenSpec.ofChange wireCutSpec)) wireCutCard

/-- THE TIED CARD OF 'stillagelaw03.WireReads'. -/
def wireReadsCard : Claim7 := { stood := { row := wireReadsRow, standIns := [], harness := (true, "fd0238e78196416a9e661367e483e8818995b1792e046d09a89655fdb058f8d8"), looks := true }, kinds := [], alts := [], laidByText := true, laidKinds := [.handle], laidTests := true, laidLooks := .later }
def WireReadsCardSaid : Prop := Claim7.holds Tryd.pinned (.plain (OpenSpec.ofChange wireReadsSpec)) wireReadsCard

/-- THE TIED CARD OF 'stillagelaw03.WireBack'. -/
def wireBackCard : Claim7 := { stood := { row := wireBackRow, standIns := [], harness := (true, "fd0238e78196416a9e661367e483e8818995b1792e046d09a89655fdb058f8d8"), looks := true }, kinds := [], alts := [], laidByText := true, laidKinds := [.handle], laidTests := true, laidLooks := .later }
def WireBackCardSaid : Prop := Claim7.holds Tryd.pinned (.plain (OpenSpec.ofChange wireBackSpec)) wireBackCard

/-- THE TIED CARD OF 'stillagelaw03.WireLatched'. -/
def wireLatchedCard : Claim7 := { stood := { row := wireLatchedRow, standIns := [], harness := (true, "fd0238e78196416a9e661367e483e8818995b1792e046d09a89655fdb058f8d8"), looks := true }, kinds := [], alts := [], laidByText := true, laidKinds := [.handle], laidTests := true, laidLooks := .later }
def WireLatchedCardSaid : Prop := Claim7.holds Tryd.pinned (.plain (OpenSpec.ofChange wireLatchedSpec)) wireLatchedCard

/-- THE SECOND FORM's CARD OF 'stillagelaw03.WireLays'. -/
def wireLaysUptoCard : Claim7 := { stood := { row := wireLaysUptoRow, standIns := [], harness := (true, "fd0238e78196416a9e661367e483e8818995b1792e046d09a89655fdb058f8d8"), looks := true }, kinds := [], alts := [], laidByText := true, laidKinds := [.handle], laidTests := true, laidLooks := .later }
def WireLaysUptoCardSaid : Prop := Claim7.holds Tryd.pinned (.plain (OpenSpec.upto wireLaysSpec)) wireLaysUptoCard

/-- THE SECOND FORM's CARD OF 'stillagelaw03.WireRow'. -/
def wireRowUptoCard : Claim7 := { stood := { row := wireRowUptoRow, standIns := [], harness := (true, "fd0238e78196416a9e661367e483e8818995b1792e046d09a89655fdb058f8d8"), looks := true }, kinds := [], alts := [], laidByText := true, laidKinds := [.handle], laidTests := true, laidLooks := .later }
def WireRowUptoCardSaid : Prop := Claim7.holds Tryd.pinned (.plain (OpenSpec.upto wireRowSpec)) wireRowUptoCard

/-- THE SECOND FORM's CARD OF 'stillagelaw03.WireOnly'. -/
def wireOnlyUptoCard : Claim7 := { stood := { row := wireOnlyUptoRow, standIns := [], harness := (true, "fd0238e78196416a9e661367e483e8818995b1792e046d09a89655fdb058f8d8"), looks := true }, kinds := [], alts := [], laidByText := true, laidKinds := [.handle], laidTests := true, laidLooks := .later }
def WireOnlyUptoCardSaid : Prop := Claim7.holds Tryd.pinned (.plain (OpenSpec.upto wireOnlySpec)) wireOnlyUptoCard

/-- THE SECOND FORM's CARD OF 'stillagelaw03.WireLimits'. -/
def wireLimitsUptoCard : Claim7 := { stood := { row := wireLimitsUptoRow, standIns := [], harness := (true, "fd0238e78196416a9e661367e483e8818995b1792e046d09a89655fdb058f8d8"), looks := true }, kinds := [], alts := [], laidByText := true, laidKinds := [.handle], laidTests := true, laidLooks := .later }
def WireLimitsUptoCardSaid : Prop := Claim7.holds Tryd.pinned (.plain (OpenSpec.upto wireLimitsSpec)) wireLimitsUptoCard

/-- THE SECOND FORM's CARD OF 'stillagelaw03.WireCut'. -/
def wireCutUptoCard : Claim7 := { stood := { row := wireCutUptoRow, standIns := [], harness := (true, "fd0238e78196416a9e661367e483e8818995b1792e046d09a89655fdb058f8d8"), looks := true }, kinds := [], alts := [], laidByText := true, laidKinds := [.handle], laidTests := true, laidLooks := .later }
def WireCutUptoCardSaid : Prop := Claim7.holds Tryd.pinned (.plain (OpenSpec.upto wireCutSpec)) wireCutUptoCard

/-- THE SECOND FORM's CARD OF 'stillagelaw03.WireReads'. -/
def wireReadsUptoCard : Claim7 := { stood := { row := wireReadsUptoRow, standIns := [], harness := (true, "fd0238e78196416a9e661367e483e8818995b1792e046d09a89655fdb058f8d8"), looks := true }, kinds := [], alts := [], laidByText := true, laidKinds := [.handle], laidTests := true, laidLooks := .later }
def WireReadsUptoCardSaid : Prop := Claim7.holds Tryd.pinned (.plain (OpenSpec.upto wireReadsSpec)) wireReadsUptoCard

/-- THE SECOND FORM's CARD OF 'stillagelaw03.WireBack'. -/
def wireBackUptoCard : Claim7 := { stood := { row := wireBackUptoRow, standIns := [], harness := (true, "fd0238e78196416a9e661367e483e8818995b1792e046d09a89655fdb058f8d8"), looks := true }, kinds := [], alts := [], laidByText := true, laidKinds := [.handle], laidTests := true, laidLooks := .later }
def WireBackUptoCardSaid : Prop := Claim7.holds Tryd.pinned (.plain (OpenSpec.upto wireBackSpec)) wireBackUptoCard

/-- THE SECOND FORM's CARD OF 'stillagelaw03.WireLatched'. -/
def wireLatchedUptoCard : Claim7 := { stood := { row := wireLatchedUptoRow, standIns := [], harness := (true, "fd0238e78196416a9e661367e483e8818995b1792e046d09a89655fdb058f8d8"), looks := true }, kinds := [], alts := [], laidByText := true, laidKinds := [.handle], laidTests := true, laidLooks := .later }
def WireLatchedUptoCardSaid : Prop := Claim7.holds Tryd.pinned (.plain (OpenSpec.upto wireLatchedSpec)) wireLatchedUptoCard
end Rows
end Go.Proofs.YtkhnohiokclcfaaDoor
