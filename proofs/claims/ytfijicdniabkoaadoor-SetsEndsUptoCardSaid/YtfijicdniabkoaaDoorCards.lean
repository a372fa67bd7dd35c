/-
  DERIVED. GIVEN WITH THE SEED: THE CARDS: each row of YtfijicdniabkoaaDoorRows.lean that lists a variable, with what it lists TIED to the program's text (the seventh form; the later family's looks); each row that meets fmt, with fmt's text TOLD by the authors' own Lean function (tested against real Go, not proved from fmt's source: count such statements apart). THE CARD IS WHAT COUNTS. Prove the row's statement (the work); the ties are given (YtfijicdniabkoaaDoorTie.lean); close each card by the builder's one call (the guide's Derived/Test/ToyasCard.lean, 'card_holds'). Laid BY PROGRAM, IN A SANDBOX (cutbox-door.mjs). By AI agents, Wed Nov 11 2026. No macro, syntax, notation, axiom, sorry.
-/
import Derived.Test.YtfijicdniabkoaaDoorRows
import GoSem.ClaimSeven
namespace Go.Proofs.YtfijicdniabkoaaDoor
namespace Rows

/-- THE TIED CARD OF 'stillagelaw01.SetsOf'. -/
def setsOfCard : Claim7 := { stood := { row := setsOfRow, standIns := [], harness := (true, "3fac3d3a460abdb10a04482f4150348dcbfba397416eb8b6b7dbff119299a64c"), looks := false }, kinds := [], alts := [], laidByText := true, laidKinds := [.data, .pinned], laidTests := true, laidLooks := .later }
def SetsOfCardSaid : Prop := Claim7.holds Tryd.pinned (.plain (OpenSpec.ofChange setsOfSpec)) setsOfCard

/-- THE TIED CARD OF 'stillagelaw01.SetsTell'. -/
def setsTellCard : Claim7 := { stood := { row := setsTellRow, standIns := [], harness := (true, "3fac3d3a460abdb10a04482f4150348dcbfba397416eb8b6b7dbff119299a64c"), looks := false }, kinds := [], alts := [], laidByText := true, laidKinds := [.data, .pinned], laidTests := true, laidLooks := .later }
def SetsTellCardSaid : Prop := Claim7.holds Tryd.pinned (.plain (OpenSpec.ofChange setsTellSpec)) setsTellCard

/-- THE TIED CARD OF 'stillagelaw01.SetsMake'. -/
def setsMakeCard : Claim7 := { stood := { row := setsMakeRow, standIns := [], harness := (true, "3fac3d3a460abdb10a04482f4150348dcbfba397416eb8b6b7dbff119299a64c"), looks := false }, kinds := [], alts := [], laidByText := true, laidKinds := [.data, .pinned], laidTests := true, laidLooks := .later }
def SetsMakeCardSaid : Prop := Claim7.holds Tryd.pinned (.plain (OpenSpec.ofChange setsMakeSpec)) setsMakeCard

/-- THE TIED CARD OF 'stillagelaw01.SetsSeek'. -/
def setsSeekCard : Claim7 := { stood := { row := setsSeekRow, standIns := [], harness := (true, "3fac3d3a460abdb10a04482f4150348dcbfba397416eb8b6b7dbff119299a64c"), looks := false }, kinds := [], alts := [], laidByText := true, laidKinds := [.data, .pinned], laidTests := true, laidLooks := .later }
def SetsSeekCardSaid : Prop := Claim7.holds Tryd.pinned (.plain (OpenSpec.ofChange setsSeekSpec)) setsSeekCard

/-- THE TIED CARD OF 'stillagelaw01.SetsRules'. -/
def setsRulesCard : Claim7 := { stood := { row := setsRulesRow, standIns := [], harness := (true, "3fac3d3a460abdb10a04482f4150348dcbfba397416eb8b6b7dbff119299a64c"), looks := false }, kinds := [], alts := [], laidByText := true, laidKinds := [.data, .pinned], laidTests := true, laidLooks := .later }
def SetsRulesCardSaid : Prop := Claim7.holds Tryd.pinned (.plain (OpenSpec.ofChange setsRulesSpec)) setsRulesCard

/-- THE TIED CARD OF 'stillagelaw01.SetsBack'. -/
def setsBackCard : Claim7 := { stood := { row := setsBackRow, standIns := [], harness := (true, "3fac3d3a460abdb10a04482f4150348dcbfba397416eb8b6b7dbff119299a64c"), looks := false }, kinds := [], alts := [], laidByText := true, laidKinds := [.data, .pinned], laidTests := true, laidLooks := .later }
def SetsBackCardSaid : Prop := Claim7.holds Tryd.pinned (.plain (OpenSpec.ofChange setsBackSpec)) setsBackCard

/-- THE TIED CARD OF 'stillagelaw01.SetsWalk'. -/
def setsWalkCard : Claim7 := { stood := { row := setsWalkRow, standIns := [], harness := (true, "3fac3d3a460abdb10a04482f4150348dcbfba397416eb8b6b7dbff119299a64c"), looks := false }, kinds := [], alts := [], laidByText := true, laidKinds := [.data, .pinned], laidTests := true, laidLooks := .later }
def SetsWalkCardSaid : Prop := Claim7.holds Tryd.pinned (.plain (OpenSpec.ofChange setsWalkSpec)) setsWalkCard

/-- THE TIED CARD OF 'stillagelaw01.SetsEnds'. -/
def setsEndsCard : Claim7 := { stood := { row := setsEndsRow, standIns := [], harness := (true, "3fac3d3a460abdb10a04482f4150348dcbfba397416eb8b6b7dbff119299a64c"), looks := false }, kinds := [], alts := [], laidByText := true, laidKinds := [.data, .pinned], laidTests := true, laidLooks := .later }
def SetsEndsCardSaid : Prop := Claim7.holds Tryd.pinned (.plain (OpenSpec.ofChange setsEndsSpec)) setsEndsCard

/-- THE TIED CARD OF 'stillagelaw01.SetsFirst'. -/
def setsFirstCard : Claim7 := { stood := { row := setsFirstRow, standIns := [], harness := (true, "3fac3d3a460abdb10a04482f4150348dcbfba397416eb8b6b7dbff119299a64c"), looks := false }, kinds := [], alts := [], laidByText := true, laidKinds := [.data, .pinned], laidTests := true, laidLooks := .later }
def SetsFirstCardSaid : Prop := Claim7.holds Tryd.pinned (.plain (OpenSpec.ofChange setsFirstSpec)) setsFirstCard

/-- THE SECOND FORM's CARD OF 'stillagelaw01.SetsOf'. -/
def setsOfUptoCard : Claim7 := { stood := { row := setsOfUptoRow, standIns := [], harness := (true, "3fac3d3a460abdb10a04482f4150348dcbfba397416eb8b6b7dbff119299a64c"), looks := false }, kinds := [], alts := [], laidByText := true, laidKinds := [.data, .pinned], laidTests := true, laidLooks := .later }
def SetsOfUptoCardSaid : Prop := Claim7.holds Tryd.pinned (.plain (OpenSpec.upto setsOfSpec)) setsOfUptoCard

/-- THE SECOND FORM's CARD OF 'stillagelaw01.SetsTell'. -/
def setsTellUptoCard : Claim7 := { stood := { row := setsTellUptoRow, standIns := [], harness := (true, "3fac3d3a460abdb10a04482f4150348dcbfba397416eb8b6b7dbff119299a64c"), looks := false }, kinds := [], alts := [], laidByText := true, laidKinds := [.data, .pinned], laidTests := true, laidLooks := .later }
def SetsTellUptoCardSaid : Prop := Claim7.holds Tryd.pinned (.plain (OpenSpec.upto setsTellSpec)) setsTellUptoCard

/-- THE SECOND FORM's CARD OF 'stillagelaw01.SetsMake'. -/
def setsMakeUptoCard : Claim7 := { stood := { row := setsMakeUptoRow, standIns := [], harness := (true, "3fac3d3a460abdb10a04482f4150348dcbfba397416eb8b6b7dbff119299a64c"), looks := false }, kinds := [], alts := [], laidByText := true, laidKinds := [.data, .pinned], laidTests := true, laidLooks := .later }
def SetsMakeUptoCardSaid : Prop := Claim7.holds Tryd.pinned (.plain (OpenSpec.upto setsMakeSpec)) setsMakeUptoCard

/-- THE SECOND FORM's CARD OF 'stillagelaw01.SetsSeek'. -/
def setsSeekUptoCard : Claim7 := { stood := { row := setsSeekUptoRow, standIns := [], harness := (true, "3fac3d3a460abdb10a04482f4150348dcbfba397416eb8b6b7dbff119299a64c"), looks := false }, kinds := [], alts := [], laidByText := true, laidKinds := [.data, .pinned], laidTests := true, laidLooks := .later }
def SetsSeekUptoCardSaid : Prop := Claim7.holds Tryd.pinned (.plain (OpenSpec.upto setsSeekSpec)) setsSeekUptoCard

/-- THE SECOND FORM's CARD OF 'stillagelaw01.SetsRules'. -/
def setsRulesUptoCard : Claim7 := { stood := { row := setsRulesUptoRow, standIns := [], harness := (true, "3fac3d3a460abdb10a04482f4150348dcbfba397416eb8b6b7dbff119299a64c"), looks := false }, kinds := [], alts := [], laidByText := true, laidKinds := [.data, .pinned], laidTests := true, laidLooks := .later }
def SetsRulesUptoCardSaid : Prop := Claim7.holds Tryd.pinned (.plain (OpenSpec.upto setsRulesSpec)) setsRulesUptoCard

/-- THE SECOND FORM's CARD OF 'stillagelaw01.SetsBack'. -/
def setsBackUptoCard : Claim7 := { stood := { row := setsBackUptoRow, standIns := [], harness := (true, "3fac3d3a460abdb10a04482f4150348dcbfba397416eb8b6b7dbff119299a64c"), looks := false }, kinds := [], alts := [], laidByText := true, laidKinds := [.data, .pinned], laidTests := true, laidLooks := .later }
def SetsBackUptoCardSaid : Prop := Claim7.holds Tryd.pinned (.plain (OpenSpec.upto setsBackSpec)) setsBackUptoCard

/-- THE SECOND FORM's CARD OF 'stillagelaw01.SetsWalk'. -/
def setsWalkUptoCard : Claim7 := { stood := { row := setsWalkUptoRow, standIns := [], harness := (true, "3fac3d3a460abdb10a04482f4150348dcbfba397416eb8b6b7dbff119299a64c"), looks := false }, kinds := [], alts := [], laidByText := true, laidKinds := [.data, .pinned], laidTests := true, laidLooks := .later }
def SetsWalkUptoCardSaid : Prop := Claim7.holds Tryd.pinned (.plain (OpenSpec.upto setsWalkSpec)) setsWalkUptoCard

/-- THE SECOND FORM's CARD OF 'stillagelaw01.SetsEnds'. -/
def setsEndsUptoCard : Claim7 := { stood := { row := setsEndsUptoRow, standIns := [], harness := (true, "3fac3d3a460abdb10a04482f4150348dcbfba397416eb8b6b7dbff119299a64c"), looks := false }, kinds := [], alts := [], laidByText := true, laidKinds := [.data, .pinned], laidTests := true, laidLooks := .later }
def SetsEndsUptoCardSaid : Prop := Claim7.holds Tryd.pinned (.plain (OpenSpec.upto setsEndsSpec)) setsEndsUptoCard

/-- THE SECOND FORM's CARD OF 'stillagelaw01.SetsFirst'. -/
def setsFirstUptoCard : Claim7 := { stood := { row := setsFirstUptoRow, standIns := [], harness := (true, "3fac3d3a460abdb10a04482f4150348dcbfba397416eb8b6b7dbff119299a64c"), looks := false }, kinds := [], alts := [], laidByText := true, laidKinds := [.data, .pinned], laidTests := true, laidLooks := .later }
def SetsFirstUptoCardSaid : Prop := Claim7.holds Tryd.pinned (.plain (OpenSpec.upto setsFirstSpec)) setsFirstUptoCard
end Rows
end Go.Proofs.YtfijicdniabkoaaDoor
