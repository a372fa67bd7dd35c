/-
  DERIVED. GIVEN WITH THE SEED: THE CARDS: each row of YteghmnlngkcgiaaDoorRows.lean that lists a variable, with what it lists TIED to the program's text (the seventh form; the later family's looks); each row that meets fmt, with fmt's text TOLD by the authors' own Lean function (tested against real Go, not proved from fmt's source: count such statements apart). THE CARD IS WHAT COUNTS. Prove the row's statement (the work); the ties are given (YteghmnlngkcgiaaDoorTie.lean); close each card by the builder's one call (the guide's Derived/Test/ToyasCard.lean, 'card_holds'). Laid BY PROGRAM, IN A SANDBOX (cutbox-door.mjs). By AI agents, Wed Nov 11 2026. No macro, syntax, notation, axiom, sorry.
-/
import Derived.Test.YteghmnlngkcgiaaDoorRows
import GoSem.ClaimSeven
namespace Go.Proofs.YteghmnlngkcgiaaDoor
namespace Rows

/-- THE TIED CARD OF 'stillagelaw09.PlaneParses'. -/
def planeParsesCard : Claim7 := { stood := { row := planeParsesRow, standIns := [], harness := (true, "839ebb6e3b54a4cdec3e4776e903f388b31ae5b6882fdf8ab670ebcae892b29f"), looks := false }, kinds := [], alts := [], laidByText := true, laidKinds := [.data, .pinned], laidTests := true, laidLooks := .later }
def PlaneParsesCardSaid : Prop := Claim7.holds Tryd.pinned (.plain (OpenSpec.ofChange planeParsesSpec)) planeParsesCard

/-- THE TIED CARD OF 'stillagelaw09.PlaneApart'. -/
def planeApartCard : Claim7 := { stood := { row := planeApartRow, standIns := [], harness := (true, "839ebb6e3b54a4cdec3e4776e903f388b31ae5b6882fdf8ab670ebcae892b29f"), looks := false }, kinds := [], alts := [], laidByText := true, laidKinds := [.data, .pinned], laidTests := true, laidLooks := .later }
def PlaneApartCardSaid : Prop := Claim7.holds Tryd.pinned (.plain (OpenSpec.ofChange planeApartSpec)) planeApartCard

/-- THE TIED CARD OF 'stillagelaw09.PlaneFrees'. -/
def planeFreesCard : Claim7 := { stood := { row := planeFreesRow, standIns := [], harness := (true, "839ebb6e3b54a4cdec3e4776e903f388b31ae5b6882fdf8ab670ebcae892b29f"), looks := false }, kinds := [], alts := [], laidByText := true, laidKinds := [.data, .pinned], laidTests := true, laidLooks := .later }
def PlaneFreesCardSaid : Prop := Claim7.holds Tryd.pinned (.plain (OpenSpec.ofChange planeFreesSpec)) planeFreesCard

/-- THE TIED CARD OF 'stillagelaw09.PlaneDiffs'. -/
def planeDiffsCard : Claim7 := { stood := { row := planeDiffsRow, standIns := [], harness := (true, "839ebb6e3b54a4cdec3e4776e903f388b31ae5b6882fdf8ab670ebcae892b29f"), looks := false }, kinds := [], alts := [], laidByText := true, laidKinds := [.data, .pinned], laidTests := true, laidLooks := .later }
def PlaneDiffsCardSaid : Prop := Claim7.holds Tryd.pinned (.plain (OpenSpec.ofChange planeDiffsSpec)) planeDiffsCard

/-- THE TIED CARD OF 'stillagelaw09.PlaneTexts'. -/
def planeTextsCard : Claim7 := { stood := { row := planeTextsRow, standIns := [], harness := (true, "839ebb6e3b54a4cdec3e4776e903f388b31ae5b6882fdf8ab670ebcae892b29f"), looks := false }, kinds := [], alts := [], laidByText := true, laidKinds := [.data, .pinned], laidTests := true, laidLooks := .later }
def PlaneTextsCardSaid : Prop := Claim7.holds Tryd.pinned (.plain (OpenSpec.ofChange planeTextsSpec)) planeTextsCard

/-- THE TIED CARD OF 'stillagelaw09.PlaneDoes'. -/
def planeDoesCard : Claim7 := { stood := { row := planeDoesRow, standIns := [], harness := (true, "839ebb6e3b54a4cdec3e4776e903f388b31ae5b6882fdf8ab670ebcae892b29f"), looks := false }, kinds := [], alts := [], laidByText := true, laidKinds := [.data, .pinned], laidTests := true, laidLooks := .later }
def PlaneDoesCardSaid : Prop := Claim7.holds Tryd.pinned (.plain (OpenSpec.ofChange planeDoesSpec)) planeDoesCard

/-- THE SECOND FORM's CARD OF 'stillagelaw09.PlaneParses'. -/
def planeParsesUptoCard : Claim7 := { stood := { row := planeParsesUptoRow, standIns := [], harness := (true, "839ebb6e3b54a4cdec3e4776e903f388b31ae5b6882fdf8ab670ebcae892b29f"), looks := false }, kinds := [], alts := [], laidByText := true, laidKinds := [.data, .pinned], laidTests := true, laidLooks := .later }
def PlaneParsesUptoCardSaid : Prop := Claim7.holds Tryd.pinned (.plain (OpenSpec.upto planeParsesSpec)) planeParsesUptoCard

/-- THE SECOND FORM's CARD OF 'stillagelaw09.PlaneApart'. -/
def planeApartUptoCard : Claim7 := { stood := { row := planeApartUptoRow, standIns := [], harness := (true, "839ebb6e3b54a4cdec3e4776e903f388b31ae5b6882fdf8ab670ebcae892b29f"), looks := false }, kinds := [], alts := [], laidByText := true, laidKinds := [.data, .pinned], laidTests := true, laidLooks := .later }
def PlaneApartUptoCardSaid : Prop := Claim7.holds Tryd.pinned (.plain (OpenSpec.upto planeApartSpec)) planeApartUptoCard

/-- THE SECOND FORM's CARD OF 'stillagelaw09.PlaneFrees'. -/
def planeFreesUptoCard : Claim7 := { stood := { row := planeFreesUptoRow, standIns := [], harness := (true, "839ebb6e3b54a4cdec3e4776e903f388b31ae5b6882fdf8ab670ebcae892b29f"), looks := false }, kinds := [], alts := [], laidByText := true, laidKinds := [.data, .pinned], laidTests := true, laidLooks := .later }
def PlaneFreesUptoCardSaid : Prop := Claim7.holds Tryd.pinned (.plain (OpenSpec.upto planeFreesSpec)) planeFreesUptoCard

/-- THE SECOND FORM's CARD OF 'stillagelaw09.PlaneDiffs'. -/
def planeDiffsUptoCard : Claim7 := { stood := { row := planeDiffsUptoRow, standIns := [], harness := (true, "839ebb6e3b54a4cdec3e4776e903f388b31ae5b6882fdf8ab670ebcae892b29f"), looks := false }, kinds := [], alts := [], laidByText := true, laidKinds := [.data, .pinned], laidTests := true, laidLooks := .later }
def PlaneDiffsUptoCardSaid : Prop := Claim7.holds Tryd.pinned (.plain (OpenSpec.upto planeDiffsSpec)) planeDiffsUptoCard

/-- THE SECOND FORM's CARD OF 'stillagelaw09.PlaneTexts'. -/
def planeTextsUptoCard : Claim7 := { stood := { row := planeTextsUptoRow, standIns := [], harness := (true, "839ebb6e3b54a4cdec3e4776e903f388b31ae5b6882fdf8ab670ebcae892b29f"), looks := false }, kinds := [], alts := [], laidByText := true, laidKinds := [.data, .pinned], laidTests := true, laidLooks := .later }
def PlaneTextsUptoCardSaid : Prop := Claim7.holds Tryd.pinned (.plain (OpenSpec.upto planeTextsSpec)) planeTextsUptoCard

/-- THE SECOND FORM's CARD OF 'stillagelaw09.PlaneDoes'. -/
def planeDoesUptoCard : Claim7 := { stood := { row := planeDoesUptoRow, standIns := [], harness := (true, "839ebb6e3b54a4cdec3e4776e903f388b31ae5b6882fdf8ab670ebcae892b29f"), looks := false }, kinds := [], alts := [], laidByText := true, laidKinds := [.data, .pinned], laidTests := true, laidLooks := .later }
def PlaneDoesUptoCardSaid : Prop := Claim7.holds Tryd.pinned (.plain (OpenSpec.upto planeDoesSpec)) planeDoesUptoCard
end Rows
end Go.Proofs.YteghmnlngkcgiaaDoor
