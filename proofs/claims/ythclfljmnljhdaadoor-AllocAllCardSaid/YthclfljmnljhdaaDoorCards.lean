/-
  DERIVED. GIVEN WITH THE SEED: THE CARDS: each row of YthclfljmnljhdaaDoorRows.lean that lists a variable, with what it lists TIED to the program's text (the seventh form; the later family's looks); each row that meets fmt, with fmt's text TOLD by the authors' own Lean function (tested against real Go, not proved from fmt's source: count such statements apart). THE CARD IS WHAT COUNTS. Prove the row's statement (the work); the ties are given (YthclfljmnljhdaaDoorTie.lean); close each card by the builder's one call (the guide's Derived/Test/ToyasCard.lean, 'card_holds'). Laid BY PROGRAM, IN A SANDBOX (cutbox-door.mjs). By AI agents, Wed Nov 11 2026. No macro, syntax, notation, axiom, sorry.
-/
import Derived.Test.YthclfljmnljhdaaDoorRows
import GoSem.ClaimSeven
namespace Go.Proofs.YthclfljmnljhdaaDoor
namespace Rows

/-- THE TIED CARD OF 'stillagelaw10.AllocPicks'. -/
def allocPicksCard : Claim7 := { stood := { row := allocPicksRow, standIns := [], harness := (true, "73b0252524a2f53ce9051224c26813e72c93ebd20f63cf47cb281523071d18a6"), looks := false }, kinds := [], alts := [], laidByText := true, laidKinds := [.data, .pinned], laidTests := true, laidLooks := .later }
def AllocPicksCardSaid : Prop := Claim7.holds Tryd.pinned (.plain (OpenSpec.ofChange allocPicksSpec)) allocPicksCard

/-- THE TIED CARD OF 'stillagelaw10.AllocTakes'. -/
def allocTakesCard : Claim7 := { stood := { row := allocTakesRow, standIns := [], harness := (true, "73b0252524a2f53ce9051224c26813e72c93ebd20f63cf47cb281523071d18a6"), looks := false }, kinds := [], alts := [], laidByText := true, laidKinds := [.data, .pinned], laidTests := true, laidLooks := .later }
def AllocTakesCardSaid : Prop := Claim7.holds Tryd.pinned (.plain (OpenSpec.ofChange allocTakesSpec)) allocTakesCard

/-- THE TIED CARD OF 'stillagelaw10.AllocParts'. -/
def allocPartsCard : Claim7 := { stood := { row := allocPartsRow, standIns := [], harness := (true, "73b0252524a2f53ce9051224c26813e72c93ebd20f63cf47cb281523071d18a6"), looks := false }, kinds := [], alts := [], laidByText := true, laidKinds := [.data, .pinned], laidTests := true, laidLooks := .later }
def AllocPartsCardSaid : Prop := Claim7.holds Tryd.pinned (.plain (OpenSpec.ofChange allocPartsSpec)) allocPartsCard

/-- THE TIED CARD OF 'stillagelaw10.AllocLess'. -/
def allocLessCard : Claim7 := { stood := { row := allocLessRow, standIns := [], harness := (true, "73b0252524a2f53ce9051224c26813e72c93ebd20f63cf47cb281523071d18a6"), looks := false }, kinds := [], alts := [], laidByText := true, laidKinds := [.data, .pinned], laidTests := true, laidLooks := .later }
def AllocLessCardSaid : Prop := Claim7.holds Tryd.pinned (.plain (OpenSpec.ofChange allocLessSpec)) allocLessCard

/-- THE TIED CARD OF 'stillagelaw10.AllocAll'. -/
def allocAllCard : Claim7 := { stood := { row := allocAllRow, standIns := [], harness := (true, "73b0252524a2f53ce9051224c26813e72c93ebd20f63cf47cb281523071d18a6"), looks := false }, kinds := [], alts := [], laidByText := true, laidKinds := [.data, .pinned], laidTests := true, laidLooks := .later }
def AllocAllCardSaid : Prop := Claim7.holds Tryd.pinned (.plain (OpenSpec.ofChange allocAllSpec)) allocAllCard

/-- THE SECOND FORM's CARD OF 'stillagelaw10.AllocPicks'. -/
def allocPicksUptoCard : Claim7 := { stood := { row := allocPicksUptoRow, standIns := [], harness := (true, "73b0252524a2f53ce9051224c26813e72c93ebd20f63cf47cb281523071d18a6"), looks := false }, kinds := [], alts := [], laidByText := true, laidKinds := [.data, .pinned], laidTests := true, laidLooks := .later }
def AllocPicksUptoCardSaid : Prop := Claim7.holds Tryd.pinned (.plain (OpenSpec.upto allocPicksSpec)) allocPicksUptoCard

/-- THE SECOND FORM's CARD OF 'stillagelaw10.AllocTakes'. -/
def allocTakesUptoCard : Claim7 := { stood := { row := allocTakesUptoRow, standIns := [], harness := (true, "73b0252524a2f53ce9051224c26813e72c93ebd20f63cf47cb281523071d18a6"), looks := false }, kinds := [], alts := [], laidByText := true, laidKinds := [.data, .pinned], laidTests := true, laidLooks := .later }
def AllocTakesUptoCardSaid : Prop := Claim7.holds Tryd.pinned (.plain (OpenSpec.upto allocTakesSpec)) allocTakesUptoCard

/-- THE SECOND FORM's CARD OF 'stillagelaw10.AllocParts'. -/
def allocPartsUptoCard : Claim7 := { stood := { row := allocPartsUptoRow, standIns := [], harness := (true, "73b0252524a2f53ce9051224c26813e72c93ebd20f63cf47cb281523071d18a6"), looks := false }, kinds := [], alts := [], laidByText := true, laidKinds := [.data, .pinned], laidTests := true, laidLooks := .later }
def AllocPartsUptoCardSaid : Prop := Claim7.holds Tryd.pinned (.plain (OpenSpec.upto allocPartsSpec)) allocPartsUptoCard

/-- THE SECOND FORM's CARD OF 'stillagelaw10.AllocLess'. -/
def allocLessUptoCard : Claim7 := { stood := { row := allocLessUptoRow, standIns := [], harness := (true, "73b0252524a2f53ce9051224c26813e72c93ebd20f63cf47cb281523071d18a6"), looks := false }, kinds := [], alts := [], laidByText := true, laidKinds := [.data, .pinned], laidTests := true, laidLooks := .later }
def AllocLessUptoCardSaid : Prop := Claim7.holds Tryd.pinned (.plain (OpenSpec.upto allocLessSpec)) allocLessUptoCard

/-- THE SECOND FORM's CARD OF 'stillagelaw10.AllocAll'. -/
def allocAllUptoCard : Claim7 := { stood := { row := allocAllUptoRow, standIns := [], harness := (true, "73b0252524a2f53ce9051224c26813e72c93ebd20f63cf47cb281523071d18a6"), looks := false }, kinds := [], alts := [], laidByText := true, laidKinds := [.data, .pinned], laidTests := true, laidLooks := .later }
def AllocAllUptoCardSaid : Prop := Claim7.holds Tryd.pinned (.plain (OpenSpec.upto allocAllSpec)) allocAllUptoCard
end Rows
end Go.Proofs.YthclfljmnljhdaaDoor
