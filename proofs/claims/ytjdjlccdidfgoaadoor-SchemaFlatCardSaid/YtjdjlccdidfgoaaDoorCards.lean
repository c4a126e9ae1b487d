/-
  DERIVED. GIVEN WITH THE SEED: THE CARDS: each row of YtjdjlccdidfgoaaDoorRows.lean that lists a variable, with what it lists TIED to the program's text (the seventh form; the later family's looks); each row that meets fmt, with fmt's text TOLD by the authors' own Lean function (tested against real Go, not proved from fmt's source: count such statements apart). THE CARD IS WHAT COUNTS. Prove the row's statement (the work); the ties are given (YtjdjlccdidfgoaaDoorTie.lean); close each card by the builder's one call (the guide's Derived/Test/ToyasCard.lean, 'card_holds'). Laid BY PROGRAM, IN A SANDBOX (cutbox-door.mjs). By AI agents, Wed Nov 11 2026. No macro, syntax, notation, axiom, sorry.
-/
import Derived.Test.YtjdjlccdidfgoaaDoorRows
import GoSem.ClaimSeven
namespace Go.Proofs.YtjdjlccdidfgoaaDoor
namespace Rows

/-- THE TIED CARD OF 'marquetrylaw16.SchemaCheck'. -/
def schemaCheckCard : Claim7 := { stood := { row := schemaCheckRow, standIns := [], harness := (true, "d02396ac70c7156be0a0c67680101f7e84f6fd392ba84f6e86270b754aa86152"), looks := true }, kinds := [], alts := [], laidByText := true, laidKinds := [.data, .pinned], laidTests := true, laidLooks := .later }
def SchemaCheckCardSaid : Prop := Claim7.holds Tryd.pinned (.plain (OpenSpec.ofChange schemaCheckSpec)) schemaCheckCard

/-- THE TIED CARD OF 'marquetrylaw16.SchemaTree'. -/
def schemaTreeCard : Claim7 := { stood := { row := schemaTreeRow, standIns := [], harness := (true, "d02396ac70c7156be0a0c67680101f7e84f6fd392ba84f6e86270b754aa86152"), looks := true }, kinds := [], alts := [], laidByText := true, laidKinds := [.data, .pinned], laidTests := true, laidLooks := .later }
def SchemaTreeCardSaid : Prop := Claim7.holds Tryd.pinned (.plain (OpenSpec.ofChange schemaTreeSpec)) schemaTreeCard

/-- THE TIED CARD OF 'marquetrylaw16.SchemaFlat'. -/
def schemaFlatCard : Claim7 := { stood := { row := schemaFlatRow, standIns := [], harness := (true, "d02396ac70c7156be0a0c67680101f7e84f6fd392ba84f6e86270b754aa86152"), looks := true }, kinds := [], alts := [], laidByText := true, laidKinds := [.data, .pinned], laidTests := true, laidLooks := .later }
def SchemaFlatCardSaid : Prop := Claim7.holds Tryd.pinned (.plain (OpenSpec.ofChange schemaFlatSpec)) schemaFlatCard

/-- THE TIED CARD OF 'marquetrylaw16.SchemaLeaves'. -/
def schemaLeavesCard : Claim7 := { stood := { row := schemaLeavesRow, standIns := [], harness := (true, "d02396ac70c7156be0a0c67680101f7e84f6fd392ba84f6e86270b754aa86152"), looks := true }, kinds := [], alts := [], laidByText := true, laidKinds := [.data, .pinned], laidTests := true, laidLooks := .later }
def SchemaLeavesCardSaid : Prop := Claim7.holds Tryd.pinned (.plain (OpenSpec.ofChange schemaLeavesSpec)) schemaLeavesCard

/-- THE TIED CARD OF 'marquetrylaw16.SchemaProject'. -/
def schemaProjectCard : Claim7 := { stood := { row := schemaProjectRow, standIns := [], harness := (true, "d02396ac70c7156be0a0c67680101f7e84f6fd392ba84f6e86270b754aa86152"), looks := true }, kinds := [], alts := [], laidByText := true, laidKinds := [.data, .pinned], laidTests := true, laidLooks := .later }
def SchemaProjectCardSaid : Prop := Claim7.holds Tryd.pinned (.plain (OpenSpec.ofChange schemaProjectSpec)) schemaProjectCard

/-- THE SECOND FORM's CARD OF 'marquetrylaw16.SchemaCheck'. -/
def schemaCheckUptoCard : Claim7 := { stood := { row := schemaCheckUptoRow, standIns := [], harness := (true, "d02396ac70c7156be0a0c67680101f7e84f6fd392ba84f6e86270b754aa86152"), looks := true }, kinds := [], alts := [], laidByText := true, laidKinds := [.data, .pinned], laidTests := true, laidLooks := .later }
def SchemaCheckUptoCardSaid : Prop := Claim7.holds Tryd.pinned (.plain (OpenSpec.upto schemaCheckSpec)) schemaCheckUptoCard

/-- THE SECOND FORM's CARD OF 'marquetrylaw16.SchemaTree'. -/
def schemaTreeUptoCard : Claim7 := { stood := { row := schemaTreeUptoRow, standIns := [], harness := (true, "d02396ac70c7156be0a0c67680101f7e84f6fd392ba84f6e86270b754aa86152"), looks := true }, kinds := [], alts := [], laidByText := true, laidKinds := [.data, .pinned], laidTests := true, laidLooks := .later }
def SchemaTreeUptoCardSaid : Prop := Claim7.holds Tryd.pinned (.plain (OpenSpec.upto schemaTreeSpec)) schemaTreeUptoCard

/-- THE SECOND FORM's CARD OF 'marquetrylaw16.SchemaFlat'. -/
def schemaFlatUptoCard : Claim7 := { stood := { row := schemaFlatUptoRow, standIns := [], harness := (true, "d02396ac70c7156be0a0c67680101f7e84f6fd392ba84f6e86270b754aa86152"), looks := true }, kinds := [], alts := [], laidByText := true, laidKinds := [.data, .pinned], laidTests := true, laidLooks := .later }
def SchemaFlatUptoCardSaid : Prop := Claim7.holds Tryd.pinned (.plain (OpenSpec.upto schemaFlatSpec)) schemaFlatUptoCard

/-- THE SECOND FORM's CARD OF 'marquetrylaw16.SchemaLeaves'. -/
def schemaLeavesUptoCard : Claim7 := { stood := { row := schemaLeavesUptoRow, standIns := [], harness := (true, "d02396ac70c7156be0a0c67680101f7e84f6fd392ba84f6e86270b754aa86152"), looks := true }, kinds := [], alts := [], laidByText := true, laidKinds := [.data, .pinned], laidTests := true, laidLooks := .later }
def SchemaLeavesUptoCardSaid : Prop := Claim7.holds Tryd.pinned (.plain (OpenSpec.upto schemaLeavesSpec)) schemaLeavesUptoCard

/-- THE SECOND FORM's CARD OF 'marquetrylaw16.SchemaProject'. -/
def schemaProjectUptoCard : Claim7 := { stood := { row := schemaProjectUptoRow, standIns := [], harness := (true, "d02396ac70c7156be0a0c67680101f7e84f6fd392ba84f6e86270b754aa86152"), looks := true }, kinds := [], alts := [], laidByText := true, laidKinds := [.data, .pinned], laidTests := true, laidLooks := .later }
def SchemaProjectUptoCardSaid : Prop := Claim7.holds Tryd.pinned (.plain (OpenSpec.upto schemaProjectSpec)) schemaProjectUptoCard
end Rows
end Go.Proofs.YtjdjlccdidfgoaaDoor
