/-
  DERIVED. GIVEN WITH THE SEED: THE CARDS: each row of YtnbmgljcnbhinaaDoorRows.lean that lists a variable, with what it lists TIED to the program's text (the seventh form; the later family's looks); each row that meets fmt, with fmt's text TOLD by the authors' own Lean function (tested against real Go, not proved from fmt's source: count such statements apart). THE CARD IS WHAT COUNTS. Prove the row's statement (the work); the ties are given (YtnbmgljcnbhinaaDoorTie.lean); close each card by the builder's one call (the guide's Derived/Test/ToyasCard.lean, 'card_holds'). Laid BY PROGRAM, IN A SANDBOX (cutbox-door.mjs). By AI agents, Wed Nov 11 2026. No macro, syntax, notation, axiom, sorry.
-/
import Derived.Test.YtnbmgljcnbhinaaDoorRows
import GoSem.ClaimSeven
namespace Go.Proofs.YtnbmgljcnbhinaaDoor
namespace Rows

/-- THE TIED CARD OF 'marquetrylaw17.RecordsCheck'. -/
def recordsCheckCard : Claim7 := { stood := { row := recordsCheckRow, standIns := [], harness := (true, "bee88b0e208bc4e01983ff7427c934fe6d7f33bb6c54bfdfa939a54515ff341d"), looks := false }, kinds := [], alts := [], laidByText := true, laidKinds := [.data, .pinned], laidTests := true, laidLooks := .later }
def RecordsCheckCardSaid : Prop := Claim7.holds Tryd.pinned (.plain (OpenSpec.ofChange recordsCheckSpec)) recordsCheckCard

/-- THE TIED CARD OF 'marquetrylaw17.RecordsProject'. -/
def recordsProjectCard : Claim7 := { stood := { row := recordsProjectRow, standIns := [], harness := (true, "bee88b0e208bc4e01983ff7427c934fe6d7f33bb6c54bfdfa939a54515ff341d"), looks := false }, kinds := [], alts := [], laidByText := true, laidKinds := [.data, .pinned], laidTests := true, laidLooks := .later }
def RecordsProjectCardSaid : Prop := Claim7.holds Tryd.pinned (.plain (OpenSpec.ofChange recordsProjectSpec)) recordsProjectCard

/-- THE TIED CARD OF 'marquetrylaw17.RecordsText'. -/
def recordsTextCard : Claim7 := { stood := { row := recordsTextRow, standIns := [], harness := (true, "bee88b0e208bc4e01983ff7427c934fe6d7f33bb6c54bfdfa939a54515ff341d"), looks := false }, kinds := [], alts := [], laidByText := true, laidKinds := [.data, .data, .data], laidTests := true, laidLooks := .later }
def RecordsTextCardSaid : Prop := Claim7.holds Tryd.pinned (.plain (OpenSpec.ofChange recordsTextSpec)) recordsTextCard

/-- THE TIED CARD OF 'marquetrylaw17.RecordsCells'. -/
def recordsCellsCard : Claim7 := { stood := { row := recordsCellsRow, standIns := [], harness := (true, "bee88b0e208bc4e01983ff7427c934fe6d7f33bb6c54bfdfa939a54515ff341d"), looks := false }, kinds := [], alts := [], laidByText := true, laidKinds := [.data, .pinned], laidTests := true, laidLooks := .later }
def RecordsCellsCardSaid : Prop := Claim7.holds Tryd.pinned (.plain (OpenSpec.ofChange recordsCellsSpec)) recordsCellsCard

/-- THE SECOND FORM's CARD OF 'marquetrylaw17.RecordsCheck'. -/
def recordsCheckUptoCard : Claim7 := { stood := { row := recordsCheckUptoRow, standIns := [], harness := (true, "bee88b0e208bc4e01983ff7427c934fe6d7f33bb6c54bfdfa939a54515ff341d"), looks := false }, kinds := [], alts := [], laidByText := true, laidKinds := [.data, .pinned], laidTests := true, laidLooks := .later }
def RecordsCheckUptoCardSaid : Prop := Claim7.holds Tryd.pinned (.plain (OpenSpec.upto recordsCheckSpec)) recordsCheckUptoCard

/-- THE SECOND FORM's CARD OF 'marquetrylaw17.RecordsProject'. -/
def recordsProjectUptoCard : Claim7 := { stood := { row := recordsProjectUptoRow, standIns := [], harness := (true, "bee88b0e208bc4e01983ff7427c934fe6d7f33bb6c54bfdfa939a54515ff341d"), looks := false }, kinds := [], alts := [], laidByText := true, laidKinds := [.data, .pinned], laidTests := true, laidLooks := .later }
def RecordsProjectUptoCardSaid : Prop := Claim7.holds Tryd.pinned (.plain (OpenSpec.upto recordsProjectSpec)) recordsProjectUptoCard

/-- THE SECOND FORM's CARD OF 'marquetrylaw17.RecordsText'. -/
def recordsTextUptoCard : Claim7 := { stood := { row := recordsTextUptoRow, standIns := [], harness := (true, "bee88b0e208bc4e01983ff7427c934fe6d7f33bb6c54bfdfa939a54515ff341d"), looks := false }, kinds := [], alts := [], laidByText := true, laidKinds := [.data, .data, .data], laidTests := true, laidLooks := .later }
def RecordsTextUptoCardSaid : Prop := Claim7.holds Tryd.pinned (.plain (OpenSpec.upto recordsTextSpec)) recordsTextUptoCard

/-- THE SECOND FORM's CARD OF 'marquetrylaw17.RecordsCells'. -/
def recordsCellsUptoCard : Claim7 := { stood := { row := recordsCellsUptoRow, standIns := [], harness := (true, "bee88b0e208bc4e01983ff7427c934fe6d7f33bb6c54bfdfa939a54515ff341d"), looks := false }, kinds := [], alts := [], laidByText := true, laidKinds := [.data, .pinned], laidTests := true, laidLooks := .later }
def RecordsCellsUptoCardSaid : Prop := Claim7.holds Tryd.pinned (.plain (OpenSpec.upto recordsCellsSpec)) recordsCellsUptoCard
end Rows
end Go.Proofs.YtnbmgljcnbhinaaDoor
