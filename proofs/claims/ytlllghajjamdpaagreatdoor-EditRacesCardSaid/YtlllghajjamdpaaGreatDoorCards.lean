/-
  DERIVED. GIVEN WITH THE SEED: THE CARDS: each row of YtlllghajjamdpaaGreatDoorRows.lean that lists a variable, with what it lists TIED to the program's text (the seventh form; the later family's looks); each row that meets fmt, with fmt's text TOLD by the authors' own Lean function (tested against real Go, not proved from fmt's source: count such statements apart). THE CARD IS WHAT COUNTS. Prove the row's statement (the work); the ties are given (YtlllghajjamdpaaGreatDoorTie.lean); close each card by the builder's one call (the guide's Derived/Test/ToyasCard.lean, 'card_holds'). Laid BY PROGRAM, IN A SANDBOX (cutbox-door.mjs). By AI agents, Wed Nov 11 2026. No macro, syntax, notation, axiom, sorry.
-/
import Derived.Test.YtlllghajjamdpaaGreatDoorRows
import GoSem.ClaimSeven
namespace Go.Proofs.YtlllghajjamdpaaGreatDoor
namespace Rows

/-- THE TIED CARD OF 'lectionarylaw7.EditRaces'. -/
def editRacesCard : Claim7 := { stood := { row := editRacesRow, standIns := [], harness := (true, "8db35497fa351c267564bf55faade4bffc4a09ff9f2ca0bf0327a9c7371ff4d3"), looks := true }, kinds := [], alts := [], laidByText := true, laidKinds := [.data, .pinned], laidTests := true, laidLooks := .later }
def EditRacesCardSaid : Prop := Claim7.holds Tryz.pinned (.plain (OpenSpec.ofChange editRacesSpec)) editRacesCard

/-- THE TIED CARD OF 'lectionarylaw7.EditLands'. -/
def editLandsCard : Claim7 := { stood := { row := editLandsRow, standIns := [], harness := (true, "8db35497fa351c267564bf55faade4bffc4a09ff9f2ca0bf0327a9c7371ff4d3"), looks := true }, kinds := [], alts := [], laidByText := true, laidKinds := [.data, .pinned], laidTests := true, laidLooks := .later }
def EditLandsCardSaid : Prop := Claim7.holds Tryz.pinned (.plain (OpenSpec.ofChange editLandsSpec)) editLandsCard

/-- THE TIED CARD OF 'lectionarylaw7.EditTells'. -/
def editTellsCard : Claim7 := { stood := { row := editTellsRow, standIns := [], harness := (true, "8db35497fa351c267564bf55faade4bffc4a09ff9f2ca0bf0327a9c7371ff4d3"), looks := true }, kinds := [], alts := [], laidByText := true, laidKinds := [.data, .pinned], laidTests := true, laidLooks := .later }
def EditTellsCardSaid : Prop := Claim7.holds Tryz.pinned (.plain (OpenSpec.ofChange editTellsSpec)) editTellsCard

/-- THE TIED CARD OF 'lectionarylaw11.CaretStays'. -/
def caretStaysCard : Claim7 := { stood := { row := caretStaysRow, standIns := [], harness := (true, "8db35497fa351c267564bf55faade4bffc4a09ff9f2ca0bf0327a9c7371ff4d3"), looks := true }, kinds := [], alts := [], laidByText := true, laidKinds := [.data, .pinned], laidTests := true, laidLooks := .later }
def CaretStaysCardSaid : Prop := Claim7.holds Tryz.pinned (.plain (OpenSpec.ofChange caretStaysSpec)) caretStaysCard

/-- THE SECOND FORM's CARD OF 'lectionarylaw7.EditRaces'. -/
def editRacesUptoCard : Claim7 := { stood := { row := editRacesUptoRow, standIns := [], harness := (true, "8db35497fa351c267564bf55faade4bffc4a09ff9f2ca0bf0327a9c7371ff4d3"), looks := true }, kinds := [], alts := [], laidByText := true, laidKinds := [.data, .pinned], laidTests := true, laidLooks := .later }
def EditRacesUptoCardSaid : Prop := Claim7.holds Tryz.pinned (.plain (OpenSpec.upto editRacesSpec)) editRacesUptoCard

/-- THE SECOND FORM's CARD OF 'lectionarylaw7.EditLands'. -/
def editLandsUptoCard : Claim7 := { stood := { row := editLandsUptoRow, standIns := [], harness := (true, "8db35497fa351c267564bf55faade4bffc4a09ff9f2ca0bf0327a9c7371ff4d3"), looks := true }, kinds := [], alts := [], laidByText := true, laidKinds := [.data, .pinned], laidTests := true, laidLooks := .later }
def EditLandsUptoCardSaid : Prop := Claim7.holds Tryz.pinned (.plain (OpenSpec.upto editLandsSpec)) editLandsUptoCard

/-- THE SECOND FORM's CARD OF 'lectionarylaw7.EditTells'. -/
def editTellsUptoCard : Claim7 := { stood := { row := editTellsUptoRow, standIns := [], harness := (true, "8db35497fa351c267564bf55faade4bffc4a09ff9f2ca0bf0327a9c7371ff4d3"), looks := true }, kinds := [], alts := [], laidByText := true, laidKinds := [.data, .pinned], laidTests := true, laidLooks := .later }
def EditTellsUptoCardSaid : Prop := Claim7.holds Tryz.pinned (.plain (OpenSpec.upto editTellsSpec)) editTellsUptoCard

/-- THE SECOND FORM's CARD OF 'lectionarylaw11.CaretStays'. -/
def caretStaysUptoCard : Claim7 := { stood := { row := caretStaysUptoRow, standIns := [], harness := (true, "8db35497fa351c267564bf55faade4bffc4a09ff9f2ca0bf0327a9c7371ff4d3"), looks := true }, kinds := [], alts := [], laidByText := true, laidKinds := [.data, .pinned], laidTests := true, laidLooks := .later }
def CaretStaysUptoCardSaid : Prop := Claim7.holds Tryz.pinned (.plain (OpenSpec.upto caretStaysSpec)) caretStaysUptoCard
end Rows
end Go.Proofs.YtlllghajjamdpaaGreatDoor
