/-
  DERIVED. GIVEN WITH THE SEED: THE CARDS: each row of YtonoaflfobajcaaGreatDoorRows.lean that lists a variable, with what it lists TIED to the program's text (the seventh form; the later family's looks); each row that meets fmt, with fmt's text TOLD by the authors' own Lean function (tested against real Go, not proved from fmt's source: count such statements apart). THE CARD IS WHAT COUNTS. Prove the row's statement (the work); the ties are given (YtonoaflfobajcaaGreatDoorTie.lean); close each card by the builder's one call (the guide's Derived/Test/ToyasCard.lean, 'card_holds'). Laid BY PROGRAM, IN A SANDBOX (cutbox-door.mjs). By AI agents, Wed Nov 11 2026. No macro, syntax, notation, axiom, sorry.
-/
import Derived.Test.YtonoaflfobajcaaGreatDoorRows
import GoSem.ClaimSeven
namespace Go.Proofs.YtonoaflfobajcaaGreatDoor
namespace Rows

/-- THE TIED CARD OF 'lectionarylaw11.CaretTells'. -/
def caretTellsCard : Claim7 := { stood := { row := caretTellsRow, standIns := [], harness := (true, "962282dc9b1691170f4b0a5b2377b1b20877e0245d34ff4d434d0c0d12509910"), looks := true }, kinds := [], alts := [], laidByText := true, laidKinds := [.data, .pinned], laidTests := true, laidLooks := .later }
def CaretTellsCardSaid : Prop := Claim7.holds Tryz.pinned (.plain (OpenSpec.ofChange caretTellsSpec)) caretTellsCard

/-- THE TIED CARD OF 'lectionarylaw6.DocTells'. -/
def docTellsCard : Claim7 := { stood := { row := docTellsRow, standIns := [], harness := (true, "962282dc9b1691170f4b0a5b2377b1b20877e0245d34ff4d434d0c0d12509910"), looks := true }, kinds := [], alts := [], laidByText := true, laidKinds := [.data, .pinned], laidTests := true, laidLooks := .later }
def DocTellsCardSaid : Prop := Claim7.holds Tryz.pinned (.plain (OpenSpec.ofChange docTellsSpec)) docTellsCard

/-- THE SECOND FORM's CARD OF 'lectionarylaw11.CaretTells'. -/
def caretTellsUptoCard : Claim7 := { stood := { row := caretTellsUptoRow, standIns := [], harness := (true, "962282dc9b1691170f4b0a5b2377b1b20877e0245d34ff4d434d0c0d12509910"), looks := true }, kinds := [], alts := [], laidByText := true, laidKinds := [.data, .pinned], laidTests := true, laidLooks := .later }
def CaretTellsUptoCardSaid : Prop := Claim7.holds Tryz.pinned (.plain (OpenSpec.upto caretTellsSpec)) caretTellsUptoCard

/-- THE SECOND FORM's CARD OF 'lectionarylaw6.DocTells'. -/
def docTellsUptoCard : Claim7 := { stood := { row := docTellsUptoRow, standIns := [], harness := (true, "962282dc9b1691170f4b0a5b2377b1b20877e0245d34ff4d434d0c0d12509910"), looks := true }, kinds := [], alts := [], laidByText := true, laidKinds := [.data, .pinned], laidTests := true, laidLooks := .later }
def DocTellsUptoCardSaid : Prop := Claim7.holds Tryz.pinned (.plain (OpenSpec.upto docTellsSpec)) docTellsUptoCard
end Rows
end Go.Proofs.YtonoaflfobajcaaGreatDoor
