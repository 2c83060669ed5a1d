/-
  DERIVED. GIVEN WITH THE SEED: THE CARDS: each row of YtonoaflfobajcaaDoorRows.lean that lists a variable, with what it lists TIED to the program's text (the seventh form; the later family's looks); each row that meets fmt, with fmt's text TOLD by the authors' own Lean function (tested against real Go, not proved from fmt's source: count such statements apart). THE CARD IS WHAT COUNTS. Prove the row's statement (the work); the ties are given (YtonoaflfobajcaaDoorTie.lean); close each card by the builder's one call (the guide's Derived/Test/ToyasCard.lean, 'card_holds'). Laid BY PROGRAM, IN A SANDBOX (cutbox-door.mjs). By AI agents, Wed Nov 11 2026. No macro, syntax, notation, axiom, sorry.
-/
import Derived.Test.YtonoaflfobajcaaDoorRows
import GoSem.ClaimSeven
namespace Go.Proofs.YtonoaflfobajcaaDoor
namespace Rows

/-- THE TIED CARD OF 'lectionarylaw5.TreeOrders'. -/
def treeOrdersCard : Claim7 := { stood := { row := treeOrdersRow, standIns := [], harness := (true, "b0d58676ae95982b5cd482921940f486cd51982bec31705095ef0c3cd674cf83"), looks := true }, kinds := [], alts := [], laidByText := true, laidKinds := [.data, .pinned], laidTests := true, laidLooks := .later }
def TreeOrdersCardSaid : Prop := Claim7.holds Tryd.pinned (.plain (OpenSpec.ofChange treeOrdersSpec)) treeOrdersCard

/-- THE TIED CARD OF 'lectionarylaw6.DocWrites'. -/
def docWritesCard : Claim7 := { stood := { row := docWritesRow, standIns := [], harness := (true, "b0d58676ae95982b5cd482921940f486cd51982bec31705095ef0c3cd674cf83"), looks := true }, kinds := [], alts := [], laidByText := true, laidKinds := [.data, .pinned], laidTests := true, laidLooks := .later }
def DocWritesCardSaid : Prop := Claim7.holds Tryd.pinned (.plain (OpenSpec.ofChange docWritesSpec)) docWritesCard

/-- THE TIED CARD OF 'lectionarylaw6.DocGoes'. -/
def docGoesCard : Claim7 := { stood := { row := docGoesRow, standIns := [], harness := (true, "b0d58676ae95982b5cd482921940f486cd51982bec31705095ef0c3cd674cf83"), looks := true }, kinds := [], alts := [], laidByText := true, laidKinds := [.data, .pinned], laidTests := true, laidLooks := .later }
def DocGoesCardSaid : Prop := Claim7.holds Tryd.pinned (.plain (OpenSpec.ofChange docGoesSpec)) docGoesCard

/-- THE TIED CARD OF 'lectionarylaw6.DocUndoes'. -/
def docUndoesCard : Claim7 := { stood := { row := docUndoesRow, standIns := [], harness := (true, "b0d58676ae95982b5cd482921940f486cd51982bec31705095ef0c3cd674cf83"), looks := true }, kinds := [], alts := [], laidByText := true, laidKinds := [.data, .pinned], laidTests := true, laidLooks := .later }
def DocUndoesCardSaid : Prop := Claim7.holds Tryd.pinned (.plain (OpenSpec.ofChange docUndoesSpec)) docUndoesCard

/-- THE TIED CARD OF 'lectionarylaw6.DocIdles'. -/
def docIdlesCard : Claim7 := { stood := { row := docIdlesRow, standIns := [], harness := (true, "b0d58676ae95982b5cd482921940f486cd51982bec31705095ef0c3cd674cf83"), looks := true }, kinds := [], alts := [], laidByText := true, laidKinds := [.data, .pinned], laidTests := true, laidLooks := .later }
def DocIdlesCardSaid : Prop := Claim7.holds Tryd.pinned (.plain (OpenSpec.ofChange docIdlesSpec)) docIdlesCard

/-- THE TIED CARD OF 'lectionarylaw11.CaretDeletes'. -/
def caretDeletesCard : Claim7 := { stood := { row := caretDeletesRow, standIns := [], harness := (true, "b0d58676ae95982b5cd482921940f486cd51982bec31705095ef0c3cd674cf83"), looks := true }, kinds := [], alts := [], laidByText := true, laidKinds := [.data, .pinned], laidTests := true, laidLooks := .later }
def CaretDeletesCardSaid : Prop := Claim7.holds Tryd.pinned (.plain (OpenSpec.ofChange caretDeletesSpec)) caretDeletesCard

/-- THE TIED CARD OF 'lectionarylaw11.CaretUndoes'. -/
def caretUndoesCard : Claim7 := { stood := { row := caretUndoesRow, standIns := [], harness := (true, "b0d58676ae95982b5cd482921940f486cd51982bec31705095ef0c3cd674cf83"), looks := true }, kinds := [], alts := [], laidByText := true, laidKinds := [.data, .pinned], laidTests := true, laidLooks := .later }
def CaretUndoesCardSaid : Prop := Claim7.holds Tryd.pinned (.plain (OpenSpec.ofChange caretUndoesSpec)) caretUndoesCard

/-- THE TIED CARD OF 'lectionarylaw4.OpForms'. -/
def opFormsCard : Claim7 := { stood := { row := opFormsRow, standIns := [], harness := (true, "b0d58676ae95982b5cd482921940f486cd51982bec31705095ef0c3cd674cf83"), looks := true }, kinds := [], alts := [], laidByText := true, laidKinds := [.data, .pinned], laidTests := true, laidLooks := .later }
def OpFormsCardSaid : Prop := Claim7.holds Tryd.pinned (.plain (OpenSpec.ofChange opFormsSpec)) opFormsCard

/-- THE TIED CARD OF 'lectionarylaw4.OpTells'. -/
def opTellsCard : Claim7 := { stood := { row := opTellsRow, standIns := [], harness := (true, "b0d58676ae95982b5cd482921940f486cd51982bec31705095ef0c3cd674cf83"), looks := true }, kinds := [], alts := [], laidByText := true, laidKinds := [.data, .pinned], laidTests := true, laidLooks := .later }
def OpTellsCardSaid : Prop := Claim7.holds Tryd.pinned (.plain (OpenSpec.ofChange opTellsSpec)) opTellsCard

/-- THE SECOND FORM's CARD OF 'lectionarylaw5.TreeOrders'. -/
def treeOrdersUptoCard : Claim7 := { stood := { row := treeOrdersUptoRow, standIns := [], harness := (true, "b0d58676ae95982b5cd482921940f486cd51982bec31705095ef0c3cd674cf83"), looks := true }, kinds := [], alts := [], laidByText := true, laidKinds := [.data, .pinned], laidTests := true, laidLooks := .later }
def TreeOrdersUptoCardSaid : Prop := Claim7.holds Tryd.pinned (.plain (OpenSpec.upto treeOrdersSpec)) treeOrdersUptoCard

/-- THE SECOND FORM's CARD OF 'lectionarylaw6.DocWrites'. -/
def docWritesUptoCard : Claim7 := { stood := { row := docWritesUptoRow, standIns := [], harness := (true, "b0d58676ae95982b5cd482921940f486cd51982bec31705095ef0c3cd674cf83"), looks := true }, kinds := [], alts := [], laidByText := true, laidKinds := [.data, .pinned], laidTests := true, laidLooks := .later }
def DocWritesUptoCardSaid : Prop := Claim7.holds Tryd.pinned (.plain (OpenSpec.upto docWritesSpec)) docWritesUptoCard

/-- THE SECOND FORM's CARD OF 'lectionarylaw6.DocGoes'. -/
def docGoesUptoCard : Claim7 := { stood := { row := docGoesUptoRow, standIns := [], harness := (true, "b0d58676ae95982b5cd482921940f486cd51982bec31705095ef0c3cd674cf83"), looks := true }, kinds := [], alts := [], laidByText := true, laidKinds := [.data, .pinned], laidTests := true, laidLooks := .later }
def DocGoesUptoCardSaid : Prop := Claim7.holds Tryd.pinned (.plain (OpenSpec.upto docGoesSpec)) docGoesUptoCard

/-- THE SECOND FORM's CARD OF 'lectionarylaw6.DocUndoes'. -/
def docUndoesUptoCard : Claim7 := { stood := { row := docUndoesUptoRow, standIns := [], harness := (true, "b0d58676ae95982b5cd482921940f486cd51982bec31705095ef0c3cd674cf83"), looks := true }, kinds := [], alts := [], laidByText := true, laidKinds := [.data, .pinned], laidTests := true, laidLooks := .later }
def DocUndoesUptoCardSaid : Prop := Claim7.holds Tryd.pinned (.plain (OpenSpec.upto docUndoesSpec)) docUndoesUptoCard

/-- THE SECOND FORM's CARD OF 'lectionarylaw6.DocIdles'. -/
def docIdlesUptoCard : Claim7 := { stood := { row := docIdlesUptoRow, standIns := [], harness := (true, "b0d58676ae95982b5cd482921940f486cd51982bec31705095ef0c3cd674cf83"), looks := true }, kinds := [], alts := [], laidByText := true, laidKinds := [.data, .pinned], laidTests := true, laidLooks := .later }
def DocIdlesUptoCardSaid : Prop := Claim7.holds Tryd.pinned (.plain (OpenSpec.upto docIdlesSpec)) docIdlesUptoCard

/-- THE SECOND FORM's CARD OF 'lectionarylaw11.CaretDeletes'. -/
def caretDeletesUptoCard : Claim7 := { stood := { row := caretDeletesUptoRow, standIns := [], harness := (true, "b0d58676ae95982b5cd482921940f486cd51982bec31705095ef0c3cd674cf83"), looks := true }, kinds := [], alts := [], laidByText := true, laidKinds := [.data, .pinned], laidTests := true, laidLooks := .later }
def CaretDeletesUptoCardSaid : Prop := Claim7.holds Tryd.pinned (.plain (OpenSpec.upto caretDeletesSpec)) caretDeletesUptoCard

/-- THE SECOND FORM's CARD OF 'lectionarylaw11.CaretUndoes'. -/
def caretUndoesUptoCard : Claim7 := { stood := { row := caretUndoesUptoRow, standIns := [], harness := (true, "b0d58676ae95982b5cd482921940f486cd51982bec31705095ef0c3cd674cf83"), looks := true }, kinds := [], alts := [], laidByText := true, laidKinds := [.data, .pinned], laidTests := true, laidLooks := .later }
def CaretUndoesUptoCardSaid : Prop := Claim7.holds Tryd.pinned (.plain (OpenSpec.upto caretUndoesSpec)) caretUndoesUptoCard

/-- THE SECOND FORM's CARD OF 'lectionarylaw4.OpForms'. -/
def opFormsUptoCard : Claim7 := { stood := { row := opFormsUptoRow, standIns := [], harness := (true, "b0d58676ae95982b5cd482921940f486cd51982bec31705095ef0c3cd674cf83"), looks := true }, kinds := [], alts := [], laidByText := true, laidKinds := [.data, .pinned], laidTests := true, laidLooks := .later }
def OpFormsUptoCardSaid : Prop := Claim7.holds Tryd.pinned (.plain (OpenSpec.upto opFormsSpec)) opFormsUptoCard

/-- THE SECOND FORM's CARD OF 'lectionarylaw4.OpTells'. -/
def opTellsUptoCard : Claim7 := { stood := { row := opTellsUptoRow, standIns := [], harness := (true, "b0d58676ae95982b5cd482921940f486cd51982bec31705095ef0c3cd674cf83"), looks := true }, kinds := [], alts := [], laidByText := true, laidKinds := [.data, .pinned], laidTests := true, laidLooks := .later }
def OpTellsUptoCardSaid : Prop := Claim7.holds Tryd.pinned (.plain (OpenSpec.upto opTellsSpec)) opTellsUptoCard
end Rows
end Go.Proofs.YtonoaflfobajcaaDoor
