/-
  DERIVED. GIVEN WITH THE SEED: THE CARDS: each row of YtdahgnalojekdaaDoorRows.lean that lists a variable, with what it lists TIED to the program's text (the seventh form; the later family's looks); each row that meets fmt, with fmt's text TOLD by the authors' own Lean function (tested against real Go, not proved from fmt's source: count such statements apart). THE CARD IS WHAT COUNTS. Prove the row's statement (the work); the ties are given (YtdahgnalojekdaaDoorTie.lean); close each card by the builder's one call (the guide's Derived/Test/ToyasCard.lean, 'card_holds'). Laid BY PROGRAM, IN A SANDBOX (cutbox-door.mjs). By AI agents, Wed Nov 11 2026. No macro, syntax, notation, axiom, sorry.
-/
import Derived.Test.YtdahgnalojekdaaDoorRows
import GoSem.ClaimSeven
namespace Go.Proofs.YtdahgnalojekdaaDoor
namespace Rows

/-- THE TIED CARD OF 'lectionarylaw5.TreeLimits'. -/
def treeLimitsCard : Claim7 := { stood := { row := treeLimitsRow, standIns := [], harness := (true, "8dcdfe1c0385412c7d5252390da66c722337fa97ec3c1a5aa0954fea963e2b44"), looks := true }, kinds := [], alts := [], laidByText := true, laidKinds := [.data, .pinned], laidTests := true, laidLooks := .later }
def TreeLimitsCardSaid : Prop := Claim7.holds Tryd.pinned (.plain (OpenSpec.ofChange treeLimitsSpec)) treeLimitsCard

/-- THE TIED CARD OF 'lectionarylaw5.TreeOrders'. -/
def treeOrdersCard : Claim7 := { stood := { row := treeOrdersRow, standIns := [], harness := (true, "8dcdfe1c0385412c7d5252390da66c722337fa97ec3c1a5aa0954fea963e2b44"), looks := true }, kinds := [], alts := [], laidByText := true, laidKinds := [.data, .pinned], laidTests := true, laidLooks := .later }
def TreeOrdersCardSaid : Prop := Claim7.holds Tryd.pinned (.plain (OpenSpec.ofChange treeOrdersSpec)) treeOrdersCard

/-- THE TIED CARD OF 'lectionarylaw5.TreeBegins'. -/
def treeBeginsCard : Claim7 := { stood := { row := treeBeginsRow, standIns := [], harness := (true, "8dcdfe1c0385412c7d5252390da66c722337fa97ec3c1a5aa0954fea963e2b44"), looks := true }, kinds := [], alts := [], laidByText := true, laidKinds := [.data, .pinned], laidTests := true, laidLooks := .later }
def TreeBeginsCardSaid : Prop := Claim7.holds Tryd.pinned (.plain (OpenSpec.ofChange treeBeginsSpec)) treeBeginsCard

/-- THE TIED CARD OF 'lectionarylaw5.TreeChains'. -/
def treeChainsCard : Claim7 := { stood := { row := treeChainsRow, standIns := [], harness := (true, "8dcdfe1c0385412c7d5252390da66c722337fa97ec3c1a5aa0954fea963e2b44"), looks := true }, kinds := [], alts := [], laidByText := true, laidKinds := [.data, .pinned], laidTests := true, laidLooks := .later }
def TreeChainsCardSaid : Prop := Claim7.holds Tryd.pinned (.plain (OpenSpec.ofChange treeChainsSpec)) treeChainsCard

/-- THE TIED CARD OF 'lectionarylaw5.TreeForks'. -/
def treeForksCard : Claim7 := { stood := { row := treeForksRow, standIns := [], harness := (true, "8dcdfe1c0385412c7d5252390da66c722337fa97ec3c1a5aa0954fea963e2b44"), looks := true }, kinds := [], alts := [], laidByText := true, laidKinds := [.data, .pinned], laidTests := true, laidLooks := .later }
def TreeForksCardSaid : Prop := Claim7.holds Tryd.pinned (.plain (OpenSpec.ofChange treeForksSpec)) treeForksCard

/-- THE TIED CARD OF 'lectionarylaw5.TreeMixed'. -/
def treeMixedCard : Claim7 := { stood := { row := treeMixedRow, standIns := [], harness := (true, "8dcdfe1c0385412c7d5252390da66c722337fa97ec3c1a5aa0954fea963e2b44"), looks := true }, kinds := [], alts := [], laidByText := true, laidKinds := [.data, .pinned], laidTests := true, laidLooks := .later }
def TreeMixedCardSaid : Prop := Claim7.holds Tryd.pinned (.plain (OpenSpec.ofChange treeMixedSpec)) treeMixedCard

/-- THE TIED CARD OF 'lectionarylaw6.DocWrites'. -/
def docWritesCard : Claim7 := { stood := { row := docWritesRow, standIns := [], harness := (true, "8dcdfe1c0385412c7d5252390da66c722337fa97ec3c1a5aa0954fea963e2b44"), looks := true }, kinds := [], alts := [], laidByText := true, laidKinds := [.data, .pinned], laidTests := true, laidLooks := .later }
def DocWritesCardSaid : Prop := Claim7.holds Tryd.pinned (.plain (OpenSpec.ofChange docWritesSpec)) docWritesCard

/-- THE TIED CARD OF 'lectionarylaw6.DocGoes'. -/
def docGoesCard : Claim7 := { stood := { row := docGoesRow, standIns := [], harness := (true, "8dcdfe1c0385412c7d5252390da66c722337fa97ec3c1a5aa0954fea963e2b44"), looks := true }, kinds := [], alts := [], laidByText := true, laidKinds := [.data, .pinned], laidTests := true, laidLooks := .later }
def DocGoesCardSaid : Prop := Claim7.holds Tryd.pinned (.plain (OpenSpec.ofChange docGoesSpec)) docGoesCard

/-- THE TIED CARD OF 'lectionarylaw6.DocUndoes'. -/
def docUndoesCard : Claim7 := { stood := { row := docUndoesRow, standIns := [], harness := (true, "8dcdfe1c0385412c7d5252390da66c722337fa97ec3c1a5aa0954fea963e2b44"), looks := true }, kinds := [], alts := [], laidByText := true, laidKinds := [.data, .pinned], laidTests := true, laidLooks := .later }
def DocUndoesCardSaid : Prop := Claim7.holds Tryd.pinned (.plain (OpenSpec.ofChange docUndoesSpec)) docUndoesCard

/-- THE TIED CARD OF 'lectionarylaw6.DocIdles'. -/
def docIdlesCard : Claim7 := { stood := { row := docIdlesRow, standIns := [], harness := (true, "8dcdfe1c0385412c7d5252390da66c722337fa97ec3c1a5aa0954fea963e2b44"), looks := true }, kinds := [], alts := [], laidByText := true, laidKinds := [.data, .pinned], laidTests := true, laidLooks := .later }
def DocIdlesCardSaid : Prop := Claim7.holds Tryd.pinned (.plain (OpenSpec.ofChange docIdlesSpec)) docIdlesCard

/-- THE TIED CARD OF 'lectionarylaw11.CaretDeletes'. -/
def caretDeletesCard : Claim7 := { stood := { row := caretDeletesRow, standIns := [], harness := (true, "8dcdfe1c0385412c7d5252390da66c722337fa97ec3c1a5aa0954fea963e2b44"), looks := true }, kinds := [], alts := [], laidByText := true, laidKinds := [.data, .pinned], laidTests := true, laidLooks := .later }
def CaretDeletesCardSaid : Prop := Claim7.holds Tryd.pinned (.plain (OpenSpec.ofChange caretDeletesSpec)) caretDeletesCard

/-- THE TIED CARD OF 'lectionarylaw11.CaretUndoes'. -/
def caretUndoesCard : Claim7 := { stood := { row := caretUndoesRow, standIns := [], harness := (true, "8dcdfe1c0385412c7d5252390da66c722337fa97ec3c1a5aa0954fea963e2b44"), looks := true }, kinds := [], alts := [], laidByText := true, laidKinds := [.data, .pinned], laidTests := true, laidLooks := .later }
def CaretUndoesCardSaid : Prop := Claim7.holds Tryd.pinned (.plain (OpenSpec.ofChange caretUndoesSpec)) caretUndoesCard

/-- THE TIED CARD OF 'lectionarylaw10.PathPlays'. -/
def pathPlaysCard : Claim7 := { stood := { row := pathPlaysRow, standIns := [], harness := (true, "8dcdfe1c0385412c7d5252390da66c722337fa97ec3c1a5aa0954fea963e2b44"), looks := true }, kinds := [], alts := [], laidByText := true, laidKinds := [.data, .pinned], laidTests := true, laidLooks := .later }
def PathPlaysCardSaid : Prop := Claim7.holds Tryd.pinned (.plain (OpenSpec.ofChange pathPlaysSpec)) pathPlaysCard

/-- THE TIED CARD OF 'lectionarylaw4.OpForms'. -/
def opFormsCard : Claim7 := { stood := { row := opFormsRow, standIns := [], harness := (true, "8dcdfe1c0385412c7d5252390da66c722337fa97ec3c1a5aa0954fea963e2b44"), looks := true }, kinds := [], alts := [], laidByText := true, laidKinds := [.data, .pinned], laidTests := true, laidLooks := .later }
def OpFormsCardSaid : Prop := Claim7.holds Tryd.pinned (.plain (OpenSpec.ofChange opFormsSpec)) opFormsCard

/-- THE TIED CARD OF 'lectionarylaw4.OpTells'. -/
def opTellsCard : Claim7 := { stood := { row := opTellsRow, standIns := [], harness := (true, "8dcdfe1c0385412c7d5252390da66c722337fa97ec3c1a5aa0954fea963e2b44"), looks := true }, kinds := [], alts := [], laidByText := true, laidKinds := [.data, .pinned], laidTests := true, laidLooks := .later }
def OpTellsCardSaid : Prop := Claim7.holds Tryd.pinned (.plain (OpenSpec.ofChange opTellsSpec)) opTellsCard

/-- THE SECOND FORM's CARD OF 'lectionarylaw5.TreeLimits'. -/
def treeLimitsUptoCard : Claim7 := { stood := { row := treeLimitsUptoRow, standIns := [], harness := (true, "8dcdfe1c0385412c7d5252390da66c722337fa97ec3c1a5aa0954fea963e2b44"), looks := true }, kinds := [], alts := [], laidByText := true, laidKinds := [.data, .pinned], laidTests := true, laidLooks := .later }
def TreeLimitsUptoCardSaid : Prop := Claim7.holds Tryd.pinned (.plain (OpenSpec.upto treeLimitsSpec)) treeLimitsUptoCard

/-- THE SECOND FORM's CARD OF 'lectionarylaw5.TreeOrders'. -/
def treeOrdersUptoCard : Claim7 := { stood := { row := treeOrdersUptoRow, standIns := [], harness := (true, "8dcdfe1c0385412c7d5252390da66c722337fa97ec3c1a5aa0954fea963e2b44"), looks := true }, kinds := [], alts := [], laidByText := true, laidKinds := [.data, .pinned], laidTests := true, laidLooks := .later }
def TreeOrdersUptoCardSaid : Prop := Claim7.holds Tryd.pinned (.plain (OpenSpec.upto treeOrdersSpec)) treeOrdersUptoCard

/-- THE SECOND FORM's CARD OF 'lectionarylaw5.TreeBegins'. -/
def treeBeginsUptoCard : Claim7 := { stood := { row := treeBeginsUptoRow, standIns := [], harness := (true, "8dcdfe1c0385412c7d5252390da66c722337fa97ec3c1a5aa0954fea963e2b44"), looks := true }, kinds := [], alts := [], laidByText := true, laidKinds := [.data, .pinned], laidTests := true, laidLooks := .later }
def TreeBeginsUptoCardSaid : Prop := Claim7.holds Tryd.pinned (.plain (OpenSpec.upto treeBeginsSpec)) treeBeginsUptoCard

/-- THE SECOND FORM's CARD OF 'lectionarylaw5.TreeChains'. -/
def treeChainsUptoCard : Claim7 := { stood := { row := treeChainsUptoRow, standIns := [], harness := (true, "8dcdfe1c0385412c7d5252390da66c722337fa97ec3c1a5aa0954fea963e2b44"), looks := true }, kinds := [], alts := [], laidByText := true, laidKinds := [.data, .pinned], laidTests := true, laidLooks := .later }
def TreeChainsUptoCardSaid : Prop := Claim7.holds Tryd.pinned (.plain (OpenSpec.upto treeChainsSpec)) treeChainsUptoCard

/-- THE SECOND FORM's CARD OF 'lectionarylaw5.TreeForks'. -/
def treeForksUptoCard : Claim7 := { stood := { row := treeForksUptoRow, standIns := [], harness := (true, "8dcdfe1c0385412c7d5252390da66c722337fa97ec3c1a5aa0954fea963e2b44"), looks := true }, kinds := [], alts := [], laidByText := true, laidKinds := [.data, .pinned], laidTests := true, laidLooks := .later }
def TreeForksUptoCardSaid : Prop := Claim7.holds Tryd.pinned (.plain (OpenSpec.upto treeForksSpec)) treeForksUptoCard

/-- THE SECOND FORM's CARD OF 'lectionarylaw5.TreeMixed'. -/
def treeMixedUptoCard : Claim7 := { stood := { row := treeMixedUptoRow, standIns := [], harness := (true, "8dcdfe1c0385412c7d5252390da66c722337fa97ec3c1a5aa0954fea963e2b44"), looks := true }, kinds := [], alts := [], laidByText := true, laidKinds := [.data, .pinned], laidTests := true, laidLooks := .later }
def TreeMixedUptoCardSaid : Prop := Claim7.holds Tryd.pinned (.plain (OpenSpec.upto treeMixedSpec)) treeMixedUptoCard

/-- THE SECOND FORM's CARD OF 'lectionarylaw6.DocWrites'. -/
def docWritesUptoCard : Claim7 := { stood := { row := docWritesUptoRow, standIns := [], harness := (true, "8dcdfe1c0385412c7d5252390da66c722337fa97ec3c1a5aa0954fea963e2b44"), looks := true }, kinds := [], alts := [], laidByText := true, laidKinds := [.data, .pinned], laidTests := true, laidLooks := .later }
def DocWritesUptoCardSaid : Prop := Claim7.holds Tryd.pinned (.plain (OpenSpec.upto docWritesSpec)) docWritesUptoCard

/-- THE SECOND FORM's CARD OF 'lectionarylaw6.DocGoes'. -/
def docGoesUptoCard : Claim7 := { stood := { row := docGoesUptoRow, standIns := [], harness := (true, "8dcdfe1c0385412c7d5252390da66c722337fa97ec3c1a5aa0954fea963e2b44"), looks := true }, kinds := [], alts := [], laidByText := true, laidKinds := [.data, .pinned], laidTests := true, laidLooks := .later }
def DocGoesUptoCardSaid : Prop := Claim7.holds Tryd.pinned (.plain (OpenSpec.upto docGoesSpec)) docGoesUptoCard

/-- THE SECOND FORM's CARD OF 'lectionarylaw6.DocUndoes'. -/
def docUndoesUptoCard : Claim7 := { stood := { row := docUndoesUptoRow, standIns := [], harness := (true, "8dcdfe1c0385412c7d5252390da66c722337fa97ec3c1a5aa0954fea963e2b44"), looks := true }, kinds := [], alts := [], laidByText := true, laidKinds := [.data, .pinned], laidTests := true, laidLooks := .later }
def DocUndoesUptoCardSaid : Prop := Claim7.holds Tryd.pinned (.plain (OpenSpec.upto docUndoesSpec)) docUndoesUptoCard

/-- THE SECOND FORM's CARD OF 'lectionarylaw6.DocIdles'. -/
def docIdlesUptoCard : Claim7 := { stood := { row := docIdlesUptoRow, standIns := [], harness := (true, "8dcdfe1c0385412c7d5252390da66c722337fa97ec3c1a5aa0954fea963e2b44"), looks := true }, kinds := [], alts := [], laidByText := true, laidKinds := [.data, .pinned], laidTests := true, laidLooks := .later }
def DocIdlesUptoCardSaid : Prop := Claim7.holds Tryd.pinned (.plain (OpenSpec.upto docIdlesSpec)) docIdlesUptoCard

/-- THE SECOND FORM's CARD OF 'lectionarylaw11.CaretDeletes'. -/
def caretDeletesUptoCard : Claim7 := { stood := { row := caretDeletesUptoRow, standIns := [], harness := (true, "8dcdfe1c0385412c7d5252390da66c722337fa97ec3c1a5aa0954fea963e2b44"), looks := true }, kinds := [], alts := [], laidByText := true, laidKinds := [.data, .pinned], laidTests := true, laidLooks := .later }
def CaretDeletesUptoCardSaid : Prop := Claim7.holds Tryd.pinned (.plain (OpenSpec.upto caretDeletesSpec)) caretDeletesUptoCard

/-- THE SECOND FORM's CARD OF 'lectionarylaw11.CaretUndoes'. -/
def caretUndoesUptoCard : Claim7 := { stood := { row := caretUndoesUptoRow, standIns := [], harness := (true, "8dcdfe1c0385412c7d5252390da66c722337fa97ec3c1a5aa0954fea963e2b44"), looks := true }, kinds := [], alts := [], laidByText := true, laidKinds := [.data, .pinned], laidTests := true, laidLooks := .later }
def CaretUndoesUptoCardSaid : Prop := Claim7.holds Tryd.pinned (.plain (OpenSpec.upto caretUndoesSpec)) caretUndoesUptoCard

/-- THE SECOND FORM's CARD OF 'lectionarylaw10.PathPlays'. -/
def pathPlaysUptoCard : Claim7 := { stood := { row := pathPlaysUptoRow, standIns := [], harness := (true, "8dcdfe1c0385412c7d5252390da66c722337fa97ec3c1a5aa0954fea963e2b44"), looks := true }, kinds := [], alts := [], laidByText := true, laidKinds := [.data, .pinned], laidTests := true, laidLooks := .later }
def PathPlaysUptoCardSaid : Prop := Claim7.holds Tryd.pinned (.plain (OpenSpec.upto pathPlaysSpec)) pathPlaysUptoCard

/-- THE SECOND FORM's CARD OF 'lectionarylaw4.OpForms'. -/
def opFormsUptoCard : Claim7 := { stood := { row := opFormsUptoRow, standIns := [], harness := (true, "8dcdfe1c0385412c7d5252390da66c722337fa97ec3c1a5aa0954fea963e2b44"), looks := true }, kinds := [], alts := [], laidByText := true, laidKinds := [.data, .pinned], laidTests := true, laidLooks := .later }
def OpFormsUptoCardSaid : Prop := Claim7.holds Tryd.pinned (.plain (OpenSpec.upto opFormsSpec)) opFormsUptoCard

/-- THE SECOND FORM's CARD OF 'lectionarylaw4.OpTells'. -/
def opTellsUptoCard : Claim7 := { stood := { row := opTellsUptoRow, standIns := [], harness := (true, "8dcdfe1c0385412c7d5252390da66c722337fa97ec3c1a5aa0954fea963e2b44"), looks := true }, kinds := [], alts := [], laidByText := true, laidKinds := [.data, .pinned], laidTests := true, laidLooks := .later }
def OpTellsUptoCardSaid : Prop := Claim7.holds Tryd.pinned (.plain (OpenSpec.upto opTellsSpec)) opTellsUptoCard
end Rows
end Go.Proofs.YtdahgnalojekdaaDoor
