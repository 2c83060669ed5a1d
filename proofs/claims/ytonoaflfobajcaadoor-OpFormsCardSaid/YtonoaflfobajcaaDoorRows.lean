/-
  NARROWER THAN 'FOR EVERY INPUT', by the rows' own cells (each row's printed sentence says how): TreeOrders: laid · DocWrites: laid · DocGoes: laid · DocUndoes: laid · DocIdles: laid · CaretDeletes: laid · CaretUndoes: laid · OpForms: laid · OpTells: laid.
  DERIVED. THE GIVEN ROWS OF THIS SEAT. 9 by the template 'for every input the law returns true; each argument reads behind the call as it read before'; 0 by the template 'total and deterministic' (their statements: YtonoaflfobajcaaDoorTotals.lean).
  GIVEN WITH THE SEED: the statements are not yours to turn. If you find one false, say at which input.
  Laid BY PROGRAM, IN A SANDBOX (cutbox-rows.mjs): the forced cells as the released guide's own fill.sh prints them over the translation 441752533658d57d… (all of the seat's roots in one cut). By AI agents, Wed Nov 11 2026. No macro, syntax, notation, axiom, sorry.
-/
import Derived.Test.YtonoaflfobajcaaDoorChecked
import GoSem.PinnedTables
import GoSem.Claim
import GoSem.ClaimJoined
import GoSem.ClaimMapViews
import Derived.JoinedTies
import Derived.KernelRfl
namespace Go.Proofs.YtonoaflfobajcaaDoor
/- THE CELL 'sum', in the pinned program and in every row, IS THE sha256 OF THE DUMP (.gsa) THAT YtonoaflfobajcaaDoorProg.lean LOADS. Nothing in Lean hashes anything: it is a label: what it is worth is what the hold of that sum in a sandbox is worth. -/
noncomputable def Tryd.pinned : Pinned := { name := "ytonoaflfobajcaadoor", sum := "441752533658d57d67b47f61052feb2fcfe21b5c586f17b606d0dcc30f43acd8", checked := Tryd.checked }
namespace Rows
def none {H : Type} : Left H := { results := [], args := [] }

/- WHAT THE LISTED PACKAGE-LEVEL VARIABLES READ AS WHEN THE CALL BEGINS. Each datum BY PROGRAM (the guide's laid-datum.mjs) off the statement by which the dump's own 'gosem.cut.vars' lays the variable. In a bare row this is a premise. The card (YtonoaflfobajcaaDoorCards.lean) ties it to the program's text. -/
def laid_unicode_utf8_acceptRanges {H : Type} : DataW H := .agg [.agg [.lit (.int .u8 128), .lit (.int .u8 191)], .agg [.lit (.int .u8 160), .lit (.int .u8 191)], .agg [.lit (.int .u8 128), .lit (.int .u8 159)], .agg [.lit (.int .u8 144), .lit (.int .u8 191)], .agg [.lit (.int .u8 128), .lit (.int .u8 143)], .agg [.lit (.int .u8 0), .lit (.int .u8 0)], .agg [.lit (.int .u8 0), .lit (.int .u8 0)], .agg [.lit (.int .u8 0), .lit (.int .u8 0)], .agg [.lit (.int .u8 0), .lit (.int .u8 0)], .agg [.lit (.int .u8 0), .lit (.int .u8 0)], .agg [.lit (.int .u8 0), .lit (.int .u8 0)], .agg [.lit (.int .u8 0), .lit (.int .u8 0)], .agg [.lit (.int .u8 0), .lit (.int .u8 0)], .agg [.lit (.int .u8 0), .lit (.int .u8 0)], .agg [.lit (.int .u8 0), .lit (.int .u8 0)], .agg [.lit (.int .u8 0), .lit (.int .u8 0)]]
/-- One of Go's own tables, pinned by name: the form's constant. -/
def laid_unicode_utf8_first : DataW Unit := Go.Pinned.utf8First

/-- 'lectionarylaw5.TreeOrders': WHATEVER THE INPUT: true; the input reads as it did. -/
def treeOrdersSpec : ChangeSpec := { name := "treeOrders", fn := fun _ => fun
  | [d] => { results := [.lit (.bool true)], args := [d] }
  | _ => none }
def treeOrdersRow : OpenClaim := { program := "ytonoaflfobajcaadoor", sum := "441752533658d57d67b47f61052feb2fcfe21b5c586f17b606d0dcc30f43acd8", func := "lectionary/lectionarylaw5.TreeOrders", spec := "treeOrders", unfollowed := true, recurses := true, named := ["unicode/utf8.first", "unicode/utf8.acceptRanges"], plainKeys := false, apart := false, laid := [("unicode/utf8.acceptRanges", laid_unicode_utf8_acceptRanges), ("unicode/utf8.first", laid_unicode_utf8_first)] }
def TreeOrdersSaid : Prop := treeOrdersRow.holds Tryd.pinned (OpenSpec.ofChange treeOrdersSpec)

/-- ITS FALSE NEIGHBOUR: 'it returns false'. Refute it at one input. -/
def treeOrdersWrong : ChangeSpec := { name := "treeOrders", fn := fun _ => fun
  | [d] => { results := [.lit (.bool false)], args := [d] }
  | _ => none }
def TreeOrdersWrongFalsely : Prop := treeOrdersRow.holds Tryd.pinned (OpenSpec.ofChange treeOrdersWrong)

/-- 'lectionarylaw6.DocWrites': WHATEVER THE INPUT: true; the input reads as it did. -/
def docWritesSpec : ChangeSpec := { name := "docWrites", fn := fun _ => fun
  | [d] => { results := [.lit (.bool true)], args := [d] }
  | _ => none }
def docWritesRow : OpenClaim := { program := "ytonoaflfobajcaadoor", sum := "441752533658d57d67b47f61052feb2fcfe21b5c586f17b606d0dcc30f43acd8", func := "lectionary/lectionarylaw6.DocWrites", spec := "docWrites", unfollowed := true, recurses := true, named := ["unicode/utf8.first", "unicode/utf8.acceptRanges"], plainKeys := false, apart := false, laid := [("unicode/utf8.acceptRanges", laid_unicode_utf8_acceptRanges), ("unicode/utf8.first", laid_unicode_utf8_first)] }
def DocWritesSaid : Prop := docWritesRow.holds Tryd.pinned (OpenSpec.ofChange docWritesSpec)

/-- ITS FALSE NEIGHBOUR: 'it returns false'. Refute it at one input. -/
def docWritesWrong : ChangeSpec := { name := "docWrites", fn := fun _ => fun
  | [d] => { results := [.lit (.bool false)], args := [d] }
  | _ => none }
def DocWritesWrongFalsely : Prop := docWritesRow.holds Tryd.pinned (OpenSpec.ofChange docWritesWrong)

/-- 'lectionarylaw6.DocGoes': WHATEVER THE INPUT: true; the input reads as it did. -/
def docGoesSpec : ChangeSpec := { name := "docGoes", fn := fun _ => fun
  | [d] => { results := [.lit (.bool true)], args := [d] }
  | _ => none }
def docGoesRow : OpenClaim := { program := "ytonoaflfobajcaadoor", sum := "441752533658d57d67b47f61052feb2fcfe21b5c586f17b606d0dcc30f43acd8", func := "lectionary/lectionarylaw6.DocGoes", spec := "docGoes", unfollowed := true, recurses := true, named := ["unicode/utf8.first", "unicode/utf8.acceptRanges"], plainKeys := false, apart := false, laid := [("unicode/utf8.acceptRanges", laid_unicode_utf8_acceptRanges), ("unicode/utf8.first", laid_unicode_utf8_first)] }
def DocGoesSaid : Prop := docGoesRow.holds Tryd.pinned (OpenSpec.ofChange docGoesSpec)

/-- ITS FALSE NEIGHBOUR: 'it returns false'. Refute it at one input. -/
def docGoesWrong : ChangeSpec := { name := "docGoes", fn := fun _ => fun
  | [d] => { results := [.lit (.bool false)], args := [d] }
  | _ => none }
def DocGoesWrongFalsely : Prop := docGoesRow.holds Tryd.pinned (OpenSpec.ofChange docGoesWrong)

/-- 'lectionarylaw6.DocUndoes': WHATEVER THE INPUT: true; the input reads as it did. -/
def docUndoesSpec : ChangeSpec := { name := "docUndoes", fn := fun _ => fun
  | [d] => { results := [.lit (.bool true)], args := [d] }
  | _ => none }
def docUndoesRow : OpenClaim := { program := "ytonoaflfobajcaadoor", sum := "441752533658d57d67b47f61052feb2fcfe21b5c586f17b606d0dcc30f43acd8", func := "lectionary/lectionarylaw6.DocUndoes", spec := "docUndoes", unfollowed := true, recurses := true, named := ["unicode/utf8.first", "unicode/utf8.acceptRanges"], plainKeys := false, apart := false, laid := [("unicode/utf8.acceptRanges", laid_unicode_utf8_acceptRanges), ("unicode/utf8.first", laid_unicode_utf8_first)] }
def DocUndoesSaid : Prop := docUndoesRow.holds Tryd.pinned (OpenSpec.ofChange docUndoesSpec)

/-- ITS FALSE NEIGHBOUR: 'it returns false'. Refute it at one input. -/
def docUndoesWrong : ChangeSpec := { name := "docUndoes", fn := fun _ => fun
  | [d] => { results := [.lit (.bool false)], args := [d] }
  | _ => none }
def DocUndoesWrongFalsely : Prop := docUndoesRow.holds Tryd.pinned (OpenSpec.ofChange docUndoesWrong)

/-- 'lectionarylaw6.DocIdles': WHATEVER THE INPUT: true; the input reads as it did. -/
def docIdlesSpec : ChangeSpec := { name := "docIdles", fn := fun _ => fun
  | [d] => { results := [.lit (.bool true)], args := [d] }
  | _ => none }
def docIdlesRow : OpenClaim := { program := "ytonoaflfobajcaadoor", sum := "441752533658d57d67b47f61052feb2fcfe21b5c586f17b606d0dcc30f43acd8", func := "lectionary/lectionarylaw6.DocIdles", spec := "docIdles", unfollowed := true, recurses := true, named := ["unicode/utf8.first", "unicode/utf8.acceptRanges"], plainKeys := false, apart := false, laid := [("unicode/utf8.acceptRanges", laid_unicode_utf8_acceptRanges), ("unicode/utf8.first", laid_unicode_utf8_first)] }
def DocIdlesSaid : Prop := docIdlesRow.holds Tryd.pinned (OpenSpec.ofChange docIdlesSpec)

/-- ITS FALSE NEIGHBOUR: 'it returns false'. Refute it at one input. -/
def docIdlesWrong : ChangeSpec := { name := "docIdles", fn := fun _ => fun
  | [d] => { results := [.lit (.bool false)], args := [d] }
  | _ => none }
def DocIdlesWrongFalsely : Prop := docIdlesRow.holds Tryd.pinned (OpenSpec.ofChange docIdlesWrong)

/-- 'lectionarylaw11.CaretDeletes': WHATEVER THE INPUT: true; the input reads as it did. -/
def caretDeletesSpec : ChangeSpec := { name := "caretDeletes", fn := fun _ => fun
  | [d] => { results := [.lit (.bool true)], args := [d] }
  | _ => none }
def caretDeletesRow : OpenClaim := { program := "ytonoaflfobajcaadoor", sum := "441752533658d57d67b47f61052feb2fcfe21b5c586f17b606d0dcc30f43acd8", func := "lectionary/lectionarylaw11.CaretDeletes", spec := "caretDeletes", unfollowed := true, recurses := true, named := ["unicode/utf8.first", "unicode/utf8.acceptRanges"], plainKeys := false, apart := false, laid := [("unicode/utf8.acceptRanges", laid_unicode_utf8_acceptRanges), ("unicode/utf8.first", laid_unicode_utf8_first)] }
def CaretDeletesSaid : Prop := caretDeletesRow.holds Tryd.pinned (OpenSpec.ofChange caretDeletesSpec)

/-- ITS FALSE NEIGHBOUR: 'it returns false'. Refute it at one input. -/
def caretDeletesWrong : ChangeSpec := { name := "caretDeletes", fn := fun _ => fun
  | [d] => { results := [.lit (.bool false)], args := [d] }
  | _ => none }
def CaretDeletesWrongFalsely : Prop := caretDeletesRow.holds Tryd.pinned (OpenSpec.ofChange caretDeletesWrong)

/-- 'lectionarylaw11.CaretUndoes': WHATEVER THE INPUT: true; the input reads as it did. -/
def caretUndoesSpec : ChangeSpec := { name := "caretUndoes", fn := fun _ => fun
  | [d] => { results := [.lit (.bool true)], args := [d] }
  | _ => none }
def caretUndoesRow : OpenClaim := { program := "ytonoaflfobajcaadoor", sum := "441752533658d57d67b47f61052feb2fcfe21b5c586f17b606d0dcc30f43acd8", func := "lectionary/lectionarylaw11.CaretUndoes", spec := "caretUndoes", unfollowed := true, recurses := true, named := ["unicode/utf8.first", "unicode/utf8.acceptRanges"], plainKeys := false, apart := false, laid := [("unicode/utf8.acceptRanges", laid_unicode_utf8_acceptRanges), ("unicode/utf8.first", laid_unicode_utf8_first)] }
def CaretUndoesSaid : Prop := caretUndoesRow.holds Tryd.pinned (OpenSpec.ofChange caretUndoesSpec)

/-- ITS FALSE NEIGHBOUR: 'it returns false'. Refute it at one input. -/
def caretUndoesWrong : ChangeSpec := { name := "caretUndoes", fn := fun _ => fun
  | [d] => { results := [.lit (.bool false)], args := [d] }
  | _ => none }
def CaretUndoesWrongFalsely : Prop := caretUndoesRow.holds Tryd.pinned (OpenSpec.ofChange caretUndoesWrong)

/-- 'lectionarylaw4.OpForms': WHATEVER THE INPUT: true; the input reads as it did. -/
def opFormsSpec : ChangeSpec := { name := "opForms", fn := fun _ => fun
  | [d] => { results := [.lit (.bool true)], args := [d] }
  | _ => none }
def opFormsRow : OpenClaim := { program := "ytonoaflfobajcaadoor", sum := "441752533658d57d67b47f61052feb2fcfe21b5c586f17b606d0dcc30f43acd8", func := "lectionary/lectionarylaw4.OpForms", spec := "opForms", unfollowed := true, recurses := true, named := ["unicode/utf8.first", "unicode/utf8.acceptRanges"], plainKeys := false, apart := false, laid := [("unicode/utf8.acceptRanges", laid_unicode_utf8_acceptRanges), ("unicode/utf8.first", laid_unicode_utf8_first)] }
def OpFormsSaid : Prop := opFormsRow.holds Tryd.pinned (OpenSpec.ofChange opFormsSpec)

/-- ITS FALSE NEIGHBOUR: 'it returns false'. Refute it at one input. -/
def opFormsWrong : ChangeSpec := { name := "opForms", fn := fun _ => fun
  | [d] => { results := [.lit (.bool false)], args := [d] }
  | _ => none }
def OpFormsWrongFalsely : Prop := opFormsRow.holds Tryd.pinned (OpenSpec.ofChange opFormsWrong)

/-- 'lectionarylaw4.OpTells': WHATEVER THE INPUT: true; the input reads as it did. -/
def opTellsSpec : ChangeSpec := { name := "opTells", fn := fun _ => fun
  | [d] => { results := [.lit (.bool true)], args := [d] }
  | _ => none }
def opTellsRow : OpenClaim := { program := "ytonoaflfobajcaadoor", sum := "441752533658d57d67b47f61052feb2fcfe21b5c586f17b606d0dcc30f43acd8", func := "lectionary/lectionarylaw4.OpTells", spec := "opTells", unfollowed := true, recurses := true, named := ["unicode/utf8.first", "unicode/utf8.acceptRanges"], plainKeys := false, apart := false, laid := [("unicode/utf8.acceptRanges", laid_unicode_utf8_acceptRanges), ("unicode/utf8.first", laid_unicode_utf8_first)] }
def OpTellsSaid : Prop := opTellsRow.holds Tryd.pinned (OpenSpec.ofChange opTellsSpec)

/-- ITS FALSE NEIGHBOUR: 'it returns false'. Refute it at one input. -/
def opTellsWrong : ChangeSpec := { name := "opTells", fn := fun _ => fun
  | [d] => { results := [.lit (.bool false)], args := [d] }
  | _ => none }
def OpTellsWrongFalsely : Prop := opTellsRow.holds Tryd.pinned (OpenSpec.ofChange opTellsWrong)

/- THE SECOND FORM. 'bulk': how many values and letters a reading holds, each counted each time it is reached (what is shared counts as often as it is met; a slice's spare places count too). A statement '..UptoSaid' is the law's where the arguments, and the package variables that the reading takes, are together of bulk at most 1048576: NARROWER than '..Said'. Prove '..Said' where nothing that the law and all that it calls make is longer than what came in: it says more and counts as full. Else prove '..UptoSaid'. A law counts once. -/
mutual
def uptoBulk {H : Type} : DataW H → Nat
  | .lit (.string bytes) => bytes.length + 1
  | .lit _ => 1
  | .nil => 1
  | .ptr d => uptoBulk d + 1
  | .slice elems spare => uptoBulkAll elems + uptoBulkAll spare + 1
  | .agg parts => uptoBulkAll parts + 1
  | .iface _ d => uptoBulk d + 1
  | .map entries => uptoBulkEntries entries + 1
  | .held _ => 1
def uptoBulkAll {H : Type} : List (DataW H) → Nat
  | [] => 0
  | d :: r => uptoBulk d + uptoBulkAll r
def uptoBulkEntries {H : Type} : List (Lit × DataW H) → Nat
  | [] => 0
  | x :: r => uptoBulkEntry x + uptoBulkEntries r
def uptoBulkEntry {H : Type} : Lit × DataW H → Nat
  | (.string bytes, d) => bytes.length + uptoBulk d + 1
  | (_, d) => uptoBulk d + 1
 end
def uptoSmall : (H : Type) → List (DataW H) → Bool := fun _ ds => decide (uptoBulkAll ds ≤ 1048576)
def OpenSpec.upto (s : _root_.Go.ChangeSpec) : _root_.Go.OpenSpec := { _root_.Go.OpenSpec.ofChange s with cond := some uptoSmall }

/-- 'lectionarylaw5.TreeOrders', WHERE WHAT IT READS IS OF BULK AT MOST 1048576: true; the input reads as it did. -/
def treeOrdersUptoRow : OpenClaim := { program := "ytonoaflfobajcaadoor", sum := "441752533658d57d67b47f61052feb2fcfe21b5c586f17b606d0dcc30f43acd8", func := "lectionary/lectionarylaw5.TreeOrders", spec := "treeOrders", unfollowed := true, recurses := true, named := ["unicode/utf8.first", "unicode/utf8.acceptRanges"], plainKeys := false, apart := false, laid := [("unicode/utf8.acceptRanges", laid_unicode_utf8_acceptRanges), ("unicode/utf8.first", laid_unicode_utf8_first)], narrowed := true }
def TreeOrdersUptoSaid : Prop := treeOrdersUptoRow.holds Tryd.pinned (OpenSpec.upto treeOrdersSpec)

/-- 'lectionarylaw6.DocWrites', WHERE WHAT IT READS IS OF BULK AT MOST 1048576: true; the input reads as it did. -/
def docWritesUptoRow : OpenClaim := { program := "ytonoaflfobajcaadoor", sum := "441752533658d57d67b47f61052feb2fcfe21b5c586f17b606d0dcc30f43acd8", func := "lectionary/lectionarylaw6.DocWrites", spec := "docWrites", unfollowed := true, recurses := true, named := ["unicode/utf8.first", "unicode/utf8.acceptRanges"], plainKeys := false, apart := false, laid := [("unicode/utf8.acceptRanges", laid_unicode_utf8_acceptRanges), ("unicode/utf8.first", laid_unicode_utf8_first)], narrowed := true }
def DocWritesUptoSaid : Prop := docWritesUptoRow.holds Tryd.pinned (OpenSpec.upto docWritesSpec)

/-- 'lectionarylaw6.DocGoes', WHERE WHAT IT READS IS OF BULK AT MOST 1048576: true; the input reads as it did. -/
def docGoesUptoRow : OpenClaim := { program := "ytonoaflfobajcaadoor", sum := "441752533658d57d67b47f61052feb2fcfe21b5c586f17b606d0dcc30f43acd8", func := "lectionary/lectionarylaw6.DocGoes", spec := "docGoes", unfollowed := true, recurses := true, named := ["unicode/utf8.first", "unicode/utf8.acceptRanges"], plainKeys := false, apart := false, laid := [("unicode/utf8.acceptRanges", laid_unicode_utf8_acceptRanges), ("unicode/utf8.first", laid_unicode_utf8_first)], narrowed := true }
def DocGoesUptoSaid : Prop := docGoesUptoRow.holds Tryd.pinned (OpenSpec.upto docGoesSpec)

/-- 'lectionarylaw6.DocUndoes', WHERE WHAT IT READS IS OF BULK AT MOST 1048576: true; the input reads as it did. -/
def docUndoesUptoRow : OpenClaim := { program := "ytonoaflfobajcaadoor", sum := "441752533658d57d67b47f61052feb2fcfe21b5c586f17b606d0dcc30f43acd8", func := "lectionary/lectionarylaw6.DocUndoes", spec := "docUndoes", unfollowed := true, recurses := true, named := ["unicode/utf8.first", "unicode/utf8.acceptRanges"], plainKeys := false, apart := false, laid := [("unicode/utf8.acceptRanges", laid_unicode_utf8_acceptRanges), ("unicode/utf8.first", laid_unicode_utf8_first)], narrowed := true }
def DocUndoesUptoSaid : Prop := docUndoesUptoRow.holds Tryd.pinned (OpenSpec.upto docUndoesSpec)

/-- 'lectionarylaw6.DocIdles', WHERE WHAT IT READS IS OF BULK AT MOST 1048576: true; the input reads as it did. -/
def docIdlesUptoRow : OpenClaim := { program := "ytonoaflfobajcaadoor", sum := "441752533658d57d67b47f61052feb2fcfe21b5c586f17b606d0dcc30f43acd8", func := "lectionary/lectionarylaw6.DocIdles", spec := "docIdles", unfollowed := true, recurses := true, named := ["unicode/utf8.first", "unicode/utf8.acceptRanges"], plainKeys := false, apart := false, laid := [("unicode/utf8.acceptRanges", laid_unicode_utf8_acceptRanges), ("unicode/utf8.first", laid_unicode_utf8_first)], narrowed := true }
def DocIdlesUptoSaid : Prop := docIdlesUptoRow.holds Tryd.pinned (OpenSpec.upto docIdlesSpec)

/-- 'lectionarylaw11.CaretDeletes', WHERE WHAT IT READS IS OF BULK AT MOST 1048576: true; the input reads as it did. -/
def caretDeletesUptoRow : OpenClaim := { program := "ytonoaflfobajcaadoor", sum := "441752533658d57d67b47f61052feb2fcfe21b5c586f17b606d0dcc30f43acd8", func := "lectionary/lectionarylaw11.CaretDeletes", spec := "caretDeletes", unfollowed := true, recurses := true, named := ["unicode/utf8.first", "unicode/utf8.acceptRanges"], plainKeys := false, apart := false, laid := [("unicode/utf8.acceptRanges", laid_unicode_utf8_acceptRanges), ("unicode/utf8.first", laid_unicode_utf8_first)], narrowed := true }
def CaretDeletesUptoSaid : Prop := caretDeletesUptoRow.holds Tryd.pinned (OpenSpec.upto caretDeletesSpec)

/-- 'lectionarylaw11.CaretUndoes', WHERE WHAT IT READS IS OF BULK AT MOST 1048576: true; the input reads as it did. -/
def caretUndoesUptoRow : OpenClaim := { program := "ytonoaflfobajcaadoor", sum := "441752533658d57d67b47f61052feb2fcfe21b5c586f17b606d0dcc30f43acd8", func := "lectionary/lectionarylaw11.CaretUndoes", spec := "caretUndoes", unfollowed := true, recurses := true, named := ["unicode/utf8.first", "unicode/utf8.acceptRanges"], plainKeys := false, apart := false, laid := [("unicode/utf8.acceptRanges", laid_unicode_utf8_acceptRanges), ("unicode/utf8.first", laid_unicode_utf8_first)], narrowed := true }
def CaretUndoesUptoSaid : Prop := caretUndoesUptoRow.holds Tryd.pinned (OpenSpec.upto caretUndoesSpec)

/-- 'lectionarylaw4.OpForms', WHERE WHAT IT READS IS OF BULK AT MOST 1048576: true; the input reads as it did. -/
def opFormsUptoRow : OpenClaim := { program := "ytonoaflfobajcaadoor", sum := "441752533658d57d67b47f61052feb2fcfe21b5c586f17b606d0dcc30f43acd8", func := "lectionary/lectionarylaw4.OpForms", spec := "opForms", unfollowed := true, recurses := true, named := ["unicode/utf8.first", "unicode/utf8.acceptRanges"], plainKeys := false, apart := false, laid := [("unicode/utf8.acceptRanges", laid_unicode_utf8_acceptRanges), ("unicode/utf8.first", laid_unicode_utf8_first)], narrowed := true }
def OpFormsUptoSaid : Prop := opFormsUptoRow.holds Tryd.pinned (OpenSpec.upto opFormsSpec)

/-- 'lectionarylaw4.OpTells', WHERE WHAT IT READS IS OF BULK AT MOST 1048576: true; the input reads as it did. -/
def opTellsUptoRow : OpenClaim := { program := "ytonoaflfobajcaadoor", sum := "441752533658d57d67b47f61052feb2fcfe21b5c586f17b606d0dcc30f43acd8", func := "lectionary/lectionarylaw4.OpTells", spec := "opTells", unfollowed := true, recurses := true, named := ["unicode/utf8.first", "unicode/utf8.acceptRanges"], plainKeys := false, apart := false, laid := [("unicode/utf8.acceptRanges", laid_unicode_utf8_acceptRanges), ("unicode/utf8.first", laid_unicode_utf8_first)], narrowed := true }
def OpTellsUptoSaid : Prop := opTellsUptoRow.holds Tryd.pinned (OpenSpec.upto opTellsSpec)

end Rows
end Go.Proofs.YtonoaflfobajcaaDoor
