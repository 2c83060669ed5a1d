/-
  NARROWER THAN 'FOR EVERY INPUT', by the rows' own cells (each row's printed sentence says how): TreeLimits: laid · TreeOrders: laid · TreeBegins: laid · TreeChains: laid · TreeForks: laid · TreeMixed: laid · DocWrites: laid · DocGoes: laid · DocUndoes: laid · DocIdles: laid · CaretDeletes: laid · CaretUndoes: laid · PathPlays: laid · OpForms: laid · OpTells: laid.
  DERIVED. THE GIVEN ROWS OF THIS SEAT. 15 by the template 'for every input the law returns true; each argument reads behind the call as it read before'; 0 by the template 'total and deterministic' (their statements: YtdahgnalojekdaaDoorTotals.lean).
  GIVEN WITH THE SEED: the statements are not yours to turn. If you find one false, say at which input.
  Laid BY PROGRAM, IN A SANDBOX (cutbox-rows.mjs): the forced cells as the released guide's own fill.sh prints them over the translation 71ee295c28e06858… (all of the seat's roots in one cut). By AI agents, Wed Nov 11 2026. No macro, syntax, notation, axiom, sorry.
-/
import Derived.Test.YtdahgnalojekdaaDoorChecked
import GoSem.PinnedTables
import GoSem.Claim
import GoSem.ClaimJoined
import GoSem.ClaimMapViews
import Derived.JoinedTies
import Derived.KernelRfl
namespace Go.Proofs.YtdahgnalojekdaaDoor
/- THE CELL 'sum', in the pinned program and in every row, IS THE sha256 OF THE DUMP (.gsa) THAT YtdahgnalojekdaaDoorProg.lean LOADS. Nothing in Lean hashes anything: it is a label: what it is worth is what the hold of that sum in a sandbox is worth. -/
noncomputable def Tryd.pinned : Pinned := { name := "ytdahgnalojekdaadoor", sum := "71ee295c28e0685814967e5aea44c6bb5a5e302285fa8dabe983f960c4996e63", checked := Tryd.checked }
namespace Rows
def none {H : Type} : Left H := { results := [], args := [] }

/- WHAT THE LISTED PACKAGE-LEVEL VARIABLES READ AS WHEN THE CALL BEGINS. Each datum BY PROGRAM (the guide's laid-datum.mjs) off the statement by which the dump's own 'gosem.cut.vars' lays the variable. In a bare row this is a premise. The card (YtdahgnalojekdaaDoorCards.lean) ties it to the program's text. -/
def laid_unicode_utf8_acceptRanges {H : Type} : DataW H := .agg [.agg [.lit (.int .u8 128), .lit (.int .u8 191)], .agg [.lit (.int .u8 160), .lit (.int .u8 191)], .agg [.lit (.int .u8 128), .lit (.int .u8 159)], .agg [.lit (.int .u8 144), .lit (.int .u8 191)], .agg [.lit (.int .u8 128), .lit (.int .u8 143)], .agg [.lit (.int .u8 0), .lit (.int .u8 0)], .agg [.lit (.int .u8 0), .lit (.int .u8 0)], .agg [.lit (.int .u8 0), .lit (.int .u8 0)], .agg [.lit (.int .u8 0), .lit (.int .u8 0)], .agg [.lit (.int .u8 0), .lit (.int .u8 0)], .agg [.lit (.int .u8 0), .lit (.int .u8 0)], .agg [.lit (.int .u8 0), .lit (.int .u8 0)], .agg [.lit (.int .u8 0), .lit (.int .u8 0)], .agg [.lit (.int .u8 0), .lit (.int .u8 0)], .agg [.lit (.int .u8 0), .lit (.int .u8 0)], .agg [.lit (.int .u8 0), .lit (.int .u8 0)]]
/-- One of Go's own tables, pinned by name: the form's constant. -/
def laid_unicode_utf8_first : DataW Unit := Go.Pinned.utf8First

/-- 'lectionarylaw5.TreeLimits': WHATEVER THE INPUT: true; the input reads as it did. -/
def treeLimitsSpec : ChangeSpec := { name := "treeLimits", fn := fun _ => fun
  | [d] => { results := [.lit (.bool true)], args := [d] }
  | _ => none }
def treeLimitsRow : OpenClaim := { program := "ytdahgnalojekdaadoor", sum := "71ee295c28e0685814967e5aea44c6bb5a5e302285fa8dabe983f960c4996e63", func := "lectionary/lectionarylaw5.TreeLimits", spec := "treeLimits", unfollowed := true, recurses := true, named := ["unicode/utf8.first", "unicode/utf8.acceptRanges"], plainKeys := false, apart := false, laid := [("unicode/utf8.acceptRanges", laid_unicode_utf8_acceptRanges), ("unicode/utf8.first", laid_unicode_utf8_first)] }
def TreeLimitsSaid : Prop := treeLimitsRow.holds Tryd.pinned (OpenSpec.ofChange treeLimitsSpec)

/-- ITS FALSE NEIGHBOUR: 'it returns false'. Refute it at one input. -/
def treeLimitsWrong : ChangeSpec := { name := "treeLimits", fn := fun _ => fun
  | [d] => { results := [.lit (.bool false)], args := [d] }
  | _ => none }
def TreeLimitsWrongFalsely : Prop := treeLimitsRow.holds Tryd.pinned (OpenSpec.ofChange treeLimitsWrong)

/-- 'lectionarylaw5.TreeOrders': WHATEVER THE INPUT: true; the input reads as it did. -/
def treeOrdersSpec : ChangeSpec := { name := "treeOrders", fn := fun _ => fun
  | [d] => { results := [.lit (.bool true)], args := [d] }
  | _ => none }
def treeOrdersRow : OpenClaim := { program := "ytdahgnalojekdaadoor", sum := "71ee295c28e0685814967e5aea44c6bb5a5e302285fa8dabe983f960c4996e63", func := "lectionary/lectionarylaw5.TreeOrders", spec := "treeOrders", unfollowed := true, recurses := true, named := ["unicode/utf8.first", "unicode/utf8.acceptRanges"], plainKeys := false, apart := false, laid := [("unicode/utf8.acceptRanges", laid_unicode_utf8_acceptRanges), ("unicode/utf8.first", laid_unicode_utf8_first)] }
def TreeOrdersSaid : Prop := treeOrdersRow.holds Tryd.pinned (OpenSpec.ofChange treeOrdersSpec)

/-- ITS FALSE NEIGHBOUR: 'it returns false'. Refute it at one input. -/
def treeOrdersWrong : ChangeSpec := { name := "treeOrders", fn := fun _ => fun
  | [d] => { results := [.lit (.bool false)], args := [d] }
  | _ => none }
def TreeOrdersWrongFalsely : Prop := treeOrdersRow.holds Tryd.pinned (OpenSpec.ofChange treeOrdersWrong)

/-- 'lectionarylaw5.TreeBegins': WHATEVER THE INPUT: true; the input reads as it did. -/
def treeBeginsSpec : ChangeSpec := { name := "treeBegins", fn := fun _ => fun
  | [d] => { results := [.lit (.bool true)], args := [d] }
  | _ => none }
def treeBeginsRow : OpenClaim := { program := "ytdahgnalojekdaadoor", sum := "71ee295c28e0685814967e5aea44c6bb5a5e302285fa8dabe983f960c4996e63", func := "lectionary/lectionarylaw5.TreeBegins", spec := "treeBegins", unfollowed := true, recurses := true, named := ["unicode/utf8.first", "unicode/utf8.acceptRanges"], plainKeys := false, apart := false, laid := [("unicode/utf8.acceptRanges", laid_unicode_utf8_acceptRanges), ("unicode/utf8.first", laid_unicode_utf8_first)] }
def TreeBeginsSaid : Prop := treeBeginsRow.holds Tryd.pinned (OpenSpec.ofChange treeBeginsSpec)

/-- ITS FALSE NEIGHBOUR: 'it returns false'. Refute it at one input. -/
def treeBeginsWrong : ChangeSpec := { name := "treeBegins", fn := fun _ => fun
  | [d] => { results := [.lit (.bool false)], args := [d] }
  | _ => none }
def TreeBeginsWrongFalsely : Prop := treeBeginsRow.holds Tryd.pinned (OpenSpec.ofChange treeBeginsWrong)

/-- 'lectionarylaw5.TreeChains': WHATEVER THE INPUT: true; the input reads as it did. -/
def treeChainsSpec : ChangeSpec := { name := "treeChains", fn := fun _ => fun
  | [d] => { results := [.lit (.bool true)], args := [d] }
  | _ => none }
def treeChainsRow : OpenClaim := { program := "ytdahgnalojekdaadoor", sum := "71ee295c28e0685814967e5aea44c6bb5a5e302285fa8dabe983f960c4996e63", func := "lectionary/lectionarylaw5.TreeChains", spec := "treeChains", unfollowed := true, recurses := true, named := ["unicode/utf8.first", "unicode/utf8.acceptRanges"], plainKeys := false, apart := false, laid := [("unicode/utf8.acceptRanges", laid_unicode_utf8_acceptRanges), ("unicode/utf8.first", laid_unicode_utf8_first)] }
def TreeChainsSaid : Prop := treeChainsRow.holds Tryd.pinned (OpenSpec.ofChange treeChainsSpec)

/-- ITS FALSE NEIGHBOUR: 'it returns false'. Refute it at one input. -/
def treeChainsWrong : ChangeSpec := { name := "treeChains", fn := fun _ => fun
  | [d] => { results := [.lit (.bool false)], args := [d] }
  | _ => none }
def TreeChainsWrongFalsely : Prop := treeChainsRow.holds Tryd.pinned (OpenSpec.ofChange treeChainsWrong)

/-- 'lectionarylaw5.TreeForks': WHATEVER THE INPUT: true; the input reads as it did. -/
def treeForksSpec : ChangeSpec := { name := "treeForks", fn := fun _ => fun
  | [d] => { results := [.lit (.bool true)], args := [d] }
  | _ => none }
def treeForksRow : OpenClaim := { program := "ytdahgnalojekdaadoor", sum := "71ee295c28e0685814967e5aea44c6bb5a5e302285fa8dabe983f960c4996e63", func := "lectionary/lectionarylaw5.TreeForks", spec := "treeForks", unfollowed := true, recurses := true, named := ["unicode/utf8.first", "unicode/utf8.acceptRanges"], plainKeys := false, apart := false, laid := [("unicode/utf8.acceptRanges", laid_unicode_utf8_acceptRanges), ("unicode/utf8.first", laid_unicode_utf8_first)] }
def TreeForksSaid : Prop := treeForksRow.holds Tryd.pinned (OpenSpec.ofChange treeForksSpec)

/-- ITS FALSE NEIGHBOUR: 'it returns false'. Refute it at one input. -/
def treeForksWrong : ChangeSpec := { name := "treeForks", fn := fun _ => fun
  | [d] => { results := [.lit (.bool false)], args := [d] }
  | _ => none }
def TreeForksWrongFalsely : Prop := treeForksRow.holds Tryd.pinned (OpenSpec.ofChange treeForksWrong)

/-- 'lectionarylaw5.TreeMixed': WHATEVER THE INPUT: true; the input reads as it did. -/
def treeMixedSpec : ChangeSpec := { name := "treeMixed", fn := fun _ => fun
  | [d] => { results := [.lit (.bool true)], args := [d] }
  | _ => none }
def treeMixedRow : OpenClaim := { program := "ytdahgnalojekdaadoor", sum := "71ee295c28e0685814967e5aea44c6bb5a5e302285fa8dabe983f960c4996e63", func := "lectionary/lectionarylaw5.TreeMixed", spec := "treeMixed", unfollowed := true, recurses := true, named := ["unicode/utf8.first", "unicode/utf8.acceptRanges"], plainKeys := false, apart := false, laid := [("unicode/utf8.acceptRanges", laid_unicode_utf8_acceptRanges), ("unicode/utf8.first", laid_unicode_utf8_first)] }
def TreeMixedSaid : Prop := treeMixedRow.holds Tryd.pinned (OpenSpec.ofChange treeMixedSpec)

/-- ITS FALSE NEIGHBOUR: 'it returns false'. Refute it at one input. -/
def treeMixedWrong : ChangeSpec := { name := "treeMixed", fn := fun _ => fun
  | [d] => { results := [.lit (.bool false)], args := [d] }
  | _ => none }
def TreeMixedWrongFalsely : Prop := treeMixedRow.holds Tryd.pinned (OpenSpec.ofChange treeMixedWrong)

/-- 'lectionarylaw6.DocWrites': WHATEVER THE INPUT: true; the input reads as it did. -/
def docWritesSpec : ChangeSpec := { name := "docWrites", fn := fun _ => fun
  | [d] => { results := [.lit (.bool true)], args := [d] }
  | _ => none }
def docWritesRow : OpenClaim := { program := "ytdahgnalojekdaadoor", sum := "71ee295c28e0685814967e5aea44c6bb5a5e302285fa8dabe983f960c4996e63", func := "lectionary/lectionarylaw6.DocWrites", spec := "docWrites", unfollowed := true, recurses := true, named := ["unicode/utf8.first", "unicode/utf8.acceptRanges"], plainKeys := false, apart := false, laid := [("unicode/utf8.acceptRanges", laid_unicode_utf8_acceptRanges), ("unicode/utf8.first", laid_unicode_utf8_first)] }
def DocWritesSaid : Prop := docWritesRow.holds Tryd.pinned (OpenSpec.ofChange docWritesSpec)

/-- ITS FALSE NEIGHBOUR: 'it returns false'. Refute it at one input. -/
def docWritesWrong : ChangeSpec := { name := "docWrites", fn := fun _ => fun
  | [d] => { results := [.lit (.bool false)], args := [d] }
  | _ => none }
def DocWritesWrongFalsely : Prop := docWritesRow.holds Tryd.pinned (OpenSpec.ofChange docWritesWrong)

/-- 'lectionarylaw6.DocGoes': WHATEVER THE INPUT: true; the input reads as it did. -/
def docGoesSpec : ChangeSpec := { name := "docGoes", fn := fun _ => fun
  | [d] => { results := [.lit (.bool true)], args := [d] }
  | _ => none }
def docGoesRow : OpenClaim := { program := "ytdahgnalojekdaadoor", sum := "71ee295c28e0685814967e5aea44c6bb5a5e302285fa8dabe983f960c4996e63", func := "lectionary/lectionarylaw6.DocGoes", spec := "docGoes", unfollowed := true, recurses := true, named := ["unicode/utf8.first", "unicode/utf8.acceptRanges"], plainKeys := false, apart := false, laid := [("unicode/utf8.acceptRanges", laid_unicode_utf8_acceptRanges), ("unicode/utf8.first", laid_unicode_utf8_first)] }
def DocGoesSaid : Prop := docGoesRow.holds Tryd.pinned (OpenSpec.ofChange docGoesSpec)

/-- ITS FALSE NEIGHBOUR: 'it returns false'. Refute it at one input. -/
def docGoesWrong : ChangeSpec := { name := "docGoes", fn := fun _ => fun
  | [d] => { results := [.lit (.bool false)], args := [d] }
  | _ => none }
def DocGoesWrongFalsely : Prop := docGoesRow.holds Tryd.pinned (OpenSpec.ofChange docGoesWrong)

/-- 'lectionarylaw6.DocUndoes': WHATEVER THE INPUT: true; the input reads as it did. -/
def docUndoesSpec : ChangeSpec := { name := "docUndoes", fn := fun _ => fun
  | [d] => { results := [.lit (.bool true)], args := [d] }
  | _ => none }
def docUndoesRow : OpenClaim := { program := "ytdahgnalojekdaadoor", sum := "71ee295c28e0685814967e5aea44c6bb5a5e302285fa8dabe983f960c4996e63", func := "lectionary/lectionarylaw6.DocUndoes", spec := "docUndoes", unfollowed := true, recurses := true, named := ["unicode/utf8.first", "unicode/utf8.acceptRanges"], plainKeys := false, apart := false, laid := [("unicode/utf8.acceptRanges", laid_unicode_utf8_acceptRanges), ("unicode/utf8.first", laid_unicode_utf8_first)] }
def DocUndoesSaid : Prop := docUndoesRow.holds Tryd.pinned (OpenSpec.ofChange docUndoesSpec)

/-- ITS FALSE NEIGHBOUR: 'it returns false'. Refute it at one input. -/
def docUndoesWrong : ChangeSpec := { name := "docUndoes", fn := fun _ => fun
  | [d] => { results := [.lit (.bool false)], args := [d] }
  | _ => none }
def DocUndoesWrongFalsely : Prop := docUndoesRow.holds Tryd.pinned (OpenSpec.ofChange docUndoesWrong)

/-- 'lectionarylaw6.DocIdles': WHATEVER THE INPUT: true; the input reads as it did. -/
def docIdlesSpec : ChangeSpec := { name := "docIdles", fn := fun _ => fun
  | [d] => { results := [.lit (.bool true)], args := [d] }
  | _ => none }
def docIdlesRow : OpenClaim := { program := "ytdahgnalojekdaadoor", sum := "71ee295c28e0685814967e5aea44c6bb5a5e302285fa8dabe983f960c4996e63", func := "lectionary/lectionarylaw6.DocIdles", spec := "docIdles", unfollowed := true, recurses := true, named := ["unicode/utf8.first", "unicode/utf8.acceptRanges"], plainKeys := false, apart := false, laid := [("unicode/utf8.acceptRanges", laid_unicode_utf8_acceptRanges), ("unicode/utf8.first", laid_unicode_utf8_first)] }
def DocIdlesSaid : Prop := docIdlesRow.holds Tryd.pinned (OpenSpec.ofChange docIdlesSpec)

/-- ITS FALSE NEIGHBOUR: 'it returns false'. Refute it at one input. -/
def docIdlesWrong : ChangeSpec := { name := "docIdles", fn := fun _ => fun
  | [d] => { results := [.lit (.bool false)], args := [d] }
  | _ => none }
def DocIdlesWrongFalsely : Prop := docIdlesRow.holds Tryd.pinned (OpenSpec.ofChange docIdlesWrong)

/-- 'lectionarylaw11.CaretDeletes': WHATEVER THE INPUT: true; the input reads as it did. -/
def caretDeletesSpec : ChangeSpec := { name := "caretDeletes", fn := fun _ => fun
  | [d] => { results := [.lit (.bool true)], args := [d] }
  | _ => none }
def caretDeletesRow : OpenClaim := { program := "ytdahgnalojekdaadoor", sum := "71ee295c28e0685814967e5aea44c6bb5a5e302285fa8dabe983f960c4996e63", func := "lectionary/lectionarylaw11.CaretDeletes", spec := "caretDeletes", unfollowed := true, recurses := true, named := ["unicode/utf8.first", "unicode/utf8.acceptRanges"], plainKeys := false, apart := false, laid := [("unicode/utf8.acceptRanges", laid_unicode_utf8_acceptRanges), ("unicode/utf8.first", laid_unicode_utf8_first)] }
def CaretDeletesSaid : Prop := caretDeletesRow.holds Tryd.pinned (OpenSpec.ofChange caretDeletesSpec)

/-- ITS FALSE NEIGHBOUR: 'it returns false'. Refute it at one input. -/
def caretDeletesWrong : ChangeSpec := { name := "caretDeletes", fn := fun _ => fun
  | [d] => { results := [.lit (.bool false)], args := [d] }
  | _ => none }
def CaretDeletesWrongFalsely : Prop := caretDeletesRow.holds Tryd.pinned (OpenSpec.ofChange caretDeletesWrong)

/-- 'lectionarylaw11.CaretUndoes': WHATEVER THE INPUT: true; the input reads as it did. -/
def caretUndoesSpec : ChangeSpec := { name := "caretUndoes", fn := fun _ => fun
  | [d] => { results := [.lit (.bool true)], args := [d] }
  | _ => none }
def caretUndoesRow : OpenClaim := { program := "ytdahgnalojekdaadoor", sum := "71ee295c28e0685814967e5aea44c6bb5a5e302285fa8dabe983f960c4996e63", func := "lectionary/lectionarylaw11.CaretUndoes", spec := "caretUndoes", unfollowed := true, recurses := true, named := ["unicode/utf8.first", "unicode/utf8.acceptRanges"], plainKeys := false, apart := false, laid := [("unicode/utf8.acceptRanges", laid_unicode_utf8_acceptRanges), ("unicode/utf8.first", laid_unicode_utf8_first)] }
def CaretUndoesSaid : Prop := caretUndoesRow.holds Tryd.pinned (OpenSpec.ofChange caretUndoesSpec)

/-- ITS FALSE NEIGHBOUR: 'it returns false'. Refute it at one input. -/
def caretUndoesWrong : ChangeSpec := { name := "caretUndoes", fn := fun _ => fun
  | [d] => { results := [.lit (.bool false)], args := [d] }
  | _ => none }
def CaretUndoesWrongFalsely : Prop := caretUndoesRow.holds Tryd.pinned (OpenSpec.ofChange caretUndoesWrong)

/-- 'lectionarylaw10.PathPlays': WHATEVER THE INPUT: true; the input reads as it did. -/
def pathPlaysSpec : ChangeSpec := { name := "pathPlays", fn := fun _ => fun
  | [d] => { results := [.lit (.bool true)], args := [d] }
  | _ => none }
def pathPlaysRow : OpenClaim := { program := "ytdahgnalojekdaadoor", sum := "71ee295c28e0685814967e5aea44c6bb5a5e302285fa8dabe983f960c4996e63", func := "lectionary/lectionarylaw10.PathPlays", spec := "pathPlays", inPlace := ["slices.overlaps[rune]"], unfollowed := true, recurses := true, named := ["unicode/utf8.first", "unicode/utf8.acceptRanges"], plainKeys := false, apart := false, laid := [("unicode/utf8.acceptRanges", laid_unicode_utf8_acceptRanges), ("unicode/utf8.first", laid_unicode_utf8_first)] }
def PathPlaysSaid : Prop := pathPlaysRow.holds Tryd.pinned (OpenSpec.ofChange pathPlaysSpec)

/-- ITS FALSE NEIGHBOUR: 'it returns false'. Refute it at one input. -/
def pathPlaysWrong : ChangeSpec := { name := "pathPlays", fn := fun _ => fun
  | [d] => { results := [.lit (.bool false)], args := [d] }
  | _ => none }
def PathPlaysWrongFalsely : Prop := pathPlaysRow.holds Tryd.pinned (OpenSpec.ofChange pathPlaysWrong)

/-- 'lectionarylaw4.OpForms': WHATEVER THE INPUT: true; the input reads as it did. -/
def opFormsSpec : ChangeSpec := { name := "opForms", fn := fun _ => fun
  | [d] => { results := [.lit (.bool true)], args := [d] }
  | _ => none }
def opFormsRow : OpenClaim := { program := "ytdahgnalojekdaadoor", sum := "71ee295c28e0685814967e5aea44c6bb5a5e302285fa8dabe983f960c4996e63", func := "lectionary/lectionarylaw4.OpForms", spec := "opForms", unfollowed := true, recurses := true, named := ["unicode/utf8.first", "unicode/utf8.acceptRanges"], plainKeys := false, apart := false, laid := [("unicode/utf8.acceptRanges", laid_unicode_utf8_acceptRanges), ("unicode/utf8.first", laid_unicode_utf8_first)] }
def OpFormsSaid : Prop := opFormsRow.holds Tryd.pinned (OpenSpec.ofChange opFormsSpec)

/-- ITS FALSE NEIGHBOUR: 'it returns false'. Refute it at one input. -/
def opFormsWrong : ChangeSpec := { name := "opForms", fn := fun _ => fun
  | [d] => { results := [.lit (.bool false)], args := [d] }
  | _ => none }
def OpFormsWrongFalsely : Prop := opFormsRow.holds Tryd.pinned (OpenSpec.ofChange opFormsWrong)

/-- 'lectionarylaw4.OpTells': WHATEVER THE INPUT: true; the input reads as it did. -/
def opTellsSpec : ChangeSpec := { name := "opTells", fn := fun _ => fun
  | [d] => { results := [.lit (.bool true)], args := [d] }
  | _ => none }
def opTellsRow : OpenClaim := { program := "ytdahgnalojekdaadoor", sum := "71ee295c28e0685814967e5aea44c6bb5a5e302285fa8dabe983f960c4996e63", func := "lectionary/lectionarylaw4.OpTells", spec := "opTells", unfollowed := true, recurses := true, named := ["unicode/utf8.first", "unicode/utf8.acceptRanges"], plainKeys := false, apart := false, laid := [("unicode/utf8.acceptRanges", laid_unicode_utf8_acceptRanges), ("unicode/utf8.first", laid_unicode_utf8_first)] }
def OpTellsSaid : Prop := opTellsRow.holds Tryd.pinned (OpenSpec.ofChange opTellsSpec)

/-- ITS FALSE NEIGHBOUR: 'it returns false'. Refute it at one input. -/
def opTellsWrong : ChangeSpec := { name := "opTells", fn := fun _ => fun
  | [d] => { results := [.lit (.bool false)], args := [d] }
  | _ => none }
def OpTellsWrongFalsely : Prop := opTellsRow.holds Tryd.pinned (OpenSpec.ofChange opTellsWrong)

/- THE SECOND FORM. 'bulk': how many values and letters a reading holds, each counted each time it is reached (what is shared counts as often as it is met; a slice's spare places count too). A statement '..UptoSaid' is the law's where the arguments, and the package variables that the reading takes, are together of bulk at most 1048576: NARROWER than '..Said'. Prove '..Said' where nothing that the law and all that it calls make is longer than what came in: it says more and counts as full. Else prove '..UptoSaid'. A law counts once. -/
mutual
def uptoBulk {H : Type} : DataW H → Nat
  | .lit (.string bytes) => bytes.length + 1
  | .lit _ => 1
  | .nil => 1
  | .ptr d => uptoBulk d + 1
  | .slice elems spare => uptoBulkAll elems + uptoBulkAll spare + 1
  | .agg parts => uptoBulkAll parts + 1
  | .iface _ d => uptoBulk d + 1
  | .map entries => uptoBulkEntries entries + 1
  | .held _ => 1
def uptoBulkAll {H : Type} : List (DataW H) → Nat
  | [] => 0
  | d :: r => uptoBulk d + uptoBulkAll r
def uptoBulkEntries {H : Type} : List (Lit × DataW H) → Nat
  | [] => 0
  | x :: r => uptoBulkEntry x + uptoBulkEntries r
def uptoBulkEntry {H : Type} : Lit × DataW H → Nat
  | (.string bytes, d) => bytes.length + uptoBulk d + 1
  | (_, d) => uptoBulk d + 1
 end
def uptoSmall : (H : Type) → List (DataW H) → Bool := fun _ ds => decide (uptoBulkAll ds ≤ 1048576)
def OpenSpec.upto (s : _root_.Go.ChangeSpec) : _root_.Go.OpenSpec := { _root_.Go.OpenSpec.ofChange s with cond := some uptoSmall }

/-- 'lectionarylaw5.TreeLimits', WHERE WHAT IT READS IS OF BULK AT MOST 1048576: true; the input reads as it did. -/
def treeLimitsUptoRow : OpenClaim := { program := "ytdahgnalojekdaadoor", sum := "71ee295c28e0685814967e5aea44c6bb5a5e302285fa8dabe983f960c4996e63", func := "lectionary/lectionarylaw5.TreeLimits", spec := "treeLimits", unfollowed := true, recurses := true, named := ["unicode/utf8.first", "unicode/utf8.acceptRanges"], plainKeys := false, apart := false, laid := [("unicode/utf8.acceptRanges", laid_unicode_utf8_acceptRanges), ("unicode/utf8.first", laid_unicode_utf8_first)], narrowed := true }
def TreeLimitsUptoSaid : Prop := treeLimitsUptoRow.holds Tryd.pinned (OpenSpec.upto treeLimitsSpec)

/-- 'lectionarylaw5.TreeOrders', WHERE WHAT IT READS IS OF BULK AT MOST 1048576: true; the input reads as it did. -/
def treeOrdersUptoRow : OpenClaim := { program := "ytdahgnalojekdaadoor", sum := "71ee295c28e0685814967e5aea44c6bb5a5e302285fa8dabe983f960c4996e63", func := "lectionary/lectionarylaw5.TreeOrders", spec := "treeOrders", unfollowed := true, recurses := true, named := ["unicode/utf8.first", "unicode/utf8.acceptRanges"], plainKeys := false, apart := false, laid := [("unicode/utf8.acceptRanges", laid_unicode_utf8_acceptRanges), ("unicode/utf8.first", laid_unicode_utf8_first)], narrowed := true }
def TreeOrdersUptoSaid : Prop := treeOrdersUptoRow.holds Tryd.pinned (OpenSpec.upto treeOrdersSpec)

/-- 'lectionarylaw5.TreeBegins', WHERE WHAT IT READS IS OF BULK AT MOST 1048576: true; the input reads as it did. -/
def treeBeginsUptoRow : OpenClaim := { program := "ytdahgnalojekdaadoor", sum := "71ee295c28e0685814967e5aea44c6bb5a5e302285fa8dabe983f960c4996e63", func := "lectionary/lectionarylaw5.TreeBegins", spec := "treeBegins", unfollowed := true, recurses := true, named := ["unicode/utf8.first", "unicode/utf8.acceptRanges"], plainKeys := false, apart := false, laid := [("unicode/utf8.acceptRanges", laid_unicode_utf8_acceptRanges), ("unicode/utf8.first", laid_unicode_utf8_first)], narrowed := true }
def TreeBeginsUptoSaid : Prop := treeBeginsUptoRow.holds Tryd.pinned (OpenSpec.upto treeBeginsSpec)

/-- 'lectionarylaw5.TreeChains', WHERE WHAT IT READS IS OF BULK AT MOST 1048576: true; the input reads as it did. -/
def treeChainsUptoRow : OpenClaim := { program := "ytdahgnalojekdaadoor", sum := "71ee295c28e0685814967e5aea44c6bb5a5e302285fa8dabe983f960c4996e63", func := "lectionary/lectionarylaw5.TreeChains", spec := "treeChains", unfollowed := true, recurses := true, named := ["unicode/utf8.first", "unicode/utf8.acceptRanges"], plainKeys := false, apart := false, laid := [("unicode/utf8.acceptRanges", laid_unicode_utf8_acceptRanges), ("unicode/utf8.first", laid_unicode_utf8_first)], narrowed := true }
def TreeChainsUptoSaid : Prop := treeChainsUptoRow.holds Tryd.pinned (OpenSpec.upto treeChainsSpec)

/-- 'lectionarylaw5.TreeForks', WHERE WHAT IT READS IS OF BULK AT MOST 1048576: true; the input reads as it did. -/
def treeForksUptoRow : OpenClaim := { program := "ytdahgnalojekdaadoor", sum := "71ee295c28e0685814967e5aea44c6bb5a5e302285fa8dabe983f960c4996e63", func := "lectionary/lectionarylaw5.TreeForks", spec := "treeForks", unfollowed := true, recurses := true, named := ["unicode/utf8.first", "unicode/utf8.acceptRanges"], plainKeys := false, apart := false, laid := [("unicode/utf8.acceptRanges", laid_unicode_utf8_acceptRanges), ("unicode/utf8.first", laid_unicode_utf8_first)], narrowed := true }
def TreeForksUptoSaid : Prop := treeForksUptoRow.holds Tryd.pinned (OpenSpec.upto treeForksSpec)

/-- 'lectionarylaw5.TreeMixed', WHERE WHAT IT READS IS OF BULK AT MOST 1048576: true; the input reads as it did. -/
def treeMixedUptoRow : OpenClaim := { program := "ytdahgnalojekdaadoor", sum := "71ee295c28e0685814967e5aea44c6bb5a5e302285fa8dabe983f960c4996e63", func := "lectionary/lectionarylaw5.TreeMixed", spec := "treeMixed", unfollowed := true, recurses := true, named := ["unicode/utf8.first", "unicode/utf8.acceptRanges"], plainKeys := false, apart := false, laid := [("unicode/utf8.acceptRanges", laid_unicode_utf8_acceptRanges), ("unicode/utf8.first", laid_unicode_utf8_first)], narrowed := true }
def TreeMixedUptoSaid : Prop := treeMixedUptoRow.holds Tryd.pinned (OpenSpec.upto treeMixedSpec)

/-- 'lectionarylaw6.DocWrites', WHERE WHAT IT READS IS OF BULK AT MOST 1048576: true; the input reads as it did. -/
def docWritesUptoRow : OpenClaim := { program := "ytdahgnalojekdaadoor", sum := "71ee295c28e0685814967e5aea44c6bb5a5e302285fa8dabe983f960c4996e63", func := "lectionary/lectionarylaw6.DocWrites", spec := "docWrites", unfollowed := true, recurses := true, named := ["unicode/utf8.first", "unicode/utf8.acceptRanges"], plainKeys := false, apart := false, laid := [("unicode/utf8.acceptRanges", laid_unicode_utf8_acceptRanges), ("unicode/utf8.first", laid_unicode_utf8_first)], narrowed := true }
def DocWritesUptoSaid : Prop := docWritesUptoRow.holds Tryd.pinned (OpenSpec.upto docWritesSpec)

/-- 'lectionarylaw6.DocGoes', WHERE WHAT IT READS IS OF BULK AT MOST 1048576: true; the input reads as it did. -/
def docGoesUptoRow : OpenClaim := { program := "ytdahgnalojekdaadoor", sum := "71ee295c28e0685814967e5aea44c6bb5a5e302285fa8dabe983f960c4996e63", func := "lectionary/lectionarylaw6.DocGoes", spec := "docGoes", unfollowed := true, recurses := true, named := ["unicode/utf8.first", "unicode/utf8.acceptRanges"], plainKeys := false, apart := false, laid := [("unicode/utf8.acceptRanges", laid_unicode_utf8_acceptRanges), ("unicode/utf8.first", laid_unicode_utf8_first)], narrowed := true }
def DocGoesUptoSaid : Prop := docGoesUptoRow.holds Tryd.pinned (OpenSpec.upto docGoesSpec)

/-- 'lectionarylaw6.DocUndoes', WHERE WHAT IT READS IS OF BULK AT MOST 1048576: true; the input reads as it did. -/
def docUndoesUptoRow : OpenClaim := { program := "ytdahgnalojekdaadoor", sum := "71ee295c28e0685814967e5aea44c6bb5a5e302285fa8dabe983f960c4996e63", func := "lectionary/lectionarylaw6.DocUndoes", spec := "docUndoes", unfollowed := true, recurses := true, named := ["unicode/utf8.first", "unicode/utf8.acceptRanges"], plainKeys := false, apart := false, laid := [("unicode/utf8.acceptRanges", laid_unicode_utf8_acceptRanges), ("unicode/utf8.first", laid_unicode_utf8_first)], narrowed := true }
def DocUndoesUptoSaid : Prop := docUndoesUptoRow.holds Tryd.pinned (OpenSpec.upto docUndoesSpec)

/-- 'lectionarylaw6.DocIdles', WHERE WHAT IT READS IS OF BULK AT MOST 1048576: true; the input reads as it did. -/
def docIdlesUptoRow : OpenClaim := { program := "ytdahgnalojekdaadoor", sum := "71ee295c28e0685814967e5aea44c6bb5a5e302285fa8dabe983f960c4996e63", func := "lectionary/lectionarylaw6.DocIdles", spec := "docIdles", unfollowed := true, recurses := true, named := ["unicode/utf8.first", "unicode/utf8.acceptRanges"], plainKeys := false, apart := false, laid := [("unicode/utf8.acceptRanges", laid_unicode_utf8_acceptRanges), ("unicode/utf8.first", laid_unicode_utf8_first)], narrowed := true }
def DocIdlesUptoSaid : Prop := docIdlesUptoRow.holds Tryd.pinned (OpenSpec.upto docIdlesSpec)

/-- 'lectionarylaw11.CaretDeletes', WHERE WHAT IT READS IS OF BULK AT MOST 1048576: true; the input reads as it did. -/
def caretDeletesUptoRow : OpenClaim := { program := "ytdahgnalojekdaadoor", sum := "71ee295c28e0685814967e5aea44c6bb5a5e302285fa8dabe983f960c4996e63", func := "lectionary/lectionarylaw11.CaretDeletes", spec := "caretDeletes", unfollowed := true, recurses := true, named := ["unicode/utf8.first", "unicode/utf8.acceptRanges"], plainKeys := false, apart := false, laid := [("unicode/utf8.acceptRanges", laid_unicode_utf8_acceptRanges), ("unicode/utf8.first", laid_unicode_utf8_first)], narrowed := true }
def CaretDeletesUptoSaid : Prop := caretDeletesUptoRow.holds Tryd.pinned (OpenSpec.upto caretDeletesSpec)

/-- 'lectionarylaw11.CaretUndoes', WHERE WHAT IT READS IS OF BULK AT MOST 1048576: true; the input reads as it did. -/
def caretUndoesUptoRow : OpenClaim := { program := "ytdahgnalojekdaadoor", sum := "71ee295c28e0685814967e5aea44c6bb5a5e302285fa8dabe983f960c4996e63", func := "lectionary/lectionarylaw11.CaretUndoes", spec := "caretUndoes", unfollowed := true, recurses := true, named := ["unicode/utf8.first", "unicode/utf8.acceptRanges"], plainKeys := false, apart := false, laid := [("unicode/utf8.acceptRanges", laid_unicode_utf8_acceptRanges), ("unicode/utf8.first", laid_unicode_utf8_first)], narrowed := true }
def CaretUndoesUptoSaid : Prop := caretUndoesUptoRow.holds Tryd.pinned (OpenSpec.upto caretUndoesSpec)

/-- 'lectionarylaw10.PathPlays', WHERE WHAT IT READS IS OF BULK AT MOST 1048576: true; the input reads as it did. -/
def pathPlaysUptoRow : OpenClaim := { program := "ytdahgnalojekdaadoor", sum := "71ee295c28e0685814967e5aea44c6bb5a5e302285fa8dabe983f960c4996e63", func := "lectionary/lectionarylaw10.PathPlays", spec := "pathPlays", inPlace := ["slices.overlaps[rune]"], unfollowed := true, recurses := true, named := ["unicode/utf8.first", "unicode/utf8.acceptRanges"], plainKeys := false, apart := false, laid := [("unicode/utf8.acceptRanges", laid_unicode_utf8_acceptRanges), ("unicode/utf8.first", laid_unicode_utf8_first)], narrowed := true }
def PathPlaysUptoSaid : Prop := pathPlaysUptoRow.holds Tryd.pinned (OpenSpec.upto pathPlaysSpec)

/-- 'lectionarylaw4.OpForms', WHERE WHAT IT READS IS OF BULK AT MOST 1048576: true; the input reads as it did. -/
def opFormsUptoRow : OpenClaim := { program := "ytdahgnalojekdaadoor", sum := "71ee295c28e0685814967e5aea44c6bb5a5e302285fa8dabe983f960c4996e63", func := "lectionary/lectionarylaw4.OpForms", spec := "opForms", unfollowed := true, recurses := true, named := ["unicode/utf8.first", "unicode/utf8.acceptRanges"], plainKeys := false, apart := false, laid := [("unicode/utf8.acceptRanges", laid_unicode_utf8_acceptRanges), ("unicode/utf8.first", laid_unicode_utf8_first)], narrowed := true }
def OpFormsUptoSaid : Prop := opFormsUptoRow.holds Tryd.pinned (OpenSpec.upto opFormsSpec)

/-- 'lectionarylaw4.OpTells', WHERE WHAT IT READS IS OF BULK AT MOST 1048576: true; the input reads as it did. -/
def opTellsUptoRow : OpenClaim := { program := "ytdahgnalojekdaadoor", sum := "71ee295c28e0685814967e5aea44c6bb5a5e302285fa8dabe983f960c4996e63", func := "lectionary/lectionarylaw4.OpTells", spec := "opTells", unfollowed := true, recurses := true, named := ["unicode/utf8.first", "unicode/utf8.acceptRanges"], plainKeys := false, apart := false, laid := [("unicode/utf8.acceptRanges", laid_unicode_utf8_acceptRanges), ("unicode/utf8.first", laid_unicode_utf8_first)], narrowed := true }
def OpTellsUptoSaid : Prop := opTellsUptoRow.holds Tryd.pinned (OpenSpec.upto opTellsSpec)

end Rows
end Go.Proofs.YtdahgnalojekdaaDoor
