/-
  NARROWER THAN 'FOR EVERY INPUT', by the rows' own cells (each row's printed sentence says how): EditRaces: laid · EditLands: laid · EditTells: laid · CaretStays: laid.
  DERIVED. THE GIVEN ROWS OF THIS SEAT. 4 by the template 'for every input the law returns true; each argument reads behind the call as it read before'; 0 by the template 'total and deterministic' (their statements: YtlllghajjamdpaaGreatDoorTotals.lean).
  GIVEN WITH THE SEED: the statements are not yours to turn. If you find one false, say at which input.
  Laid BY PROGRAM, IN A SANDBOX (cutbox-rows.mjs): the forced cells as the released guide's own fill.sh prints them over the translation 60bbed6c024f5f6b… (all of the seat's roots in one cut). By AI agents, Wed Nov 11 2026. No macro, syntax, notation, axiom, sorry.
-/
import Derived.Test.YtlllghajjamdpaaGreatDoorChecked
import GoSem.PinnedTables
import GoSem.Claim
import GoSem.ClaimJoined
import GoSem.ClaimMapViews
import Derived.JoinedTies
import Derived.KernelRfl
namespace Go.Proofs.YtlllghajjamdpaaGreatDoor
/- THE CELL 'sum', in the pinned program and in every row, IS THE sha256 OF THE DUMP (.gsa) THAT YtlllghajjamdpaaGreatDoorProg.lean LOADS. Nothing in Lean hashes anything: it is a label: what it is worth is what the hold of that sum in a sandbox is worth. -/
noncomputable def Tryz.pinned : Pinned := { name := "ytlllghajjamdpaagreatdoor", sum := "60bbed6c024f5f6bc2e7e06567b0aaab114bab5ba2df907a11136471e5becf27", checked := Tryz.checked }
namespace Rows
def none {H : Type} : Left H := { results := [], args := [] }

/- WHAT THE LISTED PACKAGE-LEVEL VARIABLES READ AS WHEN THE CALL BEGINS. Each datum BY PROGRAM (the guide's laid-datum.mjs) off the statement by which the dump's own 'gosem.cut.vars' lays the variable. In a bare row this is a premise. The card (YtlllghajjamdpaaGreatDoorCards.lean) ties it to the program's text. -/
def laid_unicode_utf8_acceptRanges {H : Type} : DataW H := .agg [.agg [.lit (.int .u8 128), .lit (.int .u8 191)], .agg [.lit (.int .u8 160), .lit (.int .u8 191)], .agg [.lit (.int .u8 128), .lit (.int .u8 159)], .agg [.lit (.int .u8 144), .lit (.int .u8 191)], .agg [.lit (.int .u8 128), .lit (.int .u8 143)], .agg [.lit (.int .u8 0), .lit (.int .u8 0)], .agg [.lit (.int .u8 0), .lit (.int .u8 0)], .agg [.lit (.int .u8 0), .lit (.int .u8 0)], .agg [.lit (.int .u8 0), .lit (.int .u8 0)], .agg [.lit (.int .u8 0), .lit (.int .u8 0)], .agg [.lit (.int .u8 0), .lit (.int .u8 0)], .agg [.lit (.int .u8 0), .lit (.int .u8 0)], .agg [.lit (.int .u8 0), .lit (.int .u8 0)], .agg [.lit (.int .u8 0), .lit (.int .u8 0)], .agg [.lit (.int .u8 0), .lit (.int .u8 0)], .agg [.lit (.int .u8 0), .lit (.int .u8 0)]]
/-- One of Go's own tables, pinned by name: the form's constant. -/
def laid_unicode_utf8_first : DataW Unit := Go.Pinned.utf8First

/-- 'lectionarylaw7.EditRaces': WHATEVER THE INPUT: true; the input reads as it did. -/
def editRacesSpec : ChangeSpec := { name := "editRaces", fn := fun _ => fun
  | [d] => { results := [.lit (.bool true)], args := [d] }
  | _ => none }
def editRacesRow : OpenClaim := { program := "ytlllghajjamdpaagreatdoor", sum := "60bbed6c024f5f6bc2e7e06567b0aaab114bab5ba2df907a11136471e5becf27", func := "lectionary/lectionarylaw7.EditRaces", spec := "editRaces", unfollowed := true, recurses := true, named := ["unicode/utf8.first", "unicode/utf8.acceptRanges"], plainKeys := false, apart := false, laid := [("unicode/utf8.acceptRanges", laid_unicode_utf8_acceptRanges), ("unicode/utf8.first", laid_unicode_utf8_first)] }
def EditRacesSaid : Prop := editRacesRow.holds Tryz.pinned (OpenSpec.ofChange editRacesSpec)

/-- ITS FALSE NEIGHBOUR: 'it returns false'. Refute it at one input. -/
def editRacesWrong : ChangeSpec := { name := "editRaces", fn := fun _ => fun
  | [d] => { results := [.lit (.bool false)], args := [d] }
  | _ => none }
def EditRacesWrongFalsely : Prop := editRacesRow.holds Tryz.pinned (OpenSpec.ofChange editRacesWrong)

/-- 'lectionarylaw7.EditLands': WHATEVER THE INPUT: true; the input reads as it did. -/
def editLandsSpec : ChangeSpec := { name := "editLands", fn := fun _ => fun
  | [d] => { results := [.lit (.bool true)], args := [d] }
  | _ => none }
def editLandsRow : OpenClaim := { program := "ytlllghajjamdpaagreatdoor", sum := "60bbed6c024f5f6bc2e7e06567b0aaab114bab5ba2df907a11136471e5becf27", func := "lectionary/lectionarylaw7.EditLands", spec := "editLands", unfollowed := true, recurses := true, named := ["unicode/utf8.first", "unicode/utf8.acceptRanges"], plainKeys := false, apart := false, laid := [("unicode/utf8.acceptRanges", laid_unicode_utf8_acceptRanges), ("unicode/utf8.first", laid_unicode_utf8_first)] }
def EditLandsSaid : Prop := editLandsRow.holds Tryz.pinned (OpenSpec.ofChange editLandsSpec)

/-- ITS FALSE NEIGHBOUR: 'it returns false'. Refute it at one input. -/
def editLandsWrong : ChangeSpec := { name := "editLands", fn := fun _ => fun
  | [d] => { results := [.lit (.bool false)], args := [d] }
  | _ => none }
def EditLandsWrongFalsely : Prop := editLandsRow.holds Tryz.pinned (OpenSpec.ofChange editLandsWrong)

/-- 'lectionarylaw7.EditTells': WHATEVER THE INPUT: true; the input reads as it did. -/
def editTellsSpec : ChangeSpec := { name := "editTells", fn := fun _ => fun
  | [d] => { results := [.lit (.bool true)], args := [d] }
  | _ => none }
def editTellsRow : OpenClaim := { program := "ytlllghajjamdpaagreatdoor", sum := "60bbed6c024f5f6bc2e7e06567b0aaab114bab5ba2df907a11136471e5becf27", func := "lectionary/lectionarylaw7.EditTells", spec := "editTells", unfollowed := true, recurses := true, named := ["unicode/utf8.first", "unicode/utf8.acceptRanges"], plainKeys := false, apart := false, laid := [("unicode/utf8.acceptRanges", laid_unicode_utf8_acceptRanges), ("unicode/utf8.first", laid_unicode_utf8_first)] }
def EditTellsSaid : Prop := editTellsRow.holds Tryz.pinned (OpenSpec.ofChange editTellsSpec)

/-- ITS FALSE NEIGHBOUR: 'it returns false'. Refute it at one input. -/
def editTellsWrong : ChangeSpec := { name := "editTells", fn := fun _ => fun
  | [d] => { results := [.lit (.bool false)], args := [d] }
  | _ => none }
def EditTellsWrongFalsely : Prop := editTellsRow.holds Tryz.pinned (OpenSpec.ofChange editTellsWrong)

/-- 'lectionarylaw11.CaretStays': WHATEVER THE INPUT: true; the input reads as it did. -/
def caretStaysSpec : ChangeSpec := { name := "caretStays", fn := fun _ => fun
  | [d] => { results := [.lit (.bool true)], args := [d] }
  | _ => none }
def caretStaysRow : OpenClaim := { program := "ytlllghajjamdpaagreatdoor", sum := "60bbed6c024f5f6bc2e7e06567b0aaab114bab5ba2df907a11136471e5becf27", func := "lectionary/lectionarylaw11.CaretStays", spec := "caretStays", unfollowed := true, recurses := true, named := ["unicode/utf8.first", "unicode/utf8.acceptRanges"], plainKeys := false, apart := false, laid := [("unicode/utf8.acceptRanges", laid_unicode_utf8_acceptRanges), ("unicode/utf8.first", laid_unicode_utf8_first)] }
def CaretStaysSaid : Prop := caretStaysRow.holds Tryz.pinned (OpenSpec.ofChange caretStaysSpec)

/-- ITS FALSE NEIGHBOUR: 'it returns false'. Refute it at one input. -/
def caretStaysWrong : ChangeSpec := { name := "caretStays", fn := fun _ => fun
  | [d] => { results := [.lit (.bool false)], args := [d] }
  | _ => none }
def CaretStaysWrongFalsely : Prop := caretStaysRow.holds Tryz.pinned (OpenSpec.ofChange caretStaysWrong)

/- THE SECOND FORM. 'bulk': how many values and letters a reading holds, each counted each time it is reached (what is shared counts as often as it is met; a slice's spare places count too). A statement '..UptoSaid' is the law's where the arguments, and the package variables that the reading takes, are together of bulk at most 1048576: NARROWER than '..Said'. Prove '..Said' where nothing that the law and all that it calls make is longer than what came in: it says more and counts as full. Else prove '..UptoSaid'. A law counts once. -/
mutual
def uptoBulk {H : Type} : DataW H → Nat
  | .lit (.string bytes) => bytes.length + 1
  | .lit _ => 1
  | .nil => 1
  | .ptr d => uptoBulk d + 1
  | .slice elems spare => uptoBulkAll elems + uptoBulkAll spare + 1
  | .agg parts => uptoBulkAll parts + 1
  | .iface _ d => uptoBulk d + 1
  | .map entries => uptoBulkEntries entries + 1
  | .held _ => 1
def uptoBulkAll {H : Type} : List (DataW H) → Nat
  | [] => 0
  | d :: r => uptoBulk d + uptoBulkAll r
def uptoBulkEntries {H : Type} : List (Lit × DataW H) → Nat
  | [] => 0
  | x :: r => uptoBulkEntry x + uptoBulkEntries r
def uptoBulkEntry {H : Type} : Lit × DataW H → Nat
  | (.string bytes, d) => bytes.length + uptoBulk d + 1
  | (_, d) => uptoBulk d + 1
 end
def uptoSmall : (H : Type) → List (DataW H) → Bool := fun _ ds => decide (uptoBulkAll ds ≤ 1048576)
def OpenSpec.upto (s : _root_.Go.ChangeSpec) : _root_.Go.OpenSpec := { _root_.Go.OpenSpec.ofChange s with cond := some uptoSmall }

/-- 'lectionarylaw7.EditRaces', WHERE WHAT IT READS IS OF BULK AT MOST 1048576: true; the input reads as it did. -/
def editRacesUptoRow : OpenClaim := { program := "ytlllghajjamdpaagreatdoor", sum := "60bbed6c024f5f6bc2e7e06567b0aaab114bab5ba2df907a11136471e5becf27", func := "lectionary/lectionarylaw7.EditRaces", spec := "editRaces", unfollowed := true, recurses := true, named := ["unicode/utf8.first", "unicode/utf8.acceptRanges"], plainKeys := false, apart := false, laid := [("unicode/utf8.acceptRanges", laid_unicode_utf8_acceptRanges), ("unicode/utf8.first", laid_unicode_utf8_first)], narrowed := true }
def EditRacesUptoSaid : Prop := editRacesUptoRow.holds Tryz.pinned (OpenSpec.upto editRacesSpec)

/-- 'lectionarylaw7.EditLands', WHERE WHAT IT READS IS OF BULK AT MOST 1048576: true; the input reads as it did. -/
def editLandsUptoRow : OpenClaim := { program := "ytlllghajjamdpaagreatdoor", sum := "60bbed6c024f5f6bc2e7e06567b0aaab114bab5ba2df907a11136471e5becf27", func := "lectionary/lectionarylaw7.EditLands", spec := "editLands", unfollowed := true, recurses := true, named := ["unicode/utf8.first", "unicode/utf8.acceptRanges"], plainKeys := false, apart := false, laid := [("unicode/utf8.acceptRanges", laid_unicode_utf8_acceptRanges), ("unicode/utf8.first", laid_unicode_utf8_first)], narrowed := true }
def EditLandsUptoSaid : Prop := editLandsUptoRow.holds Tryz.pinned (OpenSpec.upto editLandsSpec)

/-- 'lectionarylaw7.EditTells', WHERE WHAT IT READS IS OF BULK AT MOST 1048576: true; the input reads as it did. -/
def editTellsUptoRow : OpenClaim := { program := "ytlllghajjamdpaagreatdoor", sum := "60bbed6c024f5f6bc2e7e06567b0aaab114bab5ba2df907a11136471e5becf27", func := "lectionary/lectionarylaw7.EditTells", spec := "editTells", unfollowed := true, recurses := true, named := ["unicode/utf8.first", "unicode/utf8.acceptRanges"], plainKeys := false, apart := false, laid := [("unicode/utf8.acceptRanges", laid_unicode_utf8_acceptRanges), ("unicode/utf8.first", laid_unicode_utf8_first)], narrowed := true }
def EditTellsUptoSaid : Prop := editTellsUptoRow.holds Tryz.pinned (OpenSpec.upto editTellsSpec)

/-- 'lectionarylaw11.CaretStays', WHERE WHAT IT READS IS OF BULK AT MOST 1048576: true; the input reads as it did. -/
def caretStaysUptoRow : OpenClaim := { program := "ytlllghajjamdpaagreatdoor", sum := "60bbed6c024f5f6bc2e7e06567b0aaab114bab5ba2df907a11136471e5becf27", func := "lectionary/lectionarylaw11.CaretStays", spec := "caretStays", unfollowed := true, recurses := true, named := ["unicode/utf8.first", "unicode/utf8.acceptRanges"], plainKeys := false, apart := false, laid := [("unicode/utf8.acceptRanges", laid_unicode_utf8_acceptRanges), ("unicode/utf8.first", laid_unicode_utf8_first)], narrowed := true }
def CaretStaysUptoSaid : Prop := caretStaysUptoRow.holds Tryz.pinned (OpenSpec.upto caretStaysSpec)

end Rows
end Go.Proofs.YtlllghajjamdpaaGreatDoor
