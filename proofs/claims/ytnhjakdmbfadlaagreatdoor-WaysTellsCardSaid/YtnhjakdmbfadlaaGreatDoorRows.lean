/-
  NARROWER THAN 'FOR EVERY INPUT', by the rows' own cells (each row's printed sentence says how): WaysTells: laid · WaysSmall: laid · WaysWrong: laid · WaysWhole: laid · WaysLengths: laid.
  DERIVED. THE GIVEN ROWS OF THIS SEAT. 5 by the template 'for every input the law returns true; each argument reads behind the call as it read before'; 0 by the template 'total and deterministic' (their statements: YtnhjakdmbfadlaaGreatDoorTotals.lean).
  GIVEN WITH THE SEED: the statements are not yours to turn. If you find one false, say at which input.
  Laid BY PROGRAM, IN A SANDBOX (cutbox-rows.mjs): the forced cells as the released guide's own fill.sh prints them over the translation f7e4de17d8a3e1eb… (all of the seat's roots in one cut). By AI agents, Wed Nov 11 2026. No macro, syntax, notation, axiom, sorry.
-/
import Derived.Test.YtnhjakdmbfadlaaGreatDoorChecked
import GoSem.PinnedTables
import GoSem.Claim
import GoSem.ClaimJoined
import GoSem.ClaimMapViews
import Derived.JoinedTies
import Derived.KernelRfl
namespace Go.Proofs.YtnhjakdmbfadlaaGreatDoor
/- THE CELL 'sum', in the pinned program and in every row, IS THE sha256 OF THE DUMP (.gsa) THAT YtnhjakdmbfadlaaGreatDoorProg.lean LOADS. Nothing in Lean hashes anything: it is a label: what it is worth is what the hold of that sum in a sandbox is worth. -/
noncomputable def Tryz.pinned : Pinned := { name := "ytnhjakdmbfadlaagreatdoor", sum := "f7e4de17d8a3e1eb571fd4bda829aaffd2f1cca982a780519ae35cf28a605d65", checked := Tryz.checked }
namespace Rows
def none {H : Type} : Left H := { results := [], args := [] }

/- WHAT THE LISTED PACKAGE-LEVEL VARIABLES READ AS WHEN THE CALL BEGINS. Each datum BY PROGRAM (the guide's laid-datum.mjs) off the statement by which the dump's own 'gosem.cut.vars' lays the variable. In a bare row this is a premise. The card (YtnhjakdmbfadlaaGreatDoorCards.lean) ties it to the program's text. -/
def laid_unicode_utf8_acceptRanges {H : Type} : DataW H := .agg [.agg [.lit (.int .u8 128), .lit (.int .u8 191)], .agg [.lit (.int .u8 160), .lit (.int .u8 191)], .agg [.lit (.int .u8 128), .lit (.int .u8 159)], .agg [.lit (.int .u8 144), .lit (.int .u8 191)], .agg [.lit (.int .u8 128), .lit (.int .u8 143)], .agg [.lit (.int .u8 0), .lit (.int .u8 0)], .agg [.lit (.int .u8 0), .lit (.int .u8 0)], .agg [.lit (.int .u8 0), .lit (.int .u8 0)], .agg [.lit (.int .u8 0), .lit (.int .u8 0)], .agg [.lit (.int .u8 0), .lit (.int .u8 0)], .agg [.lit (.int .u8 0), .lit (.int .u8 0)], .agg [.lit (.int .u8 0), .lit (.int .u8 0)], .agg [.lit (.int .u8 0), .lit (.int .u8 0)], .agg [.lit (.int .u8 0), .lit (.int .u8 0)], .agg [.lit (.int .u8 0), .lit (.int .u8 0)], .agg [.lit (.int .u8 0), .lit (.int .u8 0)]]
def laid_gauger_ways_none {H : Type} : DataW H := .agg [.lit (.int .i64 (-1)), .lit (.int .i64 (-1))]
/-- One of Go's own tables, pinned by name: the form's constant. -/
def laid_unicode_utf8_first : DataW Unit := Go.Pinned.utf8First

/-- 'gaugerlaw08.WaysTells': WHATEVER THE INPUT: true; the input reads as it did. -/
def waysTellsSpec : ChangeSpec := { name := "waysTells", fn := fun _ => fun
  | [d1, d2] => { results := [.lit (.bool true)], args := [d1, d2] }
  | _ => none }
def waysTellsRow : OpenClaim := { program := "ytnhjakdmbfadlaagreatdoor", sum := "f7e4de17d8a3e1eb571fd4bda829aaffd2f1cca982a780519ae35cf28a605d65", func := "gauger/gaugerlaw08.WaysTells", spec := "waysTells", unfollowed := true, recurses := true, named := ["unicode/utf8.first", "unicode/utf8.acceptRanges", "gauger/ways.none"], plainKeys := false, apart := false, laid := [("unicode/utf8.acceptRanges", laid_unicode_utf8_acceptRanges), ("gauger/ways.none", laid_gauger_ways_none), ("unicode/utf8.first", laid_unicode_utf8_first)] }
def WaysTellsSaid : Prop := waysTellsRow.holds Tryz.pinned (OpenSpec.ofChange waysTellsSpec)

/-- ITS FALSE NEIGHBOUR: 'it returns false'. Refute it at one input. -/
def waysTellsWrong : ChangeSpec := { name := "waysTells", fn := fun _ => fun
  | [d1, d2] => { results := [.lit (.bool false)], args := [d1, d2] }
  | _ => none }
def WaysTellsWrongFalsely : Prop := waysTellsRow.holds Tryz.pinned (OpenSpec.ofChange waysTellsWrong)

/-- 'gaugerlaw08.WaysSmall': WHATEVER THE INPUT: true; the input reads as it did. -/
def waysSmallSpec : ChangeSpec := { name := "waysSmall", fn := fun _ => fun
  | [] => { results := [.lit (.bool true)], args := [] }
  | _ => none }
def waysSmallRow : OpenClaim := { program := "ytnhjakdmbfadlaagreatdoor", sum := "f7e4de17d8a3e1eb571fd4bda829aaffd2f1cca982a780519ae35cf28a605d65", func := "gauger/gaugerlaw08.WaysSmall", spec := "waysSmall", unfollowed := true, recurses := true, named := ["unicode/utf8.first", "unicode/utf8.acceptRanges", "gauger/ways.none"], plainKeys := false, apart := false, laid := [("unicode/utf8.acceptRanges", laid_unicode_utf8_acceptRanges), ("gauger/ways.none", laid_gauger_ways_none), ("unicode/utf8.first", laid_unicode_utf8_first)] }
def WaysSmallSaid : Prop := waysSmallRow.holds Tryz.pinned (OpenSpec.ofChange waysSmallSpec)

/-- ITS FALSE NEIGHBOUR: 'it returns false'. Refute it at one input. -/
def waysSmallWrong : ChangeSpec := { name := "waysSmall", fn := fun _ => fun
  | [] => { results := [.lit (.bool false)], args := [] }
  | _ => none }
def WaysSmallWrongFalsely : Prop := waysSmallRow.holds Tryz.pinned (OpenSpec.ofChange waysSmallWrong)

/-- 'gaugerlaw08.WaysWrong': WHATEVER THE INPUT: true; the input reads as it did. -/
def waysWrongSpec : ChangeSpec := { name := "waysWrong", fn := fun _ => fun
  | [d1, d2, d3] => { results := [.lit (.bool true)], args := [d1, d2, d3] }
  | _ => none }
def waysWrongRow : OpenClaim := { program := "ytnhjakdmbfadlaagreatdoor", sum := "f7e4de17d8a3e1eb571fd4bda829aaffd2f1cca982a780519ae35cf28a605d65", func := "gauger/gaugerlaw08.WaysWrong", spec := "waysWrong", unfollowed := true, recurses := true, named := ["unicode/utf8.first", "unicode/utf8.acceptRanges", "gauger/ways.none"], plainKeys := false, apart := false, laid := [("unicode/utf8.acceptRanges", laid_unicode_utf8_acceptRanges), ("gauger/ways.none", laid_gauger_ways_none), ("unicode/utf8.first", laid_unicode_utf8_first)] }
def WaysWrongSaid : Prop := waysWrongRow.holds Tryz.pinned (OpenSpec.ofChange waysWrongSpec)

/-- ITS FALSE NEIGHBOUR: 'it returns false'. Refute it at one input. -/
def waysWrongWrong : ChangeSpec := { name := "waysWrong", fn := fun _ => fun
  | [d1, d2, d3] => { results := [.lit (.bool false)], args := [d1, d2, d3] }
  | _ => none }
def WaysWrongWrongFalsely : Prop := waysWrongRow.holds Tryz.pinned (OpenSpec.ofChange waysWrongWrong)

/-- 'gaugerlaw08.WaysWhole': WHATEVER THE INPUT: true; the input reads as it did. -/
def waysWholeSpec : ChangeSpec := { name := "waysWhole", fn := fun _ => fun
  | [d1, d2] => { results := [.lit (.bool true)], args := [d1, d2] }
  | _ => none }
def waysWholeRow : OpenClaim := { program := "ytnhjakdmbfadlaagreatdoor", sum := "f7e4de17d8a3e1eb571fd4bda829aaffd2f1cca982a780519ae35cf28a605d65", func := "gauger/gaugerlaw08.WaysWhole", spec := "waysWhole", unfollowed := true, recurses := true, named := ["unicode/utf8.first", "unicode/utf8.acceptRanges", "gauger/ways.none"], plainKeys := false, apart := false, laid := [("unicode/utf8.acceptRanges", laid_unicode_utf8_acceptRanges), ("gauger/ways.none", laid_gauger_ways_none), ("unicode/utf8.first", laid_unicode_utf8_first)] }
def WaysWholeSaid : Prop := waysWholeRow.holds Tryz.pinned (OpenSpec.ofChange waysWholeSpec)

/-- ITS FALSE NEIGHBOUR: 'it returns false'. Refute it at one input. -/
def waysWholeWrong : ChangeSpec := { name := "waysWhole", fn := fun _ => fun
  | [d1, d2] => { results := [.lit (.bool false)], args := [d1, d2] }
  | _ => none }
def WaysWholeWrongFalsely : Prop := waysWholeRow.holds Tryz.pinned (OpenSpec.ofChange waysWholeWrong)

/-- 'gaugerlaw08.WaysLengths': WHATEVER THE INPUT: true; the input reads as it did. -/
def waysLengthsSpec : ChangeSpec := { name := "waysLengths", fn := fun _ => fun
  | [d1, d2] => { results := [.lit (.bool true)], args := [d1, d2] }
  | _ => none }
def waysLengthsRow : OpenClaim := { program := "ytnhjakdmbfadlaagreatdoor", sum := "f7e4de17d8a3e1eb571fd4bda829aaffd2f1cca982a780519ae35cf28a605d65", func := "gauger/gaugerlaw08.WaysLengths", spec := "waysLengths", unfollowed := true, recurses := true, named := ["unicode/utf8.first", "unicode/utf8.acceptRanges", "gauger/ways.none"], plainKeys := false, apart := false, laid := [("unicode/utf8.acceptRanges", laid_unicode_utf8_acceptRanges), ("gauger/ways.none", laid_gauger_ways_none), ("unicode/utf8.first", laid_unicode_utf8_first)] }
def WaysLengthsSaid : Prop := waysLengthsRow.holds Tryz.pinned (OpenSpec.ofChange waysLengthsSpec)

/-- ITS FALSE NEIGHBOUR: 'it returns false'. Refute it at one input. -/
def waysLengthsWrong : ChangeSpec := { name := "waysLengths", fn := fun _ => fun
  | [d1, d2] => { results := [.lit (.bool false)], args := [d1, d2] }
  | _ => none }
def WaysLengthsWrongFalsely : Prop := waysLengthsRow.holds Tryz.pinned (OpenSpec.ofChange waysLengthsWrong)

/- THE SECOND FORM. 'bulk': how many values and letters a reading holds, each counted each time it is reached (what is shared counts as often as it is met; a slice's spare places count too). A statement '..UptoSaid' is the law's where the arguments, and the package variables that the reading takes, are together of bulk at most 1048576: NARROWER than '..Said'. Prove '..Said' where nothing that the law and all that it calls make is longer than what came in: it says more and counts as full. Else prove '..UptoSaid'. A law counts once. -/
mutual
def uptoBulk {H : Type} : DataW H → Nat
  | .lit (.string bytes) => bytes.length + 1
  | .lit _ => 1
  | .nil => 1
  | .ptr d => uptoBulk d + 1
  | .slice elems spare => uptoBulkAll elems + uptoBulkAll spare + 1
  | .agg parts => uptoBulkAll parts + 1
  | .iface _ d => uptoBulk d + 1
  | .map entries => uptoBulkEntries entries + 1
  | .held _ => 1
def uptoBulkAll {H : Type} : List (DataW H) → Nat
  | [] => 0
  | d :: r => uptoBulk d + uptoBulkAll r
def uptoBulkEntries {H : Type} : List (Lit × DataW H) → Nat
  | [] => 0
  | x :: r => uptoBulkEntry x + uptoBulkEntries r
def uptoBulkEntry {H : Type} : Lit × DataW H → Nat
  | (.string bytes, d) => bytes.length + uptoBulk d + 1
  | (_, d) => uptoBulk d + 1
 end
def uptoSmall : (H : Type) → List (DataW H) → Bool := fun _ ds => decide (uptoBulkAll ds ≤ 1048576)
def OpenSpec.upto (s : _root_.Go.ChangeSpec) : _root_.Go.OpenSpec := { _root_.Go.OpenSpec.ofChange s with cond := some uptoSmall }

/-- 'gaugerlaw08.WaysTells', WHERE WHAT IT READS IS OF BULK AT MOST 1048576: true; the input reads as it did. -/
def waysTellsUptoRow : OpenClaim := { program := "ytnhjakdmbfadlaagreatdoor", sum := "f7e4de17d8a3e1eb571fd4bda829aaffd2f1cca982a780519ae35cf28a605d65", func := "gauger/gaugerlaw08.WaysTells", spec := "waysTells", unfollowed := true, recurses := true, named := ["unicode/utf8.first", "unicode/utf8.acceptRanges", "gauger/ways.none"], plainKeys := false, apart := false, laid := [("unicode/utf8.acceptRanges", laid_unicode_utf8_acceptRanges), ("gauger/ways.none", laid_gauger_ways_none), ("unicode/utf8.first", laid_unicode_utf8_first)], narrowed := true }
def WaysTellsUptoSaid : Prop := waysTellsUptoRow.holds Tryz.pinned (OpenSpec.upto waysTellsSpec)

/-- 'gaugerlaw08.WaysSmall', WHERE WHAT IT READS IS OF BULK AT MOST 1048576: true; the input reads as it did. -/
def waysSmallUptoRow : OpenClaim := { program := "ytnhjakdmbfadlaagreatdoor", sum := "f7e4de17d8a3e1eb571fd4bda829aaffd2f1cca982a780519ae35cf28a605d65", func := "gauger/gaugerlaw08.WaysSmall", spec := "waysSmall", unfollowed := true, recurses := true, named := ["unicode/utf8.first", "unicode/utf8.acceptRanges", "gauger/ways.none"], plainKeys := false, apart := false, laid := [("unicode/utf8.acceptRanges", laid_unicode_utf8_acceptRanges), ("gauger/ways.none", laid_gauger_ways_none), ("unicode/utf8.first", laid_unicode_utf8_first)], narrowed := true }
def WaysSmallUptoSaid : Prop := waysSmallUptoRow.holds Tryz.pinned (OpenSpec.upto waysSmallSpec)

/-- 'gaugerlaw08.WaysWrong', WHERE WHAT IT READS IS OF BULK AT MOST 1048576: true; the input reads as it did. -/
def waysWrongUptoRow : OpenClaim := { program := "ytnhjakdmbfadlaagreatdoor", sum := "f7e4de17d8a3e1eb571fd4bda829aaffd2f1cca982a780519ae35cf28a605d65", func := "gauger/gaugerlaw08.WaysWrong", spec := "waysWrong", unfollowed := true, recurses := true, named := ["unicode/utf8.first", "unicode/utf8.acceptRanges", "gauger/ways.none"], plainKeys := false, apart := false, laid := [("unicode/utf8.acceptRanges", laid_unicode_utf8_acceptRanges), ("gauger/ways.none", laid_gauger_ways_none), ("unicode/utf8.first", laid_unicode_utf8_first)], narrowed := true }
def WaysWrongUptoSaid : Prop := waysWrongUptoRow.holds Tryz.pinned (OpenSpec.upto waysWrongSpec)

/-- 'gaugerlaw08.WaysWhole', WHERE WHAT IT READS IS OF BULK AT MOST 1048576: true; the input reads as it did. -/
def waysWholeUptoRow : OpenClaim := { program := "ytnhjakdmbfadlaagreatdoor", sum := "f7e4de17d8a3e1eb571fd4bda829aaffd2f1cca982a780519ae35cf28a605d65", func := "gauger/gaugerlaw08.WaysWhole", spec := "waysWhole", unfollowed := true, recurses := true, named := ["unicode/utf8.first", "unicode/utf8.acceptRanges", "gauger/ways.none"], plainKeys := false, apart := false, laid := [("unicode/utf8.acceptRanges", laid_unicode_utf8_acceptRanges), ("gauger/ways.none", laid_gauger_ways_none), ("unicode/utf8.first", laid_unicode_utf8_first)], narrowed := true }
def WaysWholeUptoSaid : Prop := waysWholeUptoRow.holds Tryz.pinned (OpenSpec.upto waysWholeSpec)

/-- 'gaugerlaw08.WaysLengths', WHERE WHAT IT READS IS OF BULK AT MOST 1048576: true; the input reads as it did. -/
def waysLengthsUptoRow : OpenClaim := { program := "ytnhjakdmbfadlaagreatdoor", sum := "f7e4de17d8a3e1eb571fd4bda829aaffd2f1cca982a780519ae35cf28a605d65", func := "gauger/gaugerlaw08.WaysLengths", spec := "waysLengths", unfollowed := true, recurses := true, named := ["unicode/utf8.first", "unicode/utf8.acceptRanges", "gauger/ways.none"], plainKeys := false, apart := false, laid := [("unicode/utf8.acceptRanges", laid_unicode_utf8_acceptRanges), ("gauger/ways.none", laid_gauger_ways_none), ("unicode/utf8.first", laid_unicode_utf8_first)], narrowed := true }
def WaysLengthsUptoSaid : Prop := waysLengthsUptoRow.holds Tryz.pinned (OpenSpec.upto waysLengthsSpec)

end Rows
end Go.Proofs.YtnhjakdmbfadlaaGreatDoor
