/-
  NARROWER THAN 'FOR EVERY INPUT', by the rows' own cells (each row's printed sentence says how): WaysGroups: laid · WaysTimes: laid · WaysParts: laid.
  DERIVED. THE GIVEN ROWS OF THIS SEAT. 3 by the template 'for every input the law returns true; each argument reads behind the call as it read before'; 0 by the template 'total and deterministic' (their statements: YtnhjakdmbfadlaaDoorTotals.lean).
  GIVEN WITH THE SEED: the statements are not yours to turn. If you find one false, say at which input.
  Laid BY PROGRAM, IN A SANDBOX (cutbox-rows.mjs): the forced cells as the released guide's own fill.sh prints them over the translation 90adb5b29e084d7b… (all of the seat's roots in one cut). By AI agents, Wed Nov 11 2026. No macro, syntax, notation, axiom, sorry.
-/
import Derived.Test.YtnhjakdmbfadlaaDoorChecked
import GoSem.PinnedTables
import GoSem.Claim
import GoSem.ClaimJoined
import GoSem.ClaimMapViews
import Derived.JoinedTies
import Derived.KernelRfl
namespace Go.Proofs.YtnhjakdmbfadlaaDoor
/- THE CELL 'sum', in the pinned program and in every row, IS THE sha256 OF THE DUMP (.gsa) THAT YtnhjakdmbfadlaaDoorProg.lean LOADS. Nothing in Lean hashes anything: it is a label: what it is worth is what the hold of that sum in a sandbox is worth. -/
noncomputable def Tryd.pinned : Pinned := { name := "ytnhjakdmbfadlaadoor", sum := "90adb5b29e084d7b7122fb90675118e040518d6d371bca7325b732404dc4d684", checked := Tryd.checked }
namespace Rows
def none {H : Type} : Left H := { results := [], args := [] }

/- WHAT THE LISTED PACKAGE-LEVEL VARIABLES READ AS WHEN THE CALL BEGINS. Each datum BY PROGRAM (the guide's laid-datum.mjs) off the statement by which the dump's own 'gosem.cut.vars' lays the variable. In a bare row this is a premise. The card (YtnhjakdmbfadlaaDoorCards.lean) ties it to the program's text. -/
def laid_unicode_utf8_acceptRanges {H : Type} : DataW H := .agg [.agg [.lit (.int .u8 128), .lit (.int .u8 191)], .agg [.lit (.int .u8 160), .lit (.int .u8 191)], .agg [.lit (.int .u8 128), .lit (.int .u8 159)], .agg [.lit (.int .u8 144), .lit (.int .u8 191)], .agg [.lit (.int .u8 128), .lit (.int .u8 143)], .agg [.lit (.int .u8 0), .lit (.int .u8 0)], .agg [.lit (.int .u8 0), .lit (.int .u8 0)], .agg [.lit (.int .u8 0), .lit (.int .u8 0)], .agg [.lit (.int .u8 0), .lit (.int .u8 0)], .agg [.lit (.int .u8 0), .lit (.int .u8 0)], .agg [.lit (.int .u8 0), .lit (.int .u8 0)], .agg [.lit (.int .u8 0), .lit (.int .u8 0)], .agg [.lit (.int .u8 0), .lit (.int .u8 0)], .agg [.lit (.int .u8 0), .lit (.int .u8 0)], .agg [.lit (.int .u8 0), .lit (.int .u8 0)], .agg [.lit (.int .u8 0), .lit (.int .u8 0)]]
def laid_gauger_ways_none {H : Type} : DataW H := .agg [.lit (.int .i64 (-1)), .lit (.int .i64 (-1))]
/-- One of Go's own tables, pinned by name: the form's constant. -/
def laid_unicode_utf8_first : DataW Unit := Go.Pinned.utf8First

/-- 'gaugerlaw08.WaysGroups': WHATEVER THE INPUT: true; the input reads as it did. -/
def waysGroupsSpec : ChangeSpec := { name := "waysGroups", fn := fun _ => fun
  | [d1, d2] => { results := [.lit (.bool true)], args := [d1, d2] }
  | _ => none }
def waysGroupsRow : OpenClaim := { program := "ytnhjakdmbfadlaadoor", sum := "90adb5b29e084d7b7122fb90675118e040518d6d371bca7325b732404dc4d684", func := "gauger/gaugerlaw08.WaysGroups", spec := "waysGroups", unfollowed := true, recurses := true, named := ["unicode/utf8.first", "unicode/utf8.acceptRanges", "gauger/ways.none"], plainKeys := false, apart := false, laid := [("unicode/utf8.acceptRanges", laid_unicode_utf8_acceptRanges), ("gauger/ways.none", laid_gauger_ways_none), ("unicode/utf8.first", laid_unicode_utf8_first)] }
def WaysGroupsSaid : Prop := waysGroupsRow.holds Tryd.pinned (OpenSpec.ofChange waysGroupsSpec)

/-- ITS FALSE NEIGHBOUR: 'it returns false'. Refute it at one input. -/
def waysGroupsWrong : ChangeSpec := { name := "waysGroups", fn := fun _ => fun
  | [d1, d2] => { results := [.lit (.bool false)], args := [d1, d2] }
  | _ => none }
def WaysGroupsWrongFalsely : Prop := waysGroupsRow.holds Tryd.pinned (OpenSpec.ofChange waysGroupsWrong)

/-- 'gaugerlaw08.WaysTimes': WHATEVER THE INPUT: true; the input reads as it did. -/
def waysTimesSpec : ChangeSpec := { name := "waysTimes", fn := fun _ => fun
  | [d1, d2, d3, d4] => { results := [.lit (.bool true)], args := [d1, d2, d3, d4] }
  | _ => none }
def waysTimesRow : OpenClaim := { program := "ytnhjakdmbfadlaadoor", sum := "90adb5b29e084d7b7122fb90675118e040518d6d371bca7325b732404dc4d684", func := "gauger/gaugerlaw08.WaysTimes", spec := "waysTimes", unfollowed := true, recurses := true, named := ["unicode/utf8.first", "unicode/utf8.acceptRanges", "gauger/ways.none"], plainKeys := false, apart := false, laid := [("unicode/utf8.acceptRanges", laid_unicode_utf8_acceptRanges), ("gauger/ways.none", laid_gauger_ways_none), ("unicode/utf8.first", laid_unicode_utf8_first)] }
def WaysTimesSaid : Prop := waysTimesRow.holds Tryd.pinned (OpenSpec.ofChange waysTimesSpec)

/-- ITS FALSE NEIGHBOUR: 'it returns false'. Refute it at one input. -/
def waysTimesWrong : ChangeSpec := { name := "waysTimes", fn := fun _ => fun
  | [d1, d2, d3, d4] => { results := [.lit (.bool false)], args := [d1, d2, d3, d4] }
  | _ => none }
def WaysTimesWrongFalsely : Prop := waysTimesRow.holds Tryd.pinned (OpenSpec.ofChange waysTimesWrong)

/-- 'gaugerlaw08.WaysParts': WHATEVER THE INPUT: true; the input reads as it did. -/
def waysPartsSpec : ChangeSpec := { name := "waysParts", fn := fun _ => fun
  | [d1, d2, d3] => { results := [.lit (.bool true)], args := [d1, d2, d3] }
  | _ => none }
def waysPartsRow : OpenClaim := { program := "ytnhjakdmbfadlaadoor", sum := "90adb5b29e084d7b7122fb90675118e040518d6d371bca7325b732404dc4d684", func := "gauger/gaugerlaw08.WaysParts", spec := "waysParts", unfollowed := true, recurses := true, named := ["unicode/utf8.first", "unicode/utf8.acceptRanges", "gauger/ways.none"], plainKeys := false, apart := false, laid := [("unicode/utf8.acceptRanges", laid_unicode_utf8_acceptRanges), ("gauger/ways.none", laid_gauger_ways_none), ("unicode/utf8.first", laid_unicode_utf8_first)] }
def WaysPartsSaid : Prop := waysPartsRow.holds Tryd.pinned (OpenSpec.ofChange waysPartsSpec)

/-- ITS FALSE NEIGHBOUR: 'it returns false'. Refute it at one input. -/
def waysPartsWrong : ChangeSpec := { name := "waysParts", fn := fun _ => fun
  | [d1, d2, d3] => { results := [.lit (.bool false)], args := [d1, d2, d3] }
  | _ => none }
def WaysPartsWrongFalsely : Prop := waysPartsRow.holds Tryd.pinned (OpenSpec.ofChange waysPartsWrong)

/- THE SECOND FORM. 'bulk': how many values and letters a reading holds, each counted each time it is reached (what is shared counts as often as it is met; a slice's spare places count too). A statement '..UptoSaid' is the law's where the arguments, and the package variables that the reading takes, are together of bulk at most 1048576: NARROWER than '..Said'. Prove '..Said' where nothing that the law and all that it calls make is longer than what came in: it says more and counts as full. Else prove '..UptoSaid'. A law counts once. -/
mutual
def uptoBulk {H : Type} : DataW H → Nat
  | .lit (.string bytes) => bytes.length + 1
  | .lit _ => 1
  | .nil => 1
  | .ptr d => uptoBulk d + 1
  | .slice elems spare => uptoBulkAll elems + uptoBulkAll spare + 1
  | .agg parts => uptoBulkAll parts + 1
  | .iface _ d => uptoBulk d + 1
  | .map entries => uptoBulkEntries entries + 1
  | .held _ => 1
def uptoBulkAll {H : Type} : List (DataW H) → Nat
  | [] => 0
  | d :: r => uptoBulk d + uptoBulkAll r
def uptoBulkEntries {H : Type} : List (Lit × DataW H) → Nat
  | [] => 0
  | x :: r => uptoBulkEntry x + uptoBulkEntries r
def uptoBulkEntry {H : Type} : Lit × DataW H → Nat
  | (.string bytes, d) => bytes.length + uptoBulk d + 1
  | (_, d) => uptoBulk d + 1
 end
def uptoSmall : (H : Type) → List (DataW H) → Bool := fun _ ds => decide (uptoBulkAll ds ≤ 1048576)
def OpenSpec.upto (s : _root_.Go.ChangeSpec) : _root_.Go.OpenSpec := { _root_.Go.OpenSpec.ofChange s with cond := some uptoSmall }

/-- 'gaugerlaw08.WaysGroups', WHERE WHAT IT READS IS OF BULK AT MOST 1048576: true; the input reads as it did. -/
def waysGroupsUptoRow : OpenClaim := { program := "ytnhjakdmbfadlaadoor", sum := "90adb5b29e084d7b7122fb90675118e040518d6d371bca7325b732404dc4d684", func := "gauger/gaugerlaw08.WaysGroups", spec := "waysGroups", unfollowed := true, recurses := true, named := ["unicode/utf8.first", "unicode/utf8.acceptRanges", "gauger/ways.none"], plainKeys := false, apart := false, laid := [("unicode/utf8.acceptRanges", laid_unicode_utf8_acceptRanges), ("gauger/ways.none", laid_gauger_ways_none), ("unicode/utf8.first", laid_unicode_utf8_first)], narrowed := true }
def WaysGroupsUptoSaid : Prop := waysGroupsUptoRow.holds Tryd.pinned (OpenSpec.upto waysGroupsSpec)

/-- 'gaugerlaw08.WaysTimes', WHERE WHAT IT READS IS OF BULK AT MOST 1048576: true; the input reads as it did. -/
def waysTimesUptoRow : OpenClaim := { program := "ytnhjakdmbfadlaadoor", sum := "90adb5b29e084d7b7122fb90675118e040518d6d371bca7325b732404dc4d684", func := "gauger/gaugerlaw08.WaysTimes", spec := "waysTimes", unfollowed := true, recurses := true, named := ["unicode/utf8.first", "unicode/utf8.acceptRanges", "gauger/ways.none"], plainKeys := false, apart := false, laid := [("unicode/utf8.acceptRanges", laid_unicode_utf8_acceptRanges), ("gauger/ways.none", laid_gauger_ways_none), ("unicode/utf8.first", laid_unicode_utf8_first)], narrowed := true }
def WaysTimesUptoSaid : Prop := waysTimesUptoRow.holds Tryd.pinned (OpenSpec.upto waysTimesSpec)

/-- 'gaugerlaw08.WaysParts', WHERE WHAT IT READS IS OF BULK AT MOST 1048576: true; the input reads as it did. -/
def waysPartsUptoRow : OpenClaim := { program := "ytnhjakdmbfadlaadoor", sum := "90adb5b29e084d7b7122fb90675118e040518d6d371bca7325b732404dc4d684", func := "gauger/gaugerlaw08.WaysParts", spec := "waysParts", unfollowed := true, recurses := true, named := ["unicode/utf8.first", "unicode/utf8.acceptRanges", "gauger/ways.none"], plainKeys := false, apart := false, laid := [("unicode/utf8.acceptRanges", laid_unicode_utf8_acceptRanges), ("gauger/ways.none", laid_gauger_ways_none), ("unicode/utf8.first", laid_unicode_utf8_first)], narrowed := true }
def WaysPartsUptoSaid : Prop := waysPartsUptoRow.holds Tryd.pinned (OpenSpec.upto waysPartsSpec)

end Rows
end Go.Proofs.YtnhjakdmbfadlaaDoor
