/-
  No cell of these rows narrows 'for every input' (looked for: loops, veiled, ifaces, maps, wideKeys, modest, calm, conditions, laid).
  DERIVED. THE GIVEN ROWS OF THIS SEAT. 7 by the template 'for every input the law returns true; each argument reads behind the call as it read before'; 0 by the template 'total and deterministic' (their statements: YtokgfmibhkkiaaaTotals.lean).
  GIVEN WITH THE SEED: the statements are not yours to turn. If you find one false, say at which input.
  Laid BY PROGRAM, IN A SANDBOX (cutbox-rows.mjs): the forced cells as the released guide's own fill.sh prints them over the translation 27ff288410f6e5bd… (all of the seat's roots in one cut). By AI agents, Wed Nov 11 2026. No macro, syntax, notation, axiom, sorry.
-/
import Derived.Test.YtokgfmibhkkiaaaChecked
import GoSem.Claim
import GoSem.ClaimJoined
import GoSem.ClaimMapViews
import Derived.JoinedTies
import Derived.KernelRfl
namespace Go.Proofs.Ytokgfmibhkkiaaa
/- THE CELL 'sum', in the pinned program and in every row, IS THE sha256 OF THE DUMP (.gsa) THAT YtokgfmibhkkiaaaProg.lean LOADS. Nothing in Lean hashes anything: it is a label: what it is worth is what the hold of that sum in a sandbox is worth. -/
noncomputable def Try.pinned : Pinned := { name := "ytokgfmibhkkiaaa", sum := "27ff288410f6e5bd97be460054e0ea3574ea5a64816ba66444a631a3e84fa197", checked := Try.checked }
namespace Rows
def none {H : Type} : Left H := { results := [], args := [] }

/-- 'gaugerlaw29.WheelWakes': WHATEVER THE INPUT: true; the input reads as it did. -/
def wheelWakesSpec : ChangeSpec := { name := "wheelWakes", fn := fun _ => fun
  | [d1, d2] => { results := [.lit (.bool true)], args := [d1, d2] }
  | _ => none }
def wheelWakesRow : OpenClaim := { program := "ytokgfmibhkkiaaa", sum := "27ff288410f6e5bd97be460054e0ea3574ea5a64816ba66444a631a3e84fa197", func := "gauger/gaugerlaw29.WheelWakes", spec := "wheelWakes", unfollowed := true, recurses := true, apart := false }
def WheelWakesSaid : Prop := wheelWakesRow.holds Try.pinned (OpenSpec.ofChange wheelWakesSpec)

/-- ITS FALSE NEIGHBOUR: 'it returns false'. Refute it at one input. -/
def wheelWakesWrong : ChangeSpec := { name := "wheelWakes", fn := fun _ => fun
  | [d1, d2] => { results := [.lit (.bool false)], args := [d1, d2] }
  | _ => none }
def WheelWakesWrongFalsely : Prop := wheelWakesRow.holds Try.pinned (OpenSpec.ofChange wheelWakesWrong)

/-- 'gaugerlaw29.WheelParts': WHATEVER THE INPUT: true; the input reads as it did. -/
def wheelPartsSpec : ChangeSpec := { name := "wheelParts", fn := fun _ => fun
  | [d1, d2, d3, d4, d5] => { results := [.lit (.bool true)], args := [d1, d2, d3, d4, d5] }
  | _ => none }
def wheelPartsRow : OpenClaim := { program := "ytokgfmibhkkiaaa", sum := "27ff288410f6e5bd97be460054e0ea3574ea5a64816ba66444a631a3e84fa197", func := "gauger/gaugerlaw29.WheelParts", spec := "wheelParts", unfollowed := true, recurses := true, apart := false }
def WheelPartsSaid : Prop := wheelPartsRow.holds Try.pinned (OpenSpec.ofChange wheelPartsSpec)

/-- ITS FALSE NEIGHBOUR: 'it returns false'. Refute it at one input. -/
def wheelPartsWrong : ChangeSpec := { name := "wheelParts", fn := fun _ => fun
  | [d1, d2, d3, d4, d5] => { results := [.lit (.bool false)], args := [d1, d2, d3, d4, d5] }
  | _ => none }
def WheelPartsWrongFalsely : Prop := wheelPartsRow.holds Try.pinned (OpenSpec.ofChange wheelPartsWrong)

/-- 'gaugerlaw29.WheelApart': WHATEVER THE INPUT: true; the input reads as it did. -/
def wheelApartSpec : ChangeSpec := { name := "wheelApart", fn := fun _ => fun
  | [d1, d2, d3, d4] => { results := [.lit (.bool true)], args := [d1, d2, d3, d4] }
  | _ => none }
def wheelApartRow : OpenClaim := { program := "ytokgfmibhkkiaaa", sum := "27ff288410f6e5bd97be460054e0ea3574ea5a64816ba66444a631a3e84fa197", func := "gauger/gaugerlaw29.WheelApart", spec := "wheelApart", unfollowed := true, recurses := true, apart := false }
def WheelApartSaid : Prop := wheelApartRow.holds Try.pinned (OpenSpec.ofChange wheelApartSpec)

/-- ITS FALSE NEIGHBOUR: 'it returns false'. Refute it at one input. -/
def wheelApartWrong : ChangeSpec := { name := "wheelApart", fn := fun _ => fun
  | [d1, d2, d3, d4] => { results := [.lit (.bool false)], args := [d1, d2, d3, d4] }
  | _ => none }
def WheelApartWrongFalsely : Prop := wheelApartRow.holds Try.pinned (OpenSpec.ofChange wheelApartWrong)

/-- 'gaugerlaw29.WheelActs': WHATEVER THE INPUT: true; the input reads as it did. -/
def wheelActsSpec : ChangeSpec := { name := "wheelActs", fn := fun _ => fun
  | [d1, d2] => { results := [.lit (.bool true)], args := [d1, d2] }
  | _ => none }
def wheelActsRow : OpenClaim := { program := "ytokgfmibhkkiaaa", sum := "27ff288410f6e5bd97be460054e0ea3574ea5a64816ba66444a631a3e84fa197", func := "gauger/gaugerlaw29.WheelActs", spec := "wheelActs", unfollowed := true, recurses := true, apart := false }
def WheelActsSaid : Prop := wheelActsRow.holds Try.pinned (OpenSpec.ofChange wheelActsSpec)

/-- ITS FALSE NEIGHBOUR: 'it returns false'. Refute it at one input. -/
def wheelActsWrong : ChangeSpec := { name := "wheelActs", fn := fun _ => fun
  | [d1, d2] => { results := [.lit (.bool false)], args := [d1, d2] }
  | _ => none }
def WheelActsWrongFalsely : Prop := wheelActsRow.holds Try.pinned (OpenSpec.ofChange wheelActsWrong)

/-- 'gaugerlaw29.WheelSmall': WHATEVER THE INPUT: true; the input reads as it did. -/
def wheelSmallSpec : ChangeSpec := { name := "wheelSmall", fn := fun _ => fun
  | [] => { results := [.lit (.bool true)], args := [] }
  | _ => none }
def wheelSmallRow : OpenClaim := { program := "ytokgfmibhkkiaaa", sum := "27ff288410f6e5bd97be460054e0ea3574ea5a64816ba66444a631a3e84fa197", func := "gauger/gaugerlaw29.WheelSmall", spec := "wheelSmall", unfollowed := true, recurses := true, apart := false }
def WheelSmallSaid : Prop := wheelSmallRow.holds Try.pinned (OpenSpec.ofChange wheelSmallSpec)

/-- ITS FALSE NEIGHBOUR: 'it returns false'. Refute it at one input. -/
def wheelSmallWrong : ChangeSpec := { name := "wheelSmall", fn := fun _ => fun
  | [] => { results := [.lit (.bool false)], args := [] }
  | _ => none }
def WheelSmallWrongFalsely : Prop := wheelSmallRow.holds Try.pinned (OpenSpec.ofChange wheelSmallWrong)

/-- 'gaugerlaw29.WheelLists': WHATEVER THE INPUT: true; the input reads as it did. -/
def wheelListsSpec : ChangeSpec := { name := "wheelLists", fn := fun _ => fun
  | [d1, d2, d3, d4] => { results := [.lit (.bool true)], args := [d1, d2, d3, d4] }
  | _ => none }
def wheelListsRow : OpenClaim := { program := "ytokgfmibhkkiaaa", sum := "27ff288410f6e5bd97be460054e0ea3574ea5a64816ba66444a631a3e84fa197", func := "gauger/gaugerlaw29.WheelLists", spec := "wheelLists", unfollowed := true, recurses := true, apart := false }
def WheelListsSaid : Prop := wheelListsRow.holds Try.pinned (OpenSpec.ofChange wheelListsSpec)

/-- ITS FALSE NEIGHBOUR: 'it returns false'. Refute it at one input. -/
def wheelListsWrong : ChangeSpec := { name := "wheelLists", fn := fun _ => fun
  | [d1, d2, d3, d4] => { results := [.lit (.bool false)], args := [d1, d2, d3, d4] }
  | _ => none }
def WheelListsWrongFalsely : Prop := wheelListsRow.holds Try.pinned (OpenSpec.ofChange wheelListsWrong)

/-- 'gaugerlaw29.WheelWrong': WHATEVER THE INPUT: true; the input reads as it did. -/
def wheelWrongSpec : ChangeSpec := { name := "wheelWrong", fn := fun _ => fun
  | [d1, d2, d3, d4] => { results := [.lit (.bool true)], args := [d1, d2, d3, d4] }
  | _ => none }
def wheelWrongRow : OpenClaim := { program := "ytokgfmibhkkiaaa", sum := "27ff288410f6e5bd97be460054e0ea3574ea5a64816ba66444a631a3e84fa197", func := "gauger/gaugerlaw29.WheelWrong", spec := "wheelWrong", unfollowed := true, recurses := true, apart := false }
def WheelWrongSaid : Prop := wheelWrongRow.holds Try.pinned (OpenSpec.ofChange wheelWrongSpec)

/-- ITS FALSE NEIGHBOUR: 'it returns false'. Refute it at one input. -/
def wheelWrongWrong : ChangeSpec := { name := "wheelWrong", fn := fun _ => fun
  | [d1, d2, d3, d4] => { results := [.lit (.bool false)], args := [d1, d2, d3, d4] }
  | _ => none }
def WheelWrongWrongFalsely : Prop := wheelWrongRow.holds Try.pinned (OpenSpec.ofChange wheelWrongWrong)

/- THE SECOND FORM. 'bulk': how many values and letters a reading holds, each counted each time it is reached (what is shared counts as often as it is met; a slice's spare places count too). A statement '..UptoSaid' is the law's where the arguments, and the package variables that the reading takes, are together of bulk at most 1048576: NARROWER than '..Said'. Prove '..Said' where nothing that the law and all that it calls make is longer than what came in: it says more and counts as full. Else prove '..UptoSaid'. A law counts once. -/
mutual
def uptoBulk {H : Type} : DataW H → Nat
  | .lit (.string bytes) => bytes.length + 1
  | .lit _ => 1
  | .nil => 1
  | .ptr d => uptoBulk d + 1
  | .slice elems spare => uptoBulkAll elems + uptoBulkAll spare + 1
  | .agg parts => uptoBulkAll parts + 1
  | .iface _ d => uptoBulk d + 1
  | .map entries => uptoBulkEntries entries + 1
  | .held _ => 1
def uptoBulkAll {H : Type} : List (DataW H) → Nat
  | [] => 0
  | d :: r => uptoBulk d + uptoBulkAll r
def uptoBulkEntries {H : Type} : List (Lit × DataW H) → Nat
  | [] => 0
  | x :: r => uptoBulkEntry x + uptoBulkEntries r
def uptoBulkEntry {H : Type} : Lit × DataW H → Nat
  | (.string bytes, d) => bytes.length + uptoBulk d + 1
  | (_, d) => uptoBulk d + 1
 end
def uptoSmall : (H : Type) → List (DataW H) → Bool := fun _ ds => decide (uptoBulkAll ds ≤ 1048576)
def OpenSpec.upto (s : _root_.Go.ChangeSpec) : _root_.Go.OpenSpec := { _root_.Go.OpenSpec.ofChange s with cond := some uptoSmall }

/-- 'gaugerlaw29.WheelWakes', WHERE WHAT IT READS IS OF BULK AT MOST 1048576: true; the input reads as it did. -/
def wheelWakesUptoRow : OpenClaim := { program := "ytokgfmibhkkiaaa", sum := "27ff288410f6e5bd97be460054e0ea3574ea5a64816ba66444a631a3e84fa197", func := "gauger/gaugerlaw29.WheelWakes", spec := "wheelWakes", unfollowed := true, recurses := true, apart := false, narrowed := true }
def WheelWakesUptoSaid : Prop := wheelWakesUptoRow.holds Try.pinned (OpenSpec.upto wheelWakesSpec)

/-- 'gaugerlaw29.WheelParts', WHERE WHAT IT READS IS OF BULK AT MOST 1048576: true; the input reads as it did. -/
def wheelPartsUptoRow : OpenClaim := { program := "ytokgfmibhkkiaaa", sum := "27ff288410f6e5bd97be460054e0ea3574ea5a64816ba66444a631a3e84fa197", func := "gauger/gaugerlaw29.WheelParts", spec := "wheelParts", unfollowed := true, recurses := true, apart := false, narrowed := true }
def WheelPartsUptoSaid : Prop := wheelPartsUptoRow.holds Try.pinned (OpenSpec.upto wheelPartsSpec)

/-- 'gaugerlaw29.WheelApart', WHERE WHAT IT READS IS OF BULK AT MOST 1048576: true; the input reads as it did. -/
def wheelApartUptoRow : OpenClaim := { program := "ytokgfmibhkkiaaa", sum := "27ff288410f6e5bd97be460054e0ea3574ea5a64816ba66444a631a3e84fa197", func := "gauger/gaugerlaw29.WheelApart", spec := "wheelApart", unfollowed := true, recurses := true, apart := false, narrowed := true }
def WheelApartUptoSaid : Prop := wheelApartUptoRow.holds Try.pinned (OpenSpec.upto wheelApartSpec)

/-- 'gaugerlaw29.WheelActs', WHERE WHAT IT READS IS OF BULK AT MOST 1048576: true; the input reads as it did. -/
def wheelActsUptoRow : OpenClaim := { program := "ytokgfmibhkkiaaa", sum := "27ff288410f6e5bd97be460054e0ea3574ea5a64816ba66444a631a3e84fa197", func := "gauger/gaugerlaw29.WheelActs", spec := "wheelActs", unfollowed := true, recurses := true, apart := false, narrowed := true }
def WheelActsUptoSaid : Prop := wheelActsUptoRow.holds Try.pinned (OpenSpec.upto wheelActsSpec)

/-- 'gaugerlaw29.WheelSmall', WHERE WHAT IT READS IS OF BULK AT MOST 1048576: true; the input reads as it did. -/
def wheelSmallUptoRow : OpenClaim := { program := "ytokgfmibhkkiaaa", sum := "27ff288410f6e5bd97be460054e0ea3574ea5a64816ba66444a631a3e84fa197", func := "gauger/gaugerlaw29.WheelSmall", spec := "wheelSmall", unfollowed := true, recurses := true, apart := false, narrowed := true }
def WheelSmallUptoSaid : Prop := wheelSmallUptoRow.holds Try.pinned (OpenSpec.upto wheelSmallSpec)

/-- 'gaugerlaw29.WheelLists', WHERE WHAT IT READS IS OF BULK AT MOST 1048576: true; the input reads as it did. -/
def wheelListsUptoRow : OpenClaim := { program := "ytokgfmibhkkiaaa", sum := "27ff288410f6e5bd97be460054e0ea3574ea5a64816ba66444a631a3e84fa197", func := "gauger/gaugerlaw29.WheelLists", spec := "wheelLists", unfollowed := true, recurses := true, apart := false, narrowed := true }
def WheelListsUptoSaid : Prop := wheelListsUptoRow.holds Try.pinned (OpenSpec.upto wheelListsSpec)

/-- 'gaugerlaw29.WheelWrong', WHERE WHAT IT READS IS OF BULK AT MOST 1048576: true; the input reads as it did. -/
def wheelWrongUptoRow : OpenClaim := { program := "ytokgfmibhkkiaaa", sum := "27ff288410f6e5bd97be460054e0ea3574ea5a64816ba66444a631a3e84fa197", func := "gauger/gaugerlaw29.WheelWrong", spec := "wheelWrong", unfollowed := true, recurses := true, apart := false, narrowed := true }
def WheelWrongUptoSaid : Prop := wheelWrongUptoRow.holds Try.pinned (OpenSpec.upto wheelWrongSpec)

end Rows
end Go.Proofs.Ytokgfmibhkkiaaa
