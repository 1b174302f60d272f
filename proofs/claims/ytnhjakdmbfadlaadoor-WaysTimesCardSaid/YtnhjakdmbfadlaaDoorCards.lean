/-
  DERIVED. GIVEN WITH THE SEED: THE CARDS: each row of YtnhjakdmbfadlaaDoorRows.lean that lists a variable, with what it lists TIED to the program's text (the seventh form; the later family's looks); each row that meets fmt, with fmt's text TOLD by the authors' own Lean function (tested against real Go, not proved from fmt's source: count such statements apart). THE CARD IS WHAT COUNTS. Prove the row's statement (the work); the ties are given (YtnhjakdmbfadlaaDoorTie.lean); close each card by the builder's one call (the guide's Derived/Test/ToyasCard.lean, 'card_holds'). Laid BY PROGRAM, IN A SANDBOX (cutbox-door.mjs). By AI agents, Wed Nov 11 2026. No macro, syntax, notation, axiom, sorry.
-/
import Derived.Test.YtnhjakdmbfadlaaDoorRows
import GoSem.ClaimSeven
namespace Go.Proofs.YtnhjakdmbfadlaaDoor
namespace Rows

/-- THE TIED CARD OF 'gaugerlaw08.WaysGroups'. -/
def waysGroupsCard : Claim7 := { stood := { row := waysGroupsRow, standIns := [], harness := (true, "cbbe9cb637e78d4547536f39f8e5b7334c7a7c67499d01c640f28ef43f5cb304"), looks := false }, kinds := [], alts := [], laidByText := true, laidKinds := [.data, .data, .pinned], laidTests := true, laidLooks := .later }
def WaysGroupsCardSaid : Prop := Claim7.holds Tryd.pinned (.plain (OpenSpec.ofChange waysGroupsSpec)) waysGroupsCard

/-- THE TIED CARD OF 'gaugerlaw08.WaysTimes'. -/
def waysTimesCard : Claim7 := { stood := { row := waysTimesRow, standIns := [], harness := (true, "cbbe9cb637e78d4547536f39f8e5b7334c7a7c67499d01c640f28ef43f5cb304"), looks := false }, kinds := [], alts := [], laidByText := true, laidKinds := [.data, .data, .pinned], laidTests := true, laidLooks := .later }
def WaysTimesCardSaid : Prop := Claim7.holds Tryd.pinned (.plain (OpenSpec.ofChange waysTimesSpec)) waysTimesCard

/-- THE TIED CARD OF 'gaugerlaw08.WaysParts'. -/
def waysPartsCard : Claim7 := { stood := { row := waysPartsRow, standIns := [], harness := (true, "cbbe9cb637e78d4547536f39f8e5b7334c7a7c67499d01c640f28ef43f5cb304"), looks := false }, kinds := [], alts := [], laidByText := true, laidKinds := [.data, .data, .pinned], laidTests := true, laidLooks := .later }
def WaysPartsCardSaid : Prop := Claim7.holds Tryd.pinned (.plain (OpenSpec.ofChange waysPartsSpec)) waysPartsCard

/-- THE SECOND FORM's CARD OF 'gaugerlaw08.WaysGroups'. -/
def waysGroupsUptoCard : Claim7 := { stood := { row := waysGroupsUptoRow, standIns := [], harness := (true, "cbbe9cb637e78d4547536f39f8e5b7334c7a7c67499d01c640f28ef43f5cb304"), looks := false }, kinds := [], alts := [], laidByText := true, laidKinds := [.data, .data, .pinned], laidTests := true, laidLooks := .later }
def WaysGroupsUptoCardSaid : Prop := Claim7.holds Tryd.pinned (.plain (OpenSpec.upto waysGroupsSpec)) waysGroupsUptoCard

/-- THE SECOND FORM's CARD OF 'gaugerlaw08.WaysTimes'. -/
def waysTimesUptoCard : Claim7 := { stood := { row := waysTimesUptoRow, standIns := [], harness := (true, "cbbe9cb637e78d4547536f39f8e5b7334c7a7c67499d01c640f28ef43f5cb304"), looks := false }, kinds := [], alts := [], laidByText := true, laidKinds := [.data, .data, .pinned], laidTests := true, laidLooks := .later }
def WaysTimesUptoCardSaid : Prop := Claim7.holds Tryd.pinned (.plain (OpenSpec.upto waysTimesSpec)) waysTimesUptoCard

/-- THE SECOND FORM's CARD OF 'gaugerlaw08.WaysParts'. -/
def waysPartsUptoCard : Claim7 := { stood := { row := waysPartsUptoRow, standIns := [], harness := (true, "cbbe9cb637e78d4547536f39f8e5b7334c7a7c67499d01c640f28ef43f5cb304"), looks := false }, kinds := [], alts := [], laidByText := true, laidKinds := [.data, .data, .pinned], laidTests := true, laidLooks := .later }
def WaysPartsUptoCardSaid : Prop := Claim7.holds Tryd.pinned (.plain (OpenSpec.upto waysPartsSpec)) waysPartsUptoCard
end Rows
end Go.Proofs.YtnhjakdmbfadlaaDoor
