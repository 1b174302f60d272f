/-
  DERIVED. GIVEN WITH THE SEED: THE CARDS: each row of YtnhjakdmbfadlaaGreatDoorRows.lean that lists a variable, with what it lists TIED to the program's text (the seventh form; the later family's looks); each row that meets fmt, with fmt's text TOLD by the authors' own Lean function (tested against real Go, not proved from fmt's source: count such statements apart). THE CARD IS WHAT COUNTS. Prove the row's statement (the work); the ties are given (YtnhjakdmbfadlaaGreatDoorTie.lean); close each card by the builder's one call (the guide's Derived/Test/ToyasCard.lean, 'card_holds'). Laid BY PROGRAM, IN A SANDBOX (cutbox-door.mjs). By AI agents, Wed Nov 11 2026. No macro, syntax, notation, axiom, sorry.
-/
import Derived.Test.YtnhjakdmbfadlaaGreatDoorRows
import GoSem.ClaimSeven
namespace Go.Proofs.YtnhjakdmbfadlaaGreatDoor
namespace Rows

/-- THE TIED CARD OF 'gaugerlaw08.WaysTells'. -/
def waysTellsCard : Claim7 := { stood := { row := waysTellsRow, standIns := [], harness := (true, "7c830fab17d76a26cabd17e087376f401efeb1d04ec0647722cd18c51aabe9a5"), looks := false }, kinds := [], alts := [], laidByText := true, laidKinds := [.data, .data, .pinned], laidTests := true, laidLooks := .later }
def WaysTellsCardSaid : Prop := Claim7.holds Tryz.pinned (.plain (OpenSpec.ofChange waysTellsSpec)) waysTellsCard

/-- THE TIED CARD OF 'gaugerlaw08.WaysSmall'. -/
def waysSmallCard : Claim7 := { stood := { row := waysSmallRow, standIns := [], harness := (true, "7c830fab17d76a26cabd17e087376f401efeb1d04ec0647722cd18c51aabe9a5"), looks := false }, kinds := [], alts := [], laidByText := true, laidKinds := [.data, .data, .pinned], laidTests := true, laidLooks := .later }
def WaysSmallCardSaid : Prop := Claim7.holds Tryz.pinned (.plain (OpenSpec.ofChange waysSmallSpec)) waysSmallCard

/-- THE TIED CARD OF 'gaugerlaw08.WaysWrong'. -/
def waysWrongCard : Claim7 := { stood := { row := waysWrongRow, standIns := [], harness := (true, "7c830fab17d76a26cabd17e087376f401efeb1d04ec0647722cd18c51aabe9a5"), looks := false }, kinds := [], alts := [], laidByText := true, laidKinds := [.data, .data, .pinned], laidTests := true, laidLooks := .later }
def WaysWrongCardSaid : Prop := Claim7.holds Tryz.pinned (.plain (OpenSpec.ofChange waysWrongSpec)) waysWrongCard

/-- THE TIED CARD OF 'gaugerlaw08.WaysWhole'. -/
def waysWholeCard : Claim7 := { stood := { row := waysWholeRow, standIns := [], harness := (true, "7c830fab17d76a26cabd17e087376f401efeb1d04ec0647722cd18c51aabe9a5"), looks := false }, kinds := [], alts := [], laidByText := true, laidKinds := [.data, .data, .pinned], laidTests := true, laidLooks := .later }
def WaysWholeCardSaid : Prop := Claim7.holds Tryz.pinned (.plain (OpenSpec.ofChange waysWholeSpec)) waysWholeCard

/-- THE TIED CARD OF 'gaugerlaw08.WaysLengths'. -/
def waysLengthsCard : Claim7 := { stood := { row := waysLengthsRow, standIns := [], harness := (true, "7c830fab17d76a26cabd17e087376f401efeb1d04ec0647722cd18c51aabe9a5"), looks := false }, kinds := [], alts := [], laidByText := true, laidKinds := [.data, .data, .pinned], laidTests := true, laidLooks := .later }
def WaysLengthsCardSaid : Prop := Claim7.holds Tryz.pinned (.plain (OpenSpec.ofChange waysLengthsSpec)) waysLengthsCard

/-- THE SECOND FORM's CARD OF 'gaugerlaw08.WaysTells'. -/
def waysTellsUptoCard : Claim7 := { stood := { row := waysTellsUptoRow, standIns := [], harness := (true, "7c830fab17d76a26cabd17e087376f401efeb1d04ec0647722cd18c51aabe9a5"), looks := false }, kinds := [], alts := [], laidByText := true, laidKinds := [.data, .data, .pinned], laidTests := true, laidLooks := .later }
def WaysTellsUptoCardSaid : Prop := Claim7.holds Tryz.pinned (.plain (OpenSpec.upto waysTellsSpec)) waysTellsUptoCard

/-- THE SECOND FORM's CARD OF 'gaugerlaw08.WaysSmall'. -/
def waysSmallUptoCard : Claim7 := { stood := { row := waysSmallUptoRow, standIns := [], harness := (true, "7c830fab17d76a26cabd17e087376f401efeb1d04ec0647722cd18c51aabe9a5"), looks := false }, kinds := [], alts := [], laidByText := true, laidKinds := [.data, .data, .pinned], laidTests := true, laidLooks := .later }
def WaysSmallUptoCardSaid : Prop := Claim7.holds Tryz.pinned (.plain (OpenSpec.upto waysSmallSpec)) waysSmallUptoCard

/-- THE SECOND FORM's CARD OF 'gaugerlaw08.WaysWrong'. -/
def waysWrongUptoCard : Claim7 := { stood := { row := waysWrongUptoRow, standIns := [], harness := (true, "7c830fab17d76a26cabd17e087376f401efeb1d04ec0647722cd18c51aabe9a5"), looks := false }, kinds := [], alts := [], laidByText := true, laidKinds := [.data, .data, .pinned], laidTests := true, laidLooks := .later }
def WaysWrongUptoCardSaid : Prop := Claim7.holds Tryz.pinned (.plain (OpenSpec.upto waysWrongSpec)) waysWrongUptoCard

/-- THE SECOND FORM's CARD OF 'gaugerlaw08.WaysWhole'. -/
def waysWholeUptoCard : Claim7 := { stood := { row := waysWholeUptoRow, standIns := [], harness := (true, "7c830fab17d76a26cabd17e087376f401efeb1d04ec0647722cd18c51aabe9a5"), looks := false }, kinds := [], alts := [], laidByText := true, laidKinds := [.data, .data, .pinned], laidTests := true, laidLooks := .later }
def WaysWholeUptoCardSaid : Prop := Claim7.holds Tryz.pinned (.plain (OpenSpec.upto waysWholeSpec)) waysWholeUptoCard

/-- THE SECOND FORM's CARD OF 'gaugerlaw08.WaysLengths'. -/
def waysLengthsUptoCard : Claim7 := { stood := { row := waysLengthsUptoRow, standIns := [], harness := (true, "7c830fab17d76a26cabd17e087376f401efeb1d04ec0647722cd18c51aabe9a5"), looks := false }, kinds := [], alts := [], laidByText := true, laidKinds := [.data, .data, .pinned], laidTests := true, laidLooks := .later }
def WaysLengthsUptoCardSaid : Prop := Claim7.holds Tryz.pinned (.plain (OpenSpec.upto waysLengthsSpec)) waysLengthsUptoCard
end Rows
end Go.Proofs.YtnhjakdmbfadlaaGreatDoor
