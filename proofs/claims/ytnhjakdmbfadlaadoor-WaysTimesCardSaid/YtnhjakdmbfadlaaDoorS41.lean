/- Parts of the proof: Pe. Conditions: none. -/
import Derived.Test.YtnhjakdmbfadlaaDoorS40
import Derived.Test.YtnhjakdmbfadlaaDoorS04
set_option linter.all false
/- WaysParts: the region that makes the two trees and the string. -/
namespace Go.Proofs.YtnhjakdmbfadlaaDoor
open Go.RowKit Wy Mem Grow

variable {W : World} {x y : Nd} {s5 s11 s14 s15 s16 s17 : Bool} {u5 u11 u14 u15 : Value} {w w' : World} {cs : List Value}
theorem set6_kept {w : World} {b : Nat} (c0 c1 c2 c3 c4 c5 : Value) : Kept (fun q => q = b) w ((((((w.setCell ⟨b, 0, none⟩ c0).setCell ⟨b, 1, none⟩ c1).setCell ⟨b, 2, none⟩ c2).setCell ⟨b, 3, none⟩ c3).setCell ⟨b, 4, none⟩ c4).setCell ⟨b, 5, none⟩ c5) :=
  ((((((Kept.refl (fun q => q = b) w).setCell (p := ⟨b, 0, none⟩) (fun _ => rfl) c0).setCell (p := ⟨b, 1, none⟩) (fun _ => rfl) c1).setCell (p := ⟨b, 2, none⟩) (fun _ => rfl) c2).setCell (p := ⟨b, 3, none⟩) (fun _ => rfl) c3).setCell (p := ⟨b, 4, none⟩) (fun _ => rfl) c4).setCell (p := ⟨b, 5, none⟩) (fun _ => rfl) c5
theorem set6_blk {w : World} {b : Nat} {cs : List Value} {T : TypeId} (h : Blk w b cs.toArray T) (hl : cs.length = 6) (c0 c1 c2 c3 c4 c5 : Value) : Blk ((((((w.setCell ⟨b, 0, none⟩ c0).setCell ⟨b, 1, none⟩ c1).setCell ⟨b, 2, none⟩ c2).setCell ⟨b, 3, none⟩ c3).setCell ⟨b, 4, none⟩ c4).setCell ⟨b, 5, none⟩ c5) b #[c0, c1, c2, c3, c4, c5] T := by
  match cs, hl, h with
  | [a0, a1, a2, a3, a4, a5], _, h => exact (((((h.set 0 c0).set 1 c1).set 2 c2).set 3 c3).set 4 c4).set 5 c5
/-- what Made gives, its tree in new blocks -/
def Mdn (x : Nd) (w : World) (e : Ending) (w' : World) : Prop := ∃ (k lo hi : Int) (lz : Bool) (p1 p2 : Option Addr) (n1 d1 n2 d2 : Nat), e = .returned (.agg #[.int .u8 k, .slice p1 n1 d1, .int .i64 lo, .int .i64 hi, .bool lz, .slice p2 n2 d2]) ∧ NdAt (fun q => w.heap.size ≤ q) w' x [.int .u8 k, .slice p1 n1 d1, .int .i64 lo, .int .i64 hi, .bool lz, .slice p2 n2 d2] ∧ Below w.heap.size w w'
end Go.Proofs.YtnhjakdmbfadlaaDoor
