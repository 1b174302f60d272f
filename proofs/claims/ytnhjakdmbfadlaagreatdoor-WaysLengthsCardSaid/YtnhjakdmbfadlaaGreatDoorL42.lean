/- Parts of the proof: Wha. Conditions: none. -/
import Derived.Test.YtnhjakdmbfadlaaGreatDoorL41
import Derived.Test.YtnhjakdmbfadlaaGreatDoorL06
import Derived.Test.YtnhjakdmbfadlaaGreatDoorL08
import Derived.Test.YtnhjakdmbfadlaaGreatDoorL35
set_option linter.all false
/- WaysWhole: the pieces up to the places. -/
namespace Go.Proofs.YtnhjakdmbfadlaaGreatDoor
open Go.RowKit Wy Mem Grow

/-- what Made makes: its node's cells -/
def Mdx (x : Nd) (w : World) (e : Ending) (w' : World) : Prop := ∃ (k lo hi : Int) (lz : Bool) (p1 p2 : Option Addr) (n1 d1 n2 d2 : Nat), e = .returned (.agg #[.int .u8 k, .slice p1 n1 d1, .int .i64 lo, .int .i64 hi, .bool lz, .slice p2 n2 d2]) ∧ NdAt (fun _ => True) w' x [.int .u8 k, .slice p1 n1 d1, .int .i64 lo, .int .i64 hi, .bool lz, .slice p2 n2 d2] ∧ Below w.heap.size w w'
end Go.Proofs.YtnhjakdmbfadlaaGreatDoor
