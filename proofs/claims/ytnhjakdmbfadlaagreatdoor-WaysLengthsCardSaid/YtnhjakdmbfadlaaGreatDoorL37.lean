/- Parts of the proof: AwC. Conditions: none. -/
import Derived.Test.YtnhjakdmbfadlaaGreatDoorL36
set_option linter.all false
/- awake: its last loop. -/
namespace Go.Proofs.YtnhjakdmbfadlaaGreatDoor
open Go.RowKit Wy Mem Grow

set_option maxHeartbeats 8000000 in
set_option maxRecDepth 100000 in
theorem aw_exit2 {T g off cap : Nat} {W : World} {J : Act → World → Prop} {Q : Exit → Act → World → Prop} (e : Nat → Value)
    (hJ : ∀ (m : List Value), m.length = 143 → Q (.exit 2) ⟨m.toArray, []⟩ W) :
    Code.wp Tryz.prog (awC [1, 1, 1, 1, 1, 1, 0, 1, 0, 0]) (Exit.then J Q) ⟨#[e 0, e 1, e 2, e 3, e 4, .slice (some ⟨g, off, none⟩) 6 cap, e 6, e 7, e 8, e 9, e 10, e 11, e 12, e 13, e 14, e 15, e 16, e 17, e 18, e 19, e 20, e 21, e 22, e 23, e 24, e 25, e 26, e 27, e 28, e 29, e 30, e 31, e 32, e 33, e 34, e 35, e 36, e 37, e 38, e 39, e 40, e 41, e 42, e 43, e 44, e 45, e 46, e 47, e 48, e 49, e 50, e 51, e 52, e 53, e 54, e 55, e 56, e 57, e 58, e 59, e 60, e 61, e 62, e 63, e 64, e 65, e 66, e 67, e 68, e 69, e 70, e 71, e 72, e 73, e 74, e 75, e 76, e 77, e 78, e 79, e 80, e 81, e 82, e 83, e 84, e 85, e 86, e 87, e 88, e 89, e 90, e 91, e 92, e 93, e 94, e 95, e 96, e 97, e 98, e 99, e 100, e 101, e 102, e 103, e 104, e 105, e 106, e 107, e 108, e 109, e 110, e 111, e 112, e 113, e 114, e 115, e 116, e 117, e 118, e 119, e 120, e 121, e 122, e 123, e 124, e 125, e 126, .slice (some ⟨T, 0, none⟩) 6 6, .int .i64 6, .int .i64 6, e 130, e 131, e 132, e 133, e 134, e 135, e 136, e 137, e 138, e 139, e 140, e 141, e 142], []⟩ W := by
  have HJ := Lib.hid hJ
  clear hJ
  conv => arg 2; whnf
  go_wp2_with fail
  exact HJ.out _ rfl
def Aw2 (T g off cap : Nat) (W1 : World) (n : Nat) (a : Act) (w : World) : Prop := ∃ (m : List Value) (i : Nat), a = ⟨m.toArray, []⟩ ∧ m.length = 143 ∧ m[5]? = some (.slice (some ⟨g, off, none⟩) 6 cap) ∧ m[127]? = some (.slice (some ⟨T, 0, none⟩) 6 6) ∧ m[128]? = some (.int .i64 6) ∧ m[129]? = some (.int .i64 i) ∧ i ≤ 6 ∧ n = 6 - i ∧ Below W1.heap.size W1 w
theorem aw_loop2 {T g off cap n : Nat} {W1 w : World} {a : Act} {Q : Exit → Act → World → Prop} (hI : Aw2 T g off cap W1 n a w) (cz : T < W1.heap.size) (gz : g < W1.heap.size)
    (htab : ∀ i, i < 6 → ∃ (b : Nat) (x : List (Int × Int)) (sv : Value), W1.cell? ⟨T, i, none⟩ = some (.slice (some ⟨b, 0, none⟩) 2 2) ∧ SpsAt (fun _ => True) W1 (.slice (some ⟨b, 0, none⟩) 2 2) x ∧ W1.cell? ⟨g, off + i * 2 + 1, none⟩ = some sv ∧ SpsAt (fun _ => True) W1 sv x)
    (hQ : ∀ (m : List Value) (w' : World), m.length = 143 → Below W1.heap.size W1 w' → Q (.exit 2) ⟨m.toArray, []⟩ w') :
    Code.wp Tryz.prog (awC [1, 1, 1, 1, 1, 1, 0, 1, 0, 0]) (Exit.then (fun a' w' => ∃ n', n' < n ∧ Aw2 T g off cap W1 n' a' w') Q) a w := by
  obtain ⟨m, i, rfl, hl, h5, h127, h128, h129, hi, hn, hb⟩ := hI
  obtain ⟨e, rfl⟩ := frame143 hl
  have h5 := Option.some.inj h5
  have h127 := Option.some.inj h127
  have h128 := Option.some.inj h128
  have h129 := Option.some.inj h129
  rw [h5, h127, h128, h129]
  by_cases h6 : i < 6
  · obtain ⟨b, x, sv, t1, t2, t3, t4⟩ := htab i h6
    have k := Kept.of_below hb (fun _ => False)
    exact aw_round2 e h6 ((hb.cell (p := ⟨T, i, none⟩) cz).trans t1) (Nat.lt_of_lt_of_le cz hb.size) (SpsAt.go t2 k (fun _ _ h => ⟨id, h⟩)) ((hb.cell (p := ⟨g, off + i * 2 + 1, none⟩) gz).trans t3) (Nat.lt_of_lt_of_le gz hb.size) (SpsAt.go t4 k (fun _ _ h => ⟨id, h⟩))
      (fun m w' k0 k1 k2 k3 k4 k5 => ⟨6 - (i + 1), by omega, m, i + 1, rfl, k0, k1, k2, k3, k4, by omega, rfl, hb.trans (k5.mono hb.size)⟩)
  · obtain rfl : i = 6 := by omega
    exact aw_exit2 e (fun m k0 => hQ m w k0 hb)
set_option maxHeartbeats 8000000 in
set_option maxRecDepth 100000 in
theorem aw_tail {g off cap : Nat} {W : World} {Q : Exit → Act → World → Prop} (e : Nat → Value) (hw : WaysAt (fun _ => True) W 2 2 (.slice (some ⟨g, off, none⟩) 6 cap) l2A)
    (hQ : ∀ (m : List Value) (w' : World), m.length = 143 → m[0]? = some (.bool true) → Below W.heap.size W w' → Q .ret ⟨m.toArray, []⟩ w') :
    Code.wp Tryz.prog (awC [1, 1, 1, 1, 1, 1]) Q ⟨#[e 0, e 1, e 2, e 3, e 4, .slice (some ⟨g, off, none⟩) 6 cap, e 6, e 7, e 8, e 9, e 10, e 11, e 12, e 13, e 14, e 15, e 16, e 17, e 18, e 19, e 20, e 21, e 22, e 23, e 24, e 25, e 26, e 27, e 28, e 29, e 30, e 31, e 32, e 33, e 34, e 35, e 36, e 37, e 38, e 39, e 40, e 41, e 42, e 43, e 44, e 45, e 46, e 47, e 48, e 49, e 50, e 51, e 52, e 53, e 54, e 55, e 56, e 57, e 58, e 59, e 60, e 61, e 62, e 63, e 64, e 65, e 66, e 67, e 68, e 69, e 70, e 71, e 72, e 73, e 74, e 75, e 76, e 77, e 78, e 79, e 80, e 81, e 82, e 83, e 84, e 85, e 86, e 87, e 88, e 89, e 90, e 91, e 92, e 93, e 94, e 95, e 96, e 97, e 98, e 99, e 100, e 101, e 102, e 103, e 104, e 105, e 106, e 107, e 108, e 109, e 110, e 111, e 112, e 113, e 114, e 115, e 116, e 117, e 118, e 119, e 120, e 121, e 122, e 123, e 124, e 125, e 126, e 127, e 128, e 129, e 130, e 131, e 132, e 133, e 134, e 135, e 136, e 137, e 138, e 139, e 140, e 141, e 142], []⟩ W := by
  have HW := Lib.hid hw
  have HQ := Lib.hid hQ
  clear hw hQ
  conv => arg 2; whnf
  go_wp2_with fail
  have hB0 : Blk (((((((W.alloc (.cells #[.int .i64 0, .int .i64 2, .int .i64 2, .int .i64 2] 57)).alloc (.cells #[.int .i64 0, .int .i64 1, .int .i64 1, .int .i64 2] 57)).alloc (.cells #[.int .i64 0, .int .i64 1, .int .i64 1, .int .i64 1] 57)).alloc (.cells #[.int .i64 0, .int .i64 0, .int .i64 0, .int .i64 2] 57)).alloc (.cells #[.int .i64 0, .int .i64 0, .int .i64 0, .int .i64 1] 57)).alloc (.cells #[.int .i64 0, .int .i64 0, .int .i64 0, .int .i64 0] 57)).alloc (.cells #[.slice (some ⟨W.heap.size, 0, none⟩) 2 2, .slice (some ⟨W.heap.size + 1, 0, none⟩) 2 2, .slice (some ⟨W.heap.size + 1 + 1, 0, none⟩) 2 2, .slice (some ⟨W.heap.size + 1 + 1 + 1, 0, none⟩) 2 2, .slice (some ⟨W.heap.size + 1 + 1 + 1 + 1, 0, none⟩) 2 2, .slice (some ⟨W.heap.size + 1 + 1 + 1 + 1 + 1, 0, none⟩) 2 2] 41)) (W.heap.size) #[.int .i64 0, .int .i64 2, .int .i64 2, .int .i64 2] 57 := (((((((Blk.new _ _ _).alloc _).alloc _).alloc _).alloc _).alloc _).alloc _)
  have hB1 : Blk (((((((W.alloc (.cells #[.int .i64 0, .int .i64 2, .int .i64 2, .int .i64 2] 57)).alloc (.cells #[.int .i64 0, .int .i64 1, .int .i64 1, .int .i64 2] 57)).alloc (.cells #[.int .i64 0, .int .i64 1, .int .i64 1, .int .i64 1] 57)).alloc (.cells #[.int .i64 0, .int .i64 0, .int .i64 0, .int .i64 2] 57)).alloc (.cells #[.int .i64 0, .int .i64 0, .int .i64 0, .int .i64 1] 57)).alloc (.cells #[.int .i64 0, .int .i64 0, .int .i64 0, .int .i64 0] 57)).alloc (.cells #[.slice (some ⟨W.heap.size, 0, none⟩) 2 2, .slice (some ⟨W.heap.size + 1, 0, none⟩) 2 2, .slice (some ⟨W.heap.size + 1 + 1, 0, none⟩) 2 2, .slice (some ⟨W.heap.size + 1 + 1 + 1, 0, none⟩) 2 2, .slice (some ⟨W.heap.size + 1 + 1 + 1 + 1, 0, none⟩) 2 2, .slice (some ⟨W.heap.size + 1 + 1 + 1 + 1 + 1, 0, none⟩) 2 2] 41)) (W.heap.size + 1) #[.int .i64 0, .int .i64 1, .int .i64 1, .int .i64 2] 57 := ((((((Blk.new' _ _ (by simp)).alloc _).alloc _).alloc _).alloc _).alloc _)
  have hB2 : Blk (((((((W.alloc (.cells #[.int .i64 0, .int .i64 2, .int .i64 2, .int .i64 2] 57)).alloc (.cells #[.int .i64 0, .int .i64 1, .int .i64 1, .int .i64 2] 57)).alloc (.cells #[.int .i64 0, .int .i64 1, .int .i64 1, .int .i64 1] 57)).alloc (.cells #[.int .i64 0, .int .i64 0, .int .i64 0, .int .i64 2] 57)).alloc (.cells #[.int .i64 0, .int .i64 0, .int .i64 0, .int .i64 1] 57)).alloc (.cells #[.int .i64 0, .int .i64 0, .int .i64 0, .int .i64 0] 57)).alloc (.cells #[.slice (some ⟨W.heap.size, 0, none⟩) 2 2, .slice (some ⟨W.heap.size + 1, 0, none⟩) 2 2, .slice (some ⟨W.heap.size + 1 + 1, 0, none⟩) 2 2, .slice (some ⟨W.heap.size + 1 + 1 + 1, 0, none⟩) 2 2, .slice (some ⟨W.heap.size + 1 + 1 + 1 + 1, 0, none⟩) 2 2, .slice (some ⟨W.heap.size + 1 + 1 + 1 + 1 + 1, 0, none⟩) 2 2] 41)) (W.heap.size + 1 + 1) #[.int .i64 0, .int .i64 1, .int .i64 1, .int .i64 1] 57 := (((((Blk.new' _ _ (by simp)).alloc _).alloc _).alloc _).alloc _)
  have hB3 : Blk (((((((W.alloc (.cells #[.int .i64 0, .int .i64 2, .int .i64 2, .int .i64 2] 57)).alloc (.cells #[.int .i64 0, .int .i64 1, .int .i64 1, .int .i64 2] 57)).alloc (.cells #[.int .i64 0, .int .i64 1, .int .i64 1, .int .i64 1] 57)).alloc (.cells #[.int .i64 0, .int .i64 0, .int .i64 0, .int .i64 2] 57)).alloc (.cells #[.int .i64 0, .int .i64 0, .int .i64 0, .int .i64 1] 57)).alloc (.cells #[.int .i64 0, .int .i64 0, .int .i64 0, .int .i64 0] 57)).alloc (.cells #[.slice (some ⟨W.heap.size, 0, none⟩) 2 2, .slice (some ⟨W.heap.size + 1, 0, none⟩) 2 2, .slice (some ⟨W.heap.size + 1 + 1, 0, none⟩) 2 2, .slice (some ⟨W.heap.size + 1 + 1 + 1, 0, none⟩) 2 2, .slice (some ⟨W.heap.size + 1 + 1 + 1 + 1, 0, none⟩) 2 2, .slice (some ⟨W.heap.size + 1 + 1 + 1 + 1 + 1, 0, none⟩) 2 2] 41)) (W.heap.size + 1 + 1 + 1) #[.int .i64 0, .int .i64 0, .int .i64 0, .int .i64 2] 57 := ((((Blk.new' _ _ (by simp)).alloc _).alloc _).alloc _)
  have hB4 : Blk (((((((W.alloc (.cells #[.int .i64 0, .int .i64 2, .int .i64 2, .int .i64 2] 57)).alloc (.cells #[.int .i64 0, .int .i64 1, .int .i64 1, .int .i64 2] 57)).alloc (.cells #[.int .i64 0, .int .i64 1, .int .i64 1, .int .i64 1] 57)).alloc (.cells #[.int .i64 0, .int .i64 0, .int .i64 0, .int .i64 2] 57)).alloc (.cells #[.int .i64 0, .int .i64 0, .int .i64 0, .int .i64 1] 57)).alloc (.cells #[.int .i64 0, .int .i64 0, .int .i64 0, .int .i64 0] 57)).alloc (.cells #[.slice (some ⟨W.heap.size, 0, none⟩) 2 2, .slice (some ⟨W.heap.size + 1, 0, none⟩) 2 2, .slice (some ⟨W.heap.size + 1 + 1, 0, none⟩) 2 2, .slice (some ⟨W.heap.size + 1 + 1 + 1, 0, none⟩) 2 2, .slice (some ⟨W.heap.size + 1 + 1 + 1 + 1, 0, none⟩) 2 2, .slice (some ⟨W.heap.size + 1 + 1 + 1 + 1 + 1, 0, none⟩) 2 2] 41)) (W.heap.size + 1 + 1 + 1 + 1) #[.int .i64 0, .int .i64 0, .int .i64 0, .int .i64 1] 57 := (((Blk.new' _ _ (by simp)).alloc _).alloc _)
  have hB5 : Blk (((((((W.alloc (.cells #[.int .i64 0, .int .i64 2, .int .i64 2, .int .i64 2] 57)).alloc (.cells #[.int .i64 0, .int .i64 1, .int .i64 1, .int .i64 2] 57)).alloc (.cells #[.int .i64 0, .int .i64 1, .int .i64 1, .int .i64 1] 57)).alloc (.cells #[.int .i64 0, .int .i64 0, .int .i64 0, .int .i64 2] 57)).alloc (.cells #[.int .i64 0, .int .i64 0, .int .i64 0, .int .i64 1] 57)).alloc (.cells #[.int .i64 0, .int .i64 0, .int .i64 0, .int .i64 0] 57)).alloc (.cells #[.slice (some ⟨W.heap.size, 0, none⟩) 2 2, .slice (some ⟨W.heap.size + 1, 0, none⟩) 2 2, .slice (some ⟨W.heap.size + 1 + 1, 0, none⟩) 2 2, .slice (some ⟨W.heap.size + 1 + 1 + 1, 0, none⟩) 2 2, .slice (some ⟨W.heap.size + 1 + 1 + 1 + 1, 0, none⟩) 2 2, .slice (some ⟨W.heap.size + 1 + 1 + 1 + 1 + 1, 0, none⟩) 2 2] 41)) (W.heap.size + 1 + 1 + 1 + 1 + 1) #[.int .i64 0, .int .i64 0, .int .i64 0, .int .i64 0] 57 := ((Blk.new' _ _ (by simp)).alloc _)
  have hB6 : Blk (((((((W.alloc (.cells #[.int .i64 0, .int .i64 2, .int .i64 2, .int .i64 2] 57)).alloc (.cells #[.int .i64 0, .int .i64 1, .int .i64 1, .int .i64 2] 57)).alloc (.cells #[.int .i64 0, .int .i64 1, .int .i64 1, .int .i64 1] 57)).alloc (.cells #[.int .i64 0, .int .i64 0, .int .i64 0, .int .i64 2] 57)).alloc (.cells #[.int .i64 0, .int .i64 0, .int .i64 0, .int .i64 1] 57)).alloc (.cells #[.int .i64 0, .int .i64 0, .int .i64 0, .int .i64 0] 57)).alloc (.cells #[.slice (some ⟨W.heap.size, 0, none⟩) 2 2, .slice (some ⟨W.heap.size + 1, 0, none⟩) 2 2, .slice (some ⟨W.heap.size + 1 + 1, 0, none⟩) 2 2, .slice (some ⟨W.heap.size + 1 + 1 + 1, 0, none⟩) 2 2, .slice (some ⟨W.heap.size + 1 + 1 + 1 + 1, 0, none⟩) 2 2, .slice (some ⟨W.heap.size + 1 + 1 + 1 + 1 + 1, 0, none⟩) 2 2] 41)) (W.heap.size + 1 + 1 + 1 + 1 + 1 + 1) #[.slice (some ⟨W.heap.size, 0, none⟩) 2 2, .slice (some ⟨W.heap.size + 1, 0, none⟩) 2 2, .slice (some ⟨W.heap.size + 1 + 1, 0, none⟩) 2 2, .slice (some ⟨W.heap.size + 1 + 1 + 1, 0, none⟩) 2 2, .slice (some ⟨W.heap.size + 1 + 1 + 1 + 1, 0, none⟩) 2 2, .slice (some ⟨W.heap.size + 1 + 1 + 1 + 1 + 1, 0, none⟩) 2 2] 41 := Blk.new' _ _ (by simp)
  have hbV : Below W.heap.size W (((((((W.alloc (.cells #[.int .i64 0, .int .i64 2, .int .i64 2, .int .i64 2] 57)).alloc (.cells #[.int .i64 0, .int .i64 1, .int .i64 1, .int .i64 2] 57)).alloc (.cells #[.int .i64 0, .int .i64 1, .int .i64 1, .int .i64 1] 57)).alloc (.cells #[.int .i64 0, .int .i64 0, .int .i64 0, .int .i64 2] 57)).alloc (.cells #[.int .i64 0, .int .i64 0, .int .i64 0, .int .i64 1] 57)).alloc (.cells #[.int .i64 0, .int .i64 0, .int .i64 0, .int .i64 0] 57)).alloc (.cells #[.slice (some ⟨W.heap.size, 0, none⟩) 2 2, .slice (some ⟨W.heap.size + 1, 0, none⟩) 2 2, .slice (some ⟨W.heap.size + 1 + 1, 0, none⟩) 2 2, .slice (some ⟨W.heap.size + 1 + 1 + 1, 0, none⟩) 2 2, .slice (some ⟨W.heap.size + 1 + 1 + 1 + 1, 0, none⟩) 2 2, .slice (some ⟨W.heap.size + 1 + 1 + 1 + 1 + 1, 0, none⟩) 2 2] 41)) := ((((((((Below.refl _ _).alloc (Nat.le_refl _) _).alloc (by simp) _).alloc (by simp; omega) _).alloc (by simp; omega) _).alloc (by simp; omega) _).alloc (by simp; omega) _).alloc (by simp; omega) _)
  generalize (((((((W.alloc (.cells #[.int .i64 0, .int .i64 2, .int .i64 2, .int .i64 2] 57)).alloc (.cells #[.int .i64 0, .int .i64 1, .int .i64 1, .int .i64 2] 57)).alloc (.cells #[.int .i64 0, .int .i64 1, .int .i64 1, .int .i64 1] 57)).alloc (.cells #[.int .i64 0, .int .i64 0, .int .i64 0, .int .i64 2] 57)).alloc (.cells #[.int .i64 0, .int .i64 0, .int .i64 0, .int .i64 1] 57)).alloc (.cells #[.int .i64 0, .int .i64 0, .int .i64 0, .int .i64 0] 57)).alloc (.cells #[.slice (some ⟨W.heap.size, 0, none⟩) 2 2, .slice (some ⟨W.heap.size + 1, 0, none⟩) 2 2, .slice (some ⟨W.heap.size + 1 + 1, 0, none⟩) 2 2, .slice (some ⟨W.heap.size + 1 + 1 + 1, 0, none⟩) 2 2, .slice (some ⟨W.heap.size + 1 + 1 + 1 + 1, 0, none⟩) 2 2, .slice (some ⟨W.heap.size + 1 + 1 + 1 + 1 + 1, 0, none⟩) 2 2] 41)) = V at hB0 hB1 hB2 hB3 hB4 hB5 hB6 hbV ⊢
  have hgz : g < W.heap.size := by
    obtain ⟨b, o, c, e1, -, -, -, h, -⟩ := HW.out.cells (by decide)
    simp only [Value.slice.injEq, Option.some.injEq, Addr.mk.injEq, and_true] at e1
    obtain ⟨⟨rfl, rfl⟩, -⟩ := e1
    exact h
  have hwV := HW.out.go (M := fun _ => True) (Kept.of_below hbV (fun _ => False)) (fun _ _ h => ⟨id, h⟩)
  have htab : ∀ i, i < 6 → ∃ (b : Nat) (x : List (Int × Int)) (sv : Value), V.cell? ⟨W.heap.size + 1 + 1 + 1 + 1 + 1 + 1, i, none⟩ = some (.slice (some ⟨b, 0, none⟩) 2 2) ∧ SpsAt (fun _ => True) V (.slice (some ⟨b, 0, none⟩) 2 2) x ∧ V.cell? ⟨g, off + i * 2 + 1, none⟩ = some sv ∧ SpsAt (fun _ => True) V sv x := by
    intro i hi
    obtain ⟨b, o, c, e1, -, -, -, -, h⟩ := hwV.cells (by decide)
    simp only [Value.slice.injEq, Option.some.injEq, Addr.mk.injEq, and_true] at e1
    obtain ⟨⟨rfl, rfl⟩, -⟩ := e1
    obtain ⟨sv, -, h2, h3, -, -⟩ := h i hi
    match i, hi, h2, h3 with
    | 0, _, h2, h3 => exact ⟨_, _, sv, hB6.cell 0, SpsAt.lit2 hB0 ⟨by decide, by decide⟩ ⟨by decide, by decide⟩ ⟨by decide, by decide⟩ ⟨by decide, by decide⟩, h2, h3⟩
    | 1, _, h2, h3 => exact ⟨_, _, sv, hB6.cell 1, SpsAt.lit2 hB1 ⟨by decide, by decide⟩ ⟨by decide, by decide⟩ ⟨by decide, by decide⟩ ⟨by decide, by decide⟩, h2, h3⟩
    | 2, _, h2, h3 => exact ⟨_, _, sv, hB6.cell 2, SpsAt.lit2 hB2 ⟨by decide, by decide⟩ ⟨by decide, by decide⟩ ⟨by decide, by decide⟩ ⟨by decide, by decide⟩, h2, h3⟩
    | 3, _, h2, h3 => exact ⟨_, _, sv, hB6.cell 3, SpsAt.lit2 hB3 ⟨by decide, by decide⟩ ⟨by decide, by decide⟩ ⟨by decide, by decide⟩ ⟨by decide, by decide⟩, h2, h3⟩
    | 4, _, h2, h3 => exact ⟨_, _, sv, hB6.cell 4, SpsAt.lit2 hB4 ⟨by decide, by decide⟩ ⟨by decide, by decide⟩ ⟨by decide, by decide⟩ ⟨by decide, by decide⟩, h2, h3⟩
    | 5, _, h2, h3 => exact ⟨_, _, sv, hB6.cell 5, SpsAt.lit2 hB5 ⟨by decide, by decide⟩ ⟨by decide, by decide⟩ ⟨by decide, by decide⟩ ⟨by decide, by decide⟩, h2, h3⟩
  have hTz := hB6.lt
  have hgz' : g < V.heap.size := Nat.lt_of_lt_of_le hgz hbV.size
  have HT := Lib.hid htab
  have HBV := Lib.hid hbV
  clear hB0 hB1 hB2 hB3 hB4 hB5 hB6 hbV hwV htab HW
  rename_i K1 hK1
  refine wp_loop_ghost (Aw2 (W.heap.size + 1 + 1 + 1 + 1 + 1 + 1) g off cap V) 6 ?_ (fun n a w hI => aw_loop2 hI hTz hgz' HT.out ?_)
  · exact ⟨_, 0, rfl, rfl, rfl, rfl, rfl, rfl, by omega, rfl, Below.refl _ _⟩
  · intro m w' hm hb
    obtain ⟨e', rfl⟩ := frame143 hm
    have hQ' := fun (m : List Value) h0 h1 => HQ.out m w' h0 h1 (HBV.out.trans (hb.mono HBV.out.size))
    have HQ' := Lib.hid hQ'
    clear hQ' hb hm HT HBV HQ
    refine hK1 _ _ ?_
    go_wp2_with fail
    exact HQ'.out _ rfl rfl
end Go.Proofs.YtnhjakdmbfadlaaGreatDoor
