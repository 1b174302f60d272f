/- The kit's checks of memory at no slices at all. -/
import Derived.Test.YtokgfmibhkkiaaaProg
import Derived.Test.YtokgfmibhkkiaaaMem
import Derived.Deep.OwnRows
import Derived.Handy
namespace Go.Proofs.Ytokgfmibhkkiaaa
open Go.RowKit Mem

set_option maxHeartbeats 1000000 in
set_option maxRecDepth 100000 in
theorem flat76 (W : World) : Calls Try.prog 76 #[.slice none 0 0] W fun e w' => e = .returned (.bool true) ∧ Below W.heap.size W w' := by
  have hmk : ∀ w, (Instr.makeSlice 133 (.int .i64 0) (.int .i64 0)).run Try.prog w = .ok (.slice (some ⟨w.heap.size, 0, none⟩) 0 0) (w.alloc (.cells #[] 156)) := fun _ => by kernel_rfl
  go_enter Try.func76, Try.ntmps76
  go_wp2
  go_rounds 1
  go_wp2
  go_rounds 1
  go_wp2
  go_rounds 1
  go_wp2
  go_rounds 1
  go_wp2
  go_rounds 1
  go_wp2
  go_ret
  exact ⟨rfl, by go_grown⟩

set_option maxHeartbeats 1000000 in
set_option maxRecDepth 100000 in
theorem flat77 (W : World) : Calls Try.prog 77 #[.slice none 0 0] W fun e w' => e = .returned (.bool true) ∧ Below W.heap.size W w' := by
  have hmk : ∀ w, (Instr.makeSlice 134 (.int .i64 0) (.int .i64 0)).run Try.prog w = .ok (.slice (some ⟨w.heap.size, 0, none⟩) 0 0) (w.alloc (.cells #[] 158)) := fun _ => by kernel_rfl
  go_enter Try.func77, Try.ntmps77
  go_wp2
  go_rounds 1
  go_wp2
  go_rounds 1
  go_wp2
  go_rounds 1
  go_wp2
  go_rounds 1
  go_wp2
  go_rounds 1
  go_wp2
  go_ret
  exact ⟨rfl, by go_grown⟩

set_option maxHeartbeats 1000000 in
set_option maxRecDepth 100000 in
theorem flat78 (W : World) : Calls Try.prog 78 #[.slice none 0 0] W fun e w' => e = .returned (.bool true) ∧ Below W.heap.size W w' := by
  have hmk : ∀ w, (Instr.makeSlice 135 (.int .i64 0) (.int .i64 0)).run Try.prog w = .ok (.slice (some ⟨w.heap.size, 0, none⟩) 0 0) (w.alloc (.cells #[] 37)) := fun _ => by kernel_rfl
  go_enter Try.func78, Try.ntmps78
  go_wp2
  go_rounds 1
  go_wp2
  go_rounds 1
  go_wp2
  go_rounds 1
  go_wp2
  go_rounds 1
  go_wp2
  go_rounds 1
  go_wp2
  go_ret
  exact ⟨rfl, by go_grown⟩

set_option maxHeartbeats 1000000 in
set_option maxRecDepth 100000 in
theorem flat79 (W : World) : Calls Try.prog 79 #[.slice none 0 0] W fun e w' => e = .returned (.bool true) ∧ Below W.heap.size W w' := by
  have hmk : ∀ w, (Instr.makeSlice 136 (.int .i64 0) (.int .i64 0)).run Try.prog w = .ok (.slice (some ⟨w.heap.size, 0, none⟩) 0 0) (w.alloc (.cells #[] 161)) := fun _ => by kernel_rfl
  go_enter Try.func79, Try.ntmps79
  go_wp2
  go_rounds 1
  go_wp2
  go_rounds 1
  go_wp2
  go_rounds 1
  go_wp2
  go_rounds 1
  go_wp2
  go_rounds 1
  go_wp2
  go_ret
  exact ⟨rfl, by go_grown⟩

set_option maxHeartbeats 1000000 in
set_option maxRecDepth 100000 in
theorem flat80 (W : World) : Calls Try.prog 80 #[.slice none 0 0] W fun e w' => e = .returned (.bool true) ∧ Below W.heap.size W w' := by
  have hmk : ∀ w, (Instr.makeSlice 137 (.int .i64 0) (.int .i64 0)).run Try.prog w = .ok (.slice (some ⟨w.heap.size, 0, none⟩) 0 0) (w.alloc (.cells #[] 123)) := fun _ => by kernel_rfl
  go_enter Try.func80, Try.ntmps80
  go_wp2
  go_rounds 1
  go_wp2
  go_rounds 1
  go_wp2
  go_rounds 1
  go_wp2
  go_rounds 1
  go_wp2
  go_rounds 1
  go_wp2
  go_ret
  exact ⟨rfl, by go_grown⟩

set_option maxHeartbeats 1000000 in
set_option maxRecDepth 100000 in
theorem flat81 (W : World) : Calls Try.prog 81 #[.slice none 0 0] W fun e w' => e = .returned (.bool true) ∧ Below W.heap.size W w' := by
  have hmk : ∀ w, (Instr.makeSlice 138 (.int .i64 0) (.int .i64 0)).run Try.prog w = .ok (.slice (some ⟨w.heap.size, 0, none⟩) 0 0) (w.alloc (.cells #[] 133)) := fun _ => by kernel_rfl
  go_enter Try.func81, Try.ntmps81
  go_wp2
  go_rounds 1
  go_wp2
  go_rounds 1
  go_wp2
  go_rounds 1
  go_wp2
  go_rounds 1
  go_wp2
  go_rounds 1
  go_wp2
  go_ret
  exact ⟨rfl, by go_grown⟩

set_option maxHeartbeats 1000000 in
set_option maxRecDepth 100000 in
theorem flat82 (W : World) : Calls Try.prog 82 #[.slice none 0 0] W fun e w' => e = .returned (.bool true) ∧ Below W.heap.size W w' := by
  have hmk : ∀ w, (Instr.makeSlice 139 (.int .i64 0) (.int .i64 0)).run Try.prog w = .ok (.slice (some ⟨w.heap.size, 0, none⟩) 0 0) (w.alloc (.cells #[] 134)) := fun _ => by kernel_rfl
  go_enter Try.func82, Try.ntmps82
  go_wp2
  go_rounds 1
  go_wp2
  go_rounds 1
  go_wp2
  go_rounds 1
  go_wp2
  go_rounds 1
  go_wp2
  go_rounds 1
  go_wp2
  go_ret
  exact ⟨rfl, by go_grown⟩
end Go.Proofs.Ytokgfmibhkkiaaa
