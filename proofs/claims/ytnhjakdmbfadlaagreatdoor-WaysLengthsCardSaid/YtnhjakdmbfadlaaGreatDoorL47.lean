/- Parts of the proof: Nbl. Conditions: none. -/
import Derived.Test.YtnhjakdmbfadlaaGreatDoorL13
set_option linter.all false
/- Nullable at right trees; letters. -/
namespace Go.Proofs.YtnhjakdmbfadlaaGreatDoor
open Go.RowKit Wy Mem Grow

set_option maxHeartbeats 4000000 in
set_option maxRecDepth 100000 in
theorem nullable_any {N : Nat → Prop} {w : World} {t : Nd} {cs : List Value} (h : NdAt N w t cs) (hno : nodes t ≤ 1000000) (hri : right t = true) : Calls Tryz.prog 24 #[.agg cs.toArray] w fun e w' => e = .returned (.tuple #[.bool (Wy.look t).nullable, .int .i64 0]) ∧ Below w.heap.size w w' := by
  have hl : ∀ w', Below w.heap.size w w' → Calls Tryz.prog 50 #[.agg cs.toArray] w' fun e w'' => e = .returned (.agg (factsC (Wy.look t))) ∧ Below w'.heap.size w' w'' := fun w' hb => look_any (NdAt.go (Kept.of_below hb (fun _ => False)) (fun q _ hn => ⟨id, hn⟩) h) hno
  obtain ⟨k, set, lo, hi, lazy, subs⟩ := t
  rw [NdAt] at h
  obtain ⟨sv, uv, ucs, rfl, hk, hlo, hhi, hset, hrow, hsubs⟩ := h
  obtain ⟨os, cs, rfl⟩ := hset.row.slice
  obtain ⟨ou, cu, rfl⟩ := hrow.slice
  have HL := Lib.hid hl
  obtain ⟨f, hf⟩ : ∃ f, f = Wy.look (.mk k set lo hi lazy subs) := ⟨_, rfl⟩
  unfold right at hri
  rw [← hf] at hri ⊢
  rw [← hf] at HL
  have hr := fun w => factsR_any f w
  rw [hri] at hr
  unfold factsC at hr HL
  have HR := Lib.hid hr
  clear hset hrow hsubs hk hlo hhi hl hr hf hri
  go_enter Tryz.func24, Tryz.ntmps24
  go_wp2_with (first | (go_at_call 50; go_loud (refine (HL.out _ ((Below.refl _ _).alloc (Nat.le_refl _) _)).mono ?_; rintro e w1 ⟨rfl, hb1⟩; have hbA : Below w.heap.size w w1 := ((Below.refl _ _).alloc (Nat.le_refl _) _).trans (hb1.mono (by simp)); have HBA := Lib.hid hbA; clear hbA hb1)) | (go_at_call 51; go_loud (refine (HR.out _).mono ?_; rintro e w2 ⟨rfl, hb2⟩; have B := (Blk.new w1 #[.int .i64 f.depth, .int .i64 f.groups, .bool f.nullable, .bool f.shaped, .bool f.firm] 115).below hb2 (by simp); have q2 : w2.cell? ⟨w1.heap.size, 2, none⟩ = some (.bool f.nullable) := B.cell 2; have qz := B.lt; have HBB := Lib.hid ((HBA.out.alloc HBA.out.size (.cells #[.int .i64 f.depth, .int .i64 f.groups, .bool f.nullable, .bool f.shaped, .bool f.firm] 115)).trans (hb2.mono (by have := HBA.out.size; simp; omega))); clear B hb2)))
  go_ret2
  exact ⟨rfl, HBB.out⟩
end Go.Proofs.YtnhjakdmbfadlaaGreatDoor
