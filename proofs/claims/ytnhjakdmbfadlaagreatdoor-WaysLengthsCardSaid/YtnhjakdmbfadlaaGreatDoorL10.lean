/- Parts of the proof: Shaped. Conditions: none. -/
import Derived.Test.YtnhjakdmbfadlaaGreatDoorL05
set_option linter.all false
/- What a node has. -/
namespace Go.Proofs.YtnhjakdmbfadlaaGreatDoor
open Go.RowKit Wy Mem

/-- a node's parts -/
theorem nd_open {N : Nat → Prop} {w : World} {k lo hi : Int} {set : List Rg} {lazy : Bool} {subs : List Nd} {cs : List Value} (h : NdAt N w (.mk k set lo hi lazy subs) cs) :
    ∃ o1 c1 o2 c2, cs = [.int .u8 k, .slice o1 set.length c1, .int .i64 lo, .int .i64 hi, .bool lazy, .slice o2 subs.length c2] ∧ (0 ≤ k ∧ k ≤ 255) ∧ I64 lo ∧ I64 hi ∧ RgsAt N w (.slice o1 set.length c1) set ∧ (subs.length : Int) ≤ 1048576 ∧ (set.length : Int) ≤ 1048576 ∧
      ∃ ucs, Row N w (.slice o2 subs.length c2) subs.length 6 ucs ∧ NdsAt N w subs ucs := by
  rw [NdAt] at h
  obtain ⟨sv, uv, ucs, rfl, h2, h3, h4, h5, h6, h7⟩ := h
  obtain ⟨o1, c1, rfl⟩ := h5.row.slice
  obtain ⟨o2, c2, rfl⟩ := h6.slice
  exact ⟨o1, c1, o2, c2, rfl, ⟨h2.1, h2.2.1⟩, h3, h4, h5, by have := h2.2.2; omega, by have := h5.small; omega, ucs, h6, h7⟩
set_option maxHeartbeats 8000000 in
set_option maxRecDepth 100000 in
theorem shaped_any {N : Nat → Prop} {w : World} {t : Nd} {cs : List Value} (h : NdAt N w t cs) :
    Calls Tryz.prog 76 #[.agg cs.toArray] w fun e w' => e = .returned (.bool (shapedN t)) ∧ Below w.heap.size w w' := by
  obtain ⟨k, set, lo, hi, lazy, subs⟩ := t
  obtain ⟨o1, c1, o2, c2, rfl, ⟨hk0, hk1⟩, ⟨hl0, hl1⟩, ⟨hh0, hh1⟩, hs, hsl, hsm, -⟩ := nd_open h
  have hR : ∀ w', Below w.heap.size w w' → Calls Tryz.prog 95 #[.slice o1 set.length c1] w' (Rgt set w') := fun w' hb =>
    right_any (hs.kept (Kept.of_below hb (fun _ => False)) (fun _ _ _ => id))
  have HR := Lib.hid hR
  have hsp : 0 ≤ (set.length : Int) := by omega
  have hsq : 0 ≤ (subs.length : Int) := by omega
  clear hR hs h
  have key : shapedN (.mk k set lo hi lazy subs) = if k = 5 then decide (0 ≤ lo) && decide (lo ≤ 1000) && (decide (hi = -1) || (decide (lo ≤ hi) && decide (hi ≤ 1000))) && decide ((set.length : Int) = 0) && decide ((subs.length : Int) = 1)
      else decide (lo = 0) && decide (hi = 0) && !lazy && (if k = 1 then decide ((set.length : Int) + subs.length = 0) else if k = 2 then rgsOk set && decide ((subs.length : Int) = 0) else if k = 3 ∨ k = 4 then decide ((set.length : Int) = 0) && decide (1 < (subs.length : Int)) else if k = 6 then decide ((set.length : Int) = 0) && decide ((subs.length : Int) = 1) else false) := by
    have e1 : (set = []) ↔ ((set.length : Int) = 0) := by cases set <;> simp; omega
    have e2 : (subs = []) ↔ ((subs.length : Int) = 0) := by cases subs <;> simp; omega
    have e3 : (subs.length = 1) ↔ ((subs.length : Int) = 1) := by omega
    have e4 : (1 < subs.length) ↔ (1 < (subs.length : Int)) := by omega
    have e5 : (decide ((set.length : Int) = 0) && decide ((subs.length : Int) = 0)) = decide ((set.length : Int) + subs.length = 0) := by
      rw [Bool.eq_iff_iff]; simp only [Bool.and_eq_true, decide_eq_true_eq]; omega
    simp only [shapedN, e1, e2, e3, e4, e5]
  rw [key]
  clear key
  obtain ⟨x, hx⟩ : ∃ x : Int, x = (set.length : Int) := ⟨_, rfl⟩
  rcases (by omega : k = 5 ∨ k = 1 ∨ k = 2 ∨ k = 3 ∨ k = 4 ∨ k = 6 ∨ (k ≠ 1 ∧ k ≠ 2 ∧ k ≠ 3 ∧ k ≠ 4 ∧ k ≠ 5 ∧ k ≠ 6)) with rfl | rfl | rfl | rfl | rfl | rfl | ⟨k1, k2, k3, k4, k5, k6⟩
  · go_enter Tryz.func76, Tryz.ntmps76
    go_wp2_with fail
    all_goals
      go_ret
      refine ⟨?_, (Below.refl _ _).alloc (Nat.le_refl _) _⟩
      first | rfl | (apply ret_bool; cases subs <;> simp <;> omega) | (apply ret_bool; simp_all; done) | (apply ret_bool; simp; done) | (apply ret_bool; simp; omega) | (apply ret_bool; simp; intros; omega)
  · go_enter Tryz.func76, Tryz.ntmps76
    go_wp2_with fail
    all_goals
      go_ret
      refine ⟨?_, (Below.refl _ _).alloc (Nat.le_refl _) _⟩
      first | rfl | (apply ret_bool; cases subs <;> simp <;> omega) | (apply ret_bool; simp_all; done) | (apply ret_bool; simp; done) | (apply ret_bool; simp; omega) | (apply ret_bool; simp; intros; omega)
  · go_enter Tryz.func76, Tryz.ntmps76
    go_wp2_with (go_at_call 95; refine (HR.out _ ((Below.refl _ _).alloc (Nat.le_refl _) _)).mono ?_; rintro e w' ⟨rfl, hb⟩; obtain ⟨hc, hf⟩ := bcell hb)
    all_goals
      go_ret
      try clear hc hf
      refine ⟨?_, ?_⟩
      · first | rfl | (apply ret_bool; simp; done) | (apply ret_bool; cases subs <;> simp <;> omega) | (apply ret_bool; simp_all; done) | (apply ret_bool; simp; omega) | (apply ret_bool; simp; intros; omega)
      · first
          | exact (Below.refl _ _).alloc (Nat.le_refl _) _
          | (refine ((Below.refl _ _).alloc (Nat.le_refl _) _).trans (hb.mono ?_); simp)
  · go_enter Tryz.func76, Tryz.ntmps76
    go_wp2_with fail
    all_goals
      go_ret
      refine ⟨?_, (Below.refl _ _).alloc (Nat.le_refl _) _⟩
      first | rfl | (apply ret_bool; cases subs <;> simp <;> omega) | (apply ret_bool; simp_all; done) | (apply ret_bool; simp; done) | (apply ret_bool; simp; omega) | (apply ret_bool; simp; intros; omega)
  · go_enter Tryz.func76, Tryz.ntmps76
    go_wp2_with fail
    all_goals
      go_ret
      refine ⟨?_, (Below.refl _ _).alloc (Nat.le_refl _) _⟩
      first | rfl | (apply ret_bool; cases subs <;> simp <;> omega) | (apply ret_bool; simp_all; done) | (apply ret_bool; simp; done) | (apply ret_bool; simp; omega) | (apply ret_bool; simp; intros; omega)
  · go_enter Tryz.func76, Tryz.ntmps76
    go_wp2_with fail
    all_goals
      go_ret
      refine ⟨?_, (Below.refl _ _).alloc (Nat.le_refl _) _⟩
      first | rfl | (apply ret_bool; cases subs <;> simp <;> omega) | (apply ret_bool; simp_all; done) | (apply ret_bool; simp; done) | (apply ret_bool; simp; omega) | (apply ret_bool; simp; intros; omega)
  · go_enter Tryz.func76, Tryz.ntmps76
    go_wp2_with fail
    all_goals
      go_ret
      refine ⟨?_, (Below.refl _ _).alloc (Nat.le_refl _) _⟩
      first | rfl | (apply ret_bool; cases subs <;> simp <;> omega) | (apply ret_bool; simp_all; done) | (apply ret_bool; simp; done) | (apply ret_bool; simp; omega) | (apply ret_bool; simp; intros; omega)
end Go.Proofs.YtnhjakdmbfadlaaGreatDoor
