/- What the reference's functions on plans do: Tick, Right, Is, pass. -/
import Derived.Test.YtokgfmibhkkiaaaTickwise
import Derived.Test.YtokgfmibhkkiaaaDue
namespace Go.Proofs.Ytokgfmibhkkiaaa
open Go.RowKit Wh Tw

theorem rtick_any (t : Int) (w : World) : Calls Try.prog 42 #[.int .i64 t] w fun e w' => e = .returned (.bool (decide (Tick t))) ∧ w = w' := by
  by_cases h0 : 0 ≤ t
  · by_cases h1 : t ≤ 281474976710656
    · rw [decide_eq_true (show Tick t from ⟨h0, h1⟩)]
      go_enter Try.func42, Try.ntmps42
      go_wp2
      go_ret
      exact ⟨by first | rfl | exact ret_bool (by simp; omega), rfl⟩
    · rw [decide_eq_false (show ¬ Tick t from fun h => h1 h.2)]
      go_enter Try.func42, Try.ntmps42
      go_wp2
      go_ret
      exact ⟨by first | rfl | exact ret_bool (by simp; omega), rfl⟩
  · rw [decide_eq_false (show ¬ Tick t from fun h => h0 h.1)]
    go_enter Try.func42, Try.ntmps42
    go_wp2
    go_ret
    exact ⟨by first | rfl | exact ret_bool (by simp; omega), rfl⟩
theorem rright_yes (y o t : Int) (h : Right ⟨y, o, t⟩) (w : World) :
    Calls Try.prog 58 #[.agg #[.int .i64 y, .int .i64 o, .int .i64 t]] w fun e w' => e = .returned (.bool true) ∧ Below w.heap.size w w' := by
  have h1 : 1 ≤ y := h.1.1
  have h2 : y ≤ 1099511627776 := h.1.2
  have h3 : 0 ≤ o := h.2.1.1
  have h4 : o < y := h.2.1.2
  have h5 : 1 ≤ t := h.2.2.1
  have h6 : t ≤ y := h.2.2.2
  clear h
  go_enter Try.func58, Try.ntmps58
  go_wp2
  go_ret
  exact ⟨by first | rfl | exact ret_bool (by simp; omega), (Below.refl _ _).alloc (Nat.le_refl _) _⟩
theorem rright_no (y o t : Int) (h : ¬ Right ⟨y, o, t⟩) (w : World) :
    Calls Try.prog 58 #[.agg #[.int .i64 y, .int .i64 o, .int .i64 t]] w fun e w' => e = .returned (.bool false) ∧ Below w.heap.size w w' := by
  unfold Right at h
  dsimp only at h
  have hc : y < 1 ∨ (1 ≤ y ∧ 1099511627776 < y) ∨ (1 ≤ y ∧ y ≤ 1099511627776 ∧ o < 0) ∨ (1 ≤ y ∧ y ≤ 1099511627776 ∧ 0 ≤ o ∧ y ≤ o) ∨ (1 ≤ y ∧ y ≤ 1099511627776 ∧ 0 ≤ o ∧ o < y ∧ t < 1) ∨ (1 ≤ y ∧ y ≤ 1099511627776 ∧ 0 ≤ o ∧ o < y ∧ 1 ≤ t ∧ y < t) := by omega
  clear h
  rcases hc with h1 | ⟨h1, h2⟩ | ⟨h1, h2, h3⟩ | ⟨h1, h2, h3, h4⟩ | ⟨h1, h2, h3, h4, h5⟩ | ⟨h1, h2, h3, h4, h5, h6⟩
  all_goals
    go_enter Try.func58, Try.ntmps58
    go_wp2
    go_ret
    exact ⟨by first | rfl | exact ret_bool (by simp; omega), (Below.refl _ _).alloc (Nat.le_refl _) _⟩
set_option maxRecDepth 100000 in
theorem ris_any (y o l : Int) (t : Int) (h : Right ⟨y, o, l⟩) (ht : Tick t) (w : World) :
    Calls Try.prog 74 #[.agg #[.int .i64 y, .int .i64 o, .int .i64 l], .int .i64 t] w fun e w' => e = .returned (.bool (t % y == o)) ∧ Below w.heap.size w w' := by
  have h1 : 1 ≤ y := h.1.1
  have h2 : y ≤ 1099511627776 := h.1.2
  have h3 : 0 ≤ t := ht.1
  have h4 : t ≤ 281474976710656 := ht.2
  have H := Lib.hid h
  have hti := fun W => rtick_any t W
  rw [decide_eq_true ht] at hti
  have HTI := Lib.hid hti
  clear h ht hti
  go_enter Try.func74, Try.ntmps74
  go_wp2_with fail
  refine wp_flow_below rfl (by kernel_rfl) ?_
  repeat (first
    | (apply flow_yes
       · rfl
       · intro W1 hW K hK
         obtain ⟨hc, hf⟩ := bcell hW
         go_wp2_with (first | (go_at_call 58; refine (rright_yes _ _ _ H.out _).mono ?_; rintro e w' ⟨rfl, hb⟩) | (go_at_call 42; refine (HTI.out _).mono ?_; rintro e w' ⟨rfl, rfl⟩))
         first | exact hW | exact hW.trans (hb.mono hW.size)
       simp only [Act.put, List.setIfInBounds_toArray, List.set_cons_zero, List.set_cons_succ])
    | (apply flow_no
       · rfl
       simp only [Act.put, List.setIfInBounds_toArray, List.set_cons_zero, List.set_cons_succ]))
  refine flow_nil fun W1 hW => ?_
  obtain ⟨hc, hf⟩ := bcell hW
  go_wp2
  go_ret
  exact ⟨rfl, ((Below.refl _ _).alloc (Nat.le_refl _) _).trans (hW.mono (by simp))⟩
theorem ris_is (y o l : Int) (t : Int) (h : Right ⟨y, o, l⟩) (ht : Tick t) {b : Bool} (hb : decide (IsDue ⟨y, o, l⟩ t) = b) (w : World) :
    Calls Try.prog 74 #[.agg #[.int .i64 y, .int .i64 o, .int .i64 l], .int .i64 t] w fun e w' => e = .returned (.bool b) ∧ Below w.heap.size w w' := by
  subst hb
  refine (ris_any y o l t h ht w).mono fun e w' ⟨h1, h2⟩ => ⟨?_, h2⟩
  rw [h1]
  refine ret_bool ?_
  rw [Bool.eq_iff_iff, beq_iff_eq, decide_eq_true_eq]
  exact ⟨fun g => ⟨h, ht, g⟩, fun g => g.2.2⟩
end Go.Proofs.Ytokgfmibhkkiaaa
