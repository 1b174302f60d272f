/- What the functions of package due do: Right, Is, Next, Fits and their helpers. -/
import Derived.Test.YtokgfmibhkkiaaaProg
import Derived.Test.YtokgfmibhkkiaaaPlain
import Derived.WalkKit
import Derived.Handy
import Derived.Lib.Hide
import Derived.Test.YtokgfmibhkkiaaaFlow
import Derived.Test.YtokgfmibhkkiaaaMem
import Derived.WalkMore
namespace Go.Proofs.Ytokgfmibhkkiaaa
open Go.RowKit Wh Mem

theorem bcell {W w1 : World} (hb : Below W.heap.size W w1) : (∀ b o, b < W.heap.size → w1.cell? ⟨b, o, none⟩ = W.cell? ⟨b, o, none⟩) ∧ (∀ b o, b < W.heap.size → w1.frozen? ⟨b, o, none⟩ = W.frozen? ⟨b, o, none⟩) :=
  ⟨fun b o h => hb.cell (p := ⟨b, o, none⟩) h, fun b o h => hb.frozen (p := ⟨b, o, none⟩) h⟩
theorem ret_bool {a b : Bool} (h : a = b) : Ending.returned (.bool a) = .returned (.bool b) := by rw [h]
theorem ret_int {k : IntKind} {a b : Int} (h : a = b) : Ending.returned (.int k a) = .returned (.int k b) := by rw [h]
theorem ret_int2 {a b c d : Int} (h : a = b) (h2 : c = d) : Ending.returned (.tuple #[.int .i64 a, .int .i64 c]) = .returned (.tuple #[.int .i64 b, .int .i64 d]) := by rw [h, h2]

/-- a plan and a phase as the program holds them -/
def pcells (p : Plan) : Array Value := #[.int .i64 p.every, .int .i64 p.offset, .int .i64 p.timeout]
def scells (s : Phase) : Array Value := #[.int .u8 s.state, .int .i64 s.since]
def rcells (r : Report) : Array Value := #[.int .i64 r.begun, .int .i64 r.failed, .int .i64 r.skipped]

/-- due.tick -/
theorem tick_yes (t : Int) (h : Tick t) (w : World) : Calls Try.prog 53 #[.int .i64 t] w fun e w' => e = .returned (.bool true) ∧ w = w' := by
  obtain ⟨h1, h2⟩ := h
  go_enter Try.func53, Try.ntmps53
  go_wp2
  go_ret
  exact ⟨by first | rfl | exact ret_bool (by simp; omega), rfl⟩
theorem tick_no (t : Int) (h : ¬ Tick t) (w : World) : Calls Try.prog 53 #[.int .i64 t] w fun e w' => e = .returned (.bool false) ∧ w = w' := by
  unfold Tick at h
  by_cases h1 : 0 ≤ t
  all_goals
    first | have h2 : 281474976710656 < t := by omega | skip
    clear h
    go_enter Try.func53, Try.ntmps53
    go_wp2
    go_ret
    exact ⟨by first | rfl | exact ret_bool (by simp; omega), rfl⟩
theorem tick_any (t : Int) (w : World) : Calls Try.prog 53 #[.int .i64 t] w fun e w' => e = .returned (.bool (decide (Tick t))) ∧ w = w' := by
  by_cases h : Tick t
  · rw [decide_eq_true h]; exact tick_yes t h w
  · rw [decide_eq_false h]; exact tick_no t h w

/-- due.Right -/
theorem right_yes (y o t : Int) (h : Right ⟨y, o, t⟩) (w : World) :
    Calls Try.prog 33 #[.agg #[.int .i64 y, .int .i64 o, .int .i64 t]] w fun e w' => e = .returned (.bool true) ∧ Below w.heap.size w w' := by
  unfold Right at h
  dsimp only at h
  obtain ⟨⟨h1, h2⟩, ⟨h3, h4⟩, h5, h6⟩ := h
  go_enter Try.func33, Try.ntmps33
  go_wp2
  go_ret
  exact ⟨by first | rfl | exact ret_bool (by simp; omega), (Below.refl _ _).alloc (Nat.le_refl _) _⟩
theorem right_no (y o t : Int) (h : ¬ Right ⟨y, o, t⟩) (w : World) :
    Calls Try.prog 33 #[.agg #[.int .i64 y, .int .i64 o, .int .i64 t]] w fun e w' => e = .returned (.bool false) ∧ Below w.heap.size w w' := by
  unfold Right at h
  dsimp only at h
  have hc : y < 1 ∨ (1 ≤ y ∧ 1099511627776 < y) ∨ (1 ≤ y ∧ y ≤ 1099511627776 ∧ o < 0) ∨ (1 ≤ y ∧ y ≤ 1099511627776 ∧ 0 ≤ o ∧ y ≤ o) ∨ (1 ≤ y ∧ y ≤ 1099511627776 ∧ 0 ≤ o ∧ o < y ∧ t < 1) ∨ (1 ≤ y ∧ y ≤ 1099511627776 ∧ 0 ≤ o ∧ o < y ∧ 1 ≤ t ∧ y < t) := by omega
  clear h
  rcases hc with h1 | ⟨h1, h2⟩ | ⟨h1, h2, h3⟩ | ⟨h1, h2, h3, h4⟩ | ⟨h1, h2, h3, h4, h5⟩ | ⟨h1, h2, h3, h4, h5, h6⟩
  all_goals
    go_enter Try.func33, Try.ntmps33
    go_wp2
    go_ret
    exact ⟨by first | rfl | exact ret_bool (by simp; omega), (Below.refl _ _).alloc (Nat.le_refl _) _⟩
theorem right_any (y o t : Int) (w : World) :
    Calls Try.prog 33 #[.agg #[.int .i64 y, .int .i64 o, .int .i64 t]] w fun e w' => e = .returned (.bool (decide (Right ⟨y, o, t⟩))) ∧ Below w.heap.size w w' := by
  by_cases h : Right ⟨y, o, t⟩
  · rw [decide_eq_true h]; exact right_yes y o t h w
  · rw [decide_eq_false h]; exact right_no y o t h w

/- due.Is -/
set_option maxRecDepth 100000 in
theorem is_no1 (y o l : Int) (t : Int) (h : ¬ Right ⟨y, o, l⟩) (w : World) :
    Calls Try.prog 57 #[.agg #[.int .i64 y, .int .i64 o, .int .i64 l], .int .i64 t] w fun e w' => e = .returned (.bool false) ∧ Below w.heap.size w w' := by
  have H := Lib.hid h
  clear h
  go_enter Try.func57, Try.ntmps57
  go_wp2_with fail
  refine wp_flow_below rfl (by kernel_rfl) ?_
  repeat (first
    | (apply flow_yes
       · rfl
       · intro W1 hW K hK
         obtain ⟨hc, hf⟩ := bcell hW
         go_wp2_with ((go_at_call 33; refine (right_no _ _ _ H.out _).mono ?_; rintro e w' ⟨rfl, hb⟩))
         first | exact hW | exact hW.trans (hb.mono hW.size)
       simp only [Act.put, List.setIfInBounds_toArray, List.set_cons_zero, List.set_cons_succ])
    | (apply flow_no
       · rfl
       simp only [Act.put, List.setIfInBounds_toArray, List.set_cons_zero, List.set_cons_succ]))
  refine flow_nil fun W1 hW => ?_
  obtain ⟨hc, hf⟩ := bcell hW
  go_wp2
  go_ret
  exact ⟨rfl, ((Below.refl _ _).alloc (Nat.le_refl _) _).trans (hW.mono (by simp))⟩

set_option maxRecDepth 100000 in
theorem is_no2 (y o l : Int) (t : Int) (h : Right ⟨y, o, l⟩) (ht : ¬ Tick t) (w : World) :
    Calls Try.prog 57 #[.agg #[.int .i64 y, .int .i64 o, .int .i64 l], .int .i64 t] w fun e w' => e = .returned (.bool false) ∧ Below w.heap.size w w' := by
  have H := Lib.hid h
  have HT := Lib.hid ht
  clear h ht
  go_enter Try.func57, Try.ntmps57
  go_wp2_with fail
  refine wp_flow_below rfl (by kernel_rfl) ?_
  repeat (first
    | (apply flow_yes
       · rfl
       · intro W1 hW K hK
         obtain ⟨hc, hf⟩ := bcell hW
         go_wp2_with (first | (go_at_call 33; refine (right_yes _ _ _ H.out _).mono ?_; rintro e w' ⟨rfl, hb⟩) | (go_at_call 53; refine (tick_no _ HT.out _).mono ?_; rintro e w' ⟨rfl, rfl⟩))
         first | exact hW | exact hW.trans (hb.mono hW.size)
       simp only [Act.put, List.setIfInBounds_toArray, List.set_cons_zero, List.set_cons_succ])
    | (apply flow_no
       · rfl
       simp only [Act.put, List.setIfInBounds_toArray, List.set_cons_zero, List.set_cons_succ]))
  refine flow_nil fun W1 hW => ?_
  obtain ⟨hc, hf⟩ := bcell hW
  go_wp2
  go_ret
  exact ⟨rfl, ((Below.refl _ _).alloc (Nat.le_refl _) _).trans (hW.mono (by simp))⟩

set_option maxRecDepth 100000 in
theorem is_mod (y o l : Int) (t : Int) (h : Right ⟨y, o, l⟩) (ht : Tick t) (w : World) :
    Calls Try.prog 57 #[.agg #[.int .i64 y, .int .i64 o, .int .i64 l], .int .i64 t] w fun e w' => e = .returned (.bool (t % y == o)) ∧ Below w.heap.size w w' := by
  have h1 : 1 ≤ y := h.1.1
  have h2 : y ≤ 1099511627776 := h.1.2
  have h3 : 0 ≤ t := ht.1
  have h4 : t ≤ 281474976710656 := ht.2
  have H := Lib.hid h
  have HT := Lib.hid ht
  clear h ht
  go_enter Try.func57, Try.ntmps57
  go_wp2_with fail
  refine wp_flow_below rfl (by kernel_rfl) ?_
  repeat (first
    | (apply flow_yes
       · rfl
       · intro W1 hW K hK
         obtain ⟨hc, hf⟩ := bcell hW
         go_wp2_with (first | (go_at_call 33; refine (right_yes _ _ _ H.out _).mono ?_; rintro e w' ⟨rfl, hb⟩) | (go_at_call 53; refine (tick_yes _ HT.out _).mono ?_; rintro e w' ⟨rfl, rfl⟩))
         first | exact hW | exact hW.trans (hb.mono hW.size)
       simp only [Act.put, List.setIfInBounds_toArray, List.set_cons_zero, List.set_cons_succ])
    | (apply flow_no
       · rfl
       simp only [Act.put, List.setIfInBounds_toArray, List.set_cons_zero, List.set_cons_succ]))
  refine flow_nil fun W1 hW => ?_
  obtain ⟨hc, hf⟩ := bcell hW
  go_wp2
  go_ret
  exact ⟨rfl, ((Below.refl _ _).alloc (Nat.le_refl _) _).trans (hW.mono (by simp))⟩

theorem is_any (y o l : Int) (t : Int) (w : World) :
    Calls Try.prog 57 #[.agg #[.int .i64 y, .int .i64 o, .int .i64 l], .int .i64 t] w fun e w' => e = .returned (.bool (decide (IsDue ⟨y, o, l⟩ t))) ∧ Below w.heap.size w w' := by
  by_cases h : Right ⟨y, o, l⟩
  · by_cases ht : Tick t
    · refine (is_mod y o l t h ht w).mono fun e w' ⟨h1, h2⟩ => ⟨?_, h2⟩
      rw [h1]
      refine ret_bool ?_
      rw [Bool.eq_iff_iff, beq_iff_eq, decide_eq_true_eq]
      exact ⟨fun g => ⟨h, ht, g⟩, fun g => g.2.2⟩
    · rw [decide_eq_false (fun g => ht g.2.1)]; exact is_no2 y o l t h ht w
  · rw [decide_eq_false (fun g => h g.1)]; exact is_no1 y o l t h w
theorem is_yes (y o l : Int) (t : Int) (h : IsDue ⟨y, o, l⟩ t) (w : World) :
    Calls Try.prog 57 #[.agg #[.int .i64 y, .int .i64 o, .int .i64 l], .int .i64 t] w fun e w' => e = .returned (.bool true) ∧ Below w.heap.size w w' := by
  have := is_any y o l t w
  rw [decide_eq_true h] at this
  exact this
theorem is_no (y o l : Int) (t : Int) (h : ¬ IsDue ⟨y, o, l⟩ t) (w : World) :
    Calls Try.prog 57 #[.agg #[.int .i64 y, .int .i64 o, .int .i64 l], .int .i64 t] w fun e w' => e = .returned (.bool false) ∧ Below w.heap.size w w' := by
  have := is_any y o l t w
  rw [decide_eq_false h] at this
  exact this

/-- due.upTo -/
theorem upTo_any (y o l : Int) (t : Int) (h : Right ⟨y, o, l⟩) (ht : Tick t) (w : World) :
    Calls Try.prog 66 #[.agg #[.int .i64 y, .int .i64 o, .int .i64 l], .int .i64 t] w fun e w' => e = .returned (.int .i64 (upTo ⟨y, o, l⟩ t)) ∧ Below w.heap.size w w' := by
  have h1 : 1 ≤ y := h.1.1
  have h2 : y ≤ 1099511627776 := h.1.2
  have h3 : 0 ≤ t := ht.1
  have h4 : t ≤ 281474976710656 := ht.2
  have h5 : 0 ≤ o := h.2.1.1
  have h6 : o < y := h.2.1.2
  have hlt := @upTo_lt _ h t h3
  have hge := @upTo_ge _ h t
  have hle := @upTo_le _ h t h3
  dsimp only at hlt hge
  by_cases c : t < o
  · rw [hlt c]
    clear hlt hge hle h ht
    go_enter Try.func66, Try.ntmps66
    go_wp2
    go_ret
    exact ⟨rfl, (Below.refl _ _).alloc (Nat.le_refl _) _⟩
  · rw [hge] at hle ⊢
    have h7 : 0 ≤ (t - o) / y := Int.ediv_nonneg (by omega) (by omega)
    have h8 : 0 ≤ t - o := by omega
    clear hlt hge h ht
    go_enter Try.func66, Try.ntmps66
    go_wp2
    go_ret
    exact ⟨rfl, (Below.refl _ _).alloc (Nat.le_refl _) _⟩

set_option maxRecDepth 100000 in
/-- due.Count -/
theorem count_any (y o l : Int) (s t : Int) (h : Right ⟨y, o, l⟩) (hs : Tick s) (ht : Tick t) (hst : s ≤ t) (w : World) :
    Calls Try.prog 54 #[.agg #[.int .i64 y, .int .i64 o, .int .i64 l], .int .i64 s, .int .i64 t] w fun e w' => e = .returned (.tuple #[.int .i64 (upTo ⟨y, o, l⟩ t - upTo ⟨y, o, l⟩ s), .int .i64 0]) ∧ Below w.heap.size w w' := by
  have h3 := @upTo_le _ h t ht.1
  have h4 := @upTo_le _ h s hs.1
  have h5 := @upTo_nonneg _ h t (by have := ht.1; omega)
  have h6 := @upTo_nonneg _ h s (by have := hs.1; omega)
  have h7 := hs.2
  have h8 := ht.2
  have H := Lib.hid h
  have HT := Lib.hid ht
  have HS := Lib.hid hs
  have ct := fun w => upTo_any y o l t h ht w
  have cs := fun w => upTo_any y o l s h hs w
  have CT := Lib.hid ct
  have CS := Lib.hid cs
  clear h ht hs ct cs
  generalize upTo ⟨y, o, l⟩ t = ut at *
  generalize upTo ⟨y, o, l⟩ s = us at *
  go_enter Try.func54, Try.ntmps54
  go_wp2_with fail
  refine (right_yes _ _ _ H.out _).mono ?_
  rintro e w1 ⟨rfl, hb⟩
  obtain ⟨hc, hf⟩ := bcell hb
  go_wp2_with fail
  refine (tick_yes _ HS.out _).mono ?_
  rintro e w2 ⟨rfl, rfl⟩
  go_wp2_with fail
  refine (tick_yes _ HT.out _).mono ?_
  rintro e w2 ⟨rfl, rfl⟩
  go_wp2_with fail
  have hb0 : Below w.heap.size w w1 := ((Below.refl _ _).alloc (Nat.le_refl _) _).trans (hb.mono (by simp))
  have hs0 : w.heap.size < w1.heap.size := by have := hb.size; simp at this; omega
  clear hb
  refine wp_flow_below rfl (by kernel_rfl) ?_
  repeat (first
    | (apply flow_yes
       · rfl
       · intro W1 hW K hK
         obtain ⟨hc2, hf2⟩ := bcell hW
         go_wp2_with (first | (go_at_call 66; with_reducible refine (CT.out _).mono ?_; rintro e w' ⟨rfl, hb⟩) | (go_at_call 66; with_reducible refine (CS.out _).mono ?_; rintro e w' ⟨rfl, hb⟩))
         first | exact hW | exact hW.trans (hb.mono hW.size)
       simp only [Act.put, List.setIfInBounds_toArray, List.set_cons_zero, List.set_cons_succ]))
  refine flow_nil fun W1 hW => ?_
  go_wp2
  go_ret2
  exact ⟨rfl, hb0.trans (hW.mono (by omega))⟩

set_option maxRecDepth 100000 in
/-- due.Next -/
theorem next_ok (y o l : Int) (t : Int) (h : Right ⟨y, o, l⟩) (ht : Tick t) (hn : nxt ⟨y, o, l⟩ t ≤ 281474976710656) (w : World) :
    Calls Try.prog 52 #[.agg #[.int .i64 y, .int .i64 o, .int .i64 l], .int .i64 t] w fun e w' => e = .returned (.tuple #[.int .i64 (nxt ⟨y, o, l⟩ t), .int .i64 0]) ∧ Below w.heap.size w w' := by
  have h1 : 1 ≤ y := h.1.1
  have h2 : y ≤ 1099511627776 := h.1.2
  have h3 : 0 ≤ t := ht.1
  have h4 : t ≤ 281474976710656 := ht.2
  have h5 : 0 ≤ o := h.2.1.1
  have h6 : o < y := h.2.1.2
  have hq : Tick (nxt ⟨y, o, l⟩ t) := ⟨by have := nxt_gt h t; omega, hn⟩
  have hc1 := @nxt_before _ h t h3
  have hc2 := @nxt_zero _ h t
  have hc3 := @nxt_pos _ h t
  dsimp only at hc1 hc2 hc3
  have H := Lib.hid h
  have HT := Lib.hid ht
  have c : (t + 1 < o) ∨ (o ≤ t + 1 ∧ (t + 1 - o) % y = 0) ∨ (o ≤ t + 1 ∧ 0 < (t + 1 - o) % y) := by
    have := Int.emod_nonneg (t + 1 - o) (b := y) (by omega)
    omega
  rcases c with c | ⟨c, c2⟩ | ⟨c, c2⟩
  · rw [hc1 (by omega)] at hq ⊢
    have HQ := Lib.hid hq
    have h7 : (t + 1 - o).tmod y ≤ 0 := tmod_neg (by omega)
    clear h ht hq hc1 hc2 hc3 hn
    go_enter Try.func52, Try.ntmps52
    go_wp2_with (first | (go_at_call 33; refine (right_yes _ _ _ H.out _).mono ?_; rintro e w1 ⟨rfl, hb⟩; obtain ⟨hc, hf⟩ := bcell hb) | (go_at_call 53; with_reducible refine (tick_yes _ HT.out _).mono ?_; rintro e w2 ⟨rfl, rfl⟩) | (go_at_call 53; with_reducible refine (tick_yes _ HQ.out _).mono ?_; rintro e w2 ⟨rfl, rfl⟩))
    go_ret2
    exact ⟨rfl, ((Below.refl _ _).alloc (Nat.le_refl _) _).trans (hb.mono (by simp))⟩
  · rw [hc2 c2] at hq hn ⊢
    have HQ := Lib.hid hq
    have h7 : (t + 1 - o) % y ≤ 0 := by omega
    have h8 : 0 ≤ t + 1 - o := by omega
    clear h ht hq hc1 hc2 hc3 c2
    go_enter Try.func52, Try.ntmps52
    go_wp2_with (first | (go_at_call 33; refine (right_yes _ _ _ H.out _).mono ?_; rintro e w1 ⟨rfl, hb⟩; obtain ⟨hc, hf⟩ := bcell hb) | (go_at_call 53; with_reducible refine (tick_yes _ HT.out _).mono ?_; rintro e w2 ⟨rfl, rfl⟩) | (go_at_call 53; with_reducible refine (tick_yes _ HQ.out _).mono ?_; rintro e w2 ⟨rfl, rfl⟩))
    go_ret2
    exact ⟨rfl, ((Below.refl _ _).alloc (Nat.le_refl _) _).trans (hb.mono (by simp))⟩
  · rw [hc3 c2] at hq hn ⊢
    have HQ := Lib.hid hq
    have h8 : 0 ≤ t + 1 - o := by omega
    have h9 := Int.emod_lt_of_pos (t + 1 - o) (b := y) (by omega)
    clear h ht hq hc1 hc2 hc3
    go_enter Try.func52, Try.ntmps52
    go_wp2_with (first | (go_at_call 33; refine (right_yes _ _ _ H.out _).mono ?_; rintro e w1 ⟨rfl, hb⟩; obtain ⟨hc, hf⟩ := bcell hb) | (go_at_call 53; with_reducible refine (tick_yes _ HT.out _).mono ?_; rintro e w2 ⟨rfl, rfl⟩) | (go_at_call 53; with_reducible refine (tick_yes _ HQ.out _).mono ?_; rintro e w2 ⟨rfl, rfl⟩))
    go_ret2
    exact ⟨rfl, ((Below.refl _ _).alloc (Nat.le_refl _) _).trans (hb.mono (by simp))⟩

set_option maxRecDepth 100000 in
theorem next_full (y o l : Int) (t : Int) (h : Right ⟨y, o, l⟩) (ht : Tick t) (hn : 281474976710656 < nxt ⟨y, o, l⟩ t) (w : World) :
    Calls Try.prog 52 #[.agg #[.int .i64 y, .int .i64 o, .int .i64 l], .int .i64 t] w fun e w' => e = .returned (.tuple #[.int .i64 0, .int .i64 4]) ∧ Below w.heap.size w w' := by
  have h1 : 1 ≤ y := h.1.1
  have h2 : y ≤ 1099511627776 := h.1.2
  have h3 : 0 ≤ t := ht.1
  have h4 : t ≤ 281474976710656 := ht.2
  have h5 : 0 ≤ o := h.2.1.1
  have h6 : o < y := h.2.1.2
  have hq : ¬ Tick (nxt ⟨y, o, l⟩ t) := fun g => by have := g.2; omega
  have hc1 := @nxt_before _ h t h3
  have hc2 := @nxt_zero _ h t
  have hc3 := @nxt_pos _ h t
  dsimp only at hc1 hc2 hc3
  have H := Lib.hid h
  have HT := Lib.hid ht
  have c : (t + 1 < o) ∨ (o ≤ t + 1 ∧ (t + 1 - o) % y = 0) ∨ (o ≤ t + 1 ∧ 0 < (t + 1 - o) % y) := by
    have := Int.emod_nonneg (t + 1 - o) (b := y) (by omega)
    omega
  rcases c with c | ⟨c, c2⟩ | ⟨c, c2⟩
  · exfalso
    rw [hc1 (by omega)] at hn
    omega
  · rw [hc2 c2] at hq hn
    have HQ := Lib.hid hq
    have h7 : (t + 1 - o) % y ≤ 0 := by omega
    have h8 : 0 ≤ t + 1 - o := by omega
    clear h ht hq hc1 hc2 hc3 c2
    go_enter Try.func52, Try.ntmps52
    go_wp2_with (first | (go_at_call 33; refine (right_yes _ _ _ H.out _).mono ?_; rintro e w1 ⟨rfl, hb⟩; obtain ⟨hc, hf⟩ := bcell hb) | (go_at_call 53; with_reducible refine (tick_yes _ HT.out _).mono ?_; rintro e w2 ⟨rfl, rfl⟩) | (go_at_call 53; with_reducible refine (tick_no _ HQ.out _).mono ?_; rintro e w2 ⟨rfl, rfl⟩))
    go_ret2
    exact ⟨rfl, ((Below.refl _ _).alloc (Nat.le_refl _) _).trans (hb.mono (by simp))⟩
  · rw [hc3 c2] at hq hn
    have HQ := Lib.hid hq
    have h8 : 0 ≤ t + 1 - o := by omega
    have h9 := Int.emod_lt_of_pos (t + 1 - o) (b := y) (by omega)
    clear h ht hq hc1 hc2 hc3
    go_enter Try.func52, Try.ntmps52
    go_wp2_with (first | (go_at_call 33; refine (right_yes _ _ _ H.out _).mono ?_; rintro e w1 ⟨rfl, hb⟩; obtain ⟨hc, hf⟩ := bcell hb) | (go_at_call 53; with_reducible refine (tick_yes _ HT.out _).mono ?_; rintro e w2 ⟨rfl, rfl⟩) | (go_at_call 53; with_reducible refine (tick_no _ HQ.out _).mono ?_; rintro e w2 ⟨rfl, rfl⟩))
    go_ret2
    exact ⟨rfl, ((Below.refl _ _).alloc (Nat.le_refl _) _).trans (hb.mono (by simp))⟩

set_option maxRecDepth 100000 in
/-- due.Fits -/
theorem fits0 (y o l : Int) (t : Int) (h : Right ⟨y, o, l⟩) (ht : Tick t) (w : World) :
    Calls Try.prog 39 #[.agg #[.int .i64 y, .int .i64 o, .int .i64 l], .agg #[.int .u8 0, .int .i64 0], .int .i64 t] w fun e w' => e = .returned (.bool true) ∧ Below w.heap.size w w' := by
  have H := Lib.hid h
  have HT := Lib.hid ht
  clear h ht
  go_enter Try.func39, Try.ntmps39
  go_wp2_with (first | (go_at_call 33; refine (right_yes _ _ _ H.out _).mono ?_; rintro e w1 ⟨rfl, hb⟩; obtain ⟨hc, hf⟩ := bcell hb) | (go_at_call 53; with_reducible refine (tick_yes _ HT.out _).mono ?_; rintro e w2 ⟨rfl, rfl⟩))
  go_ret
  exact ⟨rfl, (((Below.refl _ _).alloc (Nat.le_refl _) _).alloc (by simp) _).trans (hb.mono (by simp; omega))⟩

set_option maxRecDepth 100000 in
theorem fits1 (y o l s : Int) (t : Int) (h : Right ⟨y, o, l⟩) (ht : Tick t) (hi : IsDue ⟨y, o, l⟩ s) (hst : s ≤ t) (hlt : t < s + l) (w : World) :
    Calls Try.prog 39 #[.agg #[.int .i64 y, .int .i64 o, .int .i64 l], .agg #[.int .u8 1, .int .i64 s], .int .i64 t] w fun e w' => e = .returned (.bool true) ∧ Below w.heap.size w w' := by
  have h1 : 1 ≤ y := h.1.1
  have h2 : y ≤ 1099511627776 := h.1.2
  have h3 : 0 ≤ t := ht.1
  have h4 : t ≤ 281474976710656 := ht.2
  have h5 : 0 ≤ s := hi.2.1.1
  have h6 : s ≤ 281474976710656 := hi.2.1.2
  have h7 : l ≤ y := h.2.2.2
  have h8 : 1 ≤ l := h.2.2.1
  have H := Lib.hid h
  have HT := Lib.hid ht
  have HI := Lib.hid hi
  clear h ht hi
  go_enter Try.func39, Try.ntmps39
  go_wp2_with (first | (go_at_call 33; refine (right_yes _ _ _ H.out _).mono ?_; rintro e w1 ⟨rfl, hb⟩; obtain ⟨hc, hf⟩ := bcell hb) | (go_at_call 53; with_reducible refine (tick_yes _ HT.out _).mono ?_; rintro e w2 ⟨rfl, rfl⟩) | (go_at_call 57; with_reducible refine (is_yes _ _ _ _ HI.out _).mono ?_; rintro e w3 ⟨rfl, hb2⟩; replace hb := hb.trans (hb2.mono hb.size); clear hc hf; obtain ⟨hc, hf⟩ := bcell hb))
  go_ret
  exact ⟨rfl, (((Below.refl _ _).alloc (Nat.le_refl _) _).alloc (by simp) _).trans (hb.mono (by simp; omega))⟩

set_option maxRecDepth 100000 in
theorem fits2 (y o l s : Int) (t : Int) (h : Right ⟨y, o, l⟩) (ht : Tick t) (hi : IsDue ⟨y, o, l⟩ s) (hst : s ≤ t) (w : World) :
    Calls Try.prog 39 #[.agg #[.int .i64 y, .int .i64 o, .int .i64 l], .agg #[.int .u8 2, .int .i64 s], .int .i64 t] w fun e w' => e = .returned (.bool true) ∧ Below w.heap.size w w' := by
  have h1 : 1 ≤ y := h.1.1
  have h2 : y ≤ 1099511627776 := h.1.2
  have h3 : 0 ≤ t := ht.1
  have h4 : t ≤ 281474976710656 := ht.2
  have h5 : 0 ≤ s := hi.2.1.1
  have h6 : s ≤ 281474976710656 := hi.2.1.2
  have h7 : l ≤ y := h.2.2.2
  have h8 : 1 ≤ l := h.2.2.1
  have H := Lib.hid h
  have HT := Lib.hid ht
  have HI := Lib.hid hi
  clear h ht hi
  go_enter Try.func39, Try.ntmps39
  go_wp2_with (first | (go_at_call 33; refine (right_yes _ _ _ H.out _).mono ?_; rintro e w1 ⟨rfl, hb⟩; obtain ⟨hc, hf⟩ := bcell hb) | (go_at_call 53; with_reducible refine (tick_yes _ HT.out _).mono ?_; rintro e w2 ⟨rfl, rfl⟩) | (go_at_call 57; with_reducible refine (is_yes _ _ _ _ HI.out _).mono ?_; rintro e w3 ⟨rfl, hb2⟩; replace hb := hb.trans (hb2.mono hb.size); clear hc hf; obtain ⟨hc, hf⟩ := bcell hb))
  go_ret
  exact ⟨rfl, (((Below.refl _ _).alloc (Nat.le_refl _) _).alloc (by simp) _).trans (hb.mono (by simp; omega))⟩

/-- due.Fits, of what fits. -/
theorem fits_yes (p : Plan) (s : Phase) (t : Int) (h : Fits p s t) (w : World) :
    Calls Try.prog 39 #[.agg #[.int .i64 p.every, .int .i64 p.offset, .int .i64 p.timeout], .agg #[.int .u8 s.state, .int .i64 s.since], .int .i64 t] w fun e w' => e = .returned (.bool true) ∧ Below w.heap.size w w' := by
  obtain ⟨y, o, l⟩ := p
  obtain ⟨st, si⟩ := s
  obtain ⟨hr, ht, h⟩ := h
  dsimp only at h ⊢
  rcases h with ⟨rfl, rfl⟩ | ⟨rfl, h2, h3, h4⟩ | ⟨rfl, h2, h3⟩
  · exact fits0 y o l t hr ht w
  · exact fits1 y o l si t hr ht h2 h3 h4 w
  · exact fits2 y o l si t hr ht h2 h3 w

set_option maxRecDepth 100000 in
/-- due.Advance's begin -/
theorem begin_any (y o l st si f m r0 r1 r2 : Int) (bp bf bs bm br : Nat) (w : World) (h : Right ⟨y, o, l⟩) (ht : Tick f) (hn : nxt ⟨y, o, l⟩ f ≤ 281474976710656) (hm : 0 ≤ m) (hm2 : m ≤ 281474976710657)
    (Hp : Blk w bp #[.int .i64 y, .int .i64 o, .int .i64 l] 52) (Hf : Blk w bf #[.int .i64 f] 3) (Hs : Blk w bs #[.int .u8 st, .int .i64 si] 59) (Hm : Blk w bm #[.int .i64 m] 3)
    (Hr : Blk w br #[.int .i64 r0, .int .i64 r1, .int .i64 r2] 43) (d1 : bs ≠ br) (d2 : bm ≠ bs) (d3 : bm ≠ br) :
    Calls Try.prog 55 #[.pointer (some ⟨bp, 0, none⟩), .pointer (some ⟨bf, 0, none⟩), .pointer (some ⟨bs, 0, none⟩), .pointer (some ⟨bm, 0, none⟩), .pointer (some ⟨br, 0, none⟩)] w
      fun e w' => e = .returned (.tuple #[]) ∧ Kept (fun k => k = bs ∨ k = br) w w' ∧ Blk w' bs #[.int .u8 1, .int .i64 (nxt ⟨y, o, l⟩ f)] 59 ∧ Blk w' br #[.int .i64 (nxt ⟨y, o, l⟩ f), .int .i64 r1, .int .i64 (m - 1)] 43 := by
  have cn := fun w => next_ok y o l f h ht hn w
  have CN := Lib.hid cn
  clear cn h ht hn
  generalize nxt ⟨y, o, l⟩ f = n at *
  obtain ⟨p0, p1, p2, _⟩ := Hp.three
  obtain ⟨f0, _⟩ := Hf.one
  go_enter Try.func55, Try.ntmps55
  go_wp2_with fail
  refine (CN.out _).mono ?_
  rintro e w1 ⟨rfl, hb⟩
  have Hs1 := Hs.below hb Hs.lt
  have Hm1 := Hm.below hb Hm.lt
  have Hr1 := Hr.below hb Hr.lt
  obtain ⟨s0, s1, s2, s3⟩ := Hs1.two
  obtain ⟨m0, m1⟩ := Hm1.one
  obtain ⟨q0, q1, q2, q3, q4, q5⟩ := Hr1.three
  clear p0 p1 p2 f0
  go_wp2_with fail
  go_region
  go_end0
  exact ⟨rfl, (((((Kept.of_below hb _).setCell (fun _ => .inl rfl) _).setCell (fun _ => .inl rfl) _).setCell (fun _ => .inr rfl) _).setCell (fun _ => .inr rfl) _).drew,
    ((((Hs1.set 0 _).set 1 _).setOther d1 _).setOther d1 _).drew, ((((Hr1.setOther d1.symm _).setOther d1.symm _).set 0 _).set 2 _).drew⟩

set_option maxRecDepth 100000 in
/-- due.Advance's fail, where it is time -/
theorem fail_yes (y o l st si b r0 r1 r2 : Int) (bs bp bt br : Nat) (w : World) (h1 : 0 ≤ si) (h2 : si ≤ 281474976710656) (h3 : 1 ≤ l) (h4 : l ≤ 1099511627776) (hle : si + l ≤ b)
    (Hs : Blk w bs #[.int .u8 st, .int .i64 si] 59) (Hp : Blk w bp #[.int .i64 y, .int .i64 o, .int .i64 l] 52) (Ht : Blk w bt #[.int .i64 b] 3)
    (Hr : Blk w br #[.int .i64 r0, .int .i64 r1, .int .i64 r2] 43) (d1 : bs ≠ br) :
    Calls Try.prog 56 #[.pointer (some ⟨bs, 0, none⟩), .pointer (some ⟨bp, 0, none⟩), .pointer (some ⟨bt, 0, none⟩), .pointer (some ⟨br, 0, none⟩)] w
      fun e w' => e = .returned (.tuple #[]) ∧ Kept (fun k => k = bs ∨ k = br) w w' ∧ Blk w' bs #[.int .u8 2, .int .i64 si] 59 ∧ Blk w' br #[.int .i64 r0, .int .i64 si, .int .i64 r2] 43 := by
  obtain ⟨p0, p1, p2, _⟩ := Hp.three
  obtain ⟨f0, _⟩ := Ht.one
  obtain ⟨s0, s1, s2, s3⟩ := Hs.two
  obtain ⟨q0, q1, q2, q3, q4, q5⟩ := Hr.three
  go_enter Try.func56, Try.ntmps56
  go_wp2
  go_end0
  exact ⟨rfl, ((Kept.refl _ _).setCell (fun _ => .inl rfl) _).setCell (fun _ => .inr rfl) _, (Hs.set 0 _).setOther d1 _, (Hr.setOther d1.symm _).set 1 _⟩
set_option maxRecDepth 100000 in
theorem fail_no (y o l st si b : Int) (bs bp bt br : Nat) (w : World) (h1 : 0 ≤ si) (h2 : si ≤ 281474976710656) (h3 : 1 ≤ l) (h4 : l ≤ 1099511627776) (hle : b < si + l)
    (Hs : Blk w bs #[.int .u8 st, .int .i64 si] 59) (Hp : Blk w bp #[.int .i64 y, .int .i64 o, .int .i64 l] 52) (Ht : Blk w bt #[.int .i64 b] 3) :
    Calls Try.prog 56 #[.pointer (some ⟨bs, 0, none⟩), .pointer (some ⟨bp, 0, none⟩), .pointer (some ⟨bt, 0, none⟩), .pointer (some ⟨br, 0, none⟩)] w
      fun e w' => e = .returned (.tuple #[]) ∧ w = w' := by
  obtain ⟨p0, p1, p2, _⟩ := Hp.three
  obtain ⟨f0, _⟩ := Ht.one
  obtain ⟨s0, s1, s2, s3⟩ := Hs.two
  go_enter Try.func56, Try.ntmps56
  go_wp2
  go_end0
  exact ⟨rfl, rfl⟩
end Go.Proofs.Ytokgfmibhkkiaaa
