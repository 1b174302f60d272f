/- what the whole wheel does up to its Wake, and at it: plain Lean -/
import Derived.Test.YtokgfmibhkkiaaaMoved
import Derived.Test.YtokgfmibhkkiaaaWakeW
namespace Go.Proofs.Ytokgfmibhkkiaaa
open Go.RowKit Wh Mem Go.Maps

theorem none_quiet {p : Plan} {s : Phase} {a b : Int} (h : Fits p s a) (hw : wakeOf p s a = none) (hab : a ≤ b) (hb : b ≤ 281474976710656) : adv p s a b = (s, ⟨-1, -1, 0⟩) := by
  obtain ⟨hr, ht, h⟩ := h
  have u1 := upTo_mono hr hab
  have key : b < nxt p a → upTo p b - upTo p a = 0 := by
    intro g
    by_cases c : upTo p a < upTo p b
    · have := (nxt_le_iff hr a b).2 c; omega
    · omega
  unfold wakeOf at hw
  split at hw
  · cases hw
  · rename_i c
    split at hw
    · cases hw
    · have k := key (by omega)
      unfold adv
      rcases h with ⟨h1, h2⟩ | ⟨h1, h2, h3, h4⟩ | ⟨h1, h2, h3⟩
      · rw [if_neg (by omega), if_pos h1, if_pos k]
      · rw [if_neg (by omega), if_neg (by omega), k]
        rw [if_neg (by omega)]
      · rw [if_pos h1, k]
theorem not_loud : ¬ Loud ⟨-1, -1, 0⟩ := by unfold Loud; simp
theorem quiet_one {l : List Mb} {now t b : Int} (hf : ∀ m ∈ l, Fits m.plan m.phase now) (hw : IsWake l now (some t)) (hab : now ≤ b) (hbt : b < t) (ht : t ≤ 281474976710656) : ∀ m ∈ l, adv m.plan m.phase now b = (m.phase, ⟨-1, -1, 0⟩) := by
  intro m hm
  cases h : wakeOf m.plan m.phase now with
  | none => exact none_quiet (hf m hm) h hab (by omega)
  | some u => exact wake_quiet (hf m hm) h hab (by have := hw.2 m hm u h; omega)
theorem list_quiet {l : List Mb} {now t b : Int} (hf : ∀ m ∈ l, Fits m.plan m.phase now) (hw : IsWake l now (some t)) (hab : now ≤ b) (hbt : b < t) (ht : t ≤ 281474976710656) : moves now b l = [] ∧ l.map (advM now b) = l := by
  have q := quiet_one hf hw hab hbt ht
  constructor
  · unfold moves
    rw [List.filter_eq_nil_iff.2]
    · rfl
    · intro m hm
      have : repM now b m = ⟨-1, -1, 0⟩ := by unfold repM; rw [q m hm]
      rw [this]
      simpa using not_loud
  · conv => rhs; rw [← List.map_id l]
    refine List.map_congr_left fun m hm => ?_
    unfold advM
    rw [q m hm]
    rfl
theorem wake_range {l : List Mb} {now t : Int} (hf : ∀ m ∈ l, Fits m.plan m.phase now) (hw : IsWake l now (some t)) : now < t ∧ t ≤ 281474976710656 := by
  obtain ⟨m, hm, h⟩ := hw.1
  exact wake_gt (hf m hm) h
theorem list_loud {l : List Mb} {now t : Int} (hf : ∀ m ∈ l, Fits m.plan m.phase now) (hw : IsWake l now (some t)) : 0 < (moves (t - 1) t l).length := by
  obtain ⟨h1, h2⟩ := wake_range hf hw
  have q := quiet_one hf hw (b := t - 1) (by omega) (by omega) h2
  obtain ⟨m, hm, h⟩ := hw.1
  have hl := wake_loud (hf m hm) h
  have hs := adv_split (hf m hm) (m := t - 1) (b := t) (by omega) (by omega)
  have hr := (hf m hm).1
  have key : Loud (adv m.plan m.phase (t - 1) t).2 := by
    rw [hs, q m hm] at hl
    have := (adv_loud_add (s := m.phase) (q := m.phase) hr (a := now) (m := t - 1) (b := t) (by omega) (by omega))
    rw [q m hm] at this
    rcases this.1 hl with h | h
    · exact absurd h not_loud
    · exact h
  unfold moves
  rw [List.length_map]
  exact List.length_pos_of_mem (List.mem_filter.2 ⟨hm, decide_eq_true (show Loud (repM (t - 1) t m) from key)⟩)
theorem wake_late {l : List Mb} {now : Int} (hf : ∀ m ∈ l, Fits m.plan m.phase now) (hw : IsWake l now none) : l = [] ∨ 281474976710656 - 2199023255552 < now := by
  cases l with
  | nil => exact .inl rfl
  | cons m r =>
    have := wake_none (hf m (by simp)) (hw m (by simp))
    exact .inr (by omega)
end Go.Proofs.Ytokgfmibhkkiaaa
