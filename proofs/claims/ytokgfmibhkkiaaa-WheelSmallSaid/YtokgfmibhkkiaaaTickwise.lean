/- Tick by tick, as the reference reckons: it is what due.Advance and due.Wake reckon at once. Plain arithmetic. -/
import Derived.Test.YtokgfmibhkkiaaaPlain
namespace Go.Proofs.Ytokgfmibhkkiaaa.Tw
open Wh

theorem due_next {p : Plan} (h : Right p) {m : Int} (_hm : 0 ≤ m) (ht : Tick (m + 1)) : upTo p (m + 1) - upTo p m = if IsDue p (m + 1) then 1 else 0 := by
  have u := upTo_mono h (show m ≤ m + 1 by omega)
  have n1 := nxt_gt h m
  have up1 : upTo p (m + 1) ≤ upTo p m + 1 := by
    obtain ⟨a, b⟩ := upTo_spec h (m + 1)
    obtain ⟨c, d⟩ := upTo_spec h m
    unfold nxt at b d
    obtain ⟨⟨e1, _⟩, _, _⟩ := h
    rcases Int.lt_or_le (upTo p m + 1) (upTo p (m + 1)) with g | g
    · exfalso
      have h2 : p.every * (upTo p m + 1) ≤ p.every * (upTo p (m + 1) - 1) := Int.mul_le_mul_of_nonneg_left (by omega) (by omega)
      rw [Int.mul_add] at h2
      omega
    · exact g
  by_cases hd : IsDue p (m + 1)
  · rw [if_pos hd]
    have hz : (m + 1 - p.offset) % p.every = 0 := by
      have h1 := due_form hd
      rw [show m + 1 - p.offset = p.every * ((m + 1) / p.every) by omega]
      exact Int.mul_emod_right _ _
    have hn := nxt_zero h hz
    have := (nxt_le_iff h m (m + 1)).1 (by omega)
    omega
  · rw [if_neg hd]
    rcases Int.lt_or_le (upTo p m) (upTo p (m + 1)) with g | g
    · exfalso
      have hle := (nxt_le_iff h m (m + 1)).2 g
      have he : nxt p m = m + 1 := by omega
      apply hd
      refine ⟨h, ht, ?_⟩
      rw [← he]
      exact nxt_mod h m
    · omega

/-- one tick, as the reference passes it -/
def failP (p : Plan) (s : Phase) (r : Report) (t : Int) : Phase × Report := if s.state = 1 ∧ t = s.since + p.timeout then (⟨2, s.since⟩, ⟨r.begun, s.since, r.skipped⟩) else (s, r)
def passP (p : Plan) (s : Phase) (r : Report) (t : Int) : Phase × Report :=
  if IsDue p t then
    if (failP p s r t).1.state = 0 then (⟨1, t⟩, ⟨t, (failP p s r t).2.failed, (failP p s r t).2.skipped⟩)
    else ((failP p s r t).1, ⟨(failP p s r t).2.begun, (failP p s r t).2.failed, (failP p s r t).2.skipped + 1⟩)
  else failP p s r t
def advFold (p : Plan) (s : Phase) (a : Int) : Nat → Phase × Report
  | 0 => (s, ⟨-1, -1, 0⟩)
  | k + 1 => passP p (advFold p s a k).1 (advFold p s a k).2 (a + k + 1)

theorem rep_bounds {p : Plan} {s : Phase} {a b : Int} (h : Fits p s a) (hab : a ≤ b) : -1 ≤ (adv p s a b).2.begun ∧ (adv p s a b).2.begun ≤ b ∧ -1 ≤ (adv p s a b).2.failed ∧ ((adv p s a b).1.state = 1 → (adv p s a b).2.failed = -1) := by
  obtain ⟨hr, ht, hs⟩ := h
  have u1 := upTo_mono hr hab
  have n1 := nxt_gt hr a
  have ht0 := ht.1
  unfold adv
  split
  · simp; omega
  · split
    · split
      · simp; omega
      · have hn : nxt p a ≤ b := (nxt_le_iff hr a b).2 (by omega)
        split <;> simp <;> omega
    · have : 0 ≤ s.since := by
        rcases hs with h | h | h
        · omega
        · exact h.2.1.2.1.1
        · exact h.2.1.2.1.1
      split <;> simp <;> omega
theorem fail_no {p : Plan} {s : Phase} {r : Report} {t : Int} (h : ¬ (s.state = 1 ∧ t = s.since + p.timeout)) : failP p s r t = (s, r) := by unfold failP; rw [if_neg h]
theorem fail_yes {p : Plan} {s : Phase} {r : Report} {t : Int} (h : s.state = 1 ∧ t = s.since + p.timeout) : failP p s r t = (⟨2, s.since⟩, ⟨r.begun, s.since, r.skipped⟩) := by unfold failP; rw [if_pos h]
theorem pass_begin {p : Plan} {s s' : Phase} {r r' : Report} {t : Int} (hf : failP p s r t = (s', r')) (hd : IsDue p t) (h0 : s'.state = 0) : passP p s r t = (⟨1, t⟩, ⟨t, r'.failed, r'.skipped⟩) := by
  unfold passP; rw [if_pos hd, hf]; simp [h0]
theorem pass_skip {p : Plan} {s s' : Phase} {r r' : Report} {t : Int} (hf : failP p s r t = (s', r')) (hd : IsDue p t) (h0 : ¬ s'.state = 0) : passP p s r t = (s', ⟨r'.begun, r'.failed, r'.skipped + 1⟩) := by
  unfold passP; rw [if_pos hd, hf]; simp [h0]
theorem pass_no {p : Plan} {s s' : Phase} {r r' : Report} {t : Int} (hf : failP p s r t = (s', r')) (hd : ¬ IsDue p t) : passP p s r t = (s', r') := by
  unfold passP; rw [if_neg hd, hf]
theorem adv_two {p : Plan} {s : Phase} {a b : Int} (h : s.state = 2) : adv p s a b = (s, ⟨-1, -1, upTo p b - upTo p a⟩) := by unfold adv; rw [if_pos h]
theorem adv_rest {p : Plan} {s : Phase} {a b : Int} (h : s.state = 0) (hu : upTo p b - upTo p a = 0) : adv p s a b = (s, ⟨-1, -1, 0⟩) := by unfold adv; rw [if_neg (by omega), if_pos h, if_pos hu]
theorem adv_begin {p : Plan} {s : Phase} {a b : Int} (h : s.state = 0) (hu : ¬ upTo p b - upTo p a = 0) (hn : ¬ nxt p a + p.timeout ≤ b) : adv p s a b = (⟨1, nxt p a⟩, ⟨nxt p a, -1, upTo p b - upTo p a - 1⟩) := by
  unfold adv; rw [if_neg (by omega), if_pos h, if_neg hu, if_neg hn]
theorem adv_fail {p : Plan} {s : Phase} {a b : Int} (h : s.state = 1) (hn : s.since + p.timeout ≤ b) : adv p s a b = (⟨2, s.since⟩, ⟨-1, s.since, upTo p b - upTo p a⟩) := by
  unfold adv; rw [if_neg (by omega), if_neg (by omega), if_pos hn]
theorem adv_open {p : Plan} {s : Phase} {a b : Int} (h : s.state = 1) (hn : ¬ s.since + p.timeout ≤ b) : adv p s a b = (s, ⟨-1, -1, upTo p b - upTo p a⟩) := by
  unfold adv; rw [if_neg (by omega), if_neg (by omega), if_neg hn]
theorem addR_eq {r q x : Report} (h1 : max r.begun q.begun = x.begun) (h2 : max r.failed q.failed = x.failed) (h3 : r.skipped + q.skipped = x.skipped) : addR r q = x := by
  cases x; unfold addR; simp only [Report.mk.injEq]; exact ⟨h1, h2, h3⟩
theorem pass_adv {p : Plan} {s : Phase} {r : Report} {m : Int} (h : Fits p s m) (ht : Tick (m + 1)) (h1 : -1 ≤ r.begun) (h2 : r.begun ≤ m) (h3 : -1 ≤ r.failed) (h4 : s.state = 1 → r.failed = -1) :
    passP p s r (m + 1) = ((adv p s m (m + 1)).1, addR r (adv p s m (m + 1)).2) := by
  have hd := due_next h.1 h.2.1.1 ht
  obtain ⟨hr, hm, hs⟩ := h
  have hto := hr.2.2.1
  have hm0 := hm.1
  have n1 := nxt_gt hr m
  by_cases c : IsDue p (m + 1)
  · rw [if_pos c] at hd
    have hn : nxt p m = m + 1 := by
      have := (nxt_le_iff hr m (m + 1)).2 (by omega)
      omega
    rcases hs with ⟨s0, s1⟩ | ⟨s0, s1, s2, s3⟩ | ⟨s0, s1, s2⟩
    · rw [pass_begin (fail_no (fun g => by omega)) c s0, adv_begin s0 (by omega) (by omega), hn, hd]
      exact congrArg (Prod.mk _) (addR_eq (by show max r.begun (m + 1) = m + 1; omega) (by show max r.failed (-1) = r.failed; omega) (by show r.skipped + (1 - 1) = r.skipped; omega)).symm
    · have hs0 := s1.2.1.1
      by_cases e : m + 1 = s.since + p.timeout
      · have := h4 s0
        rw [pass_skip (fail_yes ⟨s0, e⟩) c (by show ¬ (2 : Int) = 0; omega), adv_fail s0 (by omega), hd]
        exact congrArg (Prod.mk _) (addR_eq (by show max r.begun (-1) = r.begun; omega) (by show max r.failed s.since = s.since; omega) rfl).symm
      · rw [pass_skip (fail_no (fun g => e g.2)) c (by omega), adv_open s0 (by omega), hd]
        exact congrArg (Prod.mk _) (addR_eq (by show max r.begun (-1) = r.begun; omega) (by show max r.failed (-1) = r.failed; omega) rfl).symm
    · rw [pass_skip (fail_no (fun g => by omega)) c (by omega), adv_two s0, hd]
      exact congrArg (Prod.mk _) (addR_eq (by show max r.begun (-1) = r.begun; omega) (by show max r.failed (-1) = r.failed; omega) rfl).symm
  · rw [if_neg c] at hd
    rcases hs with ⟨s0, s1⟩ | ⟨s0, s1, s2, s3⟩ | ⟨s0, s1, s2⟩
    · rw [pass_no (fail_no (fun g => by omega)) c, adv_rest s0 hd]
      exact congrArg (Prod.mk _) (addR_eq (by show max r.begun (-1) = r.begun; omega) (by show max r.failed (-1) = r.failed; omega) (by show r.skipped + 0 = r.skipped; omega)).symm
    · have hs0 := s1.2.1.1
      by_cases e : m + 1 = s.since + p.timeout
      · have := h4 s0
        rw [pass_no (fail_yes ⟨s0, e⟩) c, adv_fail s0 (by omega), hd]
        exact congrArg (Prod.mk _) (addR_eq (by show max r.begun (-1) = r.begun; omega) (by show max r.failed s.since = s.since; omega) (by show r.skipped + 0 = r.skipped; omega)).symm
      · rw [pass_no (fail_no (fun g => e g.2)) c, adv_open s0 (by omega), hd]
        exact congrArg (Prod.mk _) (addR_eq (by show max r.begun (-1) = r.begun; omega) (by show max r.failed (-1) = r.failed; omega) (by show r.skipped + 0 = r.skipped; omega)).symm
    · rw [pass_no (fail_no (fun g => by omega)) c, adv_two s0, hd]
      exact congrArg (Prod.mk _) (addR_eq (by show max r.begun (-1) = r.begun; omega) (by show max r.failed (-1) = r.failed; omega) (by show r.skipped + 0 = r.skipped; omega)).symm
/-- THE LAW: tick by tick is at once. -/
theorem fold_adv {p : Plan} {s : Phase} {a : Int} (h : Fits p s a) : ∀ k : Nat, Tick (a + k) → advFold p s a k = adv p s a (a + k)
  | 0, _ => by
    obtain ⟨hr, ht, hs⟩ := h
    rw [advFold]
    simp only [Int.natCast_zero, Int.add_zero]
    unfold adv
    rcases hs with ⟨s0, s1⟩ | ⟨s0, s1, s2, s3⟩ | ⟨s0, s1, s2⟩
    · rw [if_neg (by omega), if_pos s0, if_pos (by omega)]
    · rw [if_neg (by omega), if_neg (by omega), if_neg (by omega)]
      simp
    · rw [if_pos s0]
      simp
  | k + 1, ht => by
    have ha := h.2.1.1
    have htk : Tick (a + k) := ⟨by omega, by have := ht.2; omega⟩
    have ht1 : Tick (a + k + 1) := ⟨by omega, by have := ht.2; omega⟩
    have ih := fold_adv h k htk
    have hfit := adv_fits h (show a ≤ a + k by omega) htk
    obtain ⟨b1, b2, b3, b4⟩ := rep_bounds h (show a ≤ a + k by omega)
    rw [advFold, ih, pass_adv hfit ht1 b1 b2 b3 b4]
    rw [show (a + ((k + 1 : Nat) : Int)) = a + k + 1 by omega]
    rw [adv_split (m := a + k) (b := a + k + 1) h (by omega) (by omega)]

/-! ### the tick at which to wake -/
def changesAt (p : Plan) (s : Phase) (n : Int) : Prop := (s.state = 1 ∧ n = s.since + p.timeout) ∨ IsDue p n
theorem due_ge {p : Plan} (h : Right p) {t n : Int} (ht : 0 ≤ t) (hn : t < n) (hd : IsDue p n) : nxt p t ≤ n := by
  rw [nxt_le_iff h]
  have hk := hd.2.1
  have d := due_next h (m := n - 1) (by omega) (by rw [show n - 1 + 1 = n by omega]; exact hk)
  rw [show n - 1 + 1 = n by omega, if_pos hd] at d
  have := upTo_mono h (show t ≤ n - 1 by omega)
  omega
theorem wake_at {p : Plan} {s : Phase} {t w : Int} (h : Fits p s t) (hw : wakeOf p s t = some w) : changesAt p s w ∧ (∀ n, t < n → n < w → ¬ changesAt p s n) ∧ w ≤ t + p.every := by
  obtain ⟨hr, ht, hs⟩ := h
  have ht0 := ht.1
  have n1 := nxt_gt hr t
  have n2 := nxt_le hr t
  unfold wakeOf at hw
  split at hw
  · rename_i c
    simp at hw
    subst hw
    refine ⟨.inl ⟨c.1, rfl⟩, fun n h1 h2 hc => ?_, ?_⟩
    · rcases hc with hc | hc
      · omega
      · have := due_ge hr ht0 h1 hc
        omega
    · rcases hs with g | g | g
      · omega
      · have g2 := g.2.2.1
        have := hr.2.2.2
        omega
      · omega
  · rename_i c
    split at hw
    · simp at hw
      subst hw
      refine ⟨.inr (isDue_nxt hr ht0 ⟨by omega, by assumption⟩ (Int.le_refl _)), fun n h1 h2 hc => ?_, by omega⟩
      rcases hc with hc | hc
      · apply c
        refine ⟨hc.1, ?_, ?_⟩ <;> omega
      · have := due_ge hr ht0 h1 hc
        omega
    · cases hw
theorem wake_never {p : Plan} {s : Phase} {t : Int} (h : Fits p s t) (hw : wakeOf p s t = none) : ∀ n, t < n → n ≤ 281474976710656 → ¬ changesAt p s n := by
  obtain ⟨hr, ht, hs⟩ := h
  have ht0 := ht.1
  unfold wakeOf at hw
  split at hw
  · cases hw
  · rename_i c
    split at hw
    · cases hw
    · intro n h1 h2 hc
      rcases hc with hc | hc
      · apply c
        refine ⟨hc.1, ?_, ?_⟩ <;> omega
      · have := due_ge hr ht0 h1 hc
        omega
theorem pass_still {p : Plan} {s : Phase} {t : Int} (h : ¬ changesAt p s t) : passP p s ⟨-1, -1, 0⟩ t = (s, ⟨-1, -1, 0⟩) := by
  unfold changesAt at h
  exact pass_no (fail_no (fun g => h (.inl g))) (fun g => h (.inr g))
theorem pass_turns {p : Plan} {s : Phase} {t : Int} (h : changesAt p s t) : ((passP p s ⟨-1, -1, 0⟩ t).1.state ≠ s.state ∨ (passP p s ⟨-1, -1, 0⟩ t).1.since ≠ s.since) ∨ 0 < (passP p s ⟨-1, -1, 0⟩ t).2.skipped := by
  by_cases c : IsDue p t
  · by_cases e : s.state = 1 ∧ t = s.since + p.timeout
    · rw [pass_skip (fail_yes e) c (by show ¬ (2 : Int) = 0; omega)]
      right; simp
    · by_cases e0 : s.state = 0
      · rw [pass_begin (fail_no e) c e0]
        left; left
        show (1 : Int) ≠ s.state
        omega
      · rw [pass_skip (fail_no e) c e0]
        right; simp
  · rcases h with h | h
    · rw [pass_no (fail_yes h) c]
      left; left
      show (2 : Int) ≠ s.state
      omega
    · exact absurd h c
end Go.Proofs.Ytokgfmibhkkiaaa.Tw
