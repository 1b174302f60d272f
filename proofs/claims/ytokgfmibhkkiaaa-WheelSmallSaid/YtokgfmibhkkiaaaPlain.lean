/- Plain arithmetic of plans and phases: no program in sight. -/
namespace Go.Proofs.Ytokgfmibhkkiaaa.Wh

structure Plan where
  every : Int
  offset : Int
  timeout : Int

structure Phase where
  state : Int
  since : Int

structure Report where
  begun : Int
  failed : Int
  skipped : Int

def maxTime : Int := 281474976710656
def maxEvery : Int := 1099511627776

def Tick (t : Int) : Prop := 0 ≤ t ∧ t ≤ 281474976710656
instance (t : Int) : Decidable (Tick t) := inferInstanceAs (Decidable (_ ∧ _))

def Right (p : Plan) : Prop := (1 ≤ p.every ∧ p.every ≤ 1099511627776) ∧ (0 ≤ p.offset ∧ p.offset < p.every) ∧ (1 ≤ p.timeout ∧ p.timeout ≤ p.every)
instance (p : Plan) : Decidable (Right p) := inferInstanceAs (Decidable (_ ∧ _))

def IsDue (p : Plan) (t : Int) : Prop := Right p ∧ Tick t ∧ t % p.every = p.offset
instance (p : Plan) (t : Int) : Decidable (IsDue p t) := inferInstanceAs (Decidable (_ ∧ _))

/-- how many due ticks there are up to t (for t ≥ -1) -/
def upTo (p : Plan) (t : Int) : Int := (t - p.offset + p.every) / p.every
/-- the due tick after t -/
def nxt (p : Plan) (t : Int) : Int := p.offset + p.every * upTo p t

theorem upTo_spec {p : Plan} (h : Right p) (t : Int) : p.offset + p.every * (upTo p t - 1) ≤ t ∧ t < nxt p t := by
  unfold nxt upTo
  obtain ⟨⟨h1, _⟩, _, _⟩ := h
  have a := Int.mul_ediv_add_emod (t - p.offset + p.every) p.every
  have b := Int.emod_nonneg (t - p.offset + p.every) (b := p.every) (by omega)
  have c := Int.emod_lt_of_pos (t - p.offset + p.every) (b := p.every) (by omega)
  have d : p.every * ((t - p.offset + p.every) / p.every - 1) = p.every * ((t - p.offset + p.every) / p.every) - p.every := by rw [Int.mul_sub]; omega
  omega

theorem upTo_unique {p : Plan} (h : Right p) {t k : Int} (h1 : p.offset + p.every * (k - 1) ≤ t) (h2 : t < p.offset + p.every * k) : upTo p t = k := by
  obtain ⟨a, b⟩ := upTo_spec h t
  unfold nxt at b
  obtain ⟨⟨h0, _⟩, _, _⟩ := h
  have e : p.every * (k - 1) = p.every * k - p.every := by rw [Int.mul_sub]; omega
  have e2 : p.every * (upTo p t - 1) = p.every * upTo p t - p.every := by rw [Int.mul_sub]; omega
  generalize upTo p t = u at *
  rcases Int.lt_trichotomy u k with g | g | g
  · exfalso
    have : p.every * (k - 1) ≥ p.every * u := Int.mul_le_mul_of_nonneg_left (by omega) (by omega)
    omega
  · exact g
  · exfalso
    have : p.every * (u - 1) ≥ p.every * k := Int.mul_le_mul_of_nonneg_left (by omega) (by omega)
    omega

theorem upTo_mono {p : Plan} (h : Right p) {s t : Int} (hst : s ≤ t) : upTo p s ≤ upTo p t := by
  obtain ⟨⟨h0, _⟩, _, _⟩ := h
  exact Int.ediv_le_ediv (by omega) (by omega)

theorem upTo_nonneg {p : Plan} (h : Right p) {t : Int} (ht : -1 ≤ t) : 0 ≤ upTo p t := by
  obtain ⟨⟨h0, _⟩, _, _⟩ := h
  exact Int.ediv_nonneg (by omega) (by omega)

/-- the due tick after s has come at t: just if there is one more up to t. -/
theorem nxt_le_iff {p : Plan} (h : Right p) (s t : Int) : nxt p s ≤ t ↔ upTo p s < upTo p t := by
  obtain ⟨a, b⟩ := upTo_spec h t
  obtain ⟨c, d⟩ := upTo_spec h s
  have h' := h
  obtain ⟨⟨h0, _⟩, _, _⟩ := h
  unfold nxt at *
  generalize upTo p t = u at *
  generalize upTo p s = v at *
  constructor
  · intro g
    rcases Int.lt_or_le v u with q | q
    · exact q
    · exfalso
      have : p.every * u ≤ p.every * v := Int.mul_le_mul_of_nonneg_left q (by omega)
      omega
  · intro g
    have : p.every * v ≤ p.every * (u - 1) := Int.mul_le_mul_of_nonneg_left (by omega) (by omega)
    omega

/-- the due tick after s is the due tick after t, if none comes between. -/
theorem nxt_same {p : Plan} {s t : Int} (e : upTo p s = upTo p t) : nxt p s = nxt p t := by unfold nxt; rw [e]

theorem nxt_gt {p : Plan} (h : Right p) (t : Int) : t < nxt p t := (upTo_spec h t).2
theorem nxt_le {p : Plan} (h : Right p) (t : Int) : nxt p t ≤ t + p.every := by
  obtain ⟨a, b⟩ := upTo_spec h t
  have e2 : p.every * (upTo p t - 1) = p.every * upTo p t - p.every := by rw [Int.mul_sub]; omega
  unfold nxt at *
  omega

theorem nxt_nonneg {p : Plan} (h : Right p) {t : Int} (ht : -1 ≤ t) : p.offset ≤ nxt p t := by
  have := upTo_nonneg h ht
  obtain ⟨⟨h0, _⟩, _, _⟩ := h
  unfold nxt
  have : 0 ≤ p.every * upTo p t := Int.mul_nonneg (by omega) this
  omega

theorem nxt_mod {p : Plan} (h : Right p) (t : Int) : nxt p t % p.every = p.offset := by
  obtain ⟨⟨h0, _⟩, ⟨h1, h2⟩, _⟩ := h
  unfold nxt
  rw [Int.add_mul_emod_self_left]
  exact Int.emod_eq_of_lt h1 h2

/-- a due tick t: the count goes up just there -/
theorem due_form {p : Plan} {t : Int} (h : IsDue p t) : t = p.offset + p.every * (t / p.every) := by
  obtain ⟨_, _, h3⟩ := h
  have := Int.mul_ediv_add_emod t p.every
  omega

/-! ### what can be at a tick -/
def Fits (p : Plan) (s : Phase) (now : Int) : Prop :=
  Right p ∧ Tick now ∧ ((s.state = 0 ∧ s.since = 0) ∨ (s.state = 1 ∧ IsDue p s.since ∧ s.since ≤ now ∧ now < s.since + p.timeout) ∨ (s.state = 2 ∧ IsDue p s.since ∧ s.since ≤ now))

/-- due.Advance, of what is right. -/
def adv (p : Plan) (s : Phase) (a b : Int) : Phase × Report :=
  if s.state = 2 then (s, ⟨-1, -1, upTo p b - upTo p a⟩)
  else if s.state = 0 then
    if upTo p b - upTo p a = 0 then (s, ⟨-1, -1, 0⟩)
    else if nxt p a + p.timeout ≤ b then (⟨2, nxt p a⟩, ⟨nxt p a, nxt p a, upTo p b - upTo p a - 1⟩)
    else (⟨1, nxt p a⟩, ⟨nxt p a, -1, upTo p b - upTo p a - 1⟩)
  else if s.since + p.timeout ≤ b then (⟨2, s.since⟩, ⟨-1, s.since, upTo p b - upTo p a⟩)
  else (s, ⟨-1, -1, upTo p b - upTo p a⟩)

def Loud (r : Report) : Prop := 0 ≤ r.begun ∨ 0 ≤ r.failed ∨ 0 < r.skipped
instance (r : Report) : Decidable (Loud r) := inferInstanceAs (Decidable (_ ∨ _))

/-- due.Wake, of what fits: none: nothing more. -/
def wakeOf (p : Plan) (s : Phase) (t : Int) : Option Int :=
  if s.state = 1 ∧ s.since + p.timeout ≤ 281474976710656 ∧ (281474976710656 < nxt p t ∨ s.since + p.timeout < nxt p t) then some (s.since + p.timeout)
  else if nxt p t ≤ 281474976710656 then some (nxt p t) else none

theorem isDue_nxt {p : Plan} (h : Right p) {t b : Int} (ht : 0 ≤ t) (hb : Tick b) (hle : nxt p t ≤ b) : IsDue p (nxt p t) :=
  ⟨h, ⟨by have := nxt_gt h t; omega, by have := hb.2; omega⟩, nxt_mod h t⟩

theorem adv_fits {p : Plan} {s : Phase} {a b : Int} (h : Fits p s a) (hab : a ≤ b) (hb : Tick b) : Fits p (adv p s a b).1 b := by
  obtain ⟨hr, ht, h⟩ := h
  refine ⟨hr, hb, ?_⟩
  unfold adv
  rcases h with ⟨h1, h2⟩ | ⟨h1, h2, h3, h4⟩ | ⟨h1, h2, h3⟩
  · rw [if_neg (by omega), if_pos h1]
    split
    · exact .inl ⟨h1, h2⟩
    · have hn : nxt p a ≤ b := (nxt_le_iff hr a b).2 (by have := upTo_mono hr hab; omega)
      have hd := isDue_nxt hr ht.1 hb hn
      split
      · exact .inr (.inr ⟨rfl, hd, hn⟩)
      · exact .inr (.inl ⟨rfl, hd, hn, by simp; omega⟩)
  · rw [if_neg (by omega), if_neg (by omega)]
    split
    · exact .inr (.inr ⟨rfl, h2, by simp; omega⟩)
    · exact .inr (.inl ⟨h1, h2, by simp; omega, by simp; omega⟩)
  · rw [if_pos h1]
    exact .inr (.inr ⟨h1, h2, by simp; omega⟩)

def addR (r q : Report) : Report := ⟨max r.begun q.begun, max r.failed q.failed, r.skipped + q.skipped⟩

theorem adv_split {p : Plan} {s : Phase} {a m b : Int} (h : Fits p s a) (ham : a ≤ m) (hmb : m ≤ b) :
    adv p s a b = ((adv p (adv p s a m).1 m b).1, addR (adv p s a m).2 (adv p (adv p s a m).1 m b).2) := by
  obtain ⟨hr, ht, h⟩ := h
  have ht0 := ht.1
  have u1 := upTo_mono hr ham
  have u2 := upTo_mono hr hmb
  rcases h with ⟨h1, h2⟩ | ⟨h1, h2, h3, h4⟩ | ⟨h1, h2, h3⟩
  · have hn0 := nxt_gt hr a
    by_cases c1 : upTo p m - upTo p a = 0
    · have e1 : adv p s a m = (s, ⟨-1, -1, 0⟩) := by unfold adv; rw [if_neg (by omega), if_pos h1, if_pos c1]
      rw [e1]
      have en : nxt p a = nxt p m := nxt_same (by omega)
      have eu : upTo p a = upTo p m := by omega
      unfold adv addR
      rw [if_neg (by omega), if_pos h1]
      simp only [if_neg (show ¬ s.state = 2 by omega), if_pos h1, en, eu]
      split
      · simp
      · have hn : nxt p m ≤ b := (nxt_le_iff hr m b).2 (by omega)
        have := nxt_gt hr m
        split <;> simp <;> omega
    · have hn : nxt p a ≤ m := (nxt_le_iff hr a m).2 (by omega)
      by_cases c2 : nxt p a + p.timeout ≤ m
      · have e1 : adv p s a m = (⟨2, nxt p a⟩, ⟨nxt p a, nxt p a, upTo p m - upTo p a - 1⟩) := by unfold adv; rw [if_neg (by omega), if_pos h1, if_neg c1, if_pos c2]
        rw [e1]
        unfold adv addR
        rw [if_neg (by omega), if_pos h1, if_neg (by omega), if_pos (by omega)]
        simp only [if_true]
        have e : upTo p b - upTo p a - 1 = upTo p m - upTo p a - 1 + (upTo p b - upTo p m) := by omega
        rw [← e, Int.max_eq_left (by omega)]
      · have e1 : adv p s a m = (⟨1, nxt p a⟩, ⟨nxt p a, -1, upTo p m - upTo p a - 1⟩) := by unfold adv; rw [if_neg (by omega), if_pos h1, if_neg c1, if_neg c2]
        rw [e1]
        unfold adv addR
        have e : upTo p b - upTo p a - 1 = upTo p m - upTo p a - 1 + (upTo p b - upTo p m) := by omega
        rw [if_neg (by omega), if_pos h1, if_neg (by omega)]
        simp only [show ¬ ((1 : Int) = 2) by omega, show ¬ ((1 : Int) = 0) by omega, if_false]
        split
        · simp only [← e]; rw [Int.max_eq_left (by omega), Int.max_eq_right (by omega)]
        · simp only [← e]; rw [Int.max_eq_left (by omega), Int.max_eq_right (by omega)]
  · obtain ⟨hr2, ht2, hm2⟩ := h2
    have ht20 := ht2.1
    have n2 : ¬ s.state = 2 := by omega
    have n0 : ¬ s.state = 0 := by omega
    by_cases c : s.since + p.timeout ≤ m
    · have e1 : adv p s a m = (⟨2, s.since⟩, ⟨-1, s.since, upTo p m - upTo p a⟩) := by unfold adv; rw [if_neg n2, if_neg n0, if_pos c]
      rw [e1]
      unfold adv addR
      rw [if_neg n2, if_neg n0, if_pos (by omega)]
      have e : upTo p b - upTo p a = upTo p m - upTo p a + (upTo p b - upTo p m) := by omega
      simp only [if_true]
      rw [← e, Int.max_eq_left (by omega), Int.max_eq_left (by omega)]
    · have e1 : adv p s a m = (s, ⟨-1, -1, upTo p m - upTo p a⟩) := by unfold adv; rw [if_neg n2, if_neg n0, if_neg c]
      rw [e1]
      unfold adv addR
      have e : upTo p b - upTo p a = upTo p m - upTo p a + (upTo p b - upTo p m) := by omega
      simp only [if_neg n2, if_neg n0]
      split
      · simp only [← e]; rw [Int.max_eq_left (by omega), Int.max_eq_right (by omega)]
      · simp only [← e]; rw [Int.max_eq_left (by omega)]
  · unfold adv addR
    simp only [if_pos h1]
    have e : upTo p b - upTo p a = upTo p m - upTo p a + (upTo p b - upTo p m) := by omega
    rw [← e, Int.max_eq_left (by omega)]

theorem adv_loud_add {p : Plan} {s q : Phase} {a m b : Int} (hr : Right p) (ham : a ≤ m) (hmb : m ≤ b) :
    Loud (addR (adv p s a m).2 (adv p q m b).2) ↔ Loud (adv p s a m).2 ∨ Loud (adv p q m b).2 := by
  have u1 := upTo_mono hr ham
  have u2 := upTo_mono hr hmb
  have k : ∀ (t : Phase) (x y : Int), upTo p x ≤ upTo p y → 0 ≤ (adv p t x y).2.skipped := by
    intro t x y hxy
    unfold adv
    split
    · simp; omega
    · split
      · split
        · simp
        · split <;> simp <;> omega
      · split <;> simp <;> omega
  have k1 := k s a m u1
  have k2 := k q m b u2
  unfold Loud addR
  simp only
  omega

/-- nothing happens up to the tick before the one at which to wake. -/
theorem wake_quiet {p : Plan} {s : Phase} {a w b : Int} (h : Fits p s a) (hw : wakeOf p s a = some w) (hab : a ≤ b) (hbw : b < w) : adv p s a b = (s, ⟨-1, -1, 0⟩) := by
  obtain ⟨hr, ht, h⟩ := h
  have u1 := upTo_mono hr hab
  have key : b < nxt p a → upTo p b - upTo p a = 0 := by
    intro g
    by_cases c : upTo p a < upTo p b
    · have := (nxt_le_iff hr a b).2 c; omega
    · omega
  unfold wakeOf at hw
  split at hw
  · rename_i c
    simp at hw
    have k := key (by have := ht.2; omega)
    unfold adv
    rw [if_neg (by omega), if_neg (by omega), if_neg (by omega), k]
  · rename_i c
    split at hw
    · simp at hw
      have k := key (by omega)
      unfold adv
      rcases h with ⟨h1, h2⟩ | ⟨h1, h2, h3, h4⟩ | ⟨h1, h2, h3⟩
      · rw [if_neg (by omega), if_pos h1, if_pos k]
      · rw [if_neg (by omega), if_neg (by omega), k]
        rw [if_neg (by omega)]
      · rw [if_pos h1, k]
    · cases hw

/-- at the tick at which to wake something happens. -/
theorem wake_loud {p : Plan} {s : Phase} {a w : Int} (h : Fits p s a) (hw : wakeOf p s a = some w) : Loud (adv p s a w).2 := by
  obtain ⟨hr, ht, h⟩ := h
  unfold wakeOf at hw
  split at hw
  · rename_i c
    simp at hw
    obtain ⟨h1, c1, c2⟩ := c
    have hs : 0 ≤ s.since := by
      rcases h with ⟨h1, h2⟩ | ⟨h1, h2, h3, h4⟩ | ⟨h1, h2, h3⟩
      · omega
      · exact h2.2.1.1
      · omega
    unfold adv Loud
    rw [if_neg (by omega), if_neg (by omega), if_pos (by omega)]
    simp; omega
  · rename_i c
    split at hw
    · simp at hw
      subst hw
      have hlt := (nxt_le_iff hr a (nxt p a)).1 (Int.le_refl _)
      have := nxt_gt hr a
      have := ht.1
      unfold adv Loud
      split
      · simp; omega
      · split
        · rw [if_neg (by omega)]
          split <;> simp <;> omega
        · split <;> simp <;> omega
    · cases hw

theorem wake_gt {p : Plan} {s : Phase} {a w : Int} (h : Fits p s a) (hw : wakeOf p s a = some w) : a < w ∧ w ≤ 281474976710656 := by
  obtain ⟨hr, ht, h⟩ := h
  have := nxt_gt hr a
  unfold wakeOf at hw
  split at hw
  · simp at hw; omega
  · split at hw
    · simp at hw; omega
    · cases hw

theorem wake_none {p : Plan} {s : Phase} {a : Int} (h : Fits p s a) (hw : wakeOf p s a = none) : 281474976710656 - 1099511627776 < a := by
  obtain ⟨hr, ht, h⟩ := h
  have := nxt_le hr a
  obtain ⟨⟨h1, h2⟩, _⟩ := hr
  unfold wakeOf at hw
  split at hw
  · cases hw
  · split at hw
    · cases hw
    · omega


/-! ### as the program reckons -/
theorem upTo_lt {p : Plan} (h : Right p) {t : Int} (h0 : 0 ≤ t) (hlt : t < p.offset) : upTo p t = 0 := by
  refine upTo_unique h ?_ ?_
  · obtain ⟨⟨a, _⟩, ⟨_, b⟩, _⟩ := h; rw [Int.mul_sub]; omega
  · omega
theorem upTo_ge {p : Plan} (h : Right p) {t : Int} : upTo p t = (t - p.offset) / p.every + 1 := by
  obtain ⟨⟨a, _⟩, _, _⟩ := h
  unfold upTo
  rw [Int.add_ediv_of_dvd_right (Int.dvd_refl _), Int.ediv_self (by omega)]
theorem upTo_le {p : Plan} (h : Right p) {t : Int} (h0 : 0 ≤ t) : upTo p t ≤ t + 1 := by
  by_cases hlt : t < p.offset
  · rw [upTo_lt h h0 hlt]; omega
  · rw [upTo_ge h]
    obtain ⟨⟨a, _⟩, ⟨b, _⟩, _⟩ := h
    have := Int.ediv_le_self p.every (show 0 ≤ t - p.offset by omega)
    omega
theorem nxt_before {p : Plan} (h : Right p) {t : Int} (h0 : 0 ≤ t) (hlt : t < p.offset) : nxt p t = p.offset := by
  unfold nxt; rw [upTo_lt h h0 hlt]; simp
theorem nxt_zero {p : Plan} (h : Right p) {t : Int} (hz : (t + 1 - p.offset) % p.every = 0) : nxt p t = t + 1 := by
  have e := Int.mul_ediv_add_emod (t + 1 - p.offset) p.every
  have : upTo p t = (t + 1 - p.offset) / p.every := by
    refine upTo_unique h ?_ (by omega)
    obtain ⟨⟨a, _⟩, _, _⟩ := h
    rw [Int.mul_sub]; omega
  unfold nxt; rw [this]; omega
theorem nxt_pos {p : Plan} (h : Right p) {t : Int} (hz : 0 < (t + 1 - p.offset) % p.every) : nxt p t = t + 1 + (p.every - (t + 1 - p.offset) % p.every) := by
  have e := Int.mul_ediv_add_emod (t + 1 - p.offset) p.every
  have b := Int.emod_lt_of_pos (t + 1 - p.offset) (b := p.every) (by have := h.1.1; omega)
  have e2 : p.every * ((t + 1 - p.offset) / p.every + 1) = p.every * ((t + 1 - p.offset) / p.every) + p.every := by rw [Int.mul_add]; omega
  have : upTo p t = (t + 1 - p.offset) / p.every + 1 := by
    refine upTo_unique h ?_ (by omega)
    rw [Int.add_sub_cancel]; omega
  unfold nxt; rw [this]; omega
theorem tmod_neg {a b : Int} (ha : a ≤ 0) : a.tmod b ≤ 0 := by
  have := Int.tmod_nonneg b (show 0 ≤ -a by omega)
  rw [Int.neg_tmod] at this
  omega
end Go.Proofs.Ytokgfmibhkkiaaa.Wh
