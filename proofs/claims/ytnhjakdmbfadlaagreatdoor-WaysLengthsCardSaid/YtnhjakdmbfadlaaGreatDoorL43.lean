/- Parts of the proof: Len, Nin, Rns, Wlp. Conditions: none. -/
import Derived.Test.YtnhjakdmbfadlaaGreatDoorL01
import Derived.Test.YtnhjakdmbfadlaaGreatDoorL02
import Derived.Test.YtnhjakdmbfadlaaGreatDoorL00
import Derived.Test.YtnhjakdmbfadlaaGreatDoorL41
import Derived.Laws.IdiomStrings
import Derived.Test.YtnhjakdmbfadlaaGreatDoorL40
import Derived.Test.YtnhjakdmbfadlaaGreatDoorL20
set_option linter.all false
/- The lengths of a tree bound its ways; a tree is nullable just if one of its ways takes nothing. -/
namespace Go.Proofs.Wy

/-- so many steps of reading lead from a place to another -/
def Steps (S : Str) : Nat → Nat → Nat → Prop
  | 0, p, q => p = q
  | k + 1, p, q => 0 < (S.dec p).2 ∧ Steps S k (p + (S.dec p).2) q
theorem Steps.trans {S : Str} : ∀ {k j p q r : Nat}, Steps S k p q → Steps S j q r → Steps S (k + j) p r
  | 0, j, p, q, r, h, h2 => by
    have e : p = q := h
    subst e
    rw [Nat.zero_add]; exact h2
  | k + 1, j, p, q, r, h, h2 => by
    rw [show k + 1 + j = (k + j) + 1 by omega]
    exact ⟨h.1, Steps.trans h.2 h2⟩
theorem Steps.le {S : Str} : ∀ {k p q : Nat}, Steps S k p q → p + k ≤ q
  | 0, p, q, h => by have e : p = q := h; omega
  | k + 1, p, q, h => by have := Steps.le h.2; have := h.1; omega
theorem Steps.small {S : Str} (hS : ∀ p, 0 < (S.dec p).2 → p + (S.dec p).2 ≤ 1000) : ∀ {k p q : Nat}, Steps S k p q → k ≤ 1000 ∧ (k = 0 ∨ q ≤ 1000)
  | 0, p, q, h => ⟨by omega, .inl rfl⟩
  | k + 1, p, q, h => by
    have h1 := hS p h.1
    have h2 := Steps.le h.2
    rcases (Steps.small hS h.2).2 with e | e
    · subst e
      have e2 : p + (S.dec p).2 = q := h.2
      exact ⟨by omega, .inr (by omega)⟩
    · have := h.1
      exact ⟨by omega, .inr e⟩

def plusL (a b : Int) : Int := if a = -1 ∨ b = -1 then -1 else min (a + b) 1073741824
def timesL (a n : Int) : Int := if a = 0 ∨ n = 0 then 0 else if a = -1 ∨ n = -1 then -1 else min (a * n) 1073741824
def stepLen (k lo hi : Int) (i : Nat) (acc ab : Int × Int) : Int × Int :=
  if k = 5 then (timesL ab.1 lo, timesL ab.2 hi)
  else if k ≠ 4 ∨ i = 0 then (plusL acc.1 ab.1, plusL acc.2 ab.2)
  else (min acc.1 ab.1, if acc.2 ≠ -1 ∧ (ab.2 = -1 ∨ acc.2 < ab.2) then ab.2 else acc.2)
mutual
def lens : Nd → Int × Int
  | .mk k _ lo hi _ subs => lensL k lo hi 0 (if k = 2 then (1, 1) else (0, 0)) subs
def lensL (k lo hi : Int) : Nat → Int × Int → List Nd → Int × Int
  | _, acc, [] => acc
  | i, acc, s :: r => lensL k lo hi (i + 1) (stepLen k lo hi i acc (lens s)) r
end
/-- lengths that are none below nothing, but for one that is without an end -/
def Okl (lm : Int × Int) : Prop := 0 ≤ lm.1 ∧ lm.1 ≤ 1073741824 ∧ (lm.2 = -1 ∨ 0 ≤ lm.2 ∧ lm.2 ≤ 1073741824)
def Bnd (lm : Int × Int) (k : Nat) : Prop := lm.1 ≤ k ∧ (lm.2 = -1 ∨ (k : Int) ≤ lm.2)
theorem bnd_zero : Bnd (0, 0) 0 := ⟨by decide, .inr (by decide)⟩
theorem okl_plus {a b : Int × Int} (ha : Okl a) (hb : Okl b) : Okl (plusL a.1 b.1, plusL a.2 b.2) := by
  unfold Okl plusL at *
  obtain ⟨h1, h2, h3⟩ := ha
  obtain ⟨g1, g2, g3⟩ := hb
  simp only
  refine ⟨?_, ?_, ?_⟩
  · split <;> omega
  · split <;> omega
  · split <;> omega
theorem bnd_plus {a b : Int × Int} {k j : Nat} (ha : Okl a) (hb : Okl b) (h : Bnd a k) (g : Bnd b j) (hs : k + j ≤ 1000) : Bnd (plusL a.1 b.1, plusL a.2 b.2) (k + j) := by
  unfold Okl Bnd plusL at *
  obtain ⟨h1, h2, h3⟩ := ha
  obtain ⟨g1, g2, g3⟩ := hb
  simp only
  refine ⟨?_, ?_⟩
  · rw [if_neg (by omega)]; omega
  · split
    · exact .inl rfl
    · right; omega
theorem okl_times {a : Int × Int} {lo hi : Int} (ha : Okl a) (h0 : 0 ≤ lo) (hh : hi = -1 ∨ 0 ≤ hi) : Okl (timesL a.1 lo, timesL a.2 hi) := by
  unfold Okl timesL at *
  obtain ⟨h1, h2, h3⟩ := ha
  simp only
  have m1 : 0 ≤ a.1 * lo := Int.mul_nonneg h1 h0
  refine ⟨?_, ?_, ?_⟩
  · split
    · omega
    · rw [if_neg (by omega)]; omega
  · split
    · omega
    · rw [if_neg (by omega)]; omega
  · split
    · right; omega
    · split
      · exact .inl rfl
      · have m2 : 0 ≤ a.2 * hi := Int.mul_nonneg (by omega) (by omega)
        right; omega
theorem bnd_times {a : Int × Int} {lo hi : Int} {k n : Nat} (ha : Okl a) (h0 : 0 ≤ lo) (hh : hi = -1 ∨ 0 ≤ hi) (hn : lo ≤ n) (hn2 : hi = -1 ∨ (n : Int) ≤ hi) (h1 : (n : Int) * a.1 ≤ k) (h2 : a.2 = -1 ∨ (k : Int) ≤ n * a.2) (hz : n = 0 → k = 0) (hs : k ≤ 1000) : Bnd (timesL a.1 lo, timesL a.2 hi) k := by
  unfold Okl at ha
  obtain ⟨g1, g2, g3⟩ := ha
  unfold Bnd timesL
  simp only
  refine ⟨?_, ?_⟩
  · split
    · omega
    · rw [if_neg (by omega)]
      have : a.1 * lo ≤ a.1 * n := Int.mul_le_mul_of_nonneg_left hn g1
      rw [Int.mul_comm a.1 (n : Int)] at this
      omega
  · split
    · next hc =>
      right
      rcases hc with hc | hc
      · rcases h2 with h2 | h2
        · omega
        · rw [hc, Int.mul_zero] at h2; exact h2
      · have hn0 : (n : Int) = 0 := by omega
        have := hz (by omega)
        omega
    · next hc =>
      split
      · exact .inl rfl
      · next hd =>
        right
        have h3 : (k : Int) ≤ n * a.2 := by omega
        have h4 : (n : Int) * a.2 ≤ hi * a.2 := Int.mul_le_mul_of_nonneg_right (by omega) (by omega)
        rw [Int.mul_comm hi] at h4
        omega
theorem okl_step {k lo hi : Int} {i : Nat} {acc ab : Int × Int} (ha : Okl acc) (hb : Okl ab) (h0 : k = 5 → 0 ≤ lo ∧ (hi = -1 ∨ 0 ≤ hi)) : Okl (stepLen k lo hi i acc ab) := by
  unfold stepLen
  split
  · next h5 => exact okl_times hb (h0 h5).1 (h0 h5).2
  split
  · exact okl_plus ha hb
  · unfold Okl at *
    simp only
    obtain ⟨h1, h2, h3⟩ := ha
    obtain ⟨g1, g2, g3⟩ := hb
    refine ⟨by omega, by omega, ?_⟩
    split <;> omega
theorem shaped_five {set : List Rg} {lo hi : Int} {lazy : Bool} {subs : List Nd} (h : shapedN (.mk 5 set lo hi lazy subs) = true) : set = [] ∧ 0 ≤ lo ∧ (hi = -1 ∨ lo ≤ hi) ∧ ∃ s, subs = [s] := by
  unfold shapedN at h
  simp only [if_true, Bool.and_eq_true, Bool.or_eq_true, decide_eq_true_eq] at h
  obtain ⟨⟨⟨⟨h1, h2⟩, h3⟩, h4⟩, h5⟩ := h
  refine ⟨h4, h1, by omega, ?_⟩
  match subs, h5 with
  | [s], _ => exact ⟨s, rfl⟩
mutual
theorem lens_ok : ∀ t : Nd, (look t).shaped = true → Okl (lens t)
  | .mk k set lo hi lazy subs, h => by
    rw [look_shaped] at h
    simp only [Bool.and_eq_true] at h
    rw [lens]
    refine lensL_ok k lo hi (fun e => ?_) subs (by simpa using h.2) 0 _ ?_
    · subst e
      obtain ⟨-, h1, h2, -⟩ := shaped_five h.1
      exact ⟨h1, by omega⟩
    · split <;> exact ⟨by decide, by decide, .inr ⟨by decide, by decide⟩⟩
theorem lensL_ok (k lo hi : Int) (h0 : k = 5 → 0 ≤ lo ∧ (hi = -1 ∨ 0 ≤ hi)) : ∀ l : List Nd, (∀ s ∈ l, (look s).shaped = true) → ∀ (i : Nat) (acc : Int × Int), Okl acc → Okl (lensL k lo hi i acc l)
  | [], _, i, acc, ha => by rw [lensL]; exact ha
  | s :: r, h, i, acc, ha => by
    rw [lensL]
    exact lensL_ok k lo hi h0 r (fun u hu => h u (List.mem_cons_of_mem _ hu)) (i + 1) _ (okl_step ha (lens_ok s (h s (by simp))) h0)
end
/-- the ways of a repetition: so many times, and so many steps -/
theorem allR_len {S : Str} {f : Nat → Option (List Nat)} {lo hi : Int} {lazy : Bool} {a b : Int} (ha : 0 ≤ a) (hb : b = -1 ∨ 0 ≤ b) (hf : ∀ p m, f p = some m → ∀ v ∈ m, ∃ k, Steps S k p v ∧ a ≤ k ∧ (b = -1 ∨ (k : Int) ≤ b)) :
    ∀ (k w t : Nat) (l : List Nat), allR f lo hi lazy k w t = some l → (hi = -1 ∨ (t : Int) ≤ hi) → ∀ q ∈ l, ∃ n j : Nat, lo ≤ ((t + n : Nat) : Int) ∧ (hi = -1 ∨ ((t + n : Nat) : Int) ≤ hi) ∧ Steps S j w q ∧ (n : Int) * a ≤ j ∧ (b = -1 ∨ (j : Int) ≤ n * b) ∧ (n = 0 → j = 0)
  | 0, w, t, l, h, _, q, hq => by simp [allR] at h
  | k + 1, w, t, l, h, ht, q, hq => by
    have ih := allR_len (lo := lo) (hi := hi) (lazy := lazy) ha hb hf k
    rw [allR_succ] at h
    have hself : ∀ {q : Nat}, q ∈ (if lo ≤ (t : Int) then [w] else []) → ∃ n j : Nat, lo ≤ ((t + n : Nat) : Int) ∧ (hi = -1 ∨ ((t + n : Nat) : Int) ≤ hi) ∧ Steps S j w q ∧ (n : Int) * a ≤ j ∧ (b = -1 ∨ (j : Int) ≤ n * b) ∧ (n = 0 → j = 0) := fun {q} hq => by
      split at hq
      · next hl =>
        obtain rfl : q = w := by simpa using hq
        exact ⟨0, 0, by simpa using hl, by simpa using ht, rfl, by simp, .inr (by simp), fun _ => rfl⟩
      · simp at hq
    obtain ⟨m, hm, rfl⟩ := Option.map_eq_some_iff.1 h
    have hmore : ∀ q ∈ m, ∃ n j : Nat, lo ≤ ((t + n : Nat) : Int) ∧ (hi = -1 ∨ ((t + n : Nat) : Int) ≤ hi) ∧ Steps S j w q ∧ (n : Int) * a ≤ j ∧ (b = -1 ∨ (j : Int) ≤ n * b) ∧ (n = 0 → j = 0) := fun q hq => by
      split at hm
      · next hc =>
        split at hm
        · next m1 hm1 =>
          obtain ⟨v, hv, n1, hn1, hq1⟩ := allOf_mem hm q hq
          obtain ⟨j1, s1, s2, s3⟩ := hf w m1 hm1 v hv
          obtain ⟨n, j, e1, e2, e3, e4, e5, -⟩ := ih v (t + 1) n1 hn1 (by omega) q hq1
          refine ⟨n + 1, j1 + j, by rw [show t + (n + 1) = t + 1 + n by omega]; exact e1, by rw [show t + (n + 1) = t + 1 + n by omega]; exact e2, s1.trans e3, ?_, ?_, fun e => by omega⟩
          · rw [Int.natCast_add, Int.add_mul]
            simp only [Int.natCast_add, Int.natCast_one, Int.one_mul]
            omega
          · rcases s3 with s3 | s3
            · exact .inl s3
            · rcases e5 with e5 | e5
              · exact .inl e5
              · right
                rw [Int.natCast_add, Int.natCast_add, Int.add_mul]
                simp only [Int.natCast_one, Int.one_mul]
                omega
        · cases hm
      · cases hm; simp at hq
    split at hq
    · rcases List.mem_append.1 hq with hq | hq
      · exact hself hq
      · exact hmore q hq
    · rcases List.mem_append.1 hq with hq | hq
      · exact hmore q hq
      · exact hself hq
/-- the ways of a sequence -/
theorem cat_len {S : Str} (hS : ∀ p, 0 < (S.dec p).2 → p + (S.dec p).2 ≤ 1000) {k lo hi : Int} (hk : k = 3) {p : Nat} : ∀ (subs : List Nd), (∀ s ∈ subs, Okl (lens s) ∧ ∀ p m, ends S s p = some m → ∀ q ∈ m, ∃ k, Steps S k p q ∧ Bnd (lens s) k) →
    ∀ (i : Nat) (acc : Int × Int) (o : Option (List Nat)), Okl acc → (∀ m, o = some m → ∀ r ∈ m, ∃ k, Steps S k p r ∧ Bnd acc k) → ∀ m, subs.foldl (fun o s => o.bind fun m => most (allOf (ends S s) m)) o = some m → ∀ q ∈ m, ∃ j, Steps S j p q ∧ Bnd (lensL k lo hi i acc subs) j
  | [], _, i, acc, o, _, ho, m, hm, q, hq => by rw [lensL]; exact ho m hm q hq
  | s :: r, h, i, acc, o, ha, ho, m, hm, q, hq => by
    rw [lensL]
    rw [List.foldl_cons] at hm
    obtain ⟨h1, h2⟩ := h s (by simp)
    have hst : stepLen k lo hi i acc (lens s) = (plusL acc.1 (lens s).1, plusL acc.2 (lens s).2) := by
      unfold stepLen
      rw [if_neg (by omega), if_pos (.inl (by omega))]
    refine cat_len hS hk r (fun u hu => h u (List.mem_cons_of_mem _ hu)) (i + 1) _ _ (by rw [hst]; exact okl_plus ha h1) (fun m1 hm1 x hx => ?_) m hm q hq
    cases o with
    | none => cases hm1
    | some m0 =>
      simp only [Option.bind_some] at hm1
      have hm2 := (most_len hm1).2
      obtain ⟨r0, hr0, n, hn, hxn⟩ := allOf_mem hm2 x hx
      obtain ⟨k1, s1, b1⟩ := ho m0 rfl r0 hr0
      obtain ⟨k2, s2, b2⟩ := h2 r0 n hn x hxn
      have s3 := s1.trans s2
      exact ⟨k1 + k2, s3, by rw [hst]; exact bnd_plus ha h1 b1 b2 (s3.small hS).1⟩
theorem bnd_alt {k lo hi : Int} (hk : k = 4) : ∀ (subs : List Nd), (∀ s ∈ subs, Okl (lens s)) → ∀ (i : Nat) (acc : Int × Int), 0 < i → ∀ j, (Bnd acc j ∨ ∃ s ∈ subs, Bnd (lens s) j) → Bnd (lensL k lo hi i acc subs) j
  | [], _, i, acc, _, j, hj => by
    rw [lensL]
    rcases hj with hj | ⟨s, hs, _⟩
    · exact hj
    · cases hs
  | s :: r, h, i, acc, hi0, j, hj => by
    rw [lensL]
    have hst : stepLen k lo hi i acc (lens s) = (min acc.1 (lens s).1, if acc.2 ≠ -1 ∧ ((lens s).2 = -1 ∨ acc.2 < (lens s).2) then (lens s).2 else acc.2) := by
      unfold stepLen
      rw [if_neg (by omega), if_neg (by omega)]
    refine bnd_alt hk r (fun u hu => h u (List.mem_cons_of_mem _ hu)) (i + 1) _ (by omega) j ?_
    have hok := h s (by simp)
    unfold Okl at hok
    rcases hj with hj | ⟨u, hu, hj⟩
    · left
      rw [hst]
      unfold Bnd at *
      simp only
      refine ⟨by omega, ?_⟩
      split <;> omega
    · rcases List.mem_cons.1 hu with rfl | hu
      · left
        rw [hst]
        unfold Bnd at *
        simp only
        refine ⟨by omega, ?_⟩
        split <;> omega
      · exact .inr ⟨u, hu, hj⟩
theorem alt_in {S : Str} {p : Nat} : ∀ (subs : List Nd) (m : List Nat), subs.foldr (fun s o => match ends S s p, o with | some x, some y => some (x ++ y) | _, _ => none) (some []) = some m → (∀ q ∈ m, ∃ s ∈ subs, ∃ n, ends S s p = some n ∧ q ∈ n) ∧ ∀ s ∈ subs, ∃ n, ends S s p = some n ∧ ∀ q ∈ n, q ∈ m
  | [], m, h => by
    obtain rfl : m = [] := by simpa using h.symm
    exact ⟨fun q hq => (by cases hq), fun s hs => (by cases hs)⟩
  | s :: r, m, h => by
    rw [List.foldr_cons] at h
    split at h
    · next x y hx hy =>
      cases h
      obtain ⟨i1, i2⟩ := alt_in r y hy
      refine ⟨fun q hq => ?_, fun u hu => ?_⟩
      · rcases List.mem_append.1 hq with hq | hq
        · exact ⟨s, by simp, x, hx, hq⟩
        · obtain ⟨u, hu, n, hn, hqn⟩ := i1 q hq
          exact ⟨u, List.mem_cons_of_mem _ hu, n, hn, hqn⟩
      · rcases List.mem_cons.1 hu with rfl | hu
        · exact ⟨x, hx, fun q hq => List.mem_append_left _ hq⟩
        · obtain ⟨n, hn, hs⟩ := i2 u hu
          exact ⟨n, hn, fun q hq => List.mem_append_right _ (hs q hq)⟩
    · cases h
theorem ends_kind {S : Str} {k : Int} {set : List Rg} {lo hi : Int} {lazy : Bool} {subs : List Nd} {p : Nat} {l : List Nat} (h : ends S (.mk k set lo hi lazy subs) p = some l) :
    (if k = 1 then some [p] else if k = 2 then (if 0 < (S.dec p).2 ∧ hasRg set (S.dec p).1 = true then some [p + (S.dec p).2] else some []) else if k = 3 then subs.foldl (fun o s => o.bind fun m => most (allOf (ends S s) m)) (some [p])
      else if k = 5 then wyRep endA S lo hi lazy subs 0 p else subs.foldr (fun s o => match ends S s p, o with | some x, some y => some (x ++ y) | _, _ => none) (some [])) = some l := by
  unfold ends at h
  rw [wy] at h
  have h1 := (most_len h).2
  by_cases k1 : k = 1
  · rw [if_pos k1] at h1 ⊢; exact h1
  rw [if_neg k1] at h1 ⊢
  by_cases k2 : k = 2
  · rw [if_pos k2] at h1 ⊢; exact h1
  rw [if_neg k2] at h1 ⊢
  by_cases k3 : k = 3
  · rw [if_pos k3] at h1 ⊢; rw [cat_end] at h1; exact h1
  rw [if_neg k3] at h1 ⊢
  by_cases k5 : k = 5
  · rw [if_pos k5] at h1 ⊢; exact h1
  rw [if_neg k5] at h1 ⊢
  by_cases k6 : k = 6
  · rw [if_pos k6] at h1
    rw [alt_end] at h1
    rw [← h1, show endA.mark 0 p = id from rfl]
    cases (subs.foldr (fun s o => match ends S s p, o with | some x, some y => some (x ++ y) | _, _ => none) (some [])) with
    | none => rfl
    | some m => simp
  · rw [if_neg k6] at h1
    rw [alt_end] at h1
    exact h1
theorem shaped_leaf {k : Int} {set : List Rg} {lo hi : Int} {lazy : Bool} {subs : List Nd} (h : shapedN (.mk k set lo hi lazy subs) = true) (hk : k = 1 ∨ k = 2) : subs = [] := by
  unfold shapedN at h
  rcases hk with rfl | rfl <;> simp at h <;> simp_all
theorem shaped_kind {k : Int} {set : List Rg} {lo hi : Int} {lazy : Bool} {subs : List Nd} (h : shapedN (.mk k set lo hi lazy subs) = true) : k = 1 ∨ k = 2 ∨ k = 3 ∨ k = 4 ∨ k = 5 ∨ k = 6 ∧ ∃ s, subs = [s] := by
  simp only [shapedN] at h
  by_cases k5 : k = 5
  · omega
  rw [if_neg k5] at h
  simp only [Bool.and_eq_true] at h
  have h := h.2
  by_cases k1 : k = 1
  · omega
  rw [if_neg k1] at h
  by_cases k2 : k = 2
  · omega
  rw [if_neg k2] at h
  by_cases k3 : k = 3 ∨ k = 4
  · omega
  rw [if_neg k3] at h
  by_cases k6 : k = 6
  · rw [if_pos k6] at h
    simp only [Bool.and_eq_true, decide_eq_true_eq] at h
    right; right; right; right; right
    refine ⟨k6, ?_⟩
    match subs, h.2 with
    | [s], _ => exact ⟨s, rfl⟩
  · rw [if_neg k6] at h; cases h
mutual
theorem lens_law {S : Str} (hS : ∀ p, 0 < (S.dec p).2 → p + (S.dec p).2 ≤ 1000) : ∀ t : Nd, (look t).shaped = true → ∀ p l, ends S t p = some l → ∀ q ∈ l, ∃ k, Steps S k p q ∧ Bnd (lens t) k
  | .mk k set lo hi lazy subs, h, p, l, hl, q, hq => by
    have hok0 := lens_ok _ h
    rw [look_shaped] at h
    simp only [Bool.and_eq_true] at h
    have hsub : ∀ s ∈ subs, (look s).shaped = true := by simpa using h.2
    have ih := lensL_law hS subs hsub
    have hokL : ∀ s ∈ subs, Okl (lens s) := fun s hs => lens_ok s (hsub s hs)
    have hl := ends_kind hl
    rw [lens]
    rcases shaped_kind h.1 with rfl | rfl | rfl | rfl | rfl | ⟨rfl, s, rfl⟩
    · obtain rfl := shaped_leaf h.1 (.inl rfl)
      simp only [if_true] at hl
      cases hl
      obtain rfl : q = p := by simpa using hq
      exact ⟨0, rfl, by simp [lensL, Bnd]⟩
    · obtain rfl := shaped_leaf h.1 (.inr rfl)
      simp only [show ¬ (2 : Int) = 1 by decide, if_false, if_true] at hl
      split at hl
      · next hc =>
        cases hl
        obtain rfl : q = p + (S.dec p).2 := by simpa using hq
        exact ⟨1, ⟨hc.1, rfl⟩, by simp [lensL, Bnd]⟩
      · cases hl; cases hq
    · simp only [show ¬ (3 : Int) = 1 by decide, show ¬ (3 : Int) = 2 by decide, if_false, if_true] at hl ⊢
      exact cat_len hS rfl subs (fun s hs => ⟨hokL s hs, ih s hs⟩) 0 (0, 0) (some [p]) ⟨by decide, by decide, .inr ⟨by decide, by decide⟩⟩ (fun m hm r hr => by
        cases hm
        obtain rfl : r = p := by simpa using hr
        exact ⟨0, rfl, bnd_zero⟩) l hl q hq
    · simp only [show ¬ (4 : Int) = 1 by decide, show ¬ (4 : Int) = 2 by decide, show ¬ (4 : Int) = 3 by decide, show ¬ (4 : Int) = 5 by decide, if_false] at hl ⊢
      obtain ⟨s, hs, n, hn, hqn⟩ := (alt_in subs l hl).1 q hq
      obtain ⟨j, sj, bj⟩ := ih s hs p n hn q hqn
      refine ⟨j, sj, ?_⟩
      match subs, hs, hokL with
      | u :: r, hs, hokL =>
        rw [lensL]
        have hst : stepLen 4 lo hi 0 (0, 0) (lens u) = (plusL 0 (lens u).1, plusL 0 (lens u).2) := by
          unfold stepLen
          rw [if_neg (by decide), if_pos (.inr rfl)]
        refine bnd_alt rfl r (fun v hv => hokL v (List.mem_cons_of_mem _ hv)) 1 _ (by decide) j ?_
        rcases List.mem_cons.1 hs with rfl | hs
        · left
          rw [hst]
          have := bnd_plus (a := (0, 0)) (k := 0) ⟨by decide, by decide, .inr ⟨by decide, by decide⟩⟩ (hokL s (by simp)) bnd_zero bj (by have := (sj.small hS).1; omega)
          rwa [Nat.zero_add] at this
        · exact .inr ⟨s, hs, bj⟩
    · obtain ⟨rfl, h0, hh, s, rfl⟩ := shaped_five h.1
      simp only [show ¬ (5 : Int) = 1 by decide, show ¬ (5 : Int) = 2 by decide, show ¬ (5 : Int) = 3 by decide, if_false, if_true] at hl ⊢
      have e : (fun q => wy endA S s 0 q) = ends S s := rfl
      rw [wyRep, e] at hl
      have hr := rep_all hl
      have hoks := hokL s (by simp)
      have hoks2 := hoks
      unfold Okl at hoks2
      obtain ⟨n, j, e1, e2, e3, e4, e5, e6⟩ := allR_len hoks2.1 (by omega) (fun p m hm v hv => ih s (by simp) p m hm v hv) 36 p 0 l hr (by omega) q hq
      refine ⟨j, e3, ?_⟩
      rw [lensL, lensL]
      have hst : stepLen 5 lo hi 0 (0, 0) (lens s) = (timesL (lens s).1 lo, timesL (lens s).2 hi) := by
        unfold stepLen
        rw [if_pos rfl]
      rw [hst]
      rw [Nat.zero_add] at e1 e2
      exact bnd_times hoks h0 (by omega) e1 e2 e4 e5 e6 (e3.small hS).1
    · simp only [show ¬ (6 : Int) = 1 by decide, show ¬ (6 : Int) = 2 by decide, show ¬ (6 : Int) = 3 by decide, show ¬ (6 : Int) = 5 by decide, if_false] at hl ⊢
      obtain ⟨u, hu, n, hn, hqn⟩ := (alt_in [s] l hl).1 q hq
      obtain rfl : u = s := by simpa using hu
      obtain ⟨j, sj, bj⟩ := ih u (by simp) p n hn q hqn
      refine ⟨j, sj, ?_⟩
      rw [lensL, lensL]
      have hst : stepLen 6 lo hi 0 (0, 0) (lens u) = (plusL 0 (lens u).1, plusL 0 (lens u).2) := by
        unfold stepLen
        rw [if_neg (by decide), if_pos (.inl (by decide))]
      rw [hst]
      have := bnd_plus (a := (0, 0)) (k := 0) ⟨by decide, by decide, .inr ⟨by decide, by decide⟩⟩ (hokL u (by simp)) bnd_zero bj (by have := (sj.small hS).1; omega)
      rwa [Nat.zero_add] at this
theorem lensL_law {S : Str} (hS : ∀ p, 0 < (S.dec p).2 → p + (S.dec p).2 ≤ 1000) : ∀ l : List Nd, (∀ s ∈ l, (look s).shaped = true) → ∀ s ∈ l, ∀ p m, ends S s p = some m → ∀ q ∈ m, ∃ k, Steps S k p q ∧ Bnd (lens s) k
  | [], _ => by simp
  | t :: r, h => by
    have h1 := lens_law hS t (h t (by simp))
    have h2 := lensL_law hS r (fun u hu => h u (List.mem_cons_of_mem _ hu))
    intro s hs
    rcases List.mem_cons.1 hs with rfl | hs
    · exact h1
    · exact h2 s hs
end
end Go.Proofs.Wy

/- A tree is nullable just if one of its ways takes nothing. -/
namespace Go.Proofs.Wy

theorem allOf_in {α β : Type} {f : α → Option (List β)} : ∀ {l : List α} {m : List β}, allOf f l = some m → ∀ a ∈ l, ∃ n, f a = some n ∧ ∀ x ∈ n, x ∈ m
  | [], m, _, a, ha => by cases ha
  | b :: r, m, h, a, ha => by
    rw [allOf] at h
    split at h
    · next x y hx hy =>
      cases h
      rcases List.mem_cons.1 ha with rfl | ha
      · exact ⟨x, hx, fun z hz => List.mem_append_left _ hz⟩
      · obtain ⟨n, hn, hs⟩ := allOf_in hy a ha
        exact ⟨n, hn, fun z hz => List.mem_append_right _ (hs z hz)⟩
    · cases h
theorem allR_self {f : Nat → Option (List Nat)} {lo hi : Int} {lazy : Bool} {k w t : Nat} {l : List Nat} (h : allR f lo hi lazy (k + 1) w t = some l) (hl : lo ≤ (t : Int)) : w ∈ l := by
  rw [allR_succ] at h
  obtain ⟨m, hm, rfl⟩ := Option.map_eq_some_iff.1 h
  split
  · exact List.mem_append_left _ (by simp [hl])
  · exact List.mem_append_right _ (by simp [hl])
theorem allR_more {f : Nat → Option (List Nat)} {lo hi : Int} {lazy : Bool} {k w t : Nat} {l : List Nat} (h : allR f lo hi lazy (k + 1) w t = some l) (hh : hi = -1 ∨ (t : Int) < hi) : ∃ m, f w = some m ∧ ∀ v ∈ m, ∃ n, allR f lo hi lazy k v (t + 1) = some n ∧ ∀ x ∈ n, x ∈ l := by
  rw [allR_succ] at h
  obtain ⟨m, hm, rfl⟩ := Option.map_eq_some_iff.1 h
  rw [if_pos hh] at hm
  split at hm
  · next m1 hm1 =>
    refine ⟨m1, hm1, fun v hv => ?_⟩
    obtain ⟨n, hn, hs⟩ := allOf_in hm v hv
    refine ⟨n, hn, fun x hx => ?_⟩
    split
    · exact List.mem_append_right _ (hs x hx)
    · exact List.mem_append_left _ (hs x hx)
  · cases hm
theorem cat_null {S : Str} {p : Nat} : ∀ (subs : List Nd), (∀ s ∈ subs, ∀ m, ends S s p = some m → p ∈ m) → ∀ (o : Option (List Nat)), (∀ m, o = some m → p ∈ m) → ∀ m, subs.foldl (fun o s => o.bind fun m => most (allOf (ends S s) m)) o = some m → p ∈ m
  | [], _, o, ho, m, hm => ho m hm
  | s :: r, h, o, ho, m, hm => by
    rw [List.foldl_cons] at hm
    refine cat_null r (fun u hu => h u (List.mem_cons_of_mem _ hu)) _ (fun m1 hm1 => ?_) m hm
    cases o with
    | none => cases hm1
    | some m0 =>
      simp only [Option.bind_some] at hm1
      obtain ⟨n, hn, hs⟩ := allOf_in (most_len hm1).2 p (ho m0 rfl)
      exact hs p (h s (by simp) n hn)
theorem endA_lawf : Lawful endA := ⟨fun _ _ => rfl, fun _ => rfl, fun _ _ _ => rfl⟩
mutual
theorem null_in {S : Str} : ∀ t : Nd, (look t).shaped = true → (look t).firm = true → (look t).nullable = true → ∀ p l, ends S t p = some l → p ∈ l
  | .mk k set lo hi lazy subs, h, hf, hn, p, l, hl => by
    rw [look_shaped] at h
    rw [look_firm] at hf
    rw [look_nullable] at hn
    simp only [Bool.and_eq_true] at h hf
    have ih := nullL_in (S := S) subs (by simpa using h.2) (by simpa using hf.1)
    have hl := ends_kind hl
    rcases shaped_kind h.1 with rfl | rfl | rfl | rfl | rfl | ⟨rfl, s, rfl⟩
    · simp only [if_true] at hl
      cases hl
      simp
    · obtain rfl := shaped_leaf h.1 (.inr rfl)
      simp at hn
    · simp only [show ¬ (3 : Int) = 1 by decide, show ¬ (3 : Int) = 2 by decide, if_false, if_true] at hl hn
      have hn' : ∀ s ∈ subs, (look s).nullable = true := by simpa using hn
      exact cat_null subs (fun s hs m hm => ih s hs (hn' s hs) p m hm) (some [p]) (fun m hm => by cases hm; simp) l hl
    · simp only [show ¬ (4 : Int) = 1 by decide, show ¬ (4 : Int) = 2 by decide, show ¬ (4 : Int) = 3 by decide, show ¬ (4 : Int) = 5 by decide, if_false] at hl hn
      obtain ⟨s, hs, hsn⟩ : ∃ s ∈ subs, (look s).nullable = true := by simpa using hn
      obtain ⟨n, hn1, hs1⟩ := (alt_in subs l hl).2 s hs
      exact hs1 p (ih s hs hsn p n hn1)
    · obtain ⟨rfl, h0, hh, s, rfl⟩ := shaped_five h.1
      simp only [show ¬ (5 : Int) = 1 by decide, show ¬ (5 : Int) = 2 by decide, show ¬ (5 : Int) = 3 by decide, if_false, if_true] at hl hn
      have e : (fun q => wy endA S s 0 q) = ends S s := rfl
      rw [wyRep, e] at hl
      have hr := rep_all hl
      by_cases hlo : lo = 0
      · exact allR_self hr (by omega)
      · have hsn : (look s).nullable = true := by simpa [hlo] using hn
        have hhi : ¬ hi = -1 ∧ ¬ 1 < hi := by
          have := hf.2
          simp [hsn] at this
          exact ⟨this.1, by omega⟩
        obtain ⟨m, hm, hm2⟩ := allR_more hr (by omega)
        obtain ⟨n, hn1, hn2⟩ := hm2 p (ih s (by simp) hsn p m hm)
        exact hn2 p (allR_self hn1 (by omega))
    · simp only [show ¬ (6 : Int) = 1 by decide, show ¬ (6 : Int) = 2 by decide, show ¬ (6 : Int) = 3 by decide, show ¬ (6 : Int) = 5 by decide, if_false] at hl hn
      have hsn : (look s).nullable = true := by simpa using hn
      obtain ⟨n, hn1, hs1⟩ := (alt_in [s] l hl).2 s (by simp)
      exact hs1 p (ih s (by simp) hsn p n hn1)
theorem nullL_in {S : Str} : ∀ l : List Nd, (∀ s ∈ l, (look s).shaped = true) → (∀ s ∈ l, (look s).firm = true) → ∀ s ∈ l, (look s).nullable = true → ∀ p m, ends S s p = some m → p ∈ m
  | [], _, _ => by simp
  | t :: r, h, hf => by
    have h1 := null_in (S := S) t (h t (by simp)) (hf t (by simp))
    have h2 := nullL_in (S := S) r (fun u hu => h u (List.mem_cons_of_mem _ hu)) (fun u hu => hf u (List.mem_cons_of_mem _ hu))
    intro s hs
    rcases List.mem_cons.1 hs with rfl | hs
    · exact h1
    · exact h2 s hs
end
/-- a tree has a way that takes nothing just if it is nullable -/
theorem null_iff {S : Str} {t : Nd} (h : (look t).shaped = true) (hf : (look t).firm = true) {p : Nat} {l : List Nat} (hl : ends S t p = some l) : p ∈ l ↔ (look t).nullable = true := by
  constructor
  · intro hp
    have := wy_adv endA_lawf S t h 0 p l hl p hp
    unfold dN at this
    cases hn : (look t).nullable with
    | true => rfl
    | false =>
      rw [hn] at this
      have e : endA.stop p = p := rfl
      rw [e, if_neg (by simp)] at this
      omega
  · exact fun hn => null_in t h hf hn p l hl
end Go.Proofs.Wy

/- How many runes the head of a string has, up to a place that so many steps of reading reach. -/
namespace Go.Proofs.YtnhjakdmbfadlaaGreatDoor
open Go.RowKit Wy Mem Grow Go.Lib

theorem decodeN_cut {n m b0 b1 b2 b3 c0 c1 c2 c3 : Nat} (hm : m ≤ n) (h : decodeN n b0 b1 b2 b3 ≠ (65533, 1)) (hw : (decodeN n b0 b1 b2 b3).2 ≤ m) (e0 : c0 = b0) (e1 : 1 < m → c1 = b1) (e2 : 2 < m → c2 = b2) (e3 : 3 < m → c3 = b3) : decodeN m c0 c1 c2 c3 = decodeN n b0 b1 b2 b3 := by
  subst e0
  unfold decodeN at *
  by_cases h1 : c0 < 128
  · rw [if_pos h1, if_pos h1]
  rw [if_neg h1] at h hw ⊢
  rw [if_neg h1]
  by_cases h2 : c0 / 32 = 6 ∧ (1 < n ∧ b1 / 64 = 2)
  · rw [if_pos h2] at h hw ⊢
    split at h
    · next g =>
      rw [if_pos g] at hw ⊢
      have hm2 : 1 < m := by simp only at hw; omega
      have := e1 hm2
      subst this
      rw [if_pos ⟨h2.1, hm2, h2.2.2⟩, if_pos g]
    · exact absurd rfl h
  rw [if_neg h2] at h hw ⊢
  by_cases h3 : c0 / 16 = 14 ∧ (1 < n ∧ b1 / 64 = 2) ∧ (2 < n ∧ b2 / 64 = 2)
  · rw [if_pos h3] at h hw ⊢
    split at h
    · next g =>
      rw [if_pos g] at hw ⊢
      have hm2 : 2 < m := by simp only at hw; omega
      have := e1 (by omega)
      have := e2 hm2
      subst c1 c2
      rw [if_neg (by omega), if_pos ⟨h3.1, ⟨by omega, h3.2.1.2⟩, hm2, h3.2.2.2⟩, if_pos g]
    · exact absurd rfl h
  rw [if_neg h3] at h hw ⊢
  by_cases h4 : c0 / 8 = 30 ∧ (1 < n ∧ b1 / 64 = 2) ∧ (2 < n ∧ b2 / 64 = 2) ∧ (3 < n ∧ b3 / 64 = 2)
  · rw [if_pos h4] at h hw ⊢
    split at h
    · next g =>
      rw [if_pos g] at hw ⊢
      have hm2 : 3 < m := by simp only at hw; omega
      have := e1 (by omega)
      have := e2 (by omega)
      have := e3 hm2
      subst c1 c2 c3
      rw [if_neg (by omega), if_neg (by omega), if_pos ⟨h4.1, ⟨by omega, h4.2.1.2⟩, ⟨by omega, h4.2.2.1.2⟩, hm2, h4.2.2.2.2⟩, if_pos g]
    · exact absurd rfl h
  · rw [if_neg h4] at h
    exact absurd rfl h
theorem cut_get (s : ByteArray) (x i : Nat) (hi : i < x) : (s.extract 0 x).data.toList.getD i 0 = s.data.toList.getD i 0 := by
  rw [ByteArray.data_extract, Array.toList_extract, List.extract_eq_take_drop]
  simp only [List.drop_zero, Nat.sub_zero, List.getD_eq_getElem?_getD, List.getElem?_take_of_lt hi]
theorem decode_cut {s : ByteArray} {x p : Nat} (hx : x ≤ s.size) (hp : p < x) (hv : validD (s.data.toList.drop p) = true) (hw : p + (Utf8.decode s p).2 ≤ x) : Utf8.decode (s.extract 0 x) p = Utf8.decode s p := by
  have hls : s.data.toList.length = s.size := by rw [Array.length_toList]; rfl
  have hlt : (s.extract 0 x).data.toList.length = x := by rw [Array.length_toList]; show (s.extract 0 x).size = x; simp; omega
  have hne : s.data.toList.drop p ≠ [] := by intro e; have := congrArg List.length e; rw [List.length_drop, hls] at this; simp at this; omega
  have hbad : Utf8.decode s p ≠ (65533, 1) := by
    intro e
    rw [validD_step _ hne, ← dec_utf8, e] at hv
    simp at hv
  rw [decode_N] at hbad hw ⊢
  rw [decode_N s p]
  rw [hls] at hbad hw ⊢
  rw [hlt]
  refine decodeN_cut (by omega) hbad (by omega) ?_ (fun h => ?_) (fun h => ?_) (fun h => ?_)
  · rw [cut_get s x p hp]
  · rw [cut_get s x (p + 1) (by omega)]
  · rw [cut_get s x (p + 2) (by omega)]
  · rw [cut_get s x (p + 3) (by omega)]
theorem runes_steps {s : ByteArray} {x : Nat} (hx : x ≤ s.size) : ∀ (k p bound : Nat) (acc : Array Value), Wy.Steps (strS s) k p x → validD (s.data.toList.drop p) = true → k ≤ bound → (Conv.runesFrom (s.extract 0 x) bound p acc).size = acc.size + k
  | 0, p, bound, acc, h, _, _ => by
    have e : p = x := h
    subst e
    have hsz : (s.extract 0 p).size = p := by simp; omega
    cases bound with
    | zero => rfl
    | succ b => unfold Conv.runesFrom; rw [if_neg (by omega)]; rfl
  | k + 1, p, bound, acc, h, hv, hb => by
    have hle := Wy.Steps.le h
    have hp : p < s.size := by omega
    have hw0 := h.1
    have h2 := h.2
    rw [dec_strS s p hp] at hw0 h2
    have hle2 := Wy.Steps.le h2
    have hc := decode_cut hx (p := p) (by omega) hv (by omega)
    have hsz : (s.extract 0 x).size = x := by simp; omega
    have hv2 : validD (s.data.toList.drop (p + (Utf8.decode s p).2)) = true := by
      have hls : s.data.toList.length = s.size := by rw [Array.length_toList]; rfl
      have hne : s.data.toList.drop p ≠ [] := by intro e; have := congrArg List.length e; rw [List.length_drop, hls] at this; simp at this; omega
      rw [validD_step _ hne] at hv
      split at hv
      · cases hv
      · rw [← dec_utf8, List.drop_drop] at hv
        exact hv
    cases bound with
    | zero => omega
    | succ b =>
      unfold Conv.runesFrom
      rw [if_pos (by omega), hc]
      simp only
      rw [runes_steps hx k _ b _ h2 hv2 (by omega), Array.size_push]
      omega
theorem runes_len {s : ByteArray} {x k : Nat} (hx : x ≤ s.size) (h : Wy.Steps (strS s) k 0 x) (hv : validD s.data.toList = true) : (Conv.runesFrom (s.extract 0 x) (s.extract 0 x).size 0 #[]).size = k := by
  have hsz : (s.extract 0 x).size = x := by simp; omega
  have := runes_steps hx k 0 (s.extract 0 x).size #[] h (by simpa using hv) (by have := Wy.Steps.le h; omega)
  simpa using this
end Go.Proofs.YtnhjakdmbfadlaaGreatDoor

/- The plain law of WaysLengths. -/
namespace Go.Proofs.YtnhjakdmbfadlaaGreatDoor
open Go.RowKit Wy Mem Grow

theorem steps_le {S : Wy.Str} {n : Nat} (hS : ∀ p, 0 < (S.dec p).2 → p + (S.dec p).2 ≤ n) : ∀ {k p q : Nat}, Wy.Steps S k p q → p ≤ n → q ≤ n
  | 0, p, q, h, hp => by have e : p = q := h; omega
  | k + 1, p, q, h, hp => steps_le hS h.2 (hS p h.1)
theorem dec_in (s : ByteArray) : ∀ p, 0 < ((strS s).dec p).2 → p + ((strS s).dec p).2 ≤ s.size := fun p h => by
  by_cases hp : p < s.size
  · rw [dec_strS s p hp]
    exact (dec_width s p hp).2
  · rw [dec_past s p hp] at h
    omega
theorem len_end {s : ByteArray} {x : Nd} {z : Int} (hs : s.size ≤ 32) (hv : Lib.validD s.data.toList = true) (hsh : (Wy.look x).shaped = true) (hz : z ∈ zsE s x) :
    ∃ q : Nat, z = (q : Int) ∧ q ≤ s.size ∧ (Conv.runesFrom (s.extract 0 q) (s.extract 0 q).size 0 #[]).size ≤ 32 ∧ Bnd (lens x) (Conv.runesFrom (s.extract 0 q) (s.extract 0 q).size 0 #[]).size := by
  unfold zsE at hz
  rw [endsI_mem] at hz
  obtain ⟨q, h1, rfl⟩ := hz
  have hd := dec_in s
  cases ho : Wy.ways (strS s) x with
  | none => unfold lA at h1; rw [ho] at h1; simp at h1
  | some l =>
    have he : Wy.ends (strS s) x 0 = some (l.map Wy.Way.stop) := by rw [ends_ways, ho]; rfl
    unfold lA at h1
    rw [ho] at h1
    obtain ⟨k, h2, h3⟩ := lens_law (fun p h => Nat.le_trans (hd p h) (by omega)) x hsh 0 _ he q h1
    have hq := steps_le hd h2 (Nat.zero_le _)
    have hk := Wy.Steps.le h2
    refine ⟨q, rfl, hq, ?_⟩
    rw [runes_len hq h2 hv]
    exact ⟨by omega, h3⟩
theorem null_end {s : ByteArray} {x : Nd} (h : erW s x = 0) (hsh : (Wy.look x).shaped = true) (hf : (Wy.look x).firm = true) : decide ((0 : Int) ∈ zsE s x) = (Wy.look x).nullable := by
  cases ho : Wy.ways (strS s) x with
  | none => unfold erW at h; rw [ho] at h; simp at h
  | some l =>
    have he : Wy.ends (strS s) x 0 = some (l.map Wy.Way.stop) := by rw [ends_ways, ho]; rfl
    have hn := null_iff hsh hf he
    rw [Bool.eq_iff_iff, decide_eq_true_eq, ← hn]
    unfold zsE lA
    rw [endsI_mem, ho]
    constructor
    · rintro ⟨q, h1, h2⟩
      obtain rfl : q = 0 := by omega
      exact h1
    · exact fun h1 => ⟨0, h1, rfl⟩
end Go.Proofs.YtnhjakdmbfadlaaGreatDoor
