/- Parts of the proof: Adv, Acc, NdGo, Grow, Pile. Conditions: none. -/
import Derived.Test.YtnhjakdmbfadlaaGreatDoorL01
import Derived.Test.YtnhjakdmbfadlaaGreatDoorL00
import Derived.WalkKit
import Derived.Deep.AppendLies
import Derived.Deep.AppendSrc
set_option linter.all false
/- How far ways go; what a repetition keeps; parts by number. -/
namespace Go.Proofs.Wy

structure Lawful {W : Type} (A : Alg W) : Prop where
  thn : ∀ w v, A.stop (A.thn w v) = A.stop v
  still : ∀ p, A.stop (A.still p) = p
  mark : ∀ g p w, A.stop (A.mark g p w) = A.stop w
theorem wayA_lawful (G : Nat) : Lawful (wayA G) := ⟨fun _ _ => rfl, fun _ => rfl, fun _ _ _ => rfl⟩

theorem allOf_mem {α β : Type} {f : α → Option (List β)} : ∀ {l : List α} {m : List β}, allOf f l = some m → ∀ x ∈ m, ∃ a ∈ l, ∃ n, f a = some n ∧ x ∈ n
  | [], m, h, x, hx => by simp only [allOf, Option.some.injEq] at h; subst h; simp at hx
  | a :: l, m, h, x, hx => by
    rw [allOf] at h
    split at h
    · next n k h1 h2 =>
      simp only [Option.some.injEq] at h
      subst h
      rcases List.mem_append.1 hx with hx | hx
      · exact ⟨a, by simp, n, h1, hx⟩
      · obtain ⟨b, hb, n', h3, h4⟩ := allOf_mem h2 x hx
        exact ⟨b, List.mem_cons_of_mem _ hb, n', h3, h4⟩
    · cases h
theorem goOn_mem {W : Type} {A : Alg W} {f : Nat → Option (List W)} {l m : List W} (h : goOn A f l = some m) : ∀ x ∈ m, ∃ w ∈ l, ∃ n, f (A.stop w) = some n ∧ ∃ v ∈ n, x = A.thn w v := by
  intro x hx
  have h1 := (most_len h).2
  obtain ⟨w, hw, n, hn, hxn⟩ := allOf_mem h1 x hx
  cases hf : f (A.stop w) with
  | none => rw [hf] at hn; cases hn
  | some k =>
    rw [hf] at hn
    simp only [Option.map_some, Option.some.injEq] at hn
    subst hn
    obtain ⟨v, hv, rfl⟩ := List.mem_map.1 hxn
    exact ⟨w, hw, k, hf, v, hv, rfl⟩

/-! What a repetition keeps -/
theorem loopF_inv {W : Type} {g : W → Fs W → Fs W} {J : Fs W → Prop} : ∀ {l : List W}, (∀ v ∈ l, ∀ σ, σ.ok = true → σ.out.length ≤ 500 → J σ → J (g v σ)) → ∀ {σ : Fs W}, J σ → J (loopF g l σ).1
  | [], _, σ, h => h
  | v :: r, hg, σ, h => by
    rw [loopF]
    split
    · exact h
    · next hc =>
      simp only [Bool.or_eq_true, Bool.not_eq_true', decide_eq_true_eq, not_or, Bool.not_eq_false] at hc
      exact loopF_inv (fun v hv => hg v (List.mem_cons_of_mem _ hv)) (hg v (by simp) σ hc.1 (by omega) h)
theorem follow_inv {W : Type} {A : Alg W} {f : Nat → Option (List W)} {lo hi : Int} {lazy : Bool} {I : Nat → W → Prop} {P : W → Prop}
    (step : ∀ (t : Nat) w m, I t w → f (A.stop w) = some m → ∀ v ∈ m, I (t + 1) (A.thn w v)) (fin : ∀ (t : Nat) w, lo ≤ (t : Int) → I t w → P w) :
    ∀ (k : Nat) (w : W) (t : Nat) (σ : Fs W), I t w → (∀ x ∈ σ.out, P x) → ∀ x ∈ (follow A f lo hi lazy k w t σ).out, P x
  | 0, w, t, σ, _, h => h
  | k + 1, w, t, σ, hI, h => by
    have hfin : ∀ (b : Bool) (τ : Fs W), (∀ x ∈ τ.out, P x) → ∀ x ∈ (finF (decide (lo ≤ (t : Int)) && b) w τ).out, P x := by
      intro b τ hτ x hx
      rw [finF_out] at hx
      rcases List.mem_append.1 hx with hx | hx
      · exact hτ x hx
      · split at hx
        · next hb =>
          simp only [Bool.and_eq_true, decide_eq_true_eq] at hb
          simp only [List.mem_singleton] at hx
          subst hx
          exact fin t _ hb.1 hI
        · simp at hx
    have h1 := hfin lazy ⟨σ.out, bump σ.counts t, σ.ok && decide ((bump σ.counts t).getD t 0 ≤ 500)⟩ h
    unfold follow
    simp only
    generalize finF (decide (lo ≤ (t : Int)) && lazy) w ⟨σ.out, bump σ.counts t, σ.ok && decide ((bump σ.counts t).getD t 0 ≤ 500)⟩ = σ1 at h1 ⊢
    split
    · cases hm : f (A.stop w) with
      | none => exact hfin _ _ h1
      | some more =>
        have h2 : ∀ x ∈ (loopF (fun v σ => follow A f lo hi lazy k (A.thn w v) (t + 1) σ) more σ1).1.out, P x :=
          loopF_inv (J := fun τ => ∀ x ∈ τ.out, P x) (fun v hv τ _ _ hτ => follow_inv step fin k (A.thn w v) (t + 1) τ (step t w more hI hm v hv) hτ) h1
        simp only
        split
        · exact h2
        · exact hfin _ _ h2
    · exact hfin _ _ h1
theorem bump_length (c : List Nat) (t : Nat) : (bump c t).length = if c.length = t then c.length + 1 else c.length := by
  unfold bump
  split <;> simp
theorem bump_get {c : List Nat} {t : Nat} (ht : t ≤ c.length) (i : Nat) : (bump c t).getD i 0 = c.getD i 0 + if i = t then 1 else 0 := by
  unfold bump
  simp only [List.getD_eq_getElem?_getD, List.getElem?_modify]
  by_cases h : c.length = t
  · rw [if_pos h]
    by_cases hi : i = t
    · subst hi
      simp [← h]
    · have hi' : ¬ t = i := fun e => hi e.symm
      simp only [hi', hi, if_false, Nat.add_zero, id_map']
      by_cases hl : i < c.length
      · rw [List.getElem?_append_left hl]
        try (cases c[i]? <;> rfl)
      · have h0 : c[i]? = none := List.getElem?_eq_none (by omega)
        have h1 : (c ++ [0])[i]? = none := List.getElem?_eq_none (by simp; omega)
        first | (rw [h0]; simp; done) | (rw [h0, h1]; rfl) | (rw [h0]; by_cases e : i = c.length <;> simp_all)
  · rw [if_neg h]
    by_cases hi : i = t
    · subst hi
      have hl : i < c.length := by omega
      simp [hl]
    · have hi' : ¬ t = i := fun e => hi e.symm
      simp only [hi', hi, if_false, Nat.add_zero]
      cases c[i]? <;> rfl
/-- what is true of what has been found, whenever a step begins or ends -/
structure FsOk {W : Type} (n k : Nat) (σ : Fs W) : Prop where
  long : n ≤ σ.counts.length
  short : σ.counts.length ≤ 36
  counts : ∀ c ∈ σ.counts, c ≤ 501
  ok : σ.ok = true → ∀ c ∈ σ.counts, c ≤ 500
  out : σ.out.length ≤ k
theorem bump_all {c : List Nat} {t n : Nat} (h : ∀ x ∈ c, x ≤ n) (ht : t ≤ c.length) : ∀ x ∈ bump c t, x ≤ n + 1 := by
  intro x hx
  obtain ⟨i, hi, rfl⟩ := List.getElem_of_mem hx
  have e := bump_get ht i
  rw [List.getD_eq_getElem?_getD, List.getElem?_eq_getElem hi, Option.getD_some] at e
  rw [e]
  have hc : c.getD i 0 ≤ n := by
    by_cases hl : i < c.length
    · rw [List.getD_eq_getElem?_getD, List.getElem?_eq_getElem hl, Option.getD_some]; exact h _ (List.getElem_mem hl)
    · rw [List.getD_eq_getElem?_getD, List.getElem?_eq_none (by omega)]; simp
  split <;> omega
theorem bump_ok {c : List Nat} {t : Nat} (h : ∀ x ∈ c, x ≤ 500) (ht : t ≤ c.length) (hb : (bump c t).getD t 0 ≤ 500) : ∀ x ∈ bump c t, x ≤ 500 := by
  intro x hx
  obtain ⟨i, hi, rfl⟩ := List.getElem_of_mem hx
  have e := bump_get ht i
  by_cases hit : i = t
  · subst hit
    rw [List.getD_eq_getElem?_getD, List.getElem?_eq_getElem hi, Option.getD_some] at hb
    exact hb
  · rw [List.getD_eq_getElem?_getD, List.getElem?_eq_getElem hi, Option.getD_some, if_neg hit] at e
    rw [e]
    by_cases hl : i < c.length
    · rw [List.getD_eq_getElem?_getD, List.getElem?_eq_getElem hl, Option.getD_some]; exact h _ (List.getElem_mem hl)
    · rw [List.getD_eq_getElem?_getD, List.getElem?_eq_none (by omega)]; simp
theorem FsOk.mono {W : Type} {n n' k k' : Nat} {σ : Fs W} (h : FsOk n k σ) (hn : n' ≤ n) (hk : k ≤ k') : FsOk n' k' σ := ⟨Nat.le_trans hn h.long, h.short, h.counts, h.ok, Nat.le_trans h.out hk⟩
theorem FsOk.fin {W : Type} {n k : Nat} {σ : Fs W} (h : FsOk n k σ) (b : Bool) (w : W) : FsOk n (k + 1) (finF b w σ) := by
  refine ⟨by rw [finF_counts]; exact h.long, by rw [finF_counts]; exact h.short, by rw [finF_counts]; exact h.counts, by rw [finF_counts, finF_ok]; exact h.ok, ?_⟩
  have := h.out
  rw [finF_out, List.length_append]
  split <;> simp <;> omega
theorem FsOk.bump {W : Type} {t k : Nat} {σ : Fs W} (h : FsOk t k σ) (ht : t < 36) (hok : σ.ok = true) :
    FsOk (t + 1) k (⟨σ.out, bump σ.counts t, σ.ok && decide ((bump σ.counts t).getD t 0 ≤ 500)⟩ : Fs W) := by
  refine ⟨?_, ?_, bump_all (h.ok hok) h.long, fun e => ?_, h.out⟩
  · have := h.long
    simp only [bump_length]; split <;> omega
  · have := h.short
    simp only [bump_length]; split <;> omega
  · simp only [Bool.and_eq_true, decide_eq_true_eq] at e
    exact bump_ok (h.ok hok) h.long e.2
theorem FsOk.bad {W : Type} {n k : Nat} {σ : Fs W} (h : FsOk n k σ) : FsOk n k ({ σ with ok := false } : Fs W) := ⟨h.long, h.short, h.counts, fun e => (Bool.noConfusion e), h.out⟩
theorem follow_ok {W : Type} (A : Alg W) (f : Nat → Option (List W)) (lo hi : Int) (lazy : Bool) :
    ∀ (k : Nat) (w : W) (t : Nat) (σ : Fs W), t + k = 36 → σ.ok = true → FsOk t 500 σ → FsOk (if k = 0 then t else t + 1) (502 + k) (follow A f lo hi lazy k w t σ)
  | 0, w, t, σ, _, _, h => (h.mono (Nat.le_refl _) (by omega)).bad
  | k + 1, w, t, σ, htk, hok, h => by
    have h1 := (h.bump (by omega) hok).fin (decide (lo ≤ (t : Int)) && lazy) w
    unfold follow
    simp only [Nat.add_eq_zero_iff, and_false, if_false, show ¬ (1 : Nat) = 0 by omega]
    generalize finF (decide (lo ≤ (t : Int)) && lazy) w ⟨σ.out, Wy.bump σ.counts t, σ.ok && decide ((Wy.bump σ.counts t).getD t 0 ≤ 500)⟩ = σ1 at h1 ⊢
    split
    · cases hm : f (A.stop w) with
      | none => exact (h1.bad.fin _ w).mono (Nat.le_refl _) (by omega)
      | some more =>
        have h2 : FsOk (t + 1) (502 + k) (loopF (fun v σ => follow A f lo hi lazy k (A.thn w v) (t + 1) σ) more σ1).1 :=
          loopF_inv (J := fun τ => FsOk (t + 1) (502 + k) τ) (fun v hv τ h3 h4 hτ =>
            (follow_ok A f lo hi lazy k (A.thn w v) (t + 1) τ (by omega) h3 ⟨hτ.long, hτ.short, hτ.counts, hτ.ok, h4⟩).mono (by split <;> omega) (Nat.le_refl _)) (h1.mono (Nat.le_refl _) (by omega))
        simp only
        split
        · exact h2.mono (Nat.le_refl _) (by omega)
        · exact (h2.fin _ w).mono (Nat.le_refl _) (by omega)
    · exact (h1.fin _ w).mono (Nat.le_refl _) (by omega)

/-! How far ways go -/
def dN (t : Nd) : Nat := if (look t).nullable then 0 else 1
theorem rep_adv {W : Type} {A : Alg W} (hA : Lawful A) {f : Nat → Option (List W)} {d : Nat} (hf : ∀ p m, f p = some m → ∀ v ∈ m, p + d ≤ A.stop v) {lo hi : Int} {lazy : Bool} {k p : Nat} {l : List W}
    (h : rep A f lo hi lazy k p = some l) : ∀ x ∈ l, ∃ t : Nat, lo ≤ (t : Int) ∧ p + t * d ≤ A.stop x := by
  unfold rep at h
  simp only at h
  split at h
  · simp only [Option.some.injEq] at h
    subst h
    refine follow_inv (I := fun t w => p + t * d ≤ A.stop w) (P := fun x => ∃ t : Nat, lo ≤ (t : Int) ∧ p + t * d ≤ A.stop x) ?_ ?_ k (A.still p) 0 ⟨[], [], true⟩ ?_ (by simp)
    · intro t w m hI hm v hv
      have := hf _ m hm v hv
      rw [hA.thn, Nat.succ_mul]
      omega
    · exact fun t w h1 h2 => ⟨t, h1, h2⟩
    · rw [hA.still]; omega
  · cases h
mutual
theorem wy_adv {W : Type} {A : Alg W} (hA : Lawful A) (S : Str) : ∀ (t : Nd), (look t).shaped = true → ∀ (g p : Nat) (l : List W), wy A S t g p = some l → ∀ w ∈ l, p + dN t ≤ A.stop w
  | .mk k set lo hi lazy subs, hsh, g, p, l, h, w, hw => by
    rw [wy] at h
    have h1 := (most_len h).2
    rw [look_shaped, Bool.and_eq_true, List.all_eq_true] at hsh
    obtain ⟨hs1, hs2⟩ := hsh
    unfold dN
    rw [look_nullable]
    by_cases k1 : k = 1
    · rw [if_pos k1] at h1 ⊢
      cases h1
      simp only [List.mem_singleton] at hw
      subst hw
      rw [hA.still]; simp
    rw [if_neg k1] at h1 ⊢
    by_cases k2 : k = 2
    · subst k2
      rw [if_pos rfl] at h1
      split at h1
      · next hc =>
        cases h1
        simp only [List.mem_singleton] at hw
        subst hw
        rw [hA.still]
        have h01 : ∀ c : Prop, [Decidable c] → (if c then (0 : Nat) else 1) ≤ 1 := fun c _ => by split <;> omega
        have := h01
        exact Nat.add_le_add_left (Nat.le_trans (h01 _) hc.1) _
      · cases h1; simp at hw
    rw [if_neg k2] at h1
    by_cases k3 : k = 3
    · rw [if_pos k3] at h1 ⊢
      have := wyCat_adv hA S subs hs2 g [A.still p] l h1 p (by simp [hA.still]) w hw
      exact this
    rw [if_neg k3] at h1 ⊢
    by_cases k5 : k = 5
    · rw [if_pos k5] at h1 ⊢
      subst k5
      rw [shapedN] at hs1
      simp only [if_true, Bool.and_eq_true, decide_eq_true_eq] at hs1
      cases subs with
      | nil => rw [wyRep] at h1; cases h1
      | cons s r =>
        rw [wyRep] at h1
        have hs := wy_adv hA S s (hs2 s (by simp)) g
        obtain ⟨t, ht1, ht2⟩ := rep_adv hA (d := dN s) (fun q m hm v hv => hs q m hm v hv) h1 w hw
        rw [List.any_cons]
        cases hn : (look s).nullable with
        | true => simp; omega
        | false =>
          have hd : dN s = 1 := by unfold dN; rw [hn]; rfl
          rw [hd] at ht2
          split
          · omega
          · next hc =>
            simp only [Bool.false_or, Bool.or_eq_true, decide_eq_true_eq, not_or] at hc
            omega
    rw [if_neg k5] at h1 ⊢
    by_cases k6 : k = 6
    · rw [if_pos k6] at h1
      cases ha : wyAlt A S subs (g + 1) p with
      | none => rw [ha] at h1; cases h1
      | some m =>
        rw [ha] at h1
        simp only [Option.map_some, Option.some.injEq] at h1
        subst h1
        obtain ⟨v, hv, rfl⟩ := List.mem_map.1 hw
        rw [hA.mark]
        exact wyAlt_adv hA S subs hs2 (g + 1) p m ha v hv
    · rw [if_neg k6] at h1
      exact wyAlt_adv hA S subs hs2 g p l h1 w hw
theorem wyCat_adv {W : Type} {A : Alg W} (hA : Lawful A) (S : Str) : ∀ (subs : List Nd), (∀ s ∈ subs, (look s).shaped = true) → ∀ (g : Nat) (l m : List W), wyCat A S subs g l = some m → ∀ a, (∀ w ∈ l, a ≤ A.stop w) →
    ∀ w ∈ m, a + (if subs.all (fun s => (look s).nullable) then 0 else 1) ≤ A.stop w
  | [], _, g, l, m, h, a, hl, w, hw => by
    rw [wyCat] at h
    cases h
    have := hl w hw
    simpa using this
  | s :: r, hs, g, l, m, h, a, hl, w, hw => by
    have hadv := wy_adv hA S s (hs s (by simp)) g
    rw [wyCat] at h
    split at h
    · next n hn =>
      have hn1 : ∀ x ∈ n, a + dN s ≤ A.stop x := by
        intro x hx
        obtain ⟨u, hu, q, hq, v, hv, rfl⟩ := goOn_mem hn x hx
        have := hadv _ q hq v hv
        have := hl u hu
        rw [hA.thn]; omega
      have := wyCat_adv hA S r (fun s h => hs s (List.mem_cons_of_mem _ h)) _ n m h (a + dN s) hn1 w hw
      rw [List.all_cons]
      unfold dN at this
      cases hc : (look s).nullable with
      | true => rw [hc] at this; simpa using this
      | false =>
        rw [hc] at this
        simp only [Bool.false_and, Bool.false_eq_true, if_false] at this ⊢
        split at this <;> omega
    · cases h
theorem wyAlt_adv {W : Type} {A : Alg W} (hA : Lawful A) (S : Str) : ∀ (subs : List Nd), (∀ s ∈ subs, (look s).shaped = true) → ∀ (g p : Nat) (m : List W), wyAlt A S subs g p = some m →
    ∀ w ∈ m, p + (if subs.any (fun s => (look s).nullable) then 0 else 1) ≤ A.stop w
  | [], _, g, p, m, h, w, hw => by
    rw [wyAlt] at h
    cases h
    simp at hw
  | s :: r, hs, g, p, m, h, w, hw => by
    have hadv := wy_adv hA S s (hs s (by simp)) g p
    rw [wyAlt] at h
    split at h
    · next x y hx hy =>
      cases h
      rw [List.any_cons]
      rcases List.mem_append.1 hw with hw | hw
      · have := hadv x hx w hw
        unfold dN at this
        cases hc : (look s).nullable with
        | true => rw [hc] at this; simpa using this
        | false => rw [hc] at this; simp only [Bool.false_eq_true, if_false, Bool.false_or] at this ⊢; split <;> omega
      · have := wyAlt_adv hA S r (fun s h => hs s (List.mem_cons_of_mem _ h)) _ p y hy w hw
        cases hc : (look s).nullable with
        | true => simp; split at this <;> omega
        | false => simpa using this
    · cases h
end

/-! Parts by number -/
mutual
def nodes : Nd → Nat
  | .mk _ _ _ _ _ subs => nodesL subs + 1
def nodesL : List Nd → Nat
  | [] => 0
  | s :: r => nodes s + nodesL r
end
mutual
def flatN : Nd → Nat → List (Nd × Nat)
  | .mk k set lo hi lazy subs, g => (.mk k set lo hi lazy subs, g) :: flatL subs (g + if k = 6 then 1 else 0)
def flatL : List Nd → Nat → List (Nd × Nat)
  | [], _ => []
  | s :: r, g => flatN s g ++ flatL r (g + opened s)
end
mutual
theorem flatN_len : ∀ (t : Nd) (g : Nat), (flatN t g).length = nodes t
  | .mk k set lo hi lazy subs, g => by rw [flatN, nodes, List.length_cons, flatL_len subs]
theorem flatL_len : ∀ (l : List Nd) (g : Nat), (flatL l g).length = nodesL l
  | [], g => rfl
  | s :: r, g => by rw [flatL, nodesL, List.length_append, flatN_len s, flatL_len r]
end
mutual
/-- the table holds all parts of a tree, from a number on -/
def Tabd (T : Nat → Option (Nd × Nat)) : Nd → Nat → Nat → Prop
  | .mk k set lo hi lazy subs, n, g => T n = some (.mk k set lo hi lazy subs, g) ∧ TabdL T subs (n + 1) (g + if k = 6 then 1 else 0)
def TabdL (T : Nat → Option (Nd × Nat)) : List Nd → Nat → Nat → Prop
  | [], _, _ => True
  | s :: r, n, g => Tabd T s n g ∧ TabdL T r (n + nodes s) (g + opened s)
end
mutual
theorem tabd_of {T : Nat → Option (Nd × Nat)} : ∀ (t : Nd) (n g : Nat), (∀ i, i < nodes t → T (n + i) = (flatN t g)[i]?) → Tabd T t n g
  | .mk k set lo hi lazy subs, n, g, h => by
    rw [Tabd]
    have h0 := h 0 (by rw [nodes]; omega)
    rw [flatN] at h0
    refine ⟨by simpa using h0, tabdL_of subs (n + 1) _ fun i hi => ?_⟩
    have := h (i + 1) (by rw [nodes]; omega)
    rw [flatN, List.getElem?_cons_succ] at this
    rw [← this]
    congr 1
    omega
theorem tabdL_of {T : Nat → Option (Nd × Nat)} : ∀ (l : List Nd) (n g : Nat), (∀ i, i < nodesL l → T (n + i) = (flatL l g)[i]?) → TabdL T l n g
  | [], n, g, h => trivial
  | s :: r, n, g, h => by
    rw [TabdL]
    refine ⟨tabd_of s n g fun i hi => ?_, tabdL_of r _ _ fun i hi => ?_⟩
    · rw [h i (by rw [nodesL]; omega), flatL, List.getElem?_append_left (by rw [flatN_len]; exact hi)]
    · have := h (nodes s + i) (by rw [nodesL]; omega)
      rw [flatL, List.getElem?_append_right (by rw [flatN_len]; omega), flatN_len] at this
      rw [Nat.add_assoc, this]
      congr 1
      omega
end
theorem tabd_root (t : Nd) : Tabd (fun n => (flatN t 0)[n]?) t 0 0 := tabd_of t 0 0 fun i _ => by rw [Nat.zero_add]
theorem Tabd.self {T : Nat → Option (Nd × Nat)} {t : Nd} {n g : Nat} (h : Tabd T t n g) : T n = some (t, g) := by
  cases t
  rw [Tabd] at h
  exact h.1
end Go.Proofs.Wy

/- Sums of steps, one step on; what fits. -/
namespace Go.Proofs.Wy

section
variable {α β : Type} {f : α → Option (List β)}
theorem allOf_take : ∀ {l : List α} {i : Nat} (hi : i < l.length), allOf f (l.take (i + 1)) = match allOf f (l.take i), f l[i] with | some x, some y => some (x ++ y) | _, _ => none
  | [], i, hi => absurd hi (by simp)
  | a :: r, 0, hi => by
    simp only [List.take_succ_cons, List.take_zero, allOf, List.getElem_cons_zero]
    cases f a <;> simp
  | a :: r, i + 1, hi => by
    have hi' : i < r.length := by simpa using hi
    have ih := allOf_take (l := r) (i := i) hi'
    rw [List.take_succ_cons, allOf, ih, List.take_succ_cons, allOf]
    simp only [List.getElem_cons_succ]
    cases f a <;> cases allOf f (r.take i) <;> cases f r[i] <;> simp
theorem allOf_cut : ∀ {l : List α} (i : Nat), allOf f l = match allOf f (l.take i), allOf f (l.drop i) with | some x, some y => some (x ++ y) | _, _ => none
  | [], i => by simp [allOf]
  | a :: r, 0 => by
    simp only [List.take_zero, List.drop_zero, allOf]
    cases f a <;> cases allOf f r <;> simp
  | a :: r, i + 1 => by
    rw [List.take_succ_cons, List.drop_succ_cons, allOf, allOf, allOf_cut i]
    cases f a <;> cases allOf f (r.take i) <;> cases allOf f (r.drop i) <;> simp
theorem allOf_some {l : List α} {m : List β} (h : allOf f l = some m) {i : Nat} (hi : i < l.length) : ∃ n, f l[i] = some n ∧ ∃ p, allOf f (l.take i) = some p ∧ p.length + n.length ≤ m.length := by
  have h1 := allOf_cut (f := f) (l := l) (i + 1)
  rw [h, allOf_take hi] at h1
  cases hp : allOf f (l.take i) with
  | none => rw [hp] at h1; simp at h1
  | some p =>
    cases hn : f l[i] with
    | none => rw [hp, hn] at h1; simp at h1
    | some n =>
      refine ⟨n, rfl, p, rfl, ?_⟩
      rw [hp, hn] at h1
      cases hd : allOf f (l.drop (i + 1)) with
      | none => rw [hd] at h1; simp at h1
      | some d =>
        rw [hd] at h1
        simp only [Option.some.injEq] at h1
        subst h1
        simp
end
section
variable {W : Type} {A : Alg W} {f : Nat → Option (List W)} {l : List W}
/-- what one way of the sequence so far goes on to -/
def stepF (A : Alg W) (f : Nat → Option (List W)) (w : W) : Option (List W) := (f (A.stop w)).map fun m => m.map (A.thn w)
theorem goOn_stop {i : Nat} (hi : i < l.length) (h : f (A.stop l[i]) = none) : goOn A f l = none := by
  cases hg : goOn A f l with
  | none => rfl
  | some m =>
    obtain ⟨n, hn, -⟩ := allOf_some (most_len hg).2 hi
    rw [h] at hn; cases hn
theorem goOn_many {i : Nat} (hi : i < l.length) {n m : List W} (hn : allOf (stepF A f) (l.take i) = some n) (hm : f (A.stop l[i]) = some m) (h : 500 < n.length + m.length) : goOn A f l = none := by
  cases hg : goOn A f l with
  | none => rfl
  | some k =>
    obtain ⟨n', hn', p, hp, hl⟩ := allOf_some (most_len hg).2 hi
    have := (most_len hg).1
    have hp' : allOf (stepF A f) (l.take i) = some p := hp
    rw [hp'] at hn
    cases hn
    rw [hm] at hn'
    cases hn'
    rw [List.length_map] at hl
    omega
theorem goOn_all {n : List W} (hn : allOf (stepF A f) l = some n) (h : n.length ≤ 500) : goOn A f l = some n := by
  show most (allOf (stepF A f) l) = _
  rw [hn]; exact most_some h
theorem step_take {i : Nat} (hi : i < l.length) {n m : List W} (hn : allOf (stepF A f) (l.take i) = some n) (hm : f (A.stop l[i]) = some m) :
    allOf (stepF A f) (l.take (i + 1)) = some (n ++ m.map (A.thn l[i])) := by
  rw [allOf_take hi, hn]
  unfold stepF
  rw [hm]
  rfl
end
section
variable {W : Type} (A : Alg W) (S : Str)
theorem openedL_take {subs : List Nd} {i : Nat} (hi : i < subs.length) : openedL (subs.take (i + 1)) = openedL (subs.take i) + opened subs[i] := by
  rw [List.take_succ_eq_append_getElem hi, openedL_append, openedL_one]
theorem openedL_take_le (subs : List Nd) (i : Nat) : openedL (subs.take i) ≤ openedL subs := by
  conv => rhs; rw [← List.take_append_drop i subs, openedL_append]
  omega
theorem openedL_at {subs : List Nd} {i : Nat} (hi : i < subs.length) : openedL (subs.take i) + opened subs[i] ≤ openedL subs := by
  rw [← openedL_take hi]
  exact openedL_take_le _ _
theorem wyAlt_take : ∀ {subs : List Nd} {i : Nat} (hi : i < subs.length) (g p : Nat), wyAlt A S (subs.take (i + 1)) g p = match wyAlt A S (subs.take i) g p, wy A S subs[i] (g + openedL (subs.take i)) p with | some x, some y => some (x ++ y) | _, _ => none
  | [], i, hi, g, p => absurd hi (by simp)
  | a :: r, 0, hi, g, p => by
    simp only [List.take_succ_cons, List.take_zero, wyAlt, List.getElem_cons_zero, openedL, Nat.add_zero]
    cases wy A S a g p <;> simp
  | a :: r, i + 1, hi, g, p => by
    have hi' : i < r.length := by simpa using hi
    have ih := wyAlt_take (subs := r) (i := i) hi' (g + opened a) p
    rw [List.take_succ_cons, wyAlt, ih, List.take_succ_cons, wyAlt, openedL, ← Nat.add_assoc]
    simp only [List.getElem_cons_succ]
    cases wy A S a g p <;> cases wyAlt A S (r.take i) (g + opened a) p <;> cases wy A S r[i] (g + opened a + openedL (r.take i)) p <;> simp
/-- the sequence from its i-th part on -/
def catFrom (subs : List Nd) (g i : Nat) (l : List W) : Option (List W) := wyCat A S (subs.drop i) (g + openedL (subs.take i)) l
theorem catFrom_zero (subs : List Nd) (g : Nat) (l : List W) : catFrom A S subs g 0 l = wyCat A S subs g l := by
  simp [catFrom, openedL]
theorem catFrom_end (subs : List Nd) (g : Nat) (l : List W) : catFrom A S subs g subs.length l = some l := by
  simp [catFrom, wyCat]
theorem catFrom_none {subs : List Nd} {g i : Nat} {l : List W} (hi : i < subs.length) (h : goOn A (fun q => wy A S subs[i] (g + openedL (subs.take i)) q) l = none) : catFrom A S subs g i l = none := by
  unfold catFrom
  rw [List.drop_eq_getElem_cons hi, wyCat, h]
theorem catFrom_some {subs : List Nd} {g i : Nat} {l m : List W} (hi : i < subs.length) (h : goOn A (fun q => wy A S subs[i] (g + openedL (subs.take i)) q) l = some m) : catFrom A S subs g i l = catFrom A S subs g (i + 1) m := by
  unfold catFrom
  rw [List.drop_eq_getElem_cons hi, wyCat, h, openedL_take hi, Nat.add_assoc]
end

/-! What fits -/
structure Fit (t : Nd) : Prop where
  shaped : (look t).shaped = true
  firm : (look t).firm = true
theorem Fit.subs {k : Int} {set : List Rg} {lo hi : Int} {lazy : Bool} {subs : List Nd} (h : Fit (.mk k set lo hi lazy subs)) : ∀ s ∈ subs, Fit s := by
  have h1 := h.shaped
  have h2 := h.firm
  rw [look_shaped, Bool.and_eq_true, List.all_eq_true] at h1
  rw [look_firm, Bool.and_eq_true, List.all_eq_true] at h2
  exact fun s hs => ⟨h1.2 s hs, h2.1 s hs⟩
theorem Fit.shape {k : Int} {set : List Rg} {lo hi : Int} {lazy : Bool} {subs : List Nd} (h : Fit (.mk k set lo hi lazy subs)) : shapedN (.mk k set lo hi lazy subs) = true := by
  have h1 := h.shaped
  rw [look_shaped, Bool.and_eq_true] at h1
  exact h1.1
theorem Fit.kind {k : Int} {set : List Rg} {lo hi : Int} {lazy : Bool} {subs : List Nd} (h : Fit (.mk k set lo hi lazy subs)) :
    k = 1 ∨ (k = 2 ∧ rgsOk set = true ∧ subs = []) ∨ k = 3 ∨ k = 4 ∨ (k = 5 ∧ ∃ s, subs = [s] ∧ 0 ≤ lo ∧ lo ≤ 1000 ∧ (hi = -1 ∨ lo ≤ hi ∧ hi ≤ 1000) ∧ ((look s).nullable = true → 0 ≤ hi ∧ hi ≤ 1)) ∨ (k = 6 ∧ ∃ s, subs = [s]) := by
  have h1 := h.shape
  have h2 := h.firm
  rw [shapedN] at h1
  by_cases k5 : k = 5
  · subst k5
    simp only [if_true, Bool.and_eq_true, decide_eq_true_eq, Bool.or_eq_true] at h1
    obtain ⟨⟨⟨⟨a, b⟩, c⟩, d⟩, e⟩ := h1
    obtain ⟨s, rfl⟩ := List.length_eq_one_iff.1 e
    refine .inr (.inr (.inr (.inr (.inl ⟨rfl, s, rfl, a, b, c, fun hn => ?_⟩))))
    rw [look_firm] at h2
    simp [hn] at h2
    rcases c with c | c
    · exact absurd c h2.2.1
    · exact ⟨by omega, h2.2.2⟩
  · rw [if_neg k5, Bool.and_eq_true] at h1
    have h3 := h1.2
    by_cases k1 : k = 1
    · exact .inl k1
    rw [if_neg k1] at h3
    by_cases k2 : k = 2
    · rw [if_pos k2, Bool.and_eq_true, decide_eq_true_eq] at h3
      exact .inr (.inl ⟨k2, h3.1, h3.2⟩)
    rw [if_neg k2] at h3
    by_cases k34 : k = 3 ∨ k = 4
    · rcases k34 with k3 | k4
      · exact .inr (.inr (.inl k3))
      · exact .inr (.inr (.inr (.inl k4)))
    rw [if_neg k34] at h3
    by_cases k6 : k = 6
    · rw [if_pos k6, Bool.and_eq_true, decide_eq_true_eq, decide_eq_true_eq] at h3
      obtain ⟨s, hs⟩ := List.length_eq_one_iff.1 h3.2
      exact .inr (.inr (.inr (.inr (.inr ⟨k6, s, hs⟩))))
    · rw [if_neg k6] at h3; cases h3
end Go.Proofs.Wy

/- Trees in memory, as memory goes on. -/
namespace Go.Proofs.Wy
open Go Go.RowKit Go.Proofs.Mem

theorem RowGo {N M X : Nat → Prop} {w w' : World} {v : Value} {n sz : Nat} {cs : List Value} (h : Row N w v n sz cs) (k : Kept X w w') (hd : ∀ b, b < w.heap.size → N b → ¬ X b ∧ M b) : Row M w' v n sz cs := by
  refine ⟨h.len, ?_⟩
  rcases h.at_ with h0 | ⟨b, off, cap, rfl, h1, h2, h3, h4, h5⟩
  · exact .inl h0
  · refine .inr ⟨b, off, cap, rfl, h1, h2, (hd b h4 h3).2, k.lt h4, fun j hj => ?_⟩
    rw [← h5 j hj]
    exact World.cell?_of_block (k.block b h4 (hd b h4 h3).1)
theorem RgsGo {N M X : Nat → Prop} {w w' : World} {v : Value} {l : List Rg} (h : RgsAt N w v l) (k : Kept X w w') (hd : ∀ b, b < w.heap.size → N b → ¬ X b ∧ M b) : RgsAt M w' v l := ⟨RowGo h.row k hd, h.ok, h.small⟩
mutual
theorem NdAt.go {N M X : Nat → Prop} {w w' : World} (k : Kept X w w') (hd : ∀ b, b < w.heap.size → N b → ¬ X b ∧ M b) : ∀ {t : Nd} {cs : List Value}, NdAt N w t cs → NdAt M w' t cs
  | .mk kd set lo hi lazy subs, cs, h => by
    rw [NdAt] at h ⊢
    obtain ⟨sv, uv, ucs, h1, h2, h3, h4, h5, h6, h7⟩ := h
    exact ⟨sv, uv, ucs, h1, h2, h3, h4, RgsGo h5 k hd, RowGo h6 k hd, NdsAt.go k hd h7⟩
theorem NdsAt.go {N M X : Nat → Prop} {w w' : World} (k : Kept X w w') (hd : ∀ b, b < w.heap.size → N b → ¬ X b ∧ M b) : ∀ {l : List Nd} {cs : List Value}, NdsAt N w l cs → NdsAt M w' l cs
  | [], cs, h => h
  | s :: r, cs, h => by
    rw [NdsAt] at h ⊢
    obtain ⟨a, b, h1, h2, h3⟩ := h
    exact ⟨a, b, h1, NdAt.go k hd h2, NdsAt.go k hd h3⟩
end
theorem nodesL_append : ∀ a b : List Nd, nodesL (a ++ b) = nodesL a + nodesL b
  | [], b => by simp [nodesL]
  | s :: r, b => by rw [List.cons_append, nodesL, nodesL_append r b, nodesL]; omega
theorem nodesL_one (t : Nd) : nodesL [t] = nodes t := by simp [nodesL]
theorem nodesL_take {subs : List Nd} {i : Nat} (hi : i < subs.length) : nodesL (subs.take (i + 1)) = nodesL (subs.take i) + nodes subs[i] := by
  rw [List.take_succ_eq_append_getElem hi, nodesL_append, nodesL_one]
theorem nodesL_take_le (subs : List Nd) (i : Nat) : nodesL (subs.take i) ≤ nodesL subs := by
  conv => rhs; rw [← List.take_append_drop i subs, nodesL_append]
  omega
theorem nodesL_at {subs : List Nd} {i : Nat} (hi : i < subs.length) : nodesL (subs.take i) + nodes subs[i] ≤ nodesL subs := by
  rw [← nodesL_take hi]
  exact nodesL_take_le _ _
end Go.Proofs.Wy

/- An append to a row of one's own, of whatever length (none too), out of whatever slice (nil too): the row that it was appended to still reads as it did. -/
namespace Go.Proofs.Grow
open Go Go.RowKit

section
variable {P : Program} {w : World} {base : Nat} {e : TypeId} {i : TypeInfo} {z : Value} {size bytes : Nat}

/-- a source's cells: a slice that is nil (then it is empty), or cells behind an address -/
def SrcAt (w : World) (x : Value) (m : Nat) (news : List Value) : Prop :=
  (∃ c, x = .slice none 0 c ∧ m = 0 ∧ news = []) ∨ ∃ a c, x = .slice (some a) m c ∧ ∀ j u, news[j]? = some u → w.cell? (a.add j) = some u

theorem fresh_row (hz : z.cells.size = size) {xs : List Value} {n cap : Nat} (hl : xs.length = n * size) (hb : base ≤ w.heap.size) (hn : n ≤ cap) (hc : cap ≤ maxLen) :
    (w.drew.alloc (.cells (xs.toArray ++ Builtin.zeroCells z.cells (cap - n)) e)).ownsRow base e size (.slice (some ⟨w.heap.size, 0, none⟩) n cap) n xs := by
  refine ⟨hl, .inr ⟨w.heap.size, cap, _, rfl, hb, heap_alloc_new w.drew _, hn, hc, ?_, ?_⟩⟩
  · simp only [Array.size_append, List.size_toArray, size_zeroCells, hz, hl]
    rw [← Nat.add_mul]
    congr 1
    omega
  · simp only [Array.toList_append]
    rw [← hl]
    exact List.take_left

theorem row_old {v : Value} {n : Nat} {xs : List Value} (h : w.ownsRow base e size v n xs) (o : Obj) : (w.drew.alloc o).ownsRow base e size v n xs := by
  refine ⟨h.1, ?_⟩
  rcases h.2 with hn | ⟨g, c, cur, rfl, hb, hg, rest⟩
  · exact .inl hn
  · exact .inr ⟨g, c, cur, rfl, hb, (Below.heap_alloc w.drew o g (Array.getElem?_eq_some_iff.1 hg).1).trans hg, rest⟩

theorem run_append_row (t ty : TypeId) (ht : P.underlying t = some (.slice e)) (hi : P.info? e = some i) (hz : i.zero = some z) (hsize : i.size = size) (hby : i.bytes = bytes) (hzs : z.cells.size = size)
    (v : Value) (n : Nat) (xs : List Value) (hown : w.ownsRow base e size v n xs) (x : Value) (m : Nat) (news : List Value) (hx : SrcAt w x m news) (hl : news.length = m * size) (h1 : ∀ u ∈ news, u.oneCell' = true)
    (h63 : n + m ≤ maxLen) (hbytes : (n + m) * bytes ≤ 140737488355328) (hbase : base ≤ w.heap.size) :
    ∃ v' w', (Builtin.append_ #[t, t] ty #[v, x]).run P w = .ok v' w' ∧ w'.ownsRow base e size v' (n + m) (xs ++ news) ∧ w.grownBy w' v.ownBlock ∧
      (v'.ownBlock = v.ownBlock ∨ v'.ownBlock = some w.heap.size) ∧ w'.ownsRow base e size v n xs := by
  subst hsize hby
  rcases hx with ⟨c, rfl, rfl, rfl⟩ | ⟨a, c, rfl, hnews⟩
  · refine ⟨v, w, ?_, by simpa using hown, ⟨rfl, rfl, rfl, Nat.le_refl _, fun _ _ _ => rfl⟩, .inl rfl, hown⟩
    rcases hown.2 with ⟨rfl, rfl⟩ | ⟨g, cap, cur, rfl, -, hg, hnc, -, hcs, -⟩
    · simp [Builtin.append_, run_underlying ht, sizeOf, typeInfo, hi, Builtin.lenOf, Builtin.firstCells]
    · have hs := Src.ofNil (P := P) w (size := i.size) ht c
      have hr := run_append_room_src (P := P) w t t ty e i ht hi g 0 n cap _ 0 [] hs (by simpa using hnc) (fun j hj => by simp at hj) (fun j hj => by simp at hj)
      rw [hr]
      rfl
  · have hlen : (xs ++ news).length = (n + m) * i.size := by rw [List.length_append, hown.1, hl, Nat.add_mul]
    have hsm : ((n + m : Nat) : Int) ≤ 9223372036854775807 := by simp only [maxLen] at h63; omega
    have new : ∀ old, old < n + m → ∀ row : Option Nat, ∃ v' w',
        Result.ok (.slice (some ⟨w.heap.size, 0, none⟩) (n + m) (grownCap w (n + m) old e)) (w.drew.alloc (.cells ((xs ++ news).toArray ++ Builtin.zeroCells z.cells (grownCap w (n + m) old e - (n + m))) e)) = (.ok v' w' : Result Value) ∧
        w'.ownsRow base e i.size v' (n + m) (xs ++ news) ∧ w.grownBy w' row ∧ (v'.ownBlock = v.ownBlock ∨ v'.ownBlock = some w.heap.size) ∧ w'.ownsRow base e i.size v n xs := fun old ho row =>
      ⟨_, _, rfl, fresh_row hzs hlen hbase (grownCap_ge w (n + m) old e) (grownCap_le_maxLen w (n + m) old e h63), ⟨rfl, rfl, rfl, by simp, fun k hk _ => Below.heap_alloc w.drew _ k hk⟩, .inr rfl, row_old hown _⟩
    rcases hown.2 with ⟨rfl, rfl⟩ | ⟨g, cap, cur, rfl, hbg, hg, hnc, hcm, hcs, htake⟩
    · obtain rfl : xs = [] := List.eq_nil_of_length_eq_zero (by simpa using hown.1)
      by_cases hm : m = 0
      · subst hm
        obtain rfl : news = [] := List.eq_nil_of_length_eq_zero (by simpa using hl)
        refine ⟨.slice none 0 0, w, ?_, by simpa using hown, ⟨rfl, rfl, rfl, Nat.le_refl _, fun _ _ _ => rfl⟩, .inl rfl, hown⟩
        simp [Builtin.append_, run_underlying ht, sizeOf, typeInfo, hi, Builtin.lenOf, Builtin.firstCells, loadCells, loadCellsFrom]
      · have hr := run_append_nil (P := P) w t ty e i z ht hi hz a m c news hl hnews (by omega) (by omega) (by have hb := hbytes; simp only [Nat.zero_add] at hb; omega)
        rw [hr]
        simpa using new 0 (by omega) (Value.slice none 0 0).ownBlock
    · by_cases hroom : n + m ≤ cap
      · have hfit : n * i.size + news.length ≤ cur.size := by rw [hl, hcs, ← Nat.add_mul]; exact Nat.mul_le_mul_right _ hroom
        have hr := run_append_room (P := P) w t ty e i ht hi g n cap cur hg a m c news hl hnews h1 hroom hfit
        have hxl : (cur.toList.take (n * i.size)).length = n * i.size := by rw [htake]; exact hown.1
        refine ⟨_, _, hr, ⟨hlen, .inr ⟨g, cap, _, rfl, hbg, setRow_heap w g cur _ e _ hg, hroom, hcm, ?_, ?_⟩⟩, ⟨rfl, rfl, rfl, by simp, fun k _ hk => setRow_other w g k _ (fun e => hk (by simp [Value.ownBlock, e]))⟩, .inl rfl,
          ⟨hown.1, .inr ⟨g, cap, _, rfl, hbg, setRow_heap w g cur _ e _ hg, hnc, hcm, ?_, ?_⟩⟩⟩
        · simp only [List.size_toArray, List.length_append, List.length_take, List.length_drop, Array.length_toList]
          omega
        · rw [htake, ← hlen]
          exact List.take_left
        · simp only [List.size_toArray, List.length_append, List.length_take, List.length_drop, Array.length_toList]
          omega
        · show List.take (n * i.size) (cur.toList.take (n * i.size) ++ news ++ cur.toList.drop (n * i.size + news.length)) = xs
          rw [List.append_assoc, List.take_append_of_le_length (by omega), List.take_of_length_le (by omega)]
          exact htake
      · have hr := run_append_grow (P := P) w t ty e i z ht hi hz ⟨g, 0, none⟩ n cap xs hown.1 (hown.cells (g := g) rfl) a m c news hl hnews (by omega) hsm (growslice_fits (by omega) hbytes)
        rw [hr]
        have := new cap (by omega) (Value.slice (some ⟨g, 0, none⟩) n cap).ownBlock
        simpa using this

theorem wp_append_row {o : Oper} {a : Act} {K : Act → World → Prop} {Q : Exit → Act → World → Prop} (s x : Operand) (t : TypeId)
    (ho : o.op = .call { callee := .builtin .append, args := #[s, x], argTypes := #[t, t] })
    (ht : P.underlying t = some (.slice e)) (hi : P.info? e = some i) (hz : i.zero = some z) (hsize : i.size = size) (hby : i.bytes = bytes) (hzs : z.cells.size = size)
    (v : Value) (n : Nat) (xs : List Value) (hs : a.eval s = v) (hown : w.ownsRow base e size v n xs) (y : Value) (m : Nat) (news : List Value) (hx : a.eval x = y) (hy : SrcAt w y m news) (hl : news.length = m * size) (h1 : ∀ u ∈ news, u.oneCell' = true)
    (h63 : n + m ≤ maxLen) (hbytes : (n + m) * bytes ≤ 140737488355328) (hbase : base ≤ w.heap.size)
    (h : ∀ v' w', w'.ownsRow base e size v' (n + m) (xs ++ news) → w.grownBy w' v.ownBlock → (v'.ownBlock = v.ownBlock ∨ v'.ownBlock = some w.heap.size) → w'.ownsRow base e size v n xs → K (a.put o.dst v') w') : o.wp P a w K Q := by
  obtain ⟨v', w', hr, h2, h3, h4, h5⟩ := run_append_row (P := P) t o.type ht hi hz hsize hby hzs v n xs hown y m news hy hl h1 h63 hbytes hbase
  unfold Oper.wp execOp
  simp only [ho, resolve, invoke, builtin, Sem.run_bind, Sem.run_pure, Result.andThen_ok, List.map_toArray, List.map_cons, List.map_nil, hs, hx, hr]
  exact h v' w' h2 h3 h4 h5

theorem wpList_append_row {ops : Array Oper} {rest : List Oper} {o : Oper} {a : Act} {Q : Exit → Act → World → Prop} (hgd : o.guard = none) (s x : Operand) (t : TypeId)
    (ho : o.op = .call { callee := .builtin .append, args := #[s, x], argTypes := #[t, t] })
    (ht : P.underlying t = some (.slice e)) (hi : P.info? e = some i) (hz : i.zero = some z) (hsize : i.size = size) (hby : i.bytes = bytes) (hzs : z.cells.size = size)
    (v : Value) (n : Nat) (xs : List Value) (hs : a.eval s = v) (hown : w.ownsRow base e size v n xs) (y : Value) (m : Nat) (news : List Value) (hx : a.eval x = y) (hy : SrcAt w y m news) (hl : news.length = m * size) (h1 : ∀ u ∈ news, u.oneCell' = true)
    (h63 : n + m ≤ maxLen) (hbytes : (n + m) * bytes ≤ 140737488355328) (hbase : base ≤ w.heap.size)
    (h : ∀ v' w', w'.ownsRow base e size v' (n + m) (xs ++ news) → w.grownBy w' v.ownBlock → (v'.ownBlock = v.ownBlock ∨ v'.ownBlock = some w.heap.size) → w'.ownsRow base e size v n xs → wpList P ops Q rest (a.put o.dst v') w') : wpList P ops Q (o :: rest) a w :=
  wpList_plain hgd fun _ hK => wp_append_row s x t ho ht hi hz hsize hby hzs v n xs hs hown y m news hx hy hl h1 h63 hbytes hbase fun v' w' h2 h3 h4 h5 => hK _ _ (h v' w' h2 h3 h4 h5)

end
end Go.Proofs.Grow

/- A pile of trees in memory: a row of one's own that is appended to, cut, and written over; no tree lies in its block. -/
namespace Go.Proofs.Wy
open Go Go.RowKit Go.Proofs.Mem Go.Proofs.Grow

theorem grownK {w w' : World} {row : Option Nat} (h : w.grownBy w' row) : Kept (fun b => row = some b) w w' :=
  ⟨h.os, h.tape, h.output, h.size, fun k hk hx => h.block k hk (fun e => hx e.symm)⟩
theorem ownGo {X : Nat → Prop} {w w' : World} {base sz n : Nat} {e : TypeId} {v : Value} {xs : List Value} (h : w.ownsRow base e sz v n xs) (k : Kept X w w') (hx : ∀ g, v.ownBlock = some g → ¬ X g) : w'.ownsRow base e sz v n xs := by
  refine ⟨h.1, ?_⟩
  rcases h.2 with hn | ⟨g, c, cur, rfl, hb, hg, rest⟩
  · exact .inl hn
  · exact .inr ⟨g, c, cur, rfl, hb, (k.block g (Array.getElem?_eq_some_iff.1 hg).1 (hx g rfl)).trans hg, rest⟩
theorem ownSlice {w : World} {base sz n : Nat} {e : TypeId} {v : Value} {xs : List Value} (h : w.ownsRow base e sz v n xs) : ∃ o c, v = .slice o n c := by
  rcases h.2 with ⟨rfl, rfl⟩ | ⟨g, c, cur, rfl, _⟩
  · exact ⟨_, _, rfl⟩
  · exact ⟨_, _, rfl⟩
/-- the row's first elements -/
theorem ownTake {w : World} {base sz n c g m : Nat} {e : TypeId} {xs : List Value} (h : w.ownsRow base e sz (.slice (some ⟨g, 0, none⟩) n c) n xs) (hm : m ≤ n) :
    w.ownsRow base e sz (.slice (some ⟨g, 0, none⟩) m c) m (xs.take (m * sz)) := by
  have hl := h.1
  refine ⟨?_, ?_⟩
  · rw [List.length_take, hl]
    have := Nat.mul_le_mul_right sz hm
    omega
  rcases h.2 with ⟨he, -⟩ | ⟨g', c', cur, he, hb, hg, hnc, hcm, hsz, ht⟩
  · cases he
  · simp only [Value.slice.injEq, Option.some.injEq, Addr.mk.injEq, and_true, true_and] at he
    obtain ⟨rfl, rfl⟩ := he
    refine .inr ⟨g, c, cur, rfl, hb, hg, by omega, hcm, hsz, ?_⟩
    have := Nat.mul_le_mul_right sz hm
    rw [← ht, List.take_take, Nat.min_eq_left this]
/-- a row of one's own may be read -/
theorem rowOwn {N : Nat → Prop} {w : World} {base sz n : Nat} {e : TypeId} {v : Value} {cs : List Value} (h : w.ownsRow base e sz v n cs) (hN : ∀ g, v.ownBlock = some g → N g) : Row N w v n sz cs := by
  refine ⟨h.1, ?_⟩
  rcases h.2 with ⟨rfl, h0⟩ | ⟨g, cap, cur, rfl, hb, hg, hnc, hcm, -, -⟩
  · exact .inl ⟨h0, none, 0, rfl⟩
  · refine .inr ⟨g, 0, cap, rfl, hnc, hcm, hN g rfl, (Array.getElem?_eq_some_iff.1 hg).1, fun j hj => ?_⟩
    rw [Nat.zero_add]
    exact h.cellAt _ (by rw [← h.1]; exact hj)

/-- trees in a row of one's own -/
structure PlAt (T : TypeId) (B : Nat) (w : World) (v : Value) (l : List Nd) : Prop where
  row : ∃ cs, w.ownsRow B T 6 v l.length cs ∧ NdsAt (fun b => v.ownBlock ≠ some b ∧ B ≤ b) w l cs
section
variable {T : TypeId} {B : Nat} {w w' : World} {v v' : Value} {l : List Nd}
theorem PlAt.nil : PlAt T B w (.slice none 0 0) [] := ⟨[], World.ownsRow_nil _ _ _ _, by rw [NdsAt]⟩
theorem PlAt.slice (h : PlAt T B w v l) : ∃ o c, v = .slice o l.length c := by
  obtain ⟨cs, h1, -⟩ := h.row
  exact ownSlice h1
theorem PlAt.go {X : Nat → Prop} (h : PlAt T B w v l) (k : Kept X w w') (hX : ∀ b, b < w.heap.size → ¬ X b) : PlAt T B w' v l := by
  obtain ⟨cs, h1, h2⟩ := h.row
  exact ⟨cs, ownGo h1 k (fun g hg => hX g (h1.lt g hg).2), NdsAt.go k (fun b hb hn => ⟨hX b hb, hn⟩) h2⟩
theorem PlAt.below (h : PlAt T B w v l) (k : Below w.heap.size w w') : PlAt T B w' v l :=
  h.go (Kept.of_below k (fun _ => False)) (fun _ _ => id)
theorem PlAt.at_ (h : PlAt T B w v l) (hl : l ≠ []) : ∃ g c, v = .slice (some ⟨g, 0, none⟩) l.length c ∧ B ≤ g ∧ g < w.heap.size ∧ l.length ≤ c ∧ c ≤ maxLen := by
  obtain ⟨cs, h1, -⟩ := h.row
  rcases h1.2 with ⟨rfl, h0⟩ | ⟨g, cap, cur, rfl, hb, hg, hnc, hcm, -, -⟩
  · exact absurd (List.eq_nil_of_length_eq_zero h0) hl
  · exact ⟨g, cap, rfl, hb, (Array.getElem?_eq_some_iff.1 hg).1, hnc, hcm⟩
/-- one more: what was appended -/
theorem PlAt.more {x : Nd} {cs xs : List Value} (hr : w.ownsRow B T 6 v l.length cs) (hn : NdsAt (fun b => v.ownBlock ≠ some b ∧ B ≤ b) w l cs) (hx : NdAt (fun b => v.ownBlock ≠ some b ∧ B ≤ b) w x xs)
    (ho : w'.ownsRow B T 6 v' (l.length + 1) (cs ++ xs)) (hg : w.grownBy w' v.ownBlock) (hv : v'.ownBlock = v.ownBlock ∨ v'.ownBlock = some w.heap.size) : PlAt T B w' v' (l ++ [x]) := by
  have k := grownK hg
  have hd : ∀ b, b < w.heap.size → (v.ownBlock ≠ some b ∧ B ≤ b) → ¬ (v.ownBlock = some b) ∧ (v'.ownBlock ≠ some b ∧ B ≤ b) := fun b hb hn => ⟨hn.1, fun e => by
    rcases hv with hv | hv
    · exact hn.1 (hv ▸ e)
    · rw [hv] at e; simp only [Option.some.injEq] at e; omega, hn.2⟩
  refine ⟨cs ++ xs, by rw [List.length_append, List.length_singleton]; exact ho, NdsAt.append (NdsAt.go k hd hn) (NdsAt.one (NdAt.go k hd hx))⟩
theorem NdsAt.take {N : Nat → Prop} {w : World} : ∀ {l : List Nd} {cs : List Value} (m : Nat), NdsAt N w l cs → NdsAt N w (l.take m) (cs.take (m * 6))
  | [], cs, m, h => by rw [NdsAt] at h; subst h; simp [NdsAt]
  | s :: r, cs, 0, h => by simp [NdsAt]
  | s :: r, cs, m + 1, h => by
    rw [NdsAt] at h
    obtain ⟨a, b, rfl, h2, h3⟩ := h
    rw [List.take_succ_cons, NdsAt]
    refine ⟨a, b.take (m * 6), ?_, h2, h3.take m⟩
    have e : (m + 1) * 6 = a.length + m * 6 := by rw [h2.six]; omega
    rw [e, List.take_length_add_append]
theorem NdsAt.drop {N : Nat → Prop} {w : World} : ∀ {l : List Nd} {cs : List Value} (m : Nat), NdsAt N w l cs → NdsAt N w (l.drop m) (cs.drop (m * 6))
  | [], cs, m, h => by rw [NdsAt] at h; subst h; simp [NdsAt]
  | s :: r, cs, 0, h => by simpa using h
  | s :: r, cs, m + 1, h => by
    rw [NdsAt] at h
    obtain ⟨a, b, rfl, h2, h3⟩ := h
    rw [List.drop_succ_cons]
    have e : (m + 1) * 6 = a.length + m * 6 := by rw [h2.six]; omega
    rw [e, List.drop_length_add_append]
    exact h3.drop m
theorem NdsAt.split {N : Nat → Prop} {w : World} {l m : List Nd} {cs : List Value} (h : NdsAt N w (l ++ m) cs) : NdsAt N w l (cs.take (l.length * 6)) ∧ NdsAt N w m (cs.drop (l.length * 6)) := by
  have h1 := h.take l.length
  have h2 := h.drop l.length
  rw [List.take_left] at h1
  rw [List.drop_left] at h2
  exact ⟨h1, h2⟩
/-- cut -/
theorem PlAt.cut {g c m : Nat} (h : PlAt T B w (.slice (some ⟨g, 0, none⟩) l.length c) l) (hm : m ≤ l.length) : PlAt T B w (.slice (some ⟨g, 0, none⟩) m c) (l.take m) := by
  obtain ⟨cs, h1, h2⟩ := h.row
  refine ⟨cs.take (m * 6), ?_, ?_⟩
  · rw [List.length_take, Nat.min_eq_left hm]; exact ownTake h1 hm
  · exact NdsAt.mono (fun b hb => hb) (h2.take m)
/-- all of them, as they may be read -/
theorem PlAt.read (h : PlAt T B w v l) : ∃ cs, Row (fun _ => True) w v l.length 6 cs ∧ NdsAt (fun _ => True) w l cs := by
  obtain ⟨cs, h1, h2⟩ := h.row
  exact ⟨cs, rowOwn h1 (fun _ _ => trivial), NdsAt.mono (fun _ _ => trivial) h2⟩
/-- the last one is written over -/
theorem set6_last (l : List Value) (a0 a1 a2 a3 a4 a5 b0 b1 b2 b3 b4 b5 : Value) {k : Nat} (hk : l.length = k) :
    ((((((l ++ [a0, a1, a2, a3, a4, a5]).set k b0).set (k + 1) b1).set (k + 2) b2).set (k + 3) b3).set (k + 4) b4).set (k + 5) b5 = l ++ [b0, b1, b2, b3, b4, b5] := by
  subst hk
  simp [List.set_append_right]
end
end Go.Proofs.Wy
