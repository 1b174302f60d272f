/- Parts of the proof: Chain, Reach. Conditions: none. -/
import Derived.Test.YtnhjakdmbfadlaaGreatDoorZ01
import Derived.Test.YtnhjakdmbfadlaaGreatDoorZ02
set_option linter.all false
/- What the laws ask of a repetition of a set, and of trees without groups. -/
namespace Go.Proofs.Wy

theorem modify_last : ∀ c : List Nat, (c ++ [0]).modify c.length (· + 1) = c ++ [1]
  | [] => rfl
  | a :: r => by
    rw [List.cons_append, List.length_cons, List.modify_succ_cons, modify_last r, List.cons_append]
/-- a repetition of what goes one way at most: whatever its order, it is found, and lazily the other way round -/
theorem chain_law (f : Nat → Option (List Nat)) (n : Nat) (hf : ∀ p, ∃ l, f p = some l ∧ (l = [] ∨ ∃ q, l = [q] ∧ p < q ∧ q ≤ n)) (lo hi : Int) :
    ∀ (k w t : Nat), n - w < k → ∃ l : List Nat, l.length ≤ k ∧
      (∀ (out : List Nat) (c : List Nat), c.length = t → out.length + k ≤ 500 → ∃ c', follow endA f lo hi false k w t ⟨out, c, true⟩ = ⟨out ++ l, c', true⟩) ∧
      (∀ (out : List Nat) (c : List Nat), c.length = t → out.length + k ≤ 500 → ∃ c', follow endA f lo hi true k w t ⟨out, c, true⟩ = ⟨out ++ l.reverse, c', true⟩)
  | 0, w, t, h => by omega
  | k + 1, w, t, h => by
    have hb : ∀ c : List Nat, c.length = t → bump c t = c ++ [1] := fun c hc => by
      unfold bump
      rw [if_pos hc]
      rw [← hc]
      exact modify_last c
    have hg : ∀ c : List Nat, c.length = t → (c ++ [1]).getD t 0 = 1 := fun c hc => by
      rw [← hc]; simp
    obtain ⟨m, hm, hm'⟩ := hf w
    have hme : f (endA.stop w) = some m := hm
    by_cases hhi : hi = -1 ∨ (t : Int) < hi
    · have hbb : ((true && true) && (decide (hi = -1) || decide ((t : Int) < hi))) = true := by simpa using hhi
      rcases hm' with rfl | ⟨q, rfl, hq1, hq2⟩
      · refine ⟨if lo ≤ (t : Int) then [w] else [], by split <;> simp, ?_, ?_⟩
        · intro out c hc _
          refine ⟨c ++ [1], ?_⟩
          unfold follow
          simp only [hb c hc, hg c hc, hme]
          by_cases hl : lo ≤ (t : Int) <;> simp [hl, finF, loopF, hhi]
        · intro out c hc _
          refine ⟨c ++ [1], ?_⟩
          unfold follow
          simp only [hb c hc, hg c hc, hme]
          by_cases hl : lo ≤ (t : Int) <;> simp [hl, finF, loopF, hhi]
      · obtain ⟨l, h1, h2, h3⟩ := chain_law f n hf lo hi k q (t + 1) (by omega)
        refine ⟨l ++ (if lo ≤ (t : Int) then [w] else []), ?_, ?_, ?_⟩
        · rw [List.length_append]; split <;> simp <;> omega
        · intro out c hc ho
          obtain ⟨c', e⟩ := h2 out (c ++ [1]) (by simp [hc]) (by omega)
          refine ⟨c', ?_⟩
          have ho' : ¬ 500 < out.length := by omega
          unfold follow
          simp only [hb c hc, hg c hc, hme]
          by_cases hl : lo ≤ (t : Int)
          · simp [hl, finF, loopF, hhi, ho', endA]
            have e' := e
            simp only [endA] at e'
            rw [e']
            simp
          · simp [hl, finF, loopF, hhi, ho', endA]
            have e' := e
            simp only [endA] at e'
            rw [e']
        · intro out c hc ho
          obtain ⟨c', e⟩ := h3 (out ++ if lo ≤ (t : Int) then [w] else []) (c ++ [1]) (by simp [hc]) (by rw [List.length_append]; split <;> simp <;> omega)
          refine ⟨c', ?_⟩
          have ho' : ¬ 500 < out.length := by omega
          have ho2 : ¬ 500 < out.length + 1 := by omega
          unfold follow
          simp only [hb c hc, hg c hc, hme]
          by_cases hl : lo ≤ (t : Int)
          · rw [if_pos hl] at e
            simp [hl, finF, loopF, hhi, ho2, endA]
            have e' := e
            simp only [endA] at e'
            rw [e']
            simp
          · rw [if_neg hl] at e
            simp [hl, finF, loopF, hhi, ho', endA]
            have e' := e
            simp only [endA, List.append_nil] at e'
            rw [e']
    · refine ⟨if lo ≤ (t : Int) then [w] else [], by split <;> simp, ?_, ?_⟩
      · intro out c hc _
        refine ⟨c ++ [1], ?_⟩
        unfold follow
        simp only [hb c hc, hg c hc]
        by_cases hl : lo ≤ (t : Int) <;> simp [hl, finF, hhi]
      · intro out c hc _
        refine ⟨c ++ [1], ?_⟩
        unfold follow
        simp only [hb c hc, hg c hc]
        by_cases hl : lo ≤ (t : Int) <;> simp [hl, finF, hhi]
theorem set_law {S : Str} (hS : ∀ p, 0 < (S.dec p).2 → p + (S.dec p).2 ≤ S.len) (hlen : S.len ≤ 32) (l : List Rg) (lo hi : Int) :
    ∃ m, ends S (.mk 5 [] lo hi false [.mk 2 l 0 0 false []]) 0 = some m ∧ ends S (.mk 5 [] lo hi true [.mk 2 l 0 0 false []]) 0 = some m.reverse := by
  have hf : ∀ p, ∃ m, ends S (.mk 2 l 0 0 false []) p = some m ∧ (m = [] ∨ ∃ q, m = [q] ∧ p < q ∧ q ≤ S.len) := fun p => by
    rw [ends_set]
    split
    · next h => exact ⟨_, rfl, .inr ⟨_, rfl, by omega, hS p h.1⟩⟩
    · exact ⟨_, rfl, .inl rfl⟩
  obtain ⟨m, h1, h2, h3⟩ := chain_law (ends S (.mk 2 l 0 0 false [])) S.len hf lo hi 36 0 0 (by omega)
  obtain ⟨c1, e1⟩ := h2 [] [] rfl (by simp)
  obtain ⟨c2, e2⟩ := h3 [] [] rfl (by simp)
  refine ⟨m, ?_, ?_⟩
  · rw [ends_rep]
    unfold rep
    have e : follow endA (ends S (.mk 2 l 0 0 false [])) lo hi false 36 (endA.still 0) 0 ⟨[], [], true⟩ = ⟨m, c1, true⟩ := by simpa [endA] using e1
    rw [e]
    have : m.length ≤ 500 := by omega
    simp [this]
  · rw [ends_rep]
    unfold rep
    have e : follow endA (ends S (.mk 2 l 0 0 false [])) lo hi true 36 (endA.still 0) 0 ⟨[], [], true⟩ = ⟨m.reverse, c2, true⟩ := by simpa [endA] using e2
    rw [e]
    have : m.length ≤ 500 := by omega
    simp [this]

/-! Trees without groups -/
mutual
def bareT : Nd → Nd
  | .mk k set lo hi lazy subs => if k = 6 then (match bareL subs with | b :: _ => b | [] => .mk k set lo hi lazy []) else .mk k set lo hi lazy (bareL subs)
def bareL : List Nd → List Nd
  | [] => []
  | s :: r => bareT s :: bareL r
end
theorem bareL_map : ∀ l : List Nd, bareL l = l.map bareT
  | [] => rfl
  | s :: r => by rw [bareL, bareL_map r, List.map_cons]
theorem shaped_group {set : List Rg} {lo hi : Int} {lazy : Bool} {subs : List Nd} (h : shapedN (.mk 6 set lo hi lazy subs) = true) : set = [] ∧ lo = 0 ∧ hi = 0 ∧ lazy = false ∧ ∃ s, subs = [s] := by
  simp [shapedN] at h
  obtain ⟨⟨⟨h1, h2⟩, h3⟩, h4, h5⟩ := h
  exact ⟨h4, h1, h2, h3, List.length_eq_one_iff.1 h5⟩
theorem foldl_same {S : Str} : ∀ (l : List Nd), (∀ s ∈ l, ∀ p, ends S (bareT s) p = ends S s p) → ∀ o : Option (List Nat),
    (l.map bareT).foldl (fun o s => o.bind fun m => most (allOf (ends S s) m)) o = l.foldl (fun o s => o.bind fun m => most (allOf (ends S s) m)) o
  | [], _, _ => rfl
  | s :: r, h, o => by
    rw [List.map_cons, List.foldl_cons, List.foldl_cons, foldl_same r (fun t ht => h t (List.mem_cons_of_mem _ ht))]
    have : ends S (bareT s) = ends S s := funext (h s (by simp))
    rw [this]
theorem foldr_same {S : Str} (p : Nat) : ∀ (l : List Nd), (∀ s ∈ l, ∀ p, ends S (bareT s) p = ends S s p) →
    (l.map bareT).foldr (fun s o => match ends S s p, o with | some x, some y => some (x ++ y) | _, _ => none) (some []) = l.foldr (fun s o => match ends S s p, o with | some x, some y => some (x ++ y) | _, _ => none) (some [])
  | [], _ => rfl
  | s :: r, h => by
    rw [List.map_cons, List.foldr_cons, List.foldr_cons, foldr_same p r (fun t ht => h t (List.mem_cons_of_mem _ ht)), h s (by simp)]
mutual
theorem bare_ends (S : Str) : ∀ t : Nd, (look t).shaped = true → ∀ p, ends S (bareT t) p = ends S t p
  | .mk k set lo hi lazy subs, h, p => by
    rw [look_shaped] at h
    simp only [Bool.and_eq_true] at h
    have ih := bareL_ends S subs (by simpa using h.2)
    rw [bareT]
    by_cases h6 : k = 6
    · subst h6
      obtain ⟨rfl, rfl, rfl, rfl, s, rfl⟩ := shaped_group h.1
      rw [if_pos rfl, ends_group]
      exact ih s (by simp) p
    · rw [if_neg h6, bareL_map]
      unfold ends
      rw [wy, wy]
      congr 1
      split
      · rfl
      split
      · rfl
      split
      · rw [cat_end, cat_end]
        exact foldl_same subs ih _
      split
      · match subs, ih with
        | [], _ => rfl
        | s :: r, ih =>
          rw [List.map_cons, wyRep, wyRep]
          congr 1
          funext q
          rw [ends_any, ends_any]
          exact ih s (by simp) q
      rw [alt_end, alt_end]
      exact foldr_same p subs ih
theorem bareL_ends (S : Str) : ∀ l : List Nd, (∀ s ∈ l, (look s).shaped = true) → ∀ s ∈ l, ∀ p, ends S (bareT s) p = ends S s p
  | [], _ => by simp
  | t :: r, h => by
    have h1 := bare_ends S t (h t (by simp))
    have h2 := bareL_ends S r (fun u hu => h u (List.mem_cons_of_mem _ hu))
    intro s hs
    rcases List.mem_cons.1 hs with rfl | hs
    · exact h1
    · exact h2 s hs
end
structure Bare (t b : Nd) : Prop where
  shaped : (look b).shaped = true
  firm : (look b).firm = true
  nullable : (look b).nullable = (look t).nullable
  opened : opened b = 0
  depth : ∀ d : Nat, (look t).depth ≤ d → (look b).depth ≤ d
theorem depth_le {k : Int} {set : List Rg} {lo hi : Int} {lazy : Bool} {subs : List Nd} {d : Int} (h : (look (.mk k set lo hi lazy subs)).depth ≤ d) : ∀ s ∈ subs, (look s).depth ≤ d - 1 := by
  have key : ∀ (l : List Nd) (f : Facts), f.depth ≤ (lookL k f l).depth ∧ ∀ s ∈ l, (look s).depth ≤ (lookL k f l).depth := by
    intro l
    induction l with
    | nil => intro f; exact ⟨by simp [lookL], by simp⟩
    | cons a r ih =>
      intro f
      rw [lookL]
      obtain ⟨h1, h2⟩ := ih ⟨max f.depth (look a).depth, f.groups + (look a).groups, if k = 3 then f.nullable && (look a).nullable else f.nullable || (look a).nullable, f.shaped && (look a).shaped, f.firm && (look a).firm⟩
      simp only at h1 ⊢
      refine ⟨by omega, fun s hs => ?_⟩
      rcases List.mem_cons.1 hs with rfl | hs
      · omega
      · exact h2 s hs
  intro s hs
  rw [look] at h
  have := (key subs ⟨0, 0, decide (k = 1) || decide (k = 3), shapedN (.mk k set lo hi lazy subs), true⟩).2 s hs
  simp only at h
  omega
theorem depth_pos : ∀ t : Nd, 1 ≤ (look t).depth
  | .mk k set lo hi lazy subs => by
    have key : ∀ (l : List Nd) (f : Facts), f.depth ≤ (lookL k f l).depth := by
      intro l
      induction l with
      | nil => intro f; simp [lookL]
      | cons a r ih =>
        intro f
        rw [lookL]
        have := ih ⟨max f.depth (look a).depth, f.groups + (look a).groups, if k = 3 then f.nullable && (look a).nullable else f.nullable || (look a).nullable, f.shaped && (look a).shaped, f.firm && (look a).firm⟩
        simp only at this
        omega
    rw [look]
    have := key subs ⟨0, 0, decide (k = 1) || decide (k = 3), shapedN (.mk k set lo hi lazy subs), true⟩
    simp only at this ⊢
    omega
mutual
theorem bare_good : ∀ t : Nd, (look t).shaped = true → (look t).firm = true → Bare t (bareT t)
  | .mk k set lo hi lazy subs, h, hf => by
    rw [look_shaped] at h
    rw [look_firm] at hf
    simp only [Bool.and_eq_true] at h hf
    have ih := bareL_good subs (by simpa using h.2) (by simpa using hf.1)
    rw [bareT]
    by_cases h6 : k = 6
    · subst h6
      obtain ⟨rfl, rfl, rfl, rfl, s, rfl⟩ := shaped_group h.1
      rw [if_pos rfl]
      have hs := ih s (by simp)
      refine ⟨hs.shaped, hs.firm, ?_, hs.opened, fun d hd => hs.depth d ?_⟩
      · rw [look_nullable]
        simpa [bareL] using hs.nullable
      · have := depth_le hd s (by simp)
        omega
    · rw [if_neg h6, bareL_map]
      have hn1 : (subs.map bareT).any (fun s => (look s).nullable) = subs.any fun s => (look s).nullable := by
        rw [List.any_map]
        apply Bool.eq_iff_iff.2
        simp only [List.any_eq_true, Function.comp]
        exact ⟨fun ⟨s, hs, e⟩ => ⟨s, hs, by rw [← (ih s hs).nullable]; exact e⟩, fun ⟨s, hs, e⟩ => ⟨s, hs, by rw [(ih s hs).nullable]; exact e⟩⟩
      have hn2 : (subs.map bareT).all (fun s => (look s).nullable) = subs.all fun s => (look s).nullable := by
        rw [List.all_map]
        apply Bool.eq_iff_iff.2
        simp only [List.all_eq_true, Function.comp]
        exact ⟨fun H s hs => by rw [← (ih s hs).nullable]; exact H s hs, fun H s hs => by rw [(ih s hs).nullable]; exact H s hs⟩
      refine ⟨?_, ?_, ?_, ?_, ?_⟩
      · rw [look_shaped, Bool.and_eq_true]
        refine ⟨?_, ?_⟩
        · have := h.1
          have hnil : (decide (subs.map bareT = [])) = decide (subs = []) := by cases subs <;> simp
          simpa [shapedN] using this
        · rw [List.all_map, List.all_eq_true]
          exact fun s hs => (ih s hs).shaped
      · rw [look_firm, hn1, Bool.and_eq_true]
        refine ⟨?_, hf.2⟩
        rw [List.all_map, List.all_eq_true]
        exact fun s hs => (ih s hs).firm
      · rw [look_nullable, look_nullable, hn1, hn2]
      · rw [opened, if_neg h6]
        have : ∀ l : List Nd, (∀ s ∈ l, Wy.opened (bareT s) = 0) → openedL (l.map bareT) = 0 := by
          intro l hl
          induction l with
          | nil => rfl
          | cons a r ihr => rw [List.map_cons, openedL, hl a (by simp), ihr (fun s hs => hl s (List.mem_cons_of_mem _ hs))]
        rw [this subs fun s hs => (ih s hs).opened]
      · intro d hd
        have h1 := depth_pos (.mk k set lo hi lazy subs)
        have h2 := look_depth k set lo hi lazy (subs.map bareT) (d - 1) (by omega) (fun s hs => by
          obtain ⟨a, ha, rfl⟩ := List.mem_map.1 hs
          have h3 := depth_le hd a ha
          have h4 := depth_pos a
          have := (ih a ha).depth (d - 1) (by omega)
          omega)
        omega
theorem bareL_good : ∀ l : List Nd, (∀ s ∈ l, (look s).shaped = true) → (∀ s ∈ l, (look s).firm = true) → ∀ s ∈ l, Bare s (bareT s)
  | [], _, _ => by simp
  | t :: r, h, hf => by
    have h1 := bare_good t (h t (by simp)) (hf t (by simp))
    have h2 := bareL_good r (fun u hu => h u (List.mem_cons_of_mem _ hu)) (fun u hu => hf u (List.mem_cons_of_mem _ hu))
    intro s hs
    rcases List.mem_cons.1 hs with rfl | hs
    · exact h1
    · exact h2 s hs
end
theorem bare_right {t : Nd} (h : right t = true) : right (bareT t) = true := by
  obtain ⟨d, g, hd, hg, hG⟩ := good_of_right h
  have hb := bare_good t hG.shaped hG.firm
  exact Good.right (d := d) (g := 0) ⟨hb.shaped, hb.firm, hb.depth d hG.depth, by rw [hb.opened]; exact Nat.le_refl _⟩ hd (by omega)
end Go.Proofs.Wy

/- Where ways end: at places that are reached by reading. -/
namespace Go.Proofs.Wy

theorem rep_reach {W : Type} {A : Alg W} (hA : Lawful A) {Q : Nat → Prop} {f : Nat → Option (List W)} (hf : ∀ p m, f p = some m → Q p → ∀ v ∈ m, Q (A.stop v)) {lo hi : Int} {lazy : Bool} {k p : Nat} {l : List W}
    (h : rep A f lo hi lazy k p = some l) (hp : Q p) : ∀ x ∈ l, Q (A.stop x) := by
  unfold rep at h
  simp only at h
  split at h
  · simp only [Option.some.injEq] at h
    subst h
    refine follow_inv (I := fun _ w => Q (A.stop w)) (P := fun x => Q (A.stop x)) ?_ ?_ k (A.still p) 0 ⟨[], [], true⟩ ?_ (by simp)
    · intro t w m hI hm v hv
      rw [hA.thn]
      exact hf _ m hm hI v hv
    · exact fun t w _ h2 => h2
    · rw [hA.still]; exact hp
  · cases h
mutual
theorem wy_reach {W : Type} {A : Alg W} (hA : Lawful A) (S : Str) {Q : Nat → Prop} (hQ : ∀ p, Q p → 0 < (S.dec p).2 → Q (p + (S.dec p).2)) :
    ∀ (t : Nd) (g p : Nat) (l : List W), wy A S t g p = some l → Q p → ∀ w ∈ l, Q (A.stop w)
  | .mk k set lo hi lazy subs, g, p, l, h, hp, w, hw => by
    rw [wy] at h
    have h1 := (most_len h).2
    by_cases k1 : k = 1
    · rw [if_pos k1] at h1
      cases h1
      simp only [List.mem_singleton] at hw
      subst hw
      rw [hA.still]; exact hp
    rw [if_neg k1] at h1
    by_cases k2 : k = 2
    · rw [if_pos k2] at h1
      split at h1
      · next hc =>
        cases h1
        simp only [List.mem_singleton] at hw
        subst hw
        rw [hA.still]
        exact hQ p hp hc.1
      · cases h1; simp at hw
    rw [if_neg k2] at h1
    by_cases k3 : k = 3
    · rw [if_pos k3] at h1
      exact wyCat_reach hA S hQ subs g [A.still p] l h1 (by simpa [hA.still] using hp) w hw
    rw [if_neg k3] at h1
    by_cases k5 : k = 5
    · rw [if_pos k5] at h1
      exact wyRep_reach hA S hQ lo hi lazy subs g p l h1 hp w hw
    rw [if_neg k5] at h1
    by_cases k6 : k = 6
    · rw [if_pos k6] at h1
      cases ha : wyAlt A S subs (g + 1) p with
      | none => rw [ha] at h1; cases h1
      | some m =>
        rw [ha] at h1
        simp only [Option.map_some, Option.some.injEq] at h1
        subst h1
        obtain ⟨v, hv, rfl⟩ := List.mem_map.1 hw
        rw [hA.mark]
        exact wyAlt_reach hA S hQ subs (g + 1) p m ha hp v hv
    · rw [if_neg k6] at h1
      exact wyAlt_reach hA S hQ subs g p l h1 hp w hw
theorem wyCat_reach {W : Type} {A : Alg W} (hA : Lawful A) (S : Str) {Q : Nat → Prop} (hQ : ∀ p, Q p → 0 < (S.dec p).2 → Q (p + (S.dec p).2)) :
    ∀ (subs : List Nd) (g : Nat) (l m : List W), wyCat A S subs g l = some m → (∀ w ∈ l, Q (A.stop w)) → ∀ w ∈ m, Q (A.stop w)
  | [], g, l, m, h, hl, w, hw => by
    rw [wyCat] at h
    cases h
    exact hl w hw
  | s :: r, g, l, m, h, hl, w, hw => by
    have hs := wy_reach hA S hQ s g
    rw [wyCat] at h
    split at h
    · next n hn =>
      have hn1 : ∀ x ∈ n, Q (A.stop x) := by
        intro x hx
        obtain ⟨u, hu, q, hq, v, hv, rfl⟩ := goOn_mem hn x hx
        rw [hA.thn]
        exact hs _ q hq (hl u hu) v hv
      exact wyCat_reach hA S hQ r _ n m h hn1 w hw
    · cases h
theorem wyRep_reach {W : Type} {A : Alg W} (hA : Lawful A) (S : Str) {Q : Nat → Prop} (hQ : ∀ p, Q p → 0 < (S.dec p).2 → Q (p + (S.dec p).2)) (lo hi : Int) (lazy : Bool) :
    ∀ (subs : List Nd) (g p : Nat) (l : List W), wyRep A S lo hi lazy subs g p = some l → Q p → ∀ w ∈ l, Q (A.stop w)
  | [], g, p, l, h, _, w, hw => by rw [wyRep] at h; cases h
  | s :: r, g, p, l, h, hp, w, hw => by
    rw [wyRep] at h
    exact rep_reach hA (fun q m hm hq v hv => wy_reach hA S hQ s g q m hm hq v hv) h hp w hw
theorem wyAlt_reach {W : Type} {A : Alg W} (hA : Lawful A) (S : Str) {Q : Nat → Prop} (hQ : ∀ p, Q p → 0 < (S.dec p).2 → Q (p + (S.dec p).2)) :
    ∀ (subs : List Nd) (g p : Nat) (m : List W), wyAlt A S subs g p = some m → Q p → ∀ w ∈ m, Q (A.stop w)
  | [], g, p, m, h, _, w, hw => by
    rw [wyAlt] at h
    cases h
    simp at hw
  | s :: r, g, p, m, h, hp, w, hw => by
    have hs := wy_reach hA S hQ s g p
    rw [wyAlt] at h
    split at h
    · next x y hx hy =>
      cases h
      rcases List.mem_append.1 hw with hw | hw
      · exact hs x hx hp w hw
      · exact wyAlt_reach hA S hQ r _ p y hy hp w hw
    · cases h
end
theorem endA_lawful : Lawful endA := ⟨fun _ _ => rfl, fun _ => rfl, fun _ _ _ => rfl⟩
theorem ends_reach {S : Str} {Q : Nat → Prop} (hQ : ∀ p, Q p → 0 < (S.dec p).2 → Q (p + (S.dec p).2)) {t : Nd} {p : Nat} {l : List Nat} (h : ends S t p = some l) (hp : Q p) : ∀ q ∈ l, Q q :=
  wy_reach endA_lawful S hQ t 0 p l h hp
end Go.Proofs.Wy
