/- WheelParts, in plain terms: the reports of two parts add up to those of the whole; the map in which the law adds them. -/
import Derived.Test.YtokgfmibhkkiaaaIn
namespace Go.Proofs.Ytokgfmibhkkiaaa
open Go.RowKit Wh Mem Go.Maps

/-! ### the sum, as a list in the order of IDs -/
def dflt : Report := ⟨-1, -1, 0⟩
def insR (x : Int × Report) : List (Int × Report) → List (Int × Report)
  | [] => [x]
  | y :: r => if x.1 < y.1 then x :: y :: r else y :: insR x r
def lookR (xs : List (Int × Report)) (id : Int) : Option Report := (xs.find? fun x => decide (x.1 = id)).map (·.2)
def putR (xs : List (Int × Report)) (id : Int) (r : Report) : List (Int × Report) := insR (id, r) (xs.filter fun x => !decide (x.1 = id))
def stepR (xs : List (Int × Report)) (x : Int × Report) : List (Int × Report) := putR xs x.1 (addR ((lookR xs x.1).getD dflt) x.2)
def Up (id : Int) (xs : List (Int × Report)) : Prop := ∀ x ∈ xs, id < x.1

theorem filter_up {id : Int} {xs : List (Int × Report)} (h : Up id xs) : (xs.filter fun x => !decide (x.1 = id)) = xs := by
  rw [List.filter_eq_self]
  intro x hx
  have := h x hx
  simp; omega
theorem look_up {id : Int} {xs : List (Int × Report)} (h : Up id xs) : lookR xs id = none := by
  unfold lookR
  rw [List.find?_eq_none.2]
  · rfl
  · intro x hx
    have := h x hx
    simp; omega
theorem ins_up {x : Int × Report} {xs : List (Int × Report)} (h : Up x.1 xs) : insR x xs = x :: xs := by
  cases xs with
  | nil => rfl
  | cons y r => rw [insR, if_pos (h y (by simp))]
theorem step_front {id : Int} {q : Report} {xs : List (Int × Report)} (h : Up id xs) : stepR xs (id, q) = (id, addR dflt q) :: xs := by
  unfold stepR putR
  rw [look_up h, filter_up h, ins_up (by exact h)]
  rfl
theorem step_same {id : Int} {v q : Report} {xs : List (Int × Report)} (h : Up id xs) : stepR ((id, v) :: xs) (id, q) = (id, addR v q) :: xs := by
  unfold stepR putR
  have e1 : lookR ((id, v) :: xs) id = some v := by unfold lookR; simp
  have e2 : (((id, v) :: xs).filter fun x => !decide (x.1 = id)) = xs := by
    rw [List.filter_cons, if_neg (by simp)]; exact filter_up h
  rw [e1, e2, ins_up (by exact h)]
  rfl
theorem step_cons {id : Int} {v : Report} {x : Int × Report} {xs : List (Int × Report)} (h : id < x.1) : stepR ((id, v) :: xs) x = (id, v) :: stepR xs x := by
  unfold stepR putR
  have e1 : lookR ((id, v) :: xs) x.1 = lookR xs x.1 := by
    unfold lookR
    rw [List.find?_cons]
    have : ¬ id = x.1 := by omega
    simp [this]
  have e2 : (((id, v) :: xs).filter fun y => !decide (y.1 = x.1)) = (id, v) :: xs.filter fun y => !decide (y.1 = x.1) := by
    rw [List.filter_cons, if_pos]
    have : ¬ id = x.1 := by omega
    simp [this]
  rw [e1, e2]
  conv => lhs; rw [insR]
  rw [if_neg (by show ¬ x.1 < id; omega)]
theorem fold_cons {id : Int} {v : Report} : ∀ {ys xs : List (Int × Report)}, Up id ys → ys.foldl stepR ((id, v) :: xs) = (id, v) :: ys.foldl stepR xs
  | [], xs, _ => rfl
  | y :: r, xs, h => by
    rw [List.foldl_cons, step_cons (h y (by simp)), fold_cons (fun x hx => h x (List.mem_cons_of_mem _ hx))]
    rfl

theorem rep_low {p : Plan} {s : Phase} {a b : Int} (h : Fits p s a) (hab : a ≤ b) : -1 ≤ (adv p s a b).2.begun ∧ -1 ≤ (adv p s a b).2.failed ∧ 0 ≤ (adv p s a b).2.skipped ∧ (adv p s a b).2.skipped ≤ b + 1 := by
  obtain ⟨hr, ht, hs⟩ := h
  have u1 := upTo_mono hr hab
  have u2 := upTo_nonneg hr (t := a) (by have := ht.1; omega)
  have u3 := upTo_le hr (t := b) (by have := ht.1; omega)
  have n1 := nxt_gt hr a
  have ht0 := ht.1
  unfold adv
  split
  · simp; omega
  · split
    · split
      · simp; omega
      · split <;> simp <;> omega
    · have : 0 ≤ s.since := by
        rcases hs with h | h | h
        · omega
        · exact h.2.1.2.1.1
        · exact h.2.1.2.1.1
      split <;> simp <;> omega
theorem rep_dflt {p : Plan} {s : Phase} {a b : Int} (h : Fits p s a) (hab : a ≤ b) (hl : ¬ Loud (adv p s a b).2) : (adv p s a b).2 = dflt := by
  obtain ⟨h1, h2, h3, -⟩ := rep_low h hab
  unfold Loud at hl
  generalize (adv p s a b).2 = r at *
  cases r
  simp only [dflt, Report.mk.injEq] at *
  omega
theorem add_dflt {r : Report} (h1 : -1 ≤ r.begun) (h2 : -1 ≤ r.failed) : addR dflt r = r := by
  cases r
  simp only [addR, dflt, Report.mk.injEq] at *
  omega
theorem dflt_add {r : Report} (h1 : -1 ≤ r.begun) (h2 : -1 ≤ r.failed) : addR r dflt = r := by
  cases r
  simp only [addR, dflt, Report.mk.injEq] at *
  omega
theorem loud_dflt {r : Report} (h : Loud r) : r ≠ dflt := by
  rintro rfl
  exact not_loud h

theorem moves_cons (a b : Int) (m : Mb) (l : List Mb) : moves a b (m :: l) = (if Loud (repM a b m) then [(m.id, repM a b m)] else []) ++ moves a b l := by
  unfold moves
  rw [List.filter_cons]
  by_cases h : Loud (repM a b m)
  · rw [if_pos (decide_eq_true h), if_pos h]; rfl
  · rw [if_neg (by simpa using h), if_neg h]; rfl
theorem moves_up {a b : Int} {m : Mb} {l : List Mb} (h : Ids (m :: l)) : Up m.id (moves a b l) := by
  intro x hx
  unfold moves at hx
  obtain ⟨y, hy, rfl⟩ := List.mem_map.1 hx
  exact (List.pairwise_cons.1 h).1 y (List.mem_filter.1 hy).1
theorem ids_adv {l : List Mb} (h : Ids l) (a b : Int) : Ids (l.map (advM a b)) := by
  unfold Ids at *
  rw [List.pairwise_map]
  exact h
/-- one part's moves, one after the other, into the empty sum -/
theorem fold_first {a b : Int} : ∀ {l : List Mb}, Ids l → (∀ m ∈ l, Fits m.plan m.phase a) → a ≤ b → (moves a b l).foldl stepR [] = moves a b l
  | [], _, _, _ => rfl
  | m :: r, hl, hf, hab => by
    have ih := fold_first (List.pairwise_cons.1 hl).2 (fun x hx => hf x (List.mem_cons_of_mem _ hx)) hab
    have hu := moves_up (a := a) (b := b) hl
    obtain ⟨h1, h2, -⟩ := rep_low (hf m (by simp)) hab
    have hd : addR dflt (repM a b m) = repM a b m := add_dflt h1 h2
    rw [moves_cons]
    by_cases h : Loud (repM a b m)
    · rw [if_pos h, List.singleton_append, List.foldl_cons, step_front (by intro x hx; cases hx), fold_cons hu, ih, hd]
    · rw [if_neg h]; exact ih
/-- THE LAW: both parts' moves, into one sum, are the whole's. -/
theorem fold_parts {a c b : Int} : ∀ {l : List Mb}, Ids l → (∀ m ∈ l, Fits m.plan m.phase a) → a ≤ c → c ≤ b → Tick c →
    (moves c b (l.map (advM a c))).foldl stepR (moves a c l) = moves a b l
  | [], _, _, _, _, _ => rfl
  | m :: r, hl, hf, hac, hcb, hc => by
    have ih := fold_parts (List.pairwise_cons.1 hl).2 (fun x hx => hf x (List.mem_cons_of_mem _ hx)) hac hcb hc
    have hu := moves_up (a := a) (b := c) hl
    have hu2 : Up m.id (moves c b (r.map (advM a c))) := moves_up (a := c) (b := b) (m := advM a c m) (show Ids (advM a c m :: r.map (advM a c)) from ids_adv hl a c)
    have hm := hf m (by simp)
    have hm2 : Fits m.plan (adv m.plan m.phase a c).1 c := adv_fits hm hac hc
    obtain ⟨h1, h2, -⟩ := rep_low hm hac
    have hd : addR (repM a c m) dflt = repM a c m := dflt_add h1 h2
    have hs : repM a b m = addR (repM a c m) (repM c b (advM a c m)) := congrArg (·.2) (adv_split hm hac hcb)
    have hlo : Loud (repM a b m) ↔ Loud (repM a c m) ∨ Loud (repM c b (advM a c m)) := by
      rw [hs]; exact adv_loud_add hm.1 hac hcb
    have d1 : ¬ Loud (repM a c m) → repM a c m = dflt := rep_dflt hm hac
    have d2 : ¬ Loud (repM c b (advM a c m)) → repM c b (advM a c m) = dflt := rep_dflt hm2 hcb
    rw [List.map_cons, moves_cons, moves_cons, moves_cons]
    have hid : (advM a c m).id = m.id := rfl
    by_cases c1 : Loud (repM a c m)
    · by_cases c2 : Loud (repM c b (advM a c m))
      · rw [if_pos c1, if_pos c2, if_pos (hlo.2 (.inl c1)), List.singleton_append, List.singleton_append, List.singleton_append, List.foldl_cons, hid, step_same hu, fold_cons hu2, ih, hs]
      · rw [if_pos c1, if_neg c2, if_pos (hlo.2 (.inl c1)), List.singleton_append, List.nil_append, List.singleton_append, fold_cons hu2, ih, hs, d2 c2, hd]
    · by_cases c2 : Loud (repM c b (advM a c m))
      · rw [if_neg c1, if_pos c2, if_pos (hlo.2 (.inr c2)), List.nil_append, List.singleton_append, List.singleton_append, List.foldl_cons, hid, step_front hu, fold_cons hu2, ih, hs, d1 c1]
      · rw [if_neg c1, if_neg c2, if_neg (fun h => (hlo.1 h).elim c1 c2)]
        exact ih
end Go.Proofs.Ytokgfmibhkkiaaa
