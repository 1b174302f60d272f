/- WheelApart, in plain terms: what one member does, alone or among others. -/
import Derived.Test.YtokgfmibhkkiaaaIn
namespace Go.Proofs.Ytokgfmibhkkiaaa
open Go.RowKit Wh Mem Go.Maps

theorem find_adv (l : List Mb) (a b id : Int) : findM (l.map (advM a b)) id = (findM l id).map (advM a b) := by
  unfold findM
  rw [List.find?_map]
  rfl
theorem find_set (l : List Mb) (id i : Int) (ph : Phase) : findM (setM l i ph) id = (findM l id).map fun m => if m.id = i then setP m ph else m := by
  unfold findM setM
  rw [List.find?_map]
  congr 2
  funext m
  show decide ((if m.id = i then setP m ph else m).id = id) = decide (m.id = id)
  split <;> rfl
theorem find_answer {l : List Mb} {id : Int} {m : Mb} (h : findM l id = some m) (i : Int) : findM (answerM i l) id = some (if id = i then setP m (ansP m.phase) else m) := by
  have hid := (findM_some h).2
  unfold answerM
  split
  · rename_i hn
    rw [h, if_neg]
    rintro rfl
    rw [h] at hn; cases hn
  · rename_i x hx
    rw [find_set, h, Option.map_some, hid]
    by_cases e : id = i
    · subst e
      rw [h] at hx
      cases hx
      rfl
    · rw [if_neg e, if_neg e]
theorem find_handle {l : List Mb} {id : Int} {m : Mb} (h : findM l id = some m) (i : Int) : findM (handleM i l) id = some (if id = i then setP m (hanP m.phase) else m) := by
  have hid := (findM_some h).2
  unfold handleM
  split
  · rename_i hn
    rw [h, if_neg]
    rintro rfl
    rw [h] at hn; cases hn
  · rename_i x hx
    rw [find_set, h, Option.map_some, hid]
    by_cases e : id = i
    · subst e
      rw [h] at hx
      cases hx
      rfl
    · rw [if_neg e, if_neg e]
theorem find_tick (S : List Sm) {l : List Mb} {r : Nat} {m : Mb} (h : findM l (3 * (r : Int)) = some m) : ∀ k : Nat,
    findM (tickM S k l) (3 * (r : Int)) = some (if r < k ∧ (S[r]?.map (·.handled)) = some true then setP m (hanP (ansP m.phase)) else m)
  | 0 => by rw [tickM, h, if_neg (by omega)]
  | k + 1 => by
    have ih := find_tick S h k
    rw [tickM]
    by_cases hk : (S[k]?.map (·.handled)) = some true
    · rw [if_pos hk]
      have h1 := find_answer ih (3 * (k : Int))
      have h2 := find_handle h1 (3 * (k : Int))
      rw [h2]
      by_cases e : r = k
      · subst e
        rw [if_neg (show ¬ (r < r ∧ _) by omega), if_pos rfl, if_pos rfl, if_pos ⟨by omega, hk⟩]
        rfl
      · rw [if_neg (by omega), if_neg (by omega)]
        by_cases c : r < k ∧ (S[r]?.map (·.handled)) = some true
        · rw [if_pos c, if_pos ⟨by omega, c.2⟩]
        · rw [if_neg c, if_neg (fun g => c ⟨by omega, g.2⟩)]
    · rw [if_neg hk, ih]
      by_cases c : r < k ∧ (S[r]?.map (·.handled)) = some true
      · rw [if_pos c, if_pos ⟨by omega, c.2⟩]
      · rw [if_neg c, if_neg]
        rintro ⟨g1, g2⟩
        rcases Nat.lt_or_ge r k with h | h
        · exact c ⟨h, g2⟩
        · have : r = k := by omega
          subst this; exact hk g2

/-- what the law picks out of the moves of all -/
def pickMv (id : Int) (xs : List (Int × Report)) : List (Int × Report) := xs.filter fun x => decide (x.1 = id)
theorem pick_none (a b : Int) {id : Int} : ∀ {l : List Mb}, (∀ m ∈ l, m.id ≠ id) → pickMv id (moves a b l) = []
  | l, h => by
    unfold pickMv moves
    rw [List.filter_eq_nil_iff]
    intro x hx
    obtain ⟨m, hm, rfl⟩ := List.mem_map.1 hx
    have := h m (List.mem_filter.1 hm).1
    simpa using this
theorem moves_append (a b : Int) (l l' : List Mb) : moves a b (l ++ l') = moves a b l ++ moves a b l' := by unfold moves; rw [List.filter_append, List.map_append]
theorem pick_moves (a b : Int) {id : Int} {m : Mb} : ∀ {l : List Mb}, Ids l → findM l id = some m → pickMv id (moves a b l) = moves a b [m]
  | [], _, h => by simp [findM] at h
  | x :: r, hl, h => by
    have hl' := List.pairwise_cons.1 hl
    have e0 : moves a b (x :: r) = moves a b [x] ++ moves a b r := moves_append a b [x] r
    have e1 : pickMv id (moves a b (x :: r)) = pickMv id (moves a b [x]) ++ pickMv id (moves a b r) := by rw [e0]; unfold pickMv; rw [List.filter_append]
    rw [e1]
    by_cases e : x.id = id
    · have hx : m = x := by
        unfold findM at h; rw [List.find?_cons] at h
        simpa [e] using h.symm
      subst hx
      rw [pick_none a b (l := r) (fun y hy g => by have := hl'.1 y hy; omega), List.append_nil]
      unfold pickMv
      rw [List.filter_eq_self]
      intro z hz
      unfold moves at hz
      obtain ⟨y, hy, rfl⟩ := List.mem_map.1 hz
      have := (List.mem_filter.1 hy).1
      simp at this
      subst this
      simpa using e
    · have h2 : findM r id = some m := by unfold findM at *; rw [List.find?_cons] at h; simpa [e] using h
      rw [pick_none a b (l := [x]) (fun y hy g => by simp at hy; subst hy; exact e g), List.nil_append]
      exact pick_moves a b hl'.2 h2
theorem rep_core {m m2 : Mb} (h : core m2 = core m) (a b : Int) : repM a b m2 = repM a b m := by
  unfold core at h
  simp only [Prod.mk.injEq] at h
  unfold repM
  rw [h.2.1, h.2.2]
theorem moves_core {m m2 : Mb} (h : core m2 = core m) (a b : Int) : moves a b [m2] = moves a b [m] := by
  have hr := rep_core h a b
  have h1 : m2.id = m.id := congrArg (·.1) h
  by_cases hl : Loud (repM a b m)
  · have e : ∀ x : Mb, Loud (repM a b x) → moves a b [x] = [(x.id, repM a b x)] := fun x hx => by unfold moves; rw [List.filter_cons, if_pos (decide_eq_true hx)]; rfl
    rw [e m hl, e m2 (by rw [hr]; exact hl), h1, hr]
  · have e : ∀ x : Mb, ¬ Loud (repM a b x) → moves a b [x] = [] := fun x hx => by unfold moves; rw [List.filter_cons, if_neg (by simpa using hx)]; rfl
    rw [e m hl, e m2 (by rw [hr]; exact hl)]
theorem adv_core {m m2 : Mb} (h : core m2 = core m) (a b : Int) : core (advM a b m2) = core (advM a b m) := by
  unfold core at h
  simp only [Prod.mk.injEq] at h
  obtain ⟨h1, h2, h3⟩ := h
  show (m2.id, m2.plan, (adv m2.plan m2.phase a b).1) = (m.id, m.plan, (adv m.plan m.phase a b).1)
  rw [h1, h2, h3]
theorem set_core {m m2 : Mb} (h : core m2 = core m) (p q : Phase) (e : p = q) : core (setP m2 p) = core (setP m q) := by
  unfold core at *
  simp only [Prod.mk.injEq] at *
  exact ⟨h.1, h.2.1, e⟩
theorem answer_one {m : Mb} {id : Int} (h : m.id = id) : answerM id [m] = [setP m (ansP m.phase)] := by
  have hf : findM [m] id = some m := by unfold findM; simp [h]
  unfold answerM
  rw [hf]
  simp [setM, h]
theorem handle_one {m : Mb} {id : Int} (h : m.id = id) : handleM id [m] = [setP m (hanP m.phase)] := by
  have hf : findM [m] id = some m := by unfold findM; simp [h]
  unfold handleM
  rw [hf]
  simp [setM, h]
theorem find_one {m : Mb} {id : Int} (h : m.id = id) : findM [m] id = some m := by unfold findM; simp [h]
theorem moves_one_le (a b : Int) (m : Mb) : (moves a b [m]).length ≤ 1 := by have := moves_le a b [m]; simpa using this
theorem pick_snoc (id : Int) (xs : List (Int × Report)) (k : Nat) (h : k < xs.length) : pickMv id (xs.take (k + 1)) = pickMv id (xs.take k) ++ if xs[k].1 = id then [xs[k]] else [] := by
  unfold pickMv
  rw [List.take_succ_eq_append_getElem h, List.filter_append]
  congr 1
  simp only [List.filter_cons, List.filter_nil, decide_eq_true_eq]
/-- the member i of a wheel just made -/
theorem made_find {l : List Mb} {S : List Sm} {N : Nat} (h : l.map core = madeC S N) (hl : Ids l) {r : Nat} (hr : r < N) (hN : N ≤ S.length) : ∃ m, findM l (3 * (r : Int)) = some m ∧ core m = (3 * (r : Int), smPlan (S[r]'(by omega)), ⟨0, 0⟩) := by
  have hlen := core_len h hN
  have e : (l.map core)[r]? = (madeC S N)[r]? := by rw [h]
  have e2 : (madeC S N)[r]? = some (3 * (r : Int), smPlan (S[r]'(by omega)), ⟨0, 0⟩) := by
    unfold madeC
    rw [List.getElem?_map, List.getElem?_zipIdx, List.getElem?_take_of_lt hr, List.getElem?_eq_getElem (by omega)]
    simp
  rw [e2, List.getElem?_map, List.getElem?_eq_getElem (by omega)] at e
  simp at e
  refine ⟨l[r]'(by omega), ?_, e⟩
  have h1 : (l[r]'(by omega)).id = 3 * (r : Int) := congrArg (·.1) e
  rw [← h1]
  exact findM_at hl (List.getElem_mem _)
theorem moves_form {w : World} {v : Value} {xs : List (Int × Report)} (h : MovesAt w v xs) : ∃ (ob : Option Addr) (cap : Nat), v = .slice ob xs.length cap ∧
    ∀ (k : Nat) (hk : k < xs.length), ∃ g, ob = some ⟨g, 0, none⟩ ∧ g < w.heap.size ∧ w.cell? ⟨g, k * 4, none⟩ = some (.int .i64 xs[k].1) ∧ w.cell? ⟨g, k * 4 + 1, none⟩ = some (.int .i64 xs[k].2.begun) ∧
      w.cell? ⟨g, k * 4 + 2, none⟩ = some (.int .i64 xs[k].2.failed) ∧ w.cell? ⟨g, k * 4 + 3, none⟩ = some (.int .i64 xs[k].2.skipped) := by
  rcases h with ⟨rfl, rfl⟩ | ⟨g, cap, rfl, hg, hc⟩
  · exact ⟨none, 0, rfl, fun k hk => absurd hk (by simp)⟩
  · exact ⟨_, cap, rfl, fun k hk => ⟨g, rfl, hg, (hc k hk).1, (hc k hk).2.1, (hc k hk).2.2.1, (hc k hk).2.2.2⟩⟩
theorem pick_le (id : Int) (xs : List (Int × Report)) : (pickMv id xs).length ≤ xs.length := List.length_filter_le _ _
end Go.Proofs.Ytokgfmibhkkiaaa
