/- Parts of the proof: Acc, NdGo, Grow, Pile, FlowL. Conditions: none. -/
import Derived.Test.YtnhjakdmbfadlaaGreatDoorY01
import Derived.Test.YtnhjakdmbfadlaaGreatDoorY00
import Derived.WalkKit
import Derived.Deep.AppendLies
import Derived.Deep.AppendSrc
import Derived.WalkMore
set_option linter.all false
/- Sums of steps, one step on; what fits. -/
namespace Go.Proofs.Wy

section
variable {α β : Type} {f : α → Option (List β)}
theorem allOf_take : ∀ {l : List α} {i : Nat} (hi : i < l.length), allOf f (l.take (i + 1)) = match allOf f (l.take i), f l[i] with | some x, some y => some (x ++ y) | _, _ => none
  | [], i, hi => absurd hi (by simp)
  | a :: r, 0, hi => by
    simp only [List.take_succ_cons, List.take_zero, allOf, List.getElem_cons_zero]
    cases f a <;> simp
  | a :: r, i + 1, hi => by
    have hi' : i < r.length := by simpa using hi
    have ih := allOf_take (l := r) (i := i) hi'
    rw [List.take_succ_cons, allOf, ih, List.take_succ_cons, allOf]
    simp only [List.getElem_cons_succ]
    cases f a <;> cases allOf f (r.take i) <;> cases f r[i] <;> simp
theorem allOf_cut : ∀ {l : List α} (i : Nat), allOf f l = match allOf f (l.take i), allOf f (l.drop i) with | some x, some y => some (x ++ y) | _, _ => none
  | [], i => by simp [allOf]
  | a :: r, 0 => by
    simp only [List.take_zero, List.drop_zero, allOf]
    cases f a <;> cases allOf f r <;> simp
  | a :: r, i + 1 => by
    rw [List.take_succ_cons, List.drop_succ_cons, allOf, allOf, allOf_cut i]
    cases f a <;> cases allOf f (r.take i) <;> cases allOf f (r.drop i) <;> simp
theorem allOf_some {l : List α} {m : List β} (h : allOf f l = some m) {i : Nat} (hi : i < l.length) : ∃ n, f l[i] = some n ∧ ∃ p, allOf f (l.take i) = some p ∧ p.length + n.length ≤ m.length := by
  have h1 := allOf_cut (f := f) (l := l) (i + 1)
  rw [h, allOf_take hi] at h1
  cases hp : allOf f (l.take i) with
  | none => rw [hp] at h1; simp at h1
  | some p =>
    cases hn : f l[i] with
    | none => rw [hp, hn] at h1; simp at h1
    | some n =>
      refine ⟨n, rfl, p, rfl, ?_⟩
      rw [hp, hn] at h1
      cases hd : allOf f (l.drop (i + 1)) with
      | none => rw [hd] at h1; simp at h1
      | some d =>
        rw [hd] at h1
        simp only [Option.some.injEq] at h1
        subst h1
        simp
end
section
variable {W : Type} {A : Alg W} {f : Nat → Option (List W)} {l : List W}
/-- what one way of the sequence so far goes on to -/
def stepF (A : Alg W) (f : Nat → Option (List W)) (w : W) : Option (List W) := (f (A.stop w)).map fun m => m.map (A.thn w)
theorem goOn_stop {i : Nat} (hi : i < l.length) (h : f (A.stop l[i]) = none) : goOn A f l = none := by
  cases hg : goOn A f l with
  | none => rfl
  | some m =>
    obtain ⟨n, hn, -⟩ := allOf_some (most_len hg).2 hi
    rw [h] at hn; cases hn
theorem goOn_many {i : Nat} (hi : i < l.length) {n m : List W} (hn : allOf (stepF A f) (l.take i) = some n) (hm : f (A.stop l[i]) = some m) (h : 500 < n.length + m.length) : goOn A f l = none := by
  cases hg : goOn A f l with
  | none => rfl
  | some k =>
    obtain ⟨n', hn', p, hp, hl⟩ := allOf_some (most_len hg).2 hi
    have := (most_len hg).1
    have hp' : allOf (stepF A f) (l.take i) = some p := hp
    rw [hp'] at hn
    cases hn
    rw [hm] at hn'
    cases hn'
    rw [List.length_map] at hl
    omega
theorem goOn_all {n : List W} (hn : allOf (stepF A f) l = some n) (h : n.length ≤ 500) : goOn A f l = some n := by
  show most (allOf (stepF A f) l) = _
  rw [hn]; exact most_some h
theorem step_take {i : Nat} (hi : i < l.length) {n m : List W} (hn : allOf (stepF A f) (l.take i) = some n) (hm : f (A.stop l[i]) = some m) :
    allOf (stepF A f) (l.take (i + 1)) = some (n ++ m.map (A.thn l[i])) := by
  rw [allOf_take hi, hn]
  unfold stepF
  rw [hm]
  rfl
end
section
variable {W : Type} (A : Alg W) (S : Str)
theorem openedL_take {subs : List Nd} {i : Nat} (hi : i < subs.length) : openedL (subs.take (i + 1)) = openedL (subs.take i) + opened subs[i] := by
  rw [List.take_succ_eq_append_getElem hi, openedL_append, openedL_one]
theorem openedL_take_le (subs : List Nd) (i : Nat) : openedL (subs.take i) ≤ openedL subs := by
  conv => rhs; rw [← List.take_append_drop i subs, openedL_append]
  omega
theorem openedL_at {subs : List Nd} {i : Nat} (hi : i < subs.length) : openedL (subs.take i) + opened subs[i] ≤ openedL subs := by
  rw [← openedL_take hi]
  exact openedL_take_le _ _
theorem wyAlt_take : ∀ {subs : List Nd} {i : Nat} (hi : i < subs.length) (g p : Nat), wyAlt A S (subs.take (i + 1)) g p = match wyAlt A S (subs.take i) g p, wy A S subs[i] (g + openedL (subs.take i)) p with | some x, some y => some (x ++ y) | _, _ => none
  | [], i, hi, g, p => absurd hi (by simp)
  | a :: r, 0, hi, g, p => by
    simp only [List.take_succ_cons, List.take_zero, wyAlt, List.getElem_cons_zero, openedL, Nat.add_zero]
    cases wy A S a g p <;> simp
  | a :: r, i + 1, hi, g, p => by
    have hi' : i < r.length := by simpa using hi
    have ih := wyAlt_take (subs := r) (i := i) hi' (g + opened a) p
    rw [List.take_succ_cons, wyAlt, ih, List.take_succ_cons, wyAlt, openedL, ← Nat.add_assoc]
    simp only [List.getElem_cons_succ]
    cases wy A S a g p <;> cases wyAlt A S (r.take i) (g + opened a) p <;> cases wy A S r[i] (g + opened a + openedL (r.take i)) p <;> simp
/-- the sequence from its i-th part on -/
def catFrom (subs : List Nd) (g i : Nat) (l : List W) : Option (List W) := wyCat A S (subs.drop i) (g + openedL (subs.take i)) l
theorem catFrom_zero (subs : List Nd) (g : Nat) (l : List W) : catFrom A S subs g 0 l = wyCat A S subs g l := by
  simp [catFrom, openedL]
theorem catFrom_end (subs : List Nd) (g : Nat) (l : List W) : catFrom A S subs g subs.length l = some l := by
  simp [catFrom, wyCat]
theorem catFrom_none {subs : List Nd} {g i : Nat} {l : List W} (hi : i < subs.length) (h : goOn A (fun q => wy A S subs[i] (g + openedL (subs.take i)) q) l = none) : catFrom A S subs g i l = none := by
  unfold catFrom
  rw [List.drop_eq_getElem_cons hi, wyCat, h]
theorem catFrom_some {subs : List Nd} {g i : Nat} {l m : List W} (hi : i < subs.length) (h : goOn A (fun q => wy A S subs[i] (g + openedL (subs.take i)) q) l = some m) : catFrom A S subs g i l = catFrom A S subs g (i + 1) m := by
  unfold catFrom
  rw [List.drop_eq_getElem_cons hi, wyCat, h, openedL_take hi, Nat.add_assoc]
end

/-! What fits -/
structure Fit (t : Nd) : Prop where
  shaped : (look t).shaped = true
  firm : (look t).firm = true
theorem Fit.subs {k : Int} {set : List Rg} {lo hi : Int} {lazy : Bool} {subs : List Nd} (h : Fit (.mk k set lo hi lazy subs)) : ∀ s ∈ subs, Fit s := by
  have h1 := h.shaped
  have h2 := h.firm
  rw [look_shaped, Bool.and_eq_true, List.all_eq_true] at h1
  rw [look_firm, Bool.and_eq_true, List.all_eq_true] at h2
  exact fun s hs => ⟨h1.2 s hs, h2.1 s hs⟩
theorem Fit.shape {k : Int} {set : List Rg} {lo hi : Int} {lazy : Bool} {subs : List Nd} (h : Fit (.mk k set lo hi lazy subs)) : shapedN (.mk k set lo hi lazy subs) = true := by
  have h1 := h.shaped
  rw [look_shaped, Bool.and_eq_true] at h1
  exact h1.1
theorem Fit.kind {k : Int} {set : List Rg} {lo hi : Int} {lazy : Bool} {subs : List Nd} (h : Fit (.mk k set lo hi lazy subs)) :
    k = 1 ∨ (k = 2 ∧ rgsOk set = true ∧ subs = []) ∨ k = 3 ∨ k = 4 ∨ (k = 5 ∧ ∃ s, subs = [s] ∧ 0 ≤ lo ∧ lo ≤ 1000 ∧ (hi = -1 ∨ lo ≤ hi ∧ hi ≤ 1000) ∧ ((look s).nullable = true → 0 ≤ hi ∧ hi ≤ 1)) ∨ (k = 6 ∧ ∃ s, subs = [s]) := by
  have h1 := h.shape
  have h2 := h.firm
  rw [shapedN] at h1
  by_cases k5 : k = 5
  · subst k5
    simp only [if_true, Bool.and_eq_true, decide_eq_true_eq, Bool.or_eq_true] at h1
    obtain ⟨⟨⟨⟨a, b⟩, c⟩, d⟩, e⟩ := h1
    obtain ⟨s, rfl⟩ := List.length_eq_one_iff.1 e
    refine .inr (.inr (.inr (.inr (.inl ⟨rfl, s, rfl, a, b, c, fun hn => ?_⟩))))
    rw [look_firm] at h2
    simp [hn] at h2
    rcases c with c | c
    · exact absurd c h2.2.1
    · exact ⟨by omega, h2.2.2⟩
  · rw [if_neg k5, Bool.and_eq_true] at h1
    have h3 := h1.2
    by_cases k1 : k = 1
    · exact .inl k1
    rw [if_neg k1] at h3
    by_cases k2 : k = 2
    · rw [if_pos k2, Bool.and_eq_true, decide_eq_true_eq] at h3
      exact .inr (.inl ⟨k2, h3.1, h3.2⟩)
    rw [if_neg k2] at h3
    by_cases k34 : k = 3 ∨ k = 4
    · rcases k34 with k3 | k4
      · exact .inr (.inr (.inl k3))
      · exact .inr (.inr (.inr (.inl k4)))
    rw [if_neg k34] at h3
    by_cases k6 : k = 6
    · rw [if_pos k6, Bool.and_eq_true, decide_eq_true_eq, decide_eq_true_eq] at h3
      obtain ⟨s, hs⟩ := List.length_eq_one_iff.1 h3.2
      exact .inr (.inr (.inr (.inr (.inr ⟨k6, s, hs⟩))))
    · rw [if_neg k6] at h3; cases h3
end Go.Proofs.Wy

/- Trees in memory, as memory goes on. -/
namespace Go.Proofs.Wy
open Go Go.RowKit Go.Proofs.Mem

theorem RowGo {N M X : Nat → Prop} {w w' : World} {v : Value} {n sz : Nat} {cs : List Value} (h : Row N w v n sz cs) (k : Kept X w w') (hd : ∀ b, b < w.heap.size → N b → ¬ X b ∧ M b) : Row M w' v n sz cs := by
  refine ⟨h.len, ?_⟩
  rcases h.at_ with h0 | ⟨b, off, cap, rfl, h1, h2, h3, h4, h5⟩
  · exact .inl h0
  · refine .inr ⟨b, off, cap, rfl, h1, h2, (hd b h4 h3).2, k.lt h4, fun j hj => ?_⟩
    rw [← h5 j hj]
    exact World.cell?_of_block (k.block b h4 (hd b h4 h3).1)
theorem RgsGo {N M X : Nat → Prop} {w w' : World} {v : Value} {l : List Rg} (h : RgsAt N w v l) (k : Kept X w w') (hd : ∀ b, b < w.heap.size → N b → ¬ X b ∧ M b) : RgsAt M w' v l := ⟨RowGo h.row k hd, h.ok, h.small⟩
mutual
theorem NdAt.go {N M X : Nat → Prop} {w w' : World} (k : Kept X w w') (hd : ∀ b, b < w.heap.size → N b → ¬ X b ∧ M b) : ∀ {t : Nd} {cs : List Value}, NdAt N w t cs → NdAt M w' t cs
  | .mk kd set lo hi lazy subs, cs, h => by
    rw [NdAt] at h ⊢
    obtain ⟨sv, uv, ucs, h1, h2, h3, h4, h5, h6, h7⟩ := h
    exact ⟨sv, uv, ucs, h1, h2, h3, h4, RgsGo h5 k hd, RowGo h6 k hd, NdsAt.go k hd h7⟩
theorem NdsAt.go {N M X : Nat → Prop} {w w' : World} (k : Kept X w w') (hd : ∀ b, b < w.heap.size → N b → ¬ X b ∧ M b) : ∀ {l : List Nd} {cs : List Value}, NdsAt N w l cs → NdsAt M w' l cs
  | [], cs, h => h
  | s :: r, cs, h => by
    rw [NdsAt] at h ⊢
    obtain ⟨a, b, h1, h2, h3⟩ := h
    exact ⟨a, b, h1, NdAt.go k hd h2, NdsAt.go k hd h3⟩
end
theorem nodesL_append : ∀ a b : List Nd, nodesL (a ++ b) = nodesL a + nodesL b
  | [], b => by simp [nodesL]
  | s :: r, b => by rw [List.cons_append, nodesL, nodesL_append r b, nodesL]; omega
theorem nodesL_one (t : Nd) : nodesL [t] = nodes t := by simp [nodesL]
theorem nodesL_take {subs : List Nd} {i : Nat} (hi : i < subs.length) : nodesL (subs.take (i + 1)) = nodesL (subs.take i) + nodes subs[i] := by
  rw [List.take_succ_eq_append_getElem hi, nodesL_append, nodesL_one]
theorem nodesL_take_le (subs : List Nd) (i : Nat) : nodesL (subs.take i) ≤ nodesL subs := by
  conv => rhs; rw [← List.take_append_drop i subs, nodesL_append]
  omega
theorem nodesL_at {subs : List Nd} {i : Nat} (hi : i < subs.length) : nodesL (subs.take i) + nodes subs[i] ≤ nodesL subs := by
  rw [← nodesL_take hi]
  exact nodesL_take_le _ _
end Go.Proofs.Wy

/- An append to a row of one's own, of whatever length (none too), out of whatever slice (nil too): the row that it was appended to still reads as it did. -/
namespace Go.Proofs.Grow
open Go Go.RowKit

section
variable {P : Program} {w : World} {base : Nat} {e : TypeId} {i : TypeInfo} {z : Value} {size bytes : Nat}

/-- a source's cells: a slice that is nil (then it is empty), or cells behind an address -/
def SrcAt (w : World) (x : Value) (m : Nat) (news : List Value) : Prop :=
  (∃ c, x = .slice none 0 c ∧ m = 0 ∧ news = []) ∨ ∃ a c, x = .slice (some a) m c ∧ ∀ j u, news[j]? = some u → w.cell? (a.add j) = some u

theorem fresh_row (hz : z.cells.size = size) {xs : List Value} {n cap : Nat} (hl : xs.length = n * size) (hb : base ≤ w.heap.size) (hn : n ≤ cap) (hc : cap ≤ maxLen) :
    (w.drew.alloc (.cells (xs.toArray ++ Builtin.zeroCells z.cells (cap - n)) e)).ownsRow base e size (.slice (some ⟨w.heap.size, 0, none⟩) n cap) n xs := by
  refine ⟨hl, .inr ⟨w.heap.size, cap, _, rfl, hb, heap_alloc_new w.drew _, hn, hc, ?_, ?_⟩⟩
  · simp only [Array.size_append, List.size_toArray, size_zeroCells, hz, hl]
    rw [← Nat.add_mul]
    congr 1
    omega
  · simp only [Array.toList_append]
    rw [← hl]
    exact List.take_left

theorem row_old {v : Value} {n : Nat} {xs : List Value} (h : w.ownsRow base e size v n xs) (o : Obj) : (w.drew.alloc o).ownsRow base e size v n xs := by
  refine ⟨h.1, ?_⟩
  rcases h.2 with hn | ⟨g, c, cur, rfl, hb, hg, rest⟩
  · exact .inl hn
  · exact .inr ⟨g, c, cur, rfl, hb, (Below.heap_alloc w.drew o g (Array.getElem?_eq_some_iff.1 hg).1).trans hg, rest⟩

theorem run_append_row (t ty : TypeId) (ht : P.underlying t = some (.slice e)) (hi : P.info? e = some i) (hz : i.zero = some z) (hsize : i.size = size) (hby : i.bytes = bytes) (hzs : z.cells.size = size)
    (v : Value) (n : Nat) (xs : List Value) (hown : w.ownsRow base e size v n xs) (x : Value) (m : Nat) (news : List Value) (hx : SrcAt w x m news) (hl : news.length = m * size) (h1 : ∀ u ∈ news, u.oneCell' = true)
    (h63 : n + m ≤ maxLen) (hbytes : (n + m) * bytes ≤ 140737488355328) (hbase : base ≤ w.heap.size) :
    ∃ v' w', (Builtin.append_ #[t, t] ty #[v, x]).run P w = .ok v' w' ∧ w'.ownsRow base e size v' (n + m) (xs ++ news) ∧ w.grownBy w' v.ownBlock ∧
      (v'.ownBlock = v.ownBlock ∨ v'.ownBlock = some w.heap.size) ∧ w'.ownsRow base e size v n xs := by
  subst hsize hby
  rcases hx with ⟨c, rfl, rfl, rfl⟩ | ⟨a, c, rfl, hnews⟩
  · refine ⟨v, w, ?_, by simpa using hown, ⟨rfl, rfl, rfl, Nat.le_refl _, fun _ _ _ => rfl⟩, .inl rfl, hown⟩
    rcases hown.2 with ⟨rfl, rfl⟩ | ⟨g, cap, cur, rfl, -, hg, hnc, -, hcs, -⟩
    · simp [Builtin.append_, run_underlying ht, sizeOf, typeInfo, hi, Builtin.lenOf, Builtin.firstCells]
    · have hs := Src.ofNil (P := P) w (size := i.size) ht c
      have hr := run_append_room_src (P := P) w t t ty e i ht hi g 0 n cap _ 0 [] hs (by simpa using hnc) (fun j hj => by simp at hj) (fun j hj => by simp at hj)
      rw [hr]
      rfl
  · have hlen : (xs ++ news).length = (n + m) * i.size := by rw [List.length_append, hown.1, hl, Nat.add_mul]
    have hsm : ((n + m : Nat) : Int) ≤ 9223372036854775807 := by simp only [maxLen] at h63; omega
    have new : ∀ old, old < n + m → ∀ row : Option Nat, ∃ v' w',
        Result.ok (.slice (some ⟨w.heap.size, 0, none⟩) (n + m) (grownCap w (n + m) old e)) (w.drew.alloc (.cells ((xs ++ news).toArray ++ Builtin.zeroCells z.cells (grownCap w (n + m) old e - (n + m))) e)) = (.ok v' w' : Result Value) ∧
        w'.ownsRow base e i.size v' (n + m) (xs ++ news) ∧ w.grownBy w' row ∧ (v'.ownBlock = v.ownBlock ∨ v'.ownBlock = some w.heap.size) ∧ w'.ownsRow base e i.size v n xs := fun old ho row =>
      ⟨_, _, rfl, fresh_row hzs hlen hbase (grownCap_ge w (n + m) old e) (grownCap_le_maxLen w (n + m) old e h63), ⟨rfl, rfl, rfl, by simp, fun k hk _ => Below.heap_alloc w.drew _ k hk⟩, .inr rfl, row_old hown _⟩
    rcases hown.2 with ⟨rfl, rfl⟩ | ⟨g, cap, cur, rfl, hbg, hg, hnc, hcm, hcs, htake⟩
    · obtain rfl : xs = [] := List.eq_nil_of_length_eq_zero (by simpa using hown.1)
      by_cases hm : m = 0
      · subst hm
        obtain rfl : news = [] := List.eq_nil_of_length_eq_zero (by simpa using hl)
        refine ⟨.slice none 0 0, w, ?_, by simpa using hown, ⟨rfl, rfl, rfl, Nat.le_refl _, fun _ _ _ => rfl⟩, .inl rfl, hown⟩
        simp [Builtin.append_, run_underlying ht, sizeOf, typeInfo, hi, Builtin.lenOf, Builtin.firstCells, loadCells, loadCellsFrom]
      · have hr := run_append_nil (P := P) w t ty e i z ht hi hz a m c news hl hnews (by omega) (by omega) (by have hb := hbytes; simp only [Nat.zero_add] at hb; omega)
        rw [hr]
        simpa using new 0 (by omega) (Value.slice none 0 0).ownBlock
    · by_cases hroom : n + m ≤ cap
      · have hfit : n * i.size + news.length ≤ cur.size := by rw [hl, hcs, ← Nat.add_mul]; exact Nat.mul_le_mul_right _ hroom
        have hr := run_append_room (P := P) w t ty e i ht hi g n cap cur hg a m c news hl hnews h1 hroom hfit
        have hxl : (cur.toList.take (n * i.size)).length = n * i.size := by rw [htake]; exact hown.1
        refine ⟨_, _, hr, ⟨hlen, .inr ⟨g, cap, _, rfl, hbg, setRow_heap w g cur _ e _ hg, hroom, hcm, ?_, ?_⟩⟩, ⟨rfl, rfl, rfl, by simp, fun k _ hk => setRow_other w g k _ (fun e => hk (by simp [Value.ownBlock, e]))⟩, .inl rfl,
          ⟨hown.1, .inr ⟨g, cap, _, rfl, hbg, setRow_heap w g cur _ e _ hg, hnc, hcm, ?_, ?_⟩⟩⟩
        · simp only [List.size_toArray, List.length_append, List.length_take, List.length_drop, Array.length_toList]
          omega
        · rw [htake, ← hlen]
          exact List.take_left
        · simp only [List.size_toArray, List.length_append, List.length_take, List.length_drop, Array.length_toList]
          omega
        · show List.take (n * i.size) (cur.toList.take (n * i.size) ++ news ++ cur.toList.drop (n * i.size + news.length)) = xs
          rw [List.append_assoc, List.take_append_of_le_length (by omega), List.take_of_length_le (by omega)]
          exact htake
      · have hr := run_append_grow (P := P) w t ty e i z ht hi hz ⟨g, 0, none⟩ n cap xs hown.1 (hown.cells (g := g) rfl) a m c news hl hnews (by omega) hsm (growslice_fits (by omega) hbytes)
        rw [hr]
        have := new cap (by omega) (Value.slice (some ⟨g, 0, none⟩) n cap).ownBlock
        simpa using this

theorem wp_append_row {o : Oper} {a : Act} {K : Act → World → Prop} {Q : Exit → Act → World → Prop} (s x : Operand) (t : TypeId)
    (ho : o.op = .call { callee := .builtin .append, args := #[s, x], argTypes := #[t, t] })
    (ht : P.underlying t = some (.slice e)) (hi : P.info? e = some i) (hz : i.zero = some z) (hsize : i.size = size) (hby : i.bytes = bytes) (hzs : z.cells.size = size)
    (v : Value) (n : Nat) (xs : List Value) (hs : a.eval s = v) (hown : w.ownsRow base e size v n xs) (y : Value) (m : Nat) (news : List Value) (hx : a.eval x = y) (hy : SrcAt w y m news) (hl : news.length = m * size) (h1 : ∀ u ∈ news, u.oneCell' = true)
    (h63 : n + m ≤ maxLen) (hbytes : (n + m) * bytes ≤ 140737488355328) (hbase : base ≤ w.heap.size)
    (h : ∀ v' w', w'.ownsRow base e size v' (n + m) (xs ++ news) → w.grownBy w' v.ownBlock → (v'.ownBlock = v.ownBlock ∨ v'.ownBlock = some w.heap.size) → w'.ownsRow base e size v n xs → K (a.put o.dst v') w') : o.wp P a w K Q := by
  obtain ⟨v', w', hr, h2, h3, h4, h5⟩ := run_append_row (P := P) t o.type ht hi hz hsize hby hzs v n xs hown y m news hy hl h1 h63 hbytes hbase
  unfold Oper.wp execOp
  simp only [ho, resolve, invoke, builtin, Sem.run_bind, Sem.run_pure, Result.andThen_ok, List.map_toArray, List.map_cons, List.map_nil, hs, hx, hr]
  exact h v' w' h2 h3 h4 h5

theorem wpList_append_row {ops : Array Oper} {rest : List Oper} {o : Oper} {a : Act} {Q : Exit → Act → World → Prop} (hgd : o.guard = none) (s x : Operand) (t : TypeId)
    (ho : o.op = .call { callee := .builtin .append, args := #[s, x], argTypes := #[t, t] })
    (ht : P.underlying t = some (.slice e)) (hi : P.info? e = some i) (hz : i.zero = some z) (hsize : i.size = size) (hby : i.bytes = bytes) (hzs : z.cells.size = size)
    (v : Value) (n : Nat) (xs : List Value) (hs : a.eval s = v) (hown : w.ownsRow base e size v n xs) (y : Value) (m : Nat) (news : List Value) (hx : a.eval x = y) (hy : SrcAt w y m news) (hl : news.length = m * size) (h1 : ∀ u ∈ news, u.oneCell' = true)
    (h63 : n + m ≤ maxLen) (hbytes : (n + m) * bytes ≤ 140737488355328) (hbase : base ≤ w.heap.size)
    (h : ∀ v' w', w'.ownsRow base e size v' (n + m) (xs ++ news) → w.grownBy w' v.ownBlock → (v'.ownBlock = v.ownBlock ∨ v'.ownBlock = some w.heap.size) → w'.ownsRow base e size v n xs → wpList P ops Q rest (a.put o.dst v') w') : wpList P ops Q (o :: rest) a w :=
  wpList_plain hgd fun _ hK => wp_append_row s x t ho ht hi hz hsize hby hzs v n xs hs hown y m news hx hy hl h1 h63 hbytes hbase fun v' w' h2 h3 h4 h5 => hK _ _ (h v' w' h2 h3 h4 h5)

end
end Go.Proofs.Grow

/- A pile of trees in memory: a row of one's own that is appended to, cut, and written over; no tree lies in its block. -/
namespace Go.Proofs.Wy
open Go Go.RowKit Go.Proofs.Mem Go.Proofs.Grow

theorem grownK {w w' : World} {row : Option Nat} (h : w.grownBy w' row) : Kept (fun b => row = some b) w w' :=
  ⟨h.os, h.tape, h.output, h.size, fun k hk hx => h.block k hk (fun e => hx e.symm)⟩
theorem ownGo {X : Nat → Prop} {w w' : World} {base sz n : Nat} {e : TypeId} {v : Value} {xs : List Value} (h : w.ownsRow base e sz v n xs) (k : Kept X w w') (hx : ∀ g, v.ownBlock = some g → ¬ X g) : w'.ownsRow base e sz v n xs := by
  refine ⟨h.1, ?_⟩
  rcases h.2 with hn | ⟨g, c, cur, rfl, hb, hg, rest⟩
  · exact .inl hn
  · exact .inr ⟨g, c, cur, rfl, hb, (k.block g (Array.getElem?_eq_some_iff.1 hg).1 (hx g rfl)).trans hg, rest⟩
theorem ownSlice {w : World} {base sz n : Nat} {e : TypeId} {v : Value} {xs : List Value} (h : w.ownsRow base e sz v n xs) : ∃ o c, v = .slice o n c := by
  rcases h.2 with ⟨rfl, rfl⟩ | ⟨g, c, cur, rfl, _⟩
  · exact ⟨_, _, rfl⟩
  · exact ⟨_, _, rfl⟩
/-- the row's first elements -/
theorem ownTake {w : World} {base sz n c g m : Nat} {e : TypeId} {xs : List Value} (h : w.ownsRow base e sz (.slice (some ⟨g, 0, none⟩) n c) n xs) (hm : m ≤ n) :
    w.ownsRow base e sz (.slice (some ⟨g, 0, none⟩) m c) m (xs.take (m * sz)) := by
  have hl := h.1
  refine ⟨?_, ?_⟩
  · rw [List.length_take, hl]
    have := Nat.mul_le_mul_right sz hm
    omega
  rcases h.2 with ⟨he, -⟩ | ⟨g', c', cur, he, hb, hg, hnc, hcm, hsz, ht⟩
  · cases he
  · simp only [Value.slice.injEq, Option.some.injEq, Addr.mk.injEq, and_true, true_and] at he
    obtain ⟨rfl, rfl⟩ := he
    refine .inr ⟨g, c, cur, rfl, hb, hg, by omega, hcm, hsz, ?_⟩
    have := Nat.mul_le_mul_right sz hm
    rw [← ht, List.take_take, Nat.min_eq_left this]
/-- a row of one's own may be read -/
theorem rowOwn {N : Nat → Prop} {w : World} {base sz n : Nat} {e : TypeId} {v : Value} {cs : List Value} (h : w.ownsRow base e sz v n cs) (hN : ∀ g, v.ownBlock = some g → N g) : Row N w v n sz cs := by
  refine ⟨h.1, ?_⟩
  rcases h.2 with ⟨rfl, h0⟩ | ⟨g, cap, cur, rfl, hb, hg, hnc, hcm, -, -⟩
  · exact .inl ⟨h0, none, 0, rfl⟩
  · refine .inr ⟨g, 0, cap, rfl, hnc, hcm, hN g rfl, (Array.getElem?_eq_some_iff.1 hg).1, fun j hj => ?_⟩
    rw [Nat.zero_add]
    exact h.cellAt _ (by rw [← h.1]; exact hj)

/-- trees in a row of one's own -/
structure PlAt (T : TypeId) (B : Nat) (w : World) (v : Value) (l : List Nd) : Prop where
  row : ∃ cs, w.ownsRow B T 6 v l.length cs ∧ NdsAt (fun b => v.ownBlock ≠ some b ∧ B ≤ b) w l cs
section
variable {T : TypeId} {B : Nat} {w w' : World} {v v' : Value} {l : List Nd}
theorem PlAt.nil : PlAt T B w (.slice none 0 0) [] := ⟨[], World.ownsRow_nil _ _ _ _, by rw [NdsAt]⟩
theorem PlAt.slice (h : PlAt T B w v l) : ∃ o c, v = .slice o l.length c := by
  obtain ⟨cs, h1, -⟩ := h.row
  exact ownSlice h1
theorem PlAt.go {X : Nat → Prop} (h : PlAt T B w v l) (k : Kept X w w') (hX : ∀ b, b < w.heap.size → ¬ X b) : PlAt T B w' v l := by
  obtain ⟨cs, h1, h2⟩ := h.row
  exact ⟨cs, ownGo h1 k (fun g hg => hX g (h1.lt g hg).2), NdsAt.go k (fun b hb hn => ⟨hX b hb, hn⟩) h2⟩
theorem PlAt.below (h : PlAt T B w v l) (k : Below w.heap.size w w') : PlAt T B w' v l :=
  h.go (Kept.of_below k (fun _ => False)) (fun _ _ => id)
theorem PlAt.at_ (h : PlAt T B w v l) (hl : l ≠ []) : ∃ g c, v = .slice (some ⟨g, 0, none⟩) l.length c ∧ B ≤ g ∧ g < w.heap.size ∧ l.length ≤ c ∧ c ≤ maxLen := by
  obtain ⟨cs, h1, -⟩ := h.row
  rcases h1.2 with ⟨rfl, h0⟩ | ⟨g, cap, cur, rfl, hb, hg, hnc, hcm, -, -⟩
  · exact absurd (List.eq_nil_of_length_eq_zero h0) hl
  · exact ⟨g, cap, rfl, hb, (Array.getElem?_eq_some_iff.1 hg).1, hnc, hcm⟩
/-- one more: what was appended -/
theorem PlAt.more {x : Nd} {cs xs : List Value} (hr : w.ownsRow B T 6 v l.length cs) (hn : NdsAt (fun b => v.ownBlock ≠ some b ∧ B ≤ b) w l cs) (hx : NdAt (fun b => v.ownBlock ≠ some b ∧ B ≤ b) w x xs)
    (ho : w'.ownsRow B T 6 v' (l.length + 1) (cs ++ xs)) (hg : w.grownBy w' v.ownBlock) (hv : v'.ownBlock = v.ownBlock ∨ v'.ownBlock = some w.heap.size) : PlAt T B w' v' (l ++ [x]) := by
  have k := grownK hg
  have hd : ∀ b, b < w.heap.size → (v.ownBlock ≠ some b ∧ B ≤ b) → ¬ (v.ownBlock = some b) ∧ (v'.ownBlock ≠ some b ∧ B ≤ b) := fun b hb hn => ⟨hn.1, fun e => by
    rcases hv with hv | hv
    · exact hn.1 (hv ▸ e)
    · rw [hv] at e; simp only [Option.some.injEq] at e; omega, hn.2⟩
  refine ⟨cs ++ xs, by rw [List.length_append, List.length_singleton]; exact ho, NdsAt.append (NdsAt.go k hd hn) (NdsAt.one (NdAt.go k hd hx))⟩
theorem NdsAt.take {N : Nat → Prop} {w : World} : ∀ {l : List Nd} {cs : List Value} (m : Nat), NdsAt N w l cs → NdsAt N w (l.take m) (cs.take (m * 6))
  | [], cs, m, h => by rw [NdsAt] at h; subst h; simp [NdsAt]
  | s :: r, cs, 0, h => by simp [NdsAt]
  | s :: r, cs, m + 1, h => by
    rw [NdsAt] at h
    obtain ⟨a, b, rfl, h2, h3⟩ := h
    rw [List.take_succ_cons, NdsAt]
    refine ⟨a, b.take (m * 6), ?_, h2, h3.take m⟩
    have e : (m + 1) * 6 = a.length + m * 6 := by rw [h2.six]; omega
    rw [e, List.take_length_add_append]
theorem NdsAt.drop {N : Nat → Prop} {w : World} : ∀ {l : List Nd} {cs : List Value} (m : Nat), NdsAt N w l cs → NdsAt N w (l.drop m) (cs.drop (m * 6))
  | [], cs, m, h => by rw [NdsAt] at h; subst h; simp [NdsAt]
  | s :: r, cs, 0, h => by simpa using h
  | s :: r, cs, m + 1, h => by
    rw [NdsAt] at h
    obtain ⟨a, b, rfl, h2, h3⟩ := h
    rw [List.drop_succ_cons]
    have e : (m + 1) * 6 = a.length + m * 6 := by rw [h2.six]; omega
    rw [e, List.drop_length_add_append]
    exact h3.drop m
theorem NdsAt.split {N : Nat → Prop} {w : World} {l m : List Nd} {cs : List Value} (h : NdsAt N w (l ++ m) cs) : NdsAt N w l (cs.take (l.length * 6)) ∧ NdsAt N w m (cs.drop (l.length * 6)) := by
  have h1 := h.take l.length
  have h2 := h.drop l.length
  rw [List.take_left] at h1
  rw [List.drop_left] at h2
  exact ⟨h1, h2⟩
/-- cut -/
theorem PlAt.cut {g c m : Nat} (h : PlAt T B w (.slice (some ⟨g, 0, none⟩) l.length c) l) (hm : m ≤ l.length) : PlAt T B w (.slice (some ⟨g, 0, none⟩) m c) (l.take m) := by
  obtain ⟨cs, h1, h2⟩ := h.row
  refine ⟨cs.take (m * 6), ?_, ?_⟩
  · rw [List.length_take, Nat.min_eq_left hm]; exact ownTake h1 hm
  · exact NdsAt.mono (fun b hb => hb) (h2.take m)
/-- all of them, as they may be read -/
theorem PlAt.read (h : PlAt T B w v l) : ∃ cs, Row (fun _ => True) w v l.length 6 cs ∧ NdsAt (fun _ => True) w l cs := by
  obtain ⟨cs, h1, h2⟩ := h.row
  exact ⟨cs, rowOwn h1 (fun _ _ => trivial), NdsAt.mono (fun _ _ => trivial) h2⟩
/-- the last one is written over -/
theorem set6_last (l : List Value) (a0 a1 a2 a3 a4 a5 b0 b1 b2 b3 b4 b5 : Value) {k : Nat} (hk : l.length = k) :
    ((((((l ++ [a0, a1, a2, a3, a4, a5]).set k b0).set (k + 1) b1).set (k + 2) b2).set (k + 3) b3).set (k + 4) b4).set (k + 5) b5 = l ++ [b0, b1, b2, b3, b4, b5] := by
  subst hk
  simp [List.set_append_right]
end
end Go.Proofs.Wy

/- A region whose order of evaluation is open: what acts stands in one line (each behind the one before it, by the region's own edges); all else but reads. One walk, in an order in which each reader stands as early as it can, serves every order. What has acted hands back values that are not known ahead (a list of them); what holds of the world may name them. -/
namespace Go
open RowKit

/-- j must run ahead of i -/
def bitL (ops : Array Oper) (i j : Nat) : Bool := decide (j < i) && ((Region.before ops).getD i 0).testBit j
/-- ord: all operations, each behind those that must run ahead of it; those in sp act: all behind one of them in ord must run behind it; a reader in pin runs ahead of the next one that acts; all others ahead of the last one -/
def okL (ops : Array Oper) (ord sp pin : List Nat) : Bool :=
  ((List.range ops.size).all fun i => ord.contains i) && (List.range ord.length).all fun k =>
    let i := ord.getD k 0
    !(ord.take k).contains i && ((List.range ops.size).all fun j => !bitL ops i j || (ord.take k).contains j) &&
    (if sp.contains i then ((ord.drop (k + 1)).all fun j => bitL ops j i) && ((ord.take k).all fun j => !pin.contains j || bitL ops i j) && ((ord.drop (k + 1)).any (fun j => sp.contains j) || (ord.take k).all fun j => bitL ops i j)
     else pin.contains i || (ord.drop (k + 1)).any fun j => sp.contains j)
structure AtL (ops : Array Oper) (sp pin D : List Nat) (i : Nat) (rest : List Nat) : Prop where
  fresh : i ∉ D
  topo : ∀ j, j < ops.size → bitL ops i j = true → j ∈ D
  behind : i ∈ sp → ∀ j ∈ rest, bitL ops j i = true
  pins : i ∈ sp → ∀ j ∈ D, j ∈ pin → bitL ops i j = true
  last : i ∈ sp → (∃ j ∈ rest, j ∈ sp) ∨ ∀ j ∈ D, bitL ops i j = true
  free : i ∉ sp → i ∈ pin ∨ ∃ j ∈ rest, j ∈ sp
theorem okL_at {ops : Array Oper} {ord sp pin : List Nat} (h : okL ops ord sp pin = true) {D : List Nat} {i : Nat} {rest : List Nat} (he : ord = D ++ i :: rest) : AtL ops sp pin D i rest := by
  unfold okL at h
  rw [Bool.and_eq_true] at h
  have h1 := h.2
  rw [List.all_eq_true] at h1
  have h2 := h1 D.length (List.mem_range.2 (by rw [he]; simp))
  have e1 : ord.getD D.length 0 = i := by rw [he]; simp [List.getD_eq_getElem?_getD]
  have e2 : ord.take D.length = D := by rw [he]; simp
  have e3 : ord.drop (D.length + 1) = rest := by rw [he]; simp [List.drop_append]
  simp only [e1, e2, e3, Bool.and_eq_true, Bool.not_eq_true', List.contains_eq_mem, decide_eq_false_iff_not] at h2
  obtain ⟨⟨h3, h4⟩, h5⟩ := h2
  rw [List.all_eq_true] at h4
  refine ⟨h3, fun j hj hb => ?_, fun hi => ?_, fun hi => ?_, fun hi => ?_, fun hi => ?_⟩
  · have := h4 j (List.mem_range.2 hj)
    rw [hb] at this
    simpa using this
  all_goals simp only [hi, decide_true, decide_false, if_true, if_false, Bool.false_eq_true, Bool.and_eq_true, Bool.or_eq_true, List.all_eq_true, List.any_eq_true, decide_eq_true_eq, Bool.not_eq_true', decide_eq_false_iff_not] at h5
  · exact h5.1.1
  · exact fun j hj hp => (h5.1.2 j hj).resolve_left (fun hn => hn hp)
  · exact h5.2
  · exact h5
theorem okL_all {ops : Array Oper} {ord sp pin : List Nat} (h : okL ops ord sp pin = true) {i : Nat} (hi : i < ops.size) : i ∈ ord := by
  unfold okL at h
  rw [Bool.and_eq_true] at h
  have h1 := h.1
  rw [List.all_eq_true] at h1
  simpa using h1 i (List.mem_range.2 hi)

/-- a reader's value: it leaves the world alone -/
def readAt (P : Program) (ops : Array Oper) (W : World → Prop) (o : Oper) (v : Value) (a : Act) : Prop :=
  if Region.wanted o (yielded ops a.tmps) then ∀ w, W w → ∀ K : Act → World → Prop, K (a.put o.dst v) w → o.wp P a w K (fun _ _ _ => False) else v = undef
def flowL (P : Program) (ops : Array Oper) (sp pin : List Nat) (Wb : World → Prop) (W : List Value → World → Prop) (R : List Value → Act → Prop) : List Nat → List Value → Act → Prop
  | [], L, a => R L a
  | i :: rest, L, a => ∃ o, ops[i]? = some o ∧
    if sp.contains i then Region.wanted o (yielded ops a.tmps) = true ∧ (∀ w, W L w → ∀ K : Act → World → Prop, (∀ v w', W (L ++ [v]) w' → K (a.put o.dst v) w') → o.wp P a w K (fun _ _ _ => False)) ∧
      ∀ v, (∃ w', W (L ++ [v]) w') → flowL P ops sp pin Wb W R rest (L ++ [v]) (a.put o.dst v)
    else ∃ v, readAt P ops (if pin.contains i then W L else Wb) o v a ∧ flowL P ops sp pin Wb W R rest L (a.put o.dst v)

section
variable {P : Program} {ops : Array Oper} {sp pin : List Nat} {Wb : World → Prop} {W : List Value → World → Prop} {R : List Value → Act → Prop} {rest : List Nat} {L : List Value} {i : Nat} {o : Oper} {a : Act}
theorem flowL_end (h : R L a) : flowL P ops sp pin Wb W R [] L a := h
theorem flowL_read (v : Value) (ho : ops.toList[i]? = some o) (hs : sp.contains i = false) (hp : pin.contains i = false) (hw : Region.wanted o (yielded ops a.tmps) = true)
    (h : ∀ w, Wb w → ∀ K : Act → World → Prop, K (a.put o.dst v) w → o.wp P a w K (fun _ _ _ => False)) (k : flowL P ops sp pin Wb W R rest L (a.put o.dst v)) : flowL P ops sp pin Wb W R (i :: rest) L a := by
  refine ⟨o, by simpa using ho, ?_⟩
  rw [if_neg (by rw [hs]; simp), hp]
  exact ⟨v, by unfold readAt; rw [if_pos hw]; exact h, k⟩
theorem flowL_pin (v : Value) (ho : ops.toList[i]? = some o) (hs : sp.contains i = false) (hp : pin.contains i = true) (hw : Region.wanted o (yielded ops a.tmps) = true)
    (h : ∀ w, W L w → ∀ K : Act → World → Prop, K (a.put o.dst v) w → o.wp P a w K (fun _ _ _ => False)) (k : flowL P ops sp pin Wb W R rest L (a.put o.dst v)) : flowL P ops sp pin Wb W R (i :: rest) L a := by
  refine ⟨o, by simpa using ho, ?_⟩
  rw [if_neg (by rw [hs]; simp), hp]
  exact ⟨v, by unfold readAt; rw [if_pos hw]; exact h, k⟩
theorem flowL_no (ho : ops.toList[i]? = some o) (hs : sp.contains i = false) (hw : Region.wanted o (yielded ops a.tmps) = false) (k : flowL P ops sp pin Wb W R rest L (a.put o.dst undef)) : flowL P ops sp pin Wb W R (i :: rest) L a := by
  refine ⟨o, by simpa using ho, ?_⟩
  rw [if_neg (by rw [hs]; simp)]
  exact ⟨undef, by unfold readAt; rw [if_neg (by rw [hw]; simp)], k⟩
theorem flowL_act (ho : ops.toList[i]? = some o) (hs : sp.contains i = true) (hw : Region.wanted o (yielded ops a.tmps) = true)
    (h : ∀ w, W L w → ∀ K : Act → World → Prop, (∀ v w', W (L ++ [v]) w' → K (a.put o.dst v) w') → o.wp P a w K (fun _ _ _ => False))
    (k : ∀ v, (∃ w', W (L ++ [v]) w') → flowL P ops sp pin Wb W R rest (L ++ [v]) (a.put o.dst v)) : flowL P ops sp pin Wb W R (i :: rest) L a := by
  refine ⟨o, by simpa using ho, ?_⟩
  rw [if_pos hs]
  exact ⟨hw, h, k⟩
end

namespace Flow
section
variable {P : Program} {ops : Array Oper}

theorem over_act {Q : Exit → Act → World → Prop} {G : Value → World → Prop} {o : Oper} {A a : Act} {i : Nat} {w : World} (hi : ops[i]? = some o) (hw : Region.wanted o (yielded ops A.tmps) = true)
    (h : ∀ K : Act → World → Prop, (∀ v w', G v w' → K (A.put o.dst v) w') → o.wp P A w K (fun _ _ _ => False))
    (hs : ∀ cs b, o.op ≠ .select cs b) (hz : A.tmps.size = a.tmps.size) (hn : ∀ t, t ∈ o.looksAt ops → a.tmps[t]? = A.tmps[t]?) {K : Act → World → Prop}
    (hK : ∀ v w', G v w' → K (a.put o.dst v) w') : wpOp P ops Q i K a w := by
  unfold wpOp
  simp only [hi]
  rw [wanted_same hn, if_pos hw]
  refine .inl ?_
  have h1 := h (fun x w'' => (∀ u, x = A.put o.dst u → K (a.put o.dst u) w'') ∧ x.defers = A.defers) (fun v w' hw' => ⟨fun u hu => by rw [← put_inj hz hu]; exact hK v w' hw', by cases o.dst <;> rfl⟩)
  unfold Oper.wp at h1 ⊢
  rw [exec_same hs hn]
  generalize (execOp A.eval o).run P w = r at h1
  cases r with
  | ok n w' =>
    cases n <;> simp only [Oper.upon] at h1 ⊢
    case value u => exact h1.1 u rfl
    case skip => exact h1.1 _ rfl
    case defer d =>
      have h2 := congrArg List.length h1.2
      cases hd : o.dst <;> simp [hd, Act.put] at h2
    case enter f args =>
      refine Calls.mono h1 fun e w'' he => ?_
      cases e with
      | returned u => exact he.1 u rfl
      | panicked c => exact he.elim
      | outgrown => obtain ⟨_, _, hf⟩ := he; exact hf.elim
    case row row args => exact Rows.mono h1 fun u w'' he => he.1 u rfl
  | halt x w' => cases x <;> simp only [Oper.upon] at h1 ⊢

theorem over_read {Q : Exit → Act → World → Prop} {W : World → Prop} {o : Oper} {v : Value} {A a : Act} {i : Nat} {w : World} (hi : ops[i]? = some o) (h : readAt P ops W o v A) (hw : W w)
    (hs : ∀ cs b, o.op ≠ .select cs b) (hz : A.tmps.size = a.tmps.size) (hn : ∀ t, t ∈ o.looksAt ops → a.tmps[t]? = A.tmps[t]?) {K : Act → World → Prop}
    (hK : K (a.put o.dst v) w) : wpOp P ops Q i K a w := by
  unfold readAt at h
  split at h
  · rename_i hwn
    exact over_act (G := fun u w' => u = v ∧ w' = w) hi hwn (fun K hK => h w hw K (hK v w ⟨rfl, rfl⟩)) hs hz hn (fun u w' e => by rw [e.1, e.2]; exact hK)
  · rename_i hwn
    subst h
    unfold wpOp
    simp only [hi]
    rw [wanted_same hn, if_neg hwn]
    exact hK

theorem actOf_vsL (l : List Oper) (us vs : Nat → Value) (a : Act) (S : Nat → Bool) : ∀ n, (∀ i, i < n → S i = true → us i = vs i) → actOf l us a S n = actOf l vs a S n
  | 0, _ => rfl
  | n + 1, h => by
    simp only [actOf]
    rw [actOf_vsL l us vs a S n (fun i hi => h i (by omega))]
    split
    · split
      · rename_i hs; rw [h n (by omega) hs]
      · rfl
    · rfl

theorem actOf_size (l : List Oper) (vs : Nat → Value) (a : Act) (S : Nat → Bool) : ∀ n, (actOf l vs a S n).tmps.size = a.tmps.size
  | 0 => rfl
  | n + 1 => by
    have ih := actOf_size l vs a S n
    simp only [actOf]
    split
    · split
      · rename_i p _ _; cases hp : p.dst <;> simpa [Act.put] using ih
      · exact ih
    · exact ih

theorem bitL_of {i j : Nat} (h : bitL ops i j = true) : j < i ∧ ((Region.before ops).getD i 0).testBit j = true := by
  unfold bitL at h
  simpa using h
theorem bitL_mk {i j : Nat} (h : j < i) (hb : ((Region.before ops).getD i 0).testBit j = true) : bitL ops i j = true := by
  unfold bitL
  rw [hb]
  simp [h]
/-- the temporaries that an operation names, when just what must run ahead of it has -/
theorem tmp_of (hok : flowOk ops = true) (vs : Nat → Value) (a : Act) {S : Nat → Bool} {i : Nat} {o : Oper} (ho : ops[i]? = some o) (h1 : ∀ j, bitL ops i j = true → S j = true) (h2 : ∀ j, j < ops.size → bitL ops j i = true → S j = false) (h3 : S i = false) :
    ∀ t, t ∈ o.namesF ops → (actOf ops.toList vs a S ops.size).tmps[t]? = (actAt ops.toList vs a i).tmps[t]? := by
  intro t ht
  have hil : i < ops.size := (Array.getElem?_eq_some_iff.1 ho).1
  rw [show actAt ops.toList vs a i = actAt ops.toList vs a (min ops.size i) by rw [show min ops.size i = i by omega]]
  refine actOf_tmp _ _ _ _ i t ?_ ?_ _
  · intro j p hj hp hd
    have hp' : ops[j]? = some p := by simpa using hp
    rcases ok_names hok hj hp' ho with hbit | ⟨hn, _⟩
    · exact h1 j (bitL_mk hj hbit)
    · exact absurd ht (hn t hd)
  · intro j p hj hp hd
    have hp' : ops[j]? = some p := by simpa using hp
    by_cases e : j = i
    · subst e; exact h3
    · rcases ok_names hok (show i < j by omega) ho hp' with hbit | ⟨_, hn⟩
      · exact h2 j (Array.getElem?_eq_some_iff.1 hp').1 (bitL_mk (by omega) hbit)
      · exact absurd ht (hn t hd)

structure StL (P : Program) (ops : Array Oper) (ord sp pin : List Nat) (Wb : World → Prop) (W : List Value → World → Prop) (R : List Value → Act → Prop) (a : Act) (rest D : List Nat) (vs : Nat → Value) (L : List Value) (listed : Array Bool) (w : World) : Prop where
  split : ord = D ++ rest
  size : listed.size = ops.size
  closed : ∀ j o, ops[j]? = some o → listed.getD j false = true → ∀ e ∈ o.after, Region.binds .any e = true → listed.getD e.on false = true
  sub : ∀ i, listed.getD i false = true → i ∈ D
  acts : ∀ i, i ∈ D → i ∈ sp → listed.getD i false = true
  un : ∀ i, i ∈ D → listed.getD i false = false → ∃ o D1 D2 X, ops[i]? = some o ∧ D = D1 ++ i :: D2 ∧ readAt P ops X o (vs i) (actOf ops.toList vs a (fun j => D1.contains j) ops.size) ∧ (∀ w, W L w → X w) ∧ (i ∉ pin → X = Wb)
  count : L.length + (rest.filter fun j => sp.contains j).length = (ord.filter fun j => sp.contains j).length
  flow : flowL P ops sp pin Wb W R rest L (actOf ops.toList vs a (fun j => D.contains j) ops.size)
  world : W L w

variable {ord sp pin : List Nat} {Wb : World → Prop} {W : List Value → World → Prop} {R : List Value → Act → Prop} {a : Act} {rest D : List Nat} {vs : Nat → Value} {L : List Value} {listed : Array Bool} {w : World}

theorem put_ord (hok : flowOk ops = true) (hord : okL ops ord sp pin = true) {i : Nat} {r : List Nat} (he : ord = D ++ i :: r) {o : Oper} (ho : ops[i]? = some o) (vs : Nat → Value) (a : Act) :
    actOf ops.toList vs a (fun j => (D ++ [i]).contains j) ops.size = (actOf ops.toList vs a (fun j => D.contains j) ops.size).put o.dst (vs i) := by
  have hat := okL_at hord he
  have hil : i < ops.size := (Array.getElem?_eq_some_iff.1 ho).1
  have hc : D.contains i = false := by simpa using hat.fresh
  rw [← actOf_put ops.toList vs a (fun j => D.contains j) i o (by simpa using ho) hc ops.size hil]
  · refine actOf_congr _ _ _ _ _ _ fun k _ => ?_
    by_cases e : k = i
    · subst e; simp
    · rw [if_neg e]; simp [e]
  · intro j p hij hp hj d hd hpd
    have hp' : ops[j]? = some p := by simpa using hp
    rcases ok_names hok hij ho hp' with hbit | ⟨hn, _⟩
    · have hjD : j ∈ D := by simpa using hj
      obtain ⟨E1, E2, rfl⟩ := List.append_of_mem hjD
      have := (okL_at (ops := ops) (sp := sp) (pin := pin) hord (D := E1) (i := j) (rest := E2 ++ i :: r) (by rw [he]; simp)).topo i hil (bitL_mk hij hbit)
      exact hat.fresh (by simp [this])
    · exact hn d hd (by simp [Oper.namesF, hpd])

theorem StL.read (hok : flowOk ops = true) (hord : okL ops ord sp pin = true) (hb : ∀ L w, W L w → L.length < (ord.filter fun j => sp.contains j).length → Wb w) {i : Nat} {r : List Nat}
    (h : StL P ops ord sp pin Wb W R a (i :: r) D vs L listed w) (hi : i ∉ sp) : ∃ vs', StL P ops ord sp pin Wb W R a r (D ++ [i]) vs' L listed w ∧ actOf ops.toList vs' a (fun i => listed.getD i false) ops.size = actOf ops.toList vs a (fun i => listed.getD i false) ops.size := by
  have hat := okL_at hord h.split
  have hflow := h.flow
  obtain ⟨o, ho, hf⟩ := hflow
  rw [if_neg (by simpa using hi)] at hf
  obtain ⟨v, hr, hk⟩ := hf
  have key : ∀ S : Nat → Bool, S i = false → actOf ops.toList (fun k => if k = i then v else vs k) a S ops.size = actOf ops.toList vs a S ops.size := fun S hS =>
    actOf_vsL _ _ _ _ _ _ fun j _ hj => by
      by_cases e : j = i
      · subst e; rw [hS] at hj; cases hj
      · rw [if_neg e]
  have hnl : listed.getD i false = false := by
    cases e : listed.getD i false with
    | false => rfl
    | true => exact absurd (h.sub i e) hat.fresh
  have hDi : D.contains i = false := by simpa using hat.fresh
  have hput := put_ord hok hord h.split ho (fun k => if k = i then v else vs k) a
  rw [key _ hDi, if_pos rfl] at hput
  have hcount : (r.filter fun j => sp.contains j).length = ((i :: r).filter fun j => sp.contains j).length := by
    rw [List.filter_cons_of_neg (by simpa using hi)]
  refine ⟨fun k => if k = i then v else vs k, ⟨by rw [h.split]; simp, h.size, h.closed, fun j hj => List.mem_append_left _ (h.sub j hj), fun j hj hs => ?_, fun j hj hl => ?_, by rw [hcount]; exact h.count, by rw [hput]; exact hk, h.world⟩, key _ hnl⟩
  · rcases List.mem_append.1 hj with hj | hj
    · exact h.acts j hj hs
    · simp only [List.mem_singleton] at hj; subst hj; exact absurd hs hi
  · rcases List.mem_append.1 hj with hj | hj
    · obtain ⟨p, D1, D2, X, h1, h2, h3, h4, h5⟩ := h.un j hj hl
      have hji : j ≠ i := fun e => hat.fresh (e ▸ hj)
      have hD1 : D1.contains i = false := by
        have : i ∉ D1 := fun e => hat.fresh (by rw [h2]; simp [e])
        simpa using this
      refine ⟨p, D1, D2 ++ [i], X, h1, by rw [h2]; simp, ?_, h4, h5⟩
      rw [if_neg hji, key _ hD1]
      exact h3
    · simp only [List.mem_singleton] at hj
      subst hj
      refine ⟨o, D, [], if pin.contains j then W L else Wb, ho, rfl, ?_, ?_, ?_⟩
      · rw [if_pos rfl, key _ hDi]; exact hr
      · intro w' hw'
        by_cases hp : j ∈ pin
        · rw [if_pos (by simpa using hp)]; exact hw'
        · rw [if_neg (by simpa using hp)]
          refine hb L w' hw' ?_
          obtain ⟨k, hk1, hk2⟩ := (hat.free hi).resolve_left hp
          have := h.count
          rw [← hcount] at this
          have hpos : 0 < (r.filter fun j => sp.contains j).length := List.length_pos_of_mem (List.mem_filter.2 ⟨hk1, by simpa using hk2⟩)
          omega
      · intro hp
        rw [if_neg (by simpa using hp)]

theorem StL.norm (hok : flowOk ops = true) (hord : okL ops ord sp pin = true) (hb : ∀ L w, W L w → L.length < (ord.filter fun j => sp.contains j).length → Wb w) :
    ∀ (rest D : List Nat) (vs : Nat → Value), StL P ops ord sp pin Wb W R a rest D vs L listed w →
    ∃ rest' D' vs', StL P ops ord sp pin Wb W R a rest' D' vs' L listed w ∧ actOf ops.toList vs' a (fun i => listed.getD i false) ops.size = actOf ops.toList vs a (fun i => listed.getD i false) ops.size ∧ ∀ i r, rest' = i :: r → i ∈ sp
  | [], D, vs, h => ⟨[], D, vs, h, rfl, fun _ _ e => by cases e⟩
  | i :: r, D, vs, h => by
    by_cases hi : i ∈ sp
    · exact ⟨i :: r, D, vs, h, rfl, fun j q e => by simp only [List.cons.injEq] at e; rw [← e.1]; exact hi⟩
    · obtain ⟨vs1, h1, e1⟩ := h.read hok hord hb hi
      obtain ⟨rest', D', vs', h2, e2, h3⟩ := StL.norm hok hord hb r (D ++ [i]) vs1 h1
      exact ⟨rest', D', vs', h2, e2.trans e1, h3⟩

theorem any_of_flowL {Q : Exit → Act → World → Prop} (hok : flowOk ops = true) (hord : okL ops ord sp pin = true) (hb : ∀ L w, W L w → L.length < (ord.filter fun j => sp.contains j).length → Wb w)
    (hq : ∀ L a' w', R L a' → W L w' → Q .normal a' w') :
    ∀ (fuel : Nat) (rest D : List Nat) (vs : Nat → Value) (L : List Value) (listed : Array Bool) (w : World), left listed ops.size = fuel → StL P ops ord sp pin Wb W R a rest D vs L listed w →
      wpAny P .any ops Q fuel listed (actOf ops.toList vs a (fun i => listed.getD i false) ops.size) w := by
  intro fuel
  induction fuel with
  | zero =>
    intro rest D vs L listed w hl h
    have hall := left_zero _ hl
    have hsz := h.size
    refine ⟨?_, ?_⟩
    · apply List.eq_nil_iff_forall_not_mem.2
      intro j hj
      rw [mem_ready] at hj
      obtain ⟨h0, o, ho, _⟩ := hj
      have := hall j (Array.getElem?_eq_some_iff.1 ho).1
      rw [h0] at this; cases this
    · obtain ⟨rest', D', vs', h', eact, hhead⟩ := StL.norm hok hord hb rest D vs h
      rw [← eact]
      have hnil : rest' = [] := by
        cases rest' with
        | nil => rfl
        | cons i r =>
          exfalso
          obtain ⟨o, ho, -⟩ := h'.flow
          have hil := (Array.getElem?_eq_some_iff.1 ho).1
          exact (okL_at hord h'.split).fresh (h'.sub i (by rw [← getD_of (by omega)]; exact hall i hil))
      subst hnil
      have hf := h'.flow
      rw [actOf_congr ops.toList vs' a (fun i => listed.getD i false) (fun j => D'.contains j) ops.size (fun i hi => by
        have e1 : listed.getD i false = true := by rw [← getD_of (by omega)]; exact hall i hi
        rw [e1]
        have := h'.sub i e1
        simpa using this)]
      exact hq L _ w hf h'.world
  | succ fuel ih =>
    intro rest D vs L listed w hl h0
    obtain ⟨rest, D, vs', h, eact, hhead⟩ := StL.norm hok hord hb rest D vs h0
    rw [← eact]
    clear eact h0 vs
    have hsz := h.size
    have hcl := h.closed
    refine ⟨?_, ?_⟩
    · intro hnil
      exfalso
      obtain ⟨i, h1, h2, h3⟩ := left_pos _ (show 0 < left listed ops.size by omega)
      have ho : ops[i]? = some ops[i] := Array.getElem?_eq_getElem h1
      have : i ∈ Region.ready .any ops listed := by
        rw [mem_ready]
        refine ⟨h2, _, ho, fun e he hb => ?_⟩
        have hlt := ok_back hok ho e he hb
        rw [← getD_of (by omega)]
        exact h3 _ hlt
      rw [hnil] at this
      cases this
    · intro i hi
      rw [mem_ready] at hi
      obtain ⟨hi0, o, ho, hdeps⟩ := hi
      have hil : i < ops.size := (Array.getElem?_eq_some_iff.1 ho).1
      have hol : ops.toList[i]? = some o := by simpa using ho
      have h0' : listed.getD i false = false := by rw [← getD_of (by omega)]; exact hi0
      have hcl' : ∀ j p, ops[j]? = some p → (if j = i then true else listed.getD j false) = true → ∀ e ∈ p.after, Region.binds .any e = true → (if e.on = i then true else listed.getD e.on false) = true := by
        intro j p hj hs e he hb
        by_cases e1 : e.on = i
        · rw [if_pos e1]
        · rw [if_neg e1]
          by_cases e2 : j = i
          · subst e2; rw [ho] at hj; cases hj; exact hdeps e he hb
          · rw [if_neg e2] at hs; exact hcl j p hj hs e he hb
      have hb1 : ∀ j, bitL ops i j = true → listed.getD j false = true := by
        intro j hbit
        obtain ⟨hj, hbit⟩ := bitL_of hbit
        have := ok_before hok (S := fun k => if k = i then true else listed.getD k false) hcl' i j hj hil hbit (by simp)
        simpa [show j ≠ i by omega] using this
      have hb2 : ∀ j, j < ops.size → bitL ops j i = true → listed.getD j false = false := by
        intro j hjl hbit
        obtain ⟨hj, hbit⟩ := bitL_of hbit
        cases hs : listed.getD j false with
        | false => rfl
        | true =>
          have := ok_before hok (S := fun k => listed.getD k false) hcl j i hj hjl hbit hs
          rw [h0'] at this; cases this
      have hlater : ∀ j p, i < j → ops.toList[j]? = some p → listed.getD j false = true → ∀ d, o.dst = some d → p.dst ≠ some d := by
        intro j p hj hp hs d hd hpd
        have hp' : ops[j]? = some p := by simpa using hp
        rcases ok_names hok hj ho hp' with hbit | ⟨hn, _⟩
        · have := hb2 j (Array.getElem?_eq_some_iff.1 hp').1 (bitL_mk hj hbit)
          rw [hs] at this; cases this
        · exact hn d hd (by simp [Oper.namesF, hpd])
      have hsame : ∀ vs, actOf ops.toList vs a (fun k => (listed.setIfInBounds i true).getD k false) ops.size = (actOf ops.toList vs a (fun k => listed.getD k false) ops.size).put o.dst (vs i) := by
        intro vs
        rw [← actOf_put ops.toList vs a (fun k => listed.getD k false) i o hol h0' ops.size hil hlater]
        refine actOf_congr _ _ _ _ _ _ fun k _ => ?_
        by_cases e : k = i
        · subst e; simp [hsz, hil]
        · rw [if_neg e, getD_set_ne false (Ne.symm e)]
      have hleft : left (listed.setIfInBounds i true) ops.size = fuel := by
        have := left_set (by omega) hi0 ops.size
        rw [if_pos hil] at this
        omega
      have hset : ∀ j, (listed.setIfInBounds i true).getD j false = true → j = i ∨ listed.getD j false = true := by
        intro j hj
        by_cases e : j = i
        · exact .inl e
        · rw [getD_set_ne false (Ne.symm e)] at hj; exact .inr hj
      have hclosed : ∀ j p, ops[j]? = some p → (listed.setIfInBounds i true).getD j false = true → ∀ e ∈ p.after, Region.binds .any e = true → (listed.setIfInBounds i true).getD e.on false = true := by
        intro j p hj hs e he hb
        by_cases e2 : j = i
        · subst e2; rw [ho] at hj; cases hj; exact getD_set_true (hdeps e he hb)
        · rw [getD_set_ne false (Ne.symm e2)] at hs
          exact getD_set_true (hcl j p hj hs e he hb)
      by_cases hiD : i ∈ D
      · -- a reader that was met before
        obtain ⟨p, D1, D2, X, k1, k2, k3, k4, k5⟩ := h.un i hiD h0'
        rw [ho] at k1
        simp only [Option.some.injEq] at k1
        subst k1
        have hat := okL_at (ops := ops) (sp := sp) (pin := pin) hord (D := D1) (i := i) (rest := D2 ++ rest) (by rw [h.split, k2]; simp)
        refine over_read ho k3 (k4 w h.world) (ok_sel hok ho) (by rw [actOf_size, actOf_size]) (fun t ht => ?_) ?_
        · have ht' : t ∈ o.namesF ops := by simp [Oper.namesF, ht]
          rw [tmp_of hok vs' a ho hb1 hb2 h0' t ht', tmp_of hok vs' a ho (S := fun j => D1.contains j) (fun j hj => ?_) (fun j hjl hj => ?_) (by simpa using hat.fresh) t ht']
          · have := hat.topo j (by have := (bitL_of hj).1; omega) hj
            simpa using this
          · cases e : D1.contains j with
            | false => rfl
            | true =>
              exfalso
              have hj1 : j ∈ D1 := by simpa using e
              obtain ⟨E1, E2, rfl⟩ := List.append_of_mem hj1
              have := (okL_at (ops := ops) (sp := sp) (pin := pin) hord (D := E1) (i := j) (rest := E2 ++ i :: (D2 ++ rest)) (by rw [h.split, k2]; simp)).topo i hil hj
              exact hat.fresh (by simp [this])
        · rw [← hsame]
          refine ih rest D vs' L _ w hleft ⟨h.split, by simp [hsz], hclosed, fun j hj => (hset j hj).elim (fun e => e ▸ hiD) (h.sub j), fun j hj hs => getD_set_true (h.acts j hj hs), fun j hj hu => h.un j hj ?_, h.count, h.flow, h.world⟩
          cases e : listed.getD j false with
          | false => rfl
          | true => rw [getD_set_true e] at hu; cases hu
      · -- it must be the next one that acts
        have hmem := okL_all hord hil
        rw [h.split] at hmem
        have hir : i ∈ rest := (List.mem_append.1 hmem).resolve_left hiD
        have hsplit := h.split
        have hflow := h.flow
        have hcount := h.count
        obtain ⟨s, r, hrest⟩ : ∃ s r, rest = s :: r := by
          cases rest with
          | nil => cases hir
          | cons s r => exact ⟨s, r, rfl⟩
        have hs := hhead s r hrest
        subst hrest
        have hat := okL_at hord hsplit
        have his : i = s := by
          rcases List.mem_cons.1 hir with e | e
          · exact e
          · exfalso
            have := hb1 s (hat.behind hs i e)
            exact hat.fresh (h.sub s this)
        subst his
        obtain ⟨p, hp, hf⟩ := hflow
        rw [ho] at hp
        simp only [Option.some.injEq] at hp
        subst hp
        rw [if_pos (by simpa using hs)] at hf
        obtain ⟨hw1, hw2, hw3⟩ := hf
        have hDi : D.contains i = false := by simpa using hat.fresh
        refine over_act (G := fun v w' => W (L ++ [v]) w') ho hw1 (fun K hK => hw2 w h.world K hK) (ok_sel hok ho) (by rw [actOf_size, actOf_size]) (fun t ht => ?_) (fun v w' hw' => ?_)
        · have ht' : t ∈ o.namesF ops := by simp [Oper.namesF, ht]
          rw [tmp_of hok vs' a ho hb1 hb2 h0' t ht', tmp_of hok vs' a ho (S := fun j => D.contains j) (fun j hj => ?_) (fun j hjl hj => ?_) hDi t ht']
          · have := hat.topo j (by have := (bitL_of hj).1; omega) hj
            simpa using this
          · cases e : D.contains j with
            | false => rfl
            | true =>
              exfalso
              have hj1 : j ∈ D := by simpa using e
              obtain ⟨E1, E2, rfl⟩ := List.append_of_mem hj1
              have := (okL_at (ops := ops) (sp := sp) (pin := pin) hord (D := E1) (i := j) (rest := E2 ++ i :: r) (by rw [hsplit]; simp)).topo i hil hj
              exact hat.fresh (by simp [this])
        · have key : ∀ S : Nat → Bool, S i = false → actOf ops.toList (fun k => if k = i then v else vs' k) a S ops.size = actOf ops.toList vs' a S ops.size := fun S hS =>
            actOf_vsL _ _ _ _ _ _ fun j _ hj => by
              by_cases e : j = i
              · subst e; rw [hS] at hj; cases hj
              · rw [if_neg e]
          have hput := put_ord hok hord hsplit ho (fun k => if k = i then v else vs' k) a
          rw [key _ hDi, if_pos rfl] at hput
          have hsm := hsame (fun k => if k = i then v else vs' k)
          rw [key (fun k => listed.getD k false) h0', if_pos rfl] at hsm
          rw [← hsm]
          refine ih r (D ++ [i]) _ (L ++ [v]) _ w' hleft ⟨by rw [hsplit]; simp, by simp [hsz], hclosed, fun j hj => (hset j hj).elim (fun e => by simp [e]) (fun e => List.mem_append_left _ (h.sub j e)), fun j hj hsj => ?_, fun j hj hu => ?_, ?_, by rw [hput]; exact hw3 v ⟨w', hw'⟩, hw'⟩
          · rcases List.mem_append.1 hj with hj | hj
            · exact getD_set_true (h.acts j hj hsj)
            · simp only [List.mem_singleton] at hj; subst hj
              simp [hsz, hil]
          · have hjne : j ≠ i := fun e => by
              subst e
              simp [hsz, hil] at hu
            have hjD : j ∈ D := (List.mem_append.1 hj).resolve_right (by simpa using hjne)
            have hju : listed.getD j false = false := by
              cases e : listed.getD j false with
              | false => rfl
              | true => rw [getD_set_true e] at hu; cases hu
            obtain ⟨p, D1, D2, X, k1, k2, k3, k4, k5⟩ := h.un j hjD hju
            have hjp : j ∉ pin := fun hp => by
              have := hb1 j (hat.pins hs j hjD hp)
              rw [hju] at this; cases this
            have hX := k5 hjp
            subst hX
            have hD1 : D1.contains i = false := by
              have : i ∉ D1 := fun e => hat.fresh (by rw [k2]; simp [e])
              simpa using this
            refine ⟨p, D1, D2 ++ [i], _, k1, by rw [k2]; simp, ?_, fun w2 hw2 => hb _ _ hw2 ?_, fun _ => rfl⟩
            · rw [if_neg hjne, key _ hD1]
              exact k3
            · rcases hat.last hs with ⟨m, hm1, hm2⟩ | hlast
              · have hpos : 0 < (r.filter fun j => sp.contains j).length := List.length_pos_of_mem (List.mem_filter.2 ⟨hm1, by simpa using hm2⟩)
                rw [List.filter_cons_of_pos (by simpa using hs), List.length_cons] at hcount
                rw [List.length_append, List.length_singleton]
                omega
              · have := hb1 j (hlast j hjD)
                rw [hju] at this; cases this
          · rw [List.filter_cons_of_pos (by simpa using hs), List.length_cons] at hcount
            rw [List.length_append, List.length_singleton]
            omega
end
end Flow

theorem wp_flowL {P : Program} {id : Nat} {ops : Array Oper} {Q : Exit → Act → World → Prop} {a : Act} {w : World} (hm : P.follows .mixedOrders = true) (hok : flowOk ops = true)
    (ord sp pin : List Nat) (hord : okL ops ord sp pin = true) (Wb : World → Prop) (W : List Value → World → Prop)
    (hb : ∀ L w, W L w → L.length < (ord.filter fun j => sp.contains j).length → Wb w) (hw : W [] w.drew)
    (h : flowL P ops sp pin Wb W (fun L a' => ∀ w', W L w' → Q .normal a' w') ord [] a) : (Code.region id ops true).wp P Q a w := by
  refine wp_region_any hm ?_
  have h3 := Flow.any_of_flowL (P := P) (W := W) (R := fun L a' => ∀ w', W L w' → Q .normal a' w') (Q := Q) (a := a) hok hord hb (fun L a' w' h1 h2 => h1 w' h2) ops.size ord [] (fun _ => undef) [] (Array.replicate ops.size false) w.drew
    (by
      have : ∀ n, n ≤ ops.size → Flow.left (Array.replicate ops.size false) n = n := by
        intro n
        induction n with
        | zero => intro _; rfl
        | succ n ih =>
          intro hn
          simp only [Flow.left]
          rw [ih (by omega)]
          have : (Array.replicate ops.size false).getD n true = false := by simp [show n < ops.size by omega]
          rw [this]; rfl
      exact this _ (Nat.le_refl _))
    ⟨rfl, by simp, (by
      intro j o _ hs
      exfalso
      by_cases hj : j < ops.size
      · simp [hj] at hs
      · simp [hj] at hs), (by
      intro j hs
      exfalso
      by_cases hj : j < ops.size
      · simp [hj] at hs
      · simp [hj] at hs), (fun i hi => by cases hi), (fun i hi => by cases hi), by simp, (by
      rw [Flow.actOf_none _ _ _ _ _ (fun i _ => by simp)]
      exact h), hw⟩
  rw [Flow.actOf_none _ _ _ _ _ (fun i hi => by simp [hi])] at h3
  exact h3

end Go
