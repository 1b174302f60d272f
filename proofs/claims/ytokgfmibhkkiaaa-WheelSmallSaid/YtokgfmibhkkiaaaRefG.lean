/- The reference's members as a row; its Change (Answer and Handle). -/
import Derived.Test.YtokgfmibhkkiaaaRefF
import Derived.Test.YtokgfmibhkkiaaaMoved
namespace Go.Proofs.Ytokgfmibhkkiaaa
open Go.RowKit Wh Tw Mem Grow

/-- the reference's members, behind a slice -/
def RowAt (w : World) (ob : Option Addr) (cap : Nat) (l : List Mb) : Prop := w.ownsRow 0 118 6 (.slice ob l.length cap) l.length (flatC l)

theorem flatC_len (l : List Mb) : (flatC l).length = l.length * 6 := by
  unfold flatC
  induction l with
  | nil => rfl
  | cons x r ih => simp only [List.map_cons, List.flatMap_cons, List.length_append, ih, List.length_cons]; simp [cellsC]; omega
theorem flatC_at (l : List Mb) (k i : Nat) (hk : k < l.length) (hi : i < 6) : (flatC l)[k * 6 + i]? = (cellsC (core l[k]))[i]? := by
  have := flat_at (f := fun m => cellsC (core m)) (n := 6) (fun x => rfl) l k i hk hi
  unfold flatC
  rw [List.flatMap_map]
  exact this
theorem RowAt.memb {w : World} {ob : Option Addr} {cap : Nat} {l : List Mb} (h : RowAt w ob cap l) : MembAt w ob (l.map core) := by
  intro k hk
  have hk' : k < l.length := by simpa using hk
  unfold RowAt at h
  rcases slice_form h with ⟨e, h0, -⟩ | ⟨g, c, e, -, hg⟩
  · omega
  · simp only [Value.slice.injEq, true_and] at e
    obtain ⟨rfl, rfl⟩ := e
    have key : ∀ i, i < 6 → w.cell? ⟨g, k * 6 + i, none⟩ = (cellsC (core l[k]))[i]? := fun i hi => by
      rw [h.cellAt (k * 6 + i) (by omega)]
      exact flatC_at l k i hk' hi
    rw [show (l.map core)[k] = core l[k] from List.getElem_map ..]
    exact ⟨g, rfl, hg, key 0 (by omega), key 1 (by omega), key 2 (by omega), key 3 (by omega), key 4 (by omega), key 5 (by omega)⟩
theorem RowAt.below {w w' : World} {ob : Option Addr} {cap : Nat} {l : List Mb} (h : RowAt w ob cap l) (hb : Below w.heap.size w w') : RowAt w' ob cap l := own_below h hb
theorem own_weak {w : World} {b b' : Nat} {e : TypeId} {s : Nat} {v : Value} {n : Nat} {xs : List Value} (h : w.ownsRow b e s v n xs) (hb : b' ≤ b) : w.ownsRow b' e s v n xs := ownsRow_base_a h hb
theorem own_set {w : World} {base : Nat} {e : TypeId} {size g n cap : Nat} {xs : List Value} (h : w.ownsRow base e size (.slice (some ⟨g, 0, none⟩) n cap) n xs) {i : Nat} (u : Value) :
    (w.setCell ⟨g, i, none⟩ u).ownsRow base e size (.slice (some ⟨g, 0, none⟩) n cap) n (xs.set i u) := by
  refine ⟨by rw [List.length_set]; exact h.1, ?_⟩
  rcases h.2 with ⟨e, -⟩ | ⟨g', c', cur, e, hb, hg, hn, hc, hs, ht⟩
  · cases e
  · simp only [Value.slice.injEq, Option.some.injEq, Addr.mk.injEq, true_and, and_true] at e
    obtain ⟨rfl, rfl⟩ := e
    refine .inr ⟨g, cap, cur.setIfInBounds i u, rfl, hb, ?_, hn, hc, by simpa using hs, ?_⟩
    · simp [World.setCell, Array.getElem?_modify, hg]
    · rw [Array.toList_setIfInBounds, List.take_set, ht]

theorem set6 : ∀ (l : List Mb) (k : Nat) (c : Mb) (_ : k < l.length),
    ((((((flatC l).set (k * 6) (.int .i64 c.id)).set (k * 6 + 1) (.int .i64 c.plan.every)).set (k * 6 + 2) (.int .i64 c.plan.offset)).set (k * 6 + 3) (.int .i64 c.plan.timeout)).set (k * 6 + 4) (.int .u8 c.phase.state)).set (k * 6 + 5) (.int .i64 c.phase.since) = flatC (l.set k c)
  | [], k, c, hk => by simp at hk
  | x :: r, 0, c, _ => by simp [flatC, cellsC, core]
  | x :: r, k + 1, c, hk => by
    have ih := set6 r k c (by simpa using hk)
    have e : flatC (x :: r) = cellsC (core x) ++ flatC r := by simp [flatC]
    have e2 : flatC ((x :: r).set (k + 1) c) = cellsC (core x) ++ flatC (r.set k c) := by simp [flatC]
    rw [e, e2, ← ih]
    have e3 : ∀ j, (k + 1) * 6 + j = (k * 6 + j) + 1 + 1 + 1 + 1 + 1 + 1 := fun j => by omega
    have e4 : (k + 1) * 6 = (k * 6) + 1 + 1 + 1 + 1 + 1 + 1 := by omega
    rw [e3 1, e3 2, e3 3, e3 4, e3 5, e4]
    simp only [cellsC, List.cons_append, List.nil_append, List.set_cons_succ]
theorem set_setM {l : List Mb} (hl : Ids l) {k : Nat} (hk : k < l.length) {ph : Phase} : l.set k (setP l[k] ph) = setM l l[k].id ph := by
  refine List.ext_getElem (by simp [setM]) fun j h1 h2 => ?_
  simp only [setM, List.getElem_map]
  rw [List.getElem_set]
  have hj : j < l.length := by simpa using h1
  by_cases e : k = j
  · subst e
    rw [if_pos rfl, if_pos rfl]
  · rw [if_neg e, if_neg]
    intro e2
    have : ∀ (a b : Nat) (ha : a < l.length) (hb : b < l.length), a < b → l[a].id < l[b].id := fun a b ha hb hab => (List.pairwise_iff_getElem.1 hl) a b ha hb hab
    rcases Nat.lt_or_gt_of_ne e with g | g
    · have := this k j hk hj g; omega
    · have := this j k hj hk g; omega

/-- Find, at members -/
theorem rfindM {w : World} {ob : Option Addr} {cap : Nat} {l : List Mb} (h : RowAt w ob cap l) (hl : Ids l) (now id : Int) (hlen : l.length ≤ 10000) :
    Calls Try.prog 59 #[.agg #[.int .i64 now, .slice ob l.length cap], .int .i64 id] w fun e w' => Below w.heap.size w w' ∧
      ((findM l id = none ∧ e = .returned (.int .i64 (-1))) ∨ ∃ (k : Nat) (hk : k < l.length), findM l id = some l[k] ∧ l[k].id = id ∧ e = .returned (.int .i64 k)) := by
  have hr := rfind_any h.memb now cap id (by simpa using (by omega : l.length ≤ 1000000))
  suffices hs : Calls Try.prog 59 #[.agg #[.int .i64 now, .slice ob (l.map core).length cap], .int .i64 id] w fun e w' => Below w.heap.size w w' ∧
      ((findM l id = none ∧ e = .returned (.int .i64 (-1))) ∨ ∃ (k : Nat) (hk : k < l.length), findM l id = some l[k] ∧ l[k].id = id ∧ e = .returned (.int .i64 k)) by
    rwa [List.length_map] at hs
  refine hr.mono ?_
  rintro e w' ⟨r, rfl, hb, hc⟩
  refine ⟨hb, ?_⟩
  rcases hc with ⟨rfl, hn⟩ | ⟨k, hk, rfl, he, -⟩
  · refine .inl ⟨?_, rfl⟩
    unfold findM
    rw [List.find?_eq_none]
    intro m hm
    obtain ⟨j, hj, rfl⟩ := List.getElem_of_mem hm
    have := hn j (by simpa using hj)
    simpa [core] using this
  · have hk' : k < l.length := by simpa using hk
    have he' : l[k].id = id := by simpa [core] using he
    refine .inr ⟨k, hk', ?_, he', rfl⟩
    subst he'
    exact findM_at hl (List.getElem_mem hk')
theorem rfind_no {w : World} {ob : Option Addr} {cap : Nat} {l : List Mb} (h : RowAt w ob cap l) (hl : Ids l) (now id : Int) (hlen : l.length ≤ 10000) (hm : findM l id = none) :
    Calls Try.prog 59 #[.agg #[.int .i64 now, .slice ob l.length cap], .int .i64 id] w fun e w' => e = .returned (.int .i64 (-1)) ∧ Below w.heap.size w w' := by
  refine (rfindM h hl now id hlen).mono ?_
  rintro e w' ⟨hb, ⟨-, rfl⟩ | ⟨k, hk, h1, -⟩⟩
  · exact ⟨rfl, hb⟩
  · rw [hm] at h1; cases h1
theorem id_inj {l : List Mb} (hl : Ids l) {a b : Nat} (ha : a < l.length) (hb : b < l.length) (e : l[a].id = l[b].id) : a = b := by
  have key : ∀ (a b : Nat) (ha : a < l.length) (hb : b < l.length), a < b → l[a].id < l[b].id := fun a b ha hb hab => (List.pairwise_iff_getElem.1 hl) a b ha hb hab
  rcases Nat.lt_trichotomy a b with g | g | g
  · have := key a b ha hb g; omega
  · exact g
  · have := key b a hb ha g; omega
theorem rfind_yes {w : World} {ob : Option Addr} {cap : Nat} {l : List Mb} (h : RowAt w ob cap l) (hl : Ids l) (now id : Int) (hlen : l.length ≤ 10000) {k : Nat} (hk : k < l.length) (hid : l[k].id = id) :
    Calls Try.prog 59 #[.agg #[.int .i64 now, .slice ob l.length cap], .int .i64 id] w fun e w' => e = .returned (.int .i64 k) ∧ Below w.heap.size w w' := by
  refine (rfindM h hl now id hlen).mono ?_
  rintro e w' ⟨hb, ⟨h1, -⟩ | ⟨j, hj, -, h2, rfl⟩⟩
  · have := findM_none h1 _ (List.getElem_mem hk)
    exact absurd hid this
  · obtain rfl := id_inj hl hj hk (h2.trans hid.symm)
    exact ⟨rfl, hb⟩

set_option maxHeartbeats 1000000 in
theorem rchange_none {w : World} {ob : Option Addr} {cap : Nat} {l : List Mb} (h : RowAt w ob cap l) (hl : Ids l) (now id fr tt : Int) (hlen : l.length ≤ 10000) (hm : findM l id = none) :
    Calls Try.prog 45 #[.agg #[.int .i64 now, .slice ob l.length cap], .int .i64 id, .int .u8 fr, .int .u8 tt] w fun e w' => e = .returned (.tuple #[.agg #[.int .i64 now, .slice ob l.length cap], .int .i64 0, .int .i64 6]) ∧ Below w.heap.size w w' := by
  have hb2 : Below w.heap.size w ((w.alloc (.cells #[.int .i64 now, .slice ob l.length cap] 92)).alloc (.cells #[.int .i64 0, .slice none 0 0] 92)) := ((Below.refl _ _).alloc (Nat.le_refl _) _).alloc (by simp) _
  have B0 : Blk ((w.alloc (.cells #[.int .i64 now, .slice ob l.length cap] 92)).alloc (.cells #[.int .i64 0, .slice none 0 0] 92)) w.heap.size #[.int .i64 now, .slice ob l.length cap] 92 := (Blk.new w _ 92).alloc _
  have B1 : Blk ((w.alloc (.cells #[.int .i64 now, .slice ob l.length cap] 92)).alloc (.cells #[.int .i64 0, .slice none 0 0] 92)) (w.heap.size + 1) #[.int .i64 0, .slice none 0 0] 92 := Blk.new' (w := w.alloc _) _ 92 (by simp)
  have hf := rfind_no (h.below hb2) hl now id hlen hm
  have HF := Lib.hid hf
  have HB0 := Lib.hid B0
  have HB1 := Lib.hid B1
  clear hf h B0 B1 hm hl
  go_enter Try.func45, Try.ntmps45
  go_wp2_with (first | (go_at_call 59; refine HF.out.mono ?_; rintro e w' ⟨rfl, hb⟩; obtain ⟨x0, x1, x2, x3⟩ := (HB0.out.below hb (by simp; omega)).two; obtain ⟨y0, y1, y2, y3⟩ := (HB1.out.below hb (by simp)).two; have hbw := hb2.trans (hb.mono (by simp; omega))))
  refine bodyPost_ret (v := .tuple #[.agg #[.int .i64 now, .slice ob l.length cap], .int .i64 0, .int .i64 6]) ?_ rfl ⟨rfl, ?_⟩
  · simp [results, Try.results45, go_sem, y0, y1]
  · exact (hbw.setCell (by show w.heap.size ≤ w.heap.size + 1; omega) _).setCell (by show w.heap.size ≤ w.heap.size + 1; omega) _

set_option maxHeartbeats 2000000 in
set_option maxRecDepth 100000 in
theorem rchange_no {w : World} {ob : Option Addr} {cap : Nat} {l : List Mb} (h : RowAt w ob cap l) (hl : Ids l) (now id fr tt : Int) (hlen : l.length ≤ 10000) {k : Nat} (hk : k < l.length) (hid : l[k].id = id) (hs : l[k].phase.state ≠ fr) :
    Calls Try.prog 45 #[.agg #[.int .i64 now, .slice ob l.length cap], .int .i64 id, .int .u8 fr, .int .u8 tt] w fun e w' => e = .returned (.tuple #[.agg #[.int .i64 now, .slice ob l.length cap], .int .i64 0, .int .i64 291]) ∧ Below w.heap.size w w' := by
  have hb2 : Below w.heap.size w ((w.alloc (.cells #[.int .i64 now, .slice ob l.length cap] 92)).alloc (.cells #[.int .i64 0, .slice none 0 0] 92)) := ((Below.refl _ _).alloc (Nat.le_refl _) _).alloc (by simp) _
  have B0 : Blk ((w.alloc (.cells #[.int .i64 now, .slice ob l.length cap] 92)).alloc (.cells #[.int .i64 0, .slice none 0 0] 92)) w.heap.size #[.int .i64 now, .slice ob l.length cap] 92 := (Blk.new w _ 92).alloc _
  have B1 : Blk ((w.alloc (.cells #[.int .i64 now, .slice ob l.length cap] 92)).alloc (.cells #[.int .i64 0, .slice none 0 0] 92)) (w.heap.size + 1) #[.int .i64 0, .slice none 0 0] 92 := Blk.new' (w := w.alloc _) _ 92 (by simp)
  have HF := Lib.hid (rfind_yes (h.below hb2) hl now id hlen hk hid)
  have HB0 := Lib.hid B0
  have HB1 := Lib.hid B1
  obtain ⟨g, hob, hg, c0, c1, c2, c3, c4, c5⟩ := h.memb k (by simpa using hk)
  simp only [List.getElem_map, core] at c0 c1 c2 c3 c4 c5
  have hne : (l[k].phase.state != fr) = true := by simp [hs]
  obtain ⟨m, hm⟩ : ∃ m, m = l[k] := ⟨_, rfl⟩
  rw [← hm] at c0 c1 c2 c3 c4 c5 hne
  subst hob
  have hkl : (k : Int) < l.length := by omega
  clear h B0 B1 hl hid hs hm
  go_enter Try.func45, Try.ntmps45
  go_wp2_with (first | (go_at_call 59; refine HF.out.mono ?_; rintro e w' ⟨rfl, hb⟩; have B0 := (HB0.out.below hb (by simp; omega)); have B1 := (HB1.out.below hb (by simp)); obtain ⟨x0, x1, x2, x3⟩ := B0.two; obtain ⟨y0, y1, y2, y3⟩ := B1.two; have z0 := fun O => ((B0.alloc O).two).1; have z1 := fun O => ((B0.alloc O).two).2.1; have u0 := fun O => ((B1.alloc O).two).1; have u1 := fun O => ((B1.alloc O).two).2.1; have u2 := fun O => (B1.alloc O).frozen 0; have u3 := fun O => (B1.alloc O).frozen 1; have t0 := fun O => (((B1.set 0 (.int .i64 now)).set 1 (.slice (some ⟨g, 0, none⟩) l.length cap)).alloc O).two.1; have t1 := fun O => (((B1.set 0 (.int .i64 now)).set 1 (.slice (some ⟨g, 0, none⟩) l.length cap)).alloc O).two.2.1; have hbw := hb2.trans (hb.mono (by simp; omega)); have d0 := (hbw.cell (p := ⟨g, k * 6, none⟩) hg).trans c0; have d1 := (hbw.cell (p := ⟨g, k * 6 + 1, none⟩) hg).trans c1; have d2 := (hbw.cell (p := ⟨g, k * 6 + 2, none⟩) hg).trans c2; have d3 := (hbw.cell (p := ⟨g, k * 6 + 3, none⟩) hg).trans c3; have d4 := (hbw.cell (p := ⟨g, k * 6 + 4, none⟩) hg).trans c4; have d5 := (hbw.cell (p := ⟨g, k * 6 + 5, none⟩) hg).trans c5; have hbz := hbw.size; have hlt1 := B1.lt; clear B0 B1 c0 c1 c2 c3 c4 c5))
  refine bodyPost_ret (v := .tuple #[.agg #[.int .i64 now, .slice (some ⟨g, 0, none⟩) l.length cap], .int .i64 0, .int .i64 291]) ?_ rfl ⟨rfl, ?_⟩
  · simp [results, Try.results45, go_sem, t0, t1]
  · exact ((hbw.setCell (by show w.heap.size ≤ w.heap.size + 1; omega) _).setCell (by show w.heap.size ≤ w.heap.size + 1; omega) _).alloc (by simpa [World.setCell] using hbz) _
end Go.Proofs.Ytokgfmibhkkiaaa
