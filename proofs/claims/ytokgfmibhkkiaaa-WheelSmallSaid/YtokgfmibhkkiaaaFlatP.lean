/- Slices that share no memory, filled with marks, and appended to: the state of gaugerkit.flatInts, said without its walk. -/
import Derived.Test.YtokgfmibhkkiaaaProg
import Derived.Test.YtokgfmibhkkiaaaMem
import Derived.Test.YtokgfmibhkkiaaaGrow
namespace Go.Proofs.Flat
open Go Go.RowKit Mem Grow

/-- a slice's value -/
structure Sl where
  ob : Option Addr
  n : Nat
  cap : Nat
def Sl.val (s : Sl) : Value := .slice s.ob s.n s.cap
def bk (s : Sl) : Option Nat := s.val.ownBlock
/-- the mark of element i of slice k -/
def mrk (k i : Nat) : Int := 1000003 * ((k : Int) + 7) + (i : Int)

section
variable (E : TypeId) (B : TypeId)
/-- s owns a row (of elements of type E, one cell each); its elements i with D i are the marks of slice j. -/
def RowP (w : World) (s : Sl) (D : Nat → Prop) (j : Nat) : Prop := ∃ xs, w.ownsRow 0 E 1 s.val s.n xs ∧ ∀ i, i < s.n → D i → xs[i]? = some (.int .i64 (mrk j i))

variable {E B} {w w' : World} {s : Sl} {D : Nat → Prop} {j : Nat}
theorem own_blk {b0 : Nat} {e : TypeId} {sz : Nat} {v : Value} {n : Nat} {xs : List Value} (h : w.ownsRow b0 e sz v n xs) {b : Nat} (hb : v.ownBlock = some b) : ∃ cur, w.heap[b]? = some (.cells cur e (0, 0)) := by
  rcases h.2 with ⟨rfl, -⟩ | ⟨g, c, cur, rfl, -, hg, -⟩
  · simp [Value.ownBlock] at hb
  · simp [Value.ownBlock] at hb; subst hb; exact ⟨cur, hg⟩
theorem own_keep {b0 : Nat} {e : TypeId} {sz : Nat} {v : Value} {n : Nat} {xs : List Value} {X : Nat → Prop} (h : w.ownsRow b0 e sz v n xs) (k : Kept X w w') (hx : ∀ b, v.ownBlock = some b → ¬ X b) : w'.ownsRow b0 e sz v n xs := by
  refine ⟨h.1, ?_⟩
  rcases h.2 with hn | ⟨g, c, cur, rfl, hb, hg, rest⟩
  · exact .inl hn
  · exact .inr ⟨g, c, cur, rfl, hb, (k.block g (Array.getElem?_eq_some_iff.1 hg).1 (hx g rfl)).trans hg, rest⟩
theorem RowP.keep {X : Nat → Prop} (h : RowP E w s D j) (k : Kept X w w') (hx : ∀ b, bk s = some b → ¬ X b) : RowP E w' s D j := by
  obtain ⟨xs, ho, hd⟩ := h
  exact ⟨xs, own_keep ho k hx, hd⟩
theorem RowP.mono {D' : Nat → Prop} (h : RowP E w s D j) (hd : ∀ i, i < s.n → D' i → D i) : RowP E w s D' j := by
  obtain ⟨xs, ho, h2⟩ := h
  exact ⟨xs, ho, fun i hi hD => h2 i hi (hd i hi hD)⟩
theorem RowP.lt (h : RowP E w s D j) {b : Nat} (hb : bk s = some b) : b < w.heap.size := by
  obtain ⟨xs, ho, -⟩ := h
  exact (ho.lt b hb).2
theorem RowP.form (h : RowP E w s D j) (hn : 0 < s.n) : ∃ g, s.ob = some ⟨g, 0, none⟩ ∧ bk s = some g := by
  obtain ⟨xs, ho, -⟩ := h
  rcases ho.2 with ⟨-, h0⟩ | ⟨g, c, cur, e, -⟩
  · omega
  · unfold Sl.val at e
    simp only [Value.slice.injEq] at e
    exact ⟨g, e.1, by unfold bk Sl.val; rw [e.1]; rfl⟩
theorem RowP.cap (h : RowP E w s D j) : s.n ≤ s.cap := by
  obtain ⟨xs, ho, -⟩ := h
  rcases ho.2 with ⟨-, h0⟩ | ⟨g, c, cur, e, -, -, hn, -⟩
  · omega
  · unfold Sl.val at e
    simp only [Value.slice.injEq] at e
    omega
theorem RowP.cell (h : RowP E w s D j) {i : Nat} (hi : i < s.n) : ∃ g v, s.ob = some ⟨g, 0, none⟩ ∧ bk s = some g ∧ g < w.heap.size ∧ w.cell? ⟨g, i, none⟩ = some v ∧ w.frozen? ⟨g, i, none⟩ = false ∧ (D i → v = .int .i64 (mrk j i)) := by
  obtain ⟨g, hob, hbk⟩ := h.form (by omega)
  obtain ⟨xs, ho, hd⟩ := h
  have hv : s.val = .slice (some ⟨g, 0, none⟩) s.n s.cap := by unfold Sl.val; rw [hob]
  rw [hv] at ho
  have hlen := ho.1
  have hx : i < xs.length := by omega
  refine ⟨g, xs[i], hob, hbk, (ho.lt g rfl).2, ?_, ho.frozenAt i, fun hD => ?_⟩
  · rw [ho.cellAt i (by omega)]; simp [hx]
  · have := hd i hi hD
    simpa [hx] using this
theorem own_put {base : Nat} {e : TypeId} {size g n cap : Nat} {xs : List Value} (h : w.ownsRow base e size (.slice (some ⟨g, 0, none⟩) n cap) n xs) {i : Nat} (u : Value) :
    (w.setCell ⟨g, i, none⟩ u).ownsRow base e size (.slice (some ⟨g, 0, none⟩) n cap) n (xs.set i u) := by
  refine ⟨by rw [List.length_set]; exact h.1, ?_⟩
  rcases h.2 with ⟨e, -⟩ | ⟨g', c', cur, e, hb, hg, hn, hc, hs, ht⟩
  · cases e
  · simp only [Value.slice.injEq, Option.some.injEq, Addr.mk.injEq, true_and, and_true] at e
    obtain ⟨rfl, rfl⟩ := e
    refine .inr ⟨g, cap, cur.setIfInBounds i u, rfl, hb, ?_, hn, hc, by simpa using hs, ?_⟩
    · simp [World.setCell, Array.getElem?_modify, hg]
    · rw [Array.toList_setIfInBounds, List.take_set, ht]
/-- one mark more -/
theorem RowP.put (h : RowP E w s D j) {g : Nat} (hg : s.ob = some ⟨g, 0, none⟩) {i : Nat} (hi : i < s.n) : RowP E (w.setCell ⟨g, i, none⟩ (.int .i64 (mrk j i))) s (fun q => D q ∨ q = i) j := by
  obtain ⟨xs, ho, hd⟩ := h
  have hv : s.val = .slice (some ⟨g, 0, none⟩) s.n s.cap := by unfold Sl.val; rw [hg]
  rw [hv] at ho
  refine ⟨xs.set i (.int .i64 (mrk j i)), by rw [hv]; exact own_put ho _, fun q hq hD => ?_⟩
  have hlen := ho.1
  by_cases e : i = q
  · subst e
    rw [List.getElem?_set_self (by omega)]
  · rw [List.getElem?_set_ne e]
    rcases hD with hD | hD
    · exact hd q hq hD
    · exact absurd hD.symm e

/-- A row under another one of the same block: what is appended to the longer one leaves it. -/
theorem own_under {e : TypeId} {g n c m d : Nat} {xs ys : List Value} (A : w.ownsRow 0 e 1 (.slice (some ⟨g, 0, none⟩) n c) n xs) (C : w.ownsRow 0 e 1 (.slice (some ⟨g, 0, none⟩) m d) m ys) (hn : n ≤ m)
    (C' : w'.ownsRow 0 e 1 (.slice (some ⟨g, 0, none⟩) m d) m ys) : w'.ownsRow 0 e 1 (.slice (some ⟨g, 0, none⟩) n c) n xs := by
  refine ⟨A.1, ?_⟩
  rcases A.2 with ⟨e1, -⟩ | ⟨g1, c1, cur1, e1, hb1, hg1, hn1, hc1, hs1, ht1⟩
  · cases e1
  rcases C.2 with ⟨e2, -⟩ | ⟨g2, c2, cur2, e2, hb2, hg2, hn2, hc2, hs2, ht2⟩
  · cases e2
  rcases C'.2 with ⟨e3, -⟩ | ⟨g3, c3, cur3, e3, hb3, hg3, hn3, hc3, hs3, ht3⟩
  · cases e3
  simp only [Value.slice.injEq, Option.some.injEq, Addr.mk.injEq, true_and, and_true] at e1 e2 e3
  obtain ⟨rfl, rfl⟩ := e1
  obtain ⟨rfl, rfl⟩ := e2
  obtain ⟨rfl, rfl⟩ := e3
  rw [hg1] at hg2
  simp at hg2
  subst hg2
  have hcd : c = d := by omega
  subst hcd
  refine .inr ⟨g, c, cur3, rfl, hb1, hg3, hn1, hc1, hs3, ?_⟩
  have h1 : cur3.toList.take (n * 1) = (cur3.toList.take (m * 1)).take (n * 1) := by rw [List.take_take, Nat.min_eq_left (by omega)]
  have h2 : cur1.toList.take (n * 1) = (cur1.toList.take (m * 1)).take (n * 1) := by rw [List.take_take, Nat.min_eq_left (by omega)]
  rw [h1, ht3, ← ht2, ← h2, ht1]

/-- what an append to s has made of the world: s' is longer; the slice r under s is as it was. -/
theorem RowP.more {r : Sl} {xs : List Value} (hr : RowP E w r D j) (ho : w.ownsRow 0 E 1 s.val s.n xs) (hg : w.grownBy w' s.val.ownBlock)
    (hold : w'.ownsRow 0 E 1 s.val s.n xs) (hn : r.n ≤ s.n) : RowP E w' r D j := by
  obtain ⟨ys, hy, hd⟩ := hr
  refine ⟨ys, ?_, hd⟩
  by_cases e : r.val.ownBlock = none ∨ r.val.ownBlock ≠ s.val.ownBlock
  · exact hy.kept hg e
  · have e1 : r.val.ownBlock = s.val.ownBlock := Classical.byContradiction fun h => e (.inr h)
    have e2 : r.val.ownBlock ≠ none := fun h => e (.inl h)
    obtain ⟨g, hg1⟩ := Option.ne_none_iff_exists'.1 e2
    have form : ∀ t : Sl, t.val.ownBlock = some g → (∃ b n xs, w.ownsRow b E 1 t.val n xs) → t.val = .slice (some ⟨g, 0, none⟩) t.n t.cap := by
      intro t ht ⟨b, n, zs, hz⟩
      rcases hz.2 with ⟨e3, -⟩ | ⟨g', c', cur, e3, -⟩
      · rw [e3] at ht; simp [Value.ownBlock] at ht
      · have : g' = g := by rw [e3] at ht; simpa [Value.ownBlock] using ht
        subst this
        unfold Sl.val at e3 ⊢
        simp only [Value.slice.injEq] at e3
        rw [e3.1]
    have f1 := form r hg1 ⟨_, _, _, hy⟩
    have f2 := form s (e1 ▸ hg1) ⟨_, _, _, ho⟩
    rw [f1] at hy ⊢
    rw [f2] at ho hold
    exact own_under hy ho hn hold

def Xs (N : Nat) (ss : Nat → Sl) (b : Nat) : Prop := ∃ j, j < N ∧ bk (ss j) = some b
def ApartS (N : Nat) (ss : Nat → Sl) : Prop := ∀ i j, i < N → j < N → i ≠ j → ∀ b, bk (ss i) = some b → bk (ss j) ≠ some b

/-- while the marks are laid -/
structure S1 (E : TypeId) (w0 w : World) (N : Nat) (ss : Nat → Sl) (k i0 : Nat) : Prop where
  kept : Kept (Xs N ss) w0 w
  rows : ∀ j, j < N → RowP E w (ss j) (fun i => j < k ∨ (j = k ∧ i < i0)) j
theorem S1.next {w0 : World} {N : Nat} {ss : Nat → Sl} {k : Nat} (h : S1 E w0 w N ss k (ss k).n) : S1 E w0 w N ss (k + 1) 0 :=
  ⟨h.kept, fun j hj => (h.rows j hj).mono fun i hi hD => by
    rcases hD with hD | ⟨rfl, hD⟩
    · by_cases e : j = k
      · subst e; exact .inr ⟨rfl, hi⟩
      · exact .inl (by omega)
    · omega⟩
theorem S1.drew {w0 : World} {N : Nat} {ss : Nat → Sl} {k i : Nat} (h : S1 E w0 w N ss k i) : S1 E w0 w.drew N ss k i := ⟨h.kept.drew, fun j hj => (h.rows j hj).keep (Kept.refl (fun _ => False) w).drew (fun _ _ h => h)⟩
theorem S1.put {w0 : World} {N : Nat} {ss : Nat → Sl} {k i g : Nat} (h : S1 E w0 w N ss k i) (hk : k < N) (ap : ApartS N ss) (hg : (ss k).ob = some ⟨g, 0, none⟩) (hi : i < (ss k).n) :
    S1 E w0 (w.setCell ⟨g, i, none⟩ (.int .i64 (mrk k i))) N ss k (i + 1) := by
  have hb : bk (ss k) = some g := by unfold bk Sl.val; rw [hg]; rfl
  refine ⟨h.kept.setCell (fun _ => ⟨k, hk, hb⟩) _, fun j hj => ?_⟩
  by_cases e : j = k
  · subst e
    exact ((h.rows j hj).put hg hi).mono fun q hq hD => by
      rcases hD with hD | ⟨-, hD⟩
      · exact .inl (.inl hD)
      · by_cases e : q = i
        · exact .inr e
        · exact .inl (.inr ⟨rfl, by omega⟩)
  · refine ((h.rows j hj).keep ((Kept.refl (fun b => b = g) w).setCell (fun _ => rfl) _) fun b hb' => ?_).mono fun q hq hD => ?_
    · rintro rfl
      exact ap k j hk hj (Ne.symm e) b hb hb'
    · rcases hD with hD | ⟨h1, -⟩
      · exact .inl hD
      · exact absurd h1 e

/-- while each is appended to -/
structure S2 (E B : TypeId) (D : Nat → Nat → Prop) (w0 w : World) (N : Nat) (ss : Nat → Sl) (G k : Nat) (gl : Nat → Sl) : Prop where
  kept : Kept (Xs N ss) w0 w
  new : w0.heap.size ≤ G
  row : w.ownsRow 0 B 1 (.slice (some ⟨G, 0, none⟩) N N) N ((List.range N).map fun j => (gl j).val)
  rows : ∀ j, j < N → RowP E w (ss j) (fun _ => True) j
  done : ∀ j, j < k → (gl j).n = (ss j).n + 64 ∧ RowP E w (gl j) (D j) j
  ap1 : ∀ j, j < k → ∀ i, i < N → i ≠ j → ∀ b, bk (gl j) = some b → bk (ss i) ≠ some b
  ap2 : ∀ i j, i < k → j < k → i ≠ j → ∀ b, bk (gl i) = some b → bk (gl j) ≠ some b
/-- one of them, with n elements more -/
structure In (E : TypeId) (D : Nat → Prop) (W w : World) (s0 : Sl) (k n : Nat) (s : Sl) : Prop where
  len : s.n = s0.n + n
  row : RowP E w s D k
  old : RowP E w s0 (fun _ => True) k
  blk : ∀ b, bk s = some b → bk s0 = some b ∨ W.heap.size ≤ b
  kept : Kept (fun b => bk s0 = some b) W w
theorem In.start {W : World} {s0 : Sl} {k : Nat} (h : RowP E W s0 (fun _ => True) k) : In E D W W s0 k 0 s0 := ⟨rfl, h.mono fun _ _ _ => trivial, h, fun _ hb => .inl hb, Kept.refl _ _⟩
theorem In.alloc {W : World} {s0 : Sl} {k n : Nat} (h : In E D W w s0 k n s) (o : Obj) : In E D W (w.alloc o) s0 k n s :=
  ⟨h.len, h.row.keep ((Kept.refl (fun _ => False) w).alloc o) (fun _ _ h => h), h.old.keep ((Kept.refl (fun _ => False) w).alloc o) (fun _ _ h => h), h.blk, h.kept.alloc o⟩
theorem In.below {W : World} {s0 : Sl} {k n : Nat} (h : In E D W w s0 k n s) (hb : Below w.heap.size w w') : In E D W w' s0 k n s :=
  ⟨h.len, h.row.keep (Kept.of_below hb (fun _ => False)) (fun _ _ h => h), h.old.keep (Kept.of_below hb (fun _ => False)) (fun _ _ h => h), h.blk, h.kept.trans' (Kept.of_below hb (fun _ => False)) (fun _ _ h => h.elim)⟩
/-- an append -/
theorem In.more {W : World} {s0 : Sl} {k n m : Nat} {D' : Nat → Prop} {v' : Value} {xs news : List Value} (h : In E D W w s0 k n s) (ho : w.ownsRow 0 E 1 s.val s.n xs) (hx : ∀ i, i < s.n → D i → xs[i]? = some (.int .i64 (mrk k i)))
    (ho' : w'.ownsRow 0 E 1 v' (s.n + m) (xs ++ news)) (hg : w.grownBy w' s.val.ownBlock) (hv : v'.ownBlock = s.val.ownBlock ∨ v'.ownBlock = some w.heap.size) (hold : w'.ownsRow 0 E 1 s.val s.n xs)
    (hD : ∀ i, i < s.n + m → D' i → (i < s.n ∧ D i) ∨ (s.n ≤ i ∧ news[i - s.n]? = some (.int .i64 (mrk k i)))) : ∃ s' : Sl, v' = s'.val ∧ In E D' W w' s0 k (n + m) s' := by
  obtain ⟨ob, c, rfl⟩ : ∃ ob c, v' = .slice ob (s.n + m) c := by
    rcases ho'.2 with ⟨rfl, h0⟩ | ⟨g, c, cur, rfl, -⟩
    · rw [h0]; exact ⟨_, _, rfl⟩
    · exact ⟨_, _, rfl⟩
  have hlen := ho.1
  refine ⟨⟨ob, s.n + m, c⟩, rfl, ⟨by show s.n + m = _; rw [h.len]; omega, ⟨xs ++ news, ho', fun i hi hd => ?_⟩, h.old.more ho hg hold (by rw [h.len]; omega), fun b hb => ?_, ?_⟩⟩
  · rcases hD i hi hd with ⟨h1, h2⟩ | ⟨h1, h2⟩
    · rw [List.getElem?_append_left (by omega)]; exact hx i h1 h2
    · rw [List.getElem?_append_right (by omega)]
      rw [← h2]
      congr 1
      omega
  · rcases hv with hv | hv
    · exact h.blk b (hv.symm.trans hb)
    · have : some w.heap.size = some b := hv.symm.trans hb
      have := Option.some.inj this
      have := h.kept.size
      exact .inr (by omega)
  · refine h.kept.trans' (Y := fun b => some b = s.val.ownBlock) ⟨hg.os, hg.tape, hg.output, hg.size, fun q hq hn => hg.block q hq hn⟩ (fun b hb e => ?_)
    rcases h.blk b e.symm with h1 | h1
    · exact h1
    · omega
theorem range_set (N k : Nat) (f g : Nat → Value) (h : ∀ j, j ≠ k → g j = f j) : ((List.range N).map f).set k (g k) = (List.range N).map g := by
  refine List.ext_getElem (by simp) fun j h1 h2 => ?_
  simp only [List.getElem_set, List.getElem_map, List.getElem_range]
  by_cases e : k = j
  · subst e; simp
  · rw [if_neg e, h j (Ne.symm e)]
theorem S2.next {D : Nat → Nat → Prop} {w0 W : World} {N G k : Nat} {ss gl : Nat → Sl} (h : S2 E B D w0 W N ss G k gl) (hEB : E ≠ B) (hi : In E (D k) W w (ss k) k 64 s) (hk : k < N) (ap : ApartS N ss) :
    S2 E B D w0 (w.setCell ⟨G, k, none⟩ s.val) N ss G (k + 1) (fun j => if j = k then s else gl j) := by
  have hG := (h.row.lt G rfl).2
  obtain ⟨curG, hcG⟩ := own_blk h.row (b := G) rfl
  have notG : ∀ {t : Sl} {D j}, RowP E W t D j → bk t ≠ some G := fun ht e => by
    obtain ⟨xs, ho, -⟩ := ht
    obtain ⟨cur, hc⟩ := own_blk ho e
    rw [hcG] at hc
    simp at hc
    exact hEB hc.2.symm
  -- in w, what stands beside slice k is as it was
  have keep1 : ∀ {t : Sl} {D j}, RowP E W t D j → (∀ b, bk (ss k) = some b → bk t ≠ some b) → RowP E (w.setCell ⟨G, k, none⟩ s.val) t D j := fun ht hn =>
    ht.keep ((hi.kept.mono (fun b _ hb => (.inl hb : bk (ss k) = some b ∨ b = G))).setCell (fun _ => .inr rfl) _) (fun b hb hx => by
      rcases hx with hx | rfl
      · exact hn b hx hb
      · exact notG ht hb)
  have sG : bk s ≠ some G := fun e => by
    rcases hi.blk G e with h1 | h1
    · exact notG (h.rows k hk) h1
    · omega
  have keepS : ∀ {t : Sl} {D j}, RowP E w t D j → bk t ≠ some G → RowP E (w.setCell ⟨G, k, none⟩ s.val) t D j := fun ht hn =>
    ht.keep ((Kept.refl (fun b => b = G) w).setCell (fun _ => rfl) _) (fun b hb hx => by subst hx; exact hn hb)
  refine ⟨?_, h.new, ?_, fun j hj => ?_, fun j hj => ?_, fun j hj i hiN hne b hb => ?_, fun i j hik hjk hne b hb => ?_⟩
  · exact (h.kept.trans' hi.kept (fun b _ hb => ⟨k, hk, hb⟩)).setCell (fun hlt => absurd hlt (by have := h.new; show ¬ G < _; omega)) _
  · have hrow : w.ownsRow 0 B 1 (.slice (some ⟨G, 0, none⟩) N N) N ((List.range N).map fun j => (gl j).val) :=
      own_keep h.row hi.kept (fun b hb hx => by
        have : b = G := by simpa [Value.ownBlock] using hb.symm
        subst this
        exact notG (h.rows k hk) hx)
    have := own_put hrow (i := k) s.val
    have e := range_set N k (fun j => (gl j).val) (fun j => ((fun j => if j = k then s else gl j) j).val) (fun j hj => by simp [hj])
    simp only [if_true] at e
    rw [e] at this
    exact this
  · by_cases e : j = k
    · subst e
      exact keepS hi.old (notG (h.rows j hj))
    · exact keep1 (h.rows j hj) (fun b hb => ap k j hk hj (Ne.symm e) b hb)
  · by_cases e : j = k
    · subst e
      simp only [if_true]
      exact ⟨hi.len, keepS hi.row sG⟩
    · simp only [if_neg e]
      have hd := h.done j (by omega)
      exact ⟨hd.1, keep1 hd.2 (fun b hb hb2 => h.ap1 j (by omega) k hk (Ne.symm e) b hb2 hb)⟩
  · by_cases e : j = k
    · subst e
      simp only [if_true] at hb
      rcases hi.blk b hb with h1 | h1
      · exact ap j i hk hiN (Ne.symm hne) b h1
      · intro h2
        have := (h.rows i hiN).lt h2
        omega
    · simp only [if_neg e] at hb
      exact h.ap1 j (by omega) i hiN hne b hb
  · by_cases e : i = k
    · subst e
      have hj2 : j ≠ i := Ne.symm hne
      simp only [if_true] at hb
      simp only [if_neg hj2]
      intro h2
      rcases hi.blk b hb with h1 | h1
      · exact h.ap1 j (by omega) i hk (Ne.symm hj2) b h2 h1
      · have := (h.done j (by omega)).2.lt h2
        omega
    · simp only [if_neg e] at hb
      by_cases e2 : j = k
      · subst e2
        simp only [if_true]
        intro h2
        rcases hi.blk b h2 with h1 | h1
        · exact h.ap1 i (by omega) j hk (Ne.symm e) b hb h1
        · have := (h.done i (by omega)).2.lt hb
          omega
      · simp only [if_neg e2]
        exact h.ap2 i j (by omega) (by omega) hne b hb
theorem S2.same {D : Nat → Nat → Prop} {w0 W : World} {N G k : Nat} {ss gl : Nat → Sl} (h : S2 E B D w0 W N ss G k gl) (hk : Kept (fun _ => False) W w) : S2 E B D w0 w N ss G k gl :=
  ⟨h.kept.trans' hk (fun _ _ h => h.elim), h.new, own_keep h.row hk (fun _ _ h => h), fun j hj => (h.rows j hj).keep hk (fun _ _ h => h), fun j hj => ⟨(h.done j hj).1, (h.done j hj).2.keep hk (fun _ _ h => h)⟩, h.ap1, h.ap2⟩
theorem S2.zero {D D' : Nat → Nat → Prop} {w0 W : World} {N G k : Nat} {ss gl : Nat → Sl} (h : S2 E B D w0 W N ss G k gl) : S2 E B D' w0 W N ss G 0 gl :=
  ⟨h.kept, h.new, h.row, h.rows, fun j hj => absurd hj (by omega), fun j hj => absurd hj (by omega), fun i j hi => absurd hi (by omega)⟩
theorem S2.at {D : Nat → Nat → Prop} {w0 W : World} {N G k j : Nat} {ss gl : Nat → Sl} (h : S2 E B D w0 W N ss G k gl) (hj : j < N) : W.cell? ⟨G, j, none⟩ = some (.slice (gl j).ob (gl j).n (gl j).cap) := by
  rw [h.row.cellAt j (by omega)]; simp [hj, Sl.val]
/-- where the new slice is stored -/
theorem S2.cell {D : Nat → Nat → Prop} {D' : Nat → Prop} {w0 W : World} {N G k n : Nat} {ss gl : Nat → Sl} (h : S2 E B D w0 W N ss G k gl) (hEB : E ≠ B) (hi : In E D' W w (ss k) k n s) (hk : k < N) : ∃ v, w.cell? ⟨G, k, none⟩ = some v ∧ w.frozen? ⟨G, k, none⟩ = false := by
  obtain ⟨curG, hcG⟩ := own_blk h.row (b := G) rfl
  have hrow : w.ownsRow 0 B 1 (.slice (some ⟨G, 0, none⟩) N N) N ((List.range N).map fun j => (gl j).val) :=
    own_keep h.row hi.kept (fun b hb hx => by
      have : b = G := by simpa [Value.ownBlock] using hb.symm
      subst this
      obtain ⟨xs, ho, -⟩ := h.rows k hk
      obtain ⟨cur, hc⟩ := own_blk ho hx
      rw [hcG] at hc
      simp at hc
      exact hEB hc.2.symm)
  exact ⟨(gl k).val, by rw [hrow.cellAt k (by omega)]; simp [hk], hrow.frozenAt k⟩
end
end Go.Proofs.Flat
