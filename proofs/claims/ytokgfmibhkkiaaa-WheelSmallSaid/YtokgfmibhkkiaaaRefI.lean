/- The reference's Drop. -/
import Derived.Test.YtokgfmibhkkiaaaRefH
import Derived.Test.YtokgfmibhkkiaaaFlowI
namespace Go.Proofs.Ytokgfmibhkkiaaa
open Go.RowKit Wh Tw Mem Grow

set_option maxHeartbeats 1000000 in
theorem rdrop_none {w : World} {ob : Option Addr} {cap : Nat} {l : List Mb} (h : RowAt w ob cap l) (hl : Ids l) (now id : Int) (hlen : l.length ≤ 10000) (hm : findM l id = none) :
    Calls Try.prog 44 #[.agg #[.int .i64 now, .slice ob l.length cap], .int .i64 id] w fun e w' => e = .returned (.tuple #[.agg #[.int .i64 now, .slice ob l.length cap], .agg #[.int .u8 0, .int .i64 0], .int .i64 6]) ∧ Below w.heap.size w w' := by
  have hb2 : Below w.heap.size w (((w.alloc (.cells #[.int .i64 now, .slice ob l.length cap] 92)).alloc (.cells #[.int .i64 0, .slice none 0 0] 92)).alloc (.cells #[.int .u8 0, .int .i64 0] 96)) := (((Below.refl _ _).alloc (Nat.le_refl _) _).alloc (by simp) _).alloc (by simp; omega) _
  have B0 : Blk (((w.alloc (.cells #[.int .i64 now, .slice ob l.length cap] 92)).alloc (.cells #[.int .i64 0, .slice none 0 0] 92)).alloc (.cells #[.int .u8 0, .int .i64 0] 96)) w.heap.size #[.int .i64 now, .slice ob l.length cap] 92 := ((Blk.new w _ 92).alloc _).alloc _
  have B1 : Blk (((w.alloc (.cells #[.int .i64 now, .slice ob l.length cap] 92)).alloc (.cells #[.int .i64 0, .slice none 0 0] 92)).alloc (.cells #[.int .u8 0, .int .i64 0] 96)) (w.heap.size + 1) #[.int .i64 0, .slice none 0 0] 92 := (Blk.new' (w := w.alloc _) _ 92 (by simp)).alloc _
  have B2 : Blk (((w.alloc (.cells #[.int .i64 now, .slice ob l.length cap] 92)).alloc (.cells #[.int .i64 0, .slice none 0 0] 92)).alloc (.cells #[.int .u8 0, .int .i64 0] 96)) (w.heap.size + 1 + 1) #[.int .u8 0, .int .i64 0] 96 := Blk.new' (w := (w.alloc _).alloc _) _ 96 (by simp)
  have hf := rfind_no (h.below hb2) hl now id hlen hm
  have HF := Lib.hid hf
  have HB0 := Lib.hid B0
  have HB1 := Lib.hid B1
  have HB2 := Lib.hid B2
  clear hf h B0 B1 B2 hm hl
  go_enter Try.func44, Try.ntmps44
  go_wp2_with (first | (go_at_call 59; refine HF.out.mono ?_; rintro e w' ⟨rfl, hb⟩; obtain ⟨x0, x1, x2, x3⟩ := (HB0.out.below hb (by simp <;> omega)).two; obtain ⟨y0, y1, y2, y3⟩ := (HB1.out.below hb (by simp <;> omega)).two; obtain ⟨z0, z1, z2, z3⟩ := (HB2.out.below hb (by simp <;> omega)).two; have hbw := hb2.trans (hb.mono (by simp; omega))))
  refine bodyPost_ret (v := .tuple #[.agg #[.int .i64 now, .slice ob l.length cap], .agg #[.int .u8 0, .int .i64 0], .int .i64 6]) ?_ rfl ⟨rfl, ?_⟩
  · simp [results, Try.results44, go_sem, y0, y1, z0, z1]
  · exact (((hbw.setCell (by show w.heap.size ≤ w.heap.size + 1; omega) _).setCell (by show w.heap.size ≤ w.heap.size + 1; omega) _).setCell (by show w.heap.size ≤ w.heap.size + 1 + 1; omega) _).setCell (by show w.heap.size ≤ w.heap.size + 1 + 1; omega) _

theorem RowAt.cap {w : World} {ob : Option Addr} {cap : Nat} {l : List Mb} (h : RowAt w ob cap l) : l.length ≤ cap := by
  unfold RowAt at h
  rcases h.2 with ⟨e, h0⟩ | ⟨g, c, cur, e, -, -, hn, -⟩
  · omega
  · simp only [Value.slice.injEq, true_and] at e
    omega
/-- a stretch of the members, as a source -/
theorem RowAt.src {w : World} {g cap : Nat} {l : List Mb} (h : RowAt w (some ⟨g, 0, none⟩) cap l) (a m c : Nat) (hm : a + m ≤ l.length) : SrcAt w (.slice (some ⟨g, a * 6, none⟩) m c) m (flatC ((l.drop a).take m)) := by
  refine .inr ⟨_, _, rfl, fun j u hu => ?_⟩
  have hj : j < ((l.drop a).take m).length * 6 := by
    rw [← flatC_len]
    exact (List.getElem?_eq_some_iff.1 hu).1
  rw [List.length_take, List.length_drop] at hj
  have hadd : (⟨g, a * 6, none⟩ : Addr).add j = ⟨g, a * 6 + j, none⟩ := by unfold Addr.add; split <;> simp_all
  rw [hadd]
  unfold RowAt at h
  rw [h.cellAt (a * 6 + j) (by omega)]
  have hq : j / 6 < ((l.drop a).take m).length := by rw [List.length_take, List.length_drop]; omega
  have e1 := flatC_at ((l.drop a).take m) (j / 6) (j % 6) hq (Nat.mod_lt _ (by omega))
  have e2 := flatC_at l (a + j / 6) (j % 6) (by omega) (Nat.mod_lt _ (by omega))
  rw [show j / 6 * 6 + j % 6 = j by omega] at e1
  rw [show (a + j / 6) * 6 + j % 6 = a * 6 + j by omega] at e2
  rw [e2, ← hu, e1]
  simp
theorem flatC_app (a b : List Mb) : flatC (a ++ b) = flatC a ++ flatC b := by simp [flatC]
theorem drop_at {l : List Mb} (hl : Ids l) {k : Nat} (hk : k < l.length) {id : Int} (hid : l[k].id = id) : dropM l id = l.take k ++ l.drop (k + 1) := by
  have e : l = l.take k ++ l[k] :: l.drop (k + 1) := by rw [List.getElem_cons_drop, List.take_append_drop]
  have key : ∀ (a b : Nat) (ha : a < l.length) (hb : b < l.length), a < b → l[a].id < l[b].id := fun a b ha hb hab => (List.pairwise_iff_getElem.1 hl) a b ha hb hab
  have h1 : (l.take k).filter (fun m => !decide (m.id = id)) = l.take k := by
    rw [List.filter_eq_self]
    intro m hm
    obtain ⟨j, hj, rfl⟩ := List.getElem_of_mem hm
    rw [List.length_take] at hj
    have := key j k (by omega) hk (by omega)
    rw [List.getElem_take]
    simp; omega
  have h2 : (l.drop (k + 1)).filter (fun m => !decide (m.id = id)) = l.drop (k + 1) := by
    rw [List.filter_eq_self]
    intro m hm
    obtain ⟨j, hj, rfl⟩ := List.getElem_of_mem hm
    rw [List.length_drop] at hj
    have := key k (k + 1 + j) hk (by omega) (by omega)
    rw [List.getElem_drop]
    simp; omega
  have h3 : ∀ x : Mb, x.id = id → (l.take k ++ x :: l.drop (k + 1)).filter (fun m => !decide (m.id = id)) = l.take k ++ l.drop (k + 1) := fun x hx => by
    rw [List.filter_append, List.filter_cons, h1, h2]
    simp [hx]
  have h4 := h3 l[k] hid
  rw [← e] at h4
  exact h4

theorem own_z {w : World} {b g m c : Nat} {xs : List Value} (h : w.ownsRow b 118 6 (.slice (some ⟨g, 0, none⟩) (0 + m) c) (0 + m) ([] ++ xs)) : w.ownsRow b 118 6 (.slice (some ⟨g, 0, none⟩) m c) m xs := by simpa using h
def dropV (W : World) (now : Int) (rb k : Nat) (l : List Mb) (i : Nat) (v : Value) (w : World) : Prop :=
  (i = 0 → ∃ g, v = .slice (some ⟨g, 0, none⟩) 0 0 ∧ w.ownsRow W.heap.size 118 6 (.slice (some ⟨g, 0, none⟩) 0 0) 0 []) ∧
  (i = 5 → ∃ g c, v = .slice (some ⟨g, 0, none⟩) k c ∧ w.ownsRow W.heap.size 118 6 (.slice (some ⟨g, 0, none⟩) k c) k (flatC (l.take k))) ∧
  (i = 11 → ∃ g c, v = .slice (some ⟨g, 0, none⟩) (k + (l.length - (k + 1))) c ∧ w.ownsRow W.heap.size 118 6 (.slice (some ⟨g, 0, none⟩) (k + (l.length - (k + 1))) c) (k + (l.length - (k + 1))) (flatC (l.take k) ++ flatC (l.drop (k + 1)))) ∧
  (i = 13 → ∃ g2 c2, Blk w rb #[.int .i64 now, .slice (some ⟨g2, 0, none⟩) (k + (l.length - (k + 1))) c2] 92 ∧ w.ownsRow W.heap.size 118 6 (.slice (some ⟨g2, 0, none⟩) (k + (l.length - (k + 1))) c2) (k + (l.length - (k + 1))) (flatC (l.take k) ++ flatC (l.drop (k + 1))))
def dropG (rb p : Nat) (u : Nat → Value) (w w' : World) : Prop :=
  (p = 0 → w' = w.alloc (.cells #[] 118)) ∧ (p = 5 → w.grownBy w' (u 0).ownBlock) ∧ (p = 11 → w.grownBy w' (u 5).ownBlock) ∧ (p = 13 → w' = w.setCell ⟨rb, 1, none⟩ (u 11)) ∧ (p ≠ 0 → p ≠ 5 → p ≠ 11 → p ≠ 13 → w' = w)
theorem own_keptX {w w' : World} {X : Nat → Prop} {b : Nat} {e : TypeId} {s : Nat} {v : Value} {n : Nat} {xs : List Value} (h : w.ownsRow b e s v n xs) (k : Kept X w w') (hx : ∀ g, v.ownBlock = some g → ¬ X g) : w'.ownsRow b e s v n xs := by
  refine ⟨h.1, ?_⟩
  rcases h.2 with hn | ⟨g, c, cur, rfl, hb, hg, rest⟩
  · exact .inl hn
  · exact .inr ⟨g, c, cur, rfl, hb, (k.block g (Array.getElem?_eq_some_iff.1 hg).1 (hx g rfl)).trans hg, rest⟩
theorem dropG_same {rb p : Nat} {u : Nat → Value} {w : World} (h0 : p ≠ 0) (h1 : p ≠ 5) (h2 : p ≠ 11) (h3 : p ≠ 13) : dropG rb p u w w := ⟨fun h => absurd h h0, fun h => absurd h h1, fun h => absurd h h2, fun h => absurd h h3, fun _ _ _ _ => rfl⟩
theorem useI3 {a b c d e f i k : Nat} (h : useI [(a, b), (c, d), (e, f)] i = some k) : i = a ∨ i = c ∨ i = e := by
  unfold useI at h
  rw [Option.map_eq_some_iff] at h
  obtain ⟨x, hx, -⟩ := h
  have h1 := List.mem_of_find?_eq_some hx
  have h2 := List.find?_some hx
  simp at h1 h2
  rcases h1 with rfl | rfl | rfl
  · exact .inl h2.symm
  · exact .inr (.inl h2.symm)
  · exact .inr (.inr h2.symm)
def lastI (ops : Array Oper) (s : Nat) : Bool := (List.range ops.size).all fun i => i == s || ((Region.before ops).getD s 0).testBit i
theorem last_no {ops : Array Oper} {s i : Nat} (h : lastI ops s = true) (hi : i < ops.size) (hne : s ≠ i) (hb : ((Region.before ops).getD s 0).testBit i = false) : False := by
  unfold lastI at h
  rw [List.all_eq_true] at h
  have := h i (List.mem_range.2 hi)
  rw [hb] at this
  simp at this
  exact hne this.symm
def deadI (ops : Array Oper) (cs : List (Nat × Nat)) (ps is : List Nat) : Bool := ps.all fun p => is.all fun i => !liveI ops cs p i
theorem dead_no {ops : Array Oper} {cs : List (Nat × Nat)} {ps is : List Nat} (h : deadI ops cs ps is = true) {p i : Nat} (hl : liveI ops cs p i = true) : p ∈ ps → i ∈ is → False := by
  intro hp hi
  unfold deadI at h
  rw [List.all_eq_true] at h
  have := h p hp
  rw [List.all_eq_true] at this
  have := this i hi
  rw [hl] at this
  simp at this
theorem dropVV {W w1 w2 : World} {now : Int} {rb k p i : Nat} {l : List Mb} {u : Nat → Value} {v : Value} (hv : dropV W now rb k l i v w1) (hg : dropG rb p u w1 w2) (h : i ∈ [0, 5, 11, 13] → p ∈ [0, 5, 11, 13] → False) : dropV W now rb k l i v w2 := by
  by_cases hi : i ∈ [0, 5, 11, 13]
  · have hp : p ∉ [0, 5, 11, 13] := fun hp => h hi hp
    simp at hp
    rw [hg.2.2.2.2 hp.1 hp.2.1 hp.2.2.1 hp.2.2.2]
    exact hv
  · simp at hi
    exact ⟨fun e => absurd e hi.1, fun e => absurd e hi.2.1, fun e => absurd e hi.2.2.1, fun e => absurd e hi.2.2.2⟩
theorem dropK {W w1 w2 : World} {now : Int} {rb k p : Nat} {l : List Mb} {u : Nat → Value} (_hl : rb < W.heap.size) (hw : Kept (fun i => i = rb) W w1) (hf : factsI [(0, 5), (5, 11), (11, 13)] (dropV W now rb k l) u p w1) (hg : dropG rb p u w1 w2) : Kept (fun i => i = rb) W w2 := by
  by_cases h0 : p = 0
  · rw [hg.1 h0]; exact hw.alloc _
  by_cases h5 : p = 5
  · subst h5
    obtain ⟨g0, hu, ho⟩ := (hf 0 rfl).1 rfl
    exact kept_grown hw (hg.2.1 rfl) (fun q hq hlt => by rw [hu] at hq; have := own_q hq; have := (ho.lt g0 rfl).1; omega)
  by_cases h11 : p = 11
  · subst h11
    obtain ⟨g0, c0, hu, ho⟩ := (hf 5 rfl).2.1 rfl
    exact kept_grown hw (hg.2.2.1 rfl) (fun q hq hlt => by rw [hu] at hq; have := own_q hq; have := (ho.lt g0 rfl).1; omega)
  by_cases h13 : p = 13
  · rw [hg.2.2.2.1 h13]; exact hw.setCell (fun _ => rfl) _
  rw [hg.2.2.2.2 h0 h5 h11 h13]; exact hw
theorem dropI {W w1 w2 : World} {now : Int} {rb k p : Nat} {l : List Mb} {u : Nat → Value} (hl : rb < W.heap.size) (hw : Kept (fun i => i = rb) W w1) (hf : factsI [(0, 5), (5, 11), (11, 13)] (dropV W now rb k l) u p w1) (hg : dropG rb p u w1 w2) (hp : p ≠ 13)
    (hI : w1.heap[rb]? = W.heap[rb]?) : w2.heap[rb]? = W.heap[rb]? := by
  have hlt := Nat.lt_of_lt_of_le hl hw.size
  suffices hb : w2.heap[rb]? = w1.heap[rb]? from hb.trans hI
  by_cases h0 : p = 0
  · rw [hg.1 h0]; exact Below.heap_alloc _ _ _ hlt
  by_cases h5 : p = 5
  · subst h5
    obtain ⟨g0, hu, ho⟩ := (hf 0 rfl).1 rfl
    exact (hg.2.1 rfl).block rb hlt (fun e => by rw [hu] at e; have := own_q e.symm; have := (ho.lt g0 rfl).1; omega)
  by_cases h11 : p = 11
  · subst h11
    obtain ⟨g0, c0, hu, ho⟩ := (hf 5 rfl).2.1 rfl
    exact (hg.2.2.1 rfl).block rb hlt (fun e => by rw [hu] at e; have := own_q e.symm; have := (ho.lt g0 rfl).1; omega)
  rw [hg.2.2.2.2 h0 h5 h11 hp]
theorem cell_set {w : World} {p : Addr} {v : Value} (h : w.cell? p = some v) (u : Value) : (w.setCell p u).cell? p = some u := by
  exact World.cell?_setCell_same' w p u (by rw [h]; rfl)
set_option maxHeartbeats 4000000 in
set_option maxRecDepth 100000 in
theorem rdrop_yes {w : World} {ob : Option Addr} {cap : Nat} {l : List Mb} (h : RowAt w ob cap l) (hl : Ids l) (now id : Int) (hlen : l.length ≤ 10000) {k : Nat} (hk : k < l.length) (hid : l[k].id = id) :
    Calls Try.prog 44 #[.agg #[.int .i64 now, .slice ob l.length cap], .int .i64 id] w fun e w' => ∃ g c, e = .returned (.tuple #[.agg #[.int .i64 now, .slice (some ⟨g, 0, none⟩) (l.length - 1) c], .agg #[.int .u8 l[k].phase.state, .int .i64 l[k].phase.since], .int .i64 0]) ∧
      w'.ownsRow w.heap.size 118 6 (.slice (some ⟨g, 0, none⟩) (l.length - 1) c) (l.length - 1) (flatC (dropM l id)) ∧ Below w.heap.size w w' := by
  have hb2 : Below w.heap.size w (((w.alloc (.cells #[.int .i64 now, .slice ob l.length cap] 92)).alloc (.cells #[.int .i64 0, .slice none 0 0] 92)).alloc (.cells #[.int .u8 0, .int .i64 0] 96)) := (((Below.refl _ _).alloc (Nat.le_refl _) _).alloc (by simp) _).alloc (by simp; omega) _
  have B0 : Blk (((w.alloc (.cells #[.int .i64 now, .slice ob l.length cap] 92)).alloc (.cells #[.int .i64 0, .slice none 0 0] 92)).alloc (.cells #[.int .u8 0, .int .i64 0] 96)) w.heap.size #[.int .i64 now, .slice ob l.length cap] 92 := ((Blk.new w _ 92).alloc _).alloc _
  have B1 : Blk (((w.alloc (.cells #[.int .i64 now, .slice ob l.length cap] 92)).alloc (.cells #[.int .i64 0, .slice none 0 0] 92)).alloc (.cells #[.int .u8 0, .int .i64 0] 96)) (w.heap.size + 1) #[.int .i64 0, .slice none 0 0] 92 := (Blk.new' (w := w.alloc _) _ 92 (by simp)).alloc _
  have B2 : Blk (((w.alloc (.cells #[.int .i64 now, .slice ob l.length cap] 92)).alloc (.cells #[.int .i64 0, .slice none 0 0] 92)).alloc (.cells #[.int .u8 0, .int .i64 0] 96)) (w.heap.size + 1 + 1) #[.int .u8 0, .int .i64 0] 96 := Blk.new' (w := (w.alloc _).alloc _) _ 96 (by simp)
  have HF := Lib.hid (rfind_yes (h.below hb2) hl now id hlen hk hid)
  have HB0 := Lib.hid B0
  have HB1 := Lib.hid B1
  have HB2 := Lib.hid B2
  obtain ⟨g, hob, hg, -, -, -, -, c4, c5⟩ := h.memb k (by simpa using hk)
  simp only [List.getElem_map, core] at c4 c5
  have hres := drop_at hl hk hid
  rw [hres]
  obtain ⟨m, hm⟩ : ∃ m, m = l[k] := ⟨_, rfl⟩
  rw [← hm] at c4 c5 ⊢
  subst hob
  have HROW := Lib.hid h
  have hcap := h.cap
  have hkl : (k : Int) < l.length := by omega
  have hkl2 : (k : Int) + 1 ≤ l.length := by omega
  have hlc : (l.length : Int) ≤ cap := by omega
  have hkc : (k : Int) ≤ cap := by omega
  have hk0 : (0 : Int) ≤ k := by omega
  have hk1 : (0 : Int) ≤ (k : Int) + 1 := by omega
  obtain ⟨j0, hj0, hj1, hj2, hj3⟩ := info_parts info118
  clear h B0 B1 B2 hl hid hm hres
  go_enter Try.func44, Try.ntmps44
  go_upto_region 5 with (first | (go_at_call 59; refine HF.out.mono ?_; rintro e w' ⟨rfl, hb⟩; have B0 := (HB0.out.below hb (by simp <;> omega)); have B1 := (HB1.out.below hb (by simp <;> omega)); have B2 := (HB2.out.below hb (by simp <;> omega)); have HB0 := Lib.hid B0; have HB1 := Lib.hid B1; have HB2 := Lib.hid B2; obtain ⟨x0, x1, x2, x3⟩ := B0.two; have z0 := fun O => ((B0.alloc O).two).1; have z1 := fun O => ((B0.alloc O).two).2.1; have hbw := hb2.trans (hb.mono (by simp; omega)); have d4 := (hbw.cell (p := ⟨g, k * 6 + 4, none⟩) hg).trans c4; have d5 := (hbw.cell (p := ⟨g, k * 6 + 5, none⟩) hg).trans c5; have hbz := hbw.size; have hlt1 := B2.lt; clear B0 B1 B2 c4 c5))
  have C0 := HB0.out.alloc (.cells #[.int .u8 m.phase.state, .int .i64 m.phase.since] 96)
  have C1 := HB1.out.alloc (.cells #[.int .u8 m.phase.state, .int .i64 m.phase.since] 96)
  have C2 := HB2.out.alloc (.cells #[.int .u8 m.phase.state, .int .i64 m.phase.since] 96)
  have CS := Blk.new w' #[.int .u8 m.phase.state, .int .i64 m.phase.since] 96
  have hbW := hbw.alloc hbz (.cells #[.int .u8 m.phase.state, .int .i64 m.phase.since] 96)
  generalize (w'.alloc (.cells #[.int .u8 m.phase.state, .int .i64 m.phase.since] 96)) = W at C0 C1 C2 CS hbW ⊢
  have hzW := hbW.size
  have hl0 := C0.lt
  have hl1 := C1.lt
  have hl2 := C2.lt
  have hlS := CS.lt
  have HRW := Lib.hid (own_at HROW.out (fun q _ hq => hbW.block q hq))
  obtain ⟨x0, x1, x2, x3⟩ := C0.two
  have HC0 := Lib.hid C0
  have HC1 := Lib.hid C1
  have HC2 := Lib.hid C2
  have HCS := Lib.hid CS
  clear C0 C1 C2 CS d4 d5 hbw z0 z1
  have hme : ((W.alloc (.cells #[] 118)).drew).ownsRow W.heap.size 118 6 (.slice (some ⟨W.heap.size, 0, none⟩) 0 0) 0 [] := World.ownsRow_made (base := W.heap.size) (e := 118) (size := 6) W #[] 0 (Nat.le_refl _) (by decide) (by rfl)
  have HME := Lib.hid hme
  have HS1 : Hid (∀ w', Kept (fun i => i = w.heap.size) W w' → SrcAt w' (.slice (some ⟨g, 0, none⟩) k cap) k (flatC (l.take k))) := Lib.hid fun w' hb' => by
    have h0 : RowAt w' (some ⟨g, 0, none⟩) cap l := own_keptX HRW.out hb' (fun q hq e => by have := own_q hq; omega)
    simpa using h0.src 0 k cap (by omega)
  have HS2 : Hid (∀ w' c, Kept (fun i => i = w.heap.size) W w' → SrcAt w' (.slice (if cap = k + 1 then some ⟨g, 0, none⟩ else some ⟨g, (k + 1) * 6, none⟩) (l.length - (k + 1)) c) (l.length - (k + 1)) (flatC (l.drop (k + 1)))) := Lib.hid fun w' c hb' => by
    have h0 : RowAt w' (some ⟨g, 0, none⟩) cap l := own_keptX HRW.out hb' (fun q hq e => by have := own_q hq; omega)
    by_cases e : cap = k + 1
    · have e2 : l.length - (k + 1) = 0 := by omega
      have e3 : l.drop (k + 1) = [] := List.drop_eq_nil_of_le (by omega)
      rw [if_pos e, e2, e3]
      simpa [flatC] using h0.src 0 0 c (by omega)
    · rw [if_neg e]
      have h1 := h0.src (k + 1) (l.length - (k + 1)) c (by omega)
      rwa [List.take_of_length_le (by simp)] at h1
  have HL1 : Hid ((flatC (l.take k)).length = k * 6) := Lib.hid (by rw [flatC_len, List.length_take]; omega)
  have HL2 : Hid ((flatC (l.drop (k + 1))).length = (l.length - (k + 1)) * 6) := Lib.hid (by rw [flatC_len, List.length_drop])
  clear hme
  have hwr : IntKind.i64.wrap ((k : Int) + 1) = (k : Int) + 1 := by rw [IntKind.wrap_i64]; omega
  have hm1 : 0 + k ≤ maxLen := by unfold maxLen; omega
  have hy1 : (0 + k) * 48 ≤ 140737488355328 := by omega
  have hm2 : k + (l.length - (k + 1)) ≤ maxLen := by unfold maxLen; omega
  have hy2 : (k + (l.length - (k + 1))) * 48 ≤ 140737488355328 := by omega
  have HX1 := Lib.hid x1
  have HX3 := Lib.hid x3
  clear x0 x1 x2 x3
  go_cut [] (fun wx => ∃ g2 c2, Kept (fun i => i = w.heap.size) W wx ∧ Blk wx w.heap.size #[.int .i64 now, .slice (some ⟨g2, 0, none⟩) (k + (l.length - (k + 1))) c2] 92 ∧ wx.ownsRow W.heap.size 118 6 (.slice (some ⟨g2, 0, none⟩) (k + (l.length - (k + 1))) c2) (k + (l.length - (k + 1))) (flatC (l.take k) ++ flatC (l.drop (k + 1))))
  case first =>
    apply wp_flowI ?hm ?hok [none, some _, some _, some _, some _, none, some _, some _, some _, some _, some _, none, some _, none] [(0, 5), (5, 11), (11, 13)] (Kept (fun i => i = w.heap.size) W) (fun _ X => X.heap[w.heap.size]? = W.heap[w.heap.size]?) (dropV W now w.heap.size k l) (dropG w.heap.size)
    case hm => rfl
    case hok => kernel_rfl
    case h =>
      intro u
      apply flowI_open (j := 0)
      · rfl
      · intro W1 hW hI hF K hK
        go_wp2_with fail
        exact hK _ _ ⟨fun _ => rfl, fun h => absurd h (by decide), fun h => absurd h (by decide), fun h => absurd h (by decide), fun h => absurd rfl h⟩ ⟨fun _ => ⟨_, rfl, World.ownsRow_made (base := W.heap.size) (e := 118) (size := 6) W1 #[] 0 hW.size (by decide) (by rfl)⟩, fun h => absurd h (by decide), fun h => absurd h (by decide), fun h => absurd h (by decide)⟩
      simp only [Act.put, List.setIfInBounds_toArray, List.set_cons_zero, List.set_cons_succ, Nat.reduceAdd]
      iterate 4
        (apply flowI_yes
         · rfl
         · intro W1 hW hI hF K hK
           have hB : Blk W1 w.heap.size #[.int .i64 now, .slice (some ⟨g, 0, none⟩) l.length cap] 92 := hI.trans HC0.out
           obtain ⟨hc0, hc, hz0, hz⟩ := hB.two
           have HB := Lib.hid hB
           clear hB
           go_wp2_with fail
           exact dropG_same (by decide) (by decide) (by decide) (by decide)
         simp only [Act.put, List.setIfInBounds_toArray, List.set_cons_zero, List.set_cons_succ, Nat.reduceAdd])
      apply flowI_open (j := 5)
      · rfl
      · intro W1 hW hI hF K hK
        obtain ⟨g0, hu, ho⟩ := (hF 0 rfl).1 rfl
        refine wp_append_some _ _ 90 rfl Try.underlying90 hj0 hj1 hj2 hj3 rfl g0 0 0 [] hu ho _ k _ rfl (HS1.out W1 hW) HL1.out (flatC_one _) hm1 hy1 hW.size ?_
        intro g' c' w'' hown hgrow _ _
        exact hK _ w'' ⟨fun h => absurd h (by decide), fun _ => by rw [hu]; exact hgrow, fun h => absurd h (by decide), fun h => absurd h (by decide), fun _ h => absurd rfl h⟩ ⟨fun h => absurd h (by decide), fun _ => ⟨g', c', by rw [Nat.zero_add], own_z hown⟩, fun h => absurd h (by decide), fun h => absurd h (by decide)⟩
      simp only [Act.put, List.setIfInBounds_toArray, List.set_cons_zero, List.set_cons_succ, Nat.reduceAdd]
      iterate 5
        (apply flowI_yes
         · rfl
         · intro W1 hW hI hF K hK
           have hB : Blk W1 w.heap.size #[.int .i64 now, .slice (some ⟨g, 0, none⟩) l.length cap] 92 := hI.trans HC0.out
           obtain ⟨hc0, hc, hz0, hz⟩ := hB.two
           have HB := Lib.hid hB
           clear hB
           go_wp2_with fail
           exact dropG_same (by decide) (by decide) (by decide) (by decide)
         simp only [Act.put, List.setIfInBounds_toArray, List.set_cons_zero, List.set_cons_succ, Nat.reduceAdd])
      apply flowI_open (j := 11)
      · rfl
      · intro W1 hW hI hF K hK
        obtain ⟨g0, c0, hu, ho⟩ := (hF 5 rfl).2.1 rfl
        refine wp_append_some _ _ 90 rfl Try.underlying90 hj0 hj1 hj2 hj3 rfl g0 k c0 _ hu ho _ (l.length - (k + 1)) _ rfl (HS2.out W1 _ hW) HL2.out (flatC_one _) hm2 hy2 hW.size ?_
        intro g' c' w'' hown hgrow _ _
        exact hK _ w'' ⟨fun h => absurd h (by decide), fun h => absurd h (by decide), fun _ => by rw [hu]; exact hgrow, fun h => absurd h (by decide), fun _ _ h => absurd rfl h⟩ ⟨fun h => absurd h (by decide), fun h => absurd h (by decide), fun _ => ⟨g', c', rfl, hown⟩, fun h => absurd h (by decide)⟩
      simp only [Act.put, List.setIfInBounds_toArray, List.set_cons_zero, List.set_cons_succ, Nat.reduceAdd]
      iterate 1
        (apply flowI_yes
         · rfl
         · intro W1 hW hI hF K hK
           have hB : Blk W1 w.heap.size #[.int .i64 now, .slice (some ⟨g, 0, none⟩) l.length cap] 92 := hI.trans HC0.out
           obtain ⟨hc0, hc, hz0, hz⟩ := hB.two
           have HB := Lib.hid hB
           clear hB
           go_wp2_with fail
           exact dropG_same (by decide) (by decide) (by decide) (by decide)
         simp only [Act.put, List.setIfInBounds_toArray, List.set_cons_zero, List.set_cons_succ, Nat.reduceAdd])
      apply flowI_open (j := 13)
      · rfl
      · intro W1 hW hI hF K hK
        obtain ⟨g0, c0, hu, ho⟩ := (hF 11 rfl).2.2.1 rfl
        have hB : Blk W1 w.heap.size #[.int .i64 now, .slice (some ⟨g, 0, none⟩) l.length cap] 92 := hI.trans HC0.out
        obtain ⟨hc0, hc, hz0, hz⟩ := hB.two
        have HB := Lib.hid hB
        clear hB
        have hg0 := (ho.lt g0 rfl).1
        have hst : dropG w.heap.size 13 u W1 (W1.setCell ⟨w.heap.size, 1, none⟩ (.slice (some ⟨g0, 0, none⟩) (k + (l.length - (k + 1))) c0)) := ⟨fun h => absurd h (by decide), fun h => absurd h (by decide), fun h => absurd h (by decide), fun _ => by rw [hu], fun _ _ _ h => absurd rfl h⟩
        have hov : dropV W now w.heap.size k l 13 undef (W1.setCell ⟨w.heap.size, 1, none⟩ (.slice (some ⟨g0, 0, none⟩) (k + (l.length - (k + 1))) c0)) := ⟨fun h => absurd h (by decide), fun h => absurd h (by decide), fun h => absurd h (by decide), fun _ => ⟨g0, c0, HB.out.set 1 _, ownsRow_setCell_below (a := ⟨w.heap.size, 1, none⟩) ho hl0 _⟩⟩
        have HST := Lib.hid hst
        have HOV := Lib.hid hov
        clear hst hov hF ho
        rw [hu] at hK ⊢
        generalize (if cap = k + 1 then some (⟨g, 0, none⟩ : Addr) else some ⟨g, (k + 1) * 6, none⟩) = sv at hK ⊢
        go_wp2_with fail
        exact hK _ _ HST.out HOV.out
      simp only [Act.put]
      refine flowI_end fun W7 hb7 hV7 => ?_
      obtain ⟨g2, c2, hc2, ho2⟩ := (hV7 13 rfl (by decide) rfl).2.2.2 rfl
      have HC2' := Lib.hid hc2
      have HO2 := Lib.hid ho2
      clear hc2 ho2 hV7
      generalize (if cap = k + 1 then some (⟨g, 0, none⟩ : Addr) else some ⟨g, (k + 1) * 6, none⟩) = sv
      go_wp2
      go_meet
      exact ⟨g2, c2, hb7, HC2'.out, HO2.out⟩
    case hokI => kernel_rfl
    case hcs => exact fun i q h => by rcases useI3 h with rfl | rfl | rfl <;> rfl
    case hW0 => exact (Kept.refl _ _).drew
    case hI0 => exact fun _ _ => rfl
    case hIk =>
      intro p i u w1 w2 hpi hbit hi hw hf hg hI
      refine dropI hl0 hw hf hg ?_ hI
      intro e
      subst e
      exact last_no (by kernel_rfl) hi hpi hbit
    case hW => exact fun p u w1 w2 hw hf hg => dropK hl0 hw hf hg
    case hG =>
      intro p i u w1 w2 hlive _ hw hf hg hv
      have hd := dead_no (ps := [0, 5, 11, 13]) (is := [0, 5, 11, 13]) (by kernel_rfl) hlive
      refine dropVV hv hg (fun hi hp => hd hp hi)
  case rest =>
    obtain ⟨g2, c2, hkp, hcb, ho⟩ := hcut
    obtain ⟨hc0, hc1, -, -⟩ := hcb.two
    have D1 := HC1.out.kept hkp (by omega)
    have D2 := HC2.out.kept hkp (by omega)
    have DS := HCS.out.kept hkp (by omega)
    obtain ⟨y0, y1, y2, y3⟩ := D1.two
    obtain ⟨z0, z1, z2, z3⟩ := D2.two
    obtain ⟨s0, s1, s2, s3⟩ := DS.two
    have hbw : Below w.heap.size w wc := hbW.trans (hkp.belowOf hzW (fun i hi e => by omega))
    have HO := Lib.hid ho
    clear D1 D2 DS ho hcb HC0 HC1 HC2 HCS HS1 HS2 HL1 HL2 HRW hkp
    go_wp2_with fail
    go_region
    all_goals go_wp2
    all_goals
      refine bodyPost_ret (v := .tuple #[.agg #[.int .i64 now, .slice (some ⟨g2, 0, none⟩) (k + (l.length - (k + 1))) c2], .agg #[.int .u8 m.phase.state, .int .i64 m.phase.since], .int .i64 0]) ?_ rfl ⟨g2, c2, ?_, ?_, ?_⟩
      · simp [results, Try.results44, go_sem, y0, y1, z0, z1]
      · rw [show k + (l.length - (k + 1)) = l.length - 1 by omega]
      · have h1 := HO.out
        rw [show k + (l.length - (k + 1)) = l.length - 1 by omega, ← flatC_app] at h1
        exact own_weak (own_keptX h1 (X := fun i => i = w.heap.size + 1 ∨ i = w.heap.size + 1 + 1) (by first | exact ((((Kept.refl _ _).drew).setCell (fun _ => by simp) _).setCell (fun _ => by simp) _ |>.setCell (fun _ => by simp) _).setCell (fun _ => by simp) _) (fun q hq => by have := (h1.lt q hq).1; omega)) hzW
      · clear HO
        go_grown
end Go.Proofs.Ytokgfmibhkkiaaa
