/- The reference's Add, done. -/
import Derived.Test.YtokgfmibhkkiaaaRefJ
namespace Go.Proofs.Ytokgfmibhkkiaaa
open Go.RowKit Wh Tw Mem Grow

theorem ins_at {x : Mb} : ∀ {l : List Mb} {k : Nat}, (∀ (j : Nat) (hj : j < l.length), j < k → l[j].id < x.id) → (∀ (hk : k < l.length), x.id < l[k].id) → k ≤ l.length → ins x l = l.take k ++ x :: l.drop k
  | [], k, _, _, hk => by obtain rfl : k = 0 := by simpa using hk
                          simp [ins]
  | y :: r, 0, _, h2, _ => by
    have := h2 (by simp)
    unfold ins
    rw [if_pos (by simpa using this)]
    simp
  | y :: r, k + 1, h1, h2, hk => by
    have h0 := h1 0 (by simp) (by omega)
    unfold ins
    rw [if_neg (by simp at h0; omega)]
    have ih := ins_at (x := x) (l := r) (k := k) (fun j hj hlt => h1 (j + 1) (by simpa using hj) (by omega)) (fun hk' => h2 (by simpa using hk')) (by simpa using hk)
    rw [ih]
    simp
theorem RowAt.cases {w : World} {ob : Option Addr} {cap : Nat} {l : List Mb} (h : RowAt w ob cap l) : (ob = none ∧ cap = 0 ∧ l = []) ∨ ∃ g, ob = some ⟨g, 0, none⟩ ∧ g < w.heap.size := by
  unfold RowAt at h
  rcases h.2 with ⟨e, h0⟩ | ⟨g, c, cur, e, -, hg, -⟩
  · simp only [Value.slice.injEq] at e
    exact .inl ⟨e.1, e.2.2, List.eq_nil_of_length_eq_zero h0⟩
  · simp only [Value.slice.injEq] at e
    exact .inr ⟨g, e.1, (Array.getElem?_eq_some_iff.1 hg).1⟩

/-- a member's cells, new -/
def newC (id y o t : Int) : List Value := [.int .i64 id, .int .i64 y, .int .i64 o, .int .i64 t, .int .u8 0, .int .i64 0]
def addV (W : World) (now id y o t : Int) (rb k n : Nat) (l : List Mb) (i : Nat) (v : Value) (w : World) : Prop :=
  (i = 0 → ∃ g, v = .slice (some ⟨g, 0, none⟩) 0 0 ∧ w.ownsRow W.heap.size 118 6 (.slice (some ⟨g, 0, none⟩) 0 0) 0 []) ∧
  (i = 5 → ∃ g c, v = .slice (some ⟨g, 0, none⟩) k c ∧ w.ownsRow W.heap.size 118 6 (.slice (some ⟨g, 0, none⟩) k c) k (flatC (l.take k))) ∧
  (i = 9 → ∃ q, v = .slice (some ⟨q, 0, none⟩) 1 1 ∧ W.heap.size ≤ q ∧ Blk w q #[.int .i64 id, .int .i64 y, .int .i64 o, .int .i64 t, .int .u8 0, .int .i64 0] 118) ∧
  (i = 10 → ∃ g c, v = .slice (some ⟨g, 0, none⟩) (k + 1) c ∧ w.ownsRow W.heap.size 118 6 (.slice (some ⟨g, 0, none⟩) (k + 1) c) (k + 1) (flatC (l.take k) ++ newC id y o t)) ∧
  (i = 15 → ∃ g c, v = .slice (some ⟨g, 0, none⟩) (k + 1 + n) c ∧ w.ownsRow W.heap.size 118 6 (.slice (some ⟨g, 0, none⟩) (k + 1 + n) c) (k + 1 + n) (flatC (l.take k) ++ newC id y o t ++ flatC (l.drop k))) ∧
  (i = 17 → ∃ g c, Blk w rb #[.int .i64 now, .slice (some ⟨g, 0, none⟩) (k + 1 + n) c] 92 ∧ w.ownsRow W.heap.size 118 6 (.slice (some ⟨g, 0, none⟩) (k + 1 + n) c) (k + 1 + n) (flatC (l.take k) ++ newC id y o t ++ flatC (l.drop k)))
def addG (id y o t : Int) (rb p : Nat) (u : Nat → Value) (w w' : World) : Prop :=
  (p = 0 → w' = w.alloc (.cells #[] 118)) ∧ (p = 5 → w.grownBy w' (u 0).ownBlock) ∧ (p = 9 → w' = w.alloc (.cells #[.int .i64 id, .int .i64 y, .int .i64 o, .int .i64 t, .int .u8 0, .int .i64 0] 118)) ∧ (p = 10 → w.grownBy w' (u 5).ownBlock) ∧ (p = 15 → w.grownBy w' (u 10).ownBlock) ∧
  (p = 17 → w' = w.setCell ⟨rb, 1, none⟩ (u 15)) ∧ (p ≠ 0 → p ≠ 5 → p ≠ 9 → p ≠ 10 → p ≠ 15 → p ≠ 17 → w' = w)
theorem addG_same {id y o t : Int} {rb p : Nat} {u : Nat → Value} {w : World} (h0 : p ≠ 0) (h1 : p ≠ 5) (h2 : p ≠ 9) (h3 : p ≠ 10) (h4 : p ≠ 15) (h5 : p ≠ 17) : addG id y o t rb p u w w :=
  ⟨fun h => absurd h h0, fun h => absurd h h1, fun h => absurd h h2, fun h => absurd h h3, fun h => absurd h h4, fun h => absurd h h5, fun _ _ _ _ _ _ => rfl⟩
def addCs : List (Nat × Nat) := [(0, 5), (5, 10), (9, 10), (10, 15), (15, 17)]
theorem useI5 {i k : Nat} (h : useI addCs i = some k) : i = 0 ∨ i = 5 ∨ i = 9 ∨ i = 10 ∨ i = 15 := by
  unfold useI addCs at h
  rw [Option.map_eq_some_iff] at h
  obtain ⟨x, hx, -⟩ := h
  have h1 := List.mem_of_find?_eq_some hx
  have h2 := List.find?_some hx
  simp at h1 h2
  rcases h1 with rfl | rfl | rfl | rfl | rfl <;> simp at h2 <;> omega
section
variable {W w1 w2 : World} {now id y o t : Int} {rb k n p : Nat} {l : List Mb} {u : Nat → Value}
theorem add_step (hf : factsI addCs (addV W now id y o t rb k n l) u p w1) (hg : addG id y o t rb p u w1 w2) (hp : p ≠ 17) (hW : W.heap.size ≤ w1.heap.size) : Below W.heap.size w1 w2 := by
  by_cases h0 : p = 0
  · rw [hg.1 h0]; exact (Below.refl _ _).alloc hW _
  by_cases h5 : p = 5
  · subst h5
    obtain ⟨g0, hu, ho⟩ := (hf 0 rfl).1 rfl
    exact (Below.refl _ _).grown (hg.2.1 rfl) hW (fun q hq => by rw [hu] at hq; have := own_q hq; have := (ho.lt g0 rfl).1; omega)
  by_cases h9 : p = 9
  · rw [hg.2.2.1 h9]; exact (Below.refl _ _).alloc hW _
  by_cases h10 : p = 10
  · subst h10
    obtain ⟨g0, c0, hu, ho⟩ := (hf 5 rfl).2.1 rfl
    exact (Below.refl _ _).grown (hg.2.2.2.1 rfl) hW (fun q hq => by rw [hu] at hq; have := own_q hq; have := (ho.lt g0 rfl).1; omega)
  by_cases h15 : p = 15
  · subst h15
    obtain ⟨g0, c0, hu, ho⟩ := (hf 10 rfl).2.2.2.1 rfl
    exact (Below.refl _ _).grown (hg.2.2.2.2.1 rfl) hW (fun q hq => by rw [hu] at hq; have := own_q hq; have := (ho.lt g0 rfl).1; omega)
  rw [hg.2.2.2.2.2.2 h0 h5 h9 h10 h15 hp]; exact Below.refl _ _
theorem addK (_hl : rb < W.heap.size) (hw : Kept (fun i => i = rb) W w1) (hf : factsI addCs (addV W now id y o t rb k n l) u p w1) (hg : addG id y o t rb p u w1 w2) : Kept (fun i => i = rb) W w2 := by
  by_cases h17 : p = 17
  · rw [hg.2.2.2.2.2.1 h17]; exact hw.setCell (fun _ => rfl) _
  have hb := add_step hf hg h17 hw.size
  exact ⟨hb.os.trans hw.os, hb.tape.trans hw.tape, hb.output.trans hw.output, Nat.le_trans hw.size hb.size, fun i hi hx => (hb.block i hi).trans (hw.block i hi hx)⟩
theorem addI (hl : rb < W.heap.size) (hw : Kept (fun i => i = rb) W w1) (hf : factsI addCs (addV W now id y o t rb k n l) u p w1) (hg : addG id y o t rb p u w1 w2) (hp : p ≠ 17) (hI : w1.heap[rb]? = W.heap[rb]?) : w2.heap[rb]? = W.heap[rb]? :=
  ((add_step hf hg hp hw.size).block rb hl).trans hI
theorem addVV {i : Nat} {v : Value} (hv : addV W now id y o t rb k n l i v w1) (hf : factsI addCs (addV W now id y o t rb k n l) u p w1) (hg : addG id y o t rb p u w1 w2)
    (d1 : p ∈ [0, 5, 10, 15, 17] → i ∈ [0, 5, 10, 15, 17] → False) (d2 : p ∈ [9] → i ∈ [9, 10, 15, 17] → False) (d3 : p ∈ [10, 15, 17] → i ∈ [9] → False) : addV W now id y o t rb k n l i v w2 := by
  have same : (p ≠ 0 → p ≠ 5 → p ≠ 9 → p ≠ 10 → p ≠ 15 → p ≠ 17 → addV W now id y o t rb k n l i v w2) := fun a b c d e f => by rw [hg.2.2.2.2.2.2 a b c d e f]; exact hv
  by_cases hi : i ∈ [0, 5, 9, 10, 15, 17]
  · simp at hi
    by_cases h9 : p = 9
    · have hi' : i = 0 ∨ i = 5 := by
        rcases hi with h | h | h | h | h | h
        · exact .inl h
        · exact .inr h
        all_goals exact (d2 (by simp [h9]) (by simp [h])).elim
      rw [hg.2.2.1 h9]
      rcases hi' with rfl | rfl
      · obtain ⟨g, hu, ho⟩ := hv.1 rfl
        exact ⟨fun _ => ⟨g, hu, ho.alloc _⟩, fun h => absurd h (by decide), fun h => absurd h (by decide), fun h => absurd h (by decide), fun h => absurd h (by decide), fun h => absurd h (by decide)⟩
      · obtain ⟨g, c, hu, ho⟩ := hv.2.1 rfl
        exact ⟨fun h => absurd h (by decide), fun _ => ⟨g, c, hu, ho.alloc _⟩, fun h => absurd h (by decide), fun h => absurd h (by decide), fun h => absurd h (by decide), fun h => absurd h (by decide)⟩
    by_cases hp : p ∈ [0, 5, 10, 15, 17]
    · have hi' : i = 9 := by
        rcases hi with h | h | h | h | h | h
        · exact (d1 hp (by simp [h])).elim
        · exact (d1 hp (by simp [h])).elim
        · exact h
        all_goals exact (d1 hp (by simp [h])).elim
      subst hi'
      obtain ⟨q, hu, hq, hb⟩ := hv.2.2.1 rfl
      refine ⟨fun h => absurd h (by decide), fun h => absurd h (by decide), fun _ => ⟨q, hu, hq, ?_⟩, fun h => absurd h (by decide), fun h => absurd h (by decide), fun h => absurd h (by decide)⟩
      simp at hp
      rcases hp with h | h | h | h | h
      · rw [hg.1 h]; exact hb.alloc _
      · subst h
        obtain ⟨g0, hu0, ho⟩ := (hf 0 rfl).1 rfl
        refine ((hg.2.1 rfl).block q hb.lt ?_).trans hb
        rw [hu0]
        intro e
        have := own_q e.symm
        subst this
        rcases ho.2 with ⟨e2, -⟩ | ⟨g', c', cur, e2, -, hg', -, -, hs, -⟩
        · cases e2
        · simp only [Value.slice.injEq, Option.some.injEq, Addr.mk.injEq, true_and, and_true] at e2
          obtain ⟨rfl, rfl⟩ := e2
          unfold Blk at hb
          rw [hg'] at hb
          simp at hb
          rw [hb] at hs
          simp at hs
      all_goals exact (d3 (by simp [h]) (by simp)).elim
    · simp at hp
      exact same hp.1 hp.2.1 h9 hp.2.2.1 hp.2.2.2.1 hp.2.2.2.2
  · simp at hi
    exact ⟨fun h => absurd h hi.1, fun h => absurd h hi.2.1, fun h => absurd h hi.2.2.1, fun h => absurd h hi.2.2.2.1, fun h => absurd h hi.2.2.2.2.1, fun h => absurd h hi.2.2.2.2.2⟩
end

set_option maxHeartbeats 8000000 in
set_option maxRecDepth 100000 in
theorem radd_ok {w : World} {ob : Option Addr} {cap : Nat} {l : List Mb} (h : RowAt w ob cap l) (hl : Ids l) (now id y o t : Int) (hlen : l.length < 10000) (h1 : 0 ≤ id) (h2 : id ≤ 4294967295) (hr : Right ⟨y, o, t⟩) (hm : findM l id = none) (b : Nat) :
    Calls Try.prog 43 #[.agg #[.int .i64 now, .slice ob l.length cap], .int .i64 id, .agg #[.int .i64 y, .int .i64 o, .int .i64 t]] w fun e w' => ∃ g c, e = .returned (.tuple #[.agg #[.int .i64 now, .slice (some ⟨g, 0, none⟩) (l.length + 1) c], .int .i64 0]) ∧
      w'.ownsRow w.heap.size 118 6 (.slice (some ⟨g, 0, none⟩) (l.length + 1) c) (l.length + 1) (flatC (ins ⟨id, b, ⟨y, o, t⟩, ⟨0, 0⟩⟩ l)) ∧ Below w.heap.size w w' := by
  obtain ⟨W, hW, hbW, B0, B1, B2⟩ := add_blks w now y o t (.slice ob l.length cap)
  have HC := Lib.hid (fun W => rright_yes y o t hr W)
  have HF : Hid (∀ W', Below w.heap.size w W' → Calls Try.prog 59 #[.agg #[.int .i64 now, .slice ob l.length cap], .int .i64 id] W' fun e w' => e = .returned (.int .i64 (-1)) ∧ Below W'.heap.size W' w') := Lib.hid fun W' hb' => rfind_no (h.below' hb') hl now id (by omega) hm
  have HB0 := Lib.hid B0
  have HB1 := Lib.hid B1
  have HB2 := Lib.hid B2
  have HROW := Lib.hid h
  have hn := findM_none hm
  have HN := Lib.hid hn
  have HM := Lib.hid h.memb
  have hcap := h.cap
  have hcs := h.cases
  obtain ⟨p0, p1, p2, p3, p4, p5⟩ := B1.three
  obtain ⟨j0, hj0, hj1, hj2, hj3⟩ := info_parts info118
  clear B0 B1 B2 hr h hm hn hl
  subst hW
  rcases hcs with ⟨rfl, rfl, rfl⟩ | ⟨g, rfl, hg⟩
  · show Calls Try.prog 43 #[.agg #[.int .i64 now, .slice none 0 0], .int .i64 id, .agg #[.int .i64 y, .int .i64 o, .int .i64 t]] w _
    have HF : Hid (∀ W', Below w.heap.size w W' → Calls Try.prog 59 #[.agg #[.int .i64 now, .slice none 0 0], .int .i64 id] W' fun e w' => e = .returned (.int .i64 (-1)) ∧ Below W'.heap.size W' w') := HF
    have HB0 : Hid (Blk _ w.heap.size #[.int .i64 now, .slice none 0 0] 92) := HB0
    have hbW := hbW
    go_enter Try.func43, Try.ntmps43
    go_upto_region 7 with (first | (go_at_call 58; refine (HC.out _).mono ?_; rintro e w' ⟨rfl, hb⟩; have B0 := (HB0.out.below hb (by simp <;> omega)); have B1 := (HB1.out.below hb (by simp <;> omega)); have B2 := (HB2.out.below hb (by simp <;> omega)); have hbw := hbW.trans (hb.mono (by simp <;> omega)); have hzw := hbw.size; have HB0 := Lib.hid B0; have HB1 := Lib.hid B1; have HB2 := Lib.hid B2; obtain ⟨x0, x1, x2, x3⟩ := B0.two; clear B0 B1 B2 hb) | (go_at_call 59; refine (HF.out _ hbw).mono ?_; rintro e w2 ⟨rfl, hb⟩; have HB0 := Lib.hid (HB0.out.below hb HB0.out.lt); have HB1 := Lib.hid (HB1.out.below hb HB1.out.lt); have HB2 := Lib.hid (HB2.out.below hb HB2.out.lt); have hbw := hbw.trans (hb.mono hzw); obtain ⟨x0, x1, x2, x3⟩ := HB0.out.two; clear hb))
    go_wp2_with fail
    have hz2 := hbw.size
    go_rounds 1
    all_goals go_upto_region 10 with (fail)
    have HC0 := Lib.hid HB0.out
    have HC1 := Lib.hid HB1.out
    have HC2 := Lib.hid HB2.out
    have hbW := hbw
    clear x0 x1 x2 x3 p0 p1 p2 p3 p4 p5
    obtain ⟨W, hWW⟩ : ∃ W, W = w2 := ⟨_, rfl⟩
    subst hWW
    have HS1 : Hid (∀ w', Kept (fun i => i = w.heap.size) W w' → SrcAt w' (.slice none 0 0) 0 (flatC ([] : List Mb))) := Lib.hid fun w' hb' => .inl ⟨_, rfl, rfl, rfl⟩
    have HS2 : Hid (∀ w' c, Kept (fun i => i = w.heap.size) W w' → SrcAt w' (.slice none 0 c) 0 (flatC ([] : List Mb))) := Lib.hid fun w' c hb' => .inl ⟨_, rfl, rfl, rfl⟩
    have hzW := hbW.size
    have hl0 := HC0.out.lt
    have hl2 := HC2.out.lt
    have HE1 := HC1.out.three
    have hwr : True := trivial
    have hm1 : 0 + 0 ≤ maxLen := by unfold maxLen; omega
    have hy1 : (0 + 0) * 48 ≤ 140737488355328 := by omega
    have hm2 : 1 ≤ maxLen := by unfold maxLen; omega
    have hy2 : (1) * 48 ≤ 140737488355328 := by omega
    have hm3 : 1 ≤ maxLen := by unfold maxLen; omega
    have hy3 : (1) * 48 ≤ 140737488355328 := by omega
    have HL1 : Hid ((flatC (([] : List Mb))).length = 0 * 6) := Lib.hid rfl
    have HL2 : Hid ((flatC (([] : List Mb))).length = 0 * 6) := Lib.hid rfl
    have HN1 : Hid (∀ u ∈ newC id y o t, u.oneCell' = true) := Lib.hid (by simp [newC, Value.oneCell'])
    clear hwr HE1
    go_cut [] (fun wx => ∃ g2 c2, Kept (fun i => i = w.heap.size) W wx ∧ Blk wx w.heap.size #[.int .i64 now, .slice (some ⟨g2, 0, none⟩) (1) c2] 92 ∧ wx.ownsRow W.heap.size 118 6 (.slice (some ⟨g2, 0, none⟩) (1) c2) (1) (flatC (([] : List Mb)) ++ newC id y o t ++ flatC (([] : List Mb))))
    case first =>
      apply wp_flowI ?hm ?hok [none, some _, some _, some _, some _, none, some _, some _, some _, none, none, some _, some _, some _, some _, none, some _, none] addCs (Kept (fun i => i = w.heap.size) W) (fun _ X => X.heap[w.heap.size]? = W.heap[w.heap.size]?) (addV W now id y o t w.heap.size 0 0 ([] : List Mb)) (addG id y o t w.heap.size)
      case hm => rfl
      case hok => kernel_rfl
      case h =>
        intro u
        apply flowI_open (j := 0)
        · rfl
        · intro W1 hW hI hF K hK
          go_wp2_with fail
          exact hK _ _ ⟨fun _ => rfl, fun h => absurd h (by decide), fun h => absurd h (by decide), fun h => absurd h (by decide), fun h => absurd h (by decide), fun h => absurd h (by decide), fun h _ _ _ _ _ => absurd rfl h⟩ ⟨fun _ => ⟨_, rfl, World.ownsRow_made (base := W.heap.size) (e := 118) (size := 6) W1 #[] 0 hW.size (by decide) (by rfl)⟩, fun h => absurd h (by decide), fun h => absurd h (by decide), fun h => absurd h (by decide), fun h => absurd h (by decide), fun h => absurd h (by decide)⟩
        simp only [Act.put, List.setIfInBounds_toArray, List.set_cons_zero, List.set_cons_succ, Nat.reduceAdd]
        iterate 4
          (apply flowI_yes
           · rfl
           · intro W1 hW hI hF K hK
             have hB : Blk W1 w.heap.size #[.int .i64 now, .slice none 0 0] 92 := hI.trans HC0.out
             obtain ⟨hc0, hc, hz0, hz⟩ := hB.two
             obtain ⟨q0, q1, q2, -, -, -⟩ := (HC1.out.kept hW (by omega)).three
             have HB := Lib.hid hB
             clear hB
             go_wp2_with fail
             exact addG_same (by decide) (by decide) (by decide) (by decide) (by decide) (by decide)
           simp only [Act.put, List.setIfInBounds_toArray, List.set_cons_zero, List.set_cons_succ, Nat.reduceAdd])
        apply flowI_open (j := 5)
        · rfl
        · intro W1 hW hI hF K hK
          obtain ⟨g0, hu, ho⟩ := (hF 0 rfl).1 rfl
          refine wp_append_some _ _ 90 rfl Try.underlying90 hj0 hj1 hj2 hj3 rfl g0 0 0 [] hu ho _ 0 _ rfl (HS1.out W1 hW) HL1.out (flatC_one _) hm1 hy1 hW.size ?_
          intro g' c' w'' hown hgrow _ _
          exact hK _ w'' ⟨fun h => absurd h (by decide), fun _ => by rw [hu]; exact hgrow, fun h => absurd h (by decide), fun h => absurd h (by decide), fun h => absurd h (by decide), fun h => absurd h (by decide), fun _ h _ _ _ _ => absurd rfl h⟩ ⟨fun h => absurd h (by decide), fun _ => ⟨g', c', by rfl, own_z hown⟩, fun h => absurd h (by decide), fun h => absurd h (by decide), fun h => absurd h (by decide), fun h => absurd h (by decide)⟩
        simp only [Act.put, List.setIfInBounds_toArray, List.set_cons_zero, List.set_cons_succ, Nat.reduceAdd]
        iterate 3
          (apply flowI_yes
           · rfl
           · intro W1 hW hI hF K hK
             have hB : Blk W1 w.heap.size #[.int .i64 now, .slice none 0 0] 92 := hI.trans HC0.out
             obtain ⟨hc0, hc, hz0, hz⟩ := hB.two
             obtain ⟨q0, q1, q2, -, -, -⟩ := (HC1.out.kept hW (by omega)).three
             have HB := Lib.hid hB
             clear hB
             go_wp2_with fail
             exact addG_same (by decide) (by decide) (by decide) (by decide) (by decide) (by decide)
           simp only [Act.put, List.setIfInBounds_toArray, List.set_cons_zero, List.set_cons_succ, Nat.reduceAdd])
        apply flowI_open (j := 9)
        · rfl
        · intro W1 hW hI hF K hK
          go_wp2_with fail
          exact hK _ _ ⟨fun h => absurd h (by decide), fun h => absurd h (by decide), fun _ => rfl, fun h => absurd h (by decide), fun h => absurd h (by decide), fun h => absurd h (by decide), fun _ _ h _ _ _ => absurd rfl h⟩ ⟨fun h => absurd h (by decide), fun h => absurd h (by decide), fun _ => ⟨_, rfl, hW.size, Blk.new _ _ _⟩, fun h => absurd h (by decide), fun h => absurd h (by decide), fun h => absurd h (by decide)⟩
        simp only [Act.put, List.setIfInBounds_toArray, List.set_cons_zero, List.set_cons_succ, Nat.reduceAdd]
        apply flowI_open (j := 10)
        · rfl
        · intro W1 hW hI hF K hK
          obtain ⟨g0, c0, hu, ho⟩ := (hF 5 rfl).2.1 rfl
          obtain ⟨q, hu9, hq9, hb9⟩ := (hF 9 rfl).2.2.1 rfl
          refine wp_append_some _ _ 90 rfl Try.underlying90 hj0 hj1 hj2 hj3 rfl g0 0 c0 _ hu ho _ 1 (newC id y o t) hu9 (.inr ⟨_, _, rfl, World.news_of_block hb9⟩) (by rfl) HN1.out hm2 hy2 hW.size ?_
          intro g' c' w'' hown hgrow _ _
          exact hK _ w'' ⟨fun h => absurd h (by decide), fun h => absurd h (by decide), fun h => absurd h (by decide), fun _ => by rw [hu]; exact hgrow, fun h => absurd h (by decide), fun h => absurd h (by decide), fun _ _ _ h _ _ => absurd rfl h⟩ ⟨fun h => absurd h (by decide), fun h => absurd h (by decide), fun h => absurd h (by decide), fun _ => ⟨g', c', rfl, hown⟩, fun h => absurd h (by decide), fun h => absurd h (by decide)⟩
        simp only [Act.put, List.setIfInBounds_toArray, List.set_cons_zero, List.set_cons_succ, Nat.reduceAdd]
        iterate 4
          (apply flowI_yes
           · rfl
           · intro W1 hW hI hF K hK
             have hB : Blk W1 w.heap.size #[.int .i64 now, .slice none 0 0] 92 := hI.trans HC0.out
             obtain ⟨hc0, hc, hz0, hz⟩ := hB.two
             obtain ⟨q0, q1, q2, -, -, -⟩ := (HC1.out.kept hW (by omega)).three
             have HB := Lib.hid hB
             clear hB
             go_wp2_with fail
             exact addG_same (by decide) (by decide) (by decide) (by decide) (by decide) (by decide)
           simp only [Act.put, List.setIfInBounds_toArray, List.set_cons_zero, List.set_cons_succ, Nat.reduceAdd])
        apply flowI_open (j := 15)
        · rfl
        · intro W1 hW hI hF K hK
          obtain ⟨g0, c0, hu, ho⟩ := (hF 10 rfl).2.2.2.1 rfl
          refine wp_append_some _ _ 90 rfl Try.underlying90 hj0 hj1 hj2 hj3 rfl g0 (1) c0 _ hu ho _ 0 _ rfl (HS2.out W1 _ hW) HL2.out (flatC_one _) hm3 hy3 hW.size ?_
          intro g' c' w'' hown hgrow _ _
          exact hK _ w'' ⟨fun h => absurd h (by decide), fun h => absurd h (by decide), fun h => absurd h (by decide), fun h => absurd h (by decide), fun _ => by rw [hu]; exact hgrow, fun h => absurd h (by decide), fun _ _ _ _ h _ => absurd rfl h⟩ ⟨fun h => absurd h (by decide), fun h => absurd h (by decide), fun h => absurd h (by decide), fun h => absurd h (by decide), fun _ => ⟨g', c', rfl, hown⟩, fun h => absurd h (by decide)⟩
        simp only [Act.put, List.setIfInBounds_toArray, List.set_cons_zero, List.set_cons_succ, Nat.reduceAdd]
        iterate 1
          (apply flowI_yes
           · rfl
           · intro W1 hW hI hF K hK
             have hB : Blk W1 w.heap.size #[.int .i64 now, .slice none 0 0] 92 := hI.trans HC0.out
             obtain ⟨hc0, hc, hz0, hz⟩ := hB.two
             obtain ⟨q0, q1, q2, -, -, -⟩ := (HC1.out.kept hW (by omega)).three
             have HB := Lib.hid hB
             clear hB
             go_wp2_with fail
             exact addG_same (by decide) (by decide) (by decide) (by decide) (by decide) (by decide)
           simp only [Act.put, List.setIfInBounds_toArray, List.set_cons_zero, List.set_cons_succ, Nat.reduceAdd])
        apply flowI_open (j := 17)
        · rfl
        · intro W1 hW hI hF K hK
          obtain ⟨g0, c0, hu, ho⟩ := (hF 15 rfl).2.2.2.2.1 rfl
          have hB : Blk W1 w.heap.size #[.int .i64 now, .slice none 0 0] 92 := hI.trans HC0.out
          obtain ⟨hc0, hc, hz0, hz⟩ := hB.two
          have HB := Lib.hid hB
          clear hB
          have hst : addG id y o t w.heap.size 17 u W1 (W1.setCell ⟨w.heap.size, 1, none⟩ (.slice (some ⟨g0, 0, none⟩) (1) c0)) := ⟨fun h => absurd h (by decide), fun h => absurd h (by decide), fun h => absurd h (by decide), fun h => absurd h (by decide), fun h => absurd h (by decide), fun _ => by rw [hu], fun _ _ _ _ _ h => absurd rfl h⟩
          have hov : addV W now id y o t w.heap.size 0 0 ([] : List Mb) 17 undef (W1.setCell ⟨w.heap.size, 1, none⟩ (.slice (some ⟨g0, 0, none⟩) (1) c0)) := ⟨fun h => absurd h (by decide), fun h => absurd h (by decide), fun h => absurd h (by decide), fun h => absurd h (by decide), fun h => absurd h (by decide), fun _ => ⟨g0, c0, HB.out.set 1 _, ownsRow_setCell_below (a := ⟨w.heap.size, 1, none⟩) ho hl0 _⟩⟩
          have HST := Lib.hid hst
          have HOV := Lib.hid hov
          clear hst hov hF ho
          rw [hu] at hK ⊢
          skip
          go_wp2_with fail
          exact hK _ _ HST.out HOV.out
        simp only [Act.put]
        refine flowI_end fun W7 hb7 hV7 => ?_
        obtain ⟨g2, c2, hc2, ho2⟩ := (hV7 17 rfl (by decide) rfl).2.2.2.2.2 rfl
        have HC2' := Lib.hid hc2
        have HO2 := Lib.hid ho2
        clear hc2 ho2 hV7
        skip
        go_wp2
        go_meet
        exact ⟨g2, c2, hb7, HC2'.out, HO2.out⟩
      case hokI => kernel_rfl
      case hcs => exact fun i q h => by rcases useI5 h with rfl | rfl | rfl | rfl | rfl <;> rfl
      case hW0 => exact (Kept.refl _ _).drew
      case hI0 => exact fun _ _ => rfl
      case hIk =>
        intro p i u w1 w2 hpi hbit hi hw hf hg hI
        refine addI hl0 hw hf hg ?_ hI
        intro e
        subst e
        exact last_no (by kernel_rfl) hi hpi hbit
      case hW => exact fun p u w1 w2 hw hf hg => addK hl0 hw hf hg
      case hG =>
        intro p i u w1 w2 hlive _ hw hf hg hv
        exact addVV hv hf hg (dead_no (by kernel_rfl) hlive) (dead_no (by kernel_rfl) hlive) (dead_no (by kernel_rfl) hlive)
    case rest =>
      obtain ⟨g2, c2, hkp, hcb, ho⟩ := hcut
      obtain ⟨hc0, hc1, -, -⟩ := hcb.two
      have D2 := HC2.out.kept hkp (by omega)
      obtain ⟨y0, y1, y2, y3⟩ := D2.two
      have hbx : Below w.heap.size w wc := hbW.trans (hkp.belowOf hzW (fun i hi e => by omega))
      have HO := Lib.hid ho
      clear D2 ho hcb HC0 HC1 HC2 HS1 HS2 HL1 HL2 hkp
      go_wp2
      refine bodyPost_ret (v := .tuple #[.agg #[.int .i64 now, .slice (some ⟨g2, 0, none⟩) (1) c2], .int .i64 0]) ?_ rfl ⟨g2, c2, ?_, ?_, ?_⟩
      · simp [results, Try.results43, go_sem, y0, y1]
      · rfl
      · exact own_weak (ownsRow_setCell_below (ownsRow_setCell_below HO.out (by show w.heap.size + 1 + 1 < _; omega) _) (by show w.heap.size + 1 + 1 < _; omega) _) hzW
      · exact (hbx.setCell (by show w.heap.size ≤ w.heap.size + 1 + 1; omega) _).setCell (by show w.heap.size ≤ w.heap.size + 1 + 1; omega) _
  · have hlc : (l.length : Int) ≤ cap := by omega
    have hlf : ((l.length : Int) == 10000) = false := by simp; omega
    go_enter Try.func43, Try.ntmps43
    go_upto_region 7 with (first | (go_at_call 58; refine (HC.out _).mono ?_; rintro e w' ⟨rfl, hb⟩; have B0 := (HB0.out.below hb (by simp <;> omega)); have B1 := (HB1.out.below hb (by simp <;> omega)); have B2 := (HB2.out.below hb (by simp <;> omega)); have hbw := hbW.trans (hb.mono (by simp <;> omega)); have hzw := hbw.size; have HB0 := Lib.hid B0; have HB1 := Lib.hid B1; have HB2 := Lib.hid B2; obtain ⟨x0, x1, x2, x3⟩ := B0.two; clear B0 B1 B2 hb) | (go_at_call 59; refine (HF.out _ hbw).mono ?_; rintro e w2 ⟨rfl, hb⟩; have HB0 := Lib.hid (HB0.out.below hb HB0.out.lt); have HB1 := Lib.hid (HB1.out.below hb HB1.out.lt); have HB2 := Lib.hid (HB2.out.below hb HB2.out.lt); have hbw := hbw.trans (hb.mono hzw); obtain ⟨x0, x1, x2, x3⟩ := HB0.out.two; clear hb))
    go_wp2_with fail
    have hz2 := hbw.size
    go_loopw [8] (fun i wr => ∃ k : Nat, k ≤ l.length ∧ i = .int .i64 k ∧ Below w2.heap.size w2 wr ∧ Hid (∀ (j : Nat) (hj : j < l.length), j < k → l[j].id < id)) (fun i _ => l.length - (intOf i).toNat)
    case atStart => exact ⟨0, Nat.zero_le _, rfl, Below.refl _ _, Lib.hid (fun j hj h => absurd h (by omega))⟩
    case round =>
      obtain ⟨k, hk, rfl, hbr, HLS⟩ := hrel
      have hC0 := HB0.out.below hbr HB0.out.lt
      obtain ⟨b0, b1, -, -⟩ := hC0.two
      have HC0 := Lib.hid hC0
      have HC1 := Lib.hid (HB1.out.below hbr HB1.out.lt)
      have HC2 := Lib.hid (HB2.out.below hbr HB2.out.lt)
      have hbW := hbw.trans (hbr.mono hz2)
      clear hC0 x0 x1 x2 x3 p0 p1 p2 p3 p4 p5
      have hk0 : (0 : Int) ≤ k := by omega
      have hkl : (k : Int) ≤ l.length := by omega
      have hkc : (k : Int) ≤ cap := by omega
      by_cases hlt : k < l.length
      · obtain ⟨g', hg', -, c0, -⟩ := HM.out k (by simpa using hlt)
        obtain rfl : g = g' := by simpa using hg'
        simp only [List.getElem_map, core] at c0
        have d0 := (hbW.cell (p := ⟨g, k * 6, none⟩) hg).trans c0
        have hnm := HN.out l[k] (List.getElem_mem hlt)
        obtain ⟨z, hz⟩ : ∃ z, z = l[k].id := ⟨_, rfl⟩
        rw [← hz] at d0 hnm
        have HZ := Lib.hid hz
        have hltI : (k : Int) < l.length := by omega
        clear hz c0
        by_cases hgo : z < id
        · go_wp2
          go_roundw
          case rel => exact ⟨k + 1, by omega, by go_num, hbr, Lib.hid (fun j hj h => by
            by_cases e : j = k
            · subst e; rw [← HZ.out]; exact hgo
            · exact HLS.out j hj (by omega))⟩
          case measure => simp [intOf]; omega
        · have hgt : id < z := by omega
          have HINS : Hid (ins (⟨id, b, ⟨y, o, t⟩, ⟨0, 0⟩⟩ : Mb) l = l.take k ++ ⟨id, b, ⟨y, o, t⟩, ⟨0, 0⟩⟩ :: l.drop k) := Lib.hid (ins_at HLS.out (fun hk' => by rw [HZ.out] at hgt; exact hgt) hk)
          go_upto_region 10 with (fail)
          clear b0 b1 d0
          obtain ⟨W, hWW⟩ : ∃ W, W = wr := ⟨_, rfl⟩
          subst hWW
          have HRW := Lib.hid (own_at HROW.out (fun q _ hq => hbW.block q hq))
          have HS1 : Hid (∀ w', Kept (fun i => i = w.heap.size) W w' → SrcAt w' (.slice (some ⟨g, 0, none⟩) k cap) k (flatC (l.take k))) := Lib.hid fun w' hb' => by
            have h0 : RowAt w' (some ⟨g, 0, none⟩) cap l := own_keptX HRW.out hb' (fun q hq e => by have := own_q hq; omega)
            simpa using h0.src 0 k cap (by omega)
          have HS2 : Hid (∀ w' c, Kept (fun i => i = w.heap.size) W w' → SrcAt w' (.slice (some ⟨g, k * 6, none⟩) (l.length - k) c) (l.length - k) (flatC (l.drop k))) := Lib.hid fun w' c hb' => by
            have h0 : RowAt w' (some ⟨g, 0, none⟩) cap l := own_keptX HRW.out hb' (fun q hq e => by have := own_q hq; omega)
            have h1 := h0.src k (l.length - k) c (by omega)
            rwa [List.take_of_length_le (by simp)] at h1
          have hzW := hbW.size
          have hl0 := HC0.out.lt
          have hl2 := HC2.out.lt
          have HE1 := HC1.out.three
          have hwr : True := trivial
          have hm1 : 0 + k ≤ maxLen := by unfold maxLen; omega
          have hy1 : (0 + k) * 48 ≤ 140737488355328 := by omega
          have hm2 : k + 1 ≤ maxLen := by unfold maxLen; omega
          have hy2 : (k + 1) * 48 ≤ 140737488355328 := by omega
          have hm3 : k + 1 + (l.length - k) ≤ maxLen := by unfold maxLen; omega
          have hy3 : (k + 1 + (l.length - k)) * 48 ≤ 140737488355328 := by omega
          have HL1 : Hid ((flatC (l.take k)).length = k * 6) := Lib.hid (by rw [flatC_len, List.length_take]; omega)
          have HL2 : Hid ((flatC (l.drop k)).length = (l.length - k) * 6) := Lib.hid (by rw [flatC_len, List.length_drop])
          have HN1 : Hid (∀ u ∈ newC id y o t, u.oneCell' = true) := Lib.hid (by simp [newC, Value.oneCell'])
          clear hwr HE1
          go_cut [] (fun wx => ∃ g2 c2, Kept (fun i => i = w.heap.size) W wx ∧ Blk wx w.heap.size #[.int .i64 now, .slice (some ⟨g2, 0, none⟩) (k + 1 + (l.length - k)) c2] 92 ∧ wx.ownsRow W.heap.size 118 6 (.slice (some ⟨g2, 0, none⟩) (k + 1 + (l.length - k)) c2) (k + 1 + (l.length - k)) (flatC (l.take k) ++ newC id y o t ++ flatC (l.drop k)))
          case first =>
            apply wp_flowI ?hm ?hok [none, some _, some _, some _, some _, none, some _, some _, some _, none, none, some _, some _, some _, some _, none, some _, none] addCs (Kept (fun i => i = w.heap.size) W) (fun _ X => X.heap[w.heap.size]? = W.heap[w.heap.size]?) (addV W now id y o t w.heap.size k (l.length - k) l) (addG id y o t w.heap.size)
            case hm => rfl
            case hok => kernel_rfl
            case h =>
              intro u
              apply flowI_open (j := 0)
              · rfl
              · intro W1 hW hI hF K hK
                go_wp2_with fail
                exact hK _ _ ⟨fun _ => rfl, fun h => absurd h (by decide), fun h => absurd h (by decide), fun h => absurd h (by decide), fun h => absurd h (by decide), fun h => absurd h (by decide), fun h _ _ _ _ _ => absurd rfl h⟩ ⟨fun _ => ⟨_, rfl, World.ownsRow_made (base := W.heap.size) (e := 118) (size := 6) W1 #[] 0 hW.size (by decide) (by rfl)⟩, fun h => absurd h (by decide), fun h => absurd h (by decide), fun h => absurd h (by decide), fun h => absurd h (by decide), fun h => absurd h (by decide)⟩
              simp only [Act.put, List.setIfInBounds_toArray, List.set_cons_zero, List.set_cons_succ, Nat.reduceAdd]
              iterate 4
                (apply flowI_yes
                 · rfl
                 · intro W1 hW hI hF K hK
                   have hB : Blk W1 w.heap.size #[.int .i64 now, .slice (some ⟨g, 0, none⟩) l.length cap] 92 := hI.trans HC0.out
                   obtain ⟨hc0, hc, hz0, hz⟩ := hB.two
                   obtain ⟨q0, q1, q2, -, -, -⟩ := (HC1.out.kept hW (by omega)).three
                   have HB := Lib.hid hB
                   clear hB
                   go_wp2_with fail
                   exact addG_same (by decide) (by decide) (by decide) (by decide) (by decide) (by decide)
                 simp only [Act.put, List.setIfInBounds_toArray, List.set_cons_zero, List.set_cons_succ, Nat.reduceAdd])
              apply flowI_open (j := 5)
              · rfl
              · intro W1 hW hI hF K hK
                obtain ⟨g0, hu, ho⟩ := (hF 0 rfl).1 rfl
                refine wp_append_some _ _ 90 rfl Try.underlying90 hj0 hj1 hj2 hj3 rfl g0 0 0 [] hu ho _ k _ rfl (HS1.out W1 hW) HL1.out (flatC_one _) hm1 hy1 hW.size ?_
                intro g' c' w'' hown hgrow _ _
                exact hK _ w'' ⟨fun h => absurd h (by decide), fun _ => by rw [hu]; exact hgrow, fun h => absurd h (by decide), fun h => absurd h (by decide), fun h => absurd h (by decide), fun h => absurd h (by decide), fun _ h _ _ _ _ => absurd rfl h⟩ ⟨fun h => absurd h (by decide), fun _ => ⟨g', c', by rw [Nat.zero_add], own_z hown⟩, fun h => absurd h (by decide), fun h => absurd h (by decide), fun h => absurd h (by decide), fun h => absurd h (by decide)⟩
              simp only [Act.put, List.setIfInBounds_toArray, List.set_cons_zero, List.set_cons_succ, Nat.reduceAdd]
              iterate 3
                (apply flowI_yes
                 · rfl
                 · intro W1 hW hI hF K hK
                   have hB : Blk W1 w.heap.size #[.int .i64 now, .slice (some ⟨g, 0, none⟩) l.length cap] 92 := hI.trans HC0.out
                   obtain ⟨hc0, hc, hz0, hz⟩ := hB.two
                   obtain ⟨q0, q1, q2, -, -, -⟩ := (HC1.out.kept hW (by omega)).three
                   have HB := Lib.hid hB
                   clear hB
                   go_wp2_with fail
                   exact addG_same (by decide) (by decide) (by decide) (by decide) (by decide) (by decide)
                 simp only [Act.put, List.setIfInBounds_toArray, List.set_cons_zero, List.set_cons_succ, Nat.reduceAdd])
              apply flowI_open (j := 9)
              · rfl
              · intro W1 hW hI hF K hK
                go_wp2_with fail
                exact hK _ _ ⟨fun h => absurd h (by decide), fun h => absurd h (by decide), fun _ => rfl, fun h => absurd h (by decide), fun h => absurd h (by decide), fun h => absurd h (by decide), fun _ _ h _ _ _ => absurd rfl h⟩ ⟨fun h => absurd h (by decide), fun h => absurd h (by decide), fun _ => ⟨_, rfl, hW.size, Blk.new _ _ _⟩, fun h => absurd h (by decide), fun h => absurd h (by decide), fun h => absurd h (by decide)⟩
              simp only [Act.put, List.setIfInBounds_toArray, List.set_cons_zero, List.set_cons_succ, Nat.reduceAdd]
              apply flowI_open (j := 10)
              · rfl
              · intro W1 hW hI hF K hK
                obtain ⟨g0, c0, hu, ho⟩ := (hF 5 rfl).2.1 rfl
                obtain ⟨q, hu9, hq9, hb9⟩ := (hF 9 rfl).2.2.1 rfl
                refine wp_append_some _ _ 90 rfl Try.underlying90 hj0 hj1 hj2 hj3 rfl g0 k c0 _ hu ho _ 1 (newC id y o t) hu9 (.inr ⟨_, _, rfl, World.news_of_block hb9⟩) (by rfl) HN1.out hm2 hy2 hW.size ?_
                intro g' c' w'' hown hgrow _ _
                exact hK _ w'' ⟨fun h => absurd h (by decide), fun h => absurd h (by decide), fun h => absurd h (by decide), fun _ => by rw [hu]; exact hgrow, fun h => absurd h (by decide), fun h => absurd h (by decide), fun _ _ _ h _ _ => absurd rfl h⟩ ⟨fun h => absurd h (by decide), fun h => absurd h (by decide), fun h => absurd h (by decide), fun _ => ⟨g', c', rfl, hown⟩, fun h => absurd h (by decide), fun h => absurd h (by decide)⟩
              simp only [Act.put, List.setIfInBounds_toArray, List.set_cons_zero, List.set_cons_succ, Nat.reduceAdd]
              iterate 4
                (apply flowI_yes
                 · rfl
                 · intro W1 hW hI hF K hK
                   have hB : Blk W1 w.heap.size #[.int .i64 now, .slice (some ⟨g, 0, none⟩) l.length cap] 92 := hI.trans HC0.out
                   obtain ⟨hc0, hc, hz0, hz⟩ := hB.two
                   obtain ⟨q0, q1, q2, -, -, -⟩ := (HC1.out.kept hW (by omega)).three
                   have HB := Lib.hid hB
                   clear hB
                   go_wp2_with fail
                   exact addG_same (by decide) (by decide) (by decide) (by decide) (by decide) (by decide)
                 simp only [Act.put, List.setIfInBounds_toArray, List.set_cons_zero, List.set_cons_succ, Nat.reduceAdd])
              apply flowI_open (j := 15)
              · rfl
              · intro W1 hW hI hF K hK
                obtain ⟨g0, c0, hu, ho⟩ := (hF 10 rfl).2.2.2.1 rfl
                refine wp_append_some _ _ 90 rfl Try.underlying90 hj0 hj1 hj2 hj3 rfl g0 (k + 1) c0 _ hu ho _ (l.length - k) _ rfl (HS2.out W1 _ hW) HL2.out (flatC_one _) hm3 hy3 hW.size ?_
                intro g' c' w'' hown hgrow _ _
                exact hK _ w'' ⟨fun h => absurd h (by decide), fun h => absurd h (by decide), fun h => absurd h (by decide), fun h => absurd h (by decide), fun _ => by rw [hu]; exact hgrow, fun h => absurd h (by decide), fun _ _ _ _ h _ => absurd rfl h⟩ ⟨fun h => absurd h (by decide), fun h => absurd h (by decide), fun h => absurd h (by decide), fun h => absurd h (by decide), fun _ => ⟨g', c', rfl, hown⟩, fun h => absurd h (by decide)⟩
              simp only [Act.put, List.setIfInBounds_toArray, List.set_cons_zero, List.set_cons_succ, Nat.reduceAdd]
              iterate 1
                (apply flowI_yes
                 · rfl
                 · intro W1 hW hI hF K hK
                   have hB : Blk W1 w.heap.size #[.int .i64 now, .slice (some ⟨g, 0, none⟩) l.length cap] 92 := hI.trans HC0.out
                   obtain ⟨hc0, hc, hz0, hz⟩ := hB.two
                   obtain ⟨q0, q1, q2, -, -, -⟩ := (HC1.out.kept hW (by omega)).three
                   have HB := Lib.hid hB
                   clear hB
                   go_wp2_with fail
                   exact addG_same (by decide) (by decide) (by decide) (by decide) (by decide) (by decide)
                 simp only [Act.put, List.setIfInBounds_toArray, List.set_cons_zero, List.set_cons_succ, Nat.reduceAdd])
              apply flowI_open (j := 17)
              · rfl
              · intro W1 hW hI hF K hK
                obtain ⟨g0, c0, hu, ho⟩ := (hF 15 rfl).2.2.2.2.1 rfl
                have hB : Blk W1 w.heap.size #[.int .i64 now, .slice (some ⟨g, 0, none⟩) l.length cap] 92 := hI.trans HC0.out
                obtain ⟨hc0, hc, hz0, hz⟩ := hB.two
                have HB := Lib.hid hB
                clear hB
                have hst : addG id y o t w.heap.size 17 u W1 (W1.setCell ⟨w.heap.size, 1, none⟩ (.slice (some ⟨g0, 0, none⟩) (k + 1 + (l.length - k)) c0)) := ⟨fun h => absurd h (by decide), fun h => absurd h (by decide), fun h => absurd h (by decide), fun h => absurd h (by decide), fun h => absurd h (by decide), fun _ => by rw [hu], fun _ _ _ _ _ h => absurd rfl h⟩
                have hov : addV W now id y o t w.heap.size k (l.length - k) l 17 undef (W1.setCell ⟨w.heap.size, 1, none⟩ (.slice (some ⟨g0, 0, none⟩) (k + 1 + (l.length - k)) c0)) := ⟨fun h => absurd h (by decide), fun h => absurd h (by decide), fun h => absurd h (by decide), fun h => absurd h (by decide), fun h => absurd h (by decide), fun _ => ⟨g0, c0, HB.out.set 1 _, ownsRow_setCell_below (a := ⟨w.heap.size, 1, none⟩) ho hl0 _⟩⟩
                have HST := Lib.hid hst
                have HOV := Lib.hid hov
                clear hst hov hF ho
                rw [hu] at hK ⊢
                skip
                go_wp2_with fail
                exact hK _ _ HST.out HOV.out
              simp only [Act.put]
              refine flowI_end fun W7 hb7 hV7 => ?_
              obtain ⟨g2, c2, hc2, ho2⟩ := (hV7 17 rfl (by decide) rfl).2.2.2.2.2 rfl
              have HC2' := Lib.hid hc2
              have HO2 := Lib.hid ho2
              clear hc2 ho2 hV7
              skip
              go_wp2
              go_meet
              exact ⟨g2, c2, hb7, HC2'.out, HO2.out⟩
            case hokI => kernel_rfl
            case hcs => exact fun i q h => by rcases useI5 h with rfl | rfl | rfl | rfl | rfl <;> rfl
            case hW0 => exact (Kept.refl _ _).drew
            case hI0 => exact fun _ _ => rfl
            case hIk =>
              intro p i u w1 w2 hpi hbit hi hw hf hg hI
              refine addI hl0 hw hf hg ?_ hI
              intro e
              subst e
              exact last_no (by kernel_rfl) hi hpi hbit
            case hW => exact fun p u w1 w2 hw hf hg => addK hl0 hw hf hg
            case hG =>
              intro p i u w1 w2 hlive _ hw hf hg hv
              exact addVV hv hf hg (dead_no (by kernel_rfl) hlive) (dead_no (by kernel_rfl) hlive) (dead_no (by kernel_rfl) hlive)
          case rest =>
            obtain ⟨g2, c2, hkp, hcb, ho⟩ := hcut
            obtain ⟨hc0, hc1, -, -⟩ := hcb.two
            have D2 := HC2.out.kept hkp (by omega)
            obtain ⟨y0, y1, y2, y3⟩ := D2.two
            have hbx : Below w.heap.size w wc := hbW.trans (hkp.belowOf hzW (fun i hi e => by omega))
            have HO := Lib.hid ho
            clear D2 ho hcb HC0 HC1 HC2 HS1 HS2 HL1 HL2 hkp
            go_wp2
            refine bodyPost_ret (v := .tuple #[.agg #[.int .i64 now, .slice (some ⟨g2, 0, none⟩) (k + 1 + (l.length - k)) c2], .int .i64 0]) ?_ rfl ⟨g2, c2, ?_, ?_, ?_⟩
            · simp [results, Try.results43, go_sem, y0, y1]
            · rw [show k + 1 + (l.length - k) = l.length + 1 by omega]
            · have h1 := HO.out
              rw [show k + 1 + (l.length - k) = l.length + 1 by omega] at h1
              rw [HINS.out, show flatC (l.take k ++ (⟨id, b, ⟨y, o, t⟩, ⟨0, 0⟩⟩ : Mb) :: l.drop k) = flatC (l.take k) ++ newC id y o t ++ flatC (l.drop k) by rw [flatC_app, List.append_assoc]; rfl]
              exact own_weak (ownsRow_setCell_below (ownsRow_setCell_below h1 (by show w.heap.size + 1 + 1 < _; omega) _) (by show w.heap.size + 1 + 1 < _; omega) _) hzW
            · exact (hbx.setCell (by show w.heap.size ≤ w.heap.size + 1 + 1; omega) _).setCell (by show w.heap.size ≤ w.heap.size + 1 + 1; omega) _
      · have hge : l.length ≤ k := by omega
        have hgeI : (l.length : Int) ≤ k := by omega
        have HINS : Hid (ins (⟨id, b, ⟨y, o, t⟩, ⟨0, 0⟩⟩ : Mb) l = l.take k ++ ⟨id, b, ⟨y, o, t⟩, ⟨0, 0⟩⟩ :: l.drop k) := Lib.hid (ins_at HLS.out (fun hk' => absurd hk' hlt) hk)
        go_upto_region 10 with (fail)
        clear b0 b1
        obtain ⟨W, hWW⟩ : ∃ W, W = wr := ⟨_, rfl⟩
        subst hWW
        have HRW := Lib.hid (own_at HROW.out (fun q _ hq => hbW.block q hq))
        have HS1 : Hid (∀ w', Kept (fun i => i = w.heap.size) W w' → SrcAt w' (.slice (some ⟨g, 0, none⟩) k cap) k (flatC (l.take k))) := Lib.hid fun w' hb' => by
          have h0 : RowAt w' (some ⟨g, 0, none⟩) cap l := own_keptX HRW.out hb' (fun q hq e => by have := own_q hq; omega)
          simpa using h0.src 0 k cap (by omega)
        have HS2 : Hid (∀ w' c, Kept (fun i => i = w.heap.size) W w' → SrcAt w' (.slice (if cap = k then some ⟨g, 0, none⟩ else some ⟨g, k * 6, none⟩) 0 c) 0 (flatC (l.drop k))) := Lib.hid fun w' c hb' => by
          have e3 : l.drop k = [] := List.drop_eq_nil_of_le (by omega)
          rw [e3]
          by_cases e : cap = k
          · rw [if_pos e]; exact .inr ⟨_, _, rfl, fun j u hu => by simp [flatC] at hu⟩
          · rw [if_neg e]; exact .inr ⟨_, _, rfl, fun j u hu => by simp [flatC] at hu⟩
        have hzW := hbW.size
        have hl0 := HC0.out.lt
        have hl2 := HC2.out.lt
        have HE1 := HC1.out.three
        have hwr : True := trivial
        have hm1 : 0 + k ≤ maxLen := by unfold maxLen; omega
        have hy1 : (0 + k) * 48 ≤ 140737488355328 := by omega
        have hm2 : k + 1 ≤ maxLen := by unfold maxLen; omega
        have hy2 : (k + 1) * 48 ≤ 140737488355328 := by omega
        have hm3 : k + 1 ≤ maxLen := by unfold maxLen; omega
        have hy3 : (k + 1) * 48 ≤ 140737488355328 := by omega
        have HL1 : Hid ((flatC (l.take k)).length = k * 6) := Lib.hid (by rw [flatC_len, List.length_take]; omega)
        have HL2 : Hid ((flatC (l.drop k)).length = 0 * 6) := Lib.hid (by rw [flatC_len, List.length_drop]; omega)
        have HN1 : Hid (∀ u ∈ newC id y o t, u.oneCell' = true) := Lib.hid (by simp [newC, Value.oneCell'])
        clear hwr HE1
        go_cut [] (fun wx => ∃ g2 c2, Kept (fun i => i = w.heap.size) W wx ∧ Blk wx w.heap.size #[.int .i64 now, .slice (some ⟨g2, 0, none⟩) (k + 1) c2] 92 ∧ wx.ownsRow W.heap.size 118 6 (.slice (some ⟨g2, 0, none⟩) (k + 1) c2) (k + 1) (flatC (l.take k) ++ newC id y o t ++ flatC (l.drop k)))
        case first =>
          apply wp_flowI ?hm ?hok [none, some _, some _, some _, some _, none, some _, some _, some _, none, none, some _, some _, some _, some _, none, some _, none] addCs (Kept (fun i => i = w.heap.size) W) (fun _ X => X.heap[w.heap.size]? = W.heap[w.heap.size]?) (addV W now id y o t w.heap.size k 0 l) (addG id y o t w.heap.size)
          case hm => rfl
          case hok => kernel_rfl
          case h =>
            intro u
            apply flowI_open (j := 0)
            · rfl
            · intro W1 hW hI hF K hK
              go_wp2_with fail
              exact hK _ _ ⟨fun _ => rfl, fun h => absurd h (by decide), fun h => absurd h (by decide), fun h => absurd h (by decide), fun h => absurd h (by decide), fun h => absurd h (by decide), fun h _ _ _ _ _ => absurd rfl h⟩ ⟨fun _ => ⟨_, rfl, World.ownsRow_made (base := W.heap.size) (e := 118) (size := 6) W1 #[] 0 hW.size (by decide) (by rfl)⟩, fun h => absurd h (by decide), fun h => absurd h (by decide), fun h => absurd h (by decide), fun h => absurd h (by decide), fun h => absurd h (by decide)⟩
            simp only [Act.put, List.setIfInBounds_toArray, List.set_cons_zero, List.set_cons_succ, Nat.reduceAdd]
            iterate 4
              (apply flowI_yes
               · rfl
               · intro W1 hW hI hF K hK
                 have hB : Blk W1 w.heap.size #[.int .i64 now, .slice (some ⟨g, 0, none⟩) l.length cap] 92 := hI.trans HC0.out
                 obtain ⟨hc0, hc, hz0, hz⟩ := hB.two
                 obtain ⟨q0, q1, q2, -, -, -⟩ := (HC1.out.kept hW (by omega)).three
                 have HB := Lib.hid hB
                 clear hB
                 go_wp2_with fail
                 exact addG_same (by decide) (by decide) (by decide) (by decide) (by decide) (by decide)
               simp only [Act.put, List.setIfInBounds_toArray, List.set_cons_zero, List.set_cons_succ, Nat.reduceAdd])
            apply flowI_open (j := 5)
            · rfl
            · intro W1 hW hI hF K hK
              obtain ⟨g0, hu, ho⟩ := (hF 0 rfl).1 rfl
              refine wp_append_some _ _ 90 rfl Try.underlying90 hj0 hj1 hj2 hj3 rfl g0 0 0 [] hu ho _ k _ rfl (HS1.out W1 hW) HL1.out (flatC_one _) hm1 hy1 hW.size ?_
              intro g' c' w'' hown hgrow _ _
              exact hK _ w'' ⟨fun h => absurd h (by decide), fun _ => by rw [hu]; exact hgrow, fun h => absurd h (by decide), fun h => absurd h (by decide), fun h => absurd h (by decide), fun h => absurd h (by decide), fun _ h _ _ _ _ => absurd rfl h⟩ ⟨fun h => absurd h (by decide), fun _ => ⟨g', c', by rw [Nat.zero_add], own_z hown⟩, fun h => absurd h (by decide), fun h => absurd h (by decide), fun h => absurd h (by decide), fun h => absurd h (by decide)⟩
            simp only [Act.put, List.setIfInBounds_toArray, List.set_cons_zero, List.set_cons_succ, Nat.reduceAdd]
            iterate 3
              (apply flowI_yes
               · rfl
               · intro W1 hW hI hF K hK
                 have hB : Blk W1 w.heap.size #[.int .i64 now, .slice (some ⟨g, 0, none⟩) l.length cap] 92 := hI.trans HC0.out
                 obtain ⟨hc0, hc, hz0, hz⟩ := hB.two
                 obtain ⟨q0, q1, q2, -, -, -⟩ := (HC1.out.kept hW (by omega)).three
                 have HB := Lib.hid hB
                 clear hB
                 go_wp2_with fail
                 exact addG_same (by decide) (by decide) (by decide) (by decide) (by decide) (by decide)
               simp only [Act.put, List.setIfInBounds_toArray, List.set_cons_zero, List.set_cons_succ, Nat.reduceAdd])
            apply flowI_open (j := 9)
            · rfl
            · intro W1 hW hI hF K hK
              go_wp2_with fail
              exact hK _ _ ⟨fun h => absurd h (by decide), fun h => absurd h (by decide), fun _ => rfl, fun h => absurd h (by decide), fun h => absurd h (by decide), fun h => absurd h (by decide), fun _ _ h _ _ _ => absurd rfl h⟩ ⟨fun h => absurd h (by decide), fun h => absurd h (by decide), fun _ => ⟨_, rfl, hW.size, Blk.new _ _ _⟩, fun h => absurd h (by decide), fun h => absurd h (by decide), fun h => absurd h (by decide)⟩
            simp only [Act.put, List.setIfInBounds_toArray, List.set_cons_zero, List.set_cons_succ, Nat.reduceAdd]
            apply flowI_open (j := 10)
            · rfl
            · intro W1 hW hI hF K hK
              obtain ⟨g0, c0, hu, ho⟩ := (hF 5 rfl).2.1 rfl
              obtain ⟨q, hu9, hq9, hb9⟩ := (hF 9 rfl).2.2.1 rfl
              refine wp_append_some _ _ 90 rfl Try.underlying90 hj0 hj1 hj2 hj3 rfl g0 k c0 _ hu ho _ 1 (newC id y o t) hu9 (.inr ⟨_, _, rfl, World.news_of_block hb9⟩) (by rfl) HN1.out hm2 hy2 hW.size ?_
              intro g' c' w'' hown hgrow _ _
              exact hK _ w'' ⟨fun h => absurd h (by decide), fun h => absurd h (by decide), fun h => absurd h (by decide), fun _ => by rw [hu]; exact hgrow, fun h => absurd h (by decide), fun h => absurd h (by decide), fun _ _ _ h _ _ => absurd rfl h⟩ ⟨fun h => absurd h (by decide), fun h => absurd h (by decide), fun h => absurd h (by decide), fun _ => ⟨g', c', rfl, hown⟩, fun h => absurd h (by decide), fun h => absurd h (by decide)⟩
            simp only [Act.put, List.setIfInBounds_toArray, List.set_cons_zero, List.set_cons_succ, Nat.reduceAdd]
            iterate 4
              (apply flowI_yes
               · rfl
               · intro W1 hW hI hF K hK
                 have hB : Blk W1 w.heap.size #[.int .i64 now, .slice (some ⟨g, 0, none⟩) l.length cap] 92 := hI.trans HC0.out
                 obtain ⟨hc0, hc, hz0, hz⟩ := hB.two
                 obtain ⟨q0, q1, q2, -, -, -⟩ := (HC1.out.kept hW (by omega)).three
                 have HB := Lib.hid hB
                 clear hB
                 go_wp2_with fail
                 exact addG_same (by decide) (by decide) (by decide) (by decide) (by decide) (by decide)
               simp only [Act.put, List.setIfInBounds_toArray, List.set_cons_zero, List.set_cons_succ, Nat.reduceAdd])
            apply flowI_open (j := 15)
            · rfl
            · intro W1 hW hI hF K hK
              obtain ⟨g0, c0, hu, ho⟩ := (hF 10 rfl).2.2.2.1 rfl
              refine wp_append_some _ _ 90 rfl Try.underlying90 hj0 hj1 hj2 hj3 rfl g0 (k + 1) c0 _ hu ho _ 0 _ rfl (HS2.out W1 _ hW) HL2.out (flatC_one _) hm3 hy3 hW.size ?_
              intro g' c' w'' hown hgrow _ _
              exact hK _ w'' ⟨fun h => absurd h (by decide), fun h => absurd h (by decide), fun h => absurd h (by decide), fun h => absurd h (by decide), fun _ => by rw [hu]; exact hgrow, fun h => absurd h (by decide), fun _ _ _ _ h _ => absurd rfl h⟩ ⟨fun h => absurd h (by decide), fun h => absurd h (by decide), fun h => absurd h (by decide), fun h => absurd h (by decide), fun _ => ⟨g', c', rfl, hown⟩, fun h => absurd h (by decide)⟩
            simp only [Act.put, List.setIfInBounds_toArray, List.set_cons_zero, List.set_cons_succ, Nat.reduceAdd]
            iterate 1
              (apply flowI_yes
               · rfl
               · intro W1 hW hI hF K hK
                 have hB : Blk W1 w.heap.size #[.int .i64 now, .slice (some ⟨g, 0, none⟩) l.length cap] 92 := hI.trans HC0.out
                 obtain ⟨hc0, hc, hz0, hz⟩ := hB.two
                 obtain ⟨q0, q1, q2, -, -, -⟩ := (HC1.out.kept hW (by omega)).three
                 have HB := Lib.hid hB
                 clear hB
                 go_wp2_with fail
                 exact addG_same (by decide) (by decide) (by decide) (by decide) (by decide) (by decide)
               simp only [Act.put, List.setIfInBounds_toArray, List.set_cons_zero, List.set_cons_succ, Nat.reduceAdd])
            apply flowI_open (j := 17)
            · rfl
            · intro W1 hW hI hF K hK
              obtain ⟨g0, c0, hu, ho⟩ := (hF 15 rfl).2.2.2.2.1 rfl
              have hB : Blk W1 w.heap.size #[.int .i64 now, .slice (some ⟨g, 0, none⟩) l.length cap] 92 := hI.trans HC0.out
              obtain ⟨hc0, hc, hz0, hz⟩ := hB.two
              have HB := Lib.hid hB
              clear hB
              have hst : addG id y o t w.heap.size 17 u W1 (W1.setCell ⟨w.heap.size, 1, none⟩ (.slice (some ⟨g0, 0, none⟩) (k + 1) c0)) := ⟨fun h => absurd h (by decide), fun h => absurd h (by decide), fun h => absurd h (by decide), fun h => absurd h (by decide), fun h => absurd h (by decide), fun _ => by rw [hu], fun _ _ _ _ _ h => absurd rfl h⟩
              have hov : addV W now id y o t w.heap.size k 0 l 17 undef (W1.setCell ⟨w.heap.size, 1, none⟩ (.slice (some ⟨g0, 0, none⟩) (k + 1) c0)) := ⟨fun h => absurd h (by decide), fun h => absurd h (by decide), fun h => absurd h (by decide), fun h => absurd h (by decide), fun h => absurd h (by decide), fun _ => ⟨g0, c0, HB.out.set 1 _, ownsRow_setCell_below (a := ⟨w.heap.size, 1, none⟩) ho hl0 _⟩⟩
              have HST := Lib.hid hst
              have HOV := Lib.hid hov
              clear hst hov hF ho
              rw [hu] at hK ⊢
              generalize (if cap = k then some (⟨g, 0, none⟩ : Addr) else some ⟨g, k * 6, none⟩) = sv at hK ⊢
              go_wp2_with fail
              exact hK _ _ HST.out HOV.out
            simp only [Act.put]
            refine flowI_end fun W7 hb7 hV7 => ?_
            obtain ⟨g2, c2, hc2, ho2⟩ := (hV7 17 rfl (by decide) rfl).2.2.2.2.2 rfl
            have HC2' := Lib.hid hc2
            have HO2 := Lib.hid ho2
            clear hc2 ho2 hV7
            generalize (if cap = k then some (⟨g, 0, none⟩ : Addr) else some ⟨g, k * 6, none⟩) = sv
            go_wp2
            go_meet
            exact ⟨g2, c2, hb7, HC2'.out, HO2.out⟩
          case hokI => kernel_rfl
          case hcs => exact fun i q h => by rcases useI5 h with rfl | rfl | rfl | rfl | rfl <;> rfl
          case hW0 => exact (Kept.refl _ _).drew
          case hI0 => exact fun _ _ => rfl
          case hIk =>
            intro p i u w1 w2 hpi hbit hi hw hf hg hI
            refine addI hl0 hw hf hg ?_ hI
            intro e
            subst e
            exact last_no (by kernel_rfl) hi hpi hbit
          case hW => exact fun p u w1 w2 hw hf hg => addK hl0 hw hf hg
          case hG =>
            intro p i u w1 w2 hlive _ hw hf hg hv
            exact addVV hv hf hg (dead_no (by kernel_rfl) hlive) (dead_no (by kernel_rfl) hlive) (dead_no (by kernel_rfl) hlive)
        case rest =>
          obtain ⟨g2, c2, hkp, hcb, ho⟩ := hcut
          obtain ⟨hc0, hc1, -, -⟩ := hcb.two
          have D2 := HC2.out.kept hkp (by omega)
          obtain ⟨y0, y1, y2, y3⟩ := D2.two
          have hbx : Below w.heap.size w wc := hbW.trans (hkp.belowOf hzW (fun i hi e => by omega))
          have HO := Lib.hid ho
          clear D2 ho hcb HC0 HC1 HC2 HS1 HS2 HL1 HL2 hkp
          go_wp2
          refine bodyPost_ret (v := .tuple #[.agg #[.int .i64 now, .slice (some ⟨g2, 0, none⟩) (k + 1) c2], .int .i64 0]) ?_ rfl ⟨g2, c2, ?_, ?_, ?_⟩
          · simp [results, Try.results43, go_sem, y0, y1]
          · rw [show k + 1 = l.length + 1 by omega]
          · have h1 := HO.out
            rw [show k + 1 = l.length + 1 by omega] at h1
            rw [HINS.out, show flatC (l.take k ++ (⟨id, b, ⟨y, o, t⟩, ⟨0, 0⟩⟩ : Mb) :: l.drop k) = flatC (l.take k) ++ newC id y o t ++ flatC (l.drop k) by rw [flatC_app, List.append_assoc]; rfl]
            exact own_weak (ownsRow_setCell_below (ownsRow_setCell_below h1 (by show w.heap.size + 1 + 1 < _; omega) _) (by show w.heap.size + 1 + 1 < _; omega) _) hzW
          · exact (hbx.setCell (by show w.heap.size ≤ w.heap.size + 1 + 1; omega) _).setCell (by show w.heap.size ≤ w.heap.size + 1 + 1; omega) _
end Go.Proofs.Ytokgfmibhkkiaaa
