/- WheelLists: who is in which list, in plain terms; the law's closure; the argument of steps. -/
import Derived.Test.YtokgfmibhkkiaaaAwakeW
namespace Go.Proofs.Ytokgfmibhkkiaaa
open Go.RowKit Wh Mem Go.Maps

theorem in_sel {l : List Mb} (hl : Ids l) {id : Int} {m : Mb} (hm : findM l id = some m) (t : Phase → Bool) : decide (id ∈ sel t l) = t m.phase := by
  obtain ⟨h1, h2⟩ := findM_some hm
  rw [Bool.eq_iff_iff, decide_eq_true_eq]
  unfold sel
  constructor
  · intro h
    obtain ⟨x, hx, e⟩ := List.mem_map.1 h
    obtain ⟨hx1, hx2⟩ := List.mem_filter.1 hx
    rw [ids_eq hl h1 hx1 (h2.trans e.symm)]
    exact hx2
  · intro h
    exact List.mem_map.2 ⟨m, List.mem_filter.2 ⟨h1, h⟩, h2⟩
theorem in_drop (l : List Mb) (id : Int) (t : Phase → Bool) : decide (id ∈ sel t (dropM l id)) = false := by
  rw [decide_eq_false_iff_not]
  unfold sel
  intro h
  obtain ⟨x, hx, e⟩ := List.mem_map.1 h
  exact (mem_dropM.1 (List.mem_filter.1 hx).1).2 e
theorem find_drop (l : List Mb) (id : Int) : findM (dropM l id) id = none := by
  unfold findM
  rw [List.find?_eq_none]
  intro m hm
  simpa using (mem_dropM.1 hm).2
theorem drop_none_eq {l : List Mb} {id : Int} (h : findM l id = none) : dropM l id = l := by
  unfold dropM
  rw [List.filter_eq_self]
  intro m hm
  simpa using findM_none h m hm
theorem length_drop : ∀ {l : List Mb}, Ids l → ∀ {id : Int} {m : Mb}, findM l id = some m → (dropM l id).length + 1 = l.length
  | [], _, id, m, h => by simp [findM] at h
  | x :: r, hl, id, m, h => by
    have hl' := List.pairwise_cons.1 hl
    by_cases e : x.id = id
    · have hn : findM r id = none := by
        unfold findM
        rw [List.find?_eq_none]
        intro y hy
        have := hl'.1 y hy
        simp; omega
      have : dropM (x :: r) id = dropM r id := by unfold dropM; rw [List.filter_cons]; simp [e]
      rw [this, drop_none_eq hn]; rfl
    · have h2 : findM r id = some m := by unfold findM at *; rw [List.find?_cons] at h; simpa [e] using h
      have : dropM (x :: r) id = x :: dropM r id := by unfold dropM; rw [List.filter_cons]; simp [e]
      rw [this, List.length_cons, length_drop hl'.2 h2]; rfl
theorem find_ins {m : Mb} {l : List Mb} (hl : Ids l) (h : findM l m.id = none) : findM (ins m l) m.id = some m :=
  findM_at (ids_ins hl (findM_none h)) (mem_ins.2 (.inl rfl))

/-- the IDs of a law's wheel -/
def idsN (l : List Mb) (N : Nat) : Prop := l.map (·.id) = (List.range N).map fun i : Nat => 3 * (i : Int)
theorem idsN_len {l : List Mb} {N : Nat} (h : idsN l N) : l.length = N := by
  have := congrArg List.length h
  simpa using this
theorem idsN_find {l : List Mb} {N : Nat} (h : idsN l N) (hl : Ids l) {r : Nat} (hr : r < N) : ∃ m, findM l (3 * (r : Int)) = some m := by
  have : (3 * (r : Int)) ∈ l.map (·.id) := by rw [h]; exact List.mem_map.2 ⟨r, List.mem_range.2 hr, rfl⟩
  obtain ⟨m, hm, e⟩ := List.mem_map.1 this
  exact ⟨m, by rw [← e]; exact findM_at hl hm⟩
theorem idsN_of {l : List Mb} {S : List Sm} {N : Nat} (h : l.map core = madeC S N) (hN : N ≤ S.length) : idsN l N := by
  have e : l.map (·.id) = (l.map core).map (·.1) := by rw [List.map_map]; rfl
  unfold idsN
  rw [e, h]
  unfold madeC
  rw [List.map_map]
  apply List.ext_getElem
  · simp [List.length_take]; omega
  · intro i h1 h2
    simp
theorem idsN_same {l l' : List Mb} {N : Nat} (h : idsN l N) (e : l'.map (·.id) = l.map (·.id)) : idsN l' N := by unfold idsN; rw [e]; exact h

/-- the argument of steps -/
def StepsAt (w : World) (base : Nat) (v : Value) (T : List Int) : Prop :=
  (v = .slice none 0 0 ∧ T = []) ∨ ∃ (a : Addr) (cap : Nat), v = .slice (some a) T.length cap ∧ T.length ≤ cap ∧ cap ≤ maxLen ∧ (0 < T.length → a.block < base) ∧
    ∀ (i : Nat) (hi : i < T.length), (0 ≤ T[i] ∧ T[i] < 4294967296) ∧ w.cell? (a.add i) = some (.int .u32 T[i])
theorem StepsAt.below {w w' : World} {base B : Nat} {v : Value} {T : List Int} (h : StepsAt w base v T) (hb : Below B w w') (hB : base ≤ B) : StepsAt w' base v T := by
  rcases h with h | ⟨a, cap, rfl, h1, h2, h3, h4⟩
  · exact .inl h
  · refine .inr ⟨a, cap, rfl, h1, h2, h3, fun i hi => ?_⟩
    obtain ⟨hu, d0⟩ := h4 i hi
    exact ⟨hu, (World.cell?_of_block (by rw [add_blk]; exact hb.block _ (by have := h3 (by omega); omega))).trans d0⟩

/-- the law's closure: is it in the list? -/
theorem in_any {w : World} {v : Value} {xs : List Int} (h : IntsAt w v xs) (pid : Nat) (id : Int) (hp : w.cell? ⟨pid, 0, none⟩ = some (.int .i64 id)) (hpl : pid < w.heap.size) (hlen : xs.length ≤ 1000000) {b : Bool} (hb : decide (id ∈ xs) = b) :
    Calls Try.prog 28 #[v, .pointer (some ⟨pid, 0, none⟩)] w fun e w' => e = .returned (.bool b) ∧ Below w.heap.size w w' := by
  by_cases h0 : xs = []
  · subst h0
    obtain ⟨b1, c1, hv⟩ : ∃ b c, v = .slice b 0 c := by rcases h with ⟨rfl, -⟩ | ⟨g, cap, rfl, -, -⟩ <;> exact ⟨_, _, rfl⟩
    subst hv
    obtain rfl : b = false := by simpa using hb.symm
    clear h
    go_enter Try.func28, Try.ntmps28
    go_wp2
    go_rounds 1
    all_goals go_wp2
    go_ret
    exact ⟨rfl, Below.refl _ _⟩
  · rcases h with ⟨-, h⟩ | ⟨g1, c1, rfl, hg1, hc1⟩
    · exact absurd h h0
    have H1 := Lib.hid hc1
    have HB := Lib.hid hb
    clear hc1 h0 hb
    go_enter Try.func28, Try.ntmps28
    go_wp2
    go_loopw [8] (fun i wr => ∃ k : Nat, k ≤ xs.length ∧ i = .int .i64 k ∧ Below w.heap.size w wr ∧ Hid (∀ (j : Nat) (hj : j < xs.length), j < k → xs[j] ≠ id)) (fun i _ => xs.length - (intOf i).toNat)
    case atStart => exact ⟨0, Nat.zero_le _, rfl, Below.refl _ _, Lib.hid (fun j hj h => absurd h (by omega))⟩
    case round =>
      obtain ⟨k, hk, rfl, hbr, HN⟩ := hrel
      by_cases hlt : k < xs.length
      · have e1 : wr.cell? ⟨g1, k, none⟩ = some (.int .i64 xs[k]) := (hbr.cell (p := ⟨g1, k, none⟩) hg1).trans (H1.out k hlt)
        have e2 : wr.cell? ⟨pid, 0, none⟩ = some (.int .i64 id) := (hbr.cell (p := ⟨pid, 0, none⟩) hpl).trans hp
        obtain ⟨x, hx⟩ : ∃ x, x = xs[k] := ⟨_, rfl⟩
        rw [← hx] at e1
        have HX := Lib.hid hx
        clear hx
        by_cases hxe : x = id
        · have hbt : b = true := by rw [← HB.out, decide_eq_true_eq, ← hxe, HX.out]; exact List.getElem_mem hlt
          have HBT := Lib.hid hbt
          clear hbt
          go_wp2
          go_ret
          exact ⟨by rw [HBT.out]; rfl, hbr⟩
        · go_wp2
          go_roundw
          case rel => exact ⟨k + 1, by omega, by go_num, hbr, Lib.hid (fun j hj h => by
            by_cases e : j = k
            · subst e; rw [← HX.out]; exact hxe
            · exact HN.out j hj (by omega))⟩
          case measure => simp [intOf]; omega
      · obtain rfl : k = xs.length := by omega
        have hbf : b = false := by
          rw [← HB.out, decide_eq_false_iff_not]
          intro h
          obtain ⟨j, hj, e⟩ := List.getElem_of_mem h
          exact HN.out j hj hj e
        have HBF := Lib.hid hbf
        clear hbf
        go_wp2
        go_ret
        exact ⟨by rw [HBF.out]; rfl, hbr⟩
end Go.Proofs.Ytokgfmibhkkiaaa
