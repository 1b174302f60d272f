/- moved: two lists of moves that are the same -/
import Derived.Test.YtokgfmibhkkiaaaSame
namespace Go.Proofs.Ytokgfmibhkkiaaa
open Go.RowKit Wh Mem Go.Maps

/-- moves, as a slice of Move holds them -/
def MovesAt (w : World) (v : Value) (xs : List (Int × Report)) : Prop :=
  (v = .slice none 0 0 ∧ xs = []) ∨ ∃ g cap, v = .slice (some ⟨g, 0, none⟩) xs.length cap ∧ g < w.heap.size ∧ ∀ j (hj : j < xs.length),
    w.cell? ⟨g, j * 4, none⟩ = some (.int .i64 xs[j].1) ∧ w.cell? ⟨g, j * 4 + 1, none⟩ = some (.int .i64 xs[j].2.begun) ∧ w.cell? ⟨g, j * 4 + 2, none⟩ = some (.int .i64 xs[j].2.failed) ∧ w.cell? ⟨g, j * 4 + 3, none⟩ = some (.int .i64 xs[j].2.skipped)
theorem flat_at {α β : Type} {f : α → List β} {n : Nat} (hf : ∀ x, (f x).length = n) : ∀ (l : List α) (j i : Nat) (hj : j < l.length), i < n → (l.flatMap f)[j * n + i]? = (f l[j])[i]?
  | [], _, _, hj, _ => absurd hj (by simp)
  | x :: r, 0, i, _, hi => by
    rw [List.flatMap_cons, Nat.zero_mul, Nat.zero_add, List.getElem?_append_left (by rw [hf]; exact hi)]
    rfl
  | x :: r, j + 1, i, hj, hi => by
    rw [List.flatMap_cons, List.getElem?_append_right (by rw [hf, Nat.succ_mul]; omega), hf]
    have e : (j + 1) * n + i - n = j * n + i := by rw [Nat.succ_mul]; omega
    rw [e, flat_at hf r j i (by simpa using hj) hi]
    rfl
theorem MovesAt.of_row {w : World} {base : Nat} {v : Value} {xs : List (Int × Report)} (h : w.ownsRow base 45 4 v xs.length (xs.flatMap mvCells)) : MovesAt w v xs := by
  rcases slice_form h with ⟨rfl, hl, -⟩ | ⟨g, cap, rfl, -, hg⟩
  · exact .inl ⟨rfl, List.eq_nil_of_length_eq_zero hl⟩
  · refine .inr ⟨g, cap, rfl, hg, fun j hj => ?_⟩
    have key : ∀ i, i < 4 → w.cell? ⟨g, j * 4 + i, none⟩ = (mvCells xs[j])[i]? := fun i hi => by
      rw [h.cellAt _ (by omega), flat_at (n := 4) (fun _ => rfl) xs j i hj hi]
    exact ⟨key 0 (by omega), key 1 (by omega), key 2 (by omega), key 3 (by omega)⟩

set_option maxHeartbeats 1000000 in
theorem moved_yes {w : World} {v u : Value} {xs : List (Int × Report)} (h1 : MovesAt w v xs) (h2 : MovesAt w u xs) (hlen : xs.length ≤ 1000000) :
    Calls Try.prog 20 #[v, u] w fun e w' => e = .returned (.bool true) ∧ Below w.heap.size w w' := by
  by_cases h0 : xs = []
  · subst h0
    obtain ⟨b1, c1, hv⟩ : ∃ b c, v = .slice b 0 c := by rcases h1 with ⟨rfl, -⟩ | ⟨g, cap, rfl, -, -⟩ <;> exact ⟨_, _, rfl⟩
    obtain ⟨b2, c2, hu⟩ : ∃ b c, u = .slice b 0 c := by rcases h2 with ⟨rfl, -⟩ | ⟨g, cap, rfl, -, -⟩ <;> exact ⟨_, _, rfl⟩
    subst hv hu
    clear h1 h2
    go_enter Try.func20, Try.ntmps20
    go_wp2
    go_rounds 1
    all_goals go_wp2
    go_ret
    exact ⟨rfl, Below.refl _ _⟩
  · rcases h1 with ⟨-, h⟩ | ⟨g1, c1, rfl, hg1, hc1⟩
    · exact absurd h h0
    rcases h2 with ⟨-, h⟩ | ⟨g2, c2, rfl, hg2, hc2⟩
    · exact absurd h h0
    have H1 := Lib.hid hc1
    have H2 := Lib.hid hc2
    clear hc1 hc2 h0
    go_enter Try.func20, Try.ntmps20
    go_wp2
    go_loopw [13] (fun i wr => ∃ k : Nat, k ≤ xs.length ∧ i = .int .i64 k ∧ Below w.heap.size w wr) (fun i _ => xs.length - (intOf i).toNat)
    case atStart => exact ⟨0, Nat.zero_le _, rfl, Below.refl _ _⟩
    case round =>
      obtain ⟨k, hk, rfl, hb⟩ := hrel
      by_cases hlt : k < xs.length
      · obtain ⟨x0, x1, x2, x3⟩ := H1.out k hlt
        obtain ⟨y0, y1, y2, y3⟩ := H2.out k hlt
        have d0 : wr.cell? ⟨g1, k * 4, none⟩ = some (.int .i64 xs[k].1) := (hb.cell (p := ⟨g1, k * 4, none⟩) hg1).trans x0
        have d1 : wr.cell? ⟨g1, k * 4 + 1, none⟩ = some (.int .i64 xs[k].2.begun) := (hb.cell (p := ⟨g1, k * 4 + 1, none⟩) hg1).trans x1
        have d2 : wr.cell? ⟨g1, k * 4 + 2, none⟩ = some (.int .i64 xs[k].2.failed) := (hb.cell (p := ⟨g1, k * 4 + 2, none⟩) hg1).trans x2
        have d3 : wr.cell? ⟨g1, k * 4 + 3, none⟩ = some (.int .i64 xs[k].2.skipped) := (hb.cell (p := ⟨g1, k * 4 + 3, none⟩) hg1).trans x3
        have e0 : wr.cell? ⟨g2, k * 4, none⟩ = some (.int .i64 xs[k].1) := (hb.cell (p := ⟨g2, k * 4, none⟩) hg2).trans y0
        have e1 : wr.cell? ⟨g2, k * 4 + 1, none⟩ = some (.int .i64 xs[k].2.begun) := (hb.cell (p := ⟨g2, k * 4 + 1, none⟩) hg2).trans y1
        have e2 : wr.cell? ⟨g2, k * 4 + 2, none⟩ = some (.int .i64 xs[k].2.failed) := (hb.cell (p := ⟨g2, k * 4 + 2, none⟩) hg2).trans y2
        have e3 : wr.cell? ⟨g2, k * 4 + 3, none⟩ = some (.int .i64 xs[k].2.skipped) := (hb.cell (p := ⟨g2, k * 4 + 3, none⟩) hg2).trans y3
        clear x0 x1 x2 x3 y0 y1 y2 y3
        generalize xs[k].1 = z0 at *
        generalize xs[k].2.begun = z1 at *
        generalize xs[k].2.failed = z2 at *
        generalize xs[k].2.skipped = z3 at *
        go_upto_region 6 with (fail)
        go_region
        all_goals
          go_wp2
          go_roundw
          case rel => exact ⟨k + 1, by omega, by go_num, by first | exact hb | go_grown⟩
          case measure => simp [intOf]; omega
      · obtain rfl : k = xs.length := by omega
        go_wp2
        go_ret
        exact ⟨rfl, hb⟩
end Go.Proofs.Ytokgfmibhkkiaaa
