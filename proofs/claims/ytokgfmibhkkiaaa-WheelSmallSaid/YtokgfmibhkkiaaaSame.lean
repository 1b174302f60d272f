/- SameInts: two lists that are the same -/
import Derived.Test.YtokgfmibhkkiaaaMade
namespace Go.Proofs.Ytokgfmibhkkiaaa
open Go.RowKit Wh Mem Go.Maps

/-- numbers, as a slice of int holds them -/
def IntsAt (w : World) (v : Value) (xs : List Int) : Prop :=
  (v = .slice none 0 0 ∧ xs = []) ∨ ∃ g cap, v = .slice (some ⟨g, 0, none⟩) xs.length cap ∧ g < w.heap.size ∧ ∀ j (hj : j < xs.length), w.cell? ⟨g, j, none⟩ = some (.int .i64 xs[j])
theorem IntsAt.of_row {w : World} {base : Nat} {v : Value} {xs : List Int} (h : w.ownsRow base 3 1 v xs.length (xs.map (.int .i64))) : IntsAt w v xs := by
  rcases slice_form h with ⟨rfl, hl, -⟩ | ⟨g, cap, rfl, -, hg⟩
  · exact .inl ⟨rfl, List.eq_nil_of_length_eq_zero hl⟩
  · refine .inr ⟨g, cap, rfl, hg, fun j hj => ?_⟩
    rw [h.cellAt j (by omega)]
    simp [hj]

set_option maxHeartbeats 1000000 in
theorem same_yes {w : World} {v u : Value} {xs : List Int} (h1 : IntsAt w v xs) (h2 : IntsAt w u xs) (hlen : xs.length ≤ 1000000) :
    Calls Try.prog 35 #[v, u] w fun e w' => e = .returned (.bool true) ∧ Below w.heap.size w w' := by
  by_cases h0 : xs = []
  · subst h0
    obtain ⟨b1, c1, hv⟩ : ∃ b c, v = .slice b 0 c := by rcases h1 with ⟨rfl, -⟩ | ⟨g, cap, rfl, -, -⟩ <;> exact ⟨_, _, rfl⟩
    obtain ⟨b2, c2, hu⟩ : ∃ b c, u = .slice b 0 c := by rcases h2 with ⟨rfl, -⟩ | ⟨g, cap, rfl, -, -⟩ <;> exact ⟨_, _, rfl⟩
    subst hv hu
    clear h1 h2
    go_enter Try.func35, Try.ntmps35
    go_wp2
    go_rounds 1
    all_goals go_wp2
    go_ret
    exact ⟨rfl, Below.refl _ _⟩
  · rcases h1 with ⟨-, h⟩ | ⟨g1, c1, rfl, hg1, hc1⟩
    · exact absurd h h0
    rcases h2 with ⟨-, h⟩ | ⟨g2, c2, rfl, hg2, hc2⟩
    · exact absurd h h0
    have H1 := Lib.hid hc1
    have H2 := Lib.hid hc2
    clear hc1 hc2 h0
    go_enter Try.func35, Try.ntmps35
    go_wp2
    go_loopw [5] (fun i wr => ∃ k : Nat, k ≤ xs.length ∧ i = .int .i64 k ∧ Below w.heap.size w wr) (fun i _ => xs.length - (intOf i).toNat)
    case atStart => exact ⟨0, Nat.zero_le _, rfl, Below.refl _ _⟩
    case round =>
      obtain ⟨k, hk, rfl, hb⟩ := hrel
      by_cases hlt : k < xs.length
      · have e1 : ∀ W, Below w.heap.size w W → W.cell? ⟨g1, k, none⟩ = some (.int .i64 xs[k]) := fun W h => (h.cell (p := ⟨g1, k, none⟩) hg1).trans (H1.out k hlt)
        have e2 : ∀ W, Below w.heap.size w W → W.cell? ⟨g2, k, none⟩ = some (.int .i64 xs[k]) := fun W h => (h.cell (p := ⟨g2, k, none⟩) hg2).trans (H2.out k hlt)
        have d1 := e1 wr hb
        have d2 := e2 wr hb
        clear e1 e2
        go_upto_region 6 with (fail)
        go_region
        all_goals
          go_wp2
          go_roundw
          case rel => exact ⟨k + 1, by omega, by go_num, by first | exact hb | go_grown⟩
          case measure => simp [intOf]; omega
      · obtain rfl : k = xs.length := by omega
        go_wp2
        go_ret
        exact ⟨rfl, hb⟩
end Go.Proofs.Ytokgfmibhkkiaaa
