/- Parts of the proof: Srt. Conditions: none. -/
import Derived.Lib.SlicesCompact
import Derived.Lib.RowBridge
import Derived.Test.YtnhjakdmbfadlaaGreatDoorL00
set_option linter.all false
/- A list sorted, and each element of it once. -/
namespace Go.Proofs.Wy
open Go Go.Lib

theorem keeps_first (d : Array Int) : ∀ j, j < d.size → ∃ i, i ≤ j ∧ keeps d i = true ∧ d[i]! = d[j]!
  | 0, _ => ⟨0, Nat.le_refl _, by simp [keeps], rfl⟩
  | j + 1, hj => by
    by_cases hk : keeps d (j + 1) = true
    · exact ⟨j + 1, Nat.le_refl _, hk, rfl⟩
    · obtain ⟨i, h1, h2, h3⟩ := keeps_first d j (by omega)
      refine ⟨i, by omega, h2, h3.trans ?_⟩
      simp only [keeps, decide_eq_true_eq, ne_eq, not_or] at hk
      have := hk
      simp at this
      exact this.symm
theorem compact_mem {zs : List Int} {x : Int} : x ∈ compact zs ↔ x ∈ zs := by
  unfold compact compactUpTo
  simp only [List.mem_map, List.mem_filter, List.mem_range]
  constructor
  · rintro ⟨j, ⟨hj, -⟩, rfl⟩
    have : zs.toArray[j]! = zs[j] := by simp [hj]
    rw [this]
    exact List.getElem_mem hj
  · intro hx
    obtain ⟨j, hj, rfl⟩ := List.mem_iff_getElem.1 hx
    obtain ⟨i, h1, h2, h3⟩ := keeps_first zs.toArray j (by simpa using hj)
    refine ⟨i, ⟨by omega, h2⟩, ?_⟩
    rw [h3]
    simp [hj]
/-- the ends, in order, each once -/
def endsI (l : List Nat) : List Int := compact ((l.map fun x : Nat => (x : Int)).mergeSort fun x y => decide (x ≤ y))
theorem endsI_mem {l : List Nat} {x : Int} : x ∈ endsI l ↔ ∃ q ∈ l, x = (q : Int) := by
  unfold endsI
  rw [compact_mem, (List.mergeSort_perm _ _).mem_iff, List.mem_map]
  constructor
  · rintro ⟨q, h1, h2⟩; exact ⟨q, h1, h2.symm⟩
  · rintro ⟨q, h1, h2⟩; exact ⟨q, h1, h2.symm⟩
theorem endsI_len (l : List Nat) : (endsI l).length ≤ l.length := by
  unfold endsI
  refine Nat.le_trans (compact_length_le _) ?_
  rw [List.length_mergeSort, List.length_map]
  exact Nat.le_refl _
theorem endsI_nil : endsI [] = [] := by
  have h := endsI_len []
  exact List.eq_nil_of_length_eq_zero (by simpa using h)
end Go.Proofs.Wy
