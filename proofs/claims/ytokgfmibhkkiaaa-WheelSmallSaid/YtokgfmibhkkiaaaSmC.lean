/- Ten thousand members, the k-th due at tick k: what nine ticks tell. -/
import Derived.Test.YtokgfmibhkkiaaaMade
import Derived.Test.YtokgfmibhkkiaaaAdvW
namespace Go.Proofs.Ytokgfmibhkkiaaa
open Go.RowKit Wh Mem Go.Maps

def fulC (k : Nat) : List (Int × Plan × Phase) := (List.range k).map fun (i : Nat) => ((i : Int), ⟨1099511627776, (i : Int), 1⟩, ⟨0, 0⟩)
theorem fulC_length (k : Nat) : (fulC k).length = k := by simp [fulC]
theorem fulC_snoc (k : Nat) : fulC (k + 1) = fulC k ++ [((k : Int), ⟨1099511627776, (k : Int), 1⟩, ⟨0, 0⟩)] := by
  unfold fulC
  rw [List.range_succ, List.map_append]
  rfl
theorem ful_len {l : List Mb} {k : Nat} (h : l.map core = fulC k) : l.length = k := by
  have := congrArg List.length h
  rwa [List.length_map, fulC_length] at this
theorem ful_lt {l : List Mb} {k : Nat} (h : l.map core = fulC k) : ∀ m ∈ l, m.id < (k : Int) := by
  intro m hm
  have hc : core m ∈ fulC k := by rw [← h]; exact List.mem_map_of_mem hm
  unfold fulC at hc
  obtain ⟨i, hi, he⟩ := List.mem_map.1 hc
  have h1 : (i : Int) = m.id := congrArg (·.1) he
  have := List.mem_range.1 hi
  omega
theorem ful_find {l : List Mb} {k : Nat} (h : l.map core = fulC k) {i : Nat} (hi : i < k) : ∃ m, findM l (i : Int) = some m := by
  have hc : ((i : Int), (⟨1099511627776, (i : Int), 1⟩ : Plan), (⟨0, 0⟩ : Phase)) ∈ l.map core := by
    rw [h]
    exact List.mem_map.2 ⟨i, List.mem_range.2 hi, rfl⟩
  obtain ⟨m, hm, he⟩ := List.mem_map.1 hc
  have h1 : m.id = (i : Int) := congrArg (·.1) he
  cases hf : findM l (i : Int) with
  | some m => exact ⟨m, rfl⟩
  | none =>
    unfold findM at hf
    rw [List.find?_eq_none] at hf
    exact absurd h1 (by simpa using hf m hm)
theorem ful_quiet {i : Int} (h0 : 9 < i) (h : i < 10000) : ¬ Loud (adv ⟨1099511627776, i, 1⟩ ⟨0, 0⟩ 0 9).2 := by
  have e0 : upTo ⟨1099511627776, i, 1⟩ 0 = 0 := by
    unfold upTo
    exact Int.ediv_eq_zero_of_lt (by show 0 ≤ 0 - i + 1099511627776; omega) (by show 0 - i + 1099511627776 < 1099511627776; omega)
  have e9 : upTo ⟨1099511627776, i, 1⟩ 9 = 0 := by
    unfold upTo
    exact Int.ediv_eq_zero_of_lt (by show 0 ≤ 9 - i + 1099511627776; omega) (by show 9 - i + 1099511627776 < 1099511627776; omega)
  simp [adv, e0, e9, Loud]
theorem ful_count (n : Nat) (hn : n ≤ 9990) : ((fulC (n + 10)).filter fun c => decide (Loud (adv c.2.1 c.2.2 0 9).2)).length = 9 := by
  induction n with
  | zero => decide
  | succ n ih =>
    have e : n + 1 + 10 = (n + 10) + 1 := by omega
    rw [e, fulC_snoc, List.filter_append, List.length_append, ih (by omega), List.filter_cons, if_neg]
    · rfl
    · have := ful_quiet (i := ((n + 10 : Nat) : Int)) (by omega) (by omega)
      simpa using this
theorem moves_ful {l : List Mb} (h : l.map core = fulC 10000) : (moves 0 9 l).length = 9 := by
  have hc := ful_count 9990 (by omega)
  rw [← h, List.filter_map, List.length_map] at hc
  unfold moves
  rw [List.length_map]
  exact hc
theorem ful_add {l : List Mb} {k nb : Nat} (h : l.map core = fulC k) : (ins ⟨(k : Int), nb, ⟨1099511627776, (k : Int), 1⟩, ⟨0, 0⟩⟩ l).map core = fulC (k + 1) := by
  rw [ins_end (m := ⟨(k : Int), nb, ⟨1099511627776, (k : Int), 1⟩, ⟨0, 0⟩⟩) (ful_lt h), List.map_append, h, fulC_snoc]
  rfl
end Go.Proofs.Ytokgfmibhkkiaaa
