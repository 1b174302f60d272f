/- slices.Sorted(maps.Keys(m)) at a wheel's map: the IDs, in order. After the guide's worked text on sorted int keys. -/
import Derived.Test.YtokgfmibhkkiaaaIter
import Derived.Test.YtokgfmibhkkiaaaRep
namespace Go.Proofs.Ytokgfmibhkkiaaa
open Go.RowKit Go.Maps Go.Sort Go.Shelf Mem Wh Go.Proofs

theorem sortsA (m : Nat) : AnyZI.SortsIn Try.prog Try.sortedA_ren Fence.wide m :=
  ⟨fun blk off cap ss W hH hblk hsz => callsIn_wide.2 (AnyM.slices_Sort_int Try.sortA blk off cap ss W hH hblk hsz),
   fun p cap W => callsIn_wide.2 (AnyM.slices_Sort_int_none Try.sortA p cap W)⟩

/-- maps.Keys -/
theorem keys_any (mb : Option Nat) (W : World) :
    Calls Try.prog 65 #[.map mb] W fun e w' => e = .returned (.func (.func 73) #[] #[.pointer (some ⟨W.heap.size, 0, none⟩)]) ∧ W.alloc (.cells #[.map mb] 77) = w' :=
  ((callsIn_wide (n := 5)).1 (AnyZI.keys_in Try.keysA Fence.wide 5 trivial rfl mb W)).mono fun _ _ ⟨h1, h2⟩ => ⟨h1, h2.symm⟩

theorem intKeys_memD (l : List Mb) : intKeys (memD l) = l.map (·.id) := by
  show List.map _ (List.map _ l) = _
  rw [List.map_map]
  rfl

theorem sorted_unique {l : List Mb} (hl : Ids l) {ss : List Int} (h : ss.Perm (l.map (·.id))) : ss.mergeSort (fun x y => decide (x ≤ y)) = l.map (·.id) := by
  have hp : (ss.mergeSort (fun x y => decide (x ≤ y))).Perm (l.map (·.id)) := (List.mergeSort_perm ss _).trans h
  have hs : (ss.mergeSort (fun x y => decide (x ≤ y))).Pairwise (fun x y => x ≤ y) := by
    have := List.pairwise_mergeSort (le := fun x y : Int => decide (x ≤ y)) (fun a b c h1 h2 => by simp at *; omega) (fun a b => by simp; omega) ss
    exact this.imp fun {a b} h => by simpa using h
  have hs2 : (l.map (·.id)).Pairwise (fun x y => x ≤ y) := by
    rw [List.pairwise_map]
    exact hl.imp fun {a b} h => by omega
  exact hp.eq_of_pairwise (fun a b _ _ h1 h2 => by omega) hs hs2

set_option maxHeartbeats 1000000 in
/-- slices.Sorted, of what maps.Keys handed back -/
theorem sorted_any {l : List Mb} (hl : Ids l) (mb n : Nat) (w : World) (hown : w.ownsMap Try.prog 3 Rp mb n (memD l)) (hlen : l.length ≤ 1000000) :
    Calls Try.prog 64 #[.func (.func 73) #[] #[.pointer (some ⟨w.heap.size, 0, none⟩)]] (w.alloc (.cells #[.map (some mb)] 77)) fun e w' => ∃ v : Value, e = .returned v ∧
      w'.ownsRow (w.heap.size + 1) 3 1 v l.length (l.map fun m => .int .i64 m.id) ∧ Below (w.heap.size + 1) (w.alloc (.cells #[.map (some mb)] 77)) w' := by
  have hbl := hown.lt
  have hseq : SeqGives Fence.wide 2 Try.prog 73 #[.pointer (some ⟨w.heap.size, 0, none⟩)] encZ (fun ss => ss.Perm (intKeys (memD l))) (Maps.size (memD l)) (w.alloc (.cells #[.map (some mb)] 77)) :=
    AnyZI.keys_gives (ρ := Try.keysA_ren) { Try.keysA with } Fence.wide _ trivial rfl (by omega) w.heap.size mb n (memD l) _ (by simp) (by simp) (by
      obtain ⟨es, clock, hb, Ft, hs, hD⟩ := hown
      exact ⟨es, clock, (Below.heap_alloc _ _ mb hbl).trans hb, Ft, hs, hD⟩)
  have cS := AnyZI.sorted_in Try.sortedA Fence.wide 5 trivial trivial trivial trivial rfl (by omega) (sortsA _) (enters_of Try.func72 (by kernel_rfl) rfl) 73 #[.pointer (some ⟨w.heap.size, 0, none⟩)] trivial (enters_of Try.func73 (by kernel_rfl) rfl) _ _ (by rw [memD_size]; unfold maxLen; omega) (by rw [memD_size]; omega) _ hseq
  change CallsIn _ _ Try.prog 64 _ _ _ at cS
  refine ((callsIn_wide (n := 5)).1 cS).mono ?_
  rintro e w' ⟨v, ss, rfl, hS, hrow, hnil, hb⟩
  rw [intKeys_memD] at hS
  rw [sorted_unique hl hS, hS.length_eq, List.length_map, List.map_map, World.size_alloc] at hrow
  rw [World.size_alloc] at hb
  exact ⟨v, rfl, hrow, hb⟩
end Go.Proofs.Ytokgfmibhkkiaaa
