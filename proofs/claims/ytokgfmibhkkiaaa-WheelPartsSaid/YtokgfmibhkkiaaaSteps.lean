/- The argument of steps, opened. -/
import Derived.Test.YtokgfmibhkkiaaaRow
import Derived.Test.YtokgfmibhkkiaaaIn
namespace Go.Proofs.Ytokgfmibhkkiaaa
open Go.ChangeShapes Go.WideShapes Go.ChangeAt Go.RowKit Go.Deep
open Mem Wh

theorem under37 : Try.prog.underlying 37 = some (.slice 38) := by kernel_rfl
theorem cells38 : Try.prog.cellsOf 38 = 1 := by kernel_rfl
theorem u32_of {x : Int} (h : (Lit.int .u32 x).wf = true) : 0 ≤ x ∧ x < 4294967296 := by
  have := bounds_u32 h
  exact ⟨this.1, by omega⟩
set_option maxRecDepth 100000 in
theorem steps_any {H : Type} {enc : TypeId × Value → H} {W : World} {a : Option Addr} {len cap : Nat} {d : DataW H} {p : List MemPlace} (h : DataW.Trod enc Try.prog W 0 (fun _ => true) true 37 (.slice a len cap) d p) : ∃ T, StepsAt W W.heap.size (.slice a len cap) T := by
  obtain ⟨fuel, hf⟩ := h
  rcases open_slice under37 hf with ⟨hcs, -⟩ | ⟨x, l, c, m, n, D, Pl, hcs, hb, hl, hm, hmm, hx, hi⟩
  · simp [Value.cells] at hcs
    obtain ⟨rfl, rfl, rfl⟩ := hcs
    exact ⟨[], .inl ⟨rfl, rfl⟩⟩
  · simp [Value.cells] at hcs
    obtain ⟨rfl, rfl, rfl⟩ := hcs
    rw [cells38] at hi
    simp at hmm
    obtain ⟨T, hT, hP⟩ := list_of (α := Int) (n := len) (P := fun (i : Nat) (s : Int) => (0 ≤ s ∧ s < 4294967296) ∧ W.cell? (x.add i) = some (.int .u32 s)) (fun i hil => by
      obtain ⟨cs', hc, ht⟩ := hi i (by omega)
      obtain ⟨z, rfl, -, w0⟩ := DataW.trod_int (k := .u32) (by kernel_rfl) ht
      obtain ⟨-, -, hat⟩ := World.cells?_some hc
      have h0 := hat 0 (by omega)
      rw [Nat.mul_one] at h0
      exact ⟨z, u32_of w0, h0⟩)
    subst hT
    refine ⟨T, .inr ⟨x, cap, rfl, hl, hm, fun h0 => ?_, hP⟩⟩
    have := (hP 0 h0).2
    rcases Nat.lt_or_ge (x.add 0).block W.heap.size with h | h
    · rwa [add_blk] at h
    · unfold World.cell? at this
      rw [Array.getElem?_eq_none h] at this
      simp at this
end Go.Proofs.Ytokgfmibhkkiaaa
