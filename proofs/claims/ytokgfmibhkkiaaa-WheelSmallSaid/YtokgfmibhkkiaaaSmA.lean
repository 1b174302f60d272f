/- WheelSmall's lists of acts: a row of one's own is a list of acts; the closure that makes an Add. -/
import Derived.Test.YtokgfmibhkkiaaaActsW
namespace Go.Proofs.Ytokgfmibhkkiaaa
open Go.RowKit Wh Tw Mem Grow Flat

def acCs (a : Ac) : List Value := [.int .u8 a.kind, .int .i64 a.id, .int .i64 a.n, .int .i64 a.plan.every, .int .i64 a.plan.offset, .int .i64 a.plan.timeout]
theorem ActsAt.of_row {w : World} {base n : Nat} {v : Value} {T : List Ac} (h : w.ownsRow base 66 6 v n (T.flatMap acCs)) (ok : ∀ a ∈ T, a.Ok) : ActsAt w w.heap.size v T := by
  have hn : n = T.length := by
    have h1 := h.1
    have h2 : (T.flatMap acCs).length = T.length * 6 := by
      clear h h1 ok
      induction T with
      | nil => rfl
      | cons a r ih => rw [List.flatMap_cons, List.length_append, ih, List.length_cons]; simp only [acCs, List.length_cons, List.length_nil]; omega
    omega
  subst hn
  rcases h.2 with ⟨rfl, h0⟩ | ⟨g, cap, cur, rfl, hb, hg, hnc, hcm, -, -⟩
  · exact .inl ⟨List.eq_nil_of_length_eq_zero h0, none, 0, rfl⟩
  · refine .inr ⟨g, 0, cap, rfl, hnc, hcm, (Array.getElem?_eq_some_iff.1 hg).1, fun j hj => ?_⟩
    have key : ∀ i, i < 6 → w.cell? ⟨g, 0 + j * 6 + i, none⟩ = (acCs T[j])[i]? := fun i hi => by
      rw [Nat.zero_add, h.cellAt _ (by omega), flat_at (n := 6) (fun _ => rfl) T j i hj hi]
    exact ⟨ok _ (List.getElem_mem hj), key 0 (by omega), key 1 (by omega), key 2 (by omega), key 3 (by omega), key 4 (by omega), key 5 (by omega)⟩
/-- a list of acts that was just built -/
theorem acts_new (w : World) {T : List Ac} {cs : Array Value} {n : Nat} (hn : n = T.length) (hcs : cs.toList = T.flatMap acCs) (hm : n ≤ maxLen) :
    (w.alloc (.cells cs 66)).ownsRow w.heap.size 66 6 (.slice (some ⟨w.heap.size, 0, none⟩) n n) n (T.flatMap acCs) := by
  have h2 : (T.flatMap acCs).length = T.length * 6 := by
    clear hcs hn hm
    induction T with
    | nil => rfl
    | cons a r ih => rw [List.flatMap_cons, List.length_append, ih, List.length_cons]; simp only [acCs, List.length_cons, List.length_nil]; omega
  refine ⟨by rw [h2, hn], .inr ⟨w.heap.size, n, _, rfl, Nat.le_refl _, heap_alloc_new w _, Nat.le_refl _, hm, ?_, ?_⟩⟩
  · rw [← Array.length_toList, hcs, h2, hn]
  · rw [hcs]
    exact List.take_of_length_le (by rw [h2, hn]; omega)

theorem add_act (id y o t : Int) (w : World) :
    Calls Try.prog 25 #[.int .i64 id, .int .i64 y, .int .i64 o, .int .i64 t] w fun e w' => e = .returned (.agg #[.int .u8 0, .int .i64 id, .int .i64 0, .int .i64 y, .int .i64 o, .int .i64 t]) ∧ Below w.heap.size w w' := by
  go_enter Try.func25, Try.ntmps25
  go_wp2
  refine bodyPost_ret (v := .agg #[.int .u8 0, .int .i64 id, .int .i64 0, .int .i64 y, .int .i64 o, .int .i64 t]) (by simp [results, Try.results25, go_sem]) rfl ⟨rfl, (Below.refl _ _).alloc (Nat.le_refl _) _⟩
end Go.Proofs.Ytokgfmibhkkiaaa
