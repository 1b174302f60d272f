/- the laws' own helpers: Made -/
import Derived.Test.YtokgfmibhkkiaaaAdvW
namespace Go.Proofs.Ytokgfmibhkkiaaa
open Go.RowKit Wh Mem Go.Maps

/-- the plan that Made makes -/
def madeOf (x y z : Int) : Plan := ⟨1 + x % 1099511627776, y % (1 + x % 1099511627776), 1 + z % (1 + x % 1099511627776)⟩
theorem madeOf_right {x y z : Int} : Right (madeOf x y z) := by
  have h1 := Int.emod_nonneg x (b := 1099511627776) (by omega)
  have h2 := Int.emod_lt_of_pos x (b := 1099511627776) (by omega)
  have h3 := Int.emod_nonneg y (b := 1 + x % 1099511627776) (by omega)
  have h4 := Int.emod_lt_of_pos y (b := 1 + x % 1099511627776) (by omega)
  have h5 := Int.emod_nonneg z (b := 1 + x % 1099511627776) (by omega)
  have h6 := Int.emod_lt_of_pos z (b := 1 + x % 1099511627776) (by omega)
  simp only [Right, madeOf]
  omega

set_option maxHeartbeats 1000000 in
theorem made_plan (x y z : Int) (hx : 0 ≤ x) (hx' : x < 18446744073709551616) (hy : 0 ≤ y) (hy' : y < 18446744073709551616) (hz : 0 ≤ z) (hz' : z < 18446744073709551616) (W : World) :
    Calls Try.prog 19 #[.int .u64 x, .int .u64 y, .int .u64 z] W fun e w' =>
      e = .returned (.agg #[.int .i64 (madeOf x y z).every, .int .i64 (madeOf x y z).offset, .int .i64 (madeOf x y z).timeout]) ∧ Below W.heap.size W w' := by
  have a1 := Int.emod_nonneg x (b := 1099511627776) (by omega)
  have a2 := Int.emod_lt_of_pos x (b := 1099511627776) (by omega)
  have e1 : (x.tmod 1099511627776) = x % 1099511627776 := Int.tmod_eq_emod_of_nonneg hx
  show Calls Try.prog 19 #[.int .u64 x, .int .u64 y, .int .u64 z] W fun e w' => e = .returned (.agg #[.int .i64 (1 + x % 1099511627776), .int .i64 (y % (1 + x % 1099511627776)), .int .i64 (1 + z % (1 + x % 1099511627776))]) ∧ Below W.heap.size W w'
  clear e1
  generalize hm : x % 1099511627776 = m at a1 a2 ⊢
  obtain ⟨E, hE⟩ : ∃ E, E = 1 + m := ⟨_, rfl⟩
  rw [← hE]
  have E1 : 1 ≤ E := by omega
  have E2 : E ≤ 1099511627776 := by omega
  have E0 : E ≠ 0 := by omega
  have t1 : y.tmod E = y % E := Int.tmod_eq_emod_of_nonneg hy
  have t2 : z.tmod E = z % E := Int.tmod_eq_emod_of_nonneg hz
  have b1 := Int.emod_nonneg y E0
  have b2 := Int.emod_lt_of_pos y (b := E) (by omega)
  have b3 := Int.emod_nonneg z E0
  have b4 := Int.emod_lt_of_pos z (b := E) (by omega)
  generalize ho : y % E = o at t1 b1 b2 ⊢
  generalize ht : z % E = t at t2 b3 b4 ⊢
  go_enter Try.func19, Try.ntmps19
  go_upto_region 2 with (fail)
  simp only [hm, ← hE]
  go_region
  all_goals
    go_wp2
    refine bodyPost_ret (v := .agg #[.int .i64 E, .int .i64 o, .int .i64 (1 + t)]) (by simp [results, Try.results19, go_sem]; refine ⟨hE.symm, ?_, ?_⟩ <;> (rw [← hE]; first | rw [ho] | rw [ht]) <;> unfold wrap64 <;> omega) rfl ⟨rfl, ?_⟩
    go_grown
end Go.Proofs.Ytokgfmibhkkiaaa
