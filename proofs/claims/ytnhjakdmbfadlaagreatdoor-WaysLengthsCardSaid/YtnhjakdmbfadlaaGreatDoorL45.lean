/- Parts of the proof: Lnr. Conditions: none. -/
import Derived.Test.YtnhjakdmbfadlaaGreatDoorL44
import Derived.Deep.QuietTactic
import Derived.BigQuiet
set_option linter.all false
/- syntax.Lengths: the loop, the closure, the whole. -/
namespace Go.Proofs.YtnhjakdmbfadlaaGreatDoor
open Go.RowKit Wy Mem Grow

set_option maxHeartbeats 8000000 in
set_option maxRecDepth 100000 in
theorem ln_rep {vb nb ub uo n uc i : Nat} {a0 b0 a b : Int} {k lo hi : Int} {lz : Bool} {p1 p2 : Option Addr} {n1 d1 n2 d2 : Nat} {ks los his : Int} {lzs : Bool} {ps1 ps2 : Option Addr} {ns1 ds1 ns2 ds2 : Nat} {W : World} {J : Act → World → Prop} {Q : Exit → Act → World → Prop} (e : Nat → Value) (hin : i < n) (hn : n ≤ 1048576) (huc : n ≤ uc) (hv : W.cell? ⟨vb, 0, none⟩ = some (.func (.func 54) #[] #[.pointer (some ⟨vb, 0, none⟩)])) (vz : vb < W.heap.size) (hB : Blk W nb #[.int .u8 k, .slice p1 n1 d1, .int .i64 lo, .int .i64 hi, .bool lz, .slice p2 n2 d2] 27) (uz : ub < W.heap.size)
    (g0 : W.cell? ⟨ub, uo + i * 6, none⟩ = some (.int .u8 ks)) (g1 : W.cell? ⟨ub, uo + i * 6 + 1, none⟩ = some (.slice ps1 ns1 ds1)) (g2 : W.cell? ⟨ub, uo + i * 6 + 2, none⟩ = some (.int .i64 los)) (g3 : W.cell? ⟨ub, uo + i * 6 + 3, none⟩ = some (.int .i64 his)) (g4 : W.cell? ⟨ub, uo + i * 6 + 4, none⟩ = some (.bool lzs)) (g5 : W.cell? ⟨ub, uo + i * 6 + 5, none⟩ = some (.slice ps2 ns2 ds2))
    (hcall : ∀ w', Below W.heap.size W w' → Calls Tryz.prog 54 #[.agg #[.int .u8 ks, .slice ps1 ns1 ds1, .int .i64 los, .int .i64 his, .bool lzs, .slice ps2 ns2 ds2], .pointer (some ⟨vb, 0, none⟩)] w' fun e w'' => e = .returned (.tuple #[.int .i64 a, .int .i64 b]) ∧ Below w'.heap.size w' w'')
    (hA : -1 ≤ a ∧ a ≤ 1073741824) (hBb : -1 ≤ b ∧ b ≤ 1073741824) (hA0 : -1 ≤ a0 ∧ a0 ≤ 1073741824) (hB0 : -1 ≤ b0 ∧ b0 ≤ 1073741824)
    (hk5 : k = 5) (hm1 : a ≠ -1 → lo ≠ -1 → 0 ≤ a * lo ∧ a * lo ≤ 9223372036854775807) (hm2 : b ≠ -1 → hi ≠ -1 → 0 ≤ b * hi ∧ b * hi ≤ 9223372036854775807)
    (hJ : ∀ (m : List Value) (w' : World), m.length = 72 → (m[1]? = some (.pointer (some ⟨vb, 0, none⟩)) ∧ m[2]? = some (.pointer (some ⟨nb, 0, none⟩)) ∧ m[15]? = some (.slice (some ⟨ub, uo, none⟩) n uc) ∧ m[16]? = some (.int .i64 n)) → m[5]? = some (.int .i64 (timesL a lo)) → m[6]? = some (.int .i64 (timesL b hi)) → m[17]? = some (.int .i64 (i + 1)) → Below W.heap.size W w' → J ⟨m.toArray, []⟩ w') :
    Code.wp Tryz.prog (lnC [1, 1, 1, 0, 1, 0, 0]) (Exit.then J Q) ⟨#[e 0, .pointer (some ⟨vb, 0, none⟩), .pointer (some ⟨nb, 0, none⟩), e 3, e 4, .int .i64 a0, .int .i64 b0, e 7, e 8, e 9, e 10, e 11, e 12, e 13, e 14, .slice (some ⟨ub, uo, none⟩) n uc, .int .i64 n, .int .i64 i, e 18, e 19, e 20, e 21, e 22, e 23, e 24, e 25, e 26, e 27, e 28, e 29, e 30, e 31, e 32, e 33, e 34, e 35, e 36, e 37, e 38, e 39, e 40, e 41, e 42, e 43, e 44, e 45, e 46, e 47, e 48, e 49, e 50, e 51, e 52, e 53, e 54, e 55, e 56, e 57, e 58, e 59, e 60, e 61, e 62, e 63, e 64, e 65, e 66, e 67, e 68, e 69, e 70, e 71], []⟩ W := by
  have hiI : (i : Int) < n := by omega
  have hnI : (n : Int) ≤ 1048576 := by omega
  have hcI : (n : Int) ≤ uc := by omega
  obtain ⟨ha1, ha2⟩ := hA
  obtain ⟨hb1, hb2⟩ := hBb
  obtain ⟨ha3, ha4⟩ := hA0
  obtain ⟨hb3, hb4⟩ := hB0
  subst hk5
  have HB := Lib.hid hB
  have hb1' : Below W.heap.size W (W.alloc (.cells #[.int .u8 ks, .slice ps1 ns1 ds1, .int .i64 los, .int .i64 his, .bool lzs, .slice ps2 ns2 ds2] 27)) := (Below.refl _ _).alloc (Nat.le_refl _) _
  have HB1 := Lib.hid hb1'
  have HC := Lib.hid (hcall _ hb1')
  have HJ := Lib.hid hJ
  clear hB hcall hJ hb1' 
  conv => arg 2; whnf
  go_upto_region 12 with (first
    | (go_at_call 54; go_loud (refine HC.out.mono ?_; rintro ee w2 ⟨rfl, hb2⟩; have HB2 := Lib.hid (HB1.out.trans (hb2.mono HB1.out.size)); have B2 := HB.out.below HB2.out HB.out.lt; have c0 := B2.cell 0; have c2 := B2.cell 2; have c3 := B2.cell 3; have cz := B2.lt; clear hb2 B2)))
  go_quiet (first | (go_at_call 55; exact Calls.quiet_of_same (times_any _ _ _ (by assumption))))
  go_wp2_with fail
  exact HJ.out _ _ rfl ⟨rfl, rfl, rfl, rfl⟩ rfl rfl rfl (HB2.out.trans ⟨rfl, rfl, rfl, Nat.le_refl _, fun _ _ => rfl⟩)
set_option maxHeartbeats 8000000 in
set_option maxRecDepth 100000 in
theorem ln_out {n : Nat} {W : World} {J : Act → World → Prop} {Q : Exit → Act → World → Prop} (e : Nat → Value) (hn : n ≤ 1048576) (hJ : ∀ (m : List Value), m.length = 72 → m[5]? = some (e 5) → m[6]? = some (e 6) → Q (.exit 0) ⟨m.toArray, []⟩ W) :
    Code.wp Tryz.prog (lnC [1, 1, 1, 0, 1, 0, 0]) (Exit.then J Q) ⟨#[e 0, e 1, e 2, e 3, e 4, e 5, e 6, e 7, e 8, e 9, e 10, e 11, e 12, e 13, e 14, e 15, .int .i64 n, .int .i64 n, e 18, e 19, e 20, e 21, e 22, e 23, e 24, e 25, e 26, e 27, e 28, e 29, e 30, e 31, e 32, e 33, e 34, e 35, e 36, e 37, e 38, e 39, e 40, e 41, e 42, e 43, e 44, e 45, e 46, e 47, e 48, e 49, e 50, e 51, e 52, e 53, e 54, e 55, e 56, e 57, e 58, e 59, e 60, e 61, e 62, e 63, e 64, e 65, e 66, e 67, e 68, e 69, e 70, e 71], []⟩ W := by
  have HJ := Lib.hid hJ
  clear hJ
  conv => arg 2; whnf
  go_wp2_with fail
  exact HJ.out _ rfl rfl rfl
end Go.Proofs.YtnhjakdmbfadlaaGreatDoor
