/- Parts of the proof: Lns. Conditions: none. -/
import Derived.Test.YtnhjakdmbfadlaaGreatDoorL40
import Derived.Test.YtnhjakdmbfadlaaGreatDoorL43
import Derived.BigFrame
set_option linter.all false
/- syntax.Lengths. -/
namespace Go.Proofs.YtnhjakdmbfadlaaGreatDoor
open Go.RowKit Wy Mem Grow

theorem times_any (a n : Int) (w : World) (h : a ≠ -1 → n ≠ -1 → 0 ≤ a * n ∧ a * n ≤ 9223372036854775807) : Calls Tryz.prog 55 #[.int .i64 a, .int .i64 n] w fun e w' => e = .returned (.int .i64 (timesL a n)) ∧ w' = w := by
  unfold timesL
  by_cases ha : a = 0
  · have hb : (a == 0) = true := by simp [ha]
    rw [if_pos (.inl ha)]
    clear h ha
    go_enter Tryz.func55, Tryz.ntmps55
    go_wp2
    go_ret
    exact ⟨rfl, rfl⟩
  have hb : (a == 0) = false := by simp [ha]
  by_cases hn : n = 0
  · have hc : (n == 0) = true := by simp [hn]
    rw [if_pos (.inr hn)]
    clear h ha hn
    go_enter Tryz.func55, Tryz.ntmps55
    go_wp2
    go_ret
    exact ⟨rfl, rfl⟩
  have hc : (n == 0) = false := by simp [hn]
  rw [if_neg (by omega)]
  by_cases ha1 : a = -1
  · have hd : (a == -1) = true := by simp [ha1]
    rw [if_pos (.inl ha1)]
    clear h ha hn ha1
    go_enter Tryz.func55, Tryz.ntmps55
    go_wp2
    go_ret
    exact ⟨rfl, rfl⟩
  have hd : (a == -1) = false := by simp [ha1]
  by_cases hn1 : n = -1
  · have he : (n == -1) = true := by simp [hn1]
    rw [if_pos (.inr hn1)]
    clear h ha hn ha1 hn1
    go_enter Tryz.func55, Tryz.ntmps55
    go_wp2
    go_ret
    exact ⟨rfl, rfl⟩
  have he : (n == -1) = false := by simp [hn1]
  obtain ⟨h0, h1⟩ := h ha1 hn1
  rw [if_neg (by omega)]
  have hw : IntKind.i64.wrap (a * n) = a * n := by
    unfold IntKind.wrap
    simp [IntKind.bits, IntKind.signed]
    omega
  clear ha hn ha1 hn1
  go_enter Tryz.func55, Tryz.ntmps55
  go_wp2
  go_ret
  exact ⟨by first | rfl | (congr 3 <;> omega), rfl⟩
theorem plus_any (a b : Int) (w : World) (ha0 : -1 ≤ a) (ha2 : a ≤ 1073741824) (hb0 : -1 ≤ b) (hb2 : b ≤ 1073741824) : Calls Tryz.prog 56 #[.int .i64 a, .int .i64 b] w fun e w' => e = .returned (.int .i64 (plusL a b)) ∧ w' = w := by
  unfold plusL
  by_cases ha : a = -1
  · have hb : (a == -1) = true := by simp [ha]
    rw [if_pos (.inl ha)]
    clear ha0 ha2 hb0 hb2 ha
    go_enter Tryz.func56, Tryz.ntmps56
    go_wp2
    go_ret
    exact ⟨rfl, rfl⟩
  have hb : (a == -1) = false := by simp [ha]
  by_cases hn : b = -1
  · have hc : (b == -1) = true := by simp [hn]
    rw [if_pos (.inr hn)]
    clear ha0 ha2 hb0 hb2 ha hn
    go_enter Tryz.func56, Tryz.ntmps56
    go_wp2
    go_ret
    exact ⟨rfl, rfl⟩
  have hc : (b == -1) = false := by simp [hn]
  rw [if_neg (by omega)]
  clear ha hn
  go_enter Tryz.func56, Tryz.ntmps56
  go_wp2
  go_ret
  exact ⟨rfl, rfl⟩
noncomputable def lnC (p : List Nat) : Code := pieceC (way p) (Tryz.f54.body.getD .skip)
set_option maxRecDepth 100000 in
theorem frame72 {l : List Value} (h : l.length = 72) : ∃ e : Nat → Value, l = [e 0, e 1, e 2, e 3, e 4, e 5, e 6, e 7, e 8, e 9, e 10, e 11, e 12, e 13, e 14, e 15, e 16, e 17, e 18, e 19, e 20, e 21, e 22, e 23, e 24, e 25, e 26, e 27, e 28, e 29, e 30, e 31, e 32, e 33, e 34, e 35, e 36, e 37, e 38, e 39, e 40, e 41, e 42, e 43, e 44, e 45, e 46, e 47, e 48, e 49, e 50, e 51, e 52, e 53, e 54, e 55, e 56, e 57, e 58, e 59, e 60, e 61, e 62, e 63, e 64, e 65, e 66, e 67, e 68, e 69, e 70, e 71] := by
  refine ⟨fun k => l.getD k undef, ?_⟩
  have h2 : l = (List.range 72).map fun k => l.getD k undef := by
    apply List.ext_getElem
    · simp [h]
    · intro i h1 h2
      simp [List.getD_eq_getElem?_getD, h1]
  exact h2
/-- the closure that Lengths stores: it captures the variable that it stands in -/
def lenV (vb : Nat) : Value := .func (.func 54) #[] #[.pointer (some ⟨vb, 0, none⟩)]
set_option maxHeartbeats 8000000 in
set_option maxRecDepth 100000 in
theorem ln_plus {vb nb ub uo n uc i : Nat} {a0 b0 a b : Int} {k lo hi : Int} {lz : Bool} {p1 p2 : Option Addr} {n1 d1 n2 d2 : Nat} {ks los his : Int} {lzs : Bool} {ps1 ps2 : Option Addr} {ns1 ds1 ns2 ds2 : Nat} {W : World} {J : Act → World → Prop} {Q : Exit → Act → World → Prop} (e : Nat → Value) (hin : i < n) (hn : n ≤ 1048576) (huc : n ≤ uc) (hv : W.cell? ⟨vb, 0, none⟩ = some (.func (.func 54) #[] #[.pointer (some ⟨vb, 0, none⟩)])) (vz : vb < W.heap.size) (hB : Blk W nb #[.int .u8 k, .slice p1 n1 d1, .int .i64 lo, .int .i64 hi, .bool lz, .slice p2 n2 d2] 27) (uz : ub < W.heap.size)
    (g0 : W.cell? ⟨ub, uo + i * 6, none⟩ = some (.int .u8 ks)) (g1 : W.cell? ⟨ub, uo + i * 6 + 1, none⟩ = some (.slice ps1 ns1 ds1)) (g2 : W.cell? ⟨ub, uo + i * 6 + 2, none⟩ = some (.int .i64 los)) (g3 : W.cell? ⟨ub, uo + i * 6 + 3, none⟩ = some (.int .i64 his)) (g4 : W.cell? ⟨ub, uo + i * 6 + 4, none⟩ = some (.bool lzs)) (g5 : W.cell? ⟨ub, uo + i * 6 + 5, none⟩ = some (.slice ps2 ns2 ds2))
    (hcall : ∀ w', Below W.heap.size W w' → Calls Tryz.prog 54 #[.agg #[.int .u8 ks, .slice ps1 ns1 ds1, .int .i64 los, .int .i64 his, .bool lzs, .slice ps2 ns2 ds2], .pointer (some ⟨vb, 0, none⟩)] w' fun e w'' => e = .returned (.tuple #[.int .i64 a, .int .i64 b]) ∧ Below w'.heap.size w' w'')
    (hA : -1 ≤ a ∧ a ≤ 1073741824) (hBb : -1 ≤ b ∧ b ≤ 1073741824) (hA0 : -1 ≤ a0 ∧ a0 ≤ 1073741824) (hB0 : -1 ≤ b0 ∧ b0 ≤ 1073741824)
    (hk5 : k ≠ 5) (hk4 : k ≠ 4)
    (hJ : ∀ (m : List Value) (w' : World), m.length = 72 → (m[1]? = some (.pointer (some ⟨vb, 0, none⟩)) ∧ m[2]? = some (.pointer (some ⟨nb, 0, none⟩)) ∧ m[15]? = some (.slice (some ⟨ub, uo, none⟩) n uc) ∧ m[16]? = some (.int .i64 n)) → m[5]? = some (.int .i64 (plusL a0 a)) → m[6]? = some (.int .i64 (plusL b0 b)) → m[17]? = some (.int .i64 (i + 1)) → Below W.heap.size W w' → J ⟨m.toArray, []⟩ w') :
    Code.wp Tryz.prog (lnC [1, 1, 1, 0, 1, 0, 0]) (Exit.then J Q) ⟨#[e 0, .pointer (some ⟨vb, 0, none⟩), .pointer (some ⟨nb, 0, none⟩), e 3, e 4, .int .i64 a0, .int .i64 b0, e 7, e 8, e 9, e 10, e 11, e 12, e 13, e 14, .slice (some ⟨ub, uo, none⟩) n uc, .int .i64 n, .int .i64 i, e 18, e 19, e 20, e 21, e 22, e 23, e 24, e 25, e 26, e 27, e 28, e 29, e 30, e 31, e 32, e 33, e 34, e 35, e 36, e 37, e 38, e 39, e 40, e 41, e 42, e 43, e 44, e 45, e 46, e 47, e 48, e 49, e 50, e 51, e 52, e 53, e 54, e 55, e 56, e 57, e 58, e 59, e 60, e 61, e 62, e 63, e 64, e 65, e 66, e 67, e 68, e 69, e 70, e 71], []⟩ W := by
  have hiI : (i : Int) < n := by omega
  have hnI : (n : Int) ≤ 1048576 := by omega
  have hcI : (n : Int) ≤ uc := by omega
  obtain ⟨ha1, ha2⟩ := hA
  obtain ⟨hb1, hb2⟩ := hBb
  obtain ⟨ha3, ha4⟩ := hA0
  obtain ⟨hb3, hb4⟩ := hB0
  have h5b : (k == 5) = false := beq_eq_false_iff_ne.2 hk5
  have h4b : (k == 4) = false := beq_eq_false_iff_ne.2 hk4

  have HB := Lib.hid hB
  have hb1' : Below W.heap.size W (W.alloc (.cells #[.int .u8 ks, .slice ps1 ns1 ds1, .int .i64 los, .int .i64 his, .bool lzs, .slice ps2 ns2 ds2] 27)) := (Below.refl _ _).alloc (Nat.le_refl _) _
  have HB1 := Lib.hid hb1'
  have HC := Lib.hid (hcall _ hb1')
  have HJ := Lib.hid hJ
  clear hB hcall hJ hb1' hk5 hk4
  conv => arg 2; whnf
  go_wp2_with (first
    | (go_at_call 54; go_loud (refine HC.out.mono ?_; rintro ee w2 ⟨rfl, hb2⟩; have HB2 := Lib.hid (HB1.out.trans (hb2.mono HB1.out.size)); have B2 := HB.out.below HB2.out HB.out.lt; have c0 := B2.cell 0; have c2 := B2.cell 2; have c3 := B2.cell 3; have cz := B2.lt; clear hb2 B2))
    | (go_at_call 56; go_loud (refine (plus_any _ _ _ (by omega) (by omega) (by omega) (by omega)).mono ?_; rintro ee w3 ⟨rfl, rfl⟩)))
  exact HJ.out _ _ rfl ⟨rfl, rfl, rfl, rfl⟩ rfl rfl rfl HB2.out
set_option maxHeartbeats 8000000 in
set_option maxRecDepth 100000 in
theorem ln_plus0 {vb nb ub uo n uc i : Nat} {a0 b0 a b : Int} {k lo hi : Int} {lz : Bool} {p1 p2 : Option Addr} {n1 d1 n2 d2 : Nat} {ks los his : Int} {lzs : Bool} {ps1 ps2 : Option Addr} {ns1 ds1 ns2 ds2 : Nat} {W : World} {J : Act → World → Prop} {Q : Exit → Act → World → Prop} (e : Nat → Value) (hin : i < n) (hn : n ≤ 1048576) (huc : n ≤ uc) (hv : W.cell? ⟨vb, 0, none⟩ = some (.func (.func 54) #[] #[.pointer (some ⟨vb, 0, none⟩)])) (vz : vb < W.heap.size) (hB : Blk W nb #[.int .u8 k, .slice p1 n1 d1, .int .i64 lo, .int .i64 hi, .bool lz, .slice p2 n2 d2] 27) (uz : ub < W.heap.size)
    (g0 : W.cell? ⟨ub, uo + i * 6, none⟩ = some (.int .u8 ks)) (g1 : W.cell? ⟨ub, uo + i * 6 + 1, none⟩ = some (.slice ps1 ns1 ds1)) (g2 : W.cell? ⟨ub, uo + i * 6 + 2, none⟩ = some (.int .i64 los)) (g3 : W.cell? ⟨ub, uo + i * 6 + 3, none⟩ = some (.int .i64 his)) (g4 : W.cell? ⟨ub, uo + i * 6 + 4, none⟩ = some (.bool lzs)) (g5 : W.cell? ⟨ub, uo + i * 6 + 5, none⟩ = some (.slice ps2 ns2 ds2))
    (hcall : ∀ w', Below W.heap.size W w' → Calls Tryz.prog 54 #[.agg #[.int .u8 ks, .slice ps1 ns1 ds1, .int .i64 los, .int .i64 his, .bool lzs, .slice ps2 ns2 ds2], .pointer (some ⟨vb, 0, none⟩)] w' fun e w'' => e = .returned (.tuple #[.int .i64 a, .int .i64 b]) ∧ Below w'.heap.size w' w'')
    (hA : -1 ≤ a ∧ a ≤ 1073741824) (hBb : -1 ≤ b ∧ b ≤ 1073741824) (hA0 : -1 ≤ a0 ∧ a0 ≤ 1073741824) (hB0 : -1 ≤ b0 ∧ b0 ≤ 1073741824)
    (hk4 : k = 4) (hi0 : i = 0)
    (hJ : ∀ (m : List Value) (w' : World), m.length = 72 → (m[1]? = some (.pointer (some ⟨vb, 0, none⟩)) ∧ m[2]? = some (.pointer (some ⟨nb, 0, none⟩)) ∧ m[15]? = some (.slice (some ⟨ub, uo, none⟩) n uc) ∧ m[16]? = some (.int .i64 n)) → m[5]? = some (.int .i64 (plusL a0 a)) → m[6]? = some (.int .i64 (plusL b0 b)) → m[17]? = some (.int .i64 (i + 1)) → Below W.heap.size W w' → J ⟨m.toArray, []⟩ w') :
    Code.wp Tryz.prog (lnC [1, 1, 1, 0, 1, 0, 0]) (Exit.then J Q) ⟨#[e 0, .pointer (some ⟨vb, 0, none⟩), .pointer (some ⟨nb, 0, none⟩), e 3, e 4, .int .i64 a0, .int .i64 b0, e 7, e 8, e 9, e 10, e 11, e 12, e 13, e 14, .slice (some ⟨ub, uo, none⟩) n uc, .int .i64 n, .int .i64 i, e 18, e 19, e 20, e 21, e 22, e 23, e 24, e 25, e 26, e 27, e 28, e 29, e 30, e 31, e 32, e 33, e 34, e 35, e 36, e 37, e 38, e 39, e 40, e 41, e 42, e 43, e 44, e 45, e 46, e 47, e 48, e 49, e 50, e 51, e 52, e 53, e 54, e 55, e 56, e 57, e 58, e 59, e 60, e 61, e 62, e 63, e 64, e 65, e 66, e 67, e 68, e 69, e 70, e 71], []⟩ W := by
  have hiI : (i : Int) < n := by omega
  have hnI : (n : Int) ≤ 1048576 := by omega
  have hcI : (n : Int) ≤ uc := by omega
  obtain ⟨ha1, ha2⟩ := hA
  obtain ⟨hb1, hb2⟩ := hBb
  obtain ⟨ha3, ha4⟩ := hA0
  obtain ⟨hb3, hb4⟩ := hB0
  subst hk4
  have hib : ((i : Int) == 0) = true := by rw [hi0]; rfl

  have HB := Lib.hid hB
  have hb1' : Below W.heap.size W (W.alloc (.cells #[.int .u8 ks, .slice ps1 ns1 ds1, .int .i64 los, .int .i64 his, .bool lzs, .slice ps2 ns2 ds2] 27)) := (Below.refl _ _).alloc (Nat.le_refl _) _
  have HB1 := Lib.hid hb1'
  have HC := Lib.hid (hcall _ hb1')
  have HJ := Lib.hid hJ
  clear hB hcall hJ hb1' hi0
  conv => arg 2; whnf
  go_wp2_with (first
    | (go_at_call 54; go_loud (refine HC.out.mono ?_; rintro ee w2 ⟨rfl, hb2⟩; have HB2 := Lib.hid (HB1.out.trans (hb2.mono HB1.out.size)); have B2 := HB.out.below HB2.out HB.out.lt; have c0 := B2.cell 0; have c2 := B2.cell 2; have c3 := B2.cell 3; have cz := B2.lt; clear hb2 B2))
    | (go_at_call 56; go_loud (refine (plus_any _ _ _ (by omega) (by omega) (by omega) (by omega)).mono ?_; rintro ee w3 ⟨rfl, rfl⟩)))
  exact HJ.out _ _ rfl ⟨rfl, rfl, rfl, rfl⟩ rfl rfl rfl HB2.out
set_option maxHeartbeats 8000000 in
set_option maxRecDepth 100000 in
theorem ln_alt1 {vb nb ub uo n uc i : Nat} {a0 b0 a b : Int} {k lo hi : Int} {lz : Bool} {p1 p2 : Option Addr} {n1 d1 n2 d2 : Nat} {ks los his : Int} {lzs : Bool} {ps1 ps2 : Option Addr} {ns1 ds1 ns2 ds2 : Nat} {W : World} {J : Act → World → Prop} {Q : Exit → Act → World → Prop} (e : Nat → Value) (hin : i < n) (hn : n ≤ 1048576) (huc : n ≤ uc) (hv : W.cell? ⟨vb, 0, none⟩ = some (.func (.func 54) #[] #[.pointer (some ⟨vb, 0, none⟩)])) (vz : vb < W.heap.size) (hB : Blk W nb #[.int .u8 k, .slice p1 n1 d1, .int .i64 lo, .int .i64 hi, .bool lz, .slice p2 n2 d2] 27) (uz : ub < W.heap.size)
    (g0 : W.cell? ⟨ub, uo + i * 6, none⟩ = some (.int .u8 ks)) (g1 : W.cell? ⟨ub, uo + i * 6 + 1, none⟩ = some (.slice ps1 ns1 ds1)) (g2 : W.cell? ⟨ub, uo + i * 6 + 2, none⟩ = some (.int .i64 los)) (g3 : W.cell? ⟨ub, uo + i * 6 + 3, none⟩ = some (.int .i64 his)) (g4 : W.cell? ⟨ub, uo + i * 6 + 4, none⟩ = some (.bool lzs)) (g5 : W.cell? ⟨ub, uo + i * 6 + 5, none⟩ = some (.slice ps2 ns2 ds2))
    (hcall : ∀ w', Below W.heap.size W w' → Calls Tryz.prog 54 #[.agg #[.int .u8 ks, .slice ps1 ns1 ds1, .int .i64 los, .int .i64 his, .bool lzs, .slice ps2 ns2 ds2], .pointer (some ⟨vb, 0, none⟩)] w' fun e w'' => e = .returned (.tuple #[.int .i64 a, .int .i64 b]) ∧ Below w'.heap.size w' w'')
    (hA : -1 ≤ a ∧ a ≤ 1073741824) (hBb : -1 ≤ b ∧ b ≤ 1073741824) (hA0 : -1 ≤ a0 ∧ a0 ≤ 1073741824) (hB0 : -1 ≤ b0 ∧ b0 ≤ 1073741824)
    (hk4 : k = 4) (hi0 : i ≠ 0) (hm : b0 = -1)
    (hJ : ∀ (m : List Value) (w' : World), m.length = 72 → (m[1]? = some (.pointer (some ⟨vb, 0, none⟩)) ∧ m[2]? = some (.pointer (some ⟨nb, 0, none⟩)) ∧ m[15]? = some (.slice (some ⟨ub, uo, none⟩) n uc) ∧ m[16]? = some (.int .i64 n)) → m[5]? = some (.int .i64 (min a0 a)) → m[6]? = some (.int .i64 b0) → m[17]? = some (.int .i64 (i + 1)) → Below W.heap.size W w' → J ⟨m.toArray, []⟩ w') :
    Code.wp Tryz.prog (lnC [1, 1, 1, 0, 1, 0, 0]) (Exit.then J Q) ⟨#[e 0, .pointer (some ⟨vb, 0, none⟩), .pointer (some ⟨nb, 0, none⟩), e 3, e 4, .int .i64 a0, .int .i64 b0, e 7, e 8, e 9, e 10, e 11, e 12, e 13, e 14, .slice (some ⟨ub, uo, none⟩) n uc, .int .i64 n, .int .i64 i, e 18, e 19, e 20, e 21, e 22, e 23, e 24, e 25, e 26, e 27, e 28, e 29, e 30, e 31, e 32, e 33, e 34, e 35, e 36, e 37, e 38, e 39, e 40, e 41, e 42, e 43, e 44, e 45, e 46, e 47, e 48, e 49, e 50, e 51, e 52, e 53, e 54, e 55, e 56, e 57, e 58, e 59, e 60, e 61, e 62, e 63, e 64, e 65, e 66, e 67, e 68, e 69, e 70, e 71], []⟩ W := by
  have hiI : (i : Int) < n := by omega
  have hnI : (n : Int) ≤ 1048576 := by omega
  have hcI : (n : Int) ≤ uc := by omega
  obtain ⟨ha1, ha2⟩ := hA
  obtain ⟨hb1, hb2⟩ := hBb
  obtain ⟨ha3, ha4⟩ := hA0
  obtain ⟨hb3, hb4⟩ := hB0
  subst hk4
  have hib : ((i : Int) == 0) = false := beq_eq_false_iff_ne.2 (by omega)
  subst hm

  have HB := Lib.hid hB
  have hb1' : Below W.heap.size W (W.alloc (.cells #[.int .u8 ks, .slice ps1 ns1 ds1, .int .i64 los, .int .i64 his, .bool lzs, .slice ps2 ns2 ds2] 27)) := (Below.refl _ _).alloc (Nat.le_refl _) _
  have HB1 := Lib.hid hb1'
  have HC := Lib.hid (hcall _ hb1')
  have HJ := Lib.hid hJ
  clear hB hcall hJ hb1' hi0 hb3 hb4
  conv => arg 2; whnf
  go_wp2_with (first
    | (go_at_call 54; go_loud (refine HC.out.mono ?_; rintro ee w2 ⟨rfl, hb2⟩; have HB2 := Lib.hid (HB1.out.trans (hb2.mono HB1.out.size)); have B2 := HB.out.below HB2.out HB.out.lt; have c0 := B2.cell 0; have c2 := B2.cell 2; have c3 := B2.cell 3; have cz := B2.lt; clear hb2 B2)))
  exact HJ.out _ _ rfl ⟨rfl, rfl, rfl, rfl⟩ rfl rfl rfl HB2.out
set_option maxHeartbeats 8000000 in
set_option maxRecDepth 100000 in
theorem ln_alt2 {vb nb ub uo n uc i : Nat} {a0 b0 a b : Int} {k lo hi : Int} {lz : Bool} {p1 p2 : Option Addr} {n1 d1 n2 d2 : Nat} {ks los his : Int} {lzs : Bool} {ps1 ps2 : Option Addr} {ns1 ds1 ns2 ds2 : Nat} {W : World} {J : Act → World → Prop} {Q : Exit → Act → World → Prop} (e : Nat → Value) (hin : i < n) (hn : n ≤ 1048576) (huc : n ≤ uc) (hv : W.cell? ⟨vb, 0, none⟩ = some (.func (.func 54) #[] #[.pointer (some ⟨vb, 0, none⟩)])) (vz : vb < W.heap.size) (hB : Blk W nb #[.int .u8 k, .slice p1 n1 d1, .int .i64 lo, .int .i64 hi, .bool lz, .slice p2 n2 d2] 27) (uz : ub < W.heap.size)
    (g0 : W.cell? ⟨ub, uo + i * 6, none⟩ = some (.int .u8 ks)) (g1 : W.cell? ⟨ub, uo + i * 6 + 1, none⟩ = some (.slice ps1 ns1 ds1)) (g2 : W.cell? ⟨ub, uo + i * 6 + 2, none⟩ = some (.int .i64 los)) (g3 : W.cell? ⟨ub, uo + i * 6 + 3, none⟩ = some (.int .i64 his)) (g4 : W.cell? ⟨ub, uo + i * 6 + 4, none⟩ = some (.bool lzs)) (g5 : W.cell? ⟨ub, uo + i * 6 + 5, none⟩ = some (.slice ps2 ns2 ds2))
    (hcall : ∀ w', Below W.heap.size W w' → Calls Tryz.prog 54 #[.agg #[.int .u8 ks, .slice ps1 ns1 ds1, .int .i64 los, .int .i64 his, .bool lzs, .slice ps2 ns2 ds2], .pointer (some ⟨vb, 0, none⟩)] w' fun e w'' => e = .returned (.tuple #[.int .i64 a, .int .i64 b]) ∧ Below w'.heap.size w' w'')
    (hA : -1 ≤ a ∧ a ≤ 1073741824) (hBb : -1 ≤ b ∧ b ≤ 1073741824) (hA0 : -1 ≤ a0 ∧ a0 ≤ 1073741824) (hB0 : -1 ≤ b0 ∧ b0 ≤ 1073741824)
    (hk4 : k = 4) (hi0 : i ≠ 0) (hm : b0 ≠ -1) (hb : b = -1)
    (hJ : ∀ (m : List Value) (w' : World), m.length = 72 → (m[1]? = some (.pointer (some ⟨vb, 0, none⟩)) ∧ m[2]? = some (.pointer (some ⟨nb, 0, none⟩)) ∧ m[15]? = some (.slice (some ⟨ub, uo, none⟩) n uc) ∧ m[16]? = some (.int .i64 n)) → m[5]? = some (.int .i64 (min a0 a)) → m[6]? = some (.int .i64 b) → m[17]? = some (.int .i64 (i + 1)) → Below W.heap.size W w' → J ⟨m.toArray, []⟩ w') :
    Code.wp Tryz.prog (lnC [1, 1, 1, 0, 1, 0, 0]) (Exit.then J Q) ⟨#[e 0, .pointer (some ⟨vb, 0, none⟩), .pointer (some ⟨nb, 0, none⟩), e 3, e 4, .int .i64 a0, .int .i64 b0, e 7, e 8, e 9, e 10, e 11, e 12, e 13, e 14, .slice (some ⟨ub, uo, none⟩) n uc, .int .i64 n, .int .i64 i, e 18, e 19, e 20, e 21, e 22, e 23, e 24, e 25, e 26, e 27, e 28, e 29, e 30, e 31, e 32, e 33, e 34, e 35, e 36, e 37, e 38, e 39, e 40, e 41, e 42, e 43, e 44, e 45, e 46, e 47, e 48, e 49, e 50, e 51, e 52, e 53, e 54, e 55, e 56, e 57, e 58, e 59, e 60, e 61, e 62, e 63, e 64, e 65, e 66, e 67, e 68, e 69, e 70, e 71], []⟩ W := by
  have hiI : (i : Int) < n := by omega
  have hnI : (n : Int) ≤ 1048576 := by omega
  have hcI : (n : Int) ≤ uc := by omega
  obtain ⟨ha1, ha2⟩ := hA
  obtain ⟨hb1, hb2⟩ := hBb
  obtain ⟨ha3, ha4⟩ := hA0
  obtain ⟨hb3, hb4⟩ := hB0
  subst hk4
  have hib : ((i : Int) == 0) = false := beq_eq_false_iff_ne.2 (by omega)
  have hmb : (b0 == -1) = false := beq_eq_false_iff_ne.2 hm
  have hmn : (b0 != -1) = true := bne_iff_ne.2 hm
  subst hb

  have HB := Lib.hid hB
  have hb1' : Below W.heap.size W (W.alloc (.cells #[.int .u8 ks, .slice ps1 ns1 ds1, .int .i64 los, .int .i64 his, .bool lzs, .slice ps2 ns2 ds2] 27)) := (Below.refl _ _).alloc (Nat.le_refl _) _
  have HB1 := Lib.hid hb1'
  have HC := Lib.hid (hcall _ hb1')
  have HJ := Lib.hid hJ
  clear hB hcall hJ hb1' hi0 hm hb3 hb4 hb1 hb2
  conv => arg 2; whnf
  go_wp2_with (first
    | (go_at_call 54; go_loud (refine HC.out.mono ?_; rintro ee w2 ⟨rfl, hb2⟩; have HB2 := Lib.hid (HB1.out.trans (hb2.mono HB1.out.size)); have B2 := HB.out.below HB2.out HB.out.lt; have c0 := B2.cell 0; have c2 := B2.cell 2; have c3 := B2.cell 3; have cz := B2.lt; clear hb2 B2)))
  exact HJ.out _ _ rfl ⟨rfl, rfl, rfl, rfl⟩ rfl rfl rfl HB2.out
set_option maxHeartbeats 8000000 in
set_option maxRecDepth 100000 in
theorem ln_alt3 {vb nb ub uo n uc i : Nat} {a0 b0 a b : Int} {k lo hi : Int} {lz : Bool} {p1 p2 : Option Addr} {n1 d1 n2 d2 : Nat} {ks los his : Int} {lzs : Bool} {ps1 ps2 : Option Addr} {ns1 ds1 ns2 ds2 : Nat} {W : World} {J : Act → World → Prop} {Q : Exit → Act → World → Prop} (e : Nat → Value) (hin : i < n) (hn : n ≤ 1048576) (huc : n ≤ uc) (hv : W.cell? ⟨vb, 0, none⟩ = some (.func (.func 54) #[] #[.pointer (some ⟨vb, 0, none⟩)])) (vz : vb < W.heap.size) (hB : Blk W nb #[.int .u8 k, .slice p1 n1 d1, .int .i64 lo, .int .i64 hi, .bool lz, .slice p2 n2 d2] 27) (uz : ub < W.heap.size)
    (g0 : W.cell? ⟨ub, uo + i * 6, none⟩ = some (.int .u8 ks)) (g1 : W.cell? ⟨ub, uo + i * 6 + 1, none⟩ = some (.slice ps1 ns1 ds1)) (g2 : W.cell? ⟨ub, uo + i * 6 + 2, none⟩ = some (.int .i64 los)) (g3 : W.cell? ⟨ub, uo + i * 6 + 3, none⟩ = some (.int .i64 his)) (g4 : W.cell? ⟨ub, uo + i * 6 + 4, none⟩ = some (.bool lzs)) (g5 : W.cell? ⟨ub, uo + i * 6 + 5, none⟩ = some (.slice ps2 ns2 ds2))
    (hcall : ∀ w', Below W.heap.size W w' → Calls Tryz.prog 54 #[.agg #[.int .u8 ks, .slice ps1 ns1 ds1, .int .i64 los, .int .i64 his, .bool lzs, .slice ps2 ns2 ds2], .pointer (some ⟨vb, 0, none⟩)] w' fun e w'' => e = .returned (.tuple #[.int .i64 a, .int .i64 b]) ∧ Below w'.heap.size w' w'')
    (hA : -1 ≤ a ∧ a ≤ 1073741824) (hBb : -1 ≤ b ∧ b ≤ 1073741824) (hA0 : -1 ≤ a0 ∧ a0 ≤ 1073741824) (hB0 : -1 ≤ b0 ∧ b0 ≤ 1073741824)
    (hk4 : k = 4) (hi0 : i ≠ 0) (hm : b0 ≠ -1) (hb : b ≠ -1) (hlt : b0 < b)
    (hJ : ∀ (m : List Value) (w' : World), m.length = 72 → (m[1]? = some (.pointer (some ⟨vb, 0, none⟩)) ∧ m[2]? = some (.pointer (some ⟨nb, 0, none⟩)) ∧ m[15]? = some (.slice (some ⟨ub, uo, none⟩) n uc) ∧ m[16]? = some (.int .i64 n)) → m[5]? = some (.int .i64 (min a0 a)) → m[6]? = some (.int .i64 b) → m[17]? = some (.int .i64 (i + 1)) → Below W.heap.size W w' → J ⟨m.toArray, []⟩ w') :
    Code.wp Tryz.prog (lnC [1, 1, 1, 0, 1, 0, 0]) (Exit.then J Q) ⟨#[e 0, .pointer (some ⟨vb, 0, none⟩), .pointer (some ⟨nb, 0, none⟩), e 3, e 4, .int .i64 a0, .int .i64 b0, e 7, e 8, e 9, e 10, e 11, e 12, e 13, e 14, .slice (some ⟨ub, uo, none⟩) n uc, .int .i64 n, .int .i64 i, e 18, e 19, e 20, e 21, e 22, e 23, e 24, e 25, e 26, e 27, e 28, e 29, e 30, e 31, e 32, e 33, e 34, e 35, e 36, e 37, e 38, e 39, e 40, e 41, e 42, e 43, e 44, e 45, e 46, e 47, e 48, e 49, e 50, e 51, e 52, e 53, e 54, e 55, e 56, e 57, e 58, e 59, e 60, e 61, e 62, e 63, e 64, e 65, e 66, e 67, e 68, e 69, e 70, e 71], []⟩ W := by
  have hiI : (i : Int) < n := by omega
  have hnI : (n : Int) ≤ 1048576 := by omega
  have hcI : (n : Int) ≤ uc := by omega
  obtain ⟨ha1, ha2⟩ := hA
  obtain ⟨hb1, hb2⟩ := hBb
  obtain ⟨ha3, ha4⟩ := hA0
  obtain ⟨hb3, hb4⟩ := hB0
  subst hk4
  have hib : ((i : Int) == 0) = false := beq_eq_false_iff_ne.2 (by omega)
  have hmb : (b0 == -1) = false := beq_eq_false_iff_ne.2 hm
  have hmn : (b0 != -1) = true := bne_iff_ne.2 hm
  have hbb : (b == -1) = false := beq_eq_false_iff_ne.2 hb

  have HB := Lib.hid hB
  have hb1' : Below W.heap.size W (W.alloc (.cells #[.int .u8 ks, .slice ps1 ns1 ds1, .int .i64 los, .int .i64 his, .bool lzs, .slice ps2 ns2 ds2] 27)) := (Below.refl _ _).alloc (Nat.le_refl _) _
  have HB1 := Lib.hid hb1'
  have HC := Lib.hid (hcall _ hb1')
  have HJ := Lib.hid hJ
  clear hB hcall hJ hb1' hi0 hm hb hb3 hb4 hb1 hb2
  conv => arg 2; whnf
  go_wp2_with (first
    | (go_at_call 54; go_loud (refine HC.out.mono ?_; rintro ee w2 ⟨rfl, hb2⟩; have HB2 := Lib.hid (HB1.out.trans (hb2.mono HB1.out.size)); have B2 := HB.out.below HB2.out HB.out.lt; have c0 := B2.cell 0; have c2 := B2.cell 2; have c3 := B2.cell 3; have cz := B2.lt; clear hb2 B2)))
  exact HJ.out _ _ rfl ⟨rfl, rfl, rfl, rfl⟩ rfl rfl rfl HB2.out
set_option maxHeartbeats 8000000 in
set_option maxRecDepth 100000 in
theorem ln_alt4 {vb nb ub uo n uc i : Nat} {a0 b0 a b : Int} {k lo hi : Int} {lz : Bool} {p1 p2 : Option Addr} {n1 d1 n2 d2 : Nat} {ks los his : Int} {lzs : Bool} {ps1 ps2 : Option Addr} {ns1 ds1 ns2 ds2 : Nat} {W : World} {J : Act → World → Prop} {Q : Exit → Act → World → Prop} (e : Nat → Value) (hin : i < n) (hn : n ≤ 1048576) (huc : n ≤ uc) (hv : W.cell? ⟨vb, 0, none⟩ = some (.func (.func 54) #[] #[.pointer (some ⟨vb, 0, none⟩)])) (vz : vb < W.heap.size) (hB : Blk W nb #[.int .u8 k, .slice p1 n1 d1, .int .i64 lo, .int .i64 hi, .bool lz, .slice p2 n2 d2] 27) (uz : ub < W.heap.size)
    (g0 : W.cell? ⟨ub, uo + i * 6, none⟩ = some (.int .u8 ks)) (g1 : W.cell? ⟨ub, uo + i * 6 + 1, none⟩ = some (.slice ps1 ns1 ds1)) (g2 : W.cell? ⟨ub, uo + i * 6 + 2, none⟩ = some (.int .i64 los)) (g3 : W.cell? ⟨ub, uo + i * 6 + 3, none⟩ = some (.int .i64 his)) (g4 : W.cell? ⟨ub, uo + i * 6 + 4, none⟩ = some (.bool lzs)) (g5 : W.cell? ⟨ub, uo + i * 6 + 5, none⟩ = some (.slice ps2 ns2 ds2))
    (hcall : ∀ w', Below W.heap.size W w' → Calls Tryz.prog 54 #[.agg #[.int .u8 ks, .slice ps1 ns1 ds1, .int .i64 los, .int .i64 his, .bool lzs, .slice ps2 ns2 ds2], .pointer (some ⟨vb, 0, none⟩)] w' fun e w'' => e = .returned (.tuple #[.int .i64 a, .int .i64 b]) ∧ Below w'.heap.size w' w'')
    (hA : -1 ≤ a ∧ a ≤ 1073741824) (hBb : -1 ≤ b ∧ b ≤ 1073741824) (hA0 : -1 ≤ a0 ∧ a0 ≤ 1073741824) (hB0 : -1 ≤ b0 ∧ b0 ≤ 1073741824)
    (hk4 : k = 4) (hi0 : i ≠ 0) (hm : b0 ≠ -1) (hb : b ≠ -1) (hlt : ¬ b0 < b)
    (hJ : ∀ (m : List Value) (w' : World), m.length = 72 → (m[1]? = some (.pointer (some ⟨vb, 0, none⟩)) ∧ m[2]? = some (.pointer (some ⟨nb, 0, none⟩)) ∧ m[15]? = some (.slice (some ⟨ub, uo, none⟩) n uc) ∧ m[16]? = some (.int .i64 n)) → m[5]? = some (.int .i64 (min a0 a)) → m[6]? = some (.int .i64 b0) → m[17]? = some (.int .i64 (i + 1)) → Below W.heap.size W w' → J ⟨m.toArray, []⟩ w') :
    Code.wp Tryz.prog (lnC [1, 1, 1, 0, 1, 0, 0]) (Exit.then J Q) ⟨#[e 0, .pointer (some ⟨vb, 0, none⟩), .pointer (some ⟨nb, 0, none⟩), e 3, e 4, .int .i64 a0, .int .i64 b0, e 7, e 8, e 9, e 10, e 11, e 12, e 13, e 14, .slice (some ⟨ub, uo, none⟩) n uc, .int .i64 n, .int .i64 i, e 18, e 19, e 20, e 21, e 22, e 23, e 24, e 25, e 26, e 27, e 28, e 29, e 30, e 31, e 32, e 33, e 34, e 35, e 36, e 37, e 38, e 39, e 40, e 41, e 42, e 43, e 44, e 45, e 46, e 47, e 48, e 49, e 50, e 51, e 52, e 53, e 54, e 55, e 56, e 57, e 58, e 59, e 60, e 61, e 62, e 63, e 64, e 65, e 66, e 67, e 68, e 69, e 70, e 71], []⟩ W := by
  have hiI : (i : Int) < n := by omega
  have hnI : (n : Int) ≤ 1048576 := by omega
  have hcI : (n : Int) ≤ uc := by omega
  obtain ⟨ha1, ha2⟩ := hA
  obtain ⟨hb1, hb2⟩ := hBb
  obtain ⟨ha3, ha4⟩ := hA0
  obtain ⟨hb3, hb4⟩ := hB0
  subst hk4
  have hib : ((i : Int) == 0) = false := beq_eq_false_iff_ne.2 (by omega)
  have hmb : (b0 == -1) = false := beq_eq_false_iff_ne.2 hm
  have hmn : (b0 != -1) = true := bne_iff_ne.2 hm
  have hbb : (b == -1) = false := beq_eq_false_iff_ne.2 hb

  have HB := Lib.hid hB
  have hb1' : Below W.heap.size W (W.alloc (.cells #[.int .u8 ks, .slice ps1 ns1 ds1, .int .i64 los, .int .i64 his, .bool lzs, .slice ps2 ns2 ds2] 27)) := (Below.refl _ _).alloc (Nat.le_refl _) _
  have HB1 := Lib.hid hb1'
  have HC := Lib.hid (hcall _ hb1')
  have HJ := Lib.hid hJ
  clear hB hcall hJ hb1' hi0 hm hb hb3 hb4 hb1 hb2
  conv => arg 2; whnf
  go_wp2_with (first
    | (go_at_call 54; go_loud (refine HC.out.mono ?_; rintro ee w2 ⟨rfl, hb2⟩; have HB2 := Lib.hid (HB1.out.trans (hb2.mono HB1.out.size)); have B2 := HB.out.below HB2.out HB.out.lt; have c0 := B2.cell 0; have c2 := B2.cell 2; have c3 := B2.cell 3; have cz := B2.lt; clear hb2 B2)))
  exact HJ.out _ _ rfl ⟨rfl, rfl, rfl, rfl⟩ rfl rfl rfl HB2.out
end Go.Proofs.YtnhjakdmbfadlaaGreatDoor
