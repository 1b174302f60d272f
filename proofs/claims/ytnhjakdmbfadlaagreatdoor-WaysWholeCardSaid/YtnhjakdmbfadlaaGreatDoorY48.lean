/- Parts of the proof: Whi, Whj. Conditions: none. -/
import Derived.Test.YtnhjakdmbfadlaaGreatDoorY41
import Derived.Test.YtnhjakdmbfadlaaGreatDoorY02
import Derived.Test.YtnhjakdmbfadlaaGreatDoorY47
set_option linter.all false
/- WaysWhole: the loop over the ends, and the end. -/
namespace Go.Proofs.YtnhjakdmbfadlaaGreatDoor
open Go.RowKit Wy Mem Grow

/-- in region 41: nothing is written but by the one call -/
def wcf (W1 : World) (L : List Value) (w' : World) : Prop := match L with
  | [] => w' = W1.drew
  | [v] => v = .bool true ∧ Below W1.heap.size W1 w'
  | _ => False
set_option maxHeartbeats 8000000 in
set_option maxRecDepth 100000 in
theorem wh38_first {n7 c7 eb eo ne c9 i : Nat} {o7 : Option Addr} {z z0 : Int} {W : World} {J : Act → World → Prop} {Q : Exit → Act → World → Prop} (e : Nat → Value) (hne : ne ≤ 500) (hc9 : ne ≤ c9) (ez : eb < W.heap.size) (hz : I64 z) (h0 : 0 < ne) (d : W.cell? ⟨eb, eo, none⟩ = some (.int .i64 z))
    (hcf : ∀ w', Below W.heap.size W w' → w'.cell? ⟨W.heap.size, 0, none⟩ = some (.int .i64 z) → W.heap.size < w'.heap.size → Calls Tryz.prog 21 #[.slice o7 n7 c7, .func (.func 22) #[] #[.pointer (some ⟨W.heap.size, 0, none⟩)]] w' fun e w'' => e = .returned (.bool true) ∧ Below w'.heap.size w' w'')
    (hJ : ∀ (m : List Value) (w' : World), m.length = 291 → (m[6]? = some (e 6) ∧ m[7]? = some (.slice o7 n7 c7) ∧ m[9]? = some (.slice (some ⟨eb, eo, none⟩) ne c9) ∧ m[12]? = some (e 12) ∧ m[15]? = some (e 15) ∧ m[17]? = some (e 17) ∧ m[20]? = some (e 20) ∧ m[23]? = some (e 23) ∧ m[238]? = some (.slice (some ⟨eb, eo, none⟩) ne c9) ∧ m[239]? = some (.int .i64 ne)) → m[240]? = some (.int .i64 ((0 + 1 : Nat))) → Below W.heap.size W w' → J ⟨m.toArray, []⟩ w') :
    Code.wp Tryz.prog (whC [1, 1, 1, 1, 1, 1, 1, 1, 1, 1, 1, 1, 1, 1, 1, 0, 1, 0, 0]) (Exit.then J Q) ⟨#[e 0, e 1, e 2, e 3, e 4, e 5, e 6, .slice o7 n7 c7, e 8, .slice (some ⟨eb, eo, none⟩) ne c9, e 10, e 11, e 12, e 13, e 14, e 15, e 16, e 17, e 18, e 19, e 20, e 21, e 22, e 23, e 24, e 25, e 26, e 27, e 28, e 29, e 30, e 31, e 32, e 33, e 34, e 35, e 36, e 37, e 38, e 39, e 40, e 41, e 42, e 43, e 44, e 45, e 46, e 47, e 48, e 49, e 50, e 51, e 52, e 53, e 54, e 55, e 56, e 57, e 58, e 59, e 60, e 61, e 62, e 63, e 64, e 65, e 66, e 67, e 68, e 69, e 70, e 71, e 72, e 73, e 74, e 75, e 76, e 77, e 78, e 79, e 80, e 81, e 82, e 83, e 84, e 85, e 86, e 87, e 88, e 89, e 90, e 91, e 92, e 93, e 94, e 95, e 96, e 97, e 98, e 99, e 100, e 101, e 102, e 103, e 104, e 105, e 106, e 107, e 108, e 109, e 110, e 111, e 112, e 113, e 114, e 115, e 116, e 117, e 118, e 119, e 120, e 121, e 122, e 123, e 124, e 125, e 126, e 127, e 128, e 129, e 130, e 131, e 132, e 133, e 134, e 135, e 136, e 137, e 138, e 139, e 140, e 141, e 142, e 143, e 144, e 145, e 146, e 147, e 148, e 149, e 150, e 151, e 152, e 153, e 154, e 155, e 156, e 157, e 158, e 159, e 160, e 161, e 162, e 163, e 164, e 165, e 166, e 167, e 168, e 169, e 170, e 171, e 172, e 173, e 174, e 175, e 176, e 177, e 178, e 179, e 180, e 181, e 182, e 183, e 184, e 185, e 186, e 187, e 188, e 189, e 190, e 191, e 192, e 193, e 194, e 195, e 196, e 197, e 198, e 199, e 200, e 201, e 202, e 203, e 204, e 205, e 206, e 207, e 208, e 209, e 210, e 211, e 212, e 213, e 214, e 215, e 216, e 217, e 218, e 219, e 220, e 221, e 222, e 223, e 224, e 225, e 226, e 227, e 228, e 229, e 230, e 231, e 232, e 233, e 234, e 235, e 236, e 237, .slice (some ⟨eb, eo, none⟩) ne c9, .int .i64 ne, .int .i64 (0 : Nat), e 241, e 242, e 243, e 244, e 245, e 246, e 247, e 248, e 249, e 250, e 251, e 252, e 253, e 254, e 255, e 256, e 257, e 258, e 259, e 260, e 261, e 262, e 263, e 264, e 265, e 266, e 267, e 268, e 269, e 270, e 271, e 272, e 273, e 274, e 275, e 276, e 277, e 278, e 279, e 280, e 281, e 282, e 283, e 284, e 285, e 286, e 287, e 288, e 289, e 290], []⟩ W := by
  have hnI : (ne : Int) ≤ 500 := by omega
  have hcI : (ne : Int) ≤ c9 := by omega
  have h0I : (0 : Int) < ne := by omega
  have HJ := Lib.hid hJ
  have HCF := Lib.hid hcf
  have HB1 := Lib.hid ((Below.refl W.heap.size W).alloc (Nat.le_refl _) (.cells #[.int .i64 z] 3))
  have HX := Lib.hid (Blk.new W #[.int .i64 z] 3)
  clear hJ hcf
  conv => arg 2; whnf
  go_upto_region 41 with fail
  generalize (W.alloc (.cells #[.int .i64 z] 3)) = W1 at *
  apply wp_flowL ?hm ?hok [0, 1, 2, 3, 4, 5, 6, 7, 8, 9, 10, 11, 12, 13, 14, 15, 16] [14] [15, 16] ?hord (fun w' => Below W1.heap.size W1 w') (wcf W1)
  case hm => rfl
  case hok => kernel_rfl
  case hord => kernel_rfl
  case hb =>
    intro L w' h hl
    match L with
    | [] => rw [show w' = W1.drew from h]; exact (Below.refl _ _).drew
    | [v] => exact h.2
    | _ :: _ :: _ => exact h.elim
  case hw => rfl
  case h =>
    apply flowL_read _ rfl rfl rfl rfl
    case h =>
      intro W1 hW K hK
      (skip)
      go_wp2_with fail
      exact hK
    simp only [Act.put, List.setIfInBounds_toArray, List.set_cons_zero, List.set_cons_succ, Nat.reduceAdd]
    apply flowL_read _ rfl rfl rfl rfl
    case h =>
      intro W1 hW K hK
      (skip)
      go_wp2_with fail
      exact hK
    simp only [Act.put, List.setIfInBounds_toArray, List.set_cons_zero, List.set_cons_succ, Nat.reduceAdd]
    apply flowL_read _ rfl rfl rfl rfl
    case h =>
      intro W1 hW K hK
      (skip)
      go_wp2_with fail
      exact hK
    simp only [Act.put, List.setIfInBounds_toArray, List.set_cons_zero, List.set_cons_succ, Nat.reduceAdd]
    iterate 7 (apply flowL_no rfl rfl rfl; simp only [Act.put, List.setIfInBounds_toArray, List.set_cons_zero, List.set_cons_succ, Nat.reduceAdd])
    apply flowL_read _ rfl rfl rfl rfl
    case h =>
      intro W1 hW K hK
      (skip)
      go_wp2_with fail
      exact hK
    simp only [Act.put, List.setIfInBounds_toArray, List.set_cons_zero, List.set_cons_succ, Nat.reduceAdd]
    apply flowL_read _ rfl rfl rfl rfl
    case h =>
      intro W1 hW K hK
      (skip)
      go_wp2_with fail
      exact hK
    simp only [Act.put, List.setIfInBounds_toArray, List.set_cons_zero, List.set_cons_succ, Nat.reduceAdd]
    apply flowL_read _ rfl rfl rfl rfl
    case h =>
      intro W1 hW K hK
      (skip)
      go_wp2_with fail
      exact hK
    simp only [Act.put, List.setIfInBounds_toArray, List.set_cons_zero, List.set_cons_succ, Nat.reduceAdd]
    apply flowL_read _ rfl rfl rfl rfl
    case h =>
      intro W1 hW K hK
      (skip)
      go_wp2_with fail
      exact hK
    simp only [Act.put, List.setIfInBounds_toArray, List.set_cons_zero, List.set_cons_succ, Nat.reduceAdd]
    apply flowL_act rfl rfl rfl
    case h =>
      intro W2 hW K hK
      obtain rfl : W2 = W1.drew := hW
      have hbd : Below W.heap.size W W1.drew := HB1.out.drew
      go_wp2_with (go_at_call 21; refine (HCF.out _ hbd (HX.out.cell 0) HX.out.lt).mono ?_; rintro ee w' ⟨rfl, hb⟩)
      exact ⟨rfl, (Below.refl _ _).drew.trans hb⟩
    intro v hv
    obtain ⟨-, rfl, -⟩ := hv
    simp only [Act.put, List.setIfInBounds_toArray, List.set_cons_zero, List.set_cons_succ, Nat.reduceAdd]
    apply flowL_pin _ rfl rfl rfl rfl
    case h =>
      intro W1 hW K hK
      (skip)
      go_wp2_with fail
      exact hK
    simp only [Act.put, List.setIfInBounds_toArray, List.set_cons_zero, List.set_cons_succ, Nat.reduceAdd]
    apply flowL_pin _ rfl rfl rfl rfl
    case h =>
      intro W1 hW K hK
      (skip)
      go_wp2_with fail
      exact hK
    simp only [Act.put, List.setIfInBounds_toArray, List.set_cons_zero, List.set_cons_succ, Nat.reduceAdd]
    refine flowL_end fun W11 h11 => ?_
    have HB11 := Lib.hid (HB1.out.trans (h11.2.mono HB1.out.size))
    clear h11
    go_wp2_with fail
    exact HJ.out _ _ rfl ⟨rfl, rfl, rfl, rfl, rfl, rfl, rfl, rfl, rfl, rfl⟩ rfl HB11.out
set_option maxHeartbeats 8000000 in
set_option maxRecDepth 100000 in
theorem wh38_next {n7 c7 eb eo ne c9 i : Nat} {o7 : Option Addr} {z z0 : Int} {W : World} {J : Act → World → Prop} {Q : Exit → Act → World → Prop} (e : Nat → Value) (hne : ne ≤ 500) (hc9 : ne ≤ c9) (ez : eb < W.heap.size) (hz : I64 z) (hip : 0 < i) (h0 : i < ne) (hlt : z0 < z) (d0 : W.cell? ⟨eb, eo + (i - 1), none⟩ = some (.int .i64 z0)) (d : W.cell? ⟨eb, eo + i, none⟩ = some (.int .i64 z))
    (hcf : ∀ w', Below W.heap.size W w' → w'.cell? ⟨W.heap.size, 0, none⟩ = some (.int .i64 z) → W.heap.size < w'.heap.size → Calls Tryz.prog 21 #[.slice o7 n7 c7, .func (.func 22) #[] #[.pointer (some ⟨W.heap.size, 0, none⟩)]] w' fun e w'' => e = .returned (.bool true) ∧ Below w'.heap.size w' w'')
    (hJ : ∀ (m : List Value) (w' : World), m.length = 291 → (m[6]? = some (e 6) ∧ m[7]? = some (.slice o7 n7 c7) ∧ m[9]? = some (.slice (some ⟨eb, eo, none⟩) ne c9) ∧ m[12]? = some (e 12) ∧ m[15]? = some (e 15) ∧ m[17]? = some (e 17) ∧ m[20]? = some (e 20) ∧ m[23]? = some (e 23) ∧ m[238]? = some (.slice (some ⟨eb, eo, none⟩) ne c9) ∧ m[239]? = some (.int .i64 ne)) → m[240]? = some (.int .i64 (i + 1)) → Below W.heap.size W w' → J ⟨m.toArray, []⟩ w') :
    Code.wp Tryz.prog (whC [1, 1, 1, 1, 1, 1, 1, 1, 1, 1, 1, 1, 1, 1, 1, 0, 1, 0, 0]) (Exit.then J Q) ⟨#[e 0, e 1, e 2, e 3, e 4, e 5, e 6, .slice o7 n7 c7, e 8, .slice (some ⟨eb, eo, none⟩) ne c9, e 10, e 11, e 12, e 13, e 14, e 15, e 16, e 17, e 18, e 19, e 20, e 21, e 22, e 23, e 24, e 25, e 26, e 27, e 28, e 29, e 30, e 31, e 32, e 33, e 34, e 35, e 36, e 37, e 38, e 39, e 40, e 41, e 42, e 43, e 44, e 45, e 46, e 47, e 48, e 49, e 50, e 51, e 52, e 53, e 54, e 55, e 56, e 57, e 58, e 59, e 60, e 61, e 62, e 63, e 64, e 65, e 66, e 67, e 68, e 69, e 70, e 71, e 72, e 73, e 74, e 75, e 76, e 77, e 78, e 79, e 80, e 81, e 82, e 83, e 84, e 85, e 86, e 87, e 88, e 89, e 90, e 91, e 92, e 93, e 94, e 95, e 96, e 97, e 98, e 99, e 100, e 101, e 102, e 103, e 104, e 105, e 106, e 107, e 108, e 109, e 110, e 111, e 112, e 113, e 114, e 115, e 116, e 117, e 118, e 119, e 120, e 121, e 122, e 123, e 124, e 125, e 126, e 127, e 128, e 129, e 130, e 131, e 132, e 133, e 134, e 135, e 136, e 137, e 138, e 139, e 140, e 141, e 142, e 143, e 144, e 145, e 146, e 147, e 148, e 149, e 150, e 151, e 152, e 153, e 154, e 155, e 156, e 157, e 158, e 159, e 160, e 161, e 162, e 163, e 164, e 165, e 166, e 167, e 168, e 169, e 170, e 171, e 172, e 173, e 174, e 175, e 176, e 177, e 178, e 179, e 180, e 181, e 182, e 183, e 184, e 185, e 186, e 187, e 188, e 189, e 190, e 191, e 192, e 193, e 194, e 195, e 196, e 197, e 198, e 199, e 200, e 201, e 202, e 203, e 204, e 205, e 206, e 207, e 208, e 209, e 210, e 211, e 212, e 213, e 214, e 215, e 216, e 217, e 218, e 219, e 220, e 221, e 222, e 223, e 224, e 225, e 226, e 227, e 228, e 229, e 230, e 231, e 232, e 233, e 234, e 235, e 236, e 237, .slice (some ⟨eb, eo, none⟩) ne c9, .int .i64 ne, .int .i64 i, e 241, e 242, e 243, e 244, e 245, e 246, e 247, e 248, e 249, e 250, e 251, e 252, e 253, e 254, e 255, e 256, e 257, e 258, e 259, e 260, e 261, e 262, e 263, e 264, e 265, e 266, e 267, e 268, e 269, e 270, e 271, e 272, e 273, e 274, e 275, e 276, e 277, e 278, e 279, e 280, e 281, e 282, e 283, e 284, e 285, e 286, e 287, e 288, e 289, e 290], []⟩ W := by
  have hnI : (ne : Int) ≤ 500 := by omega
  have hcI : (ne : Int) ≤ c9 := by omega
  have h0I : (i : Int) < ne := by omega
  have hle : ¬ z ≤ z0 := by omega
  have hi0 : (0 : Int) < (i : Int) := by omega
  have hi1 : (0 : Int) ≤ (i : Int) - 1 := by omega
  have hi2 : (i : Int) - 1 < ne := by omega
  have HJ := Lib.hid hJ
  have HCF := Lib.hid hcf
  have HB1 := Lib.hid ((Below.refl W.heap.size W).alloc (Nat.le_refl _) (.cells #[.int .i64 z] 3))
  have HX := Lib.hid (Blk.new W #[.int .i64 z] 3)
  clear hJ hcf
  conv => arg 2; whnf
  go_upto_region 41 with fail
  have d2 : (W.alloc (.cells #[.int .i64 z] 3)).cell? ⟨eb, eo + (i - 1), none⟩ = some (.int .i64 z0) := (HB1.out.cell (p := ⟨eb, eo + (i - 1), none⟩) ez).trans d0
  have d1 : (W.alloc (.cells #[.int .i64 z] 3)).cell? ⟨eb, eo + ((i : Int) - 1).toNat, none⟩ = some (.int .i64 z0) := by rw [show ((i : Int) - 1).toNat = i - 1 by omega]; exact d2
  have e1z : eb < (W.alloc (.cells #[.int .i64 z] 3)).heap.size := Nat.lt_of_lt_of_le ez HB1.out.size
  generalize (W.alloc (.cells #[.int .i64 z] 3)) = W1 at *
  have D1 := Lib.hid d1
  have D2 := Lib.hid d2
  have E1 := Lib.hid e1z
  have HLE := Lib.hid hle
  have HI0 := Lib.hid hi0
  have HI1 := Lib.hid hi1
  have HI2 := Lib.hid hi2
  have HIP := Lib.hid hip
  have HNI := Lib.hid hnI
  have H0I := Lib.hid h0I
  have HCI := Lib.hid hcI
  clear d1 d2 e1z hle hi0 hi1 hi2 d d0 h0I hnI hcI hlt h0 hip
  apply wp_flowL ?hm ?hok [0, 1, 2, 3, 4, 5, 6, 7, 8, 9, 10, 11, 12, 13, 14, 15, 16] [14] [15, 16] ?hord (fun w' => Below W1.heap.size W1 w') (wcf W1)
  case hm => rfl
  case hok => kernel_rfl
  case hord => kernel_rfl
  case hb =>
    intro L w' h hl
    match L with
    | [] => rw [show w' = W1.drew from h]; exact (Below.refl _ _).drew
    | [v] => exact h.2
    | _ :: _ :: _ => exact h.elim
  case hw => rfl
  case h =>
    apply flowL_read (.int .i64 i) rfl rfl rfl rfl
    case h =>
      intro W2 hW K hK
      (skip)
      go_wp2_with fail
      exact hK
    simp only [Act.put, List.setIfInBounds_toArray, List.set_cons_zero, List.set_cons_succ, Nat.reduceAdd]
    apply flowL_read (.bool true) rfl rfl rfl rfl
    case h =>
      intro W2 hW K hK
      (have hi0 := HI0.out; have hip2 := HIP.out)
      go_wp2_with fail
      exact hK
    simp only [Act.put, List.setIfInBounds_toArray, List.set_cons_zero, List.set_cons_succ, Nat.reduceAdd]
    apply flowL_read (.bool true) rfl rfl rfl rfl
    case h =>
      intro W2 hW K hK
      (skip)
      go_wp2_with fail
      exact hK
    simp only [Act.put, List.setIfInBounds_toArray, List.set_cons_zero, List.set_cons_succ, Nat.reduceAdd]
    apply flowL_read (.int .i64 z) rfl rfl rfl rfl
    case h =>
      intro W2 hW K hK
      (obtain ⟨x0, -⟩ := (HX.out.below hW HX.out.lt).one; have xz := (HX.out.below hW HX.out.lt).lt)
      go_wp2_with fail
      exact hK
    simp only [Act.put, List.setIfInBounds_toArray, List.set_cons_zero, List.set_cons_succ, Nat.reduceAdd]
    apply flowL_read (.slice (some ⟨eb, eo, none⟩) ne c9) rfl rfl rfl rfl
    case h =>
      intro W2 hW K hK
      (skip)
      go_wp2_with fail
      exact hK
    simp only [Act.put, List.setIfInBounds_toArray, List.set_cons_zero, List.set_cons_succ, Nat.reduceAdd]
    apply flowL_read (.int .i64 i) rfl rfl rfl rfl
    case h =>
      intro W2 hW K hK
      (skip)
      go_wp2_with fail
      exact hK
    simp only [Act.put, List.setIfInBounds_toArray, List.set_cons_zero, List.set_cons_succ, Nat.reduceAdd]
    apply flowL_read (.int .i64 ((i : Int) - 1)) rfl rfl rfl rfl
    case h =>
      intro W2 hW K hK
      (have hi1 := HI1.out; have hi2 := HI2.out; have hnI2 := HNI.out; have hcI2 := HCI.out)
      go_wp2_with fail
      exact hK
    simp only [Act.put, List.setIfInBounds_toArray, List.set_cons_zero, List.set_cons_succ, Nat.reduceAdd]
    apply flowL_read (.pointer (some ⟨eb, eo + (i - 1), none⟩)) rfl rfl rfl rfl
    case h =>
      intro W2 hW K hK
      (have hi1 := HI1.out; have hi2 := HI2.out; have hnI2 := HNI.out; have hcI2 := HCI.out)
      go_wp2_with fail
      exact hK
    simp only [Act.put, List.setIfInBounds_toArray, List.set_cons_zero, List.set_cons_succ, Nat.reduceAdd]
    apply flowL_read (.int .i64 z0) rfl rfl rfl rfl
    case h =>
      intro W2 hW K hK
      (have c0 := (hW.cell (p := ⟨eb, eo + ((i : Int) - 1).toNat, none⟩) E1.out).trans D1.out; have c1 := (hW.cell (p := ⟨eb, eo + (i - 1), none⟩) E1.out).trans D2.out; have cz := Nat.lt_of_lt_of_le E1.out hW.size)
      go_wp2_with fail
      exact hK
    simp only [Act.put, List.setIfInBounds_toArray, List.set_cons_zero, List.set_cons_succ, Nat.reduceAdd]
    apply flowL_read (.bool false) rfl rfl rfl rfl
    case h =>
      intro W2 hW K hK
      (have hle := HLE.out)
      go_wp2_with fail
      exact hK
    simp only [Act.put, List.setIfInBounds_toArray, List.set_cons_zero, List.set_cons_succ, Nat.reduceAdd]
    apply flowL_read (.bool false) rfl rfl rfl rfl
    case h =>
      intro W2 hW K hK
      (skip)
      go_wp2_with fail
      exact hK
    simp only [Act.put, List.setIfInBounds_toArray, List.set_cons_zero, List.set_cons_succ, Nat.reduceAdd]
    apply flowL_read (.bool false) rfl rfl rfl rfl
    case h =>
      intro W2 hW K hK
      (skip)
      go_wp2_with fail
      exact hK
    simp only [Act.put, List.setIfInBounds_toArray, List.set_cons_zero, List.set_cons_succ, Nat.reduceAdd]
    apply flowL_read (.slice o7 n7 c7) rfl rfl rfl rfl
    case h =>
      intro W2 hW K hK
      (skip)
      go_wp2_with fail
      exact hK
    simp only [Act.put, List.setIfInBounds_toArray, List.set_cons_zero, List.set_cons_succ, Nat.reduceAdd]
    apply flowL_read (.func (.func 22) #[] #[.pointer (some ⟨W.heap.size, 0, none⟩)]) rfl rfl rfl rfl
    case h =>
      intro W2 hW K hK
      (skip)
      go_wp2_with fail
      exact hK
    simp only [Act.put, List.setIfInBounds_toArray, List.set_cons_zero, List.set_cons_succ, Nat.reduceAdd]
    apply flowL_act rfl rfl rfl
    case h =>
      intro W2 hW K hK
      obtain rfl : W2 = W1.drew := hW
      have hbd : Below W.heap.size W W1.drew := HB1.out.drew
      go_wp2_with (go_at_call 21; refine (HCF.out _ hbd (HX.out.cell 0) HX.out.lt).mono ?_; rintro ee w' ⟨rfl, hb⟩)
      exact ⟨rfl, (Below.refl _ _).drew.trans hb⟩
    intro v hv
    obtain ⟨-, rfl, -⟩ := hv
    simp only [Act.put, List.setIfInBounds_toArray, List.set_cons_zero, List.set_cons_succ, Nat.reduceAdd]
    apply flowL_pin (.bool false) rfl rfl rfl rfl
    case h =>
      intro W2 hW K hK
      (skip)
      go_wp2_with fail
      exact hK
    simp only [Act.put, List.setIfInBounds_toArray, List.set_cons_zero, List.set_cons_succ, Nat.reduceAdd]
    apply flowL_pin (.bool false) rfl rfl rfl rfl
    case h =>
      intro W2 hW K hK
      (skip)
      go_wp2_with fail
      exact hK
    simp only [Act.put, List.setIfInBounds_toArray, List.set_cons_zero, List.set_cons_succ, Nat.reduceAdd]
    refine flowL_end fun W11 h11 => ?_
    have HB11 := Lib.hid (HB1.out.trans (h11.2.mono HB1.out.size))
    clear h11
    have h0I := H0I.out
    have hnI := HNI.out
    go_wp2_with fail
    exact HJ.out _ _ rfl ⟨rfl, rfl, rfl, rfl, rfl, rfl, rfl, rfl, rfl, rfl⟩ rfl HB11.out
end Go.Proofs.YtnhjakdmbfadlaaGreatDoor

/- WaysWhole: the loop over the ends whole, and the end. -/
namespace Go.Proofs.YtnhjakdmbfadlaaGreatDoor
open Go.RowKit Wy Mem Grow

set_option maxHeartbeats 8000000 in
set_option maxRecDepth 100000 in
theorem wh38_out {ne i : Nat} {W : World} {J : Act → World → Prop} {Q : Exit → Act → World → Prop} (e : Nat → Value) (hi : i = ne) (hn : ne ≤ 500) (hJ : ∀ (m : List Value), m.length = 291 → (m[6]? = some (e 6) ∧ m[7]? = some (e 7) ∧ m[9]? = some (e 9) ∧ m[12]? = some (e 12) ∧ m[15]? = some (e 15) ∧ m[17]? = some (e 17) ∧ m[20]? = some (e 20) ∧ m[23]? = some (e 23) ∧ m[238]? = some (e 238) ∧ m[239]? = some (.int .i64 ne)) → Q (.exit 6) ⟨m.toArray, []⟩ W) :
    Code.wp Tryz.prog (whC [1, 1, 1, 1, 1, 1, 1, 1, 1, 1, 1, 1, 1, 1, 1, 0, 1, 0, 0]) (Exit.then J Q) ⟨#[e 0, e 1, e 2, e 3, e 4, e 5, e 6, e 7, e 8, e 9, e 10, e 11, e 12, e 13, e 14, e 15, e 16, e 17, e 18, e 19, e 20, e 21, e 22, e 23, e 24, e 25, e 26, e 27, e 28, e 29, e 30, e 31, e 32, e 33, e 34, e 35, e 36, e 37, e 38, e 39, e 40, e 41, e 42, e 43, e 44, e 45, e 46, e 47, e 48, e 49, e 50, e 51, e 52, e 53, e 54, e 55, e 56, e 57, e 58, e 59, e 60, e 61, e 62, e 63, e 64, e 65, e 66, e 67, e 68, e 69, e 70, e 71, e 72, e 73, e 74, e 75, e 76, e 77, e 78, e 79, e 80, e 81, e 82, e 83, e 84, e 85, e 86, e 87, e 88, e 89, e 90, e 91, e 92, e 93, e 94, e 95, e 96, e 97, e 98, e 99, e 100, e 101, e 102, e 103, e 104, e 105, e 106, e 107, e 108, e 109, e 110, e 111, e 112, e 113, e 114, e 115, e 116, e 117, e 118, e 119, e 120, e 121, e 122, e 123, e 124, e 125, e 126, e 127, e 128, e 129, e 130, e 131, e 132, e 133, e 134, e 135, e 136, e 137, e 138, e 139, e 140, e 141, e 142, e 143, e 144, e 145, e 146, e 147, e 148, e 149, e 150, e 151, e 152, e 153, e 154, e 155, e 156, e 157, e 158, e 159, e 160, e 161, e 162, e 163, e 164, e 165, e 166, e 167, e 168, e 169, e 170, e 171, e 172, e 173, e 174, e 175, e 176, e 177, e 178, e 179, e 180, e 181, e 182, e 183, e 184, e 185, e 186, e 187, e 188, e 189, e 190, e 191, e 192, e 193, e 194, e 195, e 196, e 197, e 198, e 199, e 200, e 201, e 202, e 203, e 204, e 205, e 206, e 207, e 208, e 209, e 210, e 211, e 212, e 213, e 214, e 215, e 216, e 217, e 218, e 219, e 220, e 221, e 222, e 223, e 224, e 225, e 226, e 227, e 228, e 229, e 230, e 231, e 232, e 233, e 234, e 235, e 236, e 237, e 238, .int .i64 ne, .int .i64 i, e 241, e 242, e 243, e 244, e 245, e 246, e 247, e 248, e 249, e 250, e 251, e 252, e 253, e 254, e 255, e 256, e 257, e 258, e 259, e 260, e 261, e 262, e 263, e 264, e 265, e 266, e 267, e 268, e 269, e 270, e 271, e 272, e 273, e 274, e 275, e 276, e 277, e 278, e 279, e 280, e 281, e 282, e 283, e 284, e 285, e 286, e 287, e 288, e 289, e 290], []⟩ W := by
  have HJ := Lib.hid hJ
  subst hi
  clear hJ
  conv => arg 2; whnf
  go_wp2_with fail
  exact HJ.out _ rfl ⟨rfl, rfl, rfl, rfl, rfl, rfl, rfl, rfl, rfl, rfl⟩
/-- the loop over the ends: its round's invariant -/
def Eni (ne : Nat) (q : Nat → Value) (W1 : World) (n : Nat) (a : Act) (w : World) : Prop := ∃ (m : List Value) (i : Nat), a = ⟨m.toArray, []⟩ ∧ m.length = 291 ∧ (m[6]? = some (q 6) ∧ m[7]? = some (q 7) ∧ m[9]? = some (q 9) ∧ m[12]? = some (q 12) ∧ m[15]? = some (q 15) ∧ m[17]? = some (q 17) ∧ m[20]? = some (q 20) ∧ m[23]? = some (q 23) ∧ m[238]? = some (q 238) ∧ m[239]? = some (q 239)) ∧ m[240]? = some (.int .i64 i) ∧ i ≤ ne ∧ n = ne - i ∧ Below W1.heap.size W1 w
set_option maxHeartbeats 4000000 in
set_option maxRecDepth 100000 in
theorem wh38_loop {zs : List Int} {l : List Wy.Way} {G L c7 c9 n : Nat} {o7 o9 : Option Addr} {q : Nat → Value} {W1 w : World} {a : Act} {Q : Exit → Act → World → Prop} (hI : Eni zs.length q W1 n a w)
    (hq : q 7 = .slice o7 l.length c7 ∧ q 9 = .slice o9 zs.length c9 ∧ q 238 = .slice o9 zs.length c9 ∧ q 239 = .int .i64 zs.length)
    (hW : WaysAt (fun _ => True) W1 G L (.slice o7 l.length c7) l) (hl : l.length ≤ 500) (hE : Row (fun _ => True) W1 (.slice o9 zs.length c9) zs.length 1 (intZs zs)) (hz5 : zs.length ≤ 500)
    (hlt : zs.Pairwise (· < ·)) (hin : ∀ z ∈ zs, I64 z ∧ ∃ x ∈ l, (x.stop : Int) = z)
    (hQ : ∀ (m : List Value) (w' : World), m.length = 291 → (m[6]? = some (q 6) ∧ m[7]? = some (q 7) ∧ m[9]? = some (q 9) ∧ m[12]? = some (q 12) ∧ m[15]? = some (q 15) ∧ m[17]? = some (q 17) ∧ m[20]? = some (q 20) ∧ m[23]? = some (q 23) ∧ m[238]? = some (q 238) ∧ m[239]? = some (q 239)) → Below W1.heap.size W1 w' → Q (.exit 6) ⟨m.toArray, []⟩ w') :
    Code.wp Tryz.prog (whC [1, 1, 1, 1, 1, 1, 1, 1, 1, 1, 1, 1, 1, 1, 1, 0, 1, 0, 0]) (Exit.then (fun a' w' => ∃ n', n' < n ∧ Eni zs.length q W1 n' a' w') Q) a w := by
  obtain ⟨m, i, rfl, hm, hkq, h240, hi, hn, hb⟩ := hI
  obtain ⟨e, rfl⟩ := frame291 hm
  obtain ⟨g6, g7, g9, g12, g15, g17, g20, g23, g238, g239⟩ := hkq
  have g6 : e 6 = q 6 := Option.some.inj g6
  have g7 : e 7 = q 7 := Option.some.inj g7
  have g9 : e 9 = q 9 := Option.some.inj g9
  have g12 : e 12 = q 12 := Option.some.inj g12
  have g15 : e 15 = q 15 := Option.some.inj g15
  have g17 : e 17 = q 17 := Option.some.inj g17
  have g20 : e 20 = q 20 := Option.some.inj g20
  have g23 : e 23 = q 23 := Option.some.inj g23
  have g238 : e 238 = q 238 := Option.some.inj g238
  have g239 : e 239 = q 239 := Option.some.inj g239
  have h240 : e 240 = _ := Option.some.inj h240
  have hkk : ∀ {m : List Value}, (m[6]? = some (e 6) ∧ m[7]? = some (e 7) ∧ m[9]? = some (e 9) ∧ m[12]? = some (e 12) ∧ m[15]? = some (e 15) ∧ m[17]? = some (e 17) ∧ m[20]? = some (e 20) ∧ m[23]? = some (e 23) ∧ m[238]? = some (e 238) ∧ m[239]? = some (e 239)) → (m[6]? = some (q 6) ∧ m[7]? = some (q 7) ∧ m[9]? = some (q 9) ∧ m[12]? = some (q 12) ∧ m[15]? = some (q 15) ∧ m[17]? = some (q 17) ∧ m[20]? = some (q 20) ∧ m[23]? = some (q 23) ∧ m[238]? = some (q 238) ∧ m[239]? = some (q 239)) := fun h => by rw [g6, g7, g9, g12, g15, g17, g20, g23, g238, g239] at h; exact h
  obtain ⟨q7, q9, q238, q239⟩ := hq
  have e239 : e 239 = .int .i64 zs.length := g239.trans q239
  by_cases hil : ¬ i < zs.length
  · have hie : i = zs.length := by omega
    rw [h240, e239]
    exact wh38_out e hie hz5 (fun m k0 k1 => hQ m w k0 (hkk (by rw [e239]; exact k1)) hb)
  · have hil : i < zs.length := by omega
    rcases hE.at_ with ⟨h0, _⟩ | ⟨eb, eo, cap, hve, hc1, hc2, -, hbz, hcell⟩
    · omega
    simp only [Value.slice.injEq, true_and] at hve
    obtain ⟨rfl, rfl⟩ := hve
    have hbz' := Nat.lt_of_lt_of_le hbz hb.size
    have hc : ∀ j (hj : j < zs.length), w.cell? ⟨eb, eo + j, none⟩ = some (.int .i64 zs[j]) := fun j hj => by
      refine (hb.cell (p := ⟨eb, eo + j, none⟩) hbz).trans ((hcell j (by simpa [intZs] using hj)).trans ?_)
      simp [intZs, hj]
    have hWw : WaysAt (fun _ => True) w G L (.slice o7 l.length c7) l := hW.go (Kept.of_below hb (fun _ => False)) (fun _ _ h => ⟨id, h⟩)
    obtain ⟨hzI, hzx⟩ := hin _ (List.getElem_mem hil)
    have e7 : e 7 = _ := g7.trans q7
    have e9 : e 9 = _ := g9.trans q9
    have e238 : e 238 = _ := g238.trans q238
    have hcf : ∀ w', Below w.heap.size w w' → w'.cell? ⟨w.heap.size, 0, none⟩ = some (.int .i64 zs[i]) → w.heap.size < w'.heap.size → Calls Tryz.prog 21 #[.slice o7 l.length c7, .func (.func 22) #[] #[.pointer (some ⟨w.heap.size, 0, none⟩)]] w' fun e w'' => e = .returned (.bool true) ∧ Below w'.heap.size w' w'' := fun w' h hcl hsz =>
      cfStop_any (hWw.go (Kept.of_below h (fun _ => False)) (M := fun _ => True) (fun _ _ h => ⟨id, h⟩)) hl hcl hsz hzx
    have hJ : ∀ (m : List Value) (w' : World), m.length = 291 → (m[6]? = some (e 6) ∧ m[7]? = some (.slice o7 l.length c7) ∧ m[9]? = some (.slice (some ⟨eb, eo, none⟩) zs.length c9) ∧ m[12]? = some (e 12) ∧ m[15]? = some (e 15) ∧ m[17]? = some (e 17) ∧ m[20]? = some (e 20) ∧ m[23]? = some (e 23) ∧ m[238]? = some (.slice (some ⟨eb, eo, none⟩) zs.length c9) ∧ m[239]? = some (.int .i64 zs.length)) → m[240]? = some (.int .i64 (i + 1 : Nat)) → Below w.heap.size w w' → ∃ n', n' < n ∧ Eni zs.length q W1 n' ⟨m.toArray, []⟩ w' := fun m w' k0 k1 k2 k3 =>
      ⟨zs.length - (i + 1), by omega, m, i + 1, rfl, k0, hkk (by rw [e7, e9, e238, e239]; exact k1), k2, by omega, rfl, hb.trans (k3.mono hb.size)⟩
    rw [e7, e9, e238, e239, h240]
    by_cases hi0 : i = 0
    · subst hi0
      exact wh38_first (z0 := 0) (i := 0) e hz5 hc1 hbz' hzI hil (hc 0 hil) hcf hJ
    · exact wh38_next (z0 := zs[i - 1]) e hz5 hc1 hbz' hzI (by omega) hil (List.pairwise_iff_getElem.1 hlt (i - 1) i (by omega) hil (by omega)) (hc (i - 1) (by omega)) (hc i hil) hcf hJ
set_option maxHeartbeats 8000000 in
set_option maxRecDepth 100000 in
theorem wh38 {zs : List Int} {l : List Wy.Way} {G L c7 c9 : Nat} {o7 o9 : Option Addr} {W : World} {J : Act → World → Prop} {Q : Exit → Act → World → Prop} (e : Nat → Value)
    (hW : WaysAt (fun _ => True) W G L (.slice o7 l.length c7) l) (hl : l.length ≤ 500) (hE : Row (fun _ => True) W (.slice o9 zs.length c9) zs.length 1 (intZs zs)) (hz5 : zs.length ≤ 500)
    (hlt : zs.Pairwise (· < ·)) (hin : ∀ z ∈ zs, I64 z ∧ ∃ x ∈ l, (x.stop : Int) = z)
    (hJ : ∀ (m : List Value) (w' : World), m.length = 291 → (m[6]? = some (e 6) ∧ m[7]? = some (.slice o7 l.length c7) ∧ m[9]? = some (.slice o9 zs.length c9) ∧ m[12]? = some (e 12) ∧ m[15]? = some (e 15) ∧ m[17]? = some (e 17) ∧ m[20]? = some (e 20) ∧ m[23]? = some (e 23)) → Below W.heap.size W w' → J ⟨m.toArray, []⟩ w') :
    Code.wp Tryz.prog (whC [1, 1, 1, 1, 1, 1, 1, 1, 1, 1, 1, 1, 1, 1, 1, 0]) (Exit.then J Q) ⟨#[e 0, e 1, e 2, e 3, e 4, e 5, e 6, .slice o7 l.length c7, e 8, .slice o9 zs.length c9, e 10, e 11, e 12, e 13, e 14, e 15, e 16, e 17, e 18, e 19, e 20, e 21, e 22, e 23, e 24, e 25, e 26, e 27, e 28, e 29, e 30, e 31, e 32, e 33, e 34, e 35, e 36, e 37, e 38, e 39, e 40, e 41, e 42, e 43, e 44, e 45, e 46, e 47, e 48, e 49, e 50, e 51, e 52, e 53, e 54, e 55, e 56, e 57, e 58, e 59, e 60, e 61, e 62, e 63, e 64, e 65, e 66, e 67, e 68, e 69, e 70, e 71, e 72, e 73, e 74, e 75, e 76, e 77, e 78, e 79, e 80, e 81, e 82, e 83, e 84, e 85, e 86, e 87, e 88, e 89, e 90, e 91, e 92, e 93, e 94, e 95, e 96, e 97, e 98, e 99, e 100, e 101, e 102, e 103, e 104, e 105, e 106, e 107, e 108, e 109, e 110, e 111, e 112, e 113, e 114, e 115, e 116, e 117, e 118, e 119, e 120, e 121, e 122, e 123, e 124, e 125, e 126, e 127, e 128, e 129, e 130, e 131, e 132, e 133, e 134, e 135, e 136, e 137, e 138, e 139, e 140, e 141, e 142, e 143, e 144, e 145, e 146, e 147, e 148, e 149, e 150, e 151, e 152, e 153, e 154, e 155, e 156, e 157, e 158, e 159, e 160, e 161, e 162, e 163, e 164, e 165, e 166, e 167, e 168, e 169, e 170, e 171, e 172, e 173, e 174, e 175, e 176, e 177, e 178, e 179, e 180, e 181, e 182, e 183, e 184, e 185, e 186, e 187, e 188, e 189, e 190, e 191, e 192, e 193, e 194, e 195, e 196, e 197, e 198, e 199, e 200, e 201, e 202, e 203, e 204, e 205, e 206, e 207, e 208, e 209, e 210, e 211, e 212, e 213, e 214, e 215, e 216, e 217, e 218, e 219, e 220, e 221, e 222, e 223, e 224, e 225, e 226, e 227, e 228, e 229, e 230, e 231, e 232, e 233, e 234, e 235, e 236, e 237, e 238, e 239, e 240, e 241, e 242, e 243, e 244, e 245, e 246, e 247, e 248, e 249, e 250, e 251, e 252, e 253, e 254, e 255, e 256, e 257, e 258, e 259, e 260, e 261, e 262, e 263, e 264, e 265, e 266, e 267, e 268, e 269, e 270, e 271, e 272, e 273, e 274, e 275, e 276, e 277, e 278, e 279, e 280, e 281, e 282, e 283, e 284, e 285, e 286, e 287, e 288, e 289, e 290], []⟩ W := by
  have HJ := Lib.hid hJ
  have HE := Lib.hid (show _ ∧ _ ∧ _ ∧ _ from ⟨hW, hE, hlt, hin⟩)
  have hlI : (zs.length : Int) ≤ 500 := by omega
  clear hJ hW hE hlt hin
  conv => arg 2; whnf
  go_wp2_with fail
  refine wp_loop_ghost (Eni zs.length (fun k => if k = 7 then .slice o7 l.length c7 else if k = 9 then .slice o9 zs.length c9 else if k = 238 then .slice o9 zs.length c9 else if k = 239 then .int .i64 zs.length else e k) W) (zs.length - 0) ?_ (fun z a w' hI => wh38_loop hI ⟨rfl, rfl, rfl, rfl⟩ HE.out.1 hl HE.out.2.1 hz5 HE.out.2.2.1 HE.out.2.2.2 ?_)
  · exact ⟨_, 0, rfl, rfl, ⟨rfl, rfl, rfl, rfl, rfl, rfl, rfl, rfl, rfl, rfl⟩, rfl, Nat.zero_le _, rfl, Below.refl _ _⟩
  · intro m w2 k0 k1 k3
    exact HJ.out m w2 k0 ⟨k1.1, k1.2.1, k1.2.2.1, k1.2.2.2.1, k1.2.2.2.2.1, k1.2.2.2.2.2.1, k1.2.2.2.2.2.2.1, k1.2.2.2.2.2.2.2.1⟩ k3
end Go.Proofs.YtnhjakdmbfadlaaGreatDoor
