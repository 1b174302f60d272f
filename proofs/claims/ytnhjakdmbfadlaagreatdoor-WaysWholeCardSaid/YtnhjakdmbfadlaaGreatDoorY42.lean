/- Parts of the proof: Whc. Conditions: none. -/
import Derived.Test.YtnhjakdmbfadlaaGreatDoorY41
set_option linter.all false
/- WaysWhole: the spans of a way. -/
namespace Go.Proofs.YtnhjakdmbfadlaaGreatDoor
open Go.RowKit Wy Mem Grow

set_option maxHeartbeats 8000000 in
set_option maxRecDepth 100000 in
theorem wh_sp_none {wb sb so sc G np c21 k : Nat} {o21 : Option Addr} {W : World} {J : Act → World → Prop} {Q : Exit → Act → World → Prop} (e : Nat → Value) (hk : k < G) (hG : G ≤ 64) (hsc : G ≤ sc) (dz : sb < W.heap.size)
    (d0 : W.cell? ⟨sb, so + k * 2, none⟩ = some (.int .i64 (-1))) (d1 : W.cell? ⟨sb, so + k * 2 + 1, none⟩ = some (.int .i64 (-1)))
    (hJ : ∀ (m : List Value) (w' : World), m.length = 291 → (m[6]? = some (e 6) ∧ m[7]? = some (e 7) ∧ m[9]? = some (e 9) ∧ m[11]? = some (e 11) ∧ m[12]? = some (e 12) ∧ m[14]? = some (e 14) ∧ m[15]? = some (e 15) ∧ m[17]? = some (e 17) ∧ m[19]? = some (e 19) ∧ m[20]? = some (e 20) ∧ m[21]? = some (.slice o21 np c21) ∧ m[23]? = some (e 23) ∧ m[24]? = some (e 24) ∧ m[25]? = some (.pointer (some ⟨wb, 0, none⟩)) ∧ m[139]? = some (e 139) ∧ m[140]? = some (e 140) ∧ m[141]? = some (e 141) ∧ m[166]? = some (.slice (some ⟨sb, so, none⟩) G sc) ∧ m[167]? = some (.int .i64 G)) → m[168]? = some (.int .i64 (k + 1)) → Below W.heap.size W w' → J ⟨m.toArray, []⟩ w') :
    Code.wp Tryz.prog (whC [1, 1, 1, 1, 1, 1, 1, 1, 1, 1, 1, 1, 1, 1, 0, 1, 0, 0, 1, 1, 0, 0, 1, 1, 0, 1, 0, 0]) (Exit.then J Q) ⟨#[e 0, e 1, e 2, e 3, e 4, e 5, e 6, e 7, e 8, e 9, e 10, e 11, e 12, e 13, e 14, e 15, e 16, e 17, e 18, e 19, e 20, .slice o21 np c21, e 22, e 23, e 24, .pointer (some ⟨wb, 0, none⟩), e 26, e 27, e 28, e 29, e 30, e 31, e 32, e 33, e 34, e 35, e 36, e 37, e 38, e 39, e 40, e 41, e 42, e 43, e 44, e 45, e 46, e 47, e 48, e 49, e 50, e 51, e 52, e 53, e 54, e 55, e 56, e 57, e 58, e 59, e 60, e 61, e 62, e 63, e 64, e 65, e 66, e 67, e 68, e 69, e 70, e 71, e 72, e 73, e 74, e 75, e 76, e 77, e 78, e 79, e 80, e 81, e 82, e 83, e 84, e 85, e 86, e 87, e 88, e 89, e 90, e 91, e 92, e 93, e 94, e 95, e 96, e 97, e 98, e 99, e 100, e 101, e 102, e 103, e 104, e 105, e 106, e 107, e 108, e 109, e 110, e 111, e 112, e 113, e 114, e 115, e 116, e 117, e 118, e 119, e 120, e 121, e 122, e 123, e 124, e 125, e 126, e 127, e 128, e 129, e 130, e 131, e 132, e 133, e 134, e 135, e 136, e 137, e 138, e 139, e 140, e 141, e 142, e 143, e 144, e 145, e 146, e 147, e 148, e 149, e 150, e 151, e 152, e 153, e 154, e 155, e 156, e 157, e 158, e 159, e 160, e 161, e 162, e 163, e 164, e 165, .slice (some ⟨sb, so, none⟩) G sc, .int .i64 G, .int .i64 k, e 169, e 170, e 171, e 172, e 173, e 174, e 175, e 176, e 177, e 178, e 179, e 180, e 181, e 182, e 183, e 184, e 185, e 186, e 187, e 188, e 189, e 190, e 191, e 192, e 193, e 194, e 195, e 196, e 197, e 198, e 199, e 200, e 201, e 202, e 203, e 204, e 205, e 206, e 207, e 208, e 209, e 210, e 211, e 212, e 213, e 214, e 215, e 216, e 217, e 218, e 219, e 220, e 221, e 222, e 223, e 224, e 225, e 226, e 227, e 228, e 229, e 230, e 231, e 232, e 233, e 234, e 235, e 236, e 237, e 238, e 239, e 240, e 241, e 242, e 243, e 244, e 245, e 246, e 247, e 248, e 249, e 250, e 251, e 252, e 253, e 254, e 255, e 256, e 257, e 258, e 259, e 260, e 261, e 262, e 263, e 264, e 265, e 266, e 267, e 268, e 269, e 270, e 271, e 272, e 273, e 274, e 275, e 276, e 277, e 278, e 279, e 280, e 281, e 282, e 283, e 284, e 285, e 286, e 287, e 288, e 289, e 290], []⟩ W := by
  have hkI : (k : Int) < G := by omega
  have hGI : (G : Int) ≤ 64 := by omega
  have hcI : (G : Int) ≤ sc := by omega
  have HJ := Lib.hid hJ
  clear hJ
  conv => arg 2; whnf
  go_wp2_with fail
  exact HJ.out _ _ rfl ⟨rfl, rfl, rfl, rfl, rfl, rfl, rfl, rfl, rfl, rfl, rfl, rfl, rfl, rfl, rfl, rfl, rfl, rfl, rfl⟩ rfl ((Below.refl _ _).alloc (Nat.le_refl _) _)
set_option maxHeartbeats 8000000 in
set_option maxRecDepth 100000 in
theorem wh_sp_some {wb sb so sc G np c21 k a b st : Nat} {o21 : Option Addr} {spv : Value} {W : World} {J : Act → World → Prop} {Q : Exit → Act → World → Prop} (e : Nat → Value) (hk : k < G) (hG : G ≤ 64) (hsc : G ≤ sc) (dz : sb < W.heap.size) (hab : a ≤ b) (hbs : b ≤ st) (hst : st ≤ 64)
    (d0 : W.cell? ⟨sb, so + k * 2, none⟩ = some (.int .i64 a)) (d1 : W.cell? ⟨sb, so + k * 2 + 1, none⟩ = some (.int .i64 b)) (hB : Blk W wb #[.int .i64 st, spv] 43)
    (ha : ∀ w', Below W.heap.size W w' → Calls Tryz.prog 19 #[.slice o21 np c21, .int .i64 (a : Nat)] w' fun e w'' => e = .returned (.bool true) ∧ w'' = w')
    (hb : ∀ w', Below W.heap.size W w' → Calls Tryz.prog 19 #[.slice o21 np c21, .int .i64 (b : Nat)] w' fun e w'' => e = .returned (.bool true) ∧ w'' = w')
    (hJ : ∀ (m : List Value) (w' : World), m.length = 291 → (m[6]? = some (e 6) ∧ m[7]? = some (e 7) ∧ m[9]? = some (e 9) ∧ m[11]? = some (e 11) ∧ m[12]? = some (e 12) ∧ m[14]? = some (e 14) ∧ m[15]? = some (e 15) ∧ m[17]? = some (e 17) ∧ m[19]? = some (e 19) ∧ m[20]? = some (e 20) ∧ m[21]? = some (.slice o21 np c21) ∧ m[23]? = some (e 23) ∧ m[24]? = some (e 24) ∧ m[25]? = some (.pointer (some ⟨wb, 0, none⟩)) ∧ m[139]? = some (e 139) ∧ m[140]? = some (e 140) ∧ m[141]? = some (e 141) ∧ m[166]? = some (.slice (some ⟨sb, so, none⟩) G sc) ∧ m[167]? = some (.int .i64 G)) → m[168]? = some (.int .i64 (k + 1)) → Below W.heap.size W w' → J ⟨m.toArray, []⟩ w') :
    Code.wp Tryz.prog (whC [1, 1, 1, 1, 1, 1, 1, 1, 1, 1, 1, 1, 1, 1, 0, 1, 0, 0, 1, 1, 0, 0, 1, 1, 0, 1, 0, 0]) (Exit.then J Q) ⟨#[e 0, e 1, e 2, e 3, e 4, e 5, e 6, e 7, e 8, e 9, e 10, e 11, e 12, e 13, e 14, e 15, e 16, e 17, e 18, e 19, e 20, .slice o21 np c21, e 22, e 23, e 24, .pointer (some ⟨wb, 0, none⟩), e 26, e 27, e 28, e 29, e 30, e 31, e 32, e 33, e 34, e 35, e 36, e 37, e 38, e 39, e 40, e 41, e 42, e 43, e 44, e 45, e 46, e 47, e 48, e 49, e 50, e 51, e 52, e 53, e 54, e 55, e 56, e 57, e 58, e 59, e 60, e 61, e 62, e 63, e 64, e 65, e 66, e 67, e 68, e 69, e 70, e 71, e 72, e 73, e 74, e 75, e 76, e 77, e 78, e 79, e 80, e 81, e 82, e 83, e 84, e 85, e 86, e 87, e 88, e 89, e 90, e 91, e 92, e 93, e 94, e 95, e 96, e 97, e 98, e 99, e 100, e 101, e 102, e 103, e 104, e 105, e 106, e 107, e 108, e 109, e 110, e 111, e 112, e 113, e 114, e 115, e 116, e 117, e 118, e 119, e 120, e 121, e 122, e 123, e 124, e 125, e 126, e 127, e 128, e 129, e 130, e 131, e 132, e 133, e 134, e 135, e 136, e 137, e 138, e 139, e 140, e 141, e 142, e 143, e 144, e 145, e 146, e 147, e 148, e 149, e 150, e 151, e 152, e 153, e 154, e 155, e 156, e 157, e 158, e 159, e 160, e 161, e 162, e 163, e 164, e 165, .slice (some ⟨sb, so, none⟩) G sc, .int .i64 G, .int .i64 k, e 169, e 170, e 171, e 172, e 173, e 174, e 175, e 176, e 177, e 178, e 179, e 180, e 181, e 182, e 183, e 184, e 185, e 186, e 187, e 188, e 189, e 190, e 191, e 192, e 193, e 194, e 195, e 196, e 197, e 198, e 199, e 200, e 201, e 202, e 203, e 204, e 205, e 206, e 207, e 208, e 209, e 210, e 211, e 212, e 213, e 214, e 215, e 216, e 217, e 218, e 219, e 220, e 221, e 222, e 223, e 224, e 225, e 226, e 227, e 228, e 229, e 230, e 231, e 232, e 233, e 234, e 235, e 236, e 237, e 238, e 239, e 240, e 241, e 242, e 243, e 244, e 245, e 246, e 247, e 248, e 249, e 250, e 251, e 252, e 253, e 254, e 255, e 256, e 257, e 258, e 259, e 260, e 261, e 262, e 263, e 264, e 265, e 266, e 267, e 268, e 269, e 270, e 271, e 272, e 273, e 274, e 275, e 276, e 277, e 278, e 279, e 280, e 281, e 282, e 283, e 284, e 285, e 286, e 287, e 288, e 289, e 290], []⟩ W := by
  have hkI : (k : Int) < G := by omega
  have hGI : (G : Int) ≤ 64 := by omega
  have hcI : (G : Int) ≤ sc := by omega
  have habI : (a : Int) ≤ b := by omega
  have hbsI : (b : Int) ≤ st := by omega
  have hstI : (st : Int) ≤ 64 := by omega
  have ha1 : ((a : Int) == -1) = false := beq_eq_false_iff_ne.2 (by omega)
  have ha2 : ¬ (a : Int) = -1 := by omega
  have hg1 : ¬ (b : Int) < a := by omega
  have hg2 : ¬ (st : Int) < b := by omega
  obtain ⟨t0, t1, -, -⟩ := hB.two
  have tz := hB.lt
  have HJ := Lib.hid hJ
  have HA := Lib.hid ha
  have HC := Lib.hid hb
  have HB0 := Lib.hid ((Below.refl W.heap.size W).alloc (Nat.le_refl _) (.cells #[.int .i64 a, .int .i64 b] 57))
  clear hJ ha hb hB
  conv => arg 2; whnf
  go_wp2_with (first
    | (go_at_call 19; go_loud (refine (HA.out _ HB0.out).mono ?_; rintro ee w2 ⟨rfl, rfl⟩))
    | (go_at_call 19; go_loud (refine (HC.out _ HB0.out).mono ?_; rintro ee w2 ⟨rfl, rfl⟩)))
  exact HJ.out _ _ rfl ⟨rfl, rfl, rfl, rfl, rfl, rfl, rfl, rfl, rfl, rfl, rfl, rfl, rfl, rfl, rfl, rfl, rfl, rfl, rfl⟩ rfl HB0.out
set_option maxHeartbeats 8000000 in
set_option maxRecDepth 100000 in
theorem wh_sp_out {G : Nat} {W : World} {J : Act → World → Prop} {Q : Exit → Act → World → Prop} (e : Nat → Value) (hG : G ≤ 64) (hJ : ∀ (m : List Value), m.length = 291 → (m[6]? = some (e 6) ∧ m[7]? = some (e 7) ∧ m[9]? = some (e 9) ∧ m[11]? = some (e 11) ∧ m[12]? = some (e 12) ∧ m[14]? = some (e 14) ∧ m[15]? = some (e 15) ∧ m[17]? = some (e 17) ∧ m[19]? = some (e 19) ∧ m[20]? = some (e 20) ∧ m[21]? = some (e 21) ∧ m[23]? = some (e 23) ∧ m[24]? = some (e 24) ∧ m[25]? = some (e 25) ∧ m[139]? = some (e 139) ∧ m[140]? = some (e 140) ∧ m[141]? = some (e 141) ∧ m[166]? = some (e 166) ∧ m[167]? = some (.int .i64 G)) → Q (.exit 4) ⟨m.toArray, []⟩ W) :
    Code.wp Tryz.prog (whC [1, 1, 1, 1, 1, 1, 1, 1, 1, 1, 1, 1, 1, 1, 0, 1, 0, 0, 1, 1, 0, 0, 1, 1, 0, 1, 0, 0]) (Exit.then J Q) ⟨#[e 0, e 1, e 2, e 3, e 4, e 5, e 6, e 7, e 8, e 9, e 10, e 11, e 12, e 13, e 14, e 15, e 16, e 17, e 18, e 19, e 20, e 21, e 22, e 23, e 24, e 25, e 26, e 27, e 28, e 29, e 30, e 31, e 32, e 33, e 34, e 35, e 36, e 37, e 38, e 39, e 40, e 41, e 42, e 43, e 44, e 45, e 46, e 47, e 48, e 49, e 50, e 51, e 52, e 53, e 54, e 55, e 56, e 57, e 58, e 59, e 60, e 61, e 62, e 63, e 64, e 65, e 66, e 67, e 68, e 69, e 70, e 71, e 72, e 73, e 74, e 75, e 76, e 77, e 78, e 79, e 80, e 81, e 82, e 83, e 84, e 85, e 86, e 87, e 88, e 89, e 90, e 91, e 92, e 93, e 94, e 95, e 96, e 97, e 98, e 99, e 100, e 101, e 102, e 103, e 104, e 105, e 106, e 107, e 108, e 109, e 110, e 111, e 112, e 113, e 114, e 115, e 116, e 117, e 118, e 119, e 120, e 121, e 122, e 123, e 124, e 125, e 126, e 127, e 128, e 129, e 130, e 131, e 132, e 133, e 134, e 135, e 136, e 137, e 138, e 139, e 140, e 141, e 142, e 143, e 144, e 145, e 146, e 147, e 148, e 149, e 150, e 151, e 152, e 153, e 154, e 155, e 156, e 157, e 158, e 159, e 160, e 161, e 162, e 163, e 164, e 165, e 166, .int .i64 G, .int .i64 G, e 169, e 170, e 171, e 172, e 173, e 174, e 175, e 176, e 177, e 178, e 179, e 180, e 181, e 182, e 183, e 184, e 185, e 186, e 187, e 188, e 189, e 190, e 191, e 192, e 193, e 194, e 195, e 196, e 197, e 198, e 199, e 200, e 201, e 202, e 203, e 204, e 205, e 206, e 207, e 208, e 209, e 210, e 211, e 212, e 213, e 214, e 215, e 216, e 217, e 218, e 219, e 220, e 221, e 222, e 223, e 224, e 225, e 226, e 227, e 228, e 229, e 230, e 231, e 232, e 233, e 234, e 235, e 236, e 237, e 238, e 239, e 240, e 241, e 242, e 243, e 244, e 245, e 246, e 247, e 248, e 249, e 250, e 251, e 252, e 253, e 254, e 255, e 256, e 257, e 258, e 259, e 260, e 261, e 262, e 263, e 264, e 265, e 266, e 267, e 268, e 269, e 270, e 271, e 272, e 273, e 274, e 275, e 276, e 277, e 278, e 279, e 280, e 281, e 282, e 283, e 284, e 285, e 286, e 287, e 288, e 289, e 290], []⟩ W := by
  have HJ := Lib.hid hJ
  clear hJ
  conv => arg 2; whnf
  go_wp2_with fail
  exact HJ.out _ rfl ⟨rfl, rfl, rfl, rfl, rfl, rfl, rfl, rfl, rfl, rfl, rfl, rfl, rfl, rfl, rfl, rfl, rfl, rfl, rfl⟩
/-- the loop over the spans: its round's invariant -/
def Spi (G : Nat) (q : Nat → Value) (W1 : World) (n : Nat) (a : Act) (w : World) : Prop := ∃ (m : List Value) (k : Nat), a = ⟨m.toArray, []⟩ ∧ m.length = 291 ∧ (m[6]? = some (q 6) ∧ m[7]? = some (q 7) ∧ m[9]? = some (q 9) ∧ m[11]? = some (q 11) ∧ m[12]? = some (q 12) ∧ m[14]? = some (q 14) ∧ m[15]? = some (q 15) ∧ m[17]? = some (q 17) ∧ m[19]? = some (q 19) ∧ m[20]? = some (q 20) ∧ m[21]? = some (q 21) ∧ m[23]? = some (q 23) ∧ m[24]? = some (q 24) ∧ m[25]? = some (q 25) ∧ m[139]? = some (q 139) ∧ m[140]? = some (q 140) ∧ m[141]? = some (q 141) ∧ m[166]? = some (q 166) ∧ m[167]? = some (q 167)) ∧ m[168]? = some (.int .i64 k) ∧ k ≤ G ∧ n = G - k ∧ Below W1.heap.size W1 w
set_option maxRecDepth 100000 in
theorem wh_sp_loop {wb np c21 n sc : Nat} {o21 so : Option Addr} {P : List Nat} {x : Wy.Way} {q : Nat → Value} {W1 w : World} {a : Act} {Q : Exit → Act → World → Prop} (hI : Spi x.spans.length q W1 n a w)
    (hq : q 21 = .slice o21 np c21 ∧ q 25 = .pointer (some ⟨wb, 0, none⟩) ∧ q 166 = .slice so x.spans.length sc ∧ q 167 = .int .i64 x.spans.length)
    (hP : Row (fun _ => True) W1 (.slice o21 np c21) np 1 (intCs P)) (hnp : np = P.length) (hp33 : np ≤ 33) (hB : Blk W1 wb #[.int .i64 x.stop, .slice so x.spans.length sc] 43) (hS : SpsAt (fun _ => True) W1 (.slice so x.spans.length sc) x.spans) (hx : ∃ G p, WIn (· ∈ P) G p x) (hst : x.stop ≤ 64)
    (hQ : ∀ (m : List Value) (w' : World), m.length = 291 → (m[6]? = some (q 6) ∧ m[7]? = some (q 7) ∧ m[9]? = some (q 9) ∧ m[11]? = some (q 11) ∧ m[12]? = some (q 12) ∧ m[14]? = some (q 14) ∧ m[15]? = some (q 15) ∧ m[17]? = some (q 17) ∧ m[19]? = some (q 19) ∧ m[20]? = some (q 20) ∧ m[21]? = some (q 21) ∧ m[23]? = some (q 23) ∧ m[24]? = some (q 24) ∧ m[25]? = some (q 25) ∧ m[139]? = some (q 139) ∧ m[140]? = some (q 140) ∧ m[141]? = some (q 141) ∧ m[166]? = some (q 166) ∧ m[167]? = some (q 167)) → Below W1.heap.size W1 w' → Q (.exit 4) ⟨m.toArray, []⟩ w') :
    Code.wp Tryz.prog (whC [1, 1, 1, 1, 1, 1, 1, 1, 1, 1, 1, 1, 1, 1, 0, 1, 0, 0, 1, 1, 0, 0, 1, 1, 0, 1, 0, 0]) (Exit.then (fun a' w' => ∃ n', n' < n ∧ Spi x.spans.length q W1 n' a' w') Q) a w := by
  obtain ⟨m, k, rfl, hm, hkq, h168, hk, hn, hb⟩ := hI
  obtain ⟨e, rfl⟩ := frame291 hm
  obtain ⟨g6, g7, g9, g11, g12, g14, g15, g17, g19, g20, g21, g23, g24, g25, g139, g140, g141, g166, g167⟩ := hkq
  have g6 : e 6 = q 6 := Option.some.inj g6
  have g7 : e 7 = q 7 := Option.some.inj g7
  have g9 : e 9 = q 9 := Option.some.inj g9
  have g11 : e 11 = q 11 := Option.some.inj g11
  have g12 : e 12 = q 12 := Option.some.inj g12
  have g14 : e 14 = q 14 := Option.some.inj g14
  have g15 : e 15 = q 15 := Option.some.inj g15
  have g17 : e 17 = q 17 := Option.some.inj g17
  have g19 : e 19 = q 19 := Option.some.inj g19
  have g20 : e 20 = q 20 := Option.some.inj g20
  have g21 : e 21 = q 21 := Option.some.inj g21
  have g23 : e 23 = q 23 := Option.some.inj g23
  have g24 : e 24 = q 24 := Option.some.inj g24
  have g25 : e 25 = q 25 := Option.some.inj g25
  have g139 : e 139 = q 139 := Option.some.inj g139
  have g140 : e 140 = q 140 := Option.some.inj g140
  have g141 : e 141 = q 141 := Option.some.inj g141
  have g166 : e 166 = q 166 := Option.some.inj g166
  have g167 : e 167 = q 167 := Option.some.inj g167
  have h168 : e 168 = _ := Option.some.inj h168
  have hkk : ∀ {m : List Value}, (m[6]? = some (e 6) ∧ m[7]? = some (e 7) ∧ m[9]? = some (e 9) ∧ m[11]? = some (e 11) ∧ m[12]? = some (e 12) ∧ m[14]? = some (e 14) ∧ m[15]? = some (e 15) ∧ m[17]? = some (e 17) ∧ m[19]? = some (e 19) ∧ m[20]? = some (e 20) ∧ m[21]? = some (e 21) ∧ m[23]? = some (e 23) ∧ m[24]? = some (e 24) ∧ m[25]? = some (e 25) ∧ m[139]? = some (e 139) ∧ m[140]? = some (e 140) ∧ m[141]? = some (e 141) ∧ m[166]? = some (e 166) ∧ m[167]? = some (e 167)) → (m[6]? = some (q 6) ∧ m[7]? = some (q 7) ∧ m[9]? = some (q 9) ∧ m[11]? = some (q 11) ∧ m[12]? = some (q 12) ∧ m[14]? = some (q 14) ∧ m[15]? = some (q 15) ∧ m[17]? = some (q 17) ∧ m[19]? = some (q 19) ∧ m[20]? = some (q 20) ∧ m[21]? = some (q 21) ∧ m[23]? = some (q 23) ∧ m[24]? = some (q 24) ∧ m[25]? = some (q 25) ∧ m[139]? = some (q 139) ∧ m[140]? = some (q 140) ∧ m[141]? = some (q 141) ∧ m[166]? = some (q 166) ∧ m[167]? = some (q 167)) := fun h => by rw [g6, g7, g9, g11, g12, g14, g15, g17, g19, g20, g21, g23, g24, g25, g139, g140, g141, g166, g167] at h; exact h
  obtain ⟨q21, q25, q166, q167⟩ := hq
  have hsm := hS.small
  by_cases hkl : ¬ k < x.spans.length
  · obtain rfl : k = x.spans.length := by omega
    rw [h168, show e 167 = .int .i64 x.spans.length from g167.trans q167]
    refine wh_sp_out e hsm (fun m k0 k1 => hQ m w k0 (hkk (by rw [show e 167 = .int .i64 x.spans.length from g167.trans q167]; exact k1)) hb)
  · have hkl : k < x.spans.length := by omega
    obtain ⟨sb, sf, cap, hve, hc1, hbz, hcell⟩ := sps_at hS (by omega)
    simp only [Value.slice.injEq, true_and] at hve
    obtain ⟨rfl, rfl⟩ := hve
    obtain ⟨d0, d1⟩ := hcell k hkl
    have d0 := (hb.cell (p := ⟨sb, sf + k * 2, none⟩) hbz).trans d0
    have d1 := (hb.cell (p := ⟨sb, sf + k * 2 + 1, none⟩) hbz).trans d1
    have hbz' := Nat.lt_of_lt_of_le hbz hb.size
    have e21 : e 21 = .slice o21 np c21 := g21.trans q21
    have e25 : e 25 = .pointer (some ⟨wb, 0, none⟩) := g25.trans q25
    have e166 : e 166 = .slice (some ⟨sb, sf, none⟩) x.spans.length sc := g166.trans q166
    have e167 : e 167 = .int .i64 x.spans.length := g167.trans q167
    have hJ : ∀ (m : List Value) (w' : World), m.length = 291 → (m[6]? = some (e 6) ∧ m[7]? = some (e 7) ∧ m[9]? = some (e 9) ∧ m[11]? = some (e 11) ∧ m[12]? = some (e 12) ∧ m[14]? = some (e 14) ∧ m[15]? = some (e 15) ∧ m[17]? = some (e 17) ∧ m[19]? = some (e 19) ∧ m[20]? = some (e 20) ∧ m[21]? = some (.slice o21 np c21) ∧ m[23]? = some (e 23) ∧ m[24]? = some (e 24) ∧ m[25]? = some (.pointer (some ⟨wb, 0, none⟩)) ∧ m[139]? = some (e 139) ∧ m[140]? = some (e 140) ∧ m[141]? = some (e 141) ∧ m[166]? = some (.slice (some ⟨sb, sf, none⟩) x.spans.length sc) ∧ m[167]? = some (.int .i64 x.spans.length)) → m[168]? = some (.int .i64 (k + 1)) → Below w.heap.size w w' → ∃ n', n' < n ∧ Spi x.spans.length q W1 n' ⟨m.toArray, []⟩ w' := fun m w' k0 k1 k2 k3 =>
      ⟨x.spans.length - (k + 1), by omega, m, k + 1, rfl, k0, hkk (by rw [e21, e25, e166, e167]; exact k1), k2, by omega, rfl, hb.trans (k3.mono hb.size)⟩
    obtain ⟨G, p0, hw1, hw2, hw3, hw4⟩ := hx
    rw [e21, e25, e166, e167, h168]
    rcases hw4 _ (List.getElem_mem hkl) with hv | ⟨a, b, hv, haP, hbP, hab, hbs⟩
    · rw [hv] at d0 d1
      exact wh_sp_none e hkl hsm hc1 hbz' d0 d1 hJ
    · rw [hv] at d0 d1
      have hrow : ∀ w', Below w.heap.size w w' → Row (fun _ => True) w' (.slice o21 np c21) P.length 1 (intZs (P.map fun x : Nat => (x : Int))) := fun w' h => by
        rw [← intCs_zs, ← hnp]
        exact RowGo hP (Kept.of_below (hb.trans (h.mono hb.size)) (fun _ => False)) (fun _ _ h => ⟨id, h⟩)
      have hct : ∀ y, y ∈ P → ∀ w', Below w.heap.size w w' → Calls Tryz.prog 19 #[.slice o21 np c21, .int .i64 (y : Nat)] w' fun e w'' => e = .returned (.bool true) ∧ w'' = w' := fun y hy w' h => by
        have hr := hrow w' h
        have hl : P.length = (P.map fun x : Nat => (x : Int)).length := by simp
        rw [hl] at hr
        have := contI_any (x := (y : Int)) hr (by simp; omega)
        rw [decide_eq_true (List.mem_map_of_mem hy)] at this
        exact this
      exact wh_sp_some e hkl hsm hc1 hbz' hab hbs hst d0 d1 (hB.below hb hB.lt) (hct a haP) (hct b hbP) hJ
end Go.Proofs.YtnhjakdmbfadlaaGreatDoor
