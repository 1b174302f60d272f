/- Parts of the proof: Wha, Whb. Conditions: none. -/
import Derived.Test.YtnhjakdmbfadlaaGreatDoorY40
import Derived.Test.YtnhjakdmbfadlaaGreatDoorY05
import Derived.Test.YtnhjakdmbfadlaaGreatDoorY07
import Derived.Test.YtnhjakdmbfadlaaGreatDoorY34
import Derived.BigFrame
set_option linter.all false
/- WaysWhole: the pieces up to the places. -/
namespace Go.Proofs.YtnhjakdmbfadlaaGreatDoor
open Go.RowKit Wy Mem Grow

noncomputable def whC (p : List Nat) : Code := pieceC (way p) (Tryz.f6.body.getD .skip)
set_option maxRecDepth 100000 in
theorem frame291 {l : List Value} (h : l.length = 291) : ∃ e : Nat → Value, l = [e 0, e 1, e 2, e 3, e 4, e 5, e 6, e 7, e 8, e 9, e 10, e 11, e 12, e 13, e 14, e 15, e 16, e 17, e 18, e 19, e 20, e 21, e 22, e 23, e 24, e 25, e 26, e 27, e 28, e 29, e 30, e 31, e 32, e 33, e 34, e 35, e 36, e 37, e 38, e 39, e 40, e 41, e 42, e 43, e 44, e 45, e 46, e 47, e 48, e 49, e 50, e 51, e 52, e 53, e 54, e 55, e 56, e 57, e 58, e 59, e 60, e 61, e 62, e 63, e 64, e 65, e 66, e 67, e 68, e 69, e 70, e 71, e 72, e 73, e 74, e 75, e 76, e 77, e 78, e 79, e 80, e 81, e 82, e 83, e 84, e 85, e 86, e 87, e 88, e 89, e 90, e 91, e 92, e 93, e 94, e 95, e 96, e 97, e 98, e 99, e 100, e 101, e 102, e 103, e 104, e 105, e 106, e 107, e 108, e 109, e 110, e 111, e 112, e 113, e 114, e 115, e 116, e 117, e 118, e 119, e 120, e 121, e 122, e 123, e 124, e 125, e 126, e 127, e 128, e 129, e 130, e 131, e 132, e 133, e 134, e 135, e 136, e 137, e 138, e 139, e 140, e 141, e 142, e 143, e 144, e 145, e 146, e 147, e 148, e 149, e 150, e 151, e 152, e 153, e 154, e 155, e 156, e 157, e 158, e 159, e 160, e 161, e 162, e 163, e 164, e 165, e 166, e 167, e 168, e 169, e 170, e 171, e 172, e 173, e 174, e 175, e 176, e 177, e 178, e 179, e 180, e 181, e 182, e 183, e 184, e 185, e 186, e 187, e 188, e 189, e 190, e 191, e 192, e 193, e 194, e 195, e 196, e 197, e 198, e 199, e 200, e 201, e 202, e 203, e 204, e 205, e 206, e 207, e 208, e 209, e 210, e 211, e 212, e 213, e 214, e 215, e 216, e 217, e 218, e 219, e 220, e 221, e 222, e 223, e 224, e 225, e 226, e 227, e 228, e 229, e 230, e 231, e 232, e 233, e 234, e 235, e 236, e 237, e 238, e 239, e 240, e 241, e 242, e 243, e 244, e 245, e 246, e 247, e 248, e 249, e 250, e 251, e 252, e 253, e 254, e 255, e 256, e 257, e 258, e 259, e 260, e 261, e 262, e 263, e 264, e 265, e 266, e 267, e 268, e 269, e 270, e 271, e 272, e 273, e 274, e 275, e 276, e 277, e 278, e 279, e 280, e 281, e 282, e 283, e 284, e 285, e 286, e 287, e 288, e 289, e 290] := by
  refine ⟨fun k => l.getD k undef, ?_⟩
  have h2 : l = (List.range 291).map fun k => l.getD k undef := by
    apply List.ext_getElem
    · simp [h]
    · intro i h1 h2
      simp [List.getD_eq_getElem?_getD, h1]
  exact h2
/-- what Made makes: its node's cells -/
def Mdx (x : Nd) (w : World) (e : Ending) (w' : World) : Prop := ∃ (k lo hi : Int) (lz : Bool) (p1 p2 : Option Addr) (n1 d1 n2 d2 : Nat), e = .returned (.agg #[.int .u8 k, .slice p1 n1 d1, .int .i64 lo, .int .i64 hi, .bool lz, .slice p2 n2 d2]) ∧ NdAt (fun _ => True) w' x [.int .u8 k, .slice p1 n1 d1, .int .i64 lo, .int .i64 hi, .bool lz, .slice p2 n2 d2] ∧ Below w.heap.size w w'
set_option maxHeartbeats 8000000 in
set_option maxRecDepth 100000 in
theorem wh3 {m1 c1 : Nat} {o1 : Option Addr} {vb : Value} {s : ByteArray} {x : Nd} {W : World} {J : Act → World → Prop} {Q : Exit → Act → World → Prop} (e : Nat → Value) (h1 : m1 ≤ c1)
    (hmx : Calls Tryz.prog 9 #[.slice o1 (min (m1 : Int) 14).toNat c1] W (Mdx x W))
    (htx : ∀ w', Below W.heap.size W w' → Calls Tryz.prog 12 #[vb, .int .i64 8] w' (fun e w'' => e = .returned (.string s) ∧ Below w'.heap.size w' w''))
    (hJ : ∀ (m : List Value) (w' : World) (b : Nat) (xs : List Value), m.length = 291 → m[5]? = some (.pointer (some ⟨b, 0, none⟩)) → m[6]? = some (.string s) → Blk w' b xs.toArray 27 → NdAt (fun _ => True) w' x xs → Below W.heap.size W w' → J ⟨m.toArray, []⟩ w') :
    Code.wp Tryz.prog (whC [1, 1, 0]) (Exit.then J Q) ⟨#[.slice o1 m1 c1, vb, e 2, e 3, e 4, e 5, e 6, e 7, e 8, e 9, e 10, e 11, e 12, e 13, e 14, e 15, e 16, e 17, e 18, e 19, e 20, e 21, e 22, e 23, e 24, e 25, e 26, e 27, e 28, e 29, e 30, e 31, e 32, e 33, e 34, e 35, e 36, e 37, e 38, e 39, e 40, e 41, e 42, e 43, e 44, e 45, e 46, e 47, e 48, e 49, e 50, e 51, e 52, e 53, e 54, e 55, e 56, e 57, e 58, e 59, e 60, e 61, e 62, e 63, e 64, e 65, e 66, e 67, e 68, e 69, e 70, e 71, e 72, e 73, e 74, e 75, e 76, e 77, e 78, e 79, e 80, e 81, e 82, e 83, e 84, e 85, e 86, e 87, e 88, e 89, e 90, e 91, e 92, e 93, e 94, e 95, e 96, e 97, e 98, e 99, e 100, e 101, e 102, e 103, e 104, e 105, e 106, e 107, e 108, e 109, e 110, e 111, e 112, e 113, e 114, e 115, e 116, e 117, e 118, e 119, e 120, e 121, e 122, e 123, e 124, e 125, e 126, e 127, e 128, e 129, e 130, e 131, e 132, e 133, e 134, e 135, e 136, e 137, e 138, e 139, e 140, e 141, e 142, e 143, e 144, e 145, e 146, e 147, e 148, e 149, e 150, e 151, e 152, e 153, e 154, e 155, e 156, e 157, e 158, e 159, e 160, e 161, e 162, e 163, e 164, e 165, e 166, e 167, e 168, e 169, e 170, e 171, e 172, e 173, e 174, e 175, e 176, e 177, e 178, e 179, e 180, e 181, e 182, e 183, e 184, e 185, e 186, e 187, e 188, e 189, e 190, e 191, e 192, e 193, e 194, e 195, e 196, e 197, e 198, e 199, e 200, e 201, e 202, e 203, e 204, e 205, e 206, e 207, e 208, e 209, e 210, e 211, e 212, e 213, e 214, e 215, e 216, e 217, e 218, e 219, e 220, e 221, e 222, e 223, e 224, e 225, e 226, e 227, e 228, e 229, e 230, e 231, e 232, e 233, e 234, e 235, e 236, e 237, e 238, e 239, e 240, e 241, e 242, e 243, e 244, e 245, e 246, e 247, e 248, e 249, e 250, e 251, e 252, e 253, e 254, e 255, e 256, e 257, e 258, e 259, e 260, e 261, e 262, e 263, e 264, e 265, e 266, e 267, e 268, e 269, e 270, e 271, e 272, e 273, e 274, e 275, e 276, e 277, e 278, e 279, e 280, e 281, e 282, e 283, e 284, e 285, e 286, e 287, e 288, e 289, e 290], []⟩ W := by
  have HX := Lib.hid hmx
  have HT := Lib.hid htx
  have HJ := Lib.hid hJ
  have h1I : (m1 : Int) ≤ c1 := by omega
  have h1n : 0 ≤ min (m1 : Int) 14 := by omega
  have h1c : min (m1 : Int) 14 ≤ c1 := by omega
  clear hmx htx hJ
  conv => arg 2; whnf
  go_wp2_with (first
    | (go_at_call 9; go_loud (refine HX.out.mono ?_; rintro ee w2 ⟨k, lo, hi, lz, p1, p2, n1, d1, n2, d2, rfl, hn, hb⟩; have HN := Lib.hid hn; have HB := Lib.hid hb; clear hn hb))
    | (go_at_call 12; go_loud (refine (HT.out _ HB.out).mono ?_; rintro ee w3 ⟨rfl, hb⟩; have HB3 := Lib.hid hb; clear hb)))
  have hz := HB.out.size
  have hz3 := HB3.out.size
  refine HJ.out _ _ _ [.int .u8 k, .slice p1 n1 d1, .int .i64 lo, .int .i64 hi, .bool lz, .slice p2 n2 d2] rfl rfl rfl (Blk.new _ _ _) ?_ ((HB.out.trans (HB3.out.mono hz)).alloc (by omega) _)
  exact NdAt.go ((Kept.of_below HB3.out (fun _ => False)).alloc _) (fun q hq _ => ⟨id, trivial⟩) HN.out
set_option maxHeartbeats 8000000 in
set_option maxRecDepth 100000 in
theorem wh4 {xb : Nat} {s : ByteArray} {k lo hi : Int} {lz : Bool} {p1 p2 : Option Addr} {n1 d1 n2 d2 : Nat} {er : Int} {R : World → Option Addr → Nat → Nat → Prop} {W : World} {J : Act → World → Prop} {Q : Exit → Act → World → Prop} (e : Nat → Value) (hB : Blk W xb #[.int .u8 k, .slice p1 n1 d1, .int .i64 lo, .int .i64 hi, .bool lz, .slice p2 n2 d2] 27)
    (hcall : Calls Tryz.prog 13 #[.agg #[.int .u8 k, .slice p1 n1 d1, .int .i64 lo, .int .i64 hi, .bool lz, .slice p2 n2 d2], .string s] W fun e w' => ∃ (o : Option Addr) (n c : Nat), e = .returned (.tuple #[.slice o n c, .int .i64 er]) ∧ R w' o n c ∧ Below W.heap.size W w')
    (hJ : ∀ (m : List Value) (w' : World) (o : Option Addr) (n : Nat) (c : Nat), m.length = 291 → (m[5]? = some (.pointer (some ⟨xb, 0, none⟩)) ∧ m[6]? = some (.string s) ∧ True) → m[7]? = some (.slice o n c) → m[8]? = some (.int .i64 er) → R w' o n c → Below W.heap.size W w' → J ⟨m.toArray, []⟩ w') :
    Code.wp Tryz.prog (whC [1, 1, 1, 0]) (Exit.then J Q) ⟨#[e 0, e 1, e 2, e 3, e 4, .pointer (some ⟨xb, 0, none⟩), .string s, e 7, e 8, e 9, e 10, e 11, e 12, e 13, e 14, e 15, e 16, e 17, e 18, e 19, e 20, e 21, e 22, e 23, e 24, e 25, e 26, e 27, e 28, e 29, e 30, e 31, e 32, e 33, e 34, e 35, e 36, e 37, e 38, e 39, e 40, e 41, e 42, e 43, e 44, e 45, e 46, e 47, e 48, e 49, e 50, e 51, e 52, e 53, e 54, e 55, e 56, e 57, e 58, e 59, e 60, e 61, e 62, e 63, e 64, e 65, e 66, e 67, e 68, e 69, e 70, e 71, e 72, e 73, e 74, e 75, e 76, e 77, e 78, e 79, e 80, e 81, e 82, e 83, e 84, e 85, e 86, e 87, e 88, e 89, e 90, e 91, e 92, e 93, e 94, e 95, e 96, e 97, e 98, e 99, e 100, e 101, e 102, e 103, e 104, e 105, e 106, e 107, e 108, e 109, e 110, e 111, e 112, e 113, e 114, e 115, e 116, e 117, e 118, e 119, e 120, e 121, e 122, e 123, e 124, e 125, e 126, e 127, e 128, e 129, e 130, e 131, e 132, e 133, e 134, e 135, e 136, e 137, e 138, e 139, e 140, e 141, e 142, e 143, e 144, e 145, e 146, e 147, e 148, e 149, e 150, e 151, e 152, e 153, e 154, e 155, e 156, e 157, e 158, e 159, e 160, e 161, e 162, e 163, e 164, e 165, e 166, e 167, e 168, e 169, e 170, e 171, e 172, e 173, e 174, e 175, e 176, e 177, e 178, e 179, e 180, e 181, e 182, e 183, e 184, e 185, e 186, e 187, e 188, e 189, e 190, e 191, e 192, e 193, e 194, e 195, e 196, e 197, e 198, e 199, e 200, e 201, e 202, e 203, e 204, e 205, e 206, e 207, e 208, e 209, e 210, e 211, e 212, e 213, e 214, e 215, e 216, e 217, e 218, e 219, e 220, e 221, e 222, e 223, e 224, e 225, e 226, e 227, e 228, e 229, e 230, e 231, e 232, e 233, e 234, e 235, e 236, e 237, e 238, e 239, e 240, e 241, e 242, e 243, e 244, e 245, e 246, e 247, e 248, e 249, e 250, e 251, e 252, e 253, e 254, e 255, e 256, e 257, e 258, e 259, e 260, e 261, e 262, e 263, e 264, e 265, e 266, e 267, e 268, e 269, e 270, e 271, e 272, e 273, e 274, e 275, e 276, e 277, e 278, e 279, e 280, e 281, e 282, e 283, e 284, e 285, e 286, e 287, e 288, e 289, e 290], []⟩ W := by
  have HC := Lib.hid hcall
  have HJ := Lib.hid hJ
  have b0 := hB.cell 0
  have b1 := hB.cell 1
  have b2 := hB.cell 2
  have b3 := hB.cell 3
  have b4 := hB.cell 4
  have b5 := hB.cell 5
  have bz := hB.lt
  clear hcall hJ hB
  conv => arg 2; whnf
  go_wp2_with (go_at_call 13; go_loud (refine HC.out.mono ?_; rintro ee w2 ⟨o, n, c, rfl, hr, hb⟩; have HR := Lib.hid hr; have HB := Lib.hid hb; clear hr hb))
  exact HJ.out _ _ _ _ _ rfl ⟨rfl, rfl, trivial⟩ rfl rfl HR.out HB.out
set_option maxHeartbeats 8000000 in
set_option maxRecDepth 100000 in
theorem wh5 {xb : Nat} {s : ByteArray} {k lo hi : Int} {lz : Bool} {p1 p2 : Option Addr} {n1 d1 n2 d2 : Nat} {er : Int} {R : World → Option Addr → Nat → Nat → Prop} {W : World} {J : Act → World → Prop} {Q : Exit → Act → World → Prop} (e : Nat → Value) (hB : Blk W xb #[.int .u8 k, .slice p1 n1 d1, .int .i64 lo, .int .i64 hi, .bool lz, .slice p2 n2 d2] 27)
    (hcall : Calls Tryz.prog 16 #[.agg #[.int .u8 k, .slice p1 n1 d1, .int .i64 lo, .int .i64 hi, .bool lz, .slice p2 n2 d2], .string s] W fun e w' => ∃ (o : Option Addr) (n c : Nat), e = .returned (.tuple #[.slice o n c, .int .i64 er]) ∧ R w' o n c ∧ Below W.heap.size W w')
    (hJ : ∀ (m : List Value) (w' : World) (o : Option Addr) (n : Nat) (c : Nat), m.length = 291 → (m[5]? = some (.pointer (some ⟨xb, 0, none⟩)) ∧ m[6]? = some (.string s) ∧ m[7]? = some (e 7) ∧ m[8]? = some (e 8) ∧ True) → m[9]? = some (.slice o n c) → m[10]? = some (.int .i64 er) → R w' o n c → Below W.heap.size W w' → J ⟨m.toArray, []⟩ w') :
    Code.wp Tryz.prog (whC [1, 1, 1, 1, 0]) (Exit.then J Q) ⟨#[e 0, e 1, e 2, e 3, e 4, .pointer (some ⟨xb, 0, none⟩), .string s, e 7, e 8, e 9, e 10, e 11, e 12, e 13, e 14, e 15, e 16, e 17, e 18, e 19, e 20, e 21, e 22, e 23, e 24, e 25, e 26, e 27, e 28, e 29, e 30, e 31, e 32, e 33, e 34, e 35, e 36, e 37, e 38, e 39, e 40, e 41, e 42, e 43, e 44, e 45, e 46, e 47, e 48, e 49, e 50, e 51, e 52, e 53, e 54, e 55, e 56, e 57, e 58, e 59, e 60, e 61, e 62, e 63, e 64, e 65, e 66, e 67, e 68, e 69, e 70, e 71, e 72, e 73, e 74, e 75, e 76, e 77, e 78, e 79, e 80, e 81, e 82, e 83, e 84, e 85, e 86, e 87, e 88, e 89, e 90, e 91, e 92, e 93, e 94, e 95, e 96, e 97, e 98, e 99, e 100, e 101, e 102, e 103, e 104, e 105, e 106, e 107, e 108, e 109, e 110, e 111, e 112, e 113, e 114, e 115, e 116, e 117, e 118, e 119, e 120, e 121, e 122, e 123, e 124, e 125, e 126, e 127, e 128, e 129, e 130, e 131, e 132, e 133, e 134, e 135, e 136, e 137, e 138, e 139, e 140, e 141, e 142, e 143, e 144, e 145, e 146, e 147, e 148, e 149, e 150, e 151, e 152, e 153, e 154, e 155, e 156, e 157, e 158, e 159, e 160, e 161, e 162, e 163, e 164, e 165, e 166, e 167, e 168, e 169, e 170, e 171, e 172, e 173, e 174, e 175, e 176, e 177, e 178, e 179, e 180, e 181, e 182, e 183, e 184, e 185, e 186, e 187, e 188, e 189, e 190, e 191, e 192, e 193, e 194, e 195, e 196, e 197, e 198, e 199, e 200, e 201, e 202, e 203, e 204, e 205, e 206, e 207, e 208, e 209, e 210, e 211, e 212, e 213, e 214, e 215, e 216, e 217, e 218, e 219, e 220, e 221, e 222, e 223, e 224, e 225, e 226, e 227, e 228, e 229, e 230, e 231, e 232, e 233, e 234, e 235, e 236, e 237, e 238, e 239, e 240, e 241, e 242, e 243, e 244, e 245, e 246, e 247, e 248, e 249, e 250, e 251, e 252, e 253, e 254, e 255, e 256, e 257, e 258, e 259, e 260, e 261, e 262, e 263, e 264, e 265, e 266, e 267, e 268, e 269, e 270, e 271, e 272, e 273, e 274, e 275, e 276, e 277, e 278, e 279, e 280, e 281, e 282, e 283, e 284, e 285, e 286, e 287, e 288, e 289, e 290], []⟩ W := by
  have HC := Lib.hid hcall
  have HJ := Lib.hid hJ
  have b0 := hB.cell 0
  have b1 := hB.cell 1
  have b2 := hB.cell 2
  have b3 := hB.cell 3
  have b4 := hB.cell 4
  have b5 := hB.cell 5
  have bz := hB.lt
  clear hcall hJ hB
  conv => arg 2; whnf
  go_wp2_with (go_at_call 16; go_loud (refine HC.out.mono ?_; rintro ee w2 ⟨o, n, c, rfl, hr, hb⟩; have HR := Lib.hid hr; have HB := Lib.hid hb; clear hr hb))
  exact HJ.out _ _ _ _ _ rfl ⟨rfl, rfl, rfl, rfl, trivial⟩ rfl rfl HR.out HB.out
set_option maxHeartbeats 8000000 in
set_option maxRecDepth 100000 in
theorem wh6 {xb : Nat} {s : ByteArray} {k lo hi : Int} {lz : Bool} {p1 p2 : Option Addr} {n1 d1 n2 d2 : Nat} {er : Int} {R : World → Option Addr → Nat → Nat → Bool → Prop} {W : World} {J : Act → World → Prop} {Q : Exit → Act → World → Prop} (e : Nat → Value) (hB : Blk W xb #[.int .u8 k, .slice p1 n1 d1, .int .i64 lo, .int .i64 hi, .bool lz, .slice p2 n2 d2] 27)
    (hcall : Calls Tryz.prog 15 #[.agg #[.int .u8 k, .slice p1 n1 d1, .int .i64 lo, .int .i64 hi, .bool lz, .slice p2 n2 d2], .string s] W fun e w' => ∃ (o : Option Addr) (n c : Nat) (bb : Bool), e = .returned (.tuple #[.slice o n c, .bool bb, .int .i64 er]) ∧ R w' o n c bb ∧ Below W.heap.size W w')
    (hJ : ∀ (m : List Value) (w' : World) (o : Option Addr) (n : Nat) (c : Nat) (bb : Bool), m.length = 291 → (m[5]? = some (.pointer (some ⟨xb, 0, none⟩)) ∧ m[6]? = some (.string s) ∧ m[7]? = some (e 7) ∧ m[8]? = some (e 8) ∧ m[9]? = some (e 9) ∧ m[10]? = some (e 10) ∧ True) → m[11]? = some (.slice o n c) → m[12]? = some (.bool bb) → m[13]? = some (.int .i64 er) → R w' o n c bb → Below W.heap.size W w' → J ⟨m.toArray, []⟩ w') :
    Code.wp Tryz.prog (whC [1, 1, 1, 1, 1, 0]) (Exit.then J Q) ⟨#[e 0, e 1, e 2, e 3, e 4, .pointer (some ⟨xb, 0, none⟩), .string s, e 7, e 8, e 9, e 10, e 11, e 12, e 13, e 14, e 15, e 16, e 17, e 18, e 19, e 20, e 21, e 22, e 23, e 24, e 25, e 26, e 27, e 28, e 29, e 30, e 31, e 32, e 33, e 34, e 35, e 36, e 37, e 38, e 39, e 40, e 41, e 42, e 43, e 44, e 45, e 46, e 47, e 48, e 49, e 50, e 51, e 52, e 53, e 54, e 55, e 56, e 57, e 58, e 59, e 60, e 61, e 62, e 63, e 64, e 65, e 66, e 67, e 68, e 69, e 70, e 71, e 72, e 73, e 74, e 75, e 76, e 77, e 78, e 79, e 80, e 81, e 82, e 83, e 84, e 85, e 86, e 87, e 88, e 89, e 90, e 91, e 92, e 93, e 94, e 95, e 96, e 97, e 98, e 99, e 100, e 101, e 102, e 103, e 104, e 105, e 106, e 107, e 108, e 109, e 110, e 111, e 112, e 113, e 114, e 115, e 116, e 117, e 118, e 119, e 120, e 121, e 122, e 123, e 124, e 125, e 126, e 127, e 128, e 129, e 130, e 131, e 132, e 133, e 134, e 135, e 136, e 137, e 138, e 139, e 140, e 141, e 142, e 143, e 144, e 145, e 146, e 147, e 148, e 149, e 150, e 151, e 152, e 153, e 154, e 155, e 156, e 157, e 158, e 159, e 160, e 161, e 162, e 163, e 164, e 165, e 166, e 167, e 168, e 169, e 170, e 171, e 172, e 173, e 174, e 175, e 176, e 177, e 178, e 179, e 180, e 181, e 182, e 183, e 184, e 185, e 186, e 187, e 188, e 189, e 190, e 191, e 192, e 193, e 194, e 195, e 196, e 197, e 198, e 199, e 200, e 201, e 202, e 203, e 204, e 205, e 206, e 207, e 208, e 209, e 210, e 211, e 212, e 213, e 214, e 215, e 216, e 217, e 218, e 219, e 220, e 221, e 222, e 223, e 224, e 225, e 226, e 227, e 228, e 229, e 230, e 231, e 232, e 233, e 234, e 235, e 236, e 237, e 238, e 239, e 240, e 241, e 242, e 243, e 244, e 245, e 246, e 247, e 248, e 249, e 250, e 251, e 252, e 253, e 254, e 255, e 256, e 257, e 258, e 259, e 260, e 261, e 262, e 263, e 264, e 265, e 266, e 267, e 268, e 269, e 270, e 271, e 272, e 273, e 274, e 275, e 276, e 277, e 278, e 279, e 280, e 281, e 282, e 283, e 284, e 285, e 286, e 287, e 288, e 289, e 290], []⟩ W := by
  have HC := Lib.hid hcall
  have HJ := Lib.hid hJ
  have b0 := hB.cell 0
  have b1 := hB.cell 1
  have b2 := hB.cell 2
  have b3 := hB.cell 3
  have b4 := hB.cell 4
  have b5 := hB.cell 5
  have bz := hB.lt
  clear hcall hJ hB
  conv => arg 2; whnf
  go_wp2_with (go_at_call 15; go_loud (refine HC.out.mono ?_; rintro ee w2 ⟨o, n, c, bb, rfl, hr, hb⟩; have HR := Lib.hid hr; have HB := Lib.hid hb; clear hr hb))
  exact HJ.out _ _ _ _ _ _ rfl ⟨rfl, rfl, rfl, rfl, rfl, rfl, trivial⟩ rfl rfl rfl HR.out HB.out
set_option maxHeartbeats 8000000 in
set_option maxRecDepth 100000 in
theorem wh7 {xb : Nat} {s : ByteArray} {k lo hi : Int} {lz : Bool} {p1 p2 : Option Addr} {n1 d1 n2 d2 : Nat} {er : Int} {R : World → Int → Option Addr → Nat → Nat → Bool → Prop} {W : World} {J : Act → World → Prop} {Q : Exit → Act → World → Prop} (e : Nat → Value) (hB : Blk W xb #[.int .u8 k, .slice p1 n1 d1, .int .i64 lo, .int .i64 hi, .bool lz, .slice p2 n2 d2] 27)
    (hcall : Calls Tryz.prog 14 #[.agg #[.int .u8 k, .slice p1 n1 d1, .int .i64 lo, .int .i64 hi, .bool lz, .slice p2 n2 d2], .string s] W fun e w' => ∃ (st : Int) (o : Option Addr) (n c : Nat) (bb : Bool), e = .returned (.tuple #[.agg #[.int .i64 st, .slice o n c], .bool bb, .int .i64 er]) ∧ R w' st o n c bb ∧ Below W.heap.size W w')
    (hJ : ∀ (m : List Value) (w2 w' : World) (st : Int) (o : Option Addr) (n : Nat) (c : Nat) (bb : Bool), m.length = 291 → (m[5]? = some (.pointer (some ⟨xb, 0, none⟩)) ∧ m[6]? = some (.string s) ∧ m[7]? = some (e 7) ∧ m[8]? = some (e 8) ∧ m[9]? = some (e 9) ∧ m[10]? = some (e 10) ∧ m[11]? = some (e 11) ∧ m[12]? = some (e 12) ∧ m[13]? = some (e 13) ∧ True) → m[14]? = some (.pointer (some ⟨w2.heap.size, 0, none⟩)) → m[15]? = some (.bool bb) → m[16]? = some (.int .i64 er) → R w2 (st) (o) (n) (c) (bb) → Blk w' w2.heap.size #[.int .i64 st, .slice o n c] 43 → Below w2.heap.size w2 w' → Below W.heap.size W w' → J ⟨m.toArray, []⟩ w') :
    Code.wp Tryz.prog (whC [1, 1, 1, 1, 1, 1, 0]) (Exit.then J Q) ⟨#[e 0, e 1, e 2, e 3, e 4, .pointer (some ⟨xb, 0, none⟩), .string s, e 7, e 8, e 9, e 10, e 11, e 12, e 13, e 14, e 15, e 16, e 17, e 18, e 19, e 20, e 21, e 22, e 23, e 24, e 25, e 26, e 27, e 28, e 29, e 30, e 31, e 32, e 33, e 34, e 35, e 36, e 37, e 38, e 39, e 40, e 41, e 42, e 43, e 44, e 45, e 46, e 47, e 48, e 49, e 50, e 51, e 52, e 53, e 54, e 55, e 56, e 57, e 58, e 59, e 60, e 61, e 62, e 63, e 64, e 65, e 66, e 67, e 68, e 69, e 70, e 71, e 72, e 73, e 74, e 75, e 76, e 77, e 78, e 79, e 80, e 81, e 82, e 83, e 84, e 85, e 86, e 87, e 88, e 89, e 90, e 91, e 92, e 93, e 94, e 95, e 96, e 97, e 98, e 99, e 100, e 101, e 102, e 103, e 104, e 105, e 106, e 107, e 108, e 109, e 110, e 111, e 112, e 113, e 114, e 115, e 116, e 117, e 118, e 119, e 120, e 121, e 122, e 123, e 124, e 125, e 126, e 127, e 128, e 129, e 130, e 131, e 132, e 133, e 134, e 135, e 136, e 137, e 138, e 139, e 140, e 141, e 142, e 143, e 144, e 145, e 146, e 147, e 148, e 149, e 150, e 151, e 152, e 153, e 154, e 155, e 156, e 157, e 158, e 159, e 160, e 161, e 162, e 163, e 164, e 165, e 166, e 167, e 168, e 169, e 170, e 171, e 172, e 173, e 174, e 175, e 176, e 177, e 178, e 179, e 180, e 181, e 182, e 183, e 184, e 185, e 186, e 187, e 188, e 189, e 190, e 191, e 192, e 193, e 194, e 195, e 196, e 197, e 198, e 199, e 200, e 201, e 202, e 203, e 204, e 205, e 206, e 207, e 208, e 209, e 210, e 211, e 212, e 213, e 214, e 215, e 216, e 217, e 218, e 219, e 220, e 221, e 222, e 223, e 224, e 225, e 226, e 227, e 228, e 229, e 230, e 231, e 232, e 233, e 234, e 235, e 236, e 237, e 238, e 239, e 240, e 241, e 242, e 243, e 244, e 245, e 246, e 247, e 248, e 249, e 250, e 251, e 252, e 253, e 254, e 255, e 256, e 257, e 258, e 259, e 260, e 261, e 262, e 263, e 264, e 265, e 266, e 267, e 268, e 269, e 270, e 271, e 272, e 273, e 274, e 275, e 276, e 277, e 278, e 279, e 280, e 281, e 282, e 283, e 284, e 285, e 286, e 287, e 288, e 289, e 290], []⟩ W := by
  have HC := Lib.hid hcall
  have HJ := Lib.hid hJ
  have b0 := hB.cell 0
  have b1 := hB.cell 1
  have b2 := hB.cell 2
  have b3 := hB.cell 3
  have b4 := hB.cell 4
  have b5 := hB.cell 5
  have bz := hB.lt
  clear hcall hJ hB
  conv => arg 2; whnf
  go_wp2_with (go_at_call 14; go_loud (refine HC.out.mono ?_; rintro ee w2 ⟨st, o, n, c, bb, rfl, hr, hb⟩; have HR := Lib.hid hr; have HB := Lib.hid hb; clear hr hb))
  have hb2 := HB.out
  exact HJ.out _ _ _ _ _ _ _ _ rfl ⟨rfl, rfl, rfl, rfl, rfl, rfl, rfl, rfl, rfl, trivial⟩ rfl rfl rfl HR.out (Blk.new _ _ _) ((Below.refl _ _).alloc (Nat.le_refl _) _) (hb2.alloc (by have := hb2.size; omega) _)
set_option maxHeartbeats 8000000 in
set_option maxRecDepth 100000 in
theorem wh8 {xb : Nat} {s : ByteArray} {k lo hi : Int} {lz : Bool} {p1 p2 : Option Addr} {n1 d1 n2 d2 : Nat} {er : Int} {R : World → Int → Prop} {W : World} {J : Act → World → Prop} {Q : Exit → Act → World → Prop} (e : Nat → Value) (hB : Blk W xb #[.int .u8 k, .slice p1 n1 d1, .int .i64 lo, .int .i64 hi, .bool lz, .slice p2 n2 d2] 27)
    (hcall : Calls Tryz.prog 17 #[.agg #[.int .u8 k, .slice p1 n1 d1, .int .i64 lo, .int .i64 hi, .bool lz, .slice p2 n2 d2], .string s] W fun e w' => ∃ (z : Int), e = .returned (.tuple #[.int .i64 z, .int .i64 er]) ∧ R w' z ∧ Below W.heap.size W w')
    (hJ : ∀ (m : List Value) (w' : World) (z : Int), m.length = 291 → (m[5]? = some (.pointer (some ⟨xb, 0, none⟩)) ∧ m[6]? = some (.string s) ∧ m[7]? = some (e 7) ∧ m[8]? = some (e 8) ∧ m[9]? = some (e 9) ∧ m[10]? = some (e 10) ∧ m[11]? = some (e 11) ∧ m[12]? = some (e 12) ∧ m[13]? = some (e 13) ∧ m[14]? = some (e 14) ∧ m[15]? = some (e 15) ∧ m[16]? = some (e 16) ∧ True) → m[17]? = some (.int .i64 z) → m[18]? = some (.int .i64 er) → R w' z → Below W.heap.size W w' → J ⟨m.toArray, []⟩ w') :
    Code.wp Tryz.prog (whC [1, 1, 1, 1, 1, 1, 1, 0]) (Exit.then J Q) ⟨#[e 0, e 1, e 2, e 3, e 4, .pointer (some ⟨xb, 0, none⟩), .string s, e 7, e 8, e 9, e 10, e 11, e 12, e 13, e 14, e 15, e 16, e 17, e 18, e 19, e 20, e 21, e 22, e 23, e 24, e 25, e 26, e 27, e 28, e 29, e 30, e 31, e 32, e 33, e 34, e 35, e 36, e 37, e 38, e 39, e 40, e 41, e 42, e 43, e 44, e 45, e 46, e 47, e 48, e 49, e 50, e 51, e 52, e 53, e 54, e 55, e 56, e 57, e 58, e 59, e 60, e 61, e 62, e 63, e 64, e 65, e 66, e 67, e 68, e 69, e 70, e 71, e 72, e 73, e 74, e 75, e 76, e 77, e 78, e 79, e 80, e 81, e 82, e 83, e 84, e 85, e 86, e 87, e 88, e 89, e 90, e 91, e 92, e 93, e 94, e 95, e 96, e 97, e 98, e 99, e 100, e 101, e 102, e 103, e 104, e 105, e 106, e 107, e 108, e 109, e 110, e 111, e 112, e 113, e 114, e 115, e 116, e 117, e 118, e 119, e 120, e 121, e 122, e 123, e 124, e 125, e 126, e 127, e 128, e 129, e 130, e 131, e 132, e 133, e 134, e 135, e 136, e 137, e 138, e 139, e 140, e 141, e 142, e 143, e 144, e 145, e 146, e 147, e 148, e 149, e 150, e 151, e 152, e 153, e 154, e 155, e 156, e 157, e 158, e 159, e 160, e 161, e 162, e 163, e 164, e 165, e 166, e 167, e 168, e 169, e 170, e 171, e 172, e 173, e 174, e 175, e 176, e 177, e 178, e 179, e 180, e 181, e 182, e 183, e 184, e 185, e 186, e 187, e 188, e 189, e 190, e 191, e 192, e 193, e 194, e 195, e 196, e 197, e 198, e 199, e 200, e 201, e 202, e 203, e 204, e 205, e 206, e 207, e 208, e 209, e 210, e 211, e 212, e 213, e 214, e 215, e 216, e 217, e 218, e 219, e 220, e 221, e 222, e 223, e 224, e 225, e 226, e 227, e 228, e 229, e 230, e 231, e 232, e 233, e 234, e 235, e 236, e 237, e 238, e 239, e 240, e 241, e 242, e 243, e 244, e 245, e 246, e 247, e 248, e 249, e 250, e 251, e 252, e 253, e 254, e 255, e 256, e 257, e 258, e 259, e 260, e 261, e 262, e 263, e 264, e 265, e 266, e 267, e 268, e 269, e 270, e 271, e 272, e 273, e 274, e 275, e 276, e 277, e 278, e 279, e 280, e 281, e 282, e 283, e 284, e 285, e 286, e 287, e 288, e 289, e 290], []⟩ W := by
  have HC := Lib.hid hcall
  have HJ := Lib.hid hJ
  have b0 := hB.cell 0
  have b1 := hB.cell 1
  have b2 := hB.cell 2
  have b3 := hB.cell 3
  have b4 := hB.cell 4
  have b5 := hB.cell 5
  have bz := hB.lt
  clear hcall hJ hB
  conv => arg 2; whnf
  go_wp2_with (go_at_call 17; go_loud (refine HC.out.mono ?_; rintro ee w2 ⟨z, rfl, hr, hb⟩; have HR := Lib.hid hr; have HB := Lib.hid hb; clear hr hb))
  exact HJ.out _ _ _ rfl ⟨rfl, rfl, rfl, rfl, rfl, rfl, rfl, rfl, rfl, rfl, rfl, rfl, trivial⟩ rfl rfl HR.out HB.out
set_option maxHeartbeats 8000000 in
set_option maxRecDepth 100000 in
theorem wh9 {er : Int} {W : World} {J : Act → World → Prop} {Q : Exit → Act → World → Prop} (e : Nat → Value) 
    (hJ : ∀ (m : List Value), m.length = 291 → (m[5]? = some (e 5) ∧ m[6]? = some (e 6) ∧ m[7]? = some (e 7) ∧ m[9]? = some (e 9) ∧ m[11]? = some (e 11) ∧ m[12]? = some (e 12) ∧ m[14]? = some (e 14) ∧ m[15]? = some (e 15) ∧ m[17]? = some (e 17) ∧ m[8]? = some (.int .i64 er) ∧ True) → J ⟨m.toArray, []⟩ W) :
    Code.wp Tryz.prog (whC [1, 1, 1, 1, 1, 1, 1, 1, 0]) (Exit.then J Q) ⟨#[e 0, e 1, e 2, e 3, e 4, e 5, e 6, e 7, .int .i64 er, e 9, .int .i64 er, e 11, e 12, .int .i64 er, e 14, e 15, .int .i64 er, e 17, .int .i64 er, e 19, e 20, e 21, e 22, e 23, e 24, e 25, e 26, e 27, e 28, e 29, e 30, e 31, e 32, e 33, e 34, e 35, e 36, e 37, e 38, e 39, e 40, e 41, e 42, e 43, e 44, e 45, e 46, e 47, e 48, e 49, e 50, e 51, e 52, e 53, e 54, e 55, e 56, e 57, e 58, e 59, e 60, e 61, e 62, e 63, e 64, e 65, e 66, e 67, e 68, e 69, e 70, e 71, e 72, e 73, e 74, e 75, e 76, e 77, e 78, e 79, e 80, e 81, e 82, e 83, e 84, e 85, e 86, e 87, e 88, e 89, e 90, e 91, e 92, e 93, e 94, e 95, e 96, e 97, e 98, e 99, e 100, e 101, e 102, e 103, e 104, e 105, e 106, e 107, e 108, e 109, e 110, e 111, e 112, e 113, e 114, e 115, e 116, e 117, e 118, e 119, e 120, e 121, e 122, e 123, e 124, e 125, e 126, e 127, e 128, e 129, e 130, e 131, e 132, e 133, e 134, e 135, e 136, e 137, e 138, e 139, e 140, e 141, e 142, e 143, e 144, e 145, e 146, e 147, e 148, e 149, e 150, e 151, e 152, e 153, e 154, e 155, e 156, e 157, e 158, e 159, e 160, e 161, e 162, e 163, e 164, e 165, e 166, e 167, e 168, e 169, e 170, e 171, e 172, e 173, e 174, e 175, e 176, e 177, e 178, e 179, e 180, e 181, e 182, e 183, e 184, e 185, e 186, e 187, e 188, e 189, e 190, e 191, e 192, e 193, e 194, e 195, e 196, e 197, e 198, e 199, e 200, e 201, e 202, e 203, e 204, e 205, e 206, e 207, e 208, e 209, e 210, e 211, e 212, e 213, e 214, e 215, e 216, e 217, e 218, e 219, e 220, e 221, e 222, e 223, e 224, e 225, e 226, e 227, e 228, e 229, e 230, e 231, e 232, e 233, e 234, e 235, e 236, e 237, e 238, e 239, e 240, e 241, e 242, e 243, e 244, e 245, e 246, e 247, e 248, e 249, e 250, e 251, e 252, e 253, e 254, e 255, e 256, e 257, e 258, e 259, e 260, e 261, e 262, e 263, e 264, e 265, e 266, e 267, e 268, e 269, e 270, e 271, e 272, e 273, e 274, e 275, e 276, e 277, e 278, e 279, e 280, e 281, e 282, e 283, e 284, e 285, e 286, e 287, e 288, e 289, e 290], []⟩ W := by
  have HJ := Lib.hid hJ
  clear hJ
  conv => arg 2; whnf
  go_wp2_with fail
  exact HJ.out _ rfl ⟨rfl, rfl, rfl, rfl, rfl, rfl, rfl, rfl, rfl, rfl, trivial⟩
set_option maxHeartbeats 8000000 in
set_option maxRecDepth 100000 in
theorem wh11  {W : World} {J : Act → World → Prop} {Q : Exit → Act → World → Prop} (e : Nat → Value) 
    (hJ : ∀ (m : List Value), m.length = 291 → (m[5]? = some (e 5) ∧ m[6]? = some (e 6) ∧ m[7]? = some (e 7) ∧ m[9]? = some (e 9) ∧ m[11]? = some (e 11) ∧ m[12]? = some (e 12) ∧ m[14]? = some (e 14) ∧ m[15]? = some (e 15) ∧ m[17]? = some (e 17) ∧ True) → J ⟨m.toArray, []⟩ W) :
    Code.wp Tryz.prog (whC [1, 1, 1, 1, 1, 1, 1, 1, 1, 0]) (Exit.then J Q) ⟨#[e 0, e 1, e 2, e 3, e 4, e 5, e 6, e 7, .int .i64 0, e 9, e 10, e 11, e 12, e 13, e 14, e 15, e 16, e 17, e 18, e 19, e 20, e 21, e 22, e 23, e 24, e 25, e 26, e 27, e 28, e 29, e 30, e 31, e 32, e 33, e 34, e 35, e 36, e 37, e 38, e 39, e 40, e 41, e 42, e 43, e 44, e 45, e 46, e 47, e 48, e 49, e 50, e 51, e 52, e 53, e 54, e 55, e 56, e 57, e 58, e 59, e 60, e 61, e 62, e 63, e 64, e 65, e 66, e 67, e 68, e 69, e 70, e 71, e 72, e 73, e 74, e 75, e 76, e 77, e 78, e 79, e 80, e 81, e 82, e 83, e 84, e 85, e 86, e 87, e 88, e 89, e 90, e 91, e 92, e 93, e 94, e 95, e 96, e 97, e 98, e 99, e 100, e 101, e 102, e 103, e 104, e 105, e 106, e 107, e 108, e 109, e 110, e 111, e 112, e 113, e 114, e 115, e 116, e 117, e 118, e 119, e 120, e 121, e 122, e 123, e 124, e 125, e 126, e 127, e 128, e 129, e 130, e 131, e 132, e 133, e 134, e 135, e 136, e 137, e 138, e 139, e 140, e 141, e 142, e 143, e 144, e 145, e 146, e 147, e 148, e 149, e 150, e 151, e 152, e 153, e 154, e 155, e 156, e 157, e 158, e 159, e 160, e 161, e 162, e 163, e 164, e 165, e 166, e 167, e 168, e 169, e 170, e 171, e 172, e 173, e 174, e 175, e 176, e 177, e 178, e 179, e 180, e 181, e 182, e 183, e 184, e 185, e 186, e 187, e 188, e 189, e 190, e 191, e 192, e 193, e 194, e 195, e 196, e 197, e 198, e 199, e 200, e 201, e 202, e 203, e 204, e 205, e 206, e 207, e 208, e 209, e 210, e 211, e 212, e 213, e 214, e 215, e 216, e 217, e 218, e 219, e 220, e 221, e 222, e 223, e 224, e 225, e 226, e 227, e 228, e 229, e 230, e 231, e 232, e 233, e 234, e 235, e 236, e 237, e 238, e 239, e 240, e 241, e 242, e 243, e 244, e 245, e 246, e 247, e 248, e 249, e 250, e 251, e 252, e 253, e 254, e 255, e 256, e 257, e 258, e 259, e 260, e 261, e 262, e 263, e 264, e 265, e 266, e 267, e 268, e 269, e 270, e 271, e 272, e 273, e 274, e 275, e 276, e 277, e 278, e 279, e 280, e 281, e 282, e 283, e 284, e 285, e 286, e 287, e 288, e 289, e 290], []⟩ W := by
  have HJ := Lib.hid hJ
  clear hJ
  conv => arg 2; whnf
  go_wp2_with fail
  exact HJ.out _ rfl ⟨rfl, rfl, rfl, rfl, rfl, rfl, rfl, rfl, rfl, trivial⟩
set_option maxHeartbeats 8000000 in
set_option maxRecDepth 100000 in
theorem wh11b {o7 o9 o11 : Option Addr} {c7 c9 c11 b14 : Nat} {W : World} {J : Act → World → Prop} {Q : Exit → Act → World → Prop} (e : Nat → Value) (hB : Blk W b14 #[.int .i64 0, .slice none 0 0] 43)
    (hRet : ∀ (m : List Value), m.length = 291 → m[4]? = some (.bool true) → Q .ret ⟨m.toArray, []⟩ W) :
    Code.wp Tryz.prog (whC [1, 1, 1, 1, 1, 1, 1, 1, 1, 0]) (Exit.then J Q) ⟨#[e 0, e 1, e 2, e 3, e 4, e 5, e 6, .slice o7 0 c7, .int .i64 5, .slice o9 0 c9, e 10, .slice o11 0 c11, .bool false, e 13, .pointer (some ⟨b14, 0, none⟩), .bool false, e 16, .int .i64 0, e 18, e 19, e 20, e 21, e 22, e 23, e 24, e 25, e 26, e 27, e 28, e 29, e 30, e 31, e 32, e 33, e 34, e 35, e 36, e 37, e 38, e 39, e 40, e 41, e 42, e 43, e 44, e 45, e 46, e 47, e 48, e 49, e 50, e 51, e 52, e 53, e 54, e 55, e 56, e 57, e 58, e 59, e 60, e 61, e 62, e 63, e 64, e 65, e 66, e 67, e 68, e 69, e 70, e 71, e 72, e 73, e 74, e 75, e 76, e 77, e 78, e 79, e 80, e 81, e 82, e 83, e 84, e 85, e 86, e 87, e 88, e 89, e 90, e 91, e 92, e 93, e 94, e 95, e 96, e 97, e 98, e 99, e 100, e 101, e 102, e 103, e 104, e 105, e 106, e 107, e 108, e 109, e 110, e 111, e 112, e 113, e 114, e 115, e 116, e 117, e 118, e 119, e 120, e 121, e 122, e 123, e 124, e 125, e 126, e 127, e 128, e 129, e 130, e 131, e 132, e 133, e 134, e 135, e 136, e 137, e 138, e 139, e 140, e 141, e 142, e 143, e 144, e 145, e 146, e 147, e 148, e 149, e 150, e 151, e 152, e 153, e 154, e 155, e 156, e 157, e 158, e 159, e 160, e 161, e 162, e 163, e 164, e 165, e 166, e 167, e 168, e 169, e 170, e 171, e 172, e 173, e 174, e 175, e 176, e 177, e 178, e 179, e 180, e 181, e 182, e 183, e 184, e 185, e 186, e 187, e 188, e 189, e 190, e 191, e 192, e 193, e 194, e 195, e 196, e 197, e 198, e 199, e 200, e 201, e 202, e 203, e 204, e 205, e 206, e 207, e 208, e 209, e 210, e 211, e 212, e 213, e 214, e 215, e 216, e 217, e 218, e 219, e 220, e 221, e 222, e 223, e 224, e 225, e 226, e 227, e 228, e 229, e 230, e 231, e 232, e 233, e 234, e 235, e 236, e 237, e 238, e 239, e 240, e 241, e 242, e 243, e 244, e 245, e 246, e 247, e 248, e 249, e 250, e 251, e 252, e 253, e 254, e 255, e 256, e 257, e 258, e 259, e 260, e 261, e 262, e 263, e 264, e 265, e 266, e 267, e 268, e 269, e 270, e 271, e 272, e 273, e 274, e 275, e 276, e 277, e 278, e 279, e 280, e 281, e 282, e 283, e 284, e 285, e 286, e 287, e 288, e 289, e 290], []⟩ W := by
  have HR := Lib.hid hRet
  obtain ⟨d0, d1, -, -⟩ := hB.two
  have dz := hB.lt
  clear hRet hB
  conv => arg 2; whnf
  go_wp2_with fail
  exact HR.out _ rfl rfl
set_option maxHeartbeats 8000000 in
set_option maxRecDepth 100000 in
theorem wh13 {xb : Nat} {G : Nat} {k lo hi : Int} {lz : Bool} {p1 p2 : Option Addr} {n1 d1 n2 d2 : Nat} {W : World} {J : Act → World → Prop} {Q : Exit → Act → World → Prop} (e : Nat → Value) (hB : Blk W xb #[.int .u8 k, .slice p1 n1 d1, .int .i64 lo, .int .i64 hi, .bool lz, .slice p2 n2 d2] 27)
    (hcall : Calls Tryz.prog 18 #[.agg #[.int .u8 k, .slice p1 n1 d1, .int .i64 lo, .int .i64 hi, .bool lz, .slice p2 n2 d2]] W fun e w' => e = .returned (.tuple #[.int .i64 G, .int .i64 0]) ∧ Below W.heap.size W w')
    (hJ : ∀ (m : List Value) (w' : World), m.length = 291 → (m[6]? = some (e 6) ∧ m[7]? = some (e 7) ∧ m[9]? = some (e 9) ∧ m[11]? = some (e 11) ∧ m[12]? = some (e 12) ∧ m[14]? = some (e 14) ∧ m[15]? = some (e 15) ∧ m[17]? = some (e 17) ∧ True) → m[19]? = some (.int .i64 G) → m[20]? = some (.int .i64 0) → Below W.heap.size W w' → J ⟨m.toArray, []⟩ w') :
    Code.wp Tryz.prog (whC [1, 1, 1, 1, 1, 1, 1, 1, 1, 1, 0]) (Exit.then J Q) ⟨#[e 0, e 1, e 2, e 3, e 4, .pointer (some ⟨xb, 0, none⟩), e 6, e 7, e 8, e 9, e 10, e 11, e 12, e 13, e 14, e 15, e 16, e 17, e 18, e 19, e 20, e 21, e 22, e 23, e 24, e 25, e 26, e 27, e 28, e 29, e 30, e 31, e 32, e 33, e 34, e 35, e 36, e 37, e 38, e 39, e 40, e 41, e 42, e 43, e 44, e 45, e 46, e 47, e 48, e 49, e 50, e 51, e 52, e 53, e 54, e 55, e 56, e 57, e 58, e 59, e 60, e 61, e 62, e 63, e 64, e 65, e 66, e 67, e 68, e 69, e 70, e 71, e 72, e 73, e 74, e 75, e 76, e 77, e 78, e 79, e 80, e 81, e 82, e 83, e 84, e 85, e 86, e 87, e 88, e 89, e 90, e 91, e 92, e 93, e 94, e 95, e 96, e 97, e 98, e 99, e 100, e 101, e 102, e 103, e 104, e 105, e 106, e 107, e 108, e 109, e 110, e 111, e 112, e 113, e 114, e 115, e 116, e 117, e 118, e 119, e 120, e 121, e 122, e 123, e 124, e 125, e 126, e 127, e 128, e 129, e 130, e 131, e 132, e 133, e 134, e 135, e 136, e 137, e 138, e 139, e 140, e 141, e 142, e 143, e 144, e 145, e 146, e 147, e 148, e 149, e 150, e 151, e 152, e 153, e 154, e 155, e 156, e 157, e 158, e 159, e 160, e 161, e 162, e 163, e 164, e 165, e 166, e 167, e 168, e 169, e 170, e 171, e 172, e 173, e 174, e 175, e 176, e 177, e 178, e 179, e 180, e 181, e 182, e 183, e 184, e 185, e 186, e 187, e 188, e 189, e 190, e 191, e 192, e 193, e 194, e 195, e 196, e 197, e 198, e 199, e 200, e 201, e 202, e 203, e 204, e 205, e 206, e 207, e 208, e 209, e 210, e 211, e 212, e 213, e 214, e 215, e 216, e 217, e 218, e 219, e 220, e 221, e 222, e 223, e 224, e 225, e 226, e 227, e 228, e 229, e 230, e 231, e 232, e 233, e 234, e 235, e 236, e 237, e 238, e 239, e 240, e 241, e 242, e 243, e 244, e 245, e 246, e 247, e 248, e 249, e 250, e 251, e 252, e 253, e 254, e 255, e 256, e 257, e 258, e 259, e 260, e 261, e 262, e 263, e 264, e 265, e 266, e 267, e 268, e 269, e 270, e 271, e 272, e 273, e 274, e 275, e 276, e 277, e 278, e 279, e 280, e 281, e 282, e 283, e 284, e 285, e 286, e 287, e 288, e 289, e 290], []⟩ W := by
  have HC := Lib.hid hcall
  have HJ := Lib.hid hJ
  have b0 := hB.cell 0
  have b1 := hB.cell 1
  have b2 := hB.cell 2
  have b3 := hB.cell 3
  have b4 := hB.cell 4
  have b5 := hB.cell 5
  have bz := hB.lt
  clear hcall hJ hB
  conv => arg 2; whnf
  go_wp2_with (go_at_call 18; go_loud (refine HC.out.mono ?_; rintro ee w2 ⟨rfl, hb⟩; have HB := Lib.hid hb; clear hb))
  exact HJ.out _ _ rfl ⟨rfl, rfl, rfl, rfl, rfl, rfl, rfl, rfl, trivial⟩ rfl rfl HB.out
set_option maxHeartbeats 8000000 in
set_option maxRecDepth 100000 in
theorem wh14 {s : ByteArray} {W : World} {J : Act → World → Prop} {Q : Exit → Act → World → Prop} (e : Nat → Value) (hs : s.size ≤ 32)
    (hJ : ∀ (m : List Value), m.length = 291 → (m[6]? = some (.string s) ∧ m[7]? = some (e 7) ∧ m[9]? = some (e 9) ∧ m[11]? = some (e 11) ∧ m[12]? = some (e 12) ∧ m[14]? = some (e 14) ∧ m[15]? = some (e 15) ∧ m[17]? = some (e 17) ∧ m[19]? = some (e 19) ∧ m[20]? = some (e 20) ∧ True) → m[21]? = some (.slice (some ⟨W.heap.size, 0, none⟩) 1 1) → J ⟨m.toArray, []⟩ (W.alloc (.cells #[.int .i64 s.size] 3))) :
    Code.wp Tryz.prog (whC [1, 1, 1, 1, 1, 1, 1, 1, 1, 1, 1, 0]) (Exit.then J Q) ⟨#[e 0, e 1, e 2, e 3, e 4, e 5, .string s, e 7, e 8, e 9, e 10, e 11, e 12, e 13, e 14, e 15, e 16, e 17, e 18, e 19, e 20, e 21, e 22, e 23, e 24, e 25, e 26, e 27, e 28, e 29, e 30, e 31, e 32, e 33, e 34, e 35, e 36, e 37, e 38, e 39, e 40, e 41, e 42, e 43, e 44, e 45, e 46, e 47, e 48, e 49, e 50, e 51, e 52, e 53, e 54, e 55, e 56, e 57, e 58, e 59, e 60, e 61, e 62, e 63, e 64, e 65, e 66, e 67, e 68, e 69, e 70, e 71, e 72, e 73, e 74, e 75, e 76, e 77, e 78, e 79, e 80, e 81, e 82, e 83, e 84, e 85, e 86, e 87, e 88, e 89, e 90, e 91, e 92, e 93, e 94, e 95, e 96, e 97, e 98, e 99, e 100, e 101, e 102, e 103, e 104, e 105, e 106, e 107, e 108, e 109, e 110, e 111, e 112, e 113, e 114, e 115, e 116, e 117, e 118, e 119, e 120, e 121, e 122, e 123, e 124, e 125, e 126, e 127, e 128, e 129, e 130, e 131, e 132, e 133, e 134, e 135, e 136, e 137, e 138, e 139, e 140, e 141, e 142, e 143, e 144, e 145, e 146, e 147, e 148, e 149, e 150, e 151, e 152, e 153, e 154, e 155, e 156, e 157, e 158, e 159, e 160, e 161, e 162, e 163, e 164, e 165, e 166, e 167, e 168, e 169, e 170, e 171, e 172, e 173, e 174, e 175, e 176, e 177, e 178, e 179, e 180, e 181, e 182, e 183, e 184, e 185, e 186, e 187, e 188, e 189, e 190, e 191, e 192, e 193, e 194, e 195, e 196, e 197, e 198, e 199, e 200, e 201, e 202, e 203, e 204, e 205, e 206, e 207, e 208, e 209, e 210, e 211, e 212, e 213, e 214, e 215, e 216, e 217, e 218, e 219, e 220, e 221, e 222, e 223, e 224, e 225, e 226, e 227, e 228, e 229, e 230, e 231, e 232, e 233, e 234, e 235, e 236, e 237, e 238, e 239, e 240, e 241, e 242, e 243, e 244, e 245, e 246, e 247, e 248, e 249, e 250, e 251, e 252, e 253, e 254, e 255, e 256, e 257, e 258, e 259, e 260, e 261, e 262, e 263, e 264, e 265, e 266, e 267, e 268, e 269, e 270, e 271, e 272, e 273, e 274, e 275, e 276, e 277, e 278, e 279, e 280, e 281, e 282, e 283, e 284, e 285, e 286, e 287, e 288, e 289, e 290], []⟩ W := by
  have HJ := Lib.hid hJ
  clear hJ
  have hsI : (s.size : Int) ≤ 32 := by omega
  conv => arg 2; whnf
  go_wp2_with fail
  exact HJ.out _ rfl ⟨rfl, rfl, rfl, rfl, rfl, rfl, rfl, rfl, rfl, rfl, trivial⟩ rfl
set_option maxHeartbeats 8000000 in
set_option maxRecDepth 100000 in
theorem wh19  {W : World} {J : Act → World → Prop} {Q : Exit → Act → World → Prop} (e : Nat → Value) 
    (hJ : ∀ (m : List Value), m.length = 291 → (m[6]? = some (e 6) ∧ m[7]? = some (e 7) ∧ m[9]? = some (e 9) ∧ m[11]? = some (e 11) ∧ m[12]? = some (e 12) ∧ m[14]? = some (e 14) ∧ m[15]? = some (e 15) ∧ m[17]? = some (e 17) ∧ m[19]? = some (e 19) ∧ m[20]? = some (e 20) ∧ m[21]? = some (e 21) ∧ True) → m[23]? = some (.int .i64 0) → J ⟨m.toArray, []⟩ W) :
    Code.wp Tryz.prog (whC [1, 1, 1, 1, 1, 1, 1, 1, 1, 1, 1, 1, 1, 0]) (Exit.then J Q) ⟨#[e 0, e 1, e 2, e 3, e 4, e 5, e 6, e 7, e 8, e 9, e 10, e 11, e 12, e 13, e 14, e 15, e 16, e 17, e 18, e 19, e 20, e 21, e 22, e 23, e 24, e 25, e 26, e 27, e 28, e 29, e 30, e 31, e 32, e 33, e 34, e 35, e 36, e 37, e 38, e 39, e 40, e 41, e 42, e 43, e 44, e 45, e 46, e 47, e 48, e 49, e 50, e 51, e 52, e 53, e 54, e 55, e 56, e 57, e 58, e 59, e 60, e 61, e 62, e 63, e 64, e 65, e 66, e 67, e 68, e 69, e 70, e 71, e 72, e 73, e 74, e 75, e 76, e 77, e 78, e 79, e 80, e 81, e 82, e 83, e 84, e 85, e 86, e 87, e 88, e 89, e 90, e 91, e 92, e 93, e 94, e 95, e 96, e 97, e 98, e 99, e 100, e 101, e 102, e 103, e 104, e 105, e 106, e 107, e 108, e 109, e 110, e 111, e 112, e 113, e 114, e 115, e 116, e 117, e 118, e 119, e 120, e 121, e 122, e 123, e 124, e 125, e 126, e 127, e 128, e 129, e 130, e 131, e 132, e 133, e 134, e 135, e 136, e 137, e 138, e 139, e 140, e 141, e 142, e 143, e 144, e 145, e 146, e 147, e 148, e 149, e 150, e 151, e 152, e 153, e 154, e 155, e 156, e 157, e 158, e 159, e 160, e 161, e 162, e 163, e 164, e 165, e 166, e 167, e 168, e 169, e 170, e 171, e 172, e 173, e 174, e 175, e 176, e 177, e 178, e 179, e 180, e 181, e 182, e 183, e 184, e 185, e 186, e 187, e 188, e 189, e 190, e 191, e 192, e 193, e 194, e 195, e 196, e 197, e 198, e 199, e 200, e 201, e 202, e 203, e 204, e 205, e 206, e 207, e 208, e 209, e 210, e 211, e 212, e 213, e 214, e 215, e 216, e 217, e 218, e 219, e 220, e 221, e 222, e 223, e 224, e 225, e 226, e 227, e 228, e 229, e 230, e 231, e 232, e 233, e 234, e 235, e 236, e 237, e 238, e 239, e 240, e 241, e 242, e 243, e 244, e 245, e 246, e 247, e 248, e 249, e 250, e 251, e 252, e 253, e 254, e 255, e 256, e 257, e 258, e 259, e 260, e 261, e 262, e 263, e 264, e 265, e 266, e 267, e 268, e 269, e 270, e 271, e 272, e 273, e 274, e 275, e 276, e 277, e 278, e 279, e 280, e 281, e 282, e 283, e 284, e 285, e 286, e 287, e 288, e 289, e 290], []⟩ W := by
  have HJ := Lib.hid hJ
  clear hJ
  conv => arg 2; whnf
  go_wp2_with fail
  exact HJ.out _ rfl ⟨rfl, rfl, rfl, rfl, rfl, rfl, rfl, rfl, rfl, rfl, rfl, trivial⟩ rfl
end Go.Proofs.YtnhjakdmbfadlaaGreatDoor

/- WaysWhole: the places of the string. -/
namespace Go.Proofs.YtnhjakdmbfadlaaGreatDoor
open Go.RowKit Wy Mem Grow

set_option maxHeartbeats 8000000 in
set_option maxRecDepth 100000 in
theorem wh15_in {ib B n c pos : Nat} {o : Option Addr} {s : ByteArray} {P : List Nat} {W : World} {J : Act → World → Prop} {Q : Exit → Act → World → Prop} (e : Nat → Value) (hp : pos < s.size) (hs : s.size ≤ 32) (hn : n = P.length) (hn33 : n ≤ 33) (hit : W.heap[ib]? = some (.stringIter s pos)) (hib : ib < W.heap.size) (hB : B ≤ W.heap.size) (hBi : B ≤ ib)
    (hown : W.ownsRow B 3 1 (.slice o n c) n (intCs P)) (hne : (Value.slice o n c).ownBlock ≠ some ib)
    (hJ : ∀ (m : List Value) (w' : World) (o' : Option Addr) (c' : Nat), m.length = 291 → (m[6]? = some (e 6) ∧ m[7]? = some (e 7) ∧ m[9]? = some (e 9) ∧ m[11]? = some (e 11) ∧ m[12]? = some (e 12) ∧ m[14]? = some (e 14) ∧ m[15]? = some (e 15) ∧ m[17]? = some (e 17) ∧ m[19]? = some (e 19) ∧ m[20]? = some (e 20)) → m[131]? = some (.pointer (some ⟨ib, 0, none⟩)) → m[21]? = some (.slice o' (n + 1) c') → w'.ownsRow B 3 1 (.slice o' (n + 1) c') (n + 1) (intCs (P ++ [pos])) → w'.heap[ib]? = some (.stringIter s (pos + (Utf8.decode s pos).2)) → (Value.slice o' (n + 1) c').ownBlock ≠ some ib → ib < w'.heap.size → Below B W w' → J ⟨m.toArray, []⟩ w') :
    Code.wp Tryz.prog (whC [1, 1, 1, 1, 1, 1, 1, 1, 1, 1, 1, 1, 0, 1, 0, 0]) (Exit.then J Q) ⟨#[e 0, e 1, e 2, e 3, e 4, e 5, e 6, e 7, e 8, e 9, e 10, e 11, e 12, e 13, e 14, e 15, e 16, e 17, e 18, e 19, e 20, .slice o n c, e 22, e 23, e 24, e 25, e 26, e 27, e 28, e 29, e 30, e 31, e 32, e 33, e 34, e 35, e 36, e 37, e 38, e 39, e 40, e 41, e 42, e 43, e 44, e 45, e 46, e 47, e 48, e 49, e 50, e 51, e 52, e 53, e 54, e 55, e 56, e 57, e 58, e 59, e 60, e 61, e 62, e 63, e 64, e 65, e 66, e 67, e 68, e 69, e 70, e 71, e 72, e 73, e 74, e 75, e 76, e 77, e 78, e 79, e 80, e 81, e 82, e 83, e 84, e 85, e 86, e 87, e 88, e 89, e 90, e 91, e 92, e 93, e 94, e 95, e 96, e 97, e 98, e 99, e 100, e 101, e 102, e 103, e 104, e 105, e 106, e 107, e 108, e 109, e 110, e 111, e 112, e 113, e 114, e 115, e 116, e 117, e 118, e 119, e 120, e 121, e 122, e 123, e 124, e 125, e 126, e 127, e 128, e 129, e 130, .pointer (some ⟨ib, 0, none⟩), e 132, e 133, e 134, e 135, e 136, e 137, e 138, e 139, e 140, e 141, e 142, e 143, e 144, e 145, e 146, e 147, e 148, e 149, e 150, e 151, e 152, e 153, e 154, e 155, e 156, e 157, e 158, e 159, e 160, e 161, e 162, e 163, e 164, e 165, e 166, e 167, e 168, e 169, e 170, e 171, e 172, e 173, e 174, e 175, e 176, e 177, e 178, e 179, e 180, e 181, e 182, e 183, e 184, e 185, e 186, e 187, e 188, e 189, e 190, e 191, e 192, e 193, e 194, e 195, e 196, e 197, e 198, e 199, e 200, e 201, e 202, e 203, e 204, e 205, e 206, e 207, e 208, e 209, e 210, e 211, e 212, e 213, e 214, e 215, e 216, e 217, e 218, e 219, e 220, e 221, e 222, e 223, e 224, e 225, e 226, e 227, e 228, e 229, e 230, e 231, e 232, e 233, e 234, e 235, e 236, e 237, e 238, e 239, e 240, e 241, e 242, e 243, e 244, e 245, e 246, e 247, e 248, e 249, e 250, e 251, e 252, e 253, e 254, e 255, e 256, e 257, e 258, e 259, e 260, e 261, e 262, e 263, e 264, e 265, e 266, e 267, e 268, e 269, e 270, e 271, e 272, e 273, e 274, e 275, e 276, e 277, e 278, e 279, e 280, e 281, e 282, e 283, e 284, e 285, e 286, e 287, e 288, e 289, e 290], []⟩ W := by
  obtain ⟨i0, hi0, hz0, hz1, hz2⟩ := info_parts info3
  have hnx : ∀ ty, (Instr.next (.pointer (some ⟨ib, 0, none⟩)) true ty).run Tryz.prog W = _ := fun ty => run_next_at ty hit hp
  have hpI : (pos : Int) ≤ 32 := by omega
  have k1 := iter_kept W ib s (pos + (Utf8.decode s pos).2)
  have hat := iter_at (w := W) s (pos + (Utf8.decode s pos).2) hib
  generalize iterW W ib s (pos + (Utf8.decode s pos).2) = W1 at hnx k1 hat
  have hr2 : (W1.alloc (.cells #[.int .i64 pos] 3)).ownsRow B 3 1 (.slice o n c) n (intCs P) := ownsRow_go hown (k1.alloc _) (fun g hg e => hne (by rw [hg, e]))
  have hib1 : ib < W1.heap.size := Nat.lt_of_lt_of_le hib k1.size
  have hbs : B ≤ (W1.alloc (.cells #[.int .i64 pos] 3)).heap.size := by have := k1.size; simp; omega
  have hsr : SrcAt (W1.alloc (.cells #[.int .i64 pos] 3)) (.slice (some ⟨W1.heap.size, 0, none⟩) 1 1) 1 [.int .i64 pos] := src_int rfl
  have hmx : n + 1 ≤ maxLen := by unfold maxLen; omega
  have hby : (n + 1) * 8 ≤ 140737488355328 := by omega
  have hfin : ∀ (v' : Value) w4, (W1.alloc (.cells #[.int .i64 pos] 3)).grownBy w4 (Value.slice o n c).ownBlock → (v'.ownBlock = (Value.slice o n c).ownBlock ∨ v'.ownBlock = some (W1.alloc (.cells #[.int .i64 pos] 3)).heap.size) → w4.heap[ib]? = some (.stringIter s (pos + (Utf8.decode s pos).2)) ∧ v'.ownBlock ≠ some ib ∧ ib < w4.heap.size ∧ Below B W w4 := by
    intro v' w4 hg ho
    have k4 := Kept.of_grown hg
    have hsz := k4.size
    have hsz1 : (W1.alloc (.cells #[.int .i64 pos] 3)).heap.size = W1.heap.size + 1 := by simp
    have hat1 : (W1.alloc (.cells #[.int .i64 pos] 3)).heap[ib]? = some (.stringIter s (pos + (Utf8.decode s pos).2)) := by
      rw [Below.heap_alloc _ _ _ hib1]
      exact hat
    refine ⟨(k4.block ib (by omega) hne).trans hat1, fun e => ?_, by omega, ?_⟩
    · rcases ho with ho | ho
      · exact hne (ho.symm.trans e)
      · rw [e] at ho
        simp only [Option.some.injEq] at ho
        omega
    · have hk1 : Below B W W1 := k1.belowOf hB (fun i hi e => by omega)
      exact (hk1.alloc (by have := k1.size; omega) _).grown hg (by omega) (fun q e => (hr2.lt q e).1)
  clear hn
  have HR2 := Lib.hid hr2
  have HBS := Lib.hid hbs
  have HSR := Lib.hid hsr
  have HFIN := Lib.hid hfin
  have HJ := Lib.hid hJ
  clear hJ hr2 hbs hsr hfin hown hne hit k1 hat
  conv => arg 2; whnf
  go_wp2_with (first | (at_builtin; go_loud (refine wpList_append_row rfl _ _ 48 rfl Tryz.underlying48 hi0 hz0 hz1 hz2 rfl (.slice o n c) n (intCs P) rfl HR2.out _ 1 _ rfl HSR.out rfl (by simp [Value.oneCell']) hmx hby HBS.out ?_; intro v' w4 hown' hgrow h3' h4'; obtain ⟨o', c', rfl⟩ := own_slice hown'; have HO := Lib.hid hown'; have HF := Lib.hid (HFIN.out _ w4 hgrow h3'); clear hown' hgrow h3' h4')))
  refine HJ.out _ _ _ _ rfl ⟨rfl, rfl, rfl, rfl, rfl, rfl, rfl, rfl, rfl, rfl⟩ rfl rfl ?_ HF.out.1 HF.out.2.1 HF.out.2.2.1 HF.out.2.2.2
  have := HO.out
  simpa [intCs] using this
set_option maxHeartbeats 8000000 in
set_option maxRecDepth 100000 in
theorem wh15_out {ib pos : Nat} {s : ByteArray} {W : World} {J : Act → World → Prop} {Q : Exit → Act → World → Prop} (e : Nat → Value) (hp : ¬ pos < s.size) (hit : W.heap[ib]? = some (.stringIter s pos))
    (hJ : ∀ (m : List Value), m.length = 291 → (m[6]? = some (e 6) ∧ m[7]? = some (e 7) ∧ m[9]? = some (e 9) ∧ m[11]? = some (e 11) ∧ m[12]? = some (e 12) ∧ m[14]? = some (e 14) ∧ m[15]? = some (e 15) ∧ m[17]? = some (e 17) ∧ m[19]? = some (e 19) ∧ m[20]? = some (e 20)) → m[21]? = some (e 21) → Q (.exit 0) ⟨m.toArray, []⟩ W) :
    Code.wp Tryz.prog (whC [1, 1, 1, 1, 1, 1, 1, 1, 1, 1, 1, 1, 0, 1, 0, 0]) (Exit.then J Q) ⟨#[e 0, e 1, e 2, e 3, e 4, e 5, e 6, e 7, e 8, e 9, e 10, e 11, e 12, e 13, e 14, e 15, e 16, e 17, e 18, e 19, e 20, e 21, e 22, e 23, e 24, e 25, e 26, e 27, e 28, e 29, e 30, e 31, e 32, e 33, e 34, e 35, e 36, e 37, e 38, e 39, e 40, e 41, e 42, e 43, e 44, e 45, e 46, e 47, e 48, e 49, e 50, e 51, e 52, e 53, e 54, e 55, e 56, e 57, e 58, e 59, e 60, e 61, e 62, e 63, e 64, e 65, e 66, e 67, e 68, e 69, e 70, e 71, e 72, e 73, e 74, e 75, e 76, e 77, e 78, e 79, e 80, e 81, e 82, e 83, e 84, e 85, e 86, e 87, e 88, e 89, e 90, e 91, e 92, e 93, e 94, e 95, e 96, e 97, e 98, e 99, e 100, e 101, e 102, e 103, e 104, e 105, e 106, e 107, e 108, e 109, e 110, e 111, e 112, e 113, e 114, e 115, e 116, e 117, e 118, e 119, e 120, e 121, e 122, e 123, e 124, e 125, e 126, e 127, e 128, e 129, e 130, .pointer (some ⟨ib, 0, none⟩), e 132, e 133, e 134, e 135, e 136, e 137, e 138, e 139, e 140, e 141, e 142, e 143, e 144, e 145, e 146, e 147, e 148, e 149, e 150, e 151, e 152, e 153, e 154, e 155, e 156, e 157, e 158, e 159, e 160, e 161, e 162, e 163, e 164, e 165, e 166, e 167, e 168, e 169, e 170, e 171, e 172, e 173, e 174, e 175, e 176, e 177, e 178, e 179, e 180, e 181, e 182, e 183, e 184, e 185, e 186, e 187, e 188, e 189, e 190, e 191, e 192, e 193, e 194, e 195, e 196, e 197, e 198, e 199, e 200, e 201, e 202, e 203, e 204, e 205, e 206, e 207, e 208, e 209, e 210, e 211, e 212, e 213, e 214, e 215, e 216, e 217, e 218, e 219, e 220, e 221, e 222, e 223, e 224, e 225, e 226, e 227, e 228, e 229, e 230, e 231, e 232, e 233, e 234, e 235, e 236, e 237, e 238, e 239, e 240, e 241, e 242, e 243, e 244, e 245, e 246, e 247, e 248, e 249, e 250, e 251, e 252, e 253, e 254, e 255, e 256, e 257, e 258, e 259, e 260, e 261, e 262, e 263, e 264, e 265, e 266, e 267, e 268, e 269, e 270, e 271, e 272, e 273, e 274, e 275, e 276, e 277, e 278, e 279, e 280, e 281, e 282, e 283, e 284, e 285, e 286, e 287, e 288, e 289, e 290], []⟩ W := by
  have hnx : ∀ ty, (Instr.next (.pointer (some ⟨ib, 0, none⟩)) true ty).run Tryz.prog W = _ := fun ty => run_next_last ty hit hp
  have HJ := Lib.hid hJ
  clear hJ hit
  conv => arg 2; whnf
  go_wp2_with fail
  exact HJ.out _ rfl ⟨rfl, rfl, rfl, rfl, rfl, rfl, rfl, rfl, rfl, rfl⟩ rfl
/-- the range over the string: its round's invariant -/
def Rgi (ib : Nat) (s : ByteArray) (q : Nat → Value) (W0 : World) (n : Nat) (a : Act) (w : World) : Prop := ∃ (m : List Value) (pos c : Nat) (o : Option Addr) (P : List Nat), a = ⟨m.toArray, []⟩ ∧ m.length = 291 ∧ (m[6]? = some (q 6) ∧ m[7]? = some (q 7) ∧ m[9]? = some (q 9) ∧ m[11]? = some (q 11) ∧ m[12]? = some (q 12) ∧ m[14]? = some (q 14) ∧ m[15]? = some (q 15) ∧ m[17]? = some (q 17) ∧ m[19]? = some (q 19) ∧ m[20]? = some (q 20)) ∧ m[131]? = some (.pointer (some ⟨ib, 0, none⟩)) ∧ m[21]? = some (.slice o P.length c) ∧
  w.ownsRow W0.heap.size 3 1 (.slice o P.length c) P.length (intCs P) ∧ w.heap[ib]? = some (.stringIter s pos) ∧ Pla s pos P ∧ (Value.slice o P.length c).ownBlock ≠ some ib ∧ ib < w.heap.size ∧ n = s.size - pos ∧ W0.heap.size ≤ ib ∧ Below W0.heap.size W0 w
/-- what the range leaves behind -/
def Places (s : ByteArray) (P : List Nat) : Prop := 0 ∈ P ∧ s.size ∈ P ∧ P.length ≤ 33 ∧ ∀ p, p ∈ P → 0 < ((strS s).dec p).2 → p + ((strS s).dec p).2 ∈ P
set_option maxRecDepth 100000 in
theorem wh15_loop {ib n : Nat} {s : ByteArray} {q : Nat → Value} {W0 w : World} {a : Act} {Q : Exit → Act → World → Prop} (hI : Rgi ib s q W0 n a w) (hs : s.size ≤ 32)
    (hQ : ∀ (m : List Value) (w' : World) (o : Option Addr) (c : Nat) (P : List Nat), m.length = 291 → (m[6]? = some (q 6) ∧ m[7]? = some (q 7) ∧ m[9]? = some (q 9) ∧ m[11]? = some (q 11) ∧ m[12]? = some (q 12) ∧ m[14]? = some (q 14) ∧ m[15]? = some (q 15) ∧ m[17]? = some (q 17) ∧ m[19]? = some (q 19) ∧ m[20]? = some (q 20)) → m[21]? = some (.slice o P.length c) → w'.ownsRow W0.heap.size 3 1 (.slice o P.length c) P.length (intCs P) → Places s P → Below W0.heap.size W0 w' → Q (.exit 0) ⟨m.toArray, []⟩ w') :
    Code.wp Tryz.prog (whC [1, 1, 1, 1, 1, 1, 1, 1, 1, 1, 1, 1, 0, 1, 0, 0]) (Exit.then (fun a' w' => ∃ n', n' < n ∧ Rgi ib s q W0 n' a' w') Q) a w := by
  obtain ⟨m, pos, c, o, P, rfl, hm, hkq, h131, h21, hown, hit, hpla, hne, hib, hn, hBi, hb⟩ := hI
  obtain ⟨e, rfl⟩ := frame291 hm
  obtain ⟨g6, g7, g9, g11, g12, g14, g15, g17, g19, g20⟩ := hkq
  have g6 : e 6 = q 6 := Option.some.inj g6
  have g7 : e 7 = q 7 := Option.some.inj g7
  have g9 : e 9 = q 9 := Option.some.inj g9
  have g11 : e 11 = q 11 := Option.some.inj g11
  have g12 : e 12 = q 12 := Option.some.inj g12
  have g14 : e 14 = q 14 := Option.some.inj g14
  have g15 : e 15 = q 15 := Option.some.inj g15
  have g17 : e 17 = q 17 := Option.some.inj g17
  have g19 : e 19 = q 19 := Option.some.inj g19
  have g20 : e 20 = q 20 := Option.some.inj g20
  have h131 : e 131 = _ := Option.some.inj h131
  have h21 : e 21 = _ := Option.some.inj h21
  have hkk : ∀ {m : List Value}, (m[6]? = some (e 6) ∧ m[7]? = some (e 7) ∧ m[9]? = some (e 9) ∧ m[11]? = some (e 11) ∧ m[12]? = some (e 12) ∧ m[14]? = some (e 14) ∧ m[15]? = some (e 15) ∧ m[17]? = some (e 17) ∧ m[19]? = some (e 19) ∧ m[20]? = some (e 20)) → (m[6]? = some (q 6) ∧ m[7]? = some (q 7) ∧ m[9]? = some (q 9) ∧ m[11]? = some (q 11) ∧ m[12]? = some (q 12) ∧ m[14]? = some (q 14) ∧ m[15]? = some (q 15) ∧ m[17]? = some (q 17) ∧ m[19]? = some (q 19) ∧ m[20]? = some (q 20)) := fun h => by rw [g6, g7, g9, g11, g12, g14, g15, g17, g19, g20] at h; exact h
  rw [h131]
  by_cases hp : ¬ pos < s.size
  · obtain ⟨d0, d1⟩ := hpla.done hp
    exact wh15_out e hp hit (fun m k0 k1 k2 => hQ m w o c P k0 (hkk k1) (k2.trans (congrArg some h21)) hown ⟨d0, hpla.last, by have := hpla.len; have := hpla.le; omega, d1⟩ hb)
  · have hp : pos < s.size := by omega
    rw [h21]
    have hw := dec_width s pos hp
    have hlen : (P ++ [pos]).length = P.length + 1 := by simp
    refine wh15_in e hp hs rfl (by have := hpla.len; have := hpla.le; omega) hit hib hb.size hBi hown hne (fun m w' o' c' k0 k1 k2 k3 k4 k5 k6 k7 k8 => ?_)
    exact ⟨s.size - (pos + (Utf8.decode s pos).2), by omega, m, _, c', o', P ++ [pos], rfl, k0, hkk k1, k2, by rw [hlen]; exact k3, by rw [hlen]; exact k4, k5, hpla.more hp, by rw [hlen]; exact k6, k7, rfl, hBi, hb.trans k8⟩
set_option maxHeartbeats 8000000 in
set_option maxRecDepth 100000 in
theorem wh15 {s : ByteArray} {o : Option Addr} {c : Nat} {W0 : World} {W : World} {J : Act → World → Prop} {Q : Exit → Act → World → Prop} (e : Nat → Value) (hs : s.size ≤ 32) (hown : W.ownsRow W0.heap.size 3 1 (.slice o 1 c) 1 (intCs [s.size])) (hb : Below W0.heap.size W0 W)
    (hJ : ∀ (m : List Value) (w' : World) (o : Option Addr) (c : Nat) (P : List Nat), m.length = 291 → (m[6]? = some (.string s) ∧ m[7]? = some (e 7) ∧ m[9]? = some (e 9) ∧ m[11]? = some (e 11) ∧ m[12]? = some (e 12) ∧ m[14]? = some (e 14) ∧ m[15]? = some (e 15) ∧ m[17]? = some (e 17) ∧ m[19]? = some (e 19) ∧ m[20]? = some (e 20)) → m[21]? = some (.slice o P.length c) → w'.ownsRow W0.heap.size 3 1 (.slice o P.length c) P.length (intCs P) → Places s P → Below W0.heap.size W0 w' → J ⟨m.toArray, []⟩ w') :
    Code.wp Tryz.prog (whC [1, 1, 1, 1, 1, 1, 1, 1, 1, 1, 1, 1, 0]) (Exit.then J Q) ⟨#[e 0, e 1, e 2, e 3, e 4, e 5, .string s, e 7, e 8, e 9, e 10, e 11, e 12, e 13, e 14, e 15, e 16, e 17, e 18, e 19, e 20, .slice o 1 c, e 22, e 23, e 24, e 25, e 26, e 27, e 28, e 29, e 30, e 31, e 32, e 33, e 34, e 35, e 36, e 37, e 38, e 39, e 40, e 41, e 42, e 43, e 44, e 45, e 46, e 47, e 48, e 49, e 50, e 51, e 52, e 53, e 54, e 55, e 56, e 57, e 58, e 59, e 60, e 61, e 62, e 63, e 64, e 65, e 66, e 67, e 68, e 69, e 70, e 71, e 72, e 73, e 74, e 75, e 76, e 77, e 78, e 79, e 80, e 81, e 82, e 83, e 84, e 85, e 86, e 87, e 88, e 89, e 90, e 91, e 92, e 93, e 94, e 95, e 96, e 97, e 98, e 99, e 100, e 101, e 102, e 103, e 104, e 105, e 106, e 107, e 108, e 109, e 110, e 111, e 112, e 113, e 114, e 115, e 116, e 117, e 118, e 119, e 120, e 121, e 122, e 123, e 124, e 125, e 126, e 127, e 128, e 129, e 130, e 131, e 132, e 133, e 134, e 135, e 136, e 137, e 138, e 139, e 140, e 141, e 142, e 143, e 144, e 145, e 146, e 147, e 148, e 149, e 150, e 151, e 152, e 153, e 154, e 155, e 156, e 157, e 158, e 159, e 160, e 161, e 162, e 163, e 164, e 165, e 166, e 167, e 168, e 169, e 170, e 171, e 172, e 173, e 174, e 175, e 176, e 177, e 178, e 179, e 180, e 181, e 182, e 183, e 184, e 185, e 186, e 187, e 188, e 189, e 190, e 191, e 192, e 193, e 194, e 195, e 196, e 197, e 198, e 199, e 200, e 201, e 202, e 203, e 204, e 205, e 206, e 207, e 208, e 209, e 210, e 211, e 212, e 213, e 214, e 215, e 216, e 217, e 218, e 219, e 220, e 221, e 222, e 223, e 224, e 225, e 226, e 227, e 228, e 229, e 230, e 231, e 232, e 233, e 234, e 235, e 236, e 237, e 238, e 239, e 240, e 241, e 242, e 243, e 244, e 245, e 246, e 247, e 248, e 249, e 250, e 251, e 252, e 253, e 254, e 255, e 256, e 257, e 258, e 259, e 260, e 261, e 262, e 263, e 264, e 265, e 266, e 267, e 268, e 269, e 270, e 271, e 272, e 273, e 274, e 275, e 276, e 277, e 278, e 279, e 280, e 281, e 282, e 283, e 284, e 285, e 286, e 287, e 288, e 289, e 290], []⟩ W := by
  have HJ := Lib.hid hJ
  have H := Lib.hid (show _ ∧ _ from ⟨hown, hb⟩)
  clear hJ hown hb
  conv => arg 2; whnf
  go_wp2_with fail
  have hat : (W.iter s 0).heap[W.heap.size]? = some (.stringIter s 0) := World.iter_heap W s 0
  have hk : Kept (fun _ => False) W (W.iter s 0) := (Kept.refl _ W).alloc _
  have hz : W.heap.size < (W.iter s 0).heap.size := by unfold World.iter; simp
  generalize W.iter s 0 = W1 at hat hk hz ⊢
  obtain ⟨hown, hb⟩ := H.out
  have hlt := fun g hg => (hown.lt g hg).2
  have hne : (Value.slice o 1 c).ownBlock ≠ some W.heap.size := fun h => by have := hlt _ h; omega
  refine wp_loop_ghost (Rgi W.heap.size s (fun k => if k = 6 then .string s else e k) W0) (s.size - 0) ?_ (fun n a w' hI => wh15_loop hI hs ?_)
  · exact ⟨_, 0, c, o, [s.size], rfl, rfl, ⟨rfl, rfl, rfl, rfl, rfl, rfl, rfl, rfl, rfl, rfl⟩, rfl, rfl, ownsRow_go hown hk (fun _ _ => id), hat, Pla.start s, hne, hz, rfl, hb.size, hb.trans ((Kept.mono hk (fun _ _ h => h.elim)).belowOf (X := fun _ => False) hb.size (fun _ _ => id))⟩
  · intro m w2 o' c' P k0 k1 k2 k3 k4 k5
    exact HJ.out m w2 o' c' P k0 k1 k2 k3 k4 k5
end Go.Proofs.YtnhjakdmbfadlaaGreatDoor
