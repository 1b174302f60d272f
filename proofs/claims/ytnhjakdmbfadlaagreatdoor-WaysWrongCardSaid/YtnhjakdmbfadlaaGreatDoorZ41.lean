/- Parts of the proof: Wa. Conditions: none. -/
import Derived.Test.YtnhjakdmbfadlaaGreatDoorZ40
import Derived.Test.YtnhjakdmbfadlaaGreatDoorZ07
import Derived.Test.YtnhjakdmbfadlaaGreatDoorZ09
import Derived.Test.YtnhjakdmbfadlaaGreatDoorZ39
set_option linter.all false
/- WaysWrong: its pieces. -/
namespace Go.Proofs.YtnhjakdmbfadlaaGreatDoor
open Go.RowKit Wy Mem Grow

noncomputable def wrC (p : List Nat) : Code := pieceC (way p) (Tryz.f5.body.getD .skip)
theorem frame157 {l : List Value} (h : l.length = 157) : ∃ e : Nat → Value, l = [e 0, e 1, e 2, e 3, e 4, e 5, e 6, e 7, e 8, e 9, e 10, e 11, e 12, e 13, e 14, e 15, e 16, e 17, e 18, e 19, e 20, e 21, e 22, e 23, e 24, e 25, e 26, e 27, e 28, e 29, e 30, e 31, e 32, e 33, e 34, e 35, e 36, e 37, e 38, e 39, e 40, e 41, e 42, e 43, e 44, e 45, e 46, e 47, e 48, e 49, e 50, e 51, e 52, e 53, e 54, e 55, e 56, e 57, e 58, e 59, e 60, e 61, e 62, e 63, e 64, e 65, e 66, e 67, e 68, e 69, e 70, e 71, e 72, e 73, e 74, e 75, e 76, e 77, e 78, e 79, e 80, e 81, e 82, e 83, e 84, e 85, e 86, e 87, e 88, e 89, e 90, e 91, e 92, e 93, e 94, e 95, e 96, e 97, e 98, e 99, e 100, e 101, e 102, e 103, e 104, e 105, e 106, e 107, e 108, e 109, e 110, e 111, e 112, e 113, e 114, e 115, e 116, e 117, e 118, e 119, e 120, e 121, e 122, e 123, e 124, e 125, e 126, e 127, e 128, e 129, e 130, e 131, e 132, e 133, e 134, e 135, e 136, e 137, e 138, e 139, e 140, e 141, e 142, e 143, e 144, e 145, e 146, e 147, e 148, e 149, e 150, e 151, e 152, e 153, e 154, e 155, e 156] := by
  refine ⟨fun k => l.getD k undef, ?_⟩
  have h2 : l = (List.range 157).map fun k => l.getD k undef := by
    apply List.ext_getElem
    · simp [h]
    · intro i h1 h2
      simp [List.getD_eq_getElem?_getD, h1]
  exact h2
def digB : ByteArray := ⟨#[49, 50, 51, 52, 53, 54, 55, 56, 57, 48, 49, 50, 51, 52, 53, 54, 55, 56, 57, 48, 49, 50, 51, 52, 53, 54, 55, 56, 57, 48, 49, 50, 51]⟩
def ffB : ByteArray := ⟨#[255]⟩
def c3B : ByteArray := ⟨#[195]⟩
/-- what Made makes: its node's cells -/
def Mdw (x : Nd) (w : World) (e : Ending) (w' : World) : Prop := ∃ (k lo hi : Int) (lz : Bool) (p1 p2 : Option Addr) (n1 d1 n2 d2 : Nat), e = .returned (.agg #[.int .u8 k, .slice p1 n1 d1, .int .i64 lo, .int .i64 hi, .bool lz, .slice p2 n2 d2]) ∧ NdAt (fun _ => True) w' x [.int .u8 k, .slice p1 n1 d1, .int .i64 lo, .int .i64 hi, .bool lz, .slice p2 n2 d2] ∧ Below w.heap.size w w'
set_option maxHeartbeats 8000000 in
set_option maxRecDepth 100000 in
theorem wr3 {va vb : Value} {s : ByteArray} {x : Nd} {W : World} {J : Act → World → Prop} {Q : Exit → Act → World → Prop} (e : Nat → Value)
    (hmx : Calls Tryz.prog 9 #[va] W (Mdw x W))
    (htx : ∀ w', Below W.heap.size W w' → Calls Tryz.prog 12 #[vb, .int .i64 8] w' (fun e w'' => e = .returned (.string s) ∧ Below w'.heap.size w' w''))
    (hJ : ∀ (m : List Value) (w' : World) (b : Nat) (xs : List Value), m.length = 157 → m[2]? = some (e 2) → m[7]? = some (.pointer (some ⟨b, 0, none⟩)) → m[8]? = some (.string s) → Blk w' b xs.toArray 27 → NdAt (fun _ => True) w' x xs → Below W.heap.size W w' → J ⟨m.toArray, []⟩ w') :
    Code.wp Tryz.prog (wrC [1, 1, 0]) (Exit.then J Q) ⟨#[va, vb, e 2, e 3, e 4, e 5, e 6, e 7, e 8, e 9, e 10, e 11, e 12, e 13, e 14, e 15, e 16, e 17, e 18, e 19, e 20, e 21, e 22, e 23, e 24, e 25, e 26, e 27, e 28, e 29, e 30, e 31, e 32, e 33, e 34, e 35, e 36, e 37, e 38, e 39, e 40, e 41, e 42, e 43, e 44, e 45, e 46, e 47, e 48, e 49, e 50, e 51, e 52, e 53, e 54, e 55, e 56, e 57, e 58, e 59, e 60, e 61, e 62, e 63, e 64, e 65, e 66, e 67, e 68, e 69, e 70, e 71, e 72, e 73, e 74, e 75, e 76, e 77, e 78, e 79, e 80, e 81, e 82, e 83, e 84, e 85, e 86, e 87, e 88, e 89, e 90, e 91, e 92, e 93, e 94, e 95, e 96, e 97, e 98, e 99, e 100, e 101, e 102, e 103, e 104, e 105, e 106, e 107, e 108, e 109, e 110, e 111, e 112, e 113, e 114, e 115, e 116, e 117, e 118, e 119, e 120, e 121, e 122, e 123, e 124, e 125, e 126, e 127, e 128, e 129, e 130, e 131, e 132, e 133, e 134, e 135, e 136, e 137, e 138, e 139, e 140, e 141, e 142, e 143, e 144, e 145, e 146, e 147, e 148, e 149, e 150, e 151, e 152, e 153, e 154, e 155, e 156], []⟩ W := by
  have HX := Lib.hid hmx
  have HT := Lib.hid htx
  have HJ := Lib.hid hJ
  clear hmx htx hJ
  conv => arg 2; whnf
  go_wp2_with (first
    | (go_at_call 9; go_loud (refine HX.out.mono ?_; rintro ee w2 ⟨k, lo, hi, lz, p1, p2, n1, d1, n2, d2, rfl, hn, hb⟩; have HN := Lib.hid hn; have HB := Lib.hid hb; clear hn hb))
    | (go_at_call 12; go_loud (refine (HT.out _ HB.out).mono ?_; rintro ee w3 ⟨rfl, hb⟩; have HB3 := Lib.hid hb; clear hb)))
  have hz := HB.out.size
  have hz3 := HB3.out.size
  refine HJ.out _ _ _ [.int .u8 k, .slice p1 n1 d1, .int .i64 lo, .int .i64 hi, .bool lz, .slice p2 n2 d2] rfl rfl rfl rfl (Blk.new _ _ _) ?_ ((HB.out.trans (HB3.out.mono hz)).alloc (by omega) _)
  exact NdAt.go ((Kept.of_below HB3.out (fun _ => False)).alloc _) (fun q hq _ => ⟨id, trivial⟩) HN.out
set_option maxHeartbeats 8000000 in
set_option maxRecDepth 100000 in
theorem wr4 {xb : Nat} {z : Int} {k lo hi : Int} {lz : Bool} {p1 p2 : Option Addr} {n1 d1 n2 d2 : Nat} {W : World} {J : Act → World → Prop} {Q : Exit → Act → World → Prop} (e : Nat → Value) (hz : I64 z) (hB : Blk W xb #[.int .u8 k, .slice p1 n1 d1, .int .i64 lo, .int .i64 hi, .bool lz, .slice p2 n2 d2] 27)
    (hJ : ∀ (m : List Value), m.length = 157 → m[7]? = some (.pointer (some ⟨xb, 0, none⟩)) → m[8]? = some (e 8) → m[9]? = some (.pointer (some ⟨W.heap.size + 1, 0, none⟩)) → J ⟨m.toArray, []⟩ ((W.alloc (.cells #[.int .u8 k, .slice p1 n1 d1, .int .i64 lo, .int .i64 hi, .bool lz, .slice p2 n2 d2] 27)).alloc (.cells #[.int .u8 5, .slice none 0 0, .int .i64 (max z 2), .int .i64 1, .bool false, .slice (some ⟨W.heap.size, 0, none⟩) 1 1] 27))) :
    Code.wp Tryz.prog (wrC [1, 1, 1, 0]) (Exit.then J Q) ⟨#[e 0, e 1, .int .i64 z, e 3, e 4, e 5, e 6, .pointer (some ⟨xb, 0, none⟩), e 8, e 9, e 10, e 11, e 12, e 13, e 14, e 15, e 16, e 17, e 18, e 19, e 20, e 21, e 22, e 23, e 24, e 25, e 26, e 27, e 28, e 29, e 30, e 31, e 32, e 33, e 34, e 35, e 36, e 37, e 38, e 39, e 40, e 41, e 42, e 43, e 44, e 45, e 46, e 47, e 48, e 49, e 50, e 51, e 52, e 53, e 54, e 55, e 56, e 57, e 58, e 59, e 60, e 61, e 62, e 63, e 64, e 65, e 66, e 67, e 68, e 69, e 70, e 71, e 72, e 73, e 74, e 75, e 76, e 77, e 78, e 79, e 80, e 81, e 82, e 83, e 84, e 85, e 86, e 87, e 88, e 89, e 90, e 91, e 92, e 93, e 94, e 95, e 96, e 97, e 98, e 99, e 100, e 101, e 102, e 103, e 104, e 105, e 106, e 107, e 108, e 109, e 110, e 111, e 112, e 113, e 114, e 115, e 116, e 117, e 118, e 119, e 120, e 121, e 122, e 123, e 124, e 125, e 126, e 127, e 128, e 129, e 130, e 131, e 132, e 133, e 134, e 135, e 136, e 137, e 138, e 139, e 140, e 141, e 142, e 143, e 144, e 145, e 146, e 147, e 148, e 149, e 150, e 151, e 152, e 153, e 154, e 155, e 156], []⟩ W := by
  have HJ := Lib.hid hJ
  have b0 := hB.cell 0
  have b1 := hB.cell 1
  have b2 := hB.cell 2
  have b3 := hB.cell 3
  have b4 := hB.cell 4
  have b5 := hB.cell 5
  have bz := hB.lt
  clear hJ hB
  obtain ⟨hz1, hz2⟩ := hz
  conv => arg 2; whnf
  go_wp2_with fail
  exact HJ.out _ rfl rfl rfl rfl
set_option maxHeartbeats 8000000 in
set_option maxRecDepth 100000 in
theorem wr5 {s : ByteArray} {W : World} {J : Act → World → Prop} {Q : Exit → Act → World → Prop} (e : Nat → Value) (hs : s.size ≤ 24)
    (hJ : ∀ (m : List Value), m.length = 157 → m[7]? = some (e 7) → m[8]? = some (.string s) → m[9]? = some (e 9) → m[10]? = some (.string (s ++ digB)) → J ⟨m.toArray, []⟩ W) :
    Code.wp Tryz.prog (wrC [1, 1, 1, 1, 0]) (Exit.then J Q) ⟨#[e 0, e 1, e 2, e 3, e 4, e 5, e 6, e 7, .string s, e 9, e 10, e 11, e 12, e 13, e 14, e 15, e 16, e 17, e 18, e 19, e 20, e 21, e 22, e 23, e 24, e 25, e 26, e 27, e 28, e 29, e 30, e 31, e 32, e 33, e 34, e 35, e 36, e 37, e 38, e 39, e 40, e 41, e 42, e 43, e 44, e 45, e 46, e 47, e 48, e 49, e 50, e 51, e 52, e 53, e 54, e 55, e 56, e 57, e 58, e 59, e 60, e 61, e 62, e 63, e 64, e 65, e 66, e 67, e 68, e 69, e 70, e 71, e 72, e 73, e 74, e 75, e 76, e 77, e 78, e 79, e 80, e 81, e 82, e 83, e 84, e 85, e 86, e 87, e 88, e 89, e 90, e 91, e 92, e 93, e 94, e 95, e 96, e 97, e 98, e 99, e 100, e 101, e 102, e 103, e 104, e 105, e 106, e 107, e 108, e 109, e 110, e 111, e 112, e 113, e 114, e 115, e 116, e 117, e 118, e 119, e 120, e 121, e 122, e 123, e 124, e 125, e 126, e 127, e 128, e 129, e 130, e 131, e 132, e 133, e 134, e 135, e 136, e 137, e 138, e 139, e 140, e 141, e 142, e 143, e 144, e 145, e 146, e 147, e 148, e 149, e 150, e 151, e 152, e 153, e 154, e 155, e 156], []⟩ W := by
  have HJ := Lib.hid hJ
  clear hJ
  conv => arg 2; whnf
  go_wp2_with fail
  exact HJ.out _ rfl rfl rfl rfl rfl
set_option maxHeartbeats 8000000 in
set_option maxRecDepth 100000 in
theorem wr6 {xb bb : Nat} {s lg : ByteArray} {k lo hi : Int} {lz : Bool} {p1 p2 : Option Addr} {n1 d1 n2 d2 : Nat} {kb lob hib : Int} {lzb : Bool} {pb1 pb2 : Option Addr} {nb1 db1 nb2 db2 : Nat} {W : World} {J : Act → World → Prop} {Q : Exit → Act → World → Prop} (e : Nat → Value) (hs : s.size ≤ 24) (hl : lg.size ≤ 57) (hB : Blk W xb #[.int .u8 k, .slice p1 n1 d1, .int .i64 lo, .int .i64 hi, .bool lz, .slice p2 n2 d2] 27) (hC : Blk W bb #[.int .u8 kb, .slice pb1 nb1 db1, .int .i64 lob, .int .i64 hib, .bool lzb, .slice pb2 nb2 db2] 27)
    (hJ : ∀ (m : List Value), m.length = 157 → m[54]? = some (.slice (some ⟨W.heap.size, 0, none⟩) 4 4) → m[55]? = some (.int .i64 4) → m[56]? = some (.int .i64 0) → J ⟨m.toArray, []⟩ (W.alloc (.cells #[.int .u8 kb, .slice pb1 nb1 db1, .int .i64 lob, .int .i64 hib, .bool lzb, .slice pb2 nb2 db2, .string (lg ++ ffB), .int .i64 73, .int .u8 k, .slice p1 n1 d1, .int .i64 lo, .int .i64 hi, .bool lz, .slice p2 n2 d2, .string (lg ++ ffB), .int .i64 3, .int .u8 k, .slice p1 n1 d1, .int .i64 lo, .int .i64 hi, .bool lz, .slice p2 n2 d2, .string (s ++ ffB), .int .i64 80, .int .u8 k, .slice p1 n1 d1, .int .i64 lo, .int .i64 hi, .bool lz, .slice p2 n2 d2, .string (c3B ++ s), .int .i64 80] 36))) :
    Code.wp Tryz.prog (wrC [1, 1, 1, 1, 1, 0, 0]) (Exit.then J Q) ⟨#[e 0, e 1, e 2, e 3, e 4, e 5, e 6, .pointer (some ⟨xb, 0, none⟩), .string s, .pointer (some ⟨bb, 0, none⟩), .string lg, e 11, e 12, e 13, e 14, e 15, e 16, e 17, e 18, e 19, e 20, e 21, e 22, e 23, e 24, e 25, e 26, e 27, e 28, e 29, e 30, e 31, e 32, e 33, e 34, e 35, e 36, e 37, e 38, e 39, e 40, e 41, e 42, e 43, e 44, e 45, e 46, e 47, e 48, e 49, e 50, e 51, e 52, e 53, e 54, e 55, e 56, e 57, e 58, e 59, e 60, e 61, e 62, e 63, e 64, e 65, e 66, e 67, e 68, e 69, e 70, e 71, e 72, e 73, e 74, e 75, e 76, e 77, e 78, e 79, e 80, e 81, e 82, e 83, e 84, e 85, e 86, e 87, e 88, e 89, e 90, e 91, e 92, e 93, e 94, e 95, e 96, e 97, e 98, e 99, e 100, e 101, e 102, e 103, e 104, e 105, e 106, e 107, e 108, e 109, e 110, e 111, e 112, e 113, e 114, e 115, e 116, e 117, e 118, e 119, e 120, e 121, e 122, e 123, e 124, e 125, e 126, e 127, e 128, e 129, e 130, e 131, e 132, e 133, e 134, e 135, e 136, e 137, e 138, e 139, e 140, e 141, e 142, e 143, e 144, e 145, e 146, e 147, e 148, e 149, e 150, e 151, e 152, e 153, e 154, e 155, e 156], []⟩ W := by
  have HJ := Lib.hid hJ
  have b0 := hB.cell 0
  have b1 := hB.cell 1
  have b2 := hB.cell 2
  have b3 := hB.cell 3
  have b4 := hB.cell 4
  have b5 := hB.cell 5
  have bz := hB.lt
  have c0 := hC.cell 0
  have c1 := hC.cell 1
  have c2 := hC.cell 2
  have c3 := hC.cell 3
  have c4 := hC.cell 4
  have c5 := hC.cell 5
  have cz := hC.lt
  clear hJ hB hC
  conv => arg 2; whnf
  go_wp2_with fail
  exact HJ.out _ rfl rfl rfl rfl
theorem Blk.eight {w : World} {b : Nat} {v0 v1 v2 v3 v4 v5 v6 v7 : Value} {t : TypeId} (h : Blk w b #[v0, v1, v2, v3, v4, v5, v6, v7] t) : w.cell? ⟨b, 0, none⟩ = some v0 ∧ w.cell? ⟨b, 1, none⟩ = some v1 ∧ w.cell? ⟨b, 2, none⟩ = some v2 ∧ w.cell? ⟨b, 3, none⟩ = some v3 ∧ w.cell? ⟨b, 4, none⟩ = some v4 ∧ w.cell? ⟨b, 5, none⟩ = some v5 ∧ w.cell? ⟨b, 6, none⟩ = some v6 ∧ w.cell? ⟨b, 7, none⟩ = some v7 ∧ b < w.heap.size :=
  ⟨h.cell 0, h.cell 1, h.cell 2, h.cell 3, h.cell 4, h.cell 5, h.cell 6, h.cell 7, h.lt⟩
set_option maxHeartbeats 8000000 in
set_option maxRecDepth 100000 in
theorem wr_round {q j : Nat} {s : ByteArray} {er : Int} {k lo hi : Int} {lz : Bool} {p1 p2 : Option Addr} {n1 d1 n2 d2 : Nat} {W : World} {J : Act → World → Prop} {Q : Exit → Act → World → Prop} (e : Nat → Value) (hj : j < 4) (hz : q < W.heap.size)
    (h0 : W.cell? ⟨q, j * 8, none⟩ = some (.int .u8 k)) (h1 : W.cell? ⟨q, j * 8 + 1, none⟩ = some (.slice p1 n1 d1)) (h2 : W.cell? ⟨q, j * 8 + 2, none⟩ = some (.int .i64 lo)) (h3 : W.cell? ⟨q, j * 8 + 3, none⟩ = some (.int .i64 hi)) (h4 : W.cell? ⟨q, j * 8 + 4, none⟩ = some (.bool lz)) (h5 : W.cell? ⟨q, j * 8 + 5, none⟩ = some (.slice p2 n2 d2)) (h6 : W.cell? ⟨q, j * 8 + 6, none⟩ = some (.string s)) (h7 : W.cell? ⟨q, j * 8 + 7, none⟩ = some (.int .i64 er))
    (hbad : AllBad er s [.int .u8 k, .slice p1 n1 d1, .int .i64 lo, .int .i64 hi, .bool lz, .slice p2 n2 d2] W)
    (hJ : ∀ (m : List Value) (w' : World), m.length = 157 → m[54]? = some (.slice (some ⟨q, 0, none⟩) 4 4) → m[55]? = some (.int .i64 4) → m[56]? = some (.int .i64 (j + 1)) → Below W.heap.size W w' → J ⟨m.toArray, []⟩ w') :
    Code.wp Tryz.prog (wrC [1, 1, 1, 1, 1, 0, 1, 0, 0]) (Exit.then J Q) ⟨#[e 0, e 1, e 2, e 3, e 4, e 5, e 6, e 7, e 8, e 9, e 10, e 11, e 12, e 13, e 14, e 15, e 16, e 17, e 18, e 19, e 20, e 21, e 22, e 23, e 24, e 25, e 26, e 27, e 28, e 29, e 30, e 31, e 32, e 33, e 34, e 35, e 36, e 37, e 38, e 39, e 40, e 41, e 42, e 43, e 44, e 45, e 46, e 47, e 48, e 49, e 50, e 51, e 52, e 53, .slice (some ⟨q, 0, none⟩) 4 4, .int .i64 4, .int .i64 j, e 57, e 58, e 59, e 60, e 61, e 62, e 63, e 64, e 65, e 66, e 67, e 68, e 69, e 70, e 71, e 72, e 73, e 74, e 75, e 76, e 77, e 78, e 79, e 80, e 81, e 82, e 83, e 84, e 85, e 86, e 87, e 88, e 89, e 90, e 91, e 92, e 93, e 94, e 95, e 96, e 97, e 98, e 99, e 100, e 101, e 102, e 103, e 104, e 105, e 106, e 107, e 108, e 109, e 110, e 111, e 112, e 113, e 114, e 115, e 116, e 117, e 118, e 119, e 120, e 121, e 122, e 123, e 124, e 125, e 126, e 127, e 128, e 129, e 130, e 131, e 132, e 133, e 134, e 135, e 136, e 137, e 138, e 139, e 140, e 141, e 142, e 143, e 144, e 145, e 146, e 147, e 148, e 149, e 150, e 151, e 152, e 153, e 154, e 155, e 156], []⟩ W := by
  have hjI : (j : Int) < 4 := by omega
  have HBAD := Lib.hid hbad
  have HJ := Lib.hid hJ
  clear hbad hJ
  conv => arg 2; whnf
  go_upto_region 9 with fail
  have hA : Blk (W.alloc (.cells #[.int .u8 k, .slice p1 n1 d1, .int .i64 lo, .int .i64 hi, .bool lz, .slice p2 n2 d2, .string s, .int .i64 er] 36)) W.heap.size #[.int .u8 k, .slice p1 n1 d1, .int .i64 lo, .int .i64 hi, .bool lz, .slice p2 n2 d2, .string s, .int .i64 er] 36 := Blk.new _ _ _
  have hb1 : Below W.heap.size W (W.alloc (.cells #[.int .u8 k, .slice p1 n1 d1, .int .i64 lo, .int .i64 hi, .bool lz, .slice p2 n2 d2, .string s, .int .i64 er] 36)) := (Below.refl _ _).alloc (Nat.le_refl _) _
  generalize (W.alloc (.cells #[.int .u8 k, .slice p1 n1 d1, .int .i64 lo, .int .i64 hi, .bool lz, .slice p2 n2 d2, .string s, .int .i64 er] 36)) = W1 at hA hb1 ⊢
  clear h0 h1 h2 h3 h4 h5 h6 h7
  have HX := Lib.hid (HBAD.out.below hb1)
  have hbw := HX.out.2 W1 (Below.refl _ _)
  have HW := Lib.hid hbw
  clear hbw
  obtain ⟨r0, r1, r2, r3, r4, r5, r6, r7, rz⟩ := Blk.eight hA
  have HA := Lib.hid hA
  have HB1 := Lib.hid hb1
  clear hA hb1
  go_wp2_with (first
    | (go_at_call 13; go_loud (refine HW.out.mono ?_; rintro ee w2 ⟨rfl, hb2⟩; have HB2 := Lib.hid hb2; obtain ⟨r0, r1, r2, r3, r4, r5, r6, r7, rz⟩ := Blk.eight (HA.out.below hb2 HA.out.lt); have HF := Lib.hid (first_bad (HX.out.below hb2)); clear hb2))
    | (go_at_call 14; go_loud (refine HF.out.mono ?_; rintro ee w3 ⟨rfl, hb3⟩; have HB3 := Lib.hid (HB2.out.trans (hb3.mono HB2.out.size)); obtain ⟨r0, r1, r2, r3, r4, r5, r6, r7, rz⟩ := Blk.eight (HA.out.below HB3.out HA.out.lt); have HB3a := Lib.hid (HB3.out.alloc (by have := HB3.out.size; omega) (.cells #[.int .i64 0, .slice none 0 0] 43)); have HH := Lib.hid (whole_bad (HX.out.below HB3a.out)); have HY := Lib.hid (Blk.new w3 #[.int .i64 0, .slice none 0 0] 43); clear hb3))
    | (go_at_call 15; go_loud (refine HH.out.mono ?_; rintro ee w4 ⟨rfl, hb4⟩; have HB4 := Lib.hid (HB3a.out.trans (hb4.mono HB3a.out.size)); obtain ⟨r0, r1, r2, r3, r4, r5, r6, r7, rz⟩ := Blk.eight (HA.out.below HB4.out HA.out.lt); have HY4 := Lib.hid (HY.out.below hb4 HY.out.lt); have HE := Lib.hid (ends_bad (HX.out.below HB4.out)); clear hb4))
    | (go_at_call 16; go_loud (refine HE.out.mono ?_; rintro ee w5 ⟨rfl, hb5⟩; have HB5 := Lib.hid (HB4.out.trans (hb5.mono HB4.out.size)); obtain ⟨r0, r1, r2, r3, r4, r5, r6, r7, rz⟩ := Blk.eight (HA.out.below HB5.out HA.out.lt); have HY5 := Lib.hid (HY4.out.below hb5 HY4.out.lt); have HC := Lib.hid (count_bad (HX.out.below HB5.out)); clear hb5))
    | (go_at_call 17; go_loud (refine HC.out.mono ?_; rintro ee w6 ⟨rfl, hb6⟩; have HB6 := Lib.hid (HB5.out.trans (hb6.mono HB5.out.size)); obtain ⟨r0, r1, r2, r3, r4, r5, r6, r7, rz⟩ := Blk.eight (HA.out.below HB6.out HA.out.lt); obtain ⟨y0, y1, yf0, yf1⟩ := (HY5.out.below hb6 HY5.out.lt).two; have yz := (HY5.out.below hb6 HY5.out.lt).lt; clear hb6)))
  exact HJ.out _ _ rfl rfl rfl rfl (HB1.out.trans (HB6.out.mono HB1.out.size))
set_option maxHeartbeats 8000000 in
set_option maxRecDepth 100000 in
theorem wr_exit {q : Nat} {W : World} {J : Act → World → Prop} {Q : Exit → Act → World → Prop} (e : Nat → Value) (hJ : ∀ (m : List Value), m.length = 157 → Q (.exit 0) ⟨m.toArray, []⟩ W) :
    Code.wp Tryz.prog (wrC [1, 1, 1, 1, 1, 0, 1, 0, 0]) (Exit.then J Q) ⟨#[e 0, e 1, e 2, e 3, e 4, e 5, e 6, e 7, e 8, e 9, e 10, e 11, e 12, e 13, e 14, e 15, e 16, e 17, e 18, e 19, e 20, e 21, e 22, e 23, e 24, e 25, e 26, e 27, e 28, e 29, e 30, e 31, e 32, e 33, e 34, e 35, e 36, e 37, e 38, e 39, e 40, e 41, e 42, e 43, e 44, e 45, e 46, e 47, e 48, e 49, e 50, e 51, e 52, e 53, .slice (some ⟨q, 0, none⟩) 4 4, .int .i64 4, .int .i64 4, e 57, e 58, e 59, e 60, e 61, e 62, e 63, e 64, e 65, e 66, e 67, e 68, e 69, e 70, e 71, e 72, e 73, e 74, e 75, e 76, e 77, e 78, e 79, e 80, e 81, e 82, e 83, e 84, e 85, e 86, e 87, e 88, e 89, e 90, e 91, e 92, e 93, e 94, e 95, e 96, e 97, e 98, e 99, e 100, e 101, e 102, e 103, e 104, e 105, e 106, e 107, e 108, e 109, e 110, e 111, e 112, e 113, e 114, e 115, e 116, e 117, e 118, e 119, e 120, e 121, e 122, e 123, e 124, e 125, e 126, e 127, e 128, e 129, e 130, e 131, e 132, e 133, e 134, e 135, e 136, e 137, e 138, e 139, e 140, e 141, e 142, e 143, e 144, e 145, e 146, e 147, e 148, e 149, e 150, e 151, e 152, e 153, e 154, e 155, e 156], []⟩ W := by
  have HJ := Lib.hid hJ
  clear hJ
  conv => arg 2; whnf
  go_wp2_with fail
  exact HJ.out _ rfl
end Go.Proofs.YtnhjakdmbfadlaaGreatDoor
