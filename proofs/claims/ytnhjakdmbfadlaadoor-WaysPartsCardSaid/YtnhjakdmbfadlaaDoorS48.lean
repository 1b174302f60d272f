/- Parts of the proof: Pfb, Pgb. Conditions: none. -/
import Derived.Test.YtnhjakdmbfadlaaDoorS47
import Derived.Test.YtnhjakdmbfadlaaDoorS42
import Derived.Test.YtnhjakdmbfadlaaDoorS41
import Derived.Test.YtnhjakdmbfadlaaDoorS38
set_option linter.all false
namespace Go.Proofs.YtnhjakdmbfadlaaDoor
open Go.RowKit Wy Mem Grow

set_option maxHeartbeats 8000000 in
set_option maxRecDepth 100000 in
theorem pe4 {n : Nat} {l : List Nat} {er : Int} {s : ByteArray} {b : Nat} {kx lox hix : Int} {lzx : Bool} {px1 px2 : Option Addr} {nx1 dx1 nx2 dx2 : Nat} {W : World} {J : Act → World → Prop} {Q : Exit → Act → World → Prop} (e : Nat → Value) (hB : Blk W b #[.int .u8 kx, .slice px1 nx1 dx1, .int .i64 lox, .int .i64 hix, .bool lzx, .slice px2 nx2 dx2] 28)
    (hcall : ∀ w', Below W.heap.size W w' → Calls Tryd.prog 10 #[.agg #[.int .u8 kx, .slice px1 nx1 dx1, .int .i64 lox, .int .i64 hix, .bool lzx, .slice px2 nx2 dx2], .string s] w' (Eoc n l er w'))
    (hJ : ∀ (m : List Value) (w' : World) (o : Option Addr) (c : Nat), m.length = 174 → (m[7]? = some (.pointer (some ⟨b, 0, none⟩)) ∧ m[8]? = some (e 8) ∧ m[9]? = some (.string s)) → m[10]? = some (.slice o n c) → m[11]? = some (.int .i64 er) → Row (fun _ => True) w' (.slice o n c) n 1 (intCs l) → Below W.heap.size W w' → J ⟨m.toArray, []⟩ w') :
    Code.wp Tryd.prog (paC [1, 1, 1, 0]) (Exit.then J Q) ⟨#[e 0, e 1, e 2, e 3, e 4, e 5, e 6, .pointer (some ⟨b, 0, none⟩), e 8, .string s, e 10, e 11, e 12, e 13, e 14, e 15, e 16, e 17, e 18, e 19, e 20, e 21, e 22, e 23, e 24, e 25, e 26, e 27, e 28, e 29, e 30, e 31, e 32, e 33, e 34, e 35, e 36, e 37, e 38, e 39, e 40, e 41, e 42, e 43, e 44, e 45, e 46, e 47, e 48, e 49, e 50, e 51, e 52, e 53, e 54, e 55, e 56, e 57, e 58, e 59, e 60, e 61, e 62, e 63, e 64, e 65, e 66, e 67, e 68, e 69, e 70, e 71, e 72, e 73, e 74, e 75, e 76, e 77, e 78, e 79, e 80, e 81, e 82, e 83, e 84, e 85, e 86, e 87, e 88, e 89, e 90, e 91, e 92, e 93, e 94, e 95, e 96, e 97, e 98, e 99, e 100, e 101, e 102, e 103, e 104, e 105, e 106, e 107, e 108, e 109, e 110, e 111, e 112, e 113, e 114, e 115, e 116, e 117, e 118, e 119, e 120, e 121, e 122, e 123, e 124, e 125, e 126, e 127, e 128, e 129, e 130, e 131, e 132, e 133, e 134, e 135, e 136, e 137, e 138, e 139, e 140, e 141, e 142, e 143, e 144, e 145, e 146, e 147, e 148, e 149, e 150, e 151, e 152, e 153, e 154, e 155, e 156, e 157, e 158, e 159, e 160, e 161, e 162, e 163, e 164, e 165, e 166, e 167, e 168, e 169, e 170, e 171, e 172, e 173], []⟩ W := by
  have HC := Lib.hid hcall
  have HJ := Lib.hid hJ
  have HB0 := Lib.hid (Below.refl W.heap.size W)
  have b0 := hB.cell 0
  have b1 := hB.cell 1
  have b2 := hB.cell 2
  have b3 := hB.cell 3
  have b4 := hB.cell 4
  have b5 := hB.cell 5
  have bz := hB.lt
  clear hB
  clear hcall hJ
  conv => arg 2; whnf
  go_wp2_with (go_at_call 10; go_loud (refine (HC.out _ HB0.out).mono ?_; rintro ee w2 ⟨o, c, rfl, hr, hb⟩; have HR := Lib.hid (Row.mono (M := fun _ => True) hr (fun _ _ => trivial)); have HB := Lib.hid hb; clear hr hb))
  exact HJ.out _ _ _ _ rfl ⟨rfl, rfl, rfl⟩ rfl rfl HR.out HB.out
set_option maxHeartbeats 8000000 in
set_option maxRecDepth 100000 in
theorem pe5 {n : Nat} {l : List Nat} {er : Int} {s : ByteArray} {b : Nat} {kx lox hix : Int} {lzx : Bool} {px1 px2 : Option Addr} {nx1 dx1 nx2 dx2 : Nat} {W : World} {J : Act → World → Prop} {Q : Exit → Act → World → Prop} (e : Nat → Value) (hB : Blk W b #[.int .u8 kx, .slice px1 nx1 dx1, .int .i64 lox, .int .i64 hix, .bool lzx, .slice px2 nx2 dx2] 28)
    (hcall : ∀ w', Below W.heap.size W w' → Calls Tryd.prog 10 #[.agg #[.int .u8 kx, .slice px1 nx1 dx1, .int .i64 lox, .int .i64 hix, .bool lzx, .slice px2 nx2 dx2], .string s] w' (Eoc n l er w'))
    (hJ : ∀ (m : List Value) (w' : World) (o : Option Addr) (c : Nat), m.length = 174 → (m[7]? = some (e 7) ∧ m[8]? = some (.pointer (some ⟨b, 0, none⟩)) ∧ m[9]? = some (.string s) ∧ m[10]? = some (e 10) ∧ m[11]? = some (e 11)) → m[12]? = some (.slice o n c) → m[13]? = some (.int .i64 er) → Row (fun _ => True) w' (.slice o n c) n 1 (intCs l) → Below W.heap.size W w' → J ⟨m.toArray, []⟩ w') :
    Code.wp Tryd.prog (paC [1, 1, 1, 1, 0]) (Exit.then J Q) ⟨#[e 0, e 1, e 2, e 3, e 4, e 5, e 6, e 7, .pointer (some ⟨b, 0, none⟩), .string s, e 10, e 11, e 12, e 13, e 14, e 15, e 16, e 17, e 18, e 19, e 20, e 21, e 22, e 23, e 24, e 25, e 26, e 27, e 28, e 29, e 30, e 31, e 32, e 33, e 34, e 35, e 36, e 37, e 38, e 39, e 40, e 41, e 42, e 43, e 44, e 45, e 46, e 47, e 48, e 49, e 50, e 51, e 52, e 53, e 54, e 55, e 56, e 57, e 58, e 59, e 60, e 61, e 62, e 63, e 64, e 65, e 66, e 67, e 68, e 69, e 70, e 71, e 72, e 73, e 74, e 75, e 76, e 77, e 78, e 79, e 80, e 81, e 82, e 83, e 84, e 85, e 86, e 87, e 88, e 89, e 90, e 91, e 92, e 93, e 94, e 95, e 96, e 97, e 98, e 99, e 100, e 101, e 102, e 103, e 104, e 105, e 106, e 107, e 108, e 109, e 110, e 111, e 112, e 113, e 114, e 115, e 116, e 117, e 118, e 119, e 120, e 121, e 122, e 123, e 124, e 125, e 126, e 127, e 128, e 129, e 130, e 131, e 132, e 133, e 134, e 135, e 136, e 137, e 138, e 139, e 140, e 141, e 142, e 143, e 144, e 145, e 146, e 147, e 148, e 149, e 150, e 151, e 152, e 153, e 154, e 155, e 156, e 157, e 158, e 159, e 160, e 161, e 162, e 163, e 164, e 165, e 166, e 167, e 168, e 169, e 170, e 171, e 172, e 173], []⟩ W := by
  have HC := Lib.hid hcall
  have HJ := Lib.hid hJ
  have HB0 := Lib.hid (Below.refl W.heap.size W)
  have b0 := hB.cell 0
  have b1 := hB.cell 1
  have b2 := hB.cell 2
  have b3 := hB.cell 3
  have b4 := hB.cell 4
  have b5 := hB.cell 5
  have bz := hB.lt
  clear hB
  clear hcall hJ
  conv => arg 2; whnf
  go_wp2_with (go_at_call 10; go_loud (refine (HC.out _ HB0.out).mono ?_; rintro ee w2 ⟨o, c, rfl, hr, hb⟩; have HR := Lib.hid (Row.mono (M := fun _ => True) hr (fun _ _ => trivial)); have HB := Lib.hid hb; clear hr hb))
  exact HJ.out _ _ _ _ rfl ⟨rfl, rfl, rfl, rfl, rfl⟩ rfl rfl HR.out HB.out

set_option maxHeartbeats 8000000 in
set_option maxRecDepth 100000 in
theorem pe6 {b7 b8 : Nat} {kx lox hix ky loy hiy : Int} {lzx lzy : Bool} {px1 px2 py1 py2 : Option Addr} {nx1 dx1 nx2 dx2 ny1 dy1 ny2 dy2 : Nat} {W : World} {J : Act → World → Prop} {Q : Exit → Act → World → Prop} (e : Nat → Value) (hB : Blk W b7 #[.int .u8 kx, .slice px1 nx1 dx1, .int .i64 lox, .int .i64 hix, .bool lzx, .slice px2 nx2 dx2] 28) (hB2 : Blk W b8 #[.int .u8 ky, .slice py1 ny1 dy1, .int .i64 loy, .int .i64 hiy, .bool lzy, .slice py2 ny2 dy2] 28)
    (hJ : ∀ (m : List Value), m.length = 174 → (m[8]? = some (.pointer (some ⟨b8, 0, none⟩)) ∧ m[9]? = some (e 9) ∧ m[10]? = some (e 10) ∧ m[11]? = some (e 11) ∧ m[12]? = some (e 12) ∧ m[13]? = some (e 13)) → m[14]? = some (.slice (some ⟨W.heap.size, 0, none⟩) 2 2) → J ⟨m.toArray, []⟩ (W.alloc (.cells #[.int .u8 kx, .slice px1 nx1 dx1, .int .i64 lox, .int .i64 hix, .bool lzx, .slice px2 nx2 dx2, .int .u8 ky, .slice py1 ny1 dy1, .int .i64 loy, .int .i64 hiy, .bool lzy, .slice py2 ny2 dy2] 28))) :
    Code.wp Tryd.prog (paC [1, 1, 1, 1, 1, 0]) (Exit.then J Q) ⟨#[e 0, e 1, e 2, e 3, e 4, e 5, e 6, .pointer (some ⟨b7, 0, none⟩), .pointer (some ⟨b8, 0, none⟩), e 9, e 10, e 11, e 12, e 13, e 14, e 15, e 16, e 17, e 18, e 19, e 20, e 21, e 22, e 23, e 24, e 25, e 26, e 27, e 28, e 29, e 30, e 31, e 32, e 33, e 34, e 35, e 36, e 37, e 38, e 39, e 40, e 41, e 42, e 43, e 44, e 45, e 46, e 47, e 48, e 49, e 50, e 51, e 52, e 53, e 54, e 55, e 56, e 57, e 58, e 59, e 60, e 61, e 62, e 63, e 64, e 65, e 66, e 67, e 68, e 69, e 70, e 71, e 72, e 73, e 74, e 75, e 76, e 77, e 78, e 79, e 80, e 81, e 82, e 83, e 84, e 85, e 86, e 87, e 88, e 89, e 90, e 91, e 92, e 93, e 94, e 95, e 96, e 97, e 98, e 99, e 100, e 101, e 102, e 103, e 104, e 105, e 106, e 107, e 108, e 109, e 110, e 111, e 112, e 113, e 114, e 115, e 116, e 117, e 118, e 119, e 120, e 121, e 122, e 123, e 124, e 125, e 126, e 127, e 128, e 129, e 130, e 131, e 132, e 133, e 134, e 135, e 136, e 137, e 138, e 139, e 140, e 141, e 142, e 143, e 144, e 145, e 146, e 147, e 148, e 149, e 150, e 151, e 152, e 153, e 154, e 155, e 156, e 157, e 158, e 159, e 160, e 161, e 162, e 163, e 164, e 165, e 166, e 167, e 168, e 169, e 170, e 171, e 172, e 173], []⟩ W := by
  have HJ := Lib.hid hJ
  have b0 := hB.cell 0
  have b1 := hB.cell 1
  have b2 := hB.cell 2
  have b3 := hB.cell 3
  have b4 := hB.cell 4
  have b5 := hB.cell 5
  have bz := hB.lt
  have c0 := hB2.cell 0
  have c1 := hB2.cell 1
  have c2 := hB2.cell 2
  have c3 := hB2.cell 3
  have c4 := hB2.cell 4
  have c5 := hB2.cell 5
  have cz := hB2.lt
  clear hB hB2
  clear hJ
  conv => arg 2; whnf
  go_wp2_with fail
  exact HJ.out _ rfl ⟨rfl, rfl, rfl, rfl, rfl, rfl⟩ rfl
set_option maxHeartbeats 8000000 in
set_option maxRecDepth 100000 in
theorem pe7 {n : Nat} {l : List Nat} {er : Int} {s : ByteArray} {q : Nat} {W : World} {J : Act → World → Prop} {Q : Exit → Act → World → Prop} (e : Nat → Value) 
    (hcall : ∀ w', Below W.heap.size W w' → Calls Tryd.prog 10 #[.agg #[.int .u8 4, .slice none 0 0, .int .i64 0, .int .i64 0, .bool false, .slice (some ⟨q, 0, none⟩) 2 2], .string s] w' (Eoc n l er w'))
    (hJ : ∀ (m : List Value) (w' : World) (o : Option Addr) (c : Nat), m.length = 174 → (m[8]? = some (e 8) ∧ m[9]? = some (.string s) ∧ m[10]? = some (e 10) ∧ m[11]? = some (e 11) ∧ m[12]? = some (e 12) ∧ m[13]? = some (e 13) ∧ m[14]? = some (.slice (some ⟨q, 0, none⟩) 2 2)) → m[15]? = some (.slice o n c) → m[16]? = some (.int .i64 er) → Row (fun _ => True) w' (.slice o n c) n 1 (intCs l) → Below W.heap.size W w' → J ⟨m.toArray, []⟩ w') :
    Code.wp Tryd.prog (paC [1, 1, 1, 1, 1, 1, 0]) (Exit.then J Q) ⟨#[e 0, e 1, e 2, e 3, e 4, e 5, e 6, e 7, e 8, .string s, e 10, e 11, e 12, e 13, .slice (some ⟨q, 0, none⟩) 2 2, e 15, e 16, e 17, e 18, e 19, e 20, e 21, e 22, e 23, e 24, e 25, e 26, e 27, e 28, e 29, e 30, e 31, e 32, e 33, e 34, e 35, e 36, e 37, e 38, e 39, e 40, e 41, e 42, e 43, e 44, e 45, e 46, e 47, e 48, e 49, e 50, e 51, e 52, e 53, e 54, e 55, e 56, e 57, e 58, e 59, e 60, e 61, e 62, e 63, e 64, e 65, e 66, e 67, e 68, e 69, e 70, e 71, e 72, e 73, e 74, e 75, e 76, e 77, e 78, e 79, e 80, e 81, e 82, e 83, e 84, e 85, e 86, e 87, e 88, e 89, e 90, e 91, e 92, e 93, e 94, e 95, e 96, e 97, e 98, e 99, e 100, e 101, e 102, e 103, e 104, e 105, e 106, e 107, e 108, e 109, e 110, e 111, e 112, e 113, e 114, e 115, e 116, e 117, e 118, e 119, e 120, e 121, e 122, e 123, e 124, e 125, e 126, e 127, e 128, e 129, e 130, e 131, e 132, e 133, e 134, e 135, e 136, e 137, e 138, e 139, e 140, e 141, e 142, e 143, e 144, e 145, e 146, e 147, e 148, e 149, e 150, e 151, e 152, e 153, e 154, e 155, e 156, e 157, e 158, e 159, e 160, e 161, e 162, e 163, e 164, e 165, e 166, e 167, e 168, e 169, e 170, e 171, e 172, e 173], []⟩ W := by
  have HC := Lib.hid hcall
  have HJ := Lib.hid hJ
  have HB0 := Lib.hid (Below.refl W.heap.size W)
  clear hcall hJ
  conv => arg 2; whnf
  go_wp2_with (go_at_call 10; go_loud (refine (HC.out _ HB0.out).mono ?_; rintro ee w2 ⟨o, c, rfl, hr, hb⟩; have HR := Lib.hid (Row.mono (M := fun _ => True) hr (fun _ _ => trivial)); have HB := Lib.hid hb; clear hr hb))
  exact HJ.out _ _ _ _ rfl ⟨rfl, rfl, rfl, rfl, rfl, rfl, rfl⟩ rfl rfl HR.out HB.out
set_option maxHeartbeats 8000000 in
set_option maxRecDepth 100000 in
theorem pe8 {n : Nat} {l : List Nat} {er : Int} {s : ByteArray} {q : Nat} {W : World} {J : Act → World → Prop} {Q : Exit → Act → World → Prop} (e : Nat → Value) 
    (hcall : ∀ w', Below W.heap.size W w' → Calls Tryd.prog 10 #[.agg #[.int .u8 3, .slice none 0 0, .int .i64 0, .int .i64 0, .bool false, .slice (some ⟨q, 0, none⟩) 2 2], .string s] w' (Eoc n l er w'))
    (hJ : ∀ (m : List Value) (w' : World) (o : Option Addr) (c : Nat), m.length = 174 → (m[8]? = some (e 8) ∧ m[9]? = some (.string s) ∧ m[10]? = some (e 10) ∧ m[11]? = some (e 11) ∧ m[12]? = some (e 12) ∧ m[13]? = some (e 13) ∧ m[15]? = some (e 15) ∧ m[16]? = some (e 16)) → m[17]? = some (.slice o n c) → m[18]? = some (.int .i64 er) → Row (fun _ => True) w' (.slice o n c) n 1 (intCs l) → Below W.heap.size W w' → J ⟨m.toArray, []⟩ w') :
    Code.wp Tryd.prog (paC [1, 1, 1, 1, 1, 1, 1, 0]) (Exit.then J Q) ⟨#[e 0, e 1, e 2, e 3, e 4, e 5, e 6, e 7, e 8, .string s, e 10, e 11, e 12, e 13, .slice (some ⟨q, 0, none⟩) 2 2, e 15, e 16, e 17, e 18, e 19, e 20, e 21, e 22, e 23, e 24, e 25, e 26, e 27, e 28, e 29, e 30, e 31, e 32, e 33, e 34, e 35, e 36, e 37, e 38, e 39, e 40, e 41, e 42, e 43, e 44, e 45, e 46, e 47, e 48, e 49, e 50, e 51, e 52, e 53, e 54, e 55, e 56, e 57, e 58, e 59, e 60, e 61, e 62, e 63, e 64, e 65, e 66, e 67, e 68, e 69, e 70, e 71, e 72, e 73, e 74, e 75, e 76, e 77, e 78, e 79, e 80, e 81, e 82, e 83, e 84, e 85, e 86, e 87, e 88, e 89, e 90, e 91, e 92, e 93, e 94, e 95, e 96, e 97, e 98, e 99, e 100, e 101, e 102, e 103, e 104, e 105, e 106, e 107, e 108, e 109, e 110, e 111, e 112, e 113, e 114, e 115, e 116, e 117, e 118, e 119, e 120, e 121, e 122, e 123, e 124, e 125, e 126, e 127, e 128, e 129, e 130, e 131, e 132, e 133, e 134, e 135, e 136, e 137, e 138, e 139, e 140, e 141, e 142, e 143, e 144, e 145, e 146, e 147, e 148, e 149, e 150, e 151, e 152, e 153, e 154, e 155, e 156, e 157, e 158, e 159, e 160, e 161, e 162, e 163, e 164, e 165, e 166, e 167, e 168, e 169, e 170, e 171, e 172, e 173], []⟩ W := by
  have HC := Lib.hid hcall
  have HJ := Lib.hid hJ
  have HB0 := Lib.hid (Below.refl W.heap.size W)
  clear hcall hJ
  conv => arg 2; whnf
  go_wp2_with (go_at_call 10; go_loud (refine (HC.out _ HB0.out).mono ?_; rintro ee w2 ⟨o, c, rfl, hr, hb⟩; have HR := Lib.hid (Row.mono (M := fun _ => True) hr (fun _ _ => trivial)); have HB := Lib.hid hb; clear hr hb))
  exact HJ.out _ _ _ _ rfl ⟨rfl, rfl, rfl, rfl, rfl, rfl, rfl, rfl⟩ rfl rfl HR.out HB.out

theorem eoc_below {n : Nat} {l : List Nat} {er : Int} {cs : List Value} {s : ByteArray} {t : Nd} {W w' : World} (hb : Below W.heap.size W w') (hn : NdAt (fun _ => True) W t cs) (hr : right t = true) (hno : nodes t ≤ 1000000) (hs : s.size ≤ 24) (hv : Lib.validD s.data.toList = true) (htab : Lib.Utf8Tabs 0 1 W) (hnone : NoneAt W) (hl : l = eE s t) (hn' : n = l.length) (he : er = erW s t) :
    Calls Tryd.prog 10 #[.agg cs.toArray, .string s] w' (Eoc n l er w') :=
  eoc_any (NdAt.go (Kept.of_below hb (fun _ => False)) (fun _ _ h => ⟨id, h⟩) hn) hr hno (by omega) hv (tabs_below htab hnone hb) (hnone.below hb) hl hn' he
set_option maxRecDepth 100000 in
theorem pf_rest {b7 b8 : Nat} {kx lox hix ky loy hiy : Int} {lzx lzy : Bool} {px1 px2 py1 py2 : Option Addr} {nx1 dx1 nx2 dx2 ny1 dy1 ny2 dy2 : Nat} {s : ByteArray} {x y : Nd} {W : World} {Q : Exit → Act → World → Prop} (m : List Value) (hm : m.length = 174) (g7 : m[7]? = some (.pointer (some ⟨b7, 0, none⟩))) (g8 : m[8]? = some (.pointer (some ⟨b8, 0, none⟩))) (g9 : m[9]? = some (.string s))
    (hB7 : Blk W b7 #[.int .u8 kx, .slice px1 nx1 dx1, .int .i64 lox, .int .i64 hix, .bool lzx, .slice px2 nx2 dx2] 28) (hB8 : Blk W b8 #[.int .u8 ky, .slice py1 ny1 dy1, .int .i64 loy, .int .i64 hiy, .bool lzy, .slice py2 ny2 dy2] 28) (hx : NdAt (fun _ => True) W x [.int .u8 kx, .slice px1 nx1 dx1, .int .i64 lox, .int .i64 hix, .bool lzx, .slice px2 nx2 dx2]) (hy : NdAt (fun _ => True) W y [.int .u8 ky, .slice py1 ny1 dy1, .int .i64 loy, .int .i64 hiy, .bool lzy, .slice py2 ny2 dy2])
    (gx : Wy.Good x 9 8) (gy : Wy.Good y 9 8) (nx : nodes x ≤ 21) (ny : nodes y ≤ 21) (hss : s.size ≤ 24) (hv : Lib.validD s.data.toList = true) (htab : Lib.Utf8Tabs 0 1 W) (hnone : NoneAt W)
    (hRet : ∀ (m : List Value) (w' : World), m.length = 174 → m[6]? = some (.bool true) → Below W.heap.size W w' → Q .ret ⟨m.toArray, []⟩ w') :
    Code.wp Tryd.prog (paC [1, 1, 1]) Q ⟨m.toArray, []⟩ W := by
  have rx : right x = true := gx.right (by omega) (by omega)
  have ry : right y = true := gy.right (by omega) (by omega)
  have ra : right (altT x y) = true := pair_right (.inr rfl) gx gy (by omega) (by omega)
  have rc : right (catT x y) = true := pair_right (.inl rfl) gx gy (by omega) (by omega)
  have na : nodes (altT x y) ≤ 1000000 := by simp only [altT, nodes, nodesL]; omega
  have nc : nodes (catT x y) ≤ 1000000 := by simp only [catT, nodes, nodesL]; omega
  have go : ∀ {w w' : World} {t : Nd} {cs : List Value}, Below w.heap.size w w' → NdAt (fun _ => True) w t cs → NdAt (fun _ => True) w' t cs := fun hb hn => NdAt.go (Kept.of_below hb (fun _ => False)) (fun _ _ h => ⟨id, h⟩) hn
  have rgo : ∀ {w w' : World} {v : Value} {n : Nat} {cs : List Value}, Below w.heap.size w w' → Row (fun _ => True) w v n 1 cs → Row (fun _ => True) w' v n 1 cs := fun hb hn => RowGo hn (Kept.of_below hb (fun _ => False)) (fun _ _ h => ⟨id, h⟩)
  -- the ends of the first one
  obtain ⟨e, rfl⟩ := frame174 hm
  have g7 := Option.some.inj g7
  have g8 := Option.some.inj g8
  have g9 := Option.some.inj g9
  rw [g7, g9]
  show Code.wp Tryd.prog (Code.seq (paC [1, 1, 1, 0]) (paC [1, 1, 1, 1])) Q _ _
  refine wp_seq (pe4 e hB7 (fun w' hb => eoc_below hb hx rx (by omega) hss hv htab hnone rfl rfl rfl) (fun m w1 op cp k0 k1 k10 k11 hp hb1 => ?_))
  obtain ⟨f, rfl⟩ := frame174 k0
  obtain ⟨j7, j8, j9⟩ := k1
  have j7 := Option.some.inj j7
  have j8 := (Option.some.inj j8).trans g8
  have j9 := Option.some.inj j9
  have j10 := Option.some.inj k10
  have j11 := Option.some.inj k11
  -- of the second one
  show Code.wp Tryd.prog (Code.seq (paC [1, 1, 1, 1, 0]) (paC [1, 1, 1, 1, 1])) Q _ _
  rw [j8, j9]
  refine wp_seq (pe5 f (hB8.below hb1 hB8.lt) (fun w' hb => eoc_below hb (go hb1 hy) ry (by omega) hss hv (tabs_below htab hnone hb1) (hnone.below hb1) rfl rfl rfl) (fun m w2 oq cq k0 k1 k12 k13 hq hb2 => ?_))
  have hb12 := hb1.trans (hb2.mono hb1.size)
  obtain ⟨a, rfl⟩ := frame174 k0
  obtain ⟨i7, i8, i9, i10, i11⟩ := k1
  have i7 := (Option.some.inj i7).trans j7
  have i8 := Option.some.inj i8
  have i9 := Option.some.inj i9
  have i10 := (Option.some.inj i10).trans j10
  have i11 := (Option.some.inj i11).trans j11
  have i12 := Option.some.inj k12
  have i13 := Option.some.inj k13
  -- both
  show Code.wp Tryd.prog (Code.seq (paC [1, 1, 1, 1, 1, 0]) (paC [1, 1, 1, 1, 1, 1])) Q _ _
  rw [i7, i8]
  refine wp_seq (pe6 a (hB7.below hb12 hB7.lt) (hB8.below hb12 hB8.lt) (fun m k0 k1 k14 => ?_))
  have hb3 : Below w2.heap.size w2 (w2.alloc (.cells #[.int .u8 kx, .slice px1 nx1 dx1, .int .i64 lox, .int .i64 hix, .bool lzx, .slice px2 nx2 dx2, .int .u8 ky, .slice py1 ny1 dy1, .int .i64 loy, .int .i64 hiy, .bool lzy, .slice py2 ny2 dy2] 28)) := (Below.refl _ _).alloc (Nat.le_refl _) _
  have hq3 : Blk (w2.alloc (.cells #[.int .u8 kx, .slice px1 nx1 dx1, .int .i64 lox, .int .i64 hix, .bool lzx, .slice px2 nx2 dx2, .int .u8 ky, .slice py1 ny1 dy1, .int .i64 loy, .int .i64 hiy, .bool lzy, .slice py2 ny2 dy2] 28)) w2.heap.size #[.int .u8 kx, .slice px1 nx1 dx1, .int .i64 lox, .int .i64 hix, .bool lzx, .slice px2 nx2 dx2, .int .u8 ky, .slice py1 ny1 dy1, .int .i64 loy, .int .i64 hiy, .bool lzy, .slice py2 ny2 dy2] 28 := Blk.new _ _ _
  generalize (w2.alloc (.cells #[.int .u8 kx, .slice px1 nx1 dx1, .int .i64 lox, .int .i64 hix, .bool lzx, .slice px2 nx2 dx2, .int .u8 ky, .slice py1 ny1 dy1, .int .i64 loy, .int .i64 hiy, .bool lzy, .slice py2 ny2 dy2] 28)) = w3 at hb3 hq3 ⊢
  generalize w2.heap.size = qb at hq3 k14
  have hb13 := hb12.trans (hb3.mono hb12.size)
  have hx3 := go hb13 hx
  have hy3 := go hb13 hy
  have halt := pair_nd (k := 4) (by omega) hq3 hx3 hy3
  have hcat := pair_nd (k := 3) (by omega) hq3 hx3 hy3
  have t3 := tabs_below htab hnone hb13
  have n3 := hnone.below hb13
  obtain ⟨c, rfl⟩ := frame174 k0
  obtain ⟨h8, h9, h10, h11, h12, h13⟩ := k1
  have h8 := Option.some.inj h8
  have h9 := (Option.some.inj h9).trans i9
  have h10 := (Option.some.inj h10).trans i10
  have h11 := (Option.some.inj h11).trans i11
  have h12 := (Option.some.inj h12).trans i12
  have h13 := (Option.some.inj h13).trans i13
  have h14 := Option.some.inj k14
  -- the alternatives
  show Code.wp Tryd.prog (Code.seq (paC [1, 1, 1, 1, 1, 1, 0]) (paC [1, 1, 1, 1, 1, 1, 1])) Q _ _
  rw [h9, h14]
  refine wp_seq (pe7 c (fun w' hb => eoc_below hb halt ra na hss hv t3 n3 rfl rfl rfl) (fun m w4 oa ca k0 k1 k15 k16 hal hb4 => ?_))
  obtain ⟨z, rfl⟩ := frame174 k0
  obtain ⟨u8, u9, u10, u11, u12, u13, u14⟩ := k1
  have u8 := (Option.some.inj u8).trans h8
  have u9 := Option.some.inj u9
  have u10 := (Option.some.inj u10).trans h10
  have u11 := (Option.some.inj u11).trans h11
  have u12 := (Option.some.inj u12).trans h12
  have u13 := (Option.some.inj u13).trans h13
  have u14 := Option.some.inj u14
  have u15 := Option.some.inj k15
  have u16 := Option.some.inj k16
  -- one after the other
  show Code.wp Tryd.prog (Code.seq (paC [1, 1, 1, 1, 1, 1, 1, 0]) (paC [1, 1, 1, 1, 1, 1, 1, 1])) Q _ _
  rw [u9, u14]
  refine wp_seq (pe8 z (fun w' hb => eoc_below hb (go hb4 hcat) rc nc hss hv (tabs_below t3 n3 hb4) (n3.below hb4) rfl rfl rfl) (fun m w5 oc cc k0 k1 k17 k18 hca hb5 => ?_))
  obtain ⟨v8, v9, v10, v11, v12, v13, v15, v16⟩ := k1
  rw [u8] at v8
  rw [u10] at v10
  rw [u11] at v11
  rw [u12] at v12
  rw [u13] at v13
  rw [u15] at v15
  rw [u16] at v16
  have hb35 := hb4.trans (hb5.mono hb4.size)
  have hb25 := hb3.trans (hb35.mono hb3.size)
  have hb15 := hb2.trans (hb25.mono hb2.size)
  have hb05 := hb1.trans (hb15.mono hb1.size)
  exact pc_mid m k0 v8 v9 v10 v11 v12 v13 v15 v16 k17 k18 (rgo hb15 hp) rfl (rgo hb25 hq) rfl (rgo hb5 hal) rfl hca rfl rfl rfl rfl rfl hv hss (hB8.below hb05 hB8.lt) (go hb05 hy) ry (by omega) (tabs_below htab hnone hb05) (hnone.below hb05) (fun m w' k0 k1 k2 => hRet m w' k0 k1 (hb05.trans (k2.mono hb05.size)))
end Go.Proofs.YtnhjakdmbfadlaaDoor

namespace Go.Proofs.YtnhjakdmbfadlaaDoor
open Go.RowKit Wy Mem Grow

set_option maxRecDepth 100000 in
theorem pe3m {m1 c1 m2 c2 : Nat} {o1 o2 : Option Addr} {vb : Value} {s : ByteArray} {x y : Nd} {W : World} {J : Act → World → Prop} {Q : Exit → Act → World → Prop} (m : List Value) (hm : m.length = 174) (g0 : m[0]? = some (.slice o1 m1 c1)) (g1 : m[1]? = some (.slice o2 m2 c2)) (g2 : m[2]? = some vb) (h1 : m1 ≤ c1) (h2 : m2 ≤ c2)
    (hmx : ∀ w', Below W.heap.size W w' → Calls Tryd.prog 7 #[.slice o1 (min (m1 : Int) 8).toNat c1] w' (Mdn x w'))
    (hmy : ∀ w', Below W.heap.size W w' → Calls Tryd.prog 7 #[.slice o2 (min (m2 : Int) 8).toNat c2] w' (Mdn y w'))
    (htx : ∀ w', Below W.heap.size W w' → Calls Tryd.prog 8 #[vb, .int .i64 6] w' (fun e w'' => e = .returned (.string s) ∧ Below w'.heap.size w' w''))
    (hJ : ∀ (m : List Value) (w' : World) (b7 b8 : Nat) (xs ys : List Value), m.length = 174 → m[7]? = some (.pointer (some ⟨b7, 0, none⟩)) → m[8]? = some (.pointer (some ⟨b8, 0, none⟩)) → m[9]? = some (.string s) → Blk w' b7 xs.toArray 28 → Blk w' b8 ys.toArray 28 → NdAt (fun _ => True) w' x xs → NdAt (fun _ => True) w' y ys → Below W.heap.size W w' → J ⟨m.toArray, []⟩ w') :
    Code.wp Tryd.prog (paC [1, 1, 0]) (Exit.then J Q) ⟨m.toArray, []⟩ W := by
  obtain ⟨e, rfl⟩ := frame174 hm
  have g0 := Option.some.inj g0
  have g1 := Option.some.inj g1
  have g2 := Option.some.inj g2
  rw [g0, g1, g2]
  exact pe3 e h1 h2 hmx hmy htx hJ
set_option maxHeartbeats 8000000 in
set_option maxRecDepth 100000 in
theorem parts_any {N1 N2 M : Nat → Prop} {w : World} {v1 v2 v3 : Value} {L1 L2 : List Sm} {B : List Nat} (h1 : SmsAt N1 w v1 L1) (h2 : SmsAt N2 w v2 L2) (h3 : U8At M w v3 B) (hL1 : L1.length ≤ 9223372036854775807) (hL2 : L2.length ≤ 9223372036854775807) (hB : B.length ≤ 9223372036854775807) (htab : Lib.Utf8Tabs 0 1 w) (hnone : NoneAt w) :
    Calls Tryd.prog 5 #[v1, v2, v3] w fun e w' => e = .returned (.bool true) ∧ Below w.heap.size w w' := by
  obtain ⟨o1, c1, rfl⟩ := h1.row.slice
  obtain ⟨o2, c2, rfl⟩ := h2.row.slice
  obtain ⟨hc1, hs1⟩ := sms_take h1
  obtain ⟨hc2, hs2⟩ := sms_take h2
  have hmx : ∀ w', Below w.heap.size w w' → Calls Tryd.prog 7 #[.slice o1 (min (L1.length : Int) 8).toNat c1] w' (Mdn (madeT (L1.take 8)) w') := fun w' hb => made_mdn (hs1.below hb) (by rw [List.length_take]; omega)
  have hmy : ∀ w', Below w.heap.size w w' → Calls Tryd.prog 7 #[.slice o2 (min (L2.length : Int) 8).toNat c2] w' (Mdn (madeT (L2.take 8)) w') := fun w' hb => made_mdn (hs2.below hb) (by rw [List.length_take]; omega)
  have htx : ∀ w', Below w.heap.size w w' → Calls Tryd.prog 8 #[v3, .int .i64 6] w' fun e w'' => e = .returned (.string (strB (textL (B.take 6)))) ∧ Below w'.heap.size w' w'' := fun w' hb => text_any (m := 6) (h3.below hb) (by omega) hB
  have haw := awake_any w htab hnone
  have HMX := Lib.hid hmx
  have HMY := Lib.hid hmy
  have HTX := Lib.hid htx
  have HAW := Lib.hid haw
  have HT := Lib.hid htab
  have HN := Lib.hid hnone
  clear h1 h2 h3 hs1 hs2 hmx hmy htx haw htab hnone hL1 hL2 hB
  go_enter Tryd.func5, Tryd.ntmps5
  go_upto_region 3 with (go_at_call 6; go_loud (refine HAW.out.mono ?_; rintro ee w1 ⟨rfl, hb1⟩; have HB1 := Lib.hid hb1; clear hb1))
  rename_i K1 hK1
  have hss : (strB (textL (B.take 6))).size ≤ 24 := text_size B 6 (by omega)
  have hsv : Lib.validD (strB (textL (B.take 6))).data.toList = true := text_valid _
  have gx : Wy.Good (madeT (L1.take 8)) 9 8 := made_good _ (take_le20 L1 8)
  have gy : Wy.Good (madeT (L2.take 8)) 9 8 := made_good _ (take_le20 L2 8)
  generalize strB (textL (B.take 6)) = s at HTX hss hsv
  have nx : nodes (madeT (L1.take 8)) ≤ 21 := nodes_made _
  have ny : nodes (madeT (L2.take 8)) ≤ 21 := nodes_made _
  refine pe3m _ rfl rfl rfl rfl hc1 hc2 (fun w' hb => HMX.out w' (HB1.out.trans (hb.mono HB1.out.size))) (fun w' hb => HMY.out w' (HB1.out.trans (hb.mono HB1.out.size))) (fun w' hb => HTX.out w' (HB1.out.trans (hb.mono HB1.out.size))) (fun m w2 b7 b8 xs ys k0 k7 k8 k9 B7 B8 X Y hb2 => hK1 _ _ ?_)
  have hb12 := HB1.out.trans (hb2.mono HB1.out.size)
  obtain ⟨kx, lox, hix, lzx, px1, px2, nx1, dx1, nx2, dx2, rfl⟩ := nd6k X
  obtain ⟨ky, loy, hiy, lzy, py1, py2, ny1, dy1, ny2, dy2, rfl⟩ := nd6k Y
  refine pf_rest m k0 k7 k8 k9 B7 B8 X Y gx gy nx ny hss hsv (tabs_below HT.out HN.out hb12) (HN.out.below hb12) (fun m w3 h0 h6 hb3 => ?_)
  obtain ⟨f, rfl⟩ := frame174 h0
  have h6 := Option.some.inj h6
  have hbf := hb12.trans (hb3.mono hb12.size)
  rw [show f 6 = .bool true from h6]
  exact bodyPost_ret (v := .bool true) (by simp [results, Tryd.results5, go_sem]) rfl ⟨rfl, hbf⟩
end Go.Proofs.YtnhjakdmbfadlaaDoor
