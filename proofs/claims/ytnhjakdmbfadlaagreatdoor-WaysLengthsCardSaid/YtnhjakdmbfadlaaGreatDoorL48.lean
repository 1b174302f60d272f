/- Parts of the proof: Wla. Conditions: none. -/
import Derived.Test.YtnhjakdmbfadlaaGreatDoorL42
import Derived.Test.YtnhjakdmbfadlaaGreatDoorL46
import Derived.Test.YtnhjakdmbfadlaaGreatDoorL47
set_option linter.all false
/- WaysLengths: its pieces. -/
namespace Go.Proofs.YtnhjakdmbfadlaaGreatDoor
open Go.RowKit Wy Mem Grow

noncomputable def wlC (p : List Nat) : Code := pieceC (way p) (Tryz.f7.body.getD .skip)
set_option maxRecDepth 100000 in
theorem frame88 {l : List Value} (h : l.length = 88) : ∃ e : Nat → Value, l = [e 0, e 1, e 2, e 3, e 4, e 5, e 6, e 7, e 8, e 9, e 10, e 11, e 12, e 13, e 14, e 15, e 16, e 17, e 18, e 19, e 20, e 21, e 22, e 23, e 24, e 25, e 26, e 27, e 28, e 29, e 30, e 31, e 32, e 33, e 34, e 35, e 36, e 37, e 38, e 39, e 40, e 41, e 42, e 43, e 44, e 45, e 46, e 47, e 48, e 49, e 50, e 51, e 52, e 53, e 54, e 55, e 56, e 57, e 58, e 59, e 60, e 61, e 62, e 63, e 64, e 65, e 66, e 67, e 68, e 69, e 70, e 71, e 72, e 73, e 74, e 75, e 76, e 77, e 78, e 79, e 80, e 81, e 82, e 83, e 84, e 85, e 86, e 87] := by
  refine ⟨fun k => l.getD k undef, ?_⟩
  have h2 : l = (List.range 88).map fun k => l.getD k undef := by
    apply List.ext_getElem
    · simp [h]
    · intro i h1 h2
      simp [List.getD_eq_getElem?_getD, h1]
  exact h2
set_option maxHeartbeats 8000000 in
set_option maxRecDepth 100000 in
theorem wl3 {m1 c1 : Nat} {o1 : Option Addr} {vb : Value} {s : ByteArray} {x : Nd} {W : World} {J : Act → World → Prop} {Q : Exit → Act → World → Prop} (e : Nat → Value) (h1 : m1 ≤ c1)
    (hmx : Calls Tryz.prog 9 #[.slice o1 (min (m1 : Int) 14).toNat c1] W (Mdx x W))
    (htx : ∀ w', Below W.heap.size W w' → Calls Tryz.prog 12 #[vb, .int .i64 8] w' (fun e w'' => e = .returned (.string s) ∧ Below w'.heap.size w' w''))
    (hJ : ∀ (m : List Value) (w' : World) (b : Nat) (xs : List Value), m.length = 88 → m[5]? = some (.pointer (some ⟨b, 0, none⟩)) → m[6]? = some (.string s) → Blk w' b xs.toArray 27 → NdAt (fun _ => True) w' x xs → Below W.heap.size W w' → J ⟨m.toArray, []⟩ w') :
    Code.wp Tryz.prog (wlC [1, 1, 0]) (Exit.then J Q) ⟨#[.slice o1 m1 c1, vb, e 2, e 3, e 4, e 5, e 6, e 7, e 8, e 9, e 10, e 11, e 12, e 13, e 14, e 15, e 16, e 17, e 18, e 19, e 20, e 21, e 22, e 23, e 24, e 25, e 26, e 27, e 28, e 29, e 30, e 31, e 32, e 33, e 34, e 35, e 36, e 37, e 38, e 39, e 40, e 41, e 42, e 43, e 44, e 45, e 46, e 47, e 48, e 49, e 50, e 51, e 52, e 53, e 54, e 55, e 56, e 57, e 58, e 59, e 60, e 61, e 62, e 63, e 64, e 65, e 66, e 67, e 68, e 69, e 70, e 71, e 72, e 73, e 74, e 75, e 76, e 77, e 78, e 79, e 80, e 81, e 82, e 83, e 84, e 85, e 86, e 87], []⟩ W := by
  have HX := Lib.hid hmx
  have HT := Lib.hid htx
  have HJ := Lib.hid hJ
  have h1I : (m1 : Int) ≤ c1 := by omega
  have h1n : 0 ≤ min (m1 : Int) 14 := by omega
  have h1c : min (m1 : Int) 14 ≤ c1 := by omega
  clear hmx htx hJ
  conv => arg 2; whnf
  go_wp2_with (first
    | (go_at_call 9; go_loud (refine HX.out.mono ?_; rintro ee w2 ⟨k, lo, hi, lz, p1, p2, n1, d1, n2, d2, rfl, hn, hb⟩; have HN := Lib.hid hn; have HB := Lib.hid hb; clear hn hb))
    | (go_at_call 12; go_loud (refine (HT.out _ HB.out).mono ?_; rintro ee w3 ⟨rfl, hb⟩; have HB3 := Lib.hid hb; clear hb)))
  have hz := HB.out.size
  have hz3 := HB3.out.size
  refine HJ.out _ _ _ [.int .u8 k, .slice p1 n1 d1, .int .i64 lo, .int .i64 hi, .bool lz, .slice p2 n2 d2] rfl rfl rfl (Blk.new _ _ _) ?_ ((HB.out.trans (HB3.out.mono hz)).alloc (by omega) _)
  exact NdAt.go ((Kept.of_below HB3.out (fun _ => False)).alloc _) (fun q hq _ => ⟨id, trivial⟩) HN.out
set_option maxHeartbeats 8000000 in
set_option maxRecDepth 100000 in
theorem wl4 {xb : Nat} {s : ByteArray} {k lo hi : Int} {lz : Bool} {p1 p2 : Option Addr} {n1 d1 n2 d2 : Nat} {l1 l2 : Int} {W : World} {J : Act → World → Prop} {Q : Exit → Act → World → Prop} (e : Nat → Value) (hB : Blk W xb #[.int .u8 k, .slice p1 n1 d1, .int .i64 lo, .int .i64 hi, .bool lz, .slice p2 n2 d2] 27)
    (hcall : Calls Tryz.prog 23 #[.agg #[.int .u8 k, .slice p1 n1 d1, .int .i64 lo, .int .i64 hi, .bool lz, .slice p2 n2 d2]] W fun e w' => e = .returned (.tuple #[.int .i64 l1, .int .i64 l2, .int .i64 0]) ∧ Below W.heap.size W w')
    (hJ : ∀ (m : List Value) (w' : World) , m.length = 88 → (m[5]? = some (.pointer (some ⟨xb, 0, none⟩)) ∧ m[6]? = some (.string s) ∧ True) → m[7]? = some (.int .i64 l1) → m[8]? = some (.int .i64 l2) → m[9]? = some (.int .i64 0) → Below W.heap.size W w' → J ⟨m.toArray, []⟩ w') :
    Code.wp Tryz.prog (wlC [1, 1, 1, 0]) (Exit.then J Q) ⟨#[e 0, e 1, e 2, e 3, e 4, .pointer (some ⟨xb, 0, none⟩), .string s, e 7, e 8, e 9, e 10, e 11, e 12, e 13, e 14, e 15, e 16, e 17, e 18, e 19, e 20, e 21, e 22, e 23, e 24, e 25, e 26, e 27, e 28, e 29, e 30, e 31, e 32, e 33, e 34, e 35, e 36, e 37, e 38, e 39, e 40, e 41, e 42, e 43, e 44, e 45, e 46, e 47, e 48, e 49, e 50, e 51, e 52, e 53, e 54, e 55, e 56, e 57, e 58, e 59, e 60, e 61, e 62, e 63, e 64, e 65, e 66, e 67, e 68, e 69, e 70, e 71, e 72, e 73, e 74, e 75, e 76, e 77, e 78, e 79, e 80, e 81, e 82, e 83, e 84, e 85, e 86, e 87], []⟩ W := by
  have HC := Lib.hid hcall
  have HJ := Lib.hid hJ
  have b0 := hB.cell 0
  have b1 := hB.cell 1
  have b2 := hB.cell 2
  have b3 := hB.cell 3
  have b4 := hB.cell 4
  have b5 := hB.cell 5
  have bz := hB.lt
  clear hcall hJ hB
  conv => arg 2; whnf
  go_wp2_with (go_at_call 23; go_loud (refine HC.out.mono ?_; rintro ee w2 ⟨rfl, hb⟩; have HB := Lib.hid hb; clear hb))
  exact HJ.out _ _ rfl ⟨rfl, rfl, trivial⟩ rfl rfl rfl HB.out
set_option maxHeartbeats 8000000 in
set_option maxRecDepth 100000 in
theorem wl5 {xb : Nat} {s : ByteArray} {k lo hi : Int} {lz : Bool} {p1 p2 : Option Addr} {n1 d1 n2 d2 : Nat} {nu : Bool} {W : World} {J : Act → World → Prop} {Q : Exit → Act → World → Prop} (e : Nat → Value) (hB : Blk W xb #[.int .u8 k, .slice p1 n1 d1, .int .i64 lo, .int .i64 hi, .bool lz, .slice p2 n2 d2] 27)
    (hcall : Calls Tryz.prog 24 #[.agg #[.int .u8 k, .slice p1 n1 d1, .int .i64 lo, .int .i64 hi, .bool lz, .slice p2 n2 d2]] W fun e w' => e = .returned (.tuple #[.bool nu, .int .i64 0]) ∧ Below W.heap.size W w')
    (hJ : ∀ (m : List Value) (w' : World) , m.length = 88 → (m[5]? = some (.pointer (some ⟨xb, 0, none⟩)) ∧ m[6]? = some (.string s) ∧ m[7]? = some (e 7) ∧ m[8]? = some (e 8) ∧ m[9]? = some (e 9) ∧ True) → m[10]? = some (.bool nu) → m[11]? = some (.int .i64 0) → Below W.heap.size W w' → J ⟨m.toArray, []⟩ w') :
    Code.wp Tryz.prog (wlC [1, 1, 1, 1, 0]) (Exit.then J Q) ⟨#[e 0, e 1, e 2, e 3, e 4, .pointer (some ⟨xb, 0, none⟩), .string s, e 7, e 8, e 9, e 10, e 11, e 12, e 13, e 14, e 15, e 16, e 17, e 18, e 19, e 20, e 21, e 22, e 23, e 24, e 25, e 26, e 27, e 28, e 29, e 30, e 31, e 32, e 33, e 34, e 35, e 36, e 37, e 38, e 39, e 40, e 41, e 42, e 43, e 44, e 45, e 46, e 47, e 48, e 49, e 50, e 51, e 52, e 53, e 54, e 55, e 56, e 57, e 58, e 59, e 60, e 61, e 62, e 63, e 64, e 65, e 66, e 67, e 68, e 69, e 70, e 71, e 72, e 73, e 74, e 75, e 76, e 77, e 78, e 79, e 80, e 81, e 82, e 83, e 84, e 85, e 86, e 87], []⟩ W := by
  have HC := Lib.hid hcall
  have HJ := Lib.hid hJ
  have b0 := hB.cell 0
  have b1 := hB.cell 1
  have b2 := hB.cell 2
  have b3 := hB.cell 3
  have b4 := hB.cell 4
  have b5 := hB.cell 5
  have bz := hB.lt
  clear hcall hJ hB
  conv => arg 2; whnf
  go_wp2_with (go_at_call 24; go_loud (refine HC.out.mono ?_; rintro ee w2 ⟨rfl, hb⟩; have HB := Lib.hid hb; clear hb))
  exact HJ.out _ _ rfl ⟨rfl, rfl, rfl, rfl, rfl, trivial⟩ rfl rfl HB.out
set_option maxHeartbeats 8000000 in
set_option maxRecDepth 100000 in
theorem wl6 {xb : Nat} {s : ByteArray} {k lo hi : Int} {lz : Bool} {p1 p2 : Option Addr} {n1 d1 n2 d2 : Nat} {er : Int} {n : Nat} {zs : List Int} {W : World} {J : Act → World → Prop} {Q : Exit → Act → World → Prop} (e : Nat → Value) (hB : Blk W xb #[.int .u8 k, .slice p1 n1 d1, .int .i64 lo, .int .i64 hi, .bool lz, .slice p2 n2 d2] 27)
    (hcall : Calls Tryz.prog 16 #[.agg #[.int .u8 k, .slice p1 n1 d1, .int .i64 lo, .int .i64 hi, .bool lz, .slice p2 n2 d2], .string s] W fun e w' => ∃ o c, e = .returned (.tuple #[.slice o n c, .int .i64 er]) ∧ Row (fun _ => True) w' (.slice o n c) n 1 (intZs zs) ∧ Below W.heap.size W w')
    (hJ : ∀ (m : List Value) (w' : World) (o : Option Addr) (c : Nat), m.length = 88 → (m[6]? = some (.string s) ∧ m[7]? = some (e 7) ∧ m[8]? = some (e 8) ∧ m[9]? = some (e 9) ∧ m[10]? = some (e 10) ∧ m[11]? = some (e 11) ∧ True) → m[12]? = some (.slice o n c) → m[13]? = some (.int .i64 er) → Row (fun _ => True) w' (.slice o n c) n 1 (intZs zs) → Below W.heap.size W w' → J ⟨m.toArray, []⟩ w') :
    Code.wp Tryz.prog (wlC [1, 1, 1, 1, 1, 0]) (Exit.then J Q) ⟨#[e 0, e 1, e 2, e 3, e 4, .pointer (some ⟨xb, 0, none⟩), .string s, e 7, e 8, e 9, e 10, e 11, e 12, e 13, e 14, e 15, e 16, e 17, e 18, e 19, e 20, e 21, e 22, e 23, e 24, e 25, e 26, e 27, e 28, e 29, e 30, e 31, e 32, e 33, e 34, e 35, e 36, e 37, e 38, e 39, e 40, e 41, e 42, e 43, e 44, e 45, e 46, e 47, e 48, e 49, e 50, e 51, e 52, e 53, e 54, e 55, e 56, e 57, e 58, e 59, e 60, e 61, e 62, e 63, e 64, e 65, e 66, e 67, e 68, e 69, e 70, e 71, e 72, e 73, e 74, e 75, e 76, e 77, e 78, e 79, e 80, e 81, e 82, e 83, e 84, e 85, e 86, e 87], []⟩ W := by
  have HC := Lib.hid hcall
  have HJ := Lib.hid hJ
  have b0 := hB.cell 0
  have b1 := hB.cell 1
  have b2 := hB.cell 2
  have b3 := hB.cell 3
  have b4 := hB.cell 4
  have b5 := hB.cell 5
  have bz := hB.lt
  clear hcall hJ hB
  conv => arg 2; whnf
  go_wp2_with (go_at_call 16; go_loud (refine HC.out.mono ?_; rintro ee w2 ⟨o, c, rfl, hr, hb⟩; have HB := Lib.hid hb; have HR := Lib.hid hr; clear hr; clear hb))
  exact HJ.out _ _ _ _ rfl ⟨rfl, rfl, rfl, rfl, rfl, rfl, trivial⟩ rfl rfl HR.out HB.out
set_option maxHeartbeats 8000000 in
set_option maxRecDepth 100000 in
theorem wl7  {W : World} {J : Act → World → Prop} {Q : Exit → Act → World → Prop} (e : Nat → Value) 
    (hJ : ∀ (m : List Value), m.length = 88 → (m[6]? = some (e 6) ∧ m[7]? = some (e 7) ∧ m[8]? = some (e 8) ∧ m[10]? = some (e 10) ∧ m[12]? = some (e 12) ∧ m[13]? = some (e 13) ∧ True) → J ⟨m.toArray, []⟩ W) :
    Code.wp Tryz.prog (wlC [1, 1, 1, 1, 1, 1, 0]) (Exit.then J Q) ⟨#[e 0, e 1, e 2, e 3, e 4, e 5, e 6, e 7, e 8, .int .i64 0, e 10, .int .i64 0, e 12, e 13, e 14, e 15, e 16, e 17, e 18, e 19, e 20, e 21, e 22, e 23, e 24, e 25, e 26, e 27, e 28, e 29, e 30, e 31, e 32, e 33, e 34, e 35, e 36, e 37, e 38, e 39, e 40, e 41, e 42, e 43, e 44, e 45, e 46, e 47, e 48, e 49, e 50, e 51, e 52, e 53, e 54, e 55, e 56, e 57, e 58, e 59, e 60, e 61, e 62, e 63, e 64, e 65, e 66, e 67, e 68, e 69, e 70, e 71, e 72, e 73, e 74, e 75, e 76, e 77, e 78, e 79, e 80, e 81, e 82, e 83, e 84, e 85, e 86, e 87], []⟩ W := by
  have HJ := Lib.hid hJ
  clear hJ
  conv => arg 2; whnf
  go_wp2_with fail
  exact HJ.out _ rfl ⟨rfl, rfl, rfl, rfl, rfl, rfl, trivial⟩
set_option maxHeartbeats 8000000 in
set_option maxRecDepth 100000 in
theorem wl9  {W : World} {J : Act → World → Prop} {Q : Exit → Act → World → Prop} (e : Nat → Value) 
    (hJ : ∀ (m : List Value), m.length = 88 → (m[6]? = some (e 6) ∧ m[7]? = some (e 7) ∧ m[8]? = some (e 8) ∧ m[10]? = some (e 10) ∧ m[12]? = some (e 12) ∧ True) → J ⟨m.toArray, []⟩ W) :
    Code.wp Tryz.prog (wlC [1, 1, 1, 1, 1, 1, 1, 0]) (Exit.then J Q) ⟨#[e 0, e 1, e 2, e 3, e 4, e 5, e 6, e 7, e 8, e 9, e 10, e 11, e 12, .int .i64 0, e 14, e 15, e 16, e 17, e 18, e 19, e 20, e 21, e 22, e 23, e 24, e 25, e 26, e 27, e 28, e 29, e 30, e 31, e 32, e 33, e 34, e 35, e 36, e 37, e 38, e 39, e 40, e 41, e 42, e 43, e 44, e 45, e 46, e 47, e 48, e 49, e 50, e 51, e 52, e 53, e 54, e 55, e 56, e 57, e 58, e 59, e 60, e 61, e 62, e 63, e 64, e 65, e 66, e 67, e 68, e 69, e 70, e 71, e 72, e 73, e 74, e 75, e 76, e 77, e 78, e 79, e 80, e 81, e 82, e 83, e 84, e 85, e 86, e 87], []⟩ W := by
  have HJ := Lib.hid hJ
  clear hJ
  conv => arg 2; whnf
  go_wp2_with fail
  exact HJ.out _ rfl ⟨rfl, rfl, rfl, rfl, rfl, trivial⟩
set_option maxHeartbeats 8000000 in
set_option maxRecDepth 100000 in
theorem wl9b  {W : World} {J : Act → World → Prop} {Q : Exit → Act → World → Prop} (e : Nat → Value) 
    (hJ : ∀ (m : List Value), m.length = 88 → m[4]? = some (.bool true) → Q .ret ⟨m.toArray, []⟩ W) :
    Code.wp Tryz.prog (wlC [1, 1, 1, 1, 1, 1, 1, 0]) (Exit.then J Q) ⟨#[e 0, e 1, e 2, e 3, e 4, e 5, e 6, e 7, e 8, e 9, e 10, e 11, e 12, .int .i64 5, e 14, e 15, e 16, e 17, e 18, e 19, e 20, e 21, e 22, e 23, e 24, e 25, e 26, e 27, e 28, e 29, e 30, e 31, e 32, e 33, e 34, e 35, e 36, e 37, e 38, e 39, e 40, e 41, e 42, e 43, e 44, e 45, e 46, e 47, e 48, e 49, e 50, e 51, e 52, e 53, e 54, e 55, e 56, e 57, e 58, e 59, e 60, e 61, e 62, e 63, e 64, e 65, e 66, e 67, e 68, e 69, e 70, e 71, e 72, e 73, e 74, e 75, e 76, e 77, e 78, e 79, e 80, e 81, e 82, e 83, e 84, e 85, e 86, e 87], []⟩ W := by
  have HJ := Lib.hid hJ
  clear hJ
  conv => arg 2; whnf
  go_wp2_with fail
  exact HJ.out _ rfl rfl
set_option maxHeartbeats 8000000 in
set_option maxRecDepth 100000 in
theorem wl_none {s : ByteArray} {l1 l2 : Int} {eb eo ne c i q k c2 : Nat} {W2 : World} {W : World} {J : Act → World → Prop} {Q : Exit → Act → World → Prop} (e : Nat → Value) (hi : i < ne) (hne : ne ≤ 500) (hc : ne ≤ c) (ez : eb < W.heap.size) (hs : s.size ≤ 32) (hq : q ≤ s.size) (hk : k ≤ 32) (d : W.cell? ⟨eb, eo + i, none⟩ = some (.int .i64 q))
    (hrun : (convert 9 66 (.string (s.extract 0 q))).run Tryz.prog W = .ok (.slice (some ⟨W.heap.size, 0, none⟩) k c2) W2) (hb2 : Below W.heap.size W W2) (hl1 : l1 ≤ k) (hl2 : l2 = -1)
    (hJ : ∀ (m : List Value) (w' : World), m.length = 88 → (m[6]? = some (.string s) ∧ m[7]? = some (.int .i64 l1) ∧ m[8]? = some (.int .i64 l2) ∧ m[10]? = some (e 10) ∧ m[12]? = some (e 12) ∧ m[52]? = some (.slice (some ⟨eb, eo, none⟩) ne c) ∧ m[53]? = some (.int .i64 ne)) → m[54]? = some (.int .i64 (i + 1)) → Below W.heap.size W w' → J ⟨m.toArray, []⟩ w') :
    Code.wp Tryz.prog (wlC [1, 1, 1, 1, 1, 1, 1, 1, 0, 1, 0, 0]) (Exit.then J Q) ⟨#[e 0, e 1, e 2, e 3, e 4, e 5, .string s, .int .i64 l1, .int .i64 l2, e 9, e 10, e 11, e 12, e 13, e 14, e 15, e 16, e 17, e 18, e 19, e 20, e 21, e 22, e 23, e 24, e 25, e 26, e 27, e 28, e 29, e 30, e 31, e 32, e 33, e 34, e 35, e 36, e 37, e 38, e 39, e 40, e 41, e 42, e 43, e 44, e 45, e 46, e 47, e 48, e 49, e 50, e 51, .slice (some ⟨eb, eo, none⟩) ne c, .int .i64 ne, .int .i64 i, e 55, e 56, e 57, e 58, e 59, e 60, e 61, e 62, e 63, e 64, e 65, e 66, e 67, e 68, e 69, e 70, e 71, e 72, e 73, e 74, e 75, e 76, e 77, e 78, e 79, e 80, e 81, e 82, e 83, e 84, e 85, e 86, e 87], []⟩ W := by
  have hiI : (i : Int) < ne := by omega
  have hnI : (ne : Int) ≤ 500 := by omega
  have hcI : (ne : Int) ≤ c := by omega
  have hsI : (s.size : Int) ≤ 32 := by omega
  have hqI : ¬ (s.size : Int) < q := by omega
  have hqI2 : (q : Int) ≤ s.size := by omega
  have hkI : (k : Int) ≤ 32 := by omega
  have hl1I : ¬ (k : Int) < l1 := by omega
  subst hl2
  have HJ := Lib.hid hJ
  have HB2 := Lib.hid hb2
  clear hJ hb2
  conv => arg 2; whnf
  go_wp2_with fail
  exact HJ.out _ _ rfl ⟨rfl, rfl, rfl, rfl, rfl, rfl, rfl⟩ rfl HB2.out
set_option maxHeartbeats 8000000 in
set_option maxRecDepth 100000 in
theorem wl_some {s : ByteArray} {l1 l2 : Int} {eb eo ne c i q k c2 : Nat} {W2 : World} {W : World} {J : Act → World → Prop} {Q : Exit → Act → World → Prop} (e : Nat → Value) (hi : i < ne) (hne : ne ≤ 500) (hc : ne ≤ c) (ez : eb < W.heap.size) (hs : s.size ≤ 32) (hq : q ≤ s.size) (hk : k ≤ 32) (d : W.cell? ⟨eb, eo + i, none⟩ = some (.int .i64 q))
    (hrun : (convert 9 66 (.string (s.extract 0 q))).run Tryz.prog W = .ok (.slice (some ⟨W.heap.size, 0, none⟩) k c2) W2) (hb2 : Below W.heap.size W W2) (hl1 : l1 ≤ k) (hl2 : (k : Int) ≤ l2)
    (hJ : ∀ (m : List Value) (w' : World), m.length = 88 → (m[6]? = some (.string s) ∧ m[7]? = some (.int .i64 l1) ∧ m[8]? = some (.int .i64 l2) ∧ m[10]? = some (e 10) ∧ m[12]? = some (e 12) ∧ m[52]? = some (.slice (some ⟨eb, eo, none⟩) ne c) ∧ m[53]? = some (.int .i64 ne)) → m[54]? = some (.int .i64 (i + 1)) → Below W.heap.size W w' → J ⟨m.toArray, []⟩ w') :
    Code.wp Tryz.prog (wlC [1, 1, 1, 1, 1, 1, 1, 1, 0, 1, 0, 0]) (Exit.then J Q) ⟨#[e 0, e 1, e 2, e 3, e 4, e 5, .string s, .int .i64 l1, .int .i64 l2, e 9, e 10, e 11, e 12, e 13, e 14, e 15, e 16, e 17, e 18, e 19, e 20, e 21, e 22, e 23, e 24, e 25, e 26, e 27, e 28, e 29, e 30, e 31, e 32, e 33, e 34, e 35, e 36, e 37, e 38, e 39, e 40, e 41, e 42, e 43, e 44, e 45, e 46, e 47, e 48, e 49, e 50, e 51, .slice (some ⟨eb, eo, none⟩) ne c, .int .i64 ne, .int .i64 i, e 55, e 56, e 57, e 58, e 59, e 60, e 61, e 62, e 63, e 64, e 65, e 66, e 67, e 68, e 69, e 70, e 71, e 72, e 73, e 74, e 75, e 76, e 77, e 78, e 79, e 80, e 81, e 82, e 83, e 84, e 85, e 86, e 87], []⟩ W := by
  have hiI : (i : Int) < ne := by omega
  have hnI : (ne : Int) ≤ 500 := by omega
  have hcI : (ne : Int) ≤ c := by omega
  have hsI : (s.size : Int) ≤ 32 := by omega
  have hqI : ¬ (s.size : Int) < q := by omega
  have hqI2 : (q : Int) ≤ s.size := by omega
  have hkI : (k : Int) ≤ 32 := by omega
  have hl1I : ¬ (k : Int) < l1 := by omega
  have hl20 : (0 : Int) ≤ l2 := by omega
  have hl2I : ¬ l2 < (k : Int) := by omega
  have HJ := Lib.hid hJ
  have HB2 := Lib.hid hb2
  clear hJ hb2
  conv => arg 2; whnf
  go_wp2_with fail
  exact HJ.out _ _ rfl ⟨rfl, rfl, rfl, rfl, rfl, rfl, rfl⟩ rfl HB2.out
end Go.Proofs.YtnhjakdmbfadlaaGreatDoor
