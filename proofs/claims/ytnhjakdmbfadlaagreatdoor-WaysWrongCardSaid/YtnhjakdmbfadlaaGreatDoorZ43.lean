/- Parts of the proof: Wb. Conditions: none. -/
import Derived.Test.YtnhjakdmbfadlaaGreatDoorZ41
import Derived.Test.YtnhjakdmbfadlaaGreatDoorZ42
set_option linter.all false
/- WaysWrong whole. -/
namespace Go.Proofs.YtnhjakdmbfadlaaGreatDoor
open Go.RowKit Wy Mem Grow

/-- the four rejections, as the law's list holds them -/
def WrC (q : Nat) (W : World) : Prop := ∀ j, j < 4 → ∃ (er : Int) (s : ByteArray) (k lo hi : Int) (lz : Bool) (p1 p2 : Option Addr) (n1 d1 n2 d2 : Nat),
  W.cell? ⟨q, j * 8, none⟩ = some (.int .u8 k) ∧ W.cell? ⟨q, j * 8 + 1, none⟩ = some (.slice p1 n1 d1) ∧ W.cell? ⟨q, j * 8 + 2, none⟩ = some (.int .i64 lo) ∧ W.cell? ⟨q, j * 8 + 3, none⟩ = some (.int .i64 hi) ∧ W.cell? ⟨q, j * 8 + 4, none⟩ = some (.bool lz) ∧ W.cell? ⟨q, j * 8 + 5, none⟩ = some (.slice p2 n2 d2) ∧ W.cell? ⟨q, j * 8 + 6, none⟩ = some (.string s) ∧ W.cell? ⟨q, j * 8 + 7, none⟩ = some (.int .i64 er) ∧ AllBad er s [.int .u8 k, .slice p1 n1 d1, .int .i64 lo, .int .i64 hi, .bool lz, .slice p2 n2 d2] W
def Wri (q : Nat) (W1 : World) (n : Nat) (a : Act) (w : World) : Prop := ∃ (m : List Value) (j : Nat), a = ⟨m.toArray, []⟩ ∧ m.length = 157 ∧ m[54]? = some (.slice (some ⟨q, 0, none⟩) 4 4) ∧ m[55]? = some (.int .i64 4) ∧ m[56]? = some (.int .i64 j) ∧ j ≤ 4 ∧ n = 4 - j ∧ Below W1.heap.size W1 w
set_option maxRecDepth 100000 in
theorem wr_loop {q n : Nat} {W1 w : World} {a : Act} {Q : Exit → Act → World → Prop} (hI : Wri q W1 n a w) (hC : WrC q W1) (hz : q < W1.heap.size)
    (hQ : ∀ (m : List Value) (w' : World), m.length = 157 → Below W1.heap.size W1 w' → Q (.exit 0) ⟨m.toArray, []⟩ w') :
    Code.wp Tryz.prog (wrC [1, 1, 1, 1, 1, 0, 1, 0, 0]) (Exit.then (fun a' w' => ∃ n', n' < n ∧ Wri q W1 n' a' w') Q) a w := by
  obtain ⟨m, j, rfl, hm, h54, h55, h56, hj, hn, hb⟩ := hI
  obtain ⟨e, rfl⟩ := frame157 hm
  have h54 : e 54 = _ := Option.some.inj h54
  have h55 : e 55 = _ := Option.some.inj h55
  have h56 : e 56 = _ := Option.some.inj h56
  rw [h54, h55, h56]
  by_cases hj4 : j < 4
  · obtain ⟨er, s, k, lo, hi, lz, p1, p2, n1, d1, n2, d2, c0, c1, c2, c3, c4, c5, c6, c7, hbad⟩ := hC j hj4
    exact wr_round e hj4 (Nat.lt_of_lt_of_le hz hb.size) ((hb.cell (p := ⟨q, j * 8, none⟩) hz).trans c0) ((hb.cell (p := ⟨q, j * 8 + 1, none⟩) hz).trans c1) ((hb.cell (p := ⟨q, j * 8 + 2, none⟩) hz).trans c2) ((hb.cell (p := ⟨q, j * 8 + 3, none⟩) hz).trans c3) ((hb.cell (p := ⟨q, j * 8 + 4, none⟩) hz).trans c4) ((hb.cell (p := ⟨q, j * 8 + 5, none⟩) hz).trans c5) ((hb.cell (p := ⟨q, j * 8 + 6, none⟩) hz).trans c6) ((hb.cell (p := ⟨q, j * 8 + 7, none⟩) hz).trans c7) (hbad.below hb)
      (fun m w' k0 k54 k55 k56 hb' => ⟨4 - (j + 1), by omega, m, j + 1, rfl, k0, k54, k55, k56, by omega, rfl, hb.trans (hb'.mono hb.size)⟩)
  · obtain rfl : j = 4 := by omega
    exact wr_exit e (fun m k0 => hQ m w k0 hb)
set_option maxHeartbeats 8000000 in
set_option maxRecDepth 100000 in
theorem wr_tail {xb bb : Nat} {s lg : ByteArray} {k lo hi : Int} {lz : Bool} {p1 p2 : Option Addr} {n1 d1 n2 d2 : Nat} {kb lob hib : Int} {lzb : Bool} {pb1 pb2 : Option Addr} {nb1 db1 nb2 db2 : Nat} {W : World} {Q : Exit → Act → World → Prop} (e : Nat → Value) (hs : s.size ≤ 24) (hl : lg.size ≤ 57) (hB : Blk W xb #[.int .u8 k, .slice p1 n1 d1, .int .i64 lo, .int .i64 hi, .bool lz, .slice p2 n2 d2] 27) (hC : Blk W bb #[.int .u8 kb, .slice pb1 nb1 db1, .int .i64 lob, .int .i64 hib, .bool lzb, .slice pb2 nb2 db2] 27)
    (h1 : AllBad 73 (lg ++ ffB) [.int .u8 kb, .slice pb1 nb1 db1, .int .i64 lob, .int .i64 hib, .bool lzb, .slice pb2 nb2 db2] W) (h2 : AllBad 3 (lg ++ ffB) [.int .u8 k, .slice p1 n1 d1, .int .i64 lo, .int .i64 hi, .bool lz, .slice p2 n2 d2] W) (h3 : AllBad 80 (s ++ ffB) [.int .u8 k, .slice p1 n1 d1, .int .i64 lo, .int .i64 hi, .bool lz, .slice p2 n2 d2] W) (h4 : AllBad 80 (c3B ++ s) [.int .u8 k, .slice p1 n1 d1, .int .i64 lo, .int .i64 hi, .bool lz, .slice p2 n2 d2] W)
    (hRet : ∀ (m : List Value) (w' : World), m.length = 157 → m[6]? = some (.bool true) → Below W.heap.size W w' → Q .ret ⟨m.toArray, []⟩ w') :
    Code.wp Tryz.prog (wrC [1, 1, 1, 1, 1]) Q ⟨#[e 0, e 1, e 2, e 3, e 4, e 5, e 6, .pointer (some ⟨xb, 0, none⟩), .string s, .pointer (some ⟨bb, 0, none⟩), .string lg, e 11, e 12, e 13, e 14, e 15, e 16, e 17, e 18, e 19, e 20, e 21, e 22, e 23, e 24, e 25, e 26, e 27, e 28, e 29, e 30, e 31, e 32, e 33, e 34, e 35, e 36, e 37, e 38, e 39, e 40, e 41, e 42, e 43, e 44, e 45, e 46, e 47, e 48, e 49, e 50, e 51, e 52, e 53, e 54, e 55, e 56, e 57, e 58, e 59, e 60, e 61, e 62, e 63, e 64, e 65, e 66, e 67, e 68, e 69, e 70, e 71, e 72, e 73, e 74, e 75, e 76, e 77, e 78, e 79, e 80, e 81, e 82, e 83, e 84, e 85, e 86, e 87, e 88, e 89, e 90, e 91, e 92, e 93, e 94, e 95, e 96, e 97, e 98, e 99, e 100, e 101, e 102, e 103, e 104, e 105, e 106, e 107, e 108, e 109, e 110, e 111, e 112, e 113, e 114, e 115, e 116, e 117, e 118, e 119, e 120, e 121, e 122, e 123, e 124, e 125, e 126, e 127, e 128, e 129, e 130, e 131, e 132, e 133, e 134, e 135, e 136, e 137, e 138, e 139, e 140, e 141, e 142, e 143, e 144, e 145, e 146, e 147, e 148, e 149, e 150, e 151, e 152, e 153, e 154, e 155, e 156], []⟩ W := by
  have HRET := Lib.hid hRet
  have H := Lib.hid (show _ ∧ _ ∧ _ ∧ _ from ⟨h1, h2, h3, h4⟩)
  have b0 := hB.cell 0
  have b1 := hB.cell 1
  have b2 := hB.cell 2
  have b3 := hB.cell 3
  have b4 := hB.cell 4
  have b5 := hB.cell 5
  have bz := hB.lt
  have c0 := hC.cell 0
  have c1 := hC.cell 1
  have c2 := hC.cell 2
  have c3 := hC.cell 3
  have c4 := hC.cell 4
  have c5 := hC.cell 5
  have cz := hC.lt
  clear hRet h1 h2 h3 h4 hB hC
  conv => arg 2; whnf
  go_wp2_with fail
  rename_i K1 hK1
  have hQ : Blk (W.alloc (.cells #[.int .u8 kb, .slice pb1 nb1 db1, .int .i64 lob, .int .i64 hib, .bool lzb, .slice pb2 nb2 db2, .string (lg ++ (⟨#[255]⟩ : ByteArray)), .int .i64 73, .int .u8 k, .slice p1 n1 d1, .int .i64 lo, .int .i64 hi, .bool lz, .slice p2 n2 d2, .string (lg ++ (⟨#[255]⟩ : ByteArray)), .int .i64 3, .int .u8 k, .slice p1 n1 d1, .int .i64 lo, .int .i64 hi, .bool lz, .slice p2 n2 d2, .string (s ++ (⟨#[255]⟩ : ByteArray)), .int .i64 80, .int .u8 k, .slice p1 n1 d1, .int .i64 lo, .int .i64 hi, .bool lz, .slice p2 n2 d2, .string ((⟨#[195]⟩ : ByteArray) ++ s), .int .i64 80] 36)) W.heap.size #[.int .u8 kb, .slice pb1 nb1 db1, .int .i64 lob, .int .i64 hib, .bool lzb, .slice pb2 nb2 db2, .string (lg ++ (⟨#[255]⟩ : ByteArray)), .int .i64 73, .int .u8 k, .slice p1 n1 d1, .int .i64 lo, .int .i64 hi, .bool lz, .slice p2 n2 d2, .string (lg ++ (⟨#[255]⟩ : ByteArray)), .int .i64 3, .int .u8 k, .slice p1 n1 d1, .int .i64 lo, .int .i64 hi, .bool lz, .slice p2 n2 d2, .string (s ++ (⟨#[255]⟩ : ByteArray)), .int .i64 80, .int .u8 k, .slice p1 n1 d1, .int .i64 lo, .int .i64 hi, .bool lz, .slice p2 n2 d2, .string ((⟨#[195]⟩ : ByteArray) ++ s), .int .i64 80] 36 := Blk.new _ _ _
  have hb : Below W.heap.size W (W.alloc (.cells #[.int .u8 kb, .slice pb1 nb1 db1, .int .i64 lob, .int .i64 hib, .bool lzb, .slice pb2 nb2 db2, .string (lg ++ (⟨#[255]⟩ : ByteArray)), .int .i64 73, .int .u8 k, .slice p1 n1 d1, .int .i64 lo, .int .i64 hi, .bool lz, .slice p2 n2 d2, .string (lg ++ (⟨#[255]⟩ : ByteArray)), .int .i64 3, .int .u8 k, .slice p1 n1 d1, .int .i64 lo, .int .i64 hi, .bool lz, .slice p2 n2 d2, .string (s ++ (⟨#[255]⟩ : ByteArray)), .int .i64 80, .int .u8 k, .slice p1 n1 d1, .int .i64 lo, .int .i64 hi, .bool lz, .slice p2 n2 d2, .string ((⟨#[195]⟩ : ByteArray) ++ s), .int .i64 80] 36)) := (Below.refl _ _).alloc (Nat.le_refl _) _
  generalize (W.alloc (.cells #[.int .u8 kb, .slice pb1 nb1 db1, .int .i64 lob, .int .i64 hib, .bool lzb, .slice pb2 nb2 db2, .string (lg ++ (⟨#[255]⟩ : ByteArray)), .int .i64 73, .int .u8 k, .slice p1 n1 d1, .int .i64 lo, .int .i64 hi, .bool lz, .slice p2 n2 d2, .string (lg ++ (⟨#[255]⟩ : ByteArray)), .int .i64 3, .int .u8 k, .slice p1 n1 d1, .int .i64 lo, .int .i64 hi, .bool lz, .slice p2 n2 d2, .string (s ++ (⟨#[255]⟩ : ByteArray)), .int .i64 80, .int .u8 k, .slice p1 n1 d1, .int .i64 lo, .int .i64 hi, .bool lz, .slice p2 n2 d2, .string ((⟨#[195]⟩ : ByteArray) ++ s), .int .i64 80] 36)) = W1 at hQ hb ⊢
  obtain ⟨h1, h2, h3, h4⟩ := H.out
  have hW : WrC W.heap.size W1 := by
    intro j hj
    match j, hj with
    | 0, _ => exact ⟨_, _, _, _, _, _, _, _, _, _, _, _, hQ.cell 0, hQ.cell 1, hQ.cell 2, hQ.cell 3, hQ.cell 4, hQ.cell 5, hQ.cell 6, hQ.cell 7, h1.below hb⟩
    | 1, _ => exact ⟨_, _, _, _, _, _, _, _, _, _, _, _, hQ.cell 8, hQ.cell 9, hQ.cell 10, hQ.cell 11, hQ.cell 12, hQ.cell 13, hQ.cell 14, hQ.cell 15, h2.below hb⟩
    | 2, _ => exact ⟨_, _, _, _, _, _, _, _, _, _, _, _, hQ.cell 16, hQ.cell 17, hQ.cell 18, hQ.cell 19, hQ.cell 20, hQ.cell 21, hQ.cell 22, hQ.cell 23, h3.below hb⟩
    | 3, _ => exact ⟨_, _, _, _, _, _, _, _, _, _, _, _, hQ.cell 24, hQ.cell 25, hQ.cell 26, hQ.cell 27, hQ.cell 28, hQ.cell 29, hQ.cell 30, hQ.cell 31, h4.below hb⟩
  have hz := hQ.lt
  refine wp_loop_ghost (Wri W.heap.size W1) 4 ?_ (fun n a w' hI => wr_loop hI hW hz ?_)
  · exact ⟨_, 0, rfl, rfl, rfl, rfl, rfl, by omega, rfl, Below.refl _ _⟩
  · intro m w2 hm hb2
    obtain ⟨f, rfl⟩ := frame157 hm
    have HB := Lib.hid (hb.trans (hb2.mono hb.size))
    clear hQ hb hW hz hb2 h1 h2 h3 h4 H b0 b1 b2 b3 b4 b5 bz c0 c1 c2 c3 c4 c5 cz
    refine hK1 _ _ ?_
    go_wp2_with fail
    exact HRET.out _ _ rfl rfl HB.out
theorem bytes_size (a b : ByteArray) : (a ++ b).size = a.size + b.size := ByteArray.size_append
theorem bytes_data (a b : ByteArray) : (a ++ b).data.toList = a.data.toList ++ b.data.toList := by rw [ByteArray.data_append, Array.toList_append]
set_option maxRecDepth 100000 in
theorem wr_rest {xb : Nat} {l : List Nat} {x : Nd} {z : Int} {k lo hi : Int} {lz : Bool} {p1 p2 : Option Addr} {n1 d1 n2 d2 : Nat} {W0 W : World} {Q : Exit → Act → World → Prop} (m : List Value) (hm : m.length = 157) (g2 : m[2]? = some (.int .i64 z)) (g7 : m[7]? = some (.pointer (some ⟨xb, 0, none⟩))) (g8 : m[8]? = some (.string (strB (textL l)))) (hz : I64 z)
    (hB : Blk W xb #[.int .u8 k, .slice p1 n1 d1, .int .i64 lo, .int .i64 hi, .bool lz, .slice p2 n2 d2] 27) (hx : NdAt (fun _ => True) W x [.int .u8 k, .slice p1 n1 d1, .int .i64 lo, .int .i64 hi, .bool lz, .slice p2 n2 d2]) (gx : Wy.Good x 21 20) (nx : nodes x ≤ 21) (hss : (strB (textL l)).size ≤ 24) (htab : Lib.Utf8Tabs 0 1 W0) (hnone : NoneAt W0) (hb : Below W0.heap.size W0 W)
    (hRet : ∀ (m : List Value) (w' : World), m.length = 157 → m[6]? = some (.bool true) → Below W0.heap.size W0 w' → Q .ret ⟨m.toArray, []⟩ w') :
    Code.wp Tryz.prog (wrC [1, 1, 1]) Q ⟨m.toArray, []⟩ W := by
  have go : ∀ {w w' : World} {t : Nd} {cs : List Value}, Below w.heap.size w w' → NdAt (fun _ => True) w t cs → NdAt (fun _ => True) w' t cs := fun hb hn => NdAt.go (Kept.of_below hb (fun _ => False)) (fun _ _ h => ⟨id, h⟩) hn
  have rx : right x = true := gx.right (by omega) (by omega)
  have hend : Lib.validD (strB (textL l) ++ ffB).data.toList = false := by
    rw [bytes_data]
    exact bad_end l
  have hsta : Lib.validD (c3B ++ strB (textL l)).data.toList = false := by
    rw [bytes_data]
    exact bad_start l
  have hff : ffB.size = 1 := rfl
  have hc3 : c3B.size = 1 := rfl
  have hdg : digB.size = 33 := rfl
  generalize strB (textL l) = s at g8 hss hend hsta
  obtain ⟨e, rfl⟩ := frame157 hm
  have g2 : e 2 = _ := Option.some.inj g2
  have g7 : e 7 = _ := Option.some.inj g7
  have g8 : e 8 = _ := Option.some.inj g8
  show Code.wp Tryz.prog (Code.seq (wrC [1, 1, 1, 0]) (wrC [1, 1, 1, 1])) Q _ _
  rw [g2, g7]
  refine wp_seq (wr4 e hz hB (fun m k0 k7 k8 k9 => ?_))
  have hb1 : Below W.heap.size W ((W.alloc (.cells #[.int .u8 k, .slice p1 n1 d1, .int .i64 lo, .int .i64 hi, .bool lz, .slice p2 n2 d2] 27)).alloc (.cells #[.int .u8 5, .slice none 0 0, .int .i64 (max z 2), .int .i64 1, .bool false, .slice (some ⟨W.heap.size, 0, none⟩) 1 1] 27)) := ((Below.refl _ _).alloc (Nat.le_refl _) _).alloc (by simp) _
  have hQ1 : Blk ((W.alloc (.cells #[.int .u8 k, .slice p1 n1 d1, .int .i64 lo, .int .i64 hi, .bool lz, .slice p2 n2 d2] 27)).alloc (.cells #[.int .u8 5, .slice none 0 0, .int .i64 (max z 2), .int .i64 1, .bool false, .slice (some ⟨W.heap.size, 0, none⟩) 1 1] 27)) W.heap.size #[.int .u8 k, .slice p1 n1 d1, .int .i64 lo, .int .i64 hi, .bool lz, .slice p2 n2 d2] 27 := (Blk.new _ _ _).alloc _
  have hA1 : Blk ((W.alloc (.cells #[.int .u8 k, .slice p1 n1 d1, .int .i64 lo, .int .i64 hi, .bool lz, .slice p2 n2 d2] 27)).alloc (.cells #[.int .u8 5, .slice none 0 0, .int .i64 (max z 2), .int .i64 1, .bool false, .slice (some ⟨W.heap.size, 0, none⟩) 1 1] 27)) (W.heap.size + 1) #[.int .u8 5, .slice none 0 0, .int .i64 (max z 2), .int .i64 1, .bool false, .slice (some ⟨W.heap.size, 0, none⟩) 1 1] 27 := Blk.new' _ _ (by simp)
  generalize ((W.alloc (.cells #[.int .u8 k, .slice p1 n1 d1, .int .i64 lo, .int .i64 hi, .bool lz, .slice p2 n2 d2] 27)).alloc (.cells #[.int .u8 5, .slice none 0 0, .int .i64 (max z 2), .int .i64 1, .bool false, .slice (some ⟨W.heap.size, 0, none⟩) 1 1] 27)) = W1 at hb1 hQ1 hA1 ⊢
  generalize W.heap.size = qb at hQ1 hA1 k9
  have hb01 := hb.trans (hb1.mono hb.size)
  have hB1 := hB.below hb1 hB.lt
  have hx1 := go hb1 hx
  have hz2 : 2 ≤ max z 2 := by omega
  have hzI : I64 (max z 2) := ⟨by have := hz.1; omega, by have := hz.2; omega⟩
  have hbad : NdAt (fun _ => True) W1 (.mk 5 [] (max z 2) 1 false [x]) _ := nd_one (T := 27) hQ1 trivial hx1 (by omega) hzI ⟨by omega, by omega⟩
  have nb : nodes (.mk 5 [] (max z 2) 1 false [x]) ≤ 1000000 := by simp only [nodes, nodesL]; omega
  have rb := bad_tree x hz2
  have t1 := tabs_below htab hnone hb01
  have n1' := hnone.below hb01
  obtain ⟨f, rfl⟩ := frame157 k0
  have k7 : f 7 = .pointer (some ⟨xb, 0, none⟩) := Option.some.inj k7
  have k8 : f 8 = .string s := (Option.some.inj k8).trans g8
  have k9 : f 9 = .pointer (some ⟨qb + 1, 0, none⟩) := Option.some.inj k9
  show Code.wp Tryz.prog (Code.seq (wrC [1, 1, 1, 1, 0]) (wrC [1, 1, 1, 1, 1])) Q _ _
  rw [k8]
  refine wp_seq (wr5 f hss (fun m k0 j7 j8 j9 j10 => ?_))
  obtain ⟨c, rfl⟩ := frame157 k0
  have j7 : c 7 = .pointer (some ⟨xb, 0, none⟩) := (Option.some.inj j7).trans k7
  have j8 : c 8 = .string s := Option.some.inj j8
  have j9 : c 9 = .pointer (some ⟨qb + 1, 0, none⟩) := (Option.some.inj j9).trans k9
  have j10 : c 10 = .string (s ++ digB) := Option.some.inj j10
  show Code.wp Tryz.prog (wrC [1, 1, 1, 1, 1]) Q _ _
  rw [j7, j8, j9, j10]
  have hbadA : ∀ {w'}, Below W1.heap.size W1 w' → Below W0.heap.size W0 w' := fun h => hb01.trans (h.mono hb01.size)
  exact wr_tail c hss (by rw [bytes_size]; omega) hB1 hA1
    ⟨.inl rfl, fun w' h => all_tree (go h hbad) nb rb⟩
    ⟨.inr (.inl rfl), fun w' h => all_long (go h hx1) (by omega) rx (by rw [bytes_size, bytes_size]; omega) (by rw [bytes_size, bytes_size]; omega)⟩
    ⟨.inr (.inr rfl), fun w' h => all_text (go h hx1) (by omega) rx (by rw [bytes_size]; omega) hend (tabs_below t1 n1' h) (n1'.below h)⟩
    ⟨.inr (.inr rfl), fun w' h => all_text (go h hx1) (by omega) rx (by rw [bytes_size]; omega) hsta (tabs_below t1 n1' h) (n1'.below h)⟩
    (fun m w' k0 k6 h => hRet m w' k0 k6 (hbadA h))
set_option maxRecDepth 100000 in
theorem wr3m {va vb v2 : Value} {s : ByteArray} {x : Nd} {W : World} {J : Act → World → Prop} {Q : Exit → Act → World → Prop} (m : List Value) (hm : m.length = 157) (g0 : m[0]? = some va) (g1 : m[1]? = some vb) (g2 : m[2]? = some v2)
    (hmx : Calls Tryz.prog 9 #[va] W (Mdw x W))
    (htx : ∀ w', Below W.heap.size W w' → Calls Tryz.prog 12 #[vb, .int .i64 8] w' (fun e w'' => e = .returned (.string s) ∧ Below w'.heap.size w' w''))
    (hJ : ∀ (m : List Value) (w' : World) (b : Nat) (xs : List Value), m.length = 157 → m[2]? = some v2 → m[7]? = some (.pointer (some ⟨b, 0, none⟩)) → m[8]? = some (.string s) → Blk w' b xs.toArray 27 → NdAt (fun _ => True) w' x xs → Below W.heap.size W w' → J ⟨m.toArray, []⟩ w') :
    Code.wp Tryz.prog (wrC [1, 1, 0]) (Exit.then J Q) ⟨m.toArray, []⟩ W := by
  obtain ⟨e, rfl⟩ := frame157 hm
  have g0 : e 0 = va := Option.some.inj g0
  have g1 : e 1 = vb := Option.some.inj g1
  have g2 : e 2 = v2 := Option.some.inj g2
  rw [g0, g1]
  exact wr3 e hmx htx (fun m w' b xs k0 k2 => hJ m w' b xs k0 (k2.trans (congrArg some g2)))
set_option maxHeartbeats 8000000 in
set_option maxRecDepth 100000 in
theorem wrong_any {N M : Nat → Prop} {w : World} {v1 v2 : Value} {L : List Sm} {B : List Nat} {z : Int} (h1 : SmsAt N w v1 L) (h2 : U8At M w v2 B) (hz : I64 z) (hL : L.length ≤ 9223372036854775807) (hB : B.length ≤ 9223372036854775807) (htab : Lib.Utf8Tabs 0 1 w) (hnone : NoneAt w) :
    Calls Tryz.prog 5 #[v1, v2, .int .i64 z] w fun e w' => e = .returned (.bool true) ∧ Below w.heap.size w w' := by
  have hmx : ∀ w', Below w.heap.size w w' → Calls Tryz.prog 9 #[v1] w' (Mdw (madeT L) w') := fun w' hb => (made_any (h1.below hb) hL).mono fun e w' ⟨cs, h1, h2, h3⟩ => by
    obtain ⟨k, lo, hi, lz, p1, p2, n1, d1, n2, d2, rfl⟩ := nd6k h2
    exact ⟨k, lo, hi, lz, p1, p2, n1, d1, n2, d2, h1, NdAt.mono (fun _ _ => trivial) h2, h3⟩
  have htx : ∀ w', Below w.heap.size w w' → Calls Tryz.prog 12 #[v2, .int .i64 8] w' fun e w'' => e = .returned (.string (strB (textL (B.take 8)))) ∧ Below w'.heap.size w' w'' := fun w' hb => text_any (m := 8) (h2.below hb) (by omega) hB
  have haw := awake_any w htab hnone
  have HMX := Lib.hid hmx
  have HTX := Lib.hid htx
  have HAW := Lib.hid haw
  have HT := Lib.hid htab
  have HN := Lib.hid hnone
  have HZ := Lib.hid hz
  clear h1 h2 hmx htx haw htab hnone hL hB hz
  go_enter Tryz.func5, Tryz.ntmps5
  go_upto_region 3 with (go_at_call 10; go_loud (refine HAW.out.mono ?_; rintro ee w1 ⟨rfl, hb1⟩; have HB1 := Lib.hid hb1; clear hb1))
  rename_i K1 hK1
  have hss : (strB (textL (B.take 8))).size ≤ 24 := text_size B 8 (by omega)
  have gx : Wy.Good (madeT L) 21 20 := made_good L (by rw [List.length_take]; omega)
  have nx : nodes (madeT L) ≤ 21 := nodes_made _
  refine wr3m _ rfl rfl rfl rfl (HMX.out _ HB1.out) (fun w' hb => HTX.out w' (HB1.out.trans (hb.mono HB1.out.size))) (fun m w2 b xs k0 k2 k7 k8 B9 X hb2 => hK1 _ _ ?_)
  have hb12 := HB1.out.trans (hb2.mono HB1.out.size)
  obtain ⟨kx, lox, hix, lzx, px1, px2, nx1, dx1, nx2, dx2, rfl⟩ := nd6k X
  refine wr_rest (W0 := w) m k0 k2 k7 k8 HZ.out B9 X gx nx hss HT.out HN.out hb12 (fun m w3 h0 h6 hb3 => ?_)
  obtain ⟨f, rfl⟩ := frame157 h0
  have h6 : f 6 = .bool true := Option.some.inj h6
  rw [h6]
  exact bodyPost_ret (v := .bool true) (by simp [results, Tryz.results5, go_sem]) rfl ⟨rfl, hb3⟩
end Go.Proofs.YtnhjakdmbfadlaaGreatDoor
