/- Parts of the proof: Whd. Conditions: none. -/
import Derived.Test.YtnhjakdmbfadlaaGreatDoorY42
set_option linter.all false
/- WaysWhole: the round of the loop over the ways. -/
namespace Go.Proofs.YtnhjakdmbfadlaaGreatDoor
open Go.RowKit Wy Mem Grow

set_option maxHeartbeats 8000000 in
set_option maxRecDepth 100000 in
theorem wh20_b0 {wb off n c7 j b14 ne c9 n11 c11 np c21 wh sc : Nat} {o9 o11 o21 so : Option Addr} {sv14 : Value} {x : Wy.Way} {P : List Nat} {s : ByteArray} {W : World} {J : Act → World → Prop} {Q : Exit → Act → World → Prop} (e : Nat → Value) (hj : j < n) (hn : n ≤ 500) (hc7 : n ≤ c7) (hwh : wh ≤ 500) (hs : s.size ≤ 32) (hst : x.stop ≤ 64)
    (y0 : W.cell? ⟨wb, off + j * 2, none⟩ = some (.int .i64 x.stop)) (y1 : W.cell? ⟨wb, off + j * 2 + 1, none⟩ = some (.slice so x.spans.length sc)) (wz : wb < W.heap.size)
    (hS : SpsAt (fun _ => True) W (.slice so x.spans.length sc) x.spans) (hP : Row (fun _ => True) W (.slice o21 np c21) np 1 (intCs P)) (hnp : np = P.length) (hp33 : np ≤ 33) (hx : ∃ G p, WIn (· ∈ P) G p x)
    (hcP : ∀ w', Below W.heap.size W w' → Calls Tryz.prog 19 #[.slice o21 np c21, .int .i64 x.stop] w' fun e w'' => e = .returned (.bool true) ∧ w'' = w')
    (hcE : ∀ w', Below W.heap.size W w' → Calls Tryz.prog 19 #[.slice o9 ne c9, .int .i64 x.stop] w' fun e w'' => e = .returned (.bool true) ∧ w'' = w')
    (hj0 : j ≠ 0) (hne : x.stop ≠ s.size)
    (hJ : ∀ (m : List Value) (w' : World), m.length = 291 → (m[6]? = some (.string s) ∧ m[7]? = some (e 7) ∧ m[9]? = some (.slice o9 ne c9) ∧ m[11]? = some (.slice o11 n11 c11) ∧ m[12]? = some (e 12) ∧ m[14]? = some (.pointer (some ⟨b14, 0, none⟩)) ∧ m[15]? = some (e 15) ∧ m[17]? = some (e 17) ∧ m[19]? = some (.int .i64 x.spans.length) ∧ m[20]? = some (e 20) ∧ m[21]? = some (.slice o21 np c21) ∧ m[139]? = some (.slice (some ⟨wb, off, none⟩) n c7) ∧ m[140]? = some (.int .i64 n)) → m[23]? = some (.int .i64 wh) → m[141]? = some (.int .i64 (j + 1)) → Below W.heap.size W w' → J ⟨m.toArray, []⟩ w') :
    Code.wp Tryz.prog (whC [1, 1, 1, 1, 1, 1, 1, 1, 1, 1, 1, 1, 1, 1, 0, 1, 0, 0]) (Exit.then J Q) ⟨#[e 0, e 1, e 2, e 3, e 4, e 5, .string s, e 7, e 8, .slice o9 ne c9, e 10, .slice o11 n11 c11, e 12, e 13, .pointer (some ⟨b14, 0, none⟩), e 15, e 16, e 17, e 18, .int .i64 x.spans.length, e 20, .slice o21 np c21, e 22, .int .i64 wh, e 24, e 25, e 26, e 27, e 28, e 29, e 30, e 31, e 32, e 33, e 34, e 35, e 36, e 37, e 38, e 39, e 40, e 41, e 42, e 43, e 44, e 45, e 46, e 47, e 48, e 49, e 50, e 51, e 52, e 53, e 54, e 55, e 56, e 57, e 58, e 59, e 60, e 61, e 62, e 63, e 64, e 65, e 66, e 67, e 68, e 69, e 70, e 71, e 72, e 73, e 74, e 75, e 76, e 77, e 78, e 79, e 80, e 81, e 82, e 83, e 84, e 85, e 86, e 87, e 88, e 89, e 90, e 91, e 92, e 93, e 94, e 95, e 96, e 97, e 98, e 99, e 100, e 101, e 102, e 103, e 104, e 105, e 106, e 107, e 108, e 109, e 110, e 111, e 112, e 113, e 114, e 115, e 116, e 117, e 118, e 119, e 120, e 121, e 122, e 123, e 124, e 125, e 126, e 127, e 128, e 129, e 130, e 131, e 132, e 133, e 134, e 135, e 136, e 137, e 138, .slice (some ⟨wb, off, none⟩) n c7, .int .i64 n, .int .i64 j, e 142, e 143, e 144, e 145, e 146, e 147, e 148, e 149, e 150, e 151, e 152, e 153, e 154, e 155, e 156, e 157, e 158, e 159, e 160, e 161, e 162, e 163, e 164, e 165, e 166, e 167, e 168, e 169, e 170, e 171, e 172, e 173, e 174, e 175, e 176, e 177, e 178, e 179, e 180, e 181, e 182, e 183, e 184, e 185, e 186, e 187, e 188, e 189, e 190, e 191, e 192, e 193, e 194, e 195, e 196, e 197, e 198, e 199, e 200, e 201, e 202, e 203, e 204, e 205, e 206, e 207, e 208, e 209, e 210, e 211, e 212, e 213, e 214, e 215, e 216, e 217, e 218, e 219, e 220, e 221, e 222, e 223, e 224, e 225, e 226, e 227, e 228, e 229, e 230, e 231, e 232, e 233, e 234, e 235, e 236, e 237, e 238, e 239, e 240, e 241, e 242, e 243, e 244, e 245, e 246, e 247, e 248, e 249, e 250, e 251, e 252, e 253, e 254, e 255, e 256, e 257, e 258, e 259, e 260, e 261, e 262, e 263, e 264, e 265, e 266, e 267, e 268, e 269, e 270, e 271, e 272, e 273, e 274, e 275, e 276, e 277, e 278, e 279, e 280, e 281, e 282, e 283, e 284, e 285, e 286, e 287, e 288, e 289, e 290], []⟩ W := by
  have hjI : (j : Int) < n := by omega
  have hnI : (n : Int) ≤ 500 := by omega
  have hcI : (n : Int) ≤ c7 := by omega
  have hwI : (wh : Int) ≤ 500 := by omega
  have hsI : (s.size : Int) ≤ 32 := by omega
  have hstI : (x.stop : Int) ≤ 64 := by omega
  have hgI : (x.spans.length : Int) ≤ 64 := by have := hS.small; omega
  have hjb : ((j : Int) == 0) = false := beq_eq_false_iff_ne.2 (by omega)
  have heb : ((x.stop : Int) == s.size) = false := beq_eq_false_iff_ne.2 (by omega)
  have HJ := Lib.hid hJ
  have HCP := Lib.hid hcP
  have HCE := Lib.hid hcE
  have HS := Lib.hid hS
  have HP := Lib.hid hP
  have HX := Lib.hid hx
  have HNP := Lib.hid hnp
  skip
  have HB0 := Lib.hid ((Below.refl W.heap.size W).alloc (Nat.le_refl _) (.cells #[.int .i64 x.stop, .slice so x.spans.length sc] 43))
  clear hJ hcP hcE hS hP hx hnp hj0 hne
  conv => arg 2; whnf
  go_wp2_with (first
    | (go_at_call 19; go_loud (refine (HCP.out _ HB0.out).mono ?_; rintro ee w2 ⟨rfl, rfl⟩))
    | (go_at_call 19; go_loud (refine (HCE.out _ HB0.out).mono ?_; rintro ee w2 ⟨rfl, rfl⟩)))
  rename_i K1 hK1
  have hW1 : Blk (W.alloc (.cells #[.int .i64 x.stop, .slice so x.spans.length sc] 43)) W.heap.size #[.int .i64 x.stop, .slice so x.spans.length sc] 43 := Blk.new _ _ _
  have hb1 := HB0.out
  generalize (W.alloc (.cells #[.int .i64 x.stop, .slice so x.spans.length sc] 43)) = W1 at hW1 hb1 ⊢
  have go : ∀ {v : Value} {n : Nat} {cs : List Value}, Row (fun _ => True) W v n 1 cs → Row (fun _ => True) W1 v n 1 cs := fun h => RowGo h (Kept.of_below hb1 (fun _ => False)) (fun _ _ h => ⟨id, h⟩)
  have hS1 : SpsAt (fun _ => True) W1 (.slice so x.spans.length sc) x.spans := HS.out.kept (Kept.of_below hb1 (fun _ => False)) (fun _ _ _ => id)
  refine wp_loop_ghost (Spi x.spans.length (fun k => if k = 6 then .string s else if k = 9 then .slice o9 ne c9 else if k = 11 then .slice o11 n11 c11 else if k = 14 then .pointer (some ⟨b14, 0, none⟩) else if k = 19 then .int .i64 x.spans.length else if k = 21 then .slice o21 np c21 else if k = 23 then .int .i64 wh else if k = 24 then .int .i64 j else if k = 25 then .pointer (some ⟨W.heap.size, 0, none⟩) else if k = 139 then .slice (some ⟨wb, off, none⟩) n c7 else if k = 140 then .int .i64 n else if k = 141 then .int .i64 j else if k = 166 then .slice so x.spans.length sc else if k = 167 then .int .i64 x.spans.length else e k) W1) (x.spans.length - 0) ?_ (fun z a w' hI => wh_sp_loop hI ⟨rfl, rfl, rfl, rfl⟩ (go HP.out) HNP.out hp33 hW1 hS1 HX.out hst ?_)
  · exact ⟨_, 0, rfl, rfl, ⟨rfl, rfl, rfl, rfl, rfl, rfl, rfl, rfl, rfl, rfl, rfl, rfl, rfl, rfl, rfl, rfl, rfl, rfl, rfl⟩, rfl, Nat.zero_le _, rfl, Below.refl _ _⟩
  · intro m w3 hm hkq hb3'
    have hb3 := hb1.trans (hb3'.mono hb1.size)
    obtain ⟨f, rfl⟩ := frame291 hm
    obtain ⟨g6, g7, g9, g11, g12, g14, g15, g17, g19, g20, g21, g23, g24, g25, g139, g140, g141, g166, g167⟩ := hkq
    have g6 : f 6 = .string s := Option.some.inj g6
    have g7 : f 7 = e 7 := Option.some.inj g7
    have g9 : f 9 = .slice o9 ne c9 := Option.some.inj g9
    have g11 : f 11 = .slice o11 n11 c11 := Option.some.inj g11
    have g12 : f 12 = e 12 := Option.some.inj g12
    have g14 : f 14 = .pointer (some ⟨b14, 0, none⟩) := Option.some.inj g14
    have g15 : f 15 = e 15 := Option.some.inj g15
    have g17 : f 17 = e 17 := Option.some.inj g17
    have g19 : f 19 = .int .i64 x.spans.length := Option.some.inj g19
    have g20 : f 20 = e 20 := Option.some.inj g20
    have g21 : f 21 = .slice o21 np c21 := Option.some.inj g21
    have g23 : f 23 = .int .i64 wh := Option.some.inj g23
    have g24 : f 24 = .int .i64 j := Option.some.inj g24
    have g25 : f 25 = .pointer (some ⟨W.heap.size, 0, none⟩) := Option.some.inj g25
    have g139 : f 139 = .slice (some ⟨wb, off, none⟩) n c7 := Option.some.inj g139
    have g140 : f 140 = .int .i64 n := Option.some.inj g140
    have g141 : f 141 = .int .i64 j := Option.some.inj g141
    have g166 : f 166 = .slice so x.spans.length sc := Option.some.inj g166
    have g167 : f 167 = .int .i64 x.spans.length := Option.some.inj g167
    have hY := hW1.below hb3' hW1.lt
    obtain ⟨s0, s1, -, -⟩ := hY.two
    have sz := hY.lt
    have HY := Lib.hid hY
    have HB3 := Lib.hid hb3
    clear hb3 hb3' hY hW1 hb1 hS1 go y0 y1
    rw [g6, g7, g9, g11, g12, g14, g15, g17, g19, g20, g21, g23, g24, g25, g139, g140, g141, g166, g167]
    refine hK1 _ _ ?_
    go_wp2_with fail
    exact HJ.out _ _ rfl ⟨rfl, rfl, rfl, rfl, rfl, rfl, rfl, rfl, rfl, rfl, rfl, rfl, rfl⟩ rfl rfl HB3.out
end Go.Proofs.YtnhjakdmbfadlaaGreatDoor
