/- Parts of the proof: Tb. Conditions: none. -/
import Derived.Test.YtnhjakdmbfadlaaDoorS51
import Derived.Test.YtnhjakdmbfadlaaDoorS42
import Derived.Test.YtnhjakdmbfadlaaDoorS04
set_option linter.all false
/- WaysTimes: the tree is made one that takes something. -/
namespace Go.Proofs.YtnhjakdmbfadlaaDoor
open Go.RowKit Wy Mem Grow

set_option maxHeartbeats 8000000 in
set_option maxRecDepth 100000 in
theorem tm7a {xb : Nat} {W : World} {J : Act → World → Prop} {Q : Exit → Act → World → Prop} (e : Nat → Value) 
    (hJ : ∀ (m : List Value), m.length = 182 → (m[2]? = some (e 2) ∧ m[3]? = some (e 3) ∧ m[9]? = some (.pointer (some ⟨xb, 0, none⟩)) ∧ m[10]? = some (e 10) ∧ True) → J ⟨m.toArray, []⟩ W) :
    Code.wp Tryd.prog (tmC [1, 1, 1, 1, 1, 0]) (Exit.then J Q) ⟨#[e 0, e 1, e 2, e 3, e 4, e 5, e 6, e 7, e 8, .pointer (some ⟨xb, 0, none⟩), e 10, .bool false, e 12, e 13, e 14, e 15, e 16, e 17, e 18, e 19, e 20, e 21, e 22, e 23, e 24, e 25, e 26, e 27, e 28, e 29, e 30, e 31, e 32, e 33, e 34, e 35, e 36, e 37, e 38, e 39, e 40, e 41, e 42, e 43, e 44, e 45, e 46, e 47, e 48, e 49, e 50, e 51, e 52, e 53, e 54, e 55, e 56, e 57, e 58, e 59, e 60, e 61, e 62, e 63, e 64, e 65, e 66, e 67, e 68, e 69, e 70, e 71, e 72, e 73, e 74, e 75, e 76, e 77, e 78, e 79, e 80, e 81, e 82, e 83, e 84, e 85, e 86, e 87, e 88, e 89, e 90, e 91, e 92, e 93, e 94, e 95, e 96, e 97, e 98, e 99, e 100, e 101, e 102, e 103, e 104, e 105, e 106, e 107, e 108, e 109, e 110, e 111, e 112, e 113, e 114, e 115, e 116, e 117, e 118, e 119, e 120, e 121, e 122, e 123, e 124, e 125, e 126, e 127, e 128, e 129, e 130, e 131, e 132, e 133, e 134, e 135, e 136, e 137, e 138, e 139, e 140, e 141, e 142, e 143, e 144, e 145, e 146, e 147, e 148, e 149, e 150, e 151, e 152, e 153, e 154, e 155, e 156, e 157, e 158, e 159, e 160, e 161, e 162, e 163, e 164, e 165, e 166, e 167, e 168, e 169, e 170, e 171, e 172, e 173, e 174, e 175, e 176, e 177, e 178, e 179, e 180, e 181], []⟩ W := by
  have HJ := Lib.hid hJ
  clear hJ
  conv => arg 2; whnf
  go_wp2_with fail
  exact HJ.out _ rfl ⟨rfl, rfl, rfl, rfl, trivial⟩

theorem nd_lt {N : Nat → Prop} {W : World} {q : Nat} {T : TypeId} (hB : Blk W q #[.int .i64 97, .int .i64 98] T) (hN : N q) : NdAt N W ltT [.int .u8 2, .slice (some ⟨q, 0, none⟩) 1 1, .int .i64 0, .int .i64 0, .bool false, .slice none 0 0] := by
  unfold ltT
  rw [NdAt]
  refine ⟨_, _, [], rfl, ⟨by decide, by decide, by simp⟩, ⟨by decide, by decide⟩, ⟨by decide, by decide⟩, ⟨⟨rfl, .inr ⟨q, 0, 1, rfl, Nat.le_refl _, by unfold maxLen; omega, hN, hB.lt, fun j hj => ?_⟩⟩, ?_, by simp⟩, ⟨rfl, .inl ⟨rfl, _, _, rfl⟩⟩, ?_⟩
  · rw [Nat.zero_add, hB.cell]
    simp [rgCs]
  · intro r hr
    simp only [List.mem_singleton] at hr
    subst hr
    exact ⟨⟨by decide, by decide⟩, ⟨by decide, by decide⟩⟩
  · simp [NdsAt]
/-- what holds in region 8 -/
def pt8 (W : World) (xb : Nat) (x : Nd) (xs : List Value) (s1 s2 s3 s4 s5 : Bool) (u1 u2 u3 u4 : Value) (w' : World) : Prop :=
  (s5 = false → Below W.heap.size W w') ∧
  (s1 = true → ∃ q, u1 = .slice (some ⟨q, 0, none⟩) 1 1 ∧ W.heap.size ≤ q ∧ (s5 = false → Blk w' q #[.int .i64 97, .int .i64 98] 84) ∧ (s2 = true → u2 = .agg #[.int .u8 2, .slice (some ⟨q, 0, none⟩) 1 1, .int .i64 0, .int .i64 0, .bool false, .slice none 0 0]) ∧
    (s3 = true → ∃ p, u3 = .slice (some ⟨p, 0, none⟩) 2 2 ∧ W.heap.size ≤ p ∧ (s5 = false → Blk w' p (List.toArray (α := Value) (xs ++ [.int .u8 2, .slice (some ⟨q, 0, none⟩) 1 1, .int .i64 0, .int .i64 0, .bool false, .slice none 0 0])) 28) ∧ (s4 = true → u4 = .agg #[.int .u8 3, .slice none 0 0, .int .i64 0, .int .i64 0, .bool false, .slice (some ⟨p, 0, none⟩) 2 2]) ∧
      (s5 = true → Blk w' xb #[.int .u8 3, .slice none 0 0, .int .i64 0, .int .i64 0, .bool false, .slice (some ⟨p, 0, none⟩) 2 2] 28 ∧ NdAt (fun _ => True) w' (catT x ltT) [.int .u8 3, .slice none 0 0, .int .i64 0, .int .i64 0, .bool false, .slice (some ⟨p, 0, none⟩) 2 2] ∧ Kept (fun b => b = xb) W w')))
set_option maxHeartbeats 8000000 in
set_option maxRecDepth 100000 in
theorem tm7b {xb : Nat} {x : Nd} {s : ByteArray} {k lo hi : Int} {lz : Bool} {p1 p2 : Option Addr} {n1 d1 n2 d2 : Nat} {W : World} {J : Act → World → Prop} {Q : Exit → Act → World → Prop} (e : Nat → Value) (hB : Blk W xb #[.int .u8 k, .slice p1 n1 d1, .int .i64 lo, .int .i64 hi, .bool lz, .slice p2 n2 d2] 28) (hx : NdAt (fun q => q ≠ xb) W x [.int .u8 k, .slice p1 n1 d1, .int .i64 lo, .int .i64 hi, .bool lz, .slice p2 n2 d2])
    (hJ : ∀ (m : List Value) (w' : World) (cs : List Value), m.length = 182 → (m[2]? = some (e 2) ∧ m[3]? = some (e 3) ∧ m[9]? = some (.pointer (some ⟨xb, 0, none⟩)) ∧ m[10]? = some (e 10) ∧ True) → Blk w' xb cs.toArray 28 → NdAt (fun _ => True) w' (catT x ltT) cs → Kept (fun b => b = xb) W w' → J ⟨m.toArray, []⟩ w') :
    Code.wp Tryd.prog (tmC [1, 1, 1, 1, 1, 0]) (Exit.then J Q) ⟨#[e 0, e 1, e 2, e 3, e 4, e 5, e 6, e 7, e 8, .pointer (some ⟨xb, 0, none⟩), e 10, .bool true, e 12, e 13, e 14, e 15, e 16, e 17, e 18, e 19, e 20, e 21, e 22, e 23, e 24, e 25, e 26, e 27, e 28, e 29, e 30, e 31, e 32, e 33, e 34, e 35, e 36, e 37, e 38, e 39, e 40, e 41, e 42, e 43, e 44, e 45, e 46, e 47, e 48, e 49, e 50, e 51, e 52, e 53, e 54, e 55, e 56, e 57, e 58, e 59, e 60, e 61, e 62, e 63, e 64, e 65, e 66, e 67, e 68, e 69, e 70, e 71, e 72, e 73, e 74, e 75, e 76, e 77, e 78, e 79, e 80, e 81, e 82, e 83, e 84, e 85, e 86, e 87, e 88, e 89, e 90, e 91, e 92, e 93, e 94, e 95, e 96, e 97, e 98, e 99, e 100, e 101, e 102, e 103, e 104, e 105, e 106, e 107, e 108, e 109, e 110, e 111, e 112, e 113, e 114, e 115, e 116, e 117, e 118, e 119, e 120, e 121, e 122, e 123, e 124, e 125, e 126, e 127, e 128, e 129, e 130, e 131, e 132, e 133, e 134, e 135, e 136, e 137, e 138, e 139, e 140, e 141, e 142, e 143, e 144, e 145, e 146, e 147, e 148, e 149, e 150, e 151, e 152, e 153, e 154, e 155, e 156, e 157, e 158, e 159, e 160, e 161, e 162, e 163, e 164, e 165, e 166, e 167, e 168, e 169, e 170, e 171, e 172, e 173, e 174, e 175, e 176, e 177, e 178, e 179, e 180, e 181], []⟩ W := by
  have HB := Lib.hid hB
  have HX := Lib.hid hx
  have HJ := Lib.hid hJ
  have hxz := hB.lt
  clear hB hx hJ
  conv => arg 2; whnf
  go_upto_region 8 with fail
  apply wp_flowX ?hm ?hok [some _, none, none, none, none, some undef] (fun S u w' => pt8 W xb x [.int .u8 k, .slice p1 n1 d1, .int .i64 lo, .int .i64 hi, .bool lz, .slice p2 n2 d2] (S 1) (S 2) (S 3) (S 4) (S 5) (u 1) (u 2) (u 3) (u 4) w') ?hw ?h
  case hm => rfl
  case hok => kernel_rfl
  case hw => exact ⟨fun _ => (Below.refl _ _).drew, fun e => (by cases e)⟩
  case h =>
    intro u
    apply flowX_read rfl
    case hs => exact fun _ _ _ h => h
    case h =>
      intro S w hS hW K hK
      have h5 := hS.last 5 (by kernel_rfl)
      have B := HB.out.below (hW.1 h5) HB.out.lt
      have b0 := B.cell 0
      have b1 := B.cell 1
      have b2 := B.cell 2
      have b3 := B.cell 3
      have b4 := B.cell 4
      have b5 := B.cell 5
      have bz := B.lt
      clear B hW hS h5
      go_wp2_with fail
      exact hK
    case' k => simp only [Act.put, List.setIfInBounds_toArray, List.set_cons_zero, List.set_cons_succ, Nat.reduceAdd]
    -- letters
    apply flowX_open rfl
    case h =>
      intro S w hS hW K hK
      have h2 := hS.last 2 (by kernel_rfl)
      have h3 := hS.last 3 (by kernel_rfl)
      have h5 := hS.last 5 (by kernel_rfl)
      have hb := hW.1 h5
      have hK' := fun q w' hl hq hb' => hK (.slice (some ⟨q, 0, none⟩) 1 1) w' (by
        show pt8 W xb x _ true (S 2) (S 3) (S 4) (S 5) (.slice (some ⟨q, 0, none⟩) 1 1) (u 2) (u 3) (u 4) w'
        exact ⟨fun _ => hb.trans (Below.mono hb' hb.size), fun _ => ⟨q, rfl, Nat.le_trans hb.size hl, fun _ => hq, fun e => Bool.noConfusion (h2.symm.trans e), fun e => Bool.noConfusion (h3.symm.trans e)⟩⟩)
      have HK := Lib.hid hK'
      have HC := Lib.hid (letters_any w)
      clear hS hW hK hK' h2 h3 h5 hb
      go_wp2_with (go_at_call 16; go_loud (refine HC.out.mono ?_; rintro ee w' ⟨q, rfl, hq, hl, hb'⟩))
      exact HK.out q _ hl hq hb'
    case' k => simp only [Act.put, List.setIfInBounds_toArray, List.set_cons_zero, List.set_cons_succ, Nat.reduceAdd]
    -- the set
    apply flowX_open rfl
    case h =>
      intro S w hS hW K hK
      have h1 := hS.deps 1 (by kernel_rfl)
      have h3 := hS.last 3 (by kernel_rfl)
      obtain ⟨q, hu1, a1, a2, -, -⟩ := hW.2 h1
      have hK' := hK (.agg #[.int .u8 2, .slice (some ⟨q, 0, none⟩) 1 1, .int .i64 0, .int .i64 0, .bool false, .slice none 0 0]) w (by
        show pt8 W xb x _ (S 1) true (S 3) (S 4) (S 5) (u 1) (.agg #[.int .u8 2, .slice (some ⟨q, 0, none⟩) 1 1, .int .i64 0, .int .i64 0, .bool false, .slice none 0 0]) (u 3) (u 4) w
        exact ⟨hW.1, fun _ => ⟨q, hu1, a1, a2, fun _ => rfl, fun e => Bool.noConfusion (h3.symm.trans e)⟩⟩)
      rw [hu1] at hK' ⊢
      have HK := Lib.hid hK'
      clear hS hW hK hK' h1 h3 hu1 a1 a2
      go_wp2_with fail
      exact HK.out
    case' k => simp only [Act.put, List.setIfInBounds_toArray, List.set_cons_zero, List.set_cons_succ, Nat.reduceAdd]
    -- both
    apply flowX_open rfl
    case h =>
      intro S w hS hW K hK
      have h1 := hS.deps 1 (by kernel_rfl)
      have h2 := hS.deps 2 (by kernel_rfl)
      have h4 := hS.last 4 (by kernel_rfl)
      have h5 := hS.last 5 (by kernel_rfl)
      obtain ⟨q, hu1, a1, a2, a3, -⟩ := hW.2 h1
      have hb := hW.1 h5
      have hu2 := a3 h2
      have hK' := hK (.slice (some ⟨w.heap.size, 0, none⟩) 2 2) (w.alloc (.cells #[.int .u8 k, .slice p1 n1 d1, .int .i64 lo, .int .i64 hi, .bool lz, .slice p2 n2 d2, .int .u8 2, .slice (some ⟨q, 0, none⟩) 1 1, .int .i64 0, .int .i64 0, .bool false, .slice none 0 0] 28)) (by
        show pt8 W xb x _ (S 1) (S 2) true (S 4) (S 5) (u 1) (u 2) (.slice (some ⟨w.heap.size, 0, none⟩) 2 2) (u 4) _
        exact ⟨fun _ => hb.alloc hb.size _, fun _ => ⟨q, hu1, a1, fun e => (a2 e).alloc _, fun _ => hu2, fun _ => ⟨w.heap.size, rfl, hb.size, fun _ => Blk.new _ _ _, fun e => Bool.noConfusion (h4.symm.trans e), fun e => Bool.noConfusion (h5.symm.trans e)⟩⟩⟩)
      rw [hu2] at hK' ⊢
      have HK := Lib.hid hK'
      clear hS hW hK hK' h1 h2 h4 h5 hu1 hu2 a1 a2 a3 hb
      go_wp2_with fail
      exact HK.out
    case' k => simp only [Act.put, List.setIfInBounds_toArray, List.set_cons_zero, List.set_cons_succ, Nat.reduceAdd]
    -- one after the other
    apply flowX_open rfl
    case h =>
      intro S w hS hW K hK
      have h1 := hS.deps 1 (by kernel_rfl)
      have h3 := hS.deps 3 (by kernel_rfl)
      have h5 := hS.last 5 (by kernel_rfl)
      obtain ⟨q, hu1, a1, a2, a3, a4⟩ := hW.2 h1
      obtain ⟨p, hu3, c1, c2, -, -⟩ := a4 h3
      have hK' := hK (.agg #[.int .u8 3, .slice none 0 0, .int .i64 0, .int .i64 0, .bool false, .slice (some ⟨p, 0, none⟩) 2 2]) w (by
        show pt8 W xb x _ (S 1) (S 2) (S 3) true (S 5) (u 1) (u 2) (u 3) (.agg #[.int .u8 3, .slice none 0 0, .int .i64 0, .int .i64 0, .bool false, .slice (some ⟨p, 0, none⟩) 2 2]) w
        exact ⟨hW.1, fun _ => ⟨q, hu1, a1, a2, a3, fun _ => ⟨p, hu3, c1, c2, fun _ => rfl, fun e => Bool.noConfusion (h5.symm.trans e)⟩⟩⟩)
      rw [hu3] at hK' ⊢
      have HK := Lib.hid hK'
      clear hS hW hK hK' h1 h3 h5 hu1 hu3 a1 a2 a3 a4 c1 c2
      go_wp2_with fail
      exact HK.out
    case' k => simp only [Act.put, List.setIfInBounds_toArray, List.set_cons_zero, List.set_cons_succ, Nat.reduceAdd]
    -- stored
    apply flowX_yes rfl
    case h =>
      intro S w hS hW K hK
      have h1 := hS.deps 1 (by kernel_rfl)
      have h3 := hS.deps 3 (by kernel_rfl)
      have h4 := hS.deps 4 (by kernel_rfl)
      have h5 := hS.new
      obtain ⟨q, hu1, a1, a2, a3, a4⟩ := hW.2 h1
      obtain ⟨p, hu3, c1, c2, c3, -⟩ := a4 h3
      have hu4 := c3 h4
      have hb := hW.1 h5
      have hq := a2 h5
      have hp := c2 h5
      have Bx := HB.out.below hb HB.out.lt
      have kk := set6_kept (w := w) (b := xb) (.int .u8 3) (.slice none 0 0) (.int .i64 0) (.int .i64 0) (.bool false) (.slice (some ⟨p, 0, none⟩) 2 2)
      have hxb := HB.out.lt
      have hcat := pair_nd (x := x) (y := ltT) (k := 3) (by omega) hp (NdAt.go (Kept.of_below hb (fun _ => False)) (fun _ _ h => ⟨id, trivial⟩) HX.out) (nd_lt hq trivial)
      have hK' := hK _ (by
        show pt8 W xb x _ (S 1) (S 2) (S 3) (S 4) true (u 1) (u 2) (u 3) (u 4) _
        refine ⟨fun e => (by cases e), fun _ => ⟨q, hu1, a1, fun e => (by cases e), a3, fun _ => ⟨p, hu3, c1, fun e => (by cases e), c3, fun _ => ⟨set6_blk (cs := [.int .u8 k, .slice p1 n1 d1, .int .i64 lo, .int .i64 hi, .bool lz, .slice p2 n2 d2]) Bx rfl _ _ _ _ _ _, ?_, ((Kept.of_below hb (fun b => b = xb)).trans kk)⟩⟩⟩⟩
        exact pair_nd (x := x) (y := ltT) (k := 3) (by omega) (hp.kept kk (by omega)) (NdAt.go ((Kept.of_below hb (fun b => b = xb)).trans kk) (fun _ _ h => ⟨h, trivial⟩) HX.out) (nd_lt (hq.kept kk (by omega)) trivial))
      have r0 := Bx.cell 0
      have r1 := Bx.cell 1
      have r2 := Bx.cell 2
      have r3 := Bx.cell 3
      have r4 := Bx.cell 4
      have r5 := Bx.cell 5
      have rf := Bx.frozen
      have rz := Bx.lt
      rw [hu4] at hK' ⊢
      have HK := Lib.hid hK'
      clear hS hW hK hK' h1 h3 h4 h5 hu1 hu3 hu4 a1 a2 a3 a4 c1 c2 c3 hb hq hp Bx kk hcat
      go_wp2_with fail
      exact HK.out
    case' k => simp only [Act.put, List.setIfInBounds_toArray, List.set_cons_zero, List.set_cons_succ, Nat.reduceAdd]
    refine flowX_end ?_
    intro S w hS hW
    obtain ⟨q, -, -, -, -, a4⟩ := hW.2 (hS 1 (by decide))
    obtain ⟨p, -, -, -, -, c4⟩ := a4 (hS 3 (by decide))
    obtain ⟨c5, c6, c7⟩ := c4 (hS 5 (by decide))
    have H := Lib.hid (show _ ∧ _ ∧ _ from ⟨c5, c6, c7⟩)
    clear hS hW a4 c4 c5 c6 c7
    try go_wp2_with fail
    exact HJ.out _ _ _ rfl ⟨rfl, rfl, rfl, rfl, trivial⟩ H.out.1 H.out.2.1 H.out.2.2
end Go.Proofs.YtnhjakdmbfadlaaDoor
