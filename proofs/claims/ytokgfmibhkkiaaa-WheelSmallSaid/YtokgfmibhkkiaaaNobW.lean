/- nobody, walked -/
import Derived.Test.YtokgfmibhkkiaaaNob
import Derived.Handy
namespace Go.Proofs.Ytokgfmibhkkiaaa
open Go.RowKit Wh Mem Go.Maps

theorem NoW.all {w : World} {p : Option Addr} (h : NoW w p) : ∀ W, Below w.heap.size w W → NoW W p := fun _ hb => h.below hb

set_option maxHeartbeats 4000000 in
set_option maxRecDepth 100000 in
theorem nobody_any (W : World) : Calls Try.prog 26 #[] W fun e w' => e = .returned (.bool true) ∧ Below W.heap.size W w' := by
  go_enter Try.func26, Try.ntmps26
  go_wp2_with fail
  have B1 : Blk ((W.alloc (.cells #[.bool false, .int .i64 0, .map none] 79)).alloc (.cells #[.pointer none, .pointer (some ⟨W.heap.size, 0, none⟩)] 25)) W.heap.size #[.bool false, .int .i64 0, .map none] 79 := (Blk.new W _ 79).alloc _
  have B2 : Blk ((W.alloc (.cells #[.bool false, .int .i64 0, .map none] 79)).alloc (.cells #[.pointer none, .pointer (some ⟨W.heap.size, 0, none⟩)] 25)) (W.heap.size + 1) #[.pointer none, .pointer (some ⟨W.heap.size, 0, none⟩)] 25 := Blk.new' (w := W.alloc _) _ 25 (by simp)
  have hb8 : Below W.heap.size W ((W.alloc (.cells #[.bool false, .int .i64 0, .map none] 79)).alloc (.cells #[.pointer none, .pointer (some ⟨W.heap.size, 0, none⟩)] 25)) := ((Below.refl _ _).alloc (Nat.le_refl _) _).alloc (by simp) _
  generalize ((W.alloc (.cells #[.bool false, .int .i64 0, .map none] 79)).alloc (.cells #[.pointer none, .pointer (some ⟨W.heap.size, 0, none⟩)] 25)) = W8 at B1 B2 hb8 ⊢
  have HB1 := Lib.hid B1
  have HB2 := Lib.hid B2
  have hz8 := hb8.size
  clear B1 B2
  go_loopw [22] (fun i wr => ∃ k : Nat, k ≤ 2 ∧ i = .int .i64 k ∧ Below W8.heap.size W8 wr) (fun i _ => 2 - (intOf i).toNat)
  case atStart => exact ⟨0, by omega, rfl, Below.refl _ _⟩
  case round =>
    obtain ⟨k, hk, rfl, hbr⟩ := hrel
    obtain ⟨e0, e1, _⟩ := (HB2.out.below hbr HB2.out.lt).two
    have hsr := hbr.size
    obtain rfl | rfl | rfl : k = 0 ∨ k = 1 ∨ k = 2 := by omega
    · have HN := Lib.hid (NoW.all (w := wr) (p := none) (.inl rfl))
      go_wp2_with fail
      refine (drop_nil (HN.out _ (by go_grown)) 0).mono ?_
      rintro e w1 ⟨rfl, hb1⟩
      have HN1 := Lib.hid (NoW.all (HN.out _ hb1))
      have c1 : Below W8.heap.size W8 w1 := hbr.trans (hb1.mono hsr)
      have z1 := c1.size
      go_wp2_with fail
      refine (answer_nil (HN1.out _ (by go_grown)) 0).mono ?_
      rintro e w2 ⟨rfl, rfl⟩
      go_wp2_with fail
      refine (handle_nil (HN1.out _ (by go_grown)) 0).mono ?_
      rintro e w2 ⟨rfl, rfl⟩
      go_wp2_with fail
      refine (adv_nil (HN1.out _ (by go_grown)) (-1)).mono ?_
      rintro e w2 ⟨rfl, rfl⟩
      go_wp2_with fail
      refine (wake_nil (HN1.out _ (by go_grown))).mono ?_
      rintro e w2 ⟨rfl, rfl⟩
      go_wp2_with fail
      refine (get_nil (HN1.out _ (by go_grown)) 0).mono ?_
      rintro e w2 ⟨rfl, hb2⟩
      have HN2 := Lib.hid (NoW.all (NoW.below (HN1.out _ (by go_grown)) hb2))
      have c2 : Below w1.heap.size w1 w2 := Below.trans (by go_grown) (hb2.mono (by simp))
      have z2 := c2.size
      clear hb2
      go_wp2_with fail
      refine (add_nil (HN2.out _ (by go_grown)) (-1) 0 0 0).mono ?_
      rintro e w3 ⟨rfl, hb3⟩
      have HN3 := Lib.hid (NoW.all (NoW.below (HN2.out _ (by go_grown)) hb3))
      have c3 : Below w2.heap.size w2 w3 := Below.trans (by go_grown) (hb3.mono (by simp; omega))
      have z3 := c3.size
      clear hb3
      go_wp2_with fail
      go_rounds 8
      exact ⟨⟨0 + 1, by omega, by go_num, ((c1.trans (c2.mono z1)).trans (c3.mono (by omega))).trans (Below.mono (B := w3.heap.size) (by go_grown) (by omega))⟩, by simp [intOf]⟩
    · have HN := Lib.hid (NoW.all (w := wr) (p := some ⟨W.heap.size, 0, none⟩) (.inr ⟨_, rfl, HB1.out.below hbr HB1.out.lt⟩))
      go_wp2_with fail
      refine (drop_nil (HN.out _ (by go_grown)) 0).mono ?_
      rintro e w1 ⟨rfl, hb1⟩
      have HN1 := Lib.hid (NoW.all (HN.out _ hb1))
      have c1 : Below W8.heap.size W8 w1 := hbr.trans (hb1.mono hsr)
      have z1 := c1.size
      go_wp2_with fail
      refine (answer_nil (HN1.out _ (by go_grown)) 0).mono ?_
      rintro e w2 ⟨rfl, rfl⟩
      go_wp2_with fail
      refine (handle_nil (HN1.out _ (by go_grown)) 0).mono ?_
      rintro e w2 ⟨rfl, rfl⟩
      go_wp2_with fail
      refine (adv_nil (HN1.out _ (by go_grown)) (-1)).mono ?_
      rintro e w2 ⟨rfl, rfl⟩
      go_wp2_with fail
      refine (wake_nil (HN1.out _ (by go_grown))).mono ?_
      rintro e w2 ⟨rfl, rfl⟩
      go_wp2_with fail
      refine (get_nil (HN1.out _ (by go_grown)) 0).mono ?_
      rintro e w2 ⟨rfl, hb2⟩
      have HN2 := Lib.hid (NoW.all (NoW.below (HN1.out _ (by go_grown)) hb2))
      have c2 : Below w1.heap.size w1 w2 := Below.trans (by go_grown) (hb2.mono (by simp))
      have z2 := c2.size
      clear hb2
      go_wp2_with fail
      refine (add_nil (HN2.out _ (by go_grown)) (-1) 0 0 0).mono ?_
      rintro e w3 ⟨rfl, hb3⟩
      have HN3 := Lib.hid (NoW.all (NoW.below (HN2.out _ (by go_grown)) hb3))
      have c3 : Below w2.heap.size w2 w3 := Below.trans (by go_grown) (hb3.mono (by simp; omega))
      have z3 := c3.size
      clear hb3
      go_wp2_with fail
      refine wp_loop_rounds 8 ?_
      repeat (rw [rounds_succ]; go_wp2_with fail)
      refine (all_nil (HN3.out _ (by go_grown))).mono ?_
      rintro e w4 ⟨rfl, rfl⟩
      go_wp2_with fail
      refine (open_nil (HN3.out _ (by go_grown))).mono ?_
      rintro e w4 ⟨rfl, rfl⟩
      go_wp2_with fail
      refine (wait_nil (HN3.out _ (by go_grown))).mono ?_
      rintro e w4 ⟨rfl, rfl⟩
      go_wp2_with fail
      refine (now_nil (HN3.out _ (by go_grown))).mono ?_
      rintro e w4 ⟨rfl, rfl⟩
      go_wp2_with fail
      refine (len_nil (HN3.out _ (by go_grown))).mono ?_
      rintro e w4 ⟨rfl, rfl⟩
      go_wp2_with fail
      go_roundw
      case rel => exact ⟨1 + 1, by omega, by go_num, ((c1.trans (c2.mono z1)).trans (c3.mono (by omega))).trans (Below.mono (B := w3.heap.size) (by go_grown) (by omega))⟩
      case measure => simp [intOf]
    · go_wp2
      go_ret
      exact ⟨rfl, hb8.trans (hbr.mono hz8)⟩
end Go.Proofs.Ytokgfmibhkkiaaa
