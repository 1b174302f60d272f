/- What the reference's Advance and Wake of one member do. -/
import Derived.Test.YtokgfmibhkkiaaaRefB
namespace Go.Proofs.Ytokgfmibhkkiaaa
open Go.RowKit Wh Tw Mem

theorem fits_since {p : Plan} {s : Phase} {a : Int} (h : Fits p s a) : 0 ≤ s.since ∧ s.since ≤ 281474976710656 := by
  obtain ⟨hr, ht, hs⟩ := h
  rcases hs with h | h | h
  · omega
  · exact h.2.1.2.1
  · exact h.2.1.2.1
theorem skip_bounds {p : Plan} {s : Phase} {a b : Int} (h : Fits p s a) (hab : a ≤ b) : 0 ≤ (adv p s a b).2.skipped ∧ (adv p s a b).2.skipped ≤ b + 1 := by
  obtain ⟨hr, ht, hs⟩ := h
  have u1 := upTo_mono hr hab
  have u2 := upTo_nonneg hr (t := a) (by have := ht.1; omega)
  have u3 := upTo_le hr (t := b) (by have := ht.1; omega)
  have ht0 := ht.1
  unfold adv
  split
  · simp; omega
  · split
    · split
      · simp; omega
      · split <;> simp <;> omega
    · split <;> simp <;> omega
def csP (p : Plan) : Array Value := #[.int .i64 p.every, .int .i64 p.offset, .int .i64 p.timeout]
def csS (s : Phase) : Array Value := #[.int .u8 s.state, .int .i64 s.since]
def csQ (r : Report) : Array Value := #[.int .i64 r.begun, .int .i64 r.failed, .int .i64 r.skipped]

theorem sets_other {w : World} {b1 b4 b : Nat} {cs : Array Value} {t : TypeId} {x0 x1 y0 y1 y2 : Value} (h : Blk w b cs t) (n1 : b ≠ b1) (n4 : b ≠ b4) :
    Blk (((((w.setCell ⟨b1, 0, none⟩ x0).setCell ⟨b1, 1, none⟩ x1).setCell ⟨b4, 0, none⟩ y0).setCell ⟨b4, 1, none⟩ y1).setCell ⟨b4, 2, none⟩ y2) b cs t :=
  ((((h.setOther (p := ⟨b1, 0, none⟩) n1 _).setOther (p := ⟨b1, 1, none⟩) n1 _).setOther (p := ⟨b4, 0, none⟩) n4 _).setOther (p := ⟨b4, 1, none⟩) n4 _).setOther (p := ⟨b4, 2, none⟩) n4 _
theorem sets_two {w : World} {b1 b4 : Nat} {u0 u1 : Value} {t : TypeId} {x0 x1 y0 y1 y2 : Value} (h : Blk w b1 #[u0, u1] t) (n4 : b1 ≠ b4) :
    Blk (((((w.setCell ⟨b1, 0, none⟩ x0).setCell ⟨b1, 1, none⟩ x1).setCell ⟨b4, 0, none⟩ y0).setCell ⟨b4, 1, none⟩ y1).setCell ⟨b4, 2, none⟩ y2) b1 #[x0, x1] t :=
  ((((h.set 0 _).set 1 _).setOther (p := ⟨b4, 0, none⟩) n4 _).setOther (p := ⟨b4, 1, none⟩) n4 _).setOther (p := ⟨b4, 2, none⟩) n4 _
theorem sets_three {w : World} {b1 b4 : Nat} {u0 u1 u2 : Value} {t : TypeId} {x0 x1 y0 y1 y2 : Value} (h : Blk w b4 #[u0, u1, u2] t) (n4 : b4 ≠ b1) :
    Blk (((((w.setCell ⟨b1, 0, none⟩ x0).setCell ⟨b1, 1, none⟩ x1).setCell ⟨b4, 0, none⟩ y0).setCell ⟨b4, 1, none⟩ y1).setCell ⟨b4, 2, none⟩ y2) b4 #[y0, y1, y2] t :=
  ((((h.setOther (p := ⟨b1, 0, none⟩) n4 _).setOther (p := ⟨b1, 1, none⟩) n4 _).set 0 _).set 1 _).set 2 _

set_option maxHeartbeats 1000000 in
set_option maxRecDepth 100000 in
theorem radv_any (p : Plan) (s : Phase) (a b : Int) (h : Fits p s a) (hab : a ≤ b) (hb : Tick b) (W : World) :
    Calls Try.prog 60 #[aggP p, aggS s, .int .i64 a, .int .i64 b] W fun e w' => e = .returned (.tuple #[aggS (adv p s a b).1, aggQ (adv p s a b).2]) ∧ Below W.heap.size W w' := by
  have a0 := h.2.1.1
  have b1 := hb.2
  have H := Lib.hid h
  obtain ⟨n, hn⟩ : ∃ n : Nat, b = a + n := ⟨(b - a).toNat, by omega⟩
  have hend := fold_adv h n (by rw [← hn]; exact hb)
  rw [← hn] at hend
  rw [← hend]
  have hb0 : b ≤ a + n := by omega
  have hb2 : a + n ≤ b := by omega
  clear hend h hn
  unfold aggP aggS
  go_enter Try.func60, Try.ntmps60
  go_wp2_with fail
  have B0 : Blk (((((W.alloc (.cells #[.int .i64 p.every, .int .i64 p.offset, .int .i64 p.timeout] 95)).alloc (.cells #[.int .u8 s.state, .int .i64 s.since] 96)).alloc (.cells #[.int .u8 0, .int .i64 0] 96)).alloc (.cells #[.int .i64 0, .int .i64 0, .int .i64 0] 104)).alloc (.cells #[.int .i64 (-1), .int .i64 (-1), .int .i64 0] 104)) W.heap.size #[.int .i64 p.every, .int .i64 p.offset, .int .i64 p.timeout] 95 := ((((Blk.new W _ 95).alloc _).alloc _).alloc _).alloc _
  have B1 : Blk (((((W.alloc (.cells #[.int .i64 p.every, .int .i64 p.offset, .int .i64 p.timeout] 95)).alloc (.cells #[.int .u8 s.state, .int .i64 s.since] 96)).alloc (.cells #[.int .u8 0, .int .i64 0] 96)).alloc (.cells #[.int .i64 0, .int .i64 0, .int .i64 0] 104)).alloc (.cells #[.int .i64 (-1), .int .i64 (-1), .int .i64 0] 104)) (W.heap.size + 1) #[.int .u8 s.state, .int .i64 s.since] 96 := (((Blk.new' (w := W.alloc _) _ 96 (by simp)).alloc _).alloc _).alloc _
  have B2 : Blk (((((W.alloc (.cells #[.int .i64 p.every, .int .i64 p.offset, .int .i64 p.timeout] 95)).alloc (.cells #[.int .u8 s.state, .int .i64 s.since] 96)).alloc (.cells #[.int .u8 0, .int .i64 0] 96)).alloc (.cells #[.int .i64 0, .int .i64 0, .int .i64 0] 104)).alloc (.cells #[.int .i64 (-1), .int .i64 (-1), .int .i64 0] 104)) (W.heap.size + 1 + 1) #[.int .u8 0, .int .i64 0] 96 := ((Blk.new' (w := (W.alloc _).alloc _) _ 96 (by simp)).alloc _).alloc _
  have B3 : Blk (((((W.alloc (.cells #[.int .i64 p.every, .int .i64 p.offset, .int .i64 p.timeout] 95)).alloc (.cells #[.int .u8 s.state, .int .i64 s.since] 96)).alloc (.cells #[.int .u8 0, .int .i64 0] 96)).alloc (.cells #[.int .i64 0, .int .i64 0, .int .i64 0] 104)).alloc (.cells #[.int .i64 (-1), .int .i64 (-1), .int .i64 0] 104)) (W.heap.size + 1 + 1 + 1) #[.int .i64 0, .int .i64 0, .int .i64 0] 104 := (Blk.new' (w := ((W.alloc _).alloc _).alloc _) _ 104 (by simp)).alloc _
  have B4 : Blk (((((W.alloc (.cells #[.int .i64 p.every, .int .i64 p.offset, .int .i64 p.timeout] 95)).alloc (.cells #[.int .u8 s.state, .int .i64 s.since] 96)).alloc (.cells #[.int .u8 0, .int .i64 0] 96)).alloc (.cells #[.int .i64 0, .int .i64 0, .int .i64 0] 104)).alloc (.cells #[.int .i64 (-1), .int .i64 (-1), .int .i64 0] 104)) (W.heap.size + 1 + 1 + 1 + 1) #[.int .i64 (-1), .int .i64 (-1), .int .i64 0] 104 := Blk.new' (w := (((W.alloc _).alloc _).alloc _).alloc _) _ 104 (by simp)
  have hbW : Below W.heap.size W (((((W.alloc (.cells #[.int .i64 p.every, .int .i64 p.offset, .int .i64 p.timeout] 95)).alloc (.cells #[.int .u8 s.state, .int .i64 s.since] 96)).alloc (.cells #[.int .u8 0, .int .i64 0] 96)).alloc (.cells #[.int .i64 0, .int .i64 0, .int .i64 0] 104)).alloc (.cells #[.int .i64 (-1), .int .i64 (-1), .int .i64 0] 104)) := (((((Below.refl W.heap.size W).alloc (Nat.le_refl _) _).alloc (by simp) _).alloc (by simp; omega) _).alloc (by simp; omega) _).alloc (by simp; omega) _
  generalize (((((W.alloc (.cells #[.int .i64 p.every, .int .i64 p.offset, .int .i64 p.timeout] 95)).alloc (.cells #[.int .u8 s.state, .int .i64 s.since] 96)).alloc (.cells #[.int .u8 0, .int .i64 0] 96)).alloc (.cells #[.int .i64 0, .int .i64 0, .int .i64 0] 104)).alloc (.cells #[.int .i64 (-1), .int .i64 (-1), .int .i64 0] 104)) = W0 at B0 B1 B2 B3 B4 hbW ⊢
  go_loopw [11] (fun i wr => ∃ k : Nat, k ≤ n ∧ i = .int .i64 (a + k + 1) ∧ Blk wr W.heap.size (csP p) 95 ∧ Blk wr (W.heap.size + 1) (csS (advFold p s a k).1) 96 ∧ Blk wr (W.heap.size + 1 + 1) #[.int .u8 0, .int .i64 0] 96 ∧ Blk wr (W.heap.size + 1 + 1 + 1) #[.int .i64 0, .int .i64 0, .int .i64 0] 104 ∧ Blk wr (W.heap.size + 1 + 1 + 1 + 1) (csQ (advFold p s a k).2) 104 ∧ Below W.heap.size W wr) (fun i _ => (b + 1 - intOf i).toNat)
  case atStart => exact ⟨0, Nat.zero_le _, by simp, B0, B1, B2, B3, B4, hbW⟩
  case round =>
    obtain ⟨k, hk, rfl, C0, C1, C2, C3, C4, hbr⟩ := hrel
    have htk : Tick (a + k) := ⟨by omega, by omega⟩
    have hfd := fold_adv H.out k htk
    have hfk : Fits p (advFold p s a k).1 (a + k) := by rw [hfd]; exact adv_fits H.out (by omega) htk
    have hsk : 0 ≤ (advFold p s a k).2.skipped ∧ (advFold p s a k).2.skipped ≤ a + k + 1 := by rw [hfd]; exact skip_bounds H.out (by omega)
    obtain ⟨s0, s1⟩ := fits_since hfk
    obtain ⟨k0, k1⟩ := hsk
    have hcall := fun (ht : Tick (a + k + 1)) (W1 : World) => rpass_any p (advFold p s a k).1 (advFold p s a k).2 (a + k + 1) hfk.1 ht s0 s1 k0 (by omega) W1
    have hst : advFold p s a (k + 1) = passP p (advFold p s a k).1 (advFold p s a k).2 (a + k + 1) := rfl
    obtain ⟨np, hnp⟩ : ∃ np, np = passP p (advFold p s a k).1 (advFold p s a k).2 (a + k + 1) := ⟨_, rfl⟩
    rw [← hnp] at hst hcall
    obtain ⟨vp, hvp⟩ : ∃ vp, vp = advFold p s a k := ⟨_, rfl⟩
    rw [← hvp] at hcall C1 C4
    simp only [aggP, aggS, aggQ] at hcall
    have HFK := Lib.hid hcall
    have HST := Lib.hid hst
    have HVP := Lib.hid hvp
    clear hfd hfk hst hcall hnp hvp s0 s1 k0 k1
    have hl1 := C1.lt
    have hl4 := C4.lt
    by_cases hlt : k < n
    · obtain ⟨c00, c01, c02, _⟩ := C0.three
      obtain ⟨c10, c11, _⟩ := C1.two
      obtain ⟨c40, c41, c42, _⟩ := C4.three
      go_wp2_with fail
      refine (HFK.out ⟨by omega, by omega⟩ _).mono ?_
      rintro e w1 ⟨rfl, hb1⟩
      have D0 := C0.below hb1 C0.lt
      have D1 := C1.below hb1 C1.lt
      have D2 := C2.below hb1 C2.lt
      have D3 := C3.below hb1 C3.lt
      have D4 := C4.below hb1 C4.lt
      obtain ⟨d10, d11, g10, g11⟩ := D1.two
      obtain ⟨d40, d41, d42, g40, g41, g42⟩ := D4.three
      have hbw1 : Below W.heap.size W w1 := hbr.trans (hb1.mono hbr.size)
      clear hb1 c00 c01 c02 c10 c11 c40 c41 c42
      go_wp2_with fail
      go_roundw
      case rel =>
        refine ⟨k + 1, by omega, by go_num, sets_other D0 (by omega) (by omega), ?_, sets_other D2 (by omega) (by omega), sets_other D3 (by omega) (by omega), ?_, by go_grown⟩
        · rw [HST.out]; exact sets_two D1 (by omega)
        · rw [HST.out]; exact sets_three D4 (by omega)
      case measure => simp [intOf]; omega
    · obtain rfl : k = n := by omega
      obtain ⟨c10, c11, _⟩ := C1.two
      obtain ⟨c40, c41, c42, _⟩ := C4.three
      obtain ⟨c20, c21, f20, f21⟩ := C2.two
      obtain ⟨c30, c31, c32, f30, f31, f32⟩ := C3.three
      have hvp := HVP.out
      subst hvp
      go_wp2_with fail
      go_region
      all_goals
        go_wp2
        refine bodyPost_ret ?_ rfl ⟨rfl, ?_⟩
        · simp [results, Try.results60, go_sem, *]
          rfl
        · go_grown

set_option maxHeartbeats 1000000 in
set_option maxRecDepth 100000 in
/-- Wake, tick by tick, of a plan of at most 60 ticks -/
theorem rwake_any (p : Plan) (s : Phase) (a : Int) (h : Fits p s a) (h60 : p.every ≤ 60) (W : World) :
    Calls Try.prog 70 #[aggP p, aggS s, .int .i64 a, .int .i64 61] W fun e w' => e = .returned (.int .i64 ((wakeOf p s a).getD (-1))) ∧ Below W.heap.size W w' := by
  have a0 := h.2.1.1
  have a1 := h.2.1.2
  have H := Lib.hid h
  have hR := h.1
  obtain ⟨s0, s1⟩ := fits_since h
  have hcall := fun (t : Int) (ht : Tick t) (W1 : World) => rpass_any p s ⟨-1, -1, 0⟩ t hR ht s0 s1 (by show (0 : Int) ≤ 0; omega) (by show (0 : Int) ≤ 1152921504606846976; omega) W1
  simp only [aggP, aggS, aggQ] at hcall
  have HCALL := Lib.hid hcall
  clear hcall hR h s0 s1
  unfold aggP aggS
  go_enter Try.func70, Try.ntmps70
  go_wp2_with fail
  have B0 : Blk ((W.alloc (.cells #[.int .i64 p.every, .int .i64 p.offset, .int .i64 p.timeout] 95)).alloc (.cells #[.int .u8 s.state, .int .i64 s.since] 96)) W.heap.size #[.int .i64 p.every, .int .i64 p.offset, .int .i64 p.timeout] 95 := (Blk.new W _ 95).alloc _
  have B1 : Blk ((W.alloc (.cells #[.int .i64 p.every, .int .i64 p.offset, .int .i64 p.timeout] 95)).alloc (.cells #[.int .u8 s.state, .int .i64 s.since] 96)) (W.heap.size + 1) #[.int .u8 s.state, .int .i64 s.since] 96 := Blk.new' (w := W.alloc _) _ 96 (by simp)
  have hbW : Below W.heap.size W ((W.alloc (.cells #[.int .i64 p.every, .int .i64 p.offset, .int .i64 p.timeout] 95)).alloc (.cells #[.int .u8 s.state, .int .i64 s.since] 96)) := ((Below.refl W.heap.size W).alloc (Nat.le_refl _) _).alloc (by simp) _
  generalize ((W.alloc (.cells #[.int .i64 p.every, .int .i64 p.offset, .int .i64 p.timeout] 95)).alloc (.cells #[.int .u8 s.state, .int .i64 s.since] 96)) = W0 at B0 B1 hbW ⊢
  have HB0 := Lib.hid B0
  have HB1 := Lib.hid B1
  have hl1 := B1.lt
  clear B0 B1
  go_loopw [9] (fun i wr => ∃ k : Nat, k ≤ 61 ∧ i = .int .i64 (a + k + 1) ∧ Hid (∀ n, a < n → n < a + k + 1 → ¬ changesAt p s n) ∧ Below W0.heap.size W0 wr) (fun i _ => (a + 63 - intOf i).toNat)
  case atStart => exact ⟨0, by omega, by simp, Lib.hid (fun n h1 h2 => absurd h1 (by omega)), Below.refl _ _⟩
  case round =>
    obtain ⟨k, hk, rfl, HNO, hbr⟩ := hrel
    have hbr0 : Below W.heap.size W wr := hbW.trans (hbr.mono hbW.size)
    by_cases hlt : k < 61 ∧ a + k + 1 ≤ 281474976710656
    · obtain ⟨hlt, hmx⟩ := hlt
      have C0 := HB0.out.below hbr HB0.out.lt
      have C1 := HB1.out.below hbr HB1.out.lt
      obtain ⟨c00, c01, c02, _⟩ := C0.three
      obtain ⟨c10, c11, _⟩ := C1.two
      go_wp2_with fail
      refine (HCALL.out _ ⟨by omega, by omega⟩ _).mono ?_
      rintro e w1 ⟨rfl, hb1⟩
      have hbr1 : Below W0.heap.size W0 w1 := hbr.trans (hb1.mono hbr.size)
      have D1 := HB1.out.below hbr1 HB1.out.lt
      have hs1 := hbr1.size
      have d10 : ∀ O O', ((w1.alloc O).alloc O').cell? ⟨W.heap.size + 1, 0, none⟩ = some (.int .u8 s.state) := fun O O' => ((D1.alloc O).alloc O').two.1
      have d11 : ∀ O O', ((w1.alloc O).alloc O').cell? ⟨W.heap.size + 1, 1, none⟩ = some (.int .i64 s.since) := fun O O' => ((D1.alloc O).alloc O').two.2.1
      clear hb1 c00 c01 c02 c10 c11 C0 C1 D1
      by_cases hch : changesAt p s (a + k + 1)
      · have hw : wakeOf p s a = some (a + k + 1) := by
          cases hw : wakeOf p s a with
          | none => exact absurd hch (wake_never H.out hw _ (by omega) hmx)
          | some w =>
            obtain ⟨g1, g2, g3⟩ := wake_at H.out hw
            rcases Int.lt_trichotomy w (a + k + 1) with g | g | g
            · exact absurd g1 (HNO.out w (wake_gt H.out hw).1 g)
            · rw [g]
            · exact absurd hch (g2 _ (by omega) g)
        have ht := pass_turns hch
        obtain ⟨np, hnp⟩ : ∃ np, np = passP p s ⟨-1, -1, 0⟩ (a + k + 1) := ⟨_, rfl⟩
        rw [← hnp] at ht
        simp only [← hnp]
        have HW := Lib.hid hw
        clear hw hnp hch
        have ht3 : np.1.state ≠ s.state ∨ (np.1.state = s.state ∧ np.1.since ≠ s.since) ∨ (np.1.state = s.state ∧ np.1.since = s.since ∧ 0 < np.2.skipped) := by omega
        obtain ⟨⟨q0, q1⟩, ⟨q2, q3, q4⟩⟩ := np
        dsimp only at ht3 ⊢
        clear ht
        rcases ht3 with g | ⟨rfl, g⟩ | ⟨rfl, rfl, g⟩
        all_goals
          go_wp2_with fail
          go_ret
          exact ⟨by rw [HW.out]; rfl, (hbW.trans (hbr1.mono hbW.size)).alloc (by have := hbW.size; omega) _ |>.alloc (by have := hbW.size; simp; omega) _⟩
      · have hst := pass_still hch
        have HNO2 := Lib.hid (show ∀ n, a < n → n < a + (k + 1 : Nat) + 1 → ¬ changesAt p s n from fun n h1 h2 => by
          by_cases e : n = a + k + 1
          · rw [e]; exact hch
          · exact HNO.out n h1 (by omega))
        simp only [hst]
        clear hst hch
        go_wp2_with fail
        go_roundw
        case rel => exact ⟨k + 1, by omega, by go_num, HNO2, (hbr1.alloc hs1 _).alloc (by simp; omega) _⟩
        case measure => simp [intOf]; omega
    · have hw : wakeOf p s a = none := by
        cases hw : wakeOf p s a with
        | none => rfl
        | some w =>
          obtain ⟨g1, g2, g3⟩ := wake_at H.out hw
          obtain ⟨g4, g5⟩ := wake_gt H.out hw
          exact absurd g1 (HNO.out w g4 (by omega))
      have HW := Lib.hid hw
      clear hw
      by_cases h61 : k < 61
      · have hmx : 281474976710656 < a + k + 1 := by omega
        clear hlt
        go_wp2_with fail
        go_ret
        exact ⟨by rw [HW.out]; rfl, hbr0⟩
      · clear hlt
        go_wp2_with fail
        go_ret
        exact ⟨by rw [HW.out]; rfl, hbr0⟩
end Go.Proofs.Ytokgfmibhkkiaaa
