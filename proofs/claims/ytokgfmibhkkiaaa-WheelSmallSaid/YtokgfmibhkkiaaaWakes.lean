/- WheelWakes, walked, on the contract of the examples (awake), which another text proves. -/
import Derived.Test.YtokgfmibhkkiaaaLists
namespace Go.Proofs.Ytokgfmibhkkiaaa
open Go.RowKit Wh Mem Go.Maps

theorem SmallsAt.below {w w' : World} {base B : Nat} {v : Value} {S : List Sm} (h : SmallsAt w base v S) (hb : Below B w w') (hB : base ≤ B) : SmallsAt w' base v S := by
  rcases h with h | ⟨a, cap, rfl, h1, h2, h3, h4⟩
  · exact .inl h
  · refine .inr ⟨a, cap, rfl, h1, h2, h3, fun i hi => ?_⟩
    obtain ⟨hu, d0, d1, d2, d3⟩ := h4 i hi
    have hq : ∀ j, w'.cell? ((a.add (i * 4)).add j) = w.cell? ((a.add (i * 4)).add j) := fun j => World.cell?_of_block (by rw [add_blk, add_blk]; exact hb.block _ (by have := h3 (by omega); omega))
    exact ⟨hu, (hq 0).trans d0, (hq 1).trans d1, (hq 2).trans d2, (hq 3).trans d3⟩
theorem foot_of {pb mb : Nat} {l l' : List Mb} (h : l'.map (·.blk) = l.map (·.blk)) {j : Nat} (hj : Foot pb mb l' j) : Foot pb mb l j := by
  rcases hj with rfl | rfl | ⟨m, hm, rfl⟩
  · exact .inl rfl
  · exact .inr (.inl rfl)
  · have : m.blk ∈ l.map (·.blk) := by rw [← h]; exact List.mem_map_of_mem hm
    obtain ⟨x, hx, e⟩ := List.mem_map.1 this
    exact .inr (.inr ⟨x, hx, e⟩)
theorem advM_blks (l : List Mb) (a b : Int) : (l.map (advM a b)).map (·.blk) = l.map (·.blk) := by rw [List.map_map]; rfl
theorem len_form {w : World} {base : Nat} {e : TypeId} {size : Nat} {v : Value} {n : Nat} {xs : List Value} (h : w.ownsRow base e size v n xs) : ∃ b c, v = .slice b n c := by
  rcases slice_form h with ⟨rfl, rfl, -⟩ | ⟨g, cap, rfl, -, -⟩ <;> exact ⟨_, _, rfl⟩

set_option maxHeartbeats 2000000 in
set_option maxRecDepth 100000 in
theorem wakes_of (hawake : ∀ W, Calls Try.prog 10 #[] W fun e w' => e = .returned (.bool true) ∧ Below W.heap.size W w') {w : World} {base : Nat} {v : Value} {S : List Sm} (hS : SmallsAt w base v S) (hbase : base ≤ w.heap.size) (now : Int) (hn : U64 now) :
    Calls Try.prog 3 #[.int .u64 now, v] w fun e w' => e = .returned (.bool true) ∧ Below w.heap.size w w' := by
  have HA := Lib.hid (hawake w)
  have HS := Lib.hid hS
  have HN := Lib.hid hn
  clear hS hn hawake
  go_enter Try.func3, Try.ntmps3
  go_wp2_with fail
  refine (HA.out).mono ?_
  rintro e w1 ⟨rfl, hb1⟩
  have HS1 := Lib.hid (HS.out.below hb1 hbase)
  have hz1 := hb1.size
  have hm := made_any HS1.out (by omega) now HN.out
  have HM := Lib.hid hm
  clear hm
  go_wp2_with fail
  refine (HM.out).mono ?_
  rintro e w2 ⟨pb, mb, l0, rfl, hw2, hcore, hfoot, hb2⟩
  obtain ⟨N, hN⟩ : ∃ N, N = min S.length 10 := ⟨_, rfl⟩
  rw [← hN] at hcore
  simp only [← hN]
  have hlen0 := core_len hcore (by omega)
  have hN1 : N ≤ S.length := by omega
  have hN2 : N ≤ 10 := by omega
  have HW2 := Lib.hid hw2
  have HF2 := Lib.hid hfoot
  have hb02 : Below w.heap.size w w2 := hb1.trans (hb2.mono hz1)
  clear hw2 hfoot hcore hN
  go_wp2_with fail
  have hzw2 := hb02.size
  go_loopw [24] (fun i wr => ∃ k : Nat, k ≤ 12 ∧ i = .int .i64 k ∧ ∃ l t0, WheelAt wr pb mb t0 l ∧ l.length = N ∧ (∀ j, Foot pb mb l j → w1.heap.size ≤ j) ∧ Below w1.heap.size w1 wr ∧ (0 < k → 0 < N)) (fun i _ => 12 - (intOf i).toNat)
  case atStart => exact ⟨0, by omega, rfl, l0, _, HW2.out, hlen0, HF2.out, hb2, fun h => absurd h (by omega)⟩
  case round =>
    obtain ⟨k, hk, rfl, l, t0, hw, hlen, hft, hbr, hpos⟩ := hrel
    have hbr0 : Below w.heap.size w wr := hb1.trans (hbr.mono hz1)
    have hfits := hw.fits
    have HFI := Lib.hid hfits
    have HFT := Lib.hid hft
    have HWK := Lib.hid (wakeW_any hw)
    have HW := Lib.hid hw
    clear hfits hft hw
    by_cases hlt : k < 12
    · go_wp2_with fail
      refine (HWK.out).mono ?_
      rintro e wa ⟨r, rfl, hr, hba⟩
      have HWA := Lib.hid (HW.out.below hba)
      have HNOW := Lib.hid (now_any HWA.out)
      have hzr := hbr.size
      cases r with
      | none =>
        simp only [wakeRes6]
        have hl := wake_late HFI.out hr
        by_cases hN0 : N = 0
        · subst hN0
          go_wp2_with (first | (go_at_call 13; refine (HNOW.out).mono ?_; rintro e w9 ⟨rfl, rfl⟩))
          go_ret
          exact ⟨rfl, hbr0.trans (hba.mono (by omega))⟩
        · have hl2 : 281474976710656 - 2199023255552 < t0 := by
            rcases hl with rfl | h
            · exact absurd hlen.symm (by simpa using hN0)
            · exact h
          clear hl
          go_wp2_with (first | (go_at_call 13; refine (HNOW.out).mono ?_; rintro e w9 ⟨rfl, rfl⟩))
          go_ret
          exact ⟨by simp; omega, hbr0.trans (hba.mono (by omega))⟩
      | some t =>
        simp only [wakeRes6]
        obtain ⟨r1, r2⟩ := wake_range HFI.out hr
        have HR := Lib.hid hr
        clear hr
        go_wp2_with (first | (go_at_call 13; refine (HNOW.out).mono ?_; rintro e w9 ⟨rfl, rfl⟩))
        obtain ⟨h0t, hN0⟩ : 0 ≤ t0 ∧ 0 < N := by
          obtain ⟨m, hm, -⟩ := HR.out.1
          exact ⟨(HFI.out m hm).2.1.1, by rw [← hlen]; exact List.length_pos_of_mem hm⟩
        have q := list_quiet HFI.out HR.out (b := t - 1) (by omega) (by omega) r2
        have ad := advW_ok HWA.out (t - 1) (by omega) (by omega) (by omega) (by omega)
        rw [q.1, q.2] at ad
        have hwt : wrap64 (t - 1) = t - 1 := by unfold wrap64; omega
        rw [hwt]
        refine ad.mono ?_
        rintro e w3 ⟨v3, rfl, ho3, hw3, hk3⟩
        have HW3 := Lib.hid hw3
        obtain ⟨g3, c3, rfl⟩ := len_form ho3
        have ld := list_loud HFI.out HR.out
        have ad2 := advW_ok HW3.out t (by omega) r2 (by omega) (by omega)
        have HAD2 := Lib.hid ad2
        have hb3 : Below w1.heap.size w1 w3 := (hbr.trans (hba.mono hzr)).trans (hk3.belowOf (by have := hba.size; omega) (fun i hi hX => by
          have := HFT.out i (by rcases hX with rfl | ⟨m, hm, rfl⟩; exact .inl rfl; exact .inr (.inr ⟨m, hm, rfl⟩)); omega))
        clear ad ad2 hw3 ho3 hwt q hk3
        go_wp2_with fail
        refine (HAD2.out).mono ?_
        rintro e w4 ⟨v4, rfl, ho4, hw4, hk4⟩
        have HW4 := Lib.hid hw4
        obtain ⟨g4, c4, rfl⟩ := len_form ho4
        have hb4 : Below w1.heap.size w1 w4 := hb3.trans (hk4.belowOf hb3.size (fun i hi hX => by
          have := HFT.out i (by rcases hX with rfl | ⟨m, hm, rfl⟩; exact .inl rfl; exact .inr (.inr ⟨m, hm, rfl⟩)); omega))
        have HTK := Lib.hid (ticks_any HW4.out (HS1.out.below hb4 (by omega)) (fun j hj => Nat.le_trans (show base ≤ w1.heap.size by omega) (HFT.out j (foot_of (advM_blks _ _ _) hj))) N hN1 hN2)
        have hz4 := hb4.size
        generalize (moves (t - 1) t l).length = q4 at ld ho4
        clear hw4 ho4 hk4
        go_wp2_with (first | (go_at_call 15; refine (HTK.out).mono ?_; rintro e w5 ⟨rfl, hw5, hk5⟩))
        have hlen5 : (tickM S N (l.map (advM (t - 1) t))).length = N := by
          have := congrArg List.length (tickM_ids S N (l.map (advM (t - 1) t)))
          simp only [List.length_map] at this
          rw [this, hlen]
        have hft5 : ∀ j, Foot pb mb (tickM S N (l.map (advM (t - 1) t))) j → w1.heap.size ≤ j := fun j hj => HFT.out j (foot_of (by rw [tickM_blks, advM_blks]) hj)
        have hb5 : Below w1.heap.size w1 w5 := hb4.trans (hk5.belowOf hz4 (fun i hi hX => by
          obtain ⟨m, hm, e⟩ := inB_mem hX
          have := HFT.out i (foot_of (advM_blks l (t - 1) t) (.inr (.inr ⟨m, hm, e⟩))); omega))
        go_roundw
        case rel => exact ⟨k + 1, by omega, by go_num, _, _, hw5, hlen5, hft5, hb5, fun _ => hN0⟩
        case measure => simp [intOf]; omega
    · obtain rfl : k = 12 := by omega
      have hp := hpos (by omega)
      go_wp2
      go_ret
      exact ⟨by simp, hbr0⟩
end Go.Proofs.Ytokgfmibhkkiaaa
