/- awake, walked -/
import Derived.Test.YtokgfmibhkkiaaaAwake
namespace Go.Proofs.Ytokgfmibhkkiaaa
open Go.RowKit Wh Mem Go.Maps

def exF (P b1 b2 : Nat) (k : Nat) : Prop := k = P ∨ k = b1 ∨ k = b2
theorem exK {P b1 b2 : Nat} {p q : Phase} {w w' : World} (h : Kept (fun k => k = P ∨ ∃ m ∈ exL b1 b2 p q, m.blk = k) w w') : Kept (exF P b1 b2) w w' :=
  h.mono (by
    rintro i _ (rfl | ⟨m, hm, rfl⟩)
    · exact .inl rfl
    · simp only [exL, List.mem_cons, List.not_mem_nil, or_false] at hm
      rcases hm with rfl | rfl
      · exact .inr (.inl rfl)
      · exact .inr (.inr rfl))
theorem exK2 {P b1 b2 : Nat} {w w' : World} (h : Kept (fun k => k = b2) w w') : Kept (exF P b1 b2) w w' := h.mono (by rintro i _ rfl; exact .inr (.inr rfl))

theorem IntsAt.below {w w' : World} {v : Value} {xs : List Int} (h : IntsAt w v xs) (hb : Below w.heap.size w w') : IntsAt w' v xs := by
  rcases h with h | ⟨g, cap, rfl, hg, hc⟩
  · exact .inl h
  · exact .inr ⟨g, cap, rfl, by have := hb.size; omega, fun j hj => (hb.cell (p := ⟨g, j, none⟩) hg).trans (hc j hj)⟩
theorem MovesAt.below {w w' : World} {v : Value} {xs : List (Int × Report)} (h : MovesAt w v xs) (hb : Below w.heap.size w w') : MovesAt w' v xs := by
  rcases h with h | ⟨g, cap, rfl, hg, hc⟩
  · exact .inl h
  · refine .inr ⟨g, cap, rfl, by have := hb.size; omega, fun j hj => ?_⟩
    obtain ⟨h0, h1, h2, h3⟩ := hc j hj
    exact ⟨(hb.cell (p := ⟨g, j * 4, none⟩) hg).trans h0, (hb.cell (p := ⟨g, j * 4 + 1, none⟩) hg).trans h1, (hb.cell (p := ⟨g, j * 4 + 2, none⟩) hg).trans h2, (hb.cell (p := ⟨g, j * 4 + 3, none⟩) hg).trans h3⟩
theorem ints_fresh (w : World) (x : Int) : IntsAt (w.alloc (.cells #[.int .i64 x] 3)) (.slice (some ⟨w.heap.size, 0, none⟩) 1 1) [x] :=
  .inr ⟨w.heap.size, 1, rfl, by simp, fun j hj => by
    obtain rfl : j = 0 := by simpa using hj
    exact (Blk.new w #[.int .i64 x] 3).one.1⟩
theorem same_fresh {w w' : World} {v : Value} {x : Int} (h : IntsAt w v [x]) (hb : Below w.heap.size w w') : Calls Try.prog 35 #[v, .slice (some ⟨w'.heap.size, 0, none⟩) 1 1] (w'.alloc (.cells #[.int .i64 x] 3)) fun e w2 => e = .returned (.bool true) ∧ Below w.heap.size w w2 :=
  (same_yes (h.below (hb.alloc hb.size _)) (ints_fresh w' x) (by simp)).mono (by rintro e w2 ⟨rfl, h2⟩; exact ⟨rfl, (hb.alloc hb.size _).trans (h2.mono (by have := hb.size; simp; omega))⟩)
theorem moved_fresh {w w' : World} {v : Value} {xs : List (Int × Report)} (h : MovesAt w v xs) (hlen : xs.length ≤ 1000000) (hb : Below w.heap.size w w') {n : Nat} (hn : n = xs.length) {cs : Array Value} (hcs : cs.toList = xs.flatMap mvCells) :
    Calls Try.prog 20 #[v, .slice (some ⟨w'.heap.size, 0, none⟩) n n] (w'.alloc (.cells cs 45)) fun e w2 => e = .returned (.bool true) ∧ Below w.heap.size w w2 := by
  subst hn
  have hf : MovesAt (w'.alloc (.cells cs 45)) (.slice (some ⟨w'.heap.size, 0, none⟩) xs.length xs.length) xs := by
    refine .inr ⟨w'.heap.size, xs.length, rfl, by simp, fun j hj => ?_⟩
    have key : ∀ i, i < 4 → (w'.alloc (.cells cs 45)).cell? ⟨w'.heap.size, j * 4 + i, none⟩ = (mvCells xs[j])[i]? := fun i hi => by
      rw [(Blk.new w' cs 45).cell, ← Array.getElem?_toList, hcs, flat_at (n := 4) (fun _ => rfl) xs j i hj hi]
    exact ⟨key 0 (by omega), key 1 (by omega), key 2 (by omega), key 3 (by omega)⟩
  exact (moved_yes (h.below (hb.alloc hb.size _)) hf hlen).mono (by rintro e w2 ⟨rfl, h2⟩; exact ⟨rfl, (hb.alloc hb.size _).trans (h2.mono (by have := hb.size; simp; omega))⟩)

set_option maxHeartbeats 4000000 in
set_option maxRecDepth 100000 in
theorem awake_any (W : World) : Calls Try.prog 10 #[] W fun e w' => e = .returned (.bool true) ∧ Below W.heap.size W w' := by
  have t0 : Tick 0 := ⟨by omega, by omega⟩
  have HNEW := Lib.hid (new_ok 0 t0 W)
  have hwf : (Lit.int .i64 2).wf = true := wf_id ⟨by omega, by omega⟩
  have HT := Lib.hid t0
  have HWF := Lib.hid hwf
  clear t0 hwf
  go_enter Try.func10, Try.ntmps10
  go_wp2_with fail
  refine (HNEW.out).mono ?_
  rintro e w1 ⟨rfl, hw1, hb1⟩
  have HA1 := Lib.hid (add_ok hw1 HT.out 1 10 7 4 (by omega) (by omega) (by decide) rfl (by simp))
  have hz1 := hb1.size
  clear hw1
  go_wp2_with fail
  refine (HA1.out).mono ?_
  rintro e w2 ⟨rfl, b1, hn1, hw2, hk2⟩
  have HA2 := Lib.hid (add_ok hw2 HT.out 2 5 0 5 (by omega) (by omega) (by decide) rfl (by simp [ins]))
  have hz2 := hk2.size
  have hb2 : Below W.heap.size W w2 := hb1.trans (hk2.belowOf hz1 (fun i hi e => by omega))
  clear hw2 hk2
  go_wp2_with fail
  refine (HA2.out).mono ?_
  rintro e w3 ⟨rfl, b2, hn2, hw3, hk3⟩
  rw [ex_ins] at hw3
  have hz3 := hk3.size
  have hb3 : Below W.heap.size W w3 := hb2.trans (hk3.belowOf (by omega) (fun i hi e => by omega))
  have l0 : W.heap.size + 1 < w3.heap.size := hw3.head.lt
  have l1 : b1 < w3.heap.size := (hw3.mem ⟨1, b1, ⟨10, 7, 4⟩, ⟨0, 0⟩⟩ (by simp [exL])).lt
  have l2 : b2 < w3.heap.size := (hw3.mem ⟨2, b2, ⟨5, 0, 5⟩, ⟨0, 0⟩⟩ (by simp [exL])).lt
  have HFB := Lib.hid (show ∀ i, exF (W.heap.size + 1) b1 b2 i → W.heap.size ≤ i ∧ i < w3.heap.size by rintro i (rfl | rfl | rfl) <;> omega)
  have HWK := Lib.hid (wakeW_any hw3)
  have HW3 := Lib.hid hw3
  clear hw3 hk3
  go_wp2_with fail
  refine (HWK.out).mono ?_
  rintro e w4 ⟨r, rfl, hr, hb4⟩
  obtain rfl := ex_wake0 hr
  simp only [wakeRes6]
  have K4 : Kept (exF (W.heap.size + 1) b1 b2) w3 w4 := Kept.of_below hb4 _
  have ad := advW_ok (HW3.out.below hb4) 7 (by omega) (by omega) (by omega) (by simp [exL])
  rw [(ex_adv1 b1 b2).1, (ex_adv1 b1 b2).2] at ad
  have HAD := Lib.hid ad
  clear ad hr hb4
  go_wp2_with fail
  refine (HAD.out).mono ?_
  rintro e w5 ⟨v5, rfl, ho5, hw5, hk5⟩
  have K5 := K4.trans (exK hk5)
  have H5 := Lib.hid ho5
  have HAN := Lib.hid (answer_yes hw5 HWF.out (ex_find2 b1 b2 ⟨1, 7⟩ ⟨1, 5⟩) rfl)
  clear ho5 hw5 hk5
  go_wp2_with fail
  refine (HAN.out).mono ?_
  rintro e w6 ⟨rfl, hw6, hk6⟩
  rw [ex_set2] at hw6
  have k6 : Kept (exF (W.heap.size + 1) b1 b2) w5 w6 := exK2 hk6
  have HHA := Lib.hid (handle_yes hw6 HWF.out (ex_find2 b1 b2 ⟨1, 7⟩ ⟨2, 5⟩) rfl)
  clear hw6 hk6
  go_wp2_with fail
  refine (HHA.out).mono ?_
  rintro e w7 ⟨rfl, hw7, hk7⟩
  rw [ex_set2] at hw7
  have k7 : Kept (exF (W.heap.size + 1) b1 b2) w6 w7 := exK2 hk7
  have ad := advW_ok hw7 11 (by omega) (by omega) (by omega) (by simp [exL])
  rw [(ex_adv2 b1 b2).1, (ex_adv2 b1 b2).2] at ad
  have HAD2 := Lib.hid ad
  clear ad hw7 hk7
  go_wp2_with fail
  refine (HAD2.out).mono ?_
  rintro e w8 ⟨v8, rfl, ho8, hw8, hk8⟩
  have k8 := exK hk8
  have H8 := Lib.hid ho8
  have HOP := Lib.hid (open_any hw8 (by simp [exL]))
  have HW8 := Lib.hid hw8
  clear ho8 hw8 hk8
  go_wp2_with fail
  refine (HOP.out).mono ?_
  rintro e w9 ⟨v9, rfl, ho9, hb9⟩
  rw [(ex_sel b1 b2).1] at ho9
  have H9 := Lib.hid ho9
  have HW9 := Lib.hid (HW8.out.below hb9)
  have HWT := Lib.hid (wait_any HW9.out (by simp [exL]))
  have k9 : Kept (exF (W.heap.size + 1) b1 b2) w8 w9 := Kept.of_below hb9 _
  clear ho9 hb9
  go_wp2_with fail
  refine (HWT.out).mono ?_
  rintro e wa ⟨va, rfl, hoa, hba⟩
  rw [(ex_sel b1 b2).2] at hoa
  have HAa := Lib.hid hoa
  have HWa := Lib.hid (HW9.out.below hba)
  have ka : Kept (exF (W.heap.size + 1) b1 b2) w9 wa := Kept.of_below hba _
  have HNO := Lib.hid (handle_no HWa.out HWF.out (ex_find2 b1 b2 ⟨2, 7⟩ ⟨1, 10⟩) (by simp))
  have HWK2 := Lib.hid (wakeW_any HWa.out)
  clear hoa hba
  go_wp2_with fail
  refine (HNO.out).mono ?_
  rintro e wb ⟨rfl, rfl⟩
  go_wp2_with fail
  refine (HWK2.out).mono ?_
  rintro e wb ⟨r, rfl, hr, hbb⟩
  obtain rfl := ex_wake2 hr
  simp only [wakeRes6]
  have kb : Kept (exF (W.heap.size + 1) b1 b2) wa wb := Kept.of_below hbb _
  have ad := advW_ok (HWa.out.below hbb) 15 (by omega) (by omega) (by omega) (by simp [exL])
  rw [(ex_adv3 b1 b2).1, (ex_adv3 b1 b2).2] at ad
  have HAD3 := Lib.hid ad
  clear ad hr hbb
  go_wp2_with fail
  refine (HAD3.out).mono ?_
  rintro e wc ⟨vc, rfl, hoc, hwc, hkc⟩
  have kc := exK hkc
  have HCc := Lib.hid hoc
  have HBK := Lib.hid (advW_back hwc 14 (by omega) (by omega) (by omega))
  clear hoc hwc hkc
  go_wp2_with fail
  refine (HBK.out).mono ?_
  rintro e wd ⟨rfl, rfl⟩
  have s5 := K5.size
  have s6 := k6.size
  have s7 := k7.size
  have s8 := k8.size
  have s9 := k9.size
  have sa := ka.size
  have sb := kb.size
  have KK := ((((((K5.trans k6).trans k7).trans k8).trans k9).trans ka).trans kb).trans kc
  have hbW : Below W.heap.size W wc := hb3.trans (KK.belowOf (by omega) (fun i hi hX => by have := (HFB.out i hX).1; omega))
  have R9 : wc.ownsRow w8.heap.size 3 1 v9 1 [.int .i64 2] := own_kept H9.out ((ka.trans kb).trans kc) (fun i hX => by have := (HFB.out i hX).2; omega)
  have Ra : wc.ownsRow w9.heap.size 3 1 va 1 [.int .i64 1] := own_kept HAa.out (kb.trans kc) (fun i hX => by have := (HFB.out i hX).2; omega)
  have R5 : wc.ownsRow w4.heap.size 45 4 v5 2 ([(1, (⟨7, -1, 0⟩ : Report)), (2, ⟨5, -1, 0⟩)].flatMap mvCells) := own_kept H5.out ((((((k6.trans k7).trans k8).trans k9).trans ka).trans kb).trans kc) (fun i hX => by have := (HFB.out i hX).2; have := K4.size; omega)
  have R8 : wc.ownsRow w7.heap.size 45 4 v8 2 ([(1, (⟨-1, 7, 0⟩ : Report)), (2, ⟨10, -1, 0⟩)].flatMap mvCells) := own_kept H8.out (((k9.trans ka).trans kb).trans kc) (fun i hX => by have := (HFB.out i hX).2; omega)
  have I9 := Lib.hid (IntsAt.of_row (xs := [2]) R9)
  have Ia := Lib.hid (IntsAt.of_row (xs := [1]) Ra)
  have M5 := Lib.hid (MovesAt.of_row (xs := [(1, ⟨7, -1, 0⟩), (2, ⟨5, -1, 0⟩)]) R5)
  have M8 := Lib.hid (MovesAt.of_row (xs := [(1, ⟨-1, 7, 0⟩), (2, ⟨10, -1, 0⟩)]) R8)
  have Mc := Lib.hid (MovesAt.of_row (xs := [(2, ⟨-1, 10, 1⟩)]) HCc.out)
  clear KK R9 Ra R5 R8 s5 s6 s7 s8 s9 sa sb
  go_wp2_with fail
  refine (same_fresh I9.out (Below.refl _ _)).mono ?_
  rintro e we ⟨rfl, he⟩
  go_wp2_with fail
  refine (same_fresh Ia.out he).mono ?_
  rintro e wf ⟨rfl, hf⟩
  go_wp2_with fail
  refine (moved_fresh M5.out (by simp) hf rfl rfl).mono ?_
  rintro e wg ⟨rfl, hg⟩
  go_wp2_with fail
  refine (moved_fresh M8.out (by simp) hg rfl rfl).mono ?_
  rintro e wh ⟨rfl, hh⟩
  go_wp2_with fail
  refine (moved_fresh Mc.out (by simp) hh rfl rfl).mono ?_
  rintro e wi ⟨rfl, hi⟩
  go_wp2_with fail
  go_ret
  exact ⟨rfl, hbW.trans (hi.mono hbW.size)⟩
end Go.Proofs.Ytokgfmibhkkiaaa
