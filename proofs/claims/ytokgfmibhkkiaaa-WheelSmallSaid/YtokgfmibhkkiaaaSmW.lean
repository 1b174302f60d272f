/- WheelSmall, walked -/
import Derived.Test.YtokgfmibhkkiaaaNobW
import Derived.Test.YtokgfmibhkkiaaaSmA
import Derived.Test.YtokgfmibhkkiaaaSmC
import Derived.Deep.DeepCutAuto
namespace Go.Proofs.Ytokgfmibhkkiaaa
open Go.RowKit Wh Tw Mem Grow Flat

theorem info66s : (Try.prog.info? 66).map (fun i => (i.zero, i.size, i.bytes)) = some (some (.agg #[.int .u8 0, .int .i64 0, .int .i64 0, .int .i64 0, .int .i64 0, .int .i64 0]), 6, 48) := by kernel_rfl
theorem src_new (w : World) {T : List Ac} {cs : Array Value} {n : Nat} (hn : n = T.length) (hcs : cs.toList = T.flatMap acCs) (hm : n ≤ maxLen) :
    SrcAt (w.alloc (.cells cs 66)) (.slice (some ⟨w.heap.size, 0, none⟩) n n) n (T.flatMap acCs) := .inr ⟨_, _, rfl, (acts_new w hn hcs hm).cells rfl⟩
theorem acCs_one (T : List Ac) : ∀ u ∈ T.flatMap acCs, u.oneCell' = true := by
  intro u hu
  obtain ⟨a, -, ha⟩ := List.mem_flatMap.1 hu
  simp only [acCs, List.mem_cons, List.not_mem_nil, or_false] at ha
  rcases ha with rfl | rfl | rfl | rfl | rfl | rfl <;> rfl
def lit0 (k j s : Nat) : List Ac := [⟨0, 5, 0, ⟨(k : Int), (k : Int) - 1, (j : Int)⟩⟩, ⟨0, 2, 0, ⟨3, 0, 1 + (s : Int) % 3⟩⟩, ⟨0, 9, 0, ⟨1, 0, 1⟩⟩]
def lit1 (s x z : Int) : List Ac := [⟨4, 0, s, ⟨0, 0, 0⟩⟩, ⟨2 + (x + s) % 2, 5, 0, ⟨0, 0, 0⟩⟩, ⟨3, z, 0, ⟨0, 0, 0⟩⟩, ⟨2, 9, 0, ⟨0, 0, 0⟩⟩]
theorem lit1_ok {s x z : Int} (hs : 0 ≤ s ∧ s ≤ 9) (hz : 0 ≤ z ∧ z ≤ 9) : ∀ a ∈ lit1 s x z, a.Ok := by
  intro a ha
  simp only [lit1, List.mem_cons, List.not_mem_nil, or_false] at ha
  rcases ha with rfl | rfl | rfl | rfl <;> (unfold Ac.Ok I64; simp only []; omega)
theorem lit0_ok {k j s : Nat} (hk : k < 7) (hj : j ≤ k) : ∀ a ∈ lit0 k j s, a.Ok := by
  intro a ha
  simp only [lit0, List.mem_cons, List.not_mem_nil, or_false] at ha
  rcases ha with rfl | rfl | rfl <;> (unfold Ac.Ok I64; simp only []; omega)

theorem ful_right {k : Nat} (h : k < 10000) : Right ⟨1099511627776, (k : Int), 1⟩ := by
  unfold Right
  simp only []
  omega
theorem find_adw (l : List Mb) (a b id : Int) : findM (l.map (advM a b)) id = (findM l id).map (advM a b) := by
  unfold findM
  rw [List.find?_map]
  rfl
def nsA : Array Value := #[.int .i64 (-9223372036854775808), .int .i64 (-1), .int .i64 0, .int .i64 1, .int .i64 4294967295, .int .i64 4294967296, .int .i64 281474976710655, .int .i64 281474976710656, .int .i64 281474976710657, .int .i64 9223372036854775807]
theorem nsA_at {j : Nat} (hj : j < 10) : ∃ n : Int, I64 n ∧ nsA[j]? = some (.int .i64 n) := by
  unfold I64 nsA
  rcases (by omega : j = 0 ∨ j = 1 ∨ j = 2 ∨ j = 3 ∨ j = 4 ∨ j = 5 ∨ j = 6 ∨ j = 7 ∨ j = 8 ∨ j = 9) with rfl | rfl | rfl | rfl | rfl | rfl | rfl | rfl | rfl | rfl <;> exact ⟨_, ⟨by omega, by omega⟩, rfl⟩
def lit2 (n : Int) : List Ac := [⟨0, n, 0, ⟨2, 0, 1⟩⟩, ⟨0, 3, 0, ⟨n, 0, 1⟩⟩, ⟨0, 3, 0, ⟨5, n, 1⟩⟩, ⟨0, 3, 0, ⟨5, 1, n⟩⟩, ⟨0, 3, 0, ⟨5, 1, 2⟩⟩, ⟨4, 0, 1, ⟨0, 0, 0⟩⟩, ⟨6, 0, n, ⟨0, 0, 0⟩⟩, ⟨1, n, 0, ⟨0, 0, 0⟩⟩, ⟨5, 0, -1, ⟨0, 0, 0⟩⟩]
def lit3 (n : Int) : List Ac := [⟨0, 1, 0, ⟨2, 0, 1⟩⟩, ⟨0, 2, 0, ⟨60, 59, 60⟩⟩, ⟨4, 0, 2, ⟨0, 0, 0⟩⟩, ⟨3, 1, 0, ⟨0, 0, 0⟩⟩, ⟨6, 0, n, ⟨0, 0, 0⟩⟩]
theorem lit2_ok {n : Int} (h : I64 n) : ∀ a ∈ lit2 n, a.Ok := by
  have h1 := h.1
  have h2 := h.2
  intro a ha
  simp only [lit2, List.mem_cons, List.not_mem_nil, or_false] at ha
  rcases ha with rfl | rfl | rfl | rfl | rfl | rfl | rfl | rfl | rfl <;> (unfold Ac.Ok I64; simp only []; omega)
theorem lit3_ok {n : Int} (h : I64 n) : ∀ a ∈ lit3 n, a.Ok := by
  have h1 := h.1
  have h2 := h.2
  intro a ha
  simp only [lit3, List.mem_cons, List.not_mem_nil, or_false] at ha
  rcases ha with rfl | rfl | rfl | rfl | rfl <;> (unfold Ac.Ok I64; simp only []; omega)

set_option maxHeartbeats 8000000 in
set_option maxRecDepth 100000 in
theorem small_any (W : World) : Calls Try.prog 7 #[] W fun e w' => e = .returned (.bool true) ∧ Below W.heap.size W w' := by
  go_enter Try.func7, Try.ntmps7
  go_wp2_with fail
  go_loopw [2] (fun i wr => ∃ k : Nat, 1 ≤ k ∧ k ≤ 7 ∧ i = .int .i64 k ∧ Below W.heap.size W wr) (fun i _ => 7 - (intOf i).toNat)
  case atStart => exact ⟨1, by omega, by omega, rfl, Below.refl _ _⟩
  case round =>
    obtain ⟨k, hk1, hk, rfl, hbr⟩ := hrel
    by_cases hlt : k < 7
    · go_wp2_with fail
      simp only [decide_eq_true (show (k : Int) < 7 by omega)]
      go_loopw [3] (fun i wr => ∃ j : Nat, 1 ≤ j ∧ j ≤ k + 1 ∧ i = .int .i64 j ∧ Below W.heap.size W wr) (fun i _ => k + 1 - (intOf i).toNat)
      case atStart => exact ⟨1, by omega, by omega, rfl, hbr⟩
      case round =>
        obtain ⟨j, hj1, hj, rfl, hbj⟩ := hrel
        by_cases hltj : j < k + 1
        · have hle : j ≤ k := by omega
          go_wp2_with fail
          go_loopw [4] (fun i wr => ∃ s : Nat, 1 ≤ s ∧ s ≤ 9 ∧ i = .int .i64 s ∧ Below W.heap.size W wr) (fun i _ => 9 - (intOf i).toNat)
          case atStart => exact ⟨1, by omega, by omega, rfl, hbj⟩
          case round =>
            obtain ⟨s, hs1, hs, rfl, hbs⟩ := hrel
            by_cases hlts : s < 9
            · go_wp2_with fail
              refine (add_act _ _ _ _ _).mono ?_
              rintro e w1 ⟨rfl, hb1⟩
              go_wp2_with fail
              refine (add_act _ _ _ _ _).mono ?_
              rintro e w2 ⟨rfl, hb2⟩
              go_wp2_with fail
              refine (add_act _ _ _ _ _).mono ?_
              rintro e w3 ⟨rfl, hb3⟩
              go_wp2_with fail
              have hz1 := hb1.size
              have hz2 := hb2.size
              have hz3 := hb3.size
              have hzs := hbs.size
              have hbw : Below W.heap.size W w3 := ((hbs.trans (hb1.mono hzs)).trans (hb2.mono (by omega))).trans (hb3.mono (by omega))
              have hR0 := acts_new w3 (T := lit0 k j s) (n := 3) (cs := #[.int .u8 0, .int .i64 5, .int .i64 0, .int .i64 k, .int .i64 (k - 1), .int .i64 j, .int .u8 0, .int .i64 2, .int .i64 0, .int .i64 3, .int .i64 0, .int .i64 (1 + (s : Int) % 3), .int .u8 0, .int .i64 9, .int .i64 0, .int .i64 1, .int .i64 0, .int .i64 1]) rfl rfl (by decide)
              have HR0 := Lib.hid hR0
              clear hR0 hb1 hb2 hb3
              go_loopw [5, 6] (fun v i wr => ∃ (T : List Ac) (x : Nat), i = .int .i64 x ∧ x ≤ 48 ∧ T.length ≤ 53 ∧ (∀ a ∈ T, a.Ok) ∧ wr.ownsRow w3.heap.size 66 6 v T.length (T.flatMap acCs) ∧ Below w3.heap.size w3 wr) (fun _ i _ => 49 - (intOf i).toNat)
              case atStart => exact ⟨lit0 k j s, 0, rfl, by omega, by simp [lit0], lit0_ok hlt hle, HR0.out, (Below.refl _ _).alloc (Nat.le_refl _) _⟩
              case round =>
                obtain ⟨T, x, rfl, hx, hT, hok, hrow, hbt⟩ := hrel
                obtain ⟨ob, c, rfl⟩ := own_slice hrow
                have HOK := Lib.hid hok
                have HRO := Lib.hid hrow
                clear hok hrow
                by_cases hx40 : x < 40
                · by_cases hl50 : T.length < 50
                  · obtain ⟨i0, hi0, hi1, hi2, hi3⟩ := info_parts info66s
                    rcases (by omega : (x : Int) % 3 = 0 ∨ (x : Int) % 3 = 1 ∨ (x : Int) % 3 = 2) with e3 | e3 | e3
                    · have hsrc := src_new (wr.alloc (.cells #[.int .i64 2, .int .i64 5, .int .i64 9] 3)) (T := lit1 s x 2) (n := 4) (cs := #[.int .u8 4, .int .i64 0, .int .i64 s, .int .i64 0, .int .i64 0, .int .i64 0, .int .u8 (2 + ((x : Int) + s) % 2), .int .i64 5, .int .i64 0, .int .i64 0, .int .i64 0, .int .i64 0, .int .u8 3, .int .i64 2, .int .i64 0, .int .i64 0, .int .i64 0, .int .i64 0, .int .u8 2, .int .i64 9, .int .i64 0, .int .i64 0, .int .i64 0, .int .i64 0]) rfl rfl (by decide)
                      simp only [World.size_alloc] at hsrc
                      have HSRC := Lib.hid hsrc
                      have hbs1 : w3.heap.size ≤ ((wr.alloc (.cells #[.int .i64 2, .int .i64 5, .int .i64 9] 3)).alloc (.cells #[.int .u8 4, .int .i64 0, .int .i64 s, .int .i64 0, .int .i64 0, .int .i64 0, .int .u8 (2 + ((x : Int) + s) % 2), .int .i64 5, .int .i64 0, .int .i64 0, .int .i64 0, .int .i64 0, .int .u8 3, .int .i64 2, .int .i64 0, .int .i64 0, .int .i64 0, .int .i64 0, .int .u8 2, .int .i64 9, .int .i64 0, .int .i64 0, .int .i64 0, .int .i64 0] 66)).heap.size := by
                        have := hbt.size
                        simp only [World.size_alloc]
                        omega
                      have HBS := Lib.hid hbs1
                      clear hsrc hbs1
                      go_wp2_with (first | (at_builtin; refine wpList_append_row rfl _ _ 63 rfl Try.underlying63 hi0 hi1 hi2 hi3 rfl _ _ _ rfl ((HRO.out.alloc _).alloc _) _ 4 _ rfl HSRC.out rfl (acCs_one _) (by unfold maxLen; omega) (by omega) HBS.out ?_; intro v' w4 hown' hgrow h3' h4'))
                      have hbr4 : Below w3.heap.size w3 w4 := ((hbt.alloc hbt.size _).alloc (by have := hbt.size; simp; omega) _).grown hgrow (by have := hbt.size; simp; omega) (fun q hq => (HRO.out.lt q hq).1)
                      refine ⟨⟨T ++ lit1 s x 2, x + s, by push_cast; rfl, by omega, by simp [lit1]; omega, ?_, ?_, hbr4⟩, by simp [intOf]; omega⟩
                      · intro a ha
                        rcases List.mem_append.1 ha with ha | ha
                        · exact HOK.out a ha
                        · exact lit1_ok ⟨by omega, by omega⟩ ⟨by omega, by omega⟩ a ha
                      · rw [List.flatMap_append, List.length_append]
                        exact hown'
                    · have hsrc := src_new (wr.alloc (.cells #[.int .i64 2, .int .i64 5, .int .i64 9] 3)) (T := lit1 s x 5) (n := 4) (cs := #[.int .u8 4, .int .i64 0, .int .i64 s, .int .i64 0, .int .i64 0, .int .i64 0, .int .u8 (2 + ((x : Int) + s) % 2), .int .i64 5, .int .i64 0, .int .i64 0, .int .i64 0, .int .i64 0, .int .u8 3, .int .i64 5, .int .i64 0, .int .i64 0, .int .i64 0, .int .i64 0, .int .u8 2, .int .i64 9, .int .i64 0, .int .i64 0, .int .i64 0, .int .i64 0]) rfl rfl (by decide)
                      simp only [World.size_alloc] at hsrc
                      have HSRC := Lib.hid hsrc
                      have hbs1 : w3.heap.size ≤ ((wr.alloc (.cells #[.int .i64 2, .int .i64 5, .int .i64 9] 3)).alloc (.cells #[.int .u8 4, .int .i64 0, .int .i64 s, .int .i64 0, .int .i64 0, .int .i64 0, .int .u8 (2 + ((x : Int) + s) % 2), .int .i64 5, .int .i64 0, .int .i64 0, .int .i64 0, .int .i64 0, .int .u8 3, .int .i64 5, .int .i64 0, .int .i64 0, .int .i64 0, .int .i64 0, .int .u8 2, .int .i64 9, .int .i64 0, .int .i64 0, .int .i64 0, .int .i64 0] 66)).heap.size := by
                        have := hbt.size
                        simp only [World.size_alloc]
                        omega
                      have HBS := Lib.hid hbs1
                      clear hsrc hbs1
                      go_wp2_with (first | (at_builtin; refine wpList_append_row rfl _ _ 63 rfl Try.underlying63 hi0 hi1 hi2 hi3 rfl _ _ _ rfl ((HRO.out.alloc _).alloc _) _ 4 _ rfl HSRC.out rfl (acCs_one _) (by unfold maxLen; omega) (by omega) HBS.out ?_; intro v' w4 hown' hgrow h3' h4'))
                      have hbr4 : Below w3.heap.size w3 w4 := ((hbt.alloc hbt.size _).alloc (by have := hbt.size; simp; omega) _).grown hgrow (by have := hbt.size; simp; omega) (fun q hq => (HRO.out.lt q hq).1)
                      refine ⟨⟨T ++ lit1 s x 5, x + s, by push_cast; rfl, by omega, by simp [lit1]; omega, ?_, ?_, hbr4⟩, by simp [intOf]; omega⟩
                      · intro a ha
                        rcases List.mem_append.1 ha with ha | ha
                        · exact HOK.out a ha
                        · exact lit1_ok ⟨by omega, by omega⟩ ⟨by omega, by omega⟩ a ha
                      · rw [List.flatMap_append, List.length_append]
                        exact hown'
                    · have hsrc := src_new (wr.alloc (.cells #[.int .i64 2, .int .i64 5, .int .i64 9] 3)) (T := lit1 s x 9) (n := 4) (cs := #[.int .u8 4, .int .i64 0, .int .i64 s, .int .i64 0, .int .i64 0, .int .i64 0, .int .u8 (2 + ((x : Int) + s) % 2), .int .i64 5, .int .i64 0, .int .i64 0, .int .i64 0, .int .i64 0, .int .u8 3, .int .i64 9, .int .i64 0, .int .i64 0, .int .i64 0, .int .i64 0, .int .u8 2, .int .i64 9, .int .i64 0, .int .i64 0, .int .i64 0, .int .i64 0]) rfl rfl (by decide)
                      simp only [World.size_alloc] at hsrc
                      have HSRC := Lib.hid hsrc
                      have hbs1 : w3.heap.size ≤ ((wr.alloc (.cells #[.int .i64 2, .int .i64 5, .int .i64 9] 3)).alloc (.cells #[.int .u8 4, .int .i64 0, .int .i64 s, .int .i64 0, .int .i64 0, .int .i64 0, .int .u8 (2 + ((x : Int) + s) % 2), .int .i64 5, .int .i64 0, .int .i64 0, .int .i64 0, .int .i64 0, .int .u8 3, .int .i64 9, .int .i64 0, .int .i64 0, .int .i64 0, .int .i64 0, .int .u8 2, .int .i64 9, .int .i64 0, .int .i64 0, .int .i64 0, .int .i64 0] 66)).heap.size := by
                        have := hbt.size
                        simp only [World.size_alloc]
                        omega
                      have HBS := Lib.hid hbs1
                      clear hsrc hbs1
                      go_wp2_with (first | (at_builtin; refine wpList_append_row rfl _ _ 63 rfl Try.underlying63 hi0 hi1 hi2 hi3 rfl _ _ _ rfl ((HRO.out.alloc _).alloc _) _ 4 _ rfl HSRC.out rfl (acCs_one _) (by unfold maxLen; omega) (by omega) HBS.out ?_; intro v' w4 hown' hgrow h3' h4'))
                      have hbr4 : Below w3.heap.size w3 w4 := ((hbt.alloc hbt.size _).alloc (by have := hbt.size; simp; omega) _).grown hgrow (by have := hbt.size; simp; omega) (fun q hq => (HRO.out.lt q hq).1)
                      refine ⟨⟨T ++ lit1 s x 9, x + s, by push_cast; rfl, by omega, by simp [lit1]; omega, ?_, ?_, hbr4⟩, by simp [intOf]; omega⟩
                      · intro a ha
                        rcases List.mem_append.1 ha with ha | ha
                        · exact HOK.out a ha
                        · exact lit1_ok ⟨by omega, by omega⟩ ⟨by omega, by omega⟩ a ha
                      · rw [List.flatMap_append, List.length_append]
                        exact hown'
                  · go_wp2_with fail
                    refine (acts_any (ActsAt.of_row HRO.out HOK.out) (Nat.le_refl _) _).mono ?_
                    rintro e w5 ⟨rfl, hb5⟩
                    go_wp2_with fail
                    go_roundw
                    case rel => exact ⟨s + 1, by omega, by omega, by go_num, (hbw.trans (hbt.mono hbw.size)).trans (hb5.mono (by have := hbt.size; have := hbw.size; omega))⟩
                    case measure => simp [intOf]; omega
                · go_wp2_with fail
                  refine (acts_any (ActsAt.of_row HRO.out HOK.out) (Nat.le_refl _) _).mono ?_
                  rintro e w5 ⟨rfl, hb5⟩
                  go_wp2_with fail
                  go_roundw
                  case rel => exact ⟨s + 1, by omega, by omega, by go_num, (hbw.trans (hbt.mono hbw.size)).trans (hb5.mono (by have := hbt.size; have := hbw.size; omega))⟩
                  case measure => simp [intOf]; omega
            · go_wp2_with fail
              go_roundw
              case rel => exact ⟨j + 1, by omega, by omega, by go_num, hbs⟩
              case measure => simp [intOf]; omega
        · have hgt : k < j := by omega
          go_wp2_with fail
          go_roundw
          case rel => exact ⟨k + 1, by omega, by omega, by go_num, hbj⟩
          case measure => simp [intOf]; omega
    · obtain rfl : k = 7 := by omega
      have e7 : ((7 : Nat) : Int) = 7 := rfl
      go_wp2_with fail
      simp only [e7]
      clear e7
      have hzr := hbr.size
      have B5 : Blk (wr.alloc (.cells nsA 3)) wr.heap.size nsA 3 := Blk.new _ _ _
      have hb5 : Below W.heap.size W (wr.alloc (.cells nsA 3)) := hbr.alloc hzr _
      have hw5 : (wr.alloc (.cells nsA 3)) = (wr.alloc (.cells #[.int .i64 (-9223372036854775808), .int .i64 (-1), .int .i64 0, .int .i64 1, .int .i64 4294967295, .int .i64 4294967296, .int .i64 281474976710655, .int .i64 281474976710656, .int .i64 281474976710657, .int .i64 9223372036854775807] 3)) := rfl
      generalize (wr.alloc (.cells nsA 3)) = W5 at B5 hb5 hw5
      rw [← hw5]
      have HB5 := Lib.hid B5
      have hz5 := hb5.size
      clear B5 hw5
      go_loopw [76] (fun i wx => ∃ j : Nat, j ≤ 10 ∧ i = .int .i64 j ∧ Below W5.heap.size W5 wx) (fun i _ => 10 - (intOf i).toNat)
      case atStart => exact ⟨0, by omega, rfl, Below.refl _ _⟩
      case round =>
        obtain ⟨j, hj, rfl, hbx⟩ := hrel
        by_cases hj10 : j < 10
        · obtain ⟨n, hn, hnj⟩ := nsA_at hj10
          have hcell := ((HB5.out.below hbx HB5.out.lt).cell j).trans hnj
          have HN := Lib.hid hn
          clear hnj hn
          go_wp2_with fail
          refine (add_act _ _ _ _ _).mono ?_
          rintro e w1 ⟨rfl, hb1⟩
          go_wp2_with fail
          refine (add_act _ _ _ _ _).mono ?_
          rintro e w2 ⟨rfl, hb2⟩
          go_wp2_with fail
          refine (add_act _ _ _ _ _).mono ?_
          rintro e w3 ⟨rfl, hb3⟩
          go_wp2_with fail
          refine (add_act _ _ _ _ _).mono ?_
          rintro e w4 ⟨rfl, hb4⟩
          go_wp2_with fail
          refine (add_act _ _ _ _ _).mono ?_
          rintro e w5 ⟨rfl, hb5a⟩
          have hzx := hbx.size
          have hz1 := hb1.size
          have hz2 := hb2.size
          have hz3 := hb3.size
          have hz4 := hb4.size
          have hz5a := hb5a.size
          have hq1 : Below W5.heap.size W5 w5 := ((((hbx.trans (hb1.mono hzx)).trans (hb2.mono (by omega))).trans (hb3.mono (by omega))).trans (hb4.mono (by omega))).trans (hb5a.mono (by omega))
          have HR2 := Lib.hid (acts_new w5 (T := lit2 n) (n := 9) (cs := #[.int .u8 0, .int .i64 n, .int .i64 0, .int .i64 2, .int .i64 0, .int .i64 1, .int .u8 0, .int .i64 3, .int .i64 0, .int .i64 n, .int .i64 0, .int .i64 1, .int .u8 0, .int .i64 3, .int .i64 0, .int .i64 5, .int .i64 n, .int .i64 1, .int .u8 0, .int .i64 3, .int .i64 0, .int .i64 5, .int .i64 1, .int .i64 n, .int .u8 0, .int .i64 3, .int .i64 0, .int .i64 5, .int .i64 1, .int .i64 2, .int .u8 4, .int .i64 0, .int .i64 1, .int .i64 0, .int .i64 0, .int .i64 0, .int .u8 6, .int .i64 0, .int .i64 n, .int .i64 0, .int .i64 0, .int .i64 0, .int .u8 1, .int .i64 n, .int .i64 0, .int .i64 0, .int .i64 0, .int .i64 0, .int .u8 5, .int .i64 0, .int .i64 (-1), .int .i64 0, .int .i64 0, .int .i64 0]) rfl rfl (by decide))
          clear hb1 hb2 hb3 hb4 hb5a
          go_wp2_with fail
          refine (acts_any (ActsAt.of_row HR2.out (lit2_ok HN.out)) (Nat.le_refl _) _).mono ?_
          rintro e w6 ⟨rfl, hb6⟩
          have hz6 := hb6.size
          simp only [World.size_alloc] at hz6
          have hq2 : Below W5.heap.size W5 w6 := (hq1.alloc hq1.size _).trans (hb6.mono (by have := hq1.size; simp; omega))
          clear hb6
          go_wp2_with fail
          refine (add_act _ _ _ _ _).mono ?_
          rintro e w7 ⟨rfl, hb7⟩
          go_wp2_with fail
          refine (add_act _ _ _ _ _).mono ?_
          rintro e w8 ⟨rfl, hb8⟩
          have hz7 := hb7.size
          have hz8 := hb8.size
          have hq3 : Below W5.heap.size W5 w8 := (hq2.trans (hb7.mono hq2.size)).trans (hb8.mono (by have := hq2.size; omega))
          have HR3 := Lib.hid (acts_new w8 (T := lit3 n) (n := 5) (cs := #[.int .u8 0, .int .i64 1, .int .i64 0, .int .i64 2, .int .i64 0, .int .i64 1, .int .u8 0, .int .i64 2, .int .i64 0, .int .i64 60, .int .i64 59, .int .i64 60, .int .u8 4, .int .i64 0, .int .i64 2, .int .i64 0, .int .i64 0, .int .i64 0, .int .u8 3, .int .i64 1, .int .i64 0, .int .i64 0, .int .i64 0, .int .i64 0, .int .u8 6, .int .i64 0, .int .i64 n, .int .i64 0, .int .i64 0, .int .i64 0]) rfl rfl (by decide))
          clear hb7 hb8
          go_wp2_with fail
          refine (acts_any (ActsAt.of_row HR3.out (lit3_ok HN.out)) (Nat.le_refl _) _).mono ?_
          rintro e w9 ⟨rfl, hb9⟩
          have hq4 : Below W5.heap.size W5 w9 := (hq3.alloc hq3.size _).trans (hb9.mono (by have := hq3.size; simp; omega))
          clear hb9
          go_wp2_with fail
          go_roundw
          case rel => exact ⟨j + 1, by omega, by go_num, hq4⟩
          case measure => simp [intOf]; omega
        · obtain rfl : j = 10 := by omega
          obtain ⟨wx, rfl⟩ : ∃ wo : World, wo = wr := ⟨_, rfl⟩
          have ht0 : Tick 0 := ⟨by omega, by omega⟩
          have HT := Lib.hid ht0
          have HNEW := Lib.hid (new_ok 0 ht0 wx)
          have hbW : Below W.heap.size W wx := hb5.trans (hbx.mono hz5)
          clear ht0
          go_wp2_with fail
          refine (HNEW.out).mono ?_
          rintro e w1 ⟨rfl, hw1, hb1⟩
          have HW := Lib.hid hw1
          have hbW1 : Below W.heap.size W w1 := hbW.trans (hb1.mono hbW.size)
          have hzW := hbW.size
          clear hw1 
          go_wp2_with fail
          go_loopw [128] (fun i wy => ∃ k : Nat, k ≤ 10000 ∧ i = .int .i64 k ∧ ∃ l, WheelAt wy (wx.heap.size + 1) wx.heap.size 0 l ∧ l.map core = fulC k ∧ (∀ j, Foot (wx.heap.size + 1) wx.heap.size l j → wx.heap.size ≤ j) ∧ Below W.heap.size W wy) (fun i _ => 10000 - (intOf i).toNat)
          case atStart => exact ⟨0, Nat.zero_le _, rfl, [], HW.out, by simp [fulC], fun k hk => by rcases hk with rfl | rfl | ⟨m, hm, _⟩ <;> first | omega | simp at hm, hbW1⟩
          case round =>
            obtain ⟨k, hk, rfl, l, hw, hcore, hfoot, hbr6⟩ := hrel
            have HWR := Lib.hid hw
            have HCO := Lib.hid hcore
            have HFT := Lib.hid hfoot
            clear hw hcore hfoot
            by_cases hlt : k < 10000
            · have hlen := ful_len HCO.out
              have hidl := ful_lt HCO.out
              have hadd := add_ok HWR.out HT.out (k : Int) 1099511627776 (k : Int) 1 (by omega) (by omega) (ful_right hlt) (findM_ge hidl) (by omega)
              have HADD := Lib.hid hadd
              have hz6 := hbr6.size
              have hfw := HWR.out.lt (Or.inl rfl)
              clear hadd hidl hlen
              go_wp2_with fail
              refine (HADD.out).mono ?_
              rintro e w3 ⟨rfl, nb, hnb, hw3, hk3⟩
              have HW3 := Lib.hid hw3
              have hb3 : Below W.heap.size W w3 := hbr6.trans (hk3.belowOf hz6 (fun i hi e => by omega))
              clear hw3 hk3
              go_wp2_with fail
              go_roundw
              case rel =>
                refine ⟨k + 1, by omega, by go_num, _, HW3.out, ful_add HCO.out, ?_, hb3⟩
                rintro j (rfl | rfl | ⟨m, hm, rfl⟩)
                · omega
                · omega
                · rcases mem_ins.1 hm with rfl | hm
                  · show wx.heap.size ≤ nb; omega
                  · exact HFT.out _ (.inr (.inr ⟨m, hm, rfl⟩))
              case measure => simp [intOf]; omega
            · obtain rfl : k = 10000 := by omega
              have hlen := ful_len HCO.out
              have ha := advW_ok HWR.out 9 (by omega) (by omega) (by omega) (by omega)
              rw [moves_ful HCO.out] at ha
              obtain ⟨m1, hm1⟩ := ful_find HCO.out (i := 1) (by omega)
              have hr11 : Right ⟨1, 0, 1⟩ := ⟨⟨by decide, by decide⟩, ⟨by decide, by decide⟩, ⟨by decide, by decide⟩⟩
              have hf1 : findM (l.map (advM 0 9)) 1 = some (advM 0 9 m1) := by rw [find_adw, show ((1 : Int) = ((1 : Nat) : Int)) from rfl, hm1]; rfl
              have hfb : findM (l.map (advM 0 9)) 4294967295 = none := by
                rw [find_adw, findM_ge (id := 4294967295) (fun m hm => by have := ful_lt HCO.out m hm; omega)]; rfl
              have hl9 : 10000 ≤ (l.map (advM 0 9)).length := by rw [List.length_map, hlen]; omega
              have HA := Lib.hid ha
              have HF1 := Lib.hid hf1
              have HFB := Lib.hid hfb
              have HL9 := Lib.hid hl9
              have HR11 := Lib.hid hr11
              have hz6 := hbr6.size
              clear ha hf1 hfb hl9 hlen hm1 hr11
              go_wp2_with fail
              refine (HA.out).mono ?_
              rintro e w3 ⟨v, rfl, ho3, hw3, hk3⟩
              obtain ⟨ob, c, rfl⟩ := own_slice ho3
              have HW3 := Lib.hid hw3
              have hb3 : Below W.heap.size W w3 := hbr6.trans (hk3.belowOf hz6 (fun i hi e => by
                have h1 := HFT.out i (by rcases e with rfl | ⟨m, hm, rfl⟩; exact .inl rfl; exact .inr (.inr ⟨m, hm, rfl⟩))
                omega))
              clear hw3 hk3 ho3
              go_wp2_with fail
              refine (add_there HW3.out 1 1 0 1 (by omega) (by omega) HR11.out HF1.out).mono ?_
              rintro e w4 ⟨rfl, hb4⟩
              have HW4 := Lib.hid (HW3.out.below hb4)
              have hz3 := hb3.size
              have hb4 : Below W.heap.size W w4 := hb3.trans (hb4.mono hz3)
              go_wp2_with fail
              refine (add_range HW4.out (-1) 1 0 1 (by omega)).mono ?_
              rintro e w5 ⟨rfl, hb5b⟩
              have HWb := Lib.hid (HW4.out.below hb5b)
              have hz4 := hb4.size
              have hb5c : Below W.heap.size W w5 := hb4.trans (hb5b.mono hz4)
              clear hb5b
              go_wp2_with fail
              refine (add_many HWb.out 4294967295 1 0 1 (by omega) (by omega) HR11.out HFB.out HL9.out).mono ?_
              rintro e w6 ⟨rfl, hb6b⟩
              have hz5c := hb5c.size
              have hb6c : Below W.heap.size W w6 := hb5c.trans (hb6b.mono hz5c)
              clear hb6b
              go_wp2_with fail
              refine (nobody_any _).mono ?_
              rintro e w7 ⟨rfl, hb7b⟩
              have hz6c := hb6c.size
              have hb7c : Below W.heap.size W w7 := hb6c.trans (hb7b.mono hz6c)
              clear hb7b
              go_wp2_with fail
              refine (awake_any _).mono ?_
              rintro e w8 ⟨rfl, hb8b⟩
              have hz7c := hb7c.size
              have hb8c : Below W.heap.size W w8 := hb7c.trans (hb8b.mono hz7c)
              clear hb8b
              go_wp2_with fail
              go_ret
              exact ⟨rfl, hb8c⟩

end Go.Proofs.Ytokgfmibhkkiaaa
