/- gaugerkit.flatInts: slices that share no memory are told so. -/
import Derived.Test.YtokgfmibhkkiaaaFlatP
import Derived.Test.YtokgfmibhkkiaaaFlatN
import Derived.Deep.RegionHeld3
import Derived.Deep.DeepCutAuto
import Derived.Deep.LoopGhost
import Derived.Test.YtokgfmibhkkiaaaList
import Derived.Test.YtokgfmibhkkiaaaRefF
namespace Go.Proofs.Ytokgfmibhkkiaaa
open Go.RowKit Mem Grow Flat

theorem mark_any (k i : Nat) (hk : k ≤ 1000000) (hi : i ≤ 1000000000) (W : World) : Calls Try.prog 86 #[.int .i64 k, .int .i64 i] W fun e w' => e = .returned (.int .i64 (mrk k i)) ∧ W = w' := by
  unfold mrk
  go_enter Try.func86, Try.ntmps86
  go_wp2
  go_ret
  exact ⟨rfl, rfl⟩

theorem info68 : (Try.prog.info? 68).map (fun i => (i.zero, i.size, i.bytes)) = some (some (.slice none 0 0), 1, 24) := by kernel_rfl

theorem made_nil (N : Nat) : (madeCells (Value.slice none 0 0).cells (N * 1)).toList = (List.range N).map fun _ => (⟨none, 0, 0⟩ : Sl).val := by
  show (madeCells #[.slice none 0 0] (N * 1)).toList = _
  rw [toList_madeCells_one, Nat.mul_one]
  refine List.ext_getElem (by simp) fun j h1 h2 => ?_
  simp [Sl.val]
theorem made_one (n : Nat) : ∀ u ∈ (madeCells (Value.int .i64 0).cells (n * 1)).toList, u.oneCell' = true := by
  show ∀ u ∈ (madeCells #[.int .i64 0] (n * 1)).toList, u.oneCell' = true
  rw [toList_madeCells_one]
  intro u hu
  rw [(List.mem_replicate.1 hu).2]
  rfl
theorem s2_start {D : Nat → Nat → Prop} {w wr w5 : World} {N : Nat} {ss : Nat → Sl} (h : S1 3 w wr N ss N 0) (hG : w5.ownsRow 0 68 1 (.slice (some ⟨wr.heap.size, 0, none⟩) N N) N (madeCells (Value.slice none 0 0).cells (N * 1)).toList) (hg : wr.grownBy w5 none) :
    S2 3 68 D w w5 N ss wr.heap.size 0 (fun _ => ⟨none, 0, 0⟩) := by
  have hk : Kept (fun _ => False) wr w5 := ⟨hg.os, hg.tape, hg.output, hg.size, fun q hq _ => hg.block q hq (by simp)⟩
  refine ⟨h.kept.trans' hk (fun _ _ h => h.elim), h.kept.size, by rw [← made_nil]; exact hG, fun j hj => ((h.rows j hj).mono fun i _ _ => .inl hj).keep hk (fun _ _ h => h), fun j hj => absurd hj (by omega), fun j hj => absurd hj (by omega), fun i j hi => absurd hi (by omega)⟩
set_option maxHeartbeats 8000000 in
set_option maxRecDepth 100000 in
theorem flat_any {w : World} {L N cL : Nat} {ss : Nat → Sl} (hN : N ≤ 1000) (hcL : N ≤ cL) (hL : ∀ k, k < N → w.cell? ⟨L, k, none⟩ = some (ss k).val) (hLlt : L < w.heap.size) (hLX : ¬ Xs N ss L) (hrows : ∀ k, k < N → RowP 3 w (ss k) (fun _ => False) k) (hn : ∀ k, k < N → (ss k).n ≤ 1000000) (ap : ApartS N ss) :
    Calls Try.prog 75 #[.slice (some ⟨L, 0, none⟩) N cL] w fun e w' => e = .returned (.bool true) ∧ Kept (Xs N ss) w w' := by
  have HL := Lib.hid hL
  have HR := Lib.hid hrows
  have HN := Lib.hid hn
  have HAP := Lib.hid ap
  have HLX := Lib.hid hLX
  have hmk := fun (k i : Nat) (hk : k ≤ 1000000) (hi : i ≤ 1000000000) (W : World) => mark_any k i hk hi W
  have HMK := Lib.hid hmk
  clear hL hrows hn ap hLX hmk
  obtain ⟨j0, hj0, hj1, hj2, hj3⟩ := info_parts info68
  obtain ⟨i0, hi0, hi1, hi2, hi3⟩ := info_parts info3
  go_enter Try.func75, Try.ntmps75
  go_wp2_with fail
  go_loopw [3, 4] (fun s3 s4 wr => ∃ k : Nat, k ≤ N ∧ s3 = .int .i64 k ∧ S1 3 w wr N ss k 0) (fun s3 _ _ => N - (intOf s3).toNat)
  case atStart => exact ⟨0, Nat.zero_le _, rfl, ⟨Kept.refl _ _, fun j hj => (HR.out j hj).mono fun i _ h => by rcases h with h | ⟨h1, h2⟩ <;> omega⟩⟩
  case round =>
    obtain ⟨k, hk, rfl, h1⟩ := hrel
    by_cases hlt : k < N
    · have hltI : (k : Int) < N := by omega
      have hcL0 : (N : Int) ≤ cL := by omega
      obtain ⟨wo, hwo⟩ : ∃ wo, wo = wr := ⟨_, rfl⟩
      have hk6 : k ≤ 1000000 := by omega
      have hnk := HN.out k hlt
      obtain ⟨sk, hsk⟩ : ∃ sk, sk = ss k := ⟨_, rfl⟩
      have hls : ∀ W, Kept (Xs N ss) w W → W.cell? ⟨L, k, none⟩ = some (.slice sk.ob sk.n sk.cap) := fun W hW => by
        rw [hsk]
        exact (World.cell?_of_block (w := w) (a := ⟨L, k, none⟩) (hW.block L hLlt HLX.out)).trans (HL.out k hlt)
      have HLS := Lib.hid hls
      have HSK := Lib.hid hsk
      rw [← hsk] at hnk
      clear hls hsk
      have H1 := Lib.hid h1
      clear h1 hwo
      go_wp2_with fail
      go_loopw [4] (fun s4 wx => ∃ i : Nat, i ≤ sk.n ∧ s4 = .int .i64 i ∧ S1 3 w wx N ss k i) (fun s4 _ => sk.n - (intOf s4).toNat)
      case atStart => exact ⟨0, Nat.zero_le _, rfl, H1.out⟩
      case round =>
        obtain ⟨i, hi, rfl, h1⟩ := hrel
        have x0 := HLS.out wr h1.kept
        have H1' := Lib.hid h1
        have hLr := Nat.lt_of_lt_of_le hLlt h1.kept.size
        by_cases hin : i < sk.n
        · have hinI : (i : Int) < sk.n := by omega
          have hi9 : i ≤ 1000000000 := by omega
          obtain ⟨g, v, hob, hbk, hg, hcv, hfv, -⟩ := (HSK.out ▸ h1.rows k hlt : RowP 3 wr sk _ k).cell hin
          have hgL : g ≠ L := fun e => HLX.out ⟨k, hlt, by rw [← HSK.out, hbk, e]⟩
          have hcap : (sk.n : Int) ≤ sk.cap := by have := (HSK.out ▸ h1.rows k hlt : RowP 3 wr sk _ k).cap; omega
          have HOB := Lib.hid hob
          rw [hob] at x0
          have hmk1 := HMK.out k i hk6 hi9
          have HM1 := Lib.hid hmk1
          clear h1 hob hmk1 hbk
          go_wp2_with fail
          go_region_held3 (fun X => X.cell? ⟨L, k, none⟩ = some (.slice (some ⟨g, 0, none⟩) sk.n sk.cap)) (go_keep)
            (first | (go_at_call 86; refine (HM1.out _).mono ?_; rintro e w' ⟨rfl, rfl⟩))
          all_goals
            go_wp2
            go_roundw
            case rel => exact ⟨i + 1, by omega, by go_num, (H1'.out.put hlt HAP.out (HSK.out ▸ HOB.out) (HSK.out ▸ hin)).drew⟩
            case measure => simp [intOf]; omega
        · obtain rfl : i = sk.n := by omega
          go_wp2
          go_roundw
          case rel => exact ⟨k + 1, by omega, by go_num, S1.next (HSK.out ▸ H1'.out)⟩
          case measure => simp [intOf]; omega
    · have e : N = k := by omega
      subst e
      have H1 := Lib.hid h1
      have hz1 := h1.kept.size
      have hb2 : j0.bytes * N ≤ 281474976710656 := by rw [hj3]; omega
      have hb3 : N ≤ maxLen := by unfold maxLen; omega
      clear h1
      go_wp2_with (first
        | (at_make; refine wpList_make_full _ rfl _ _ 123 rfl 0 68 j0 (.slice none 0 0) 1 Try.underlying123 hj0 hj1 hj2 .i64 .i64 _ _ N rfl rfl rfl rfl hb2 hb3 (Nat.zero_le _) ?_; intro w5 hownG hgrowG))
      have hs2 := s2_start (D := fun _ _ => True) H1.out hownG hgrowG
      have HS2 := Lib.hid hs2
      clear hownG hs2 H1
      generalize wr.heap.size = G at HS2 hgrowG ⊢
      go_loopw [6, 7, 8] (fun s6 s7 s8 wx => ∃ (k : Nat) (gl : Nat → Sl), k ≤ N ∧ s6 = .int .i64 k ∧ S2 3 68 (fun _ _ => True) w wx N ss G k gl) (fun s6 _ _ _ => N - (intOf s6).toNat)
      case atStart => exact ⟨0, _, Nat.zero_le _, rfl, HS2.out⟩
      case round =>
        obtain ⟨k, gl, hk, rfl, h2⟩ := hrel
        have hcL0 : (N : Int) ≤ cL := by omega
        by_cases hlt : k < N
        · have hltI : (k : Int) < N := by omega
          have hk6 : k ≤ 1000000 := by omega
          have hnk := HN.out k hlt
          obtain ⟨sk, hsk⟩ : ∃ sk, sk = ss k := ⟨_, rfl⟩
          have hls : ∀ W, Kept (Xs N ss) w W → W.cell? ⟨L, k, none⟩ = some (.slice sk.ob sk.n sk.cap) := fun W hW => by
            rw [hsk]
            exact (World.cell?_of_block (w := w) (a := ⟨L, k, none⟩) (hW.block L hLlt HLX.out)).trans (HL.out k hlt)
          have x0 := hls wr h2.kept
          have HLS := Lib.hid hls
          have HSK := Lib.hid hsk
          rw [← hsk] at hnk
          clear hls hsk
          have H2 := Lib.hid h2
          clear h2
          obtain ⟨wo, rfl⟩ : ∃ wo : World, wo = wr := ⟨_, rfl⟩
          go_wp2_with fail
          go_loopw [7, 8] (fun s7 s8 wx => ∃ (i : Nat) (s : Sl), i ≤ 64 ∧ s8 = .int .i64 i ∧ s7 = .slice s.ob s.n s.cap ∧ In 3 (fun _ => True) wo wx sk k i s) (fun _ s8 _ => 64 - (intOf s8).toNat)
          case atStart => exact ⟨0, sk, Nat.zero_le _, rfl, rfl, In.start (HSK.out ▸ H2.out.rows k hlt)⟩
          case round =>
            obtain ⟨i, s, hi, rfl, rfl, hin⟩ := hrel
            have hkx : Kept (Xs N ss) w wr := H2.out.kept.trans' hin.kept (fun b _ hb => ⟨k, hlt, HSK.out ▸ hb⟩)
            have x1 := HLS.out wr hkx
            have hsn := hin.len
            by_cases hlt64 : i < 64
            · have hm0 := HMK.out k (sk.n + i) hk6 (by omega)
              rw [Int.natCast_add] at hm0
              have HM := Lib.hid hm0
              obtain ⟨xs, ho, hx⟩ := hin.row
              have HIN := Lib.hid hin
              have HX := Lib.hid hx
              have hone : ∀ u ∈ [Value.int .i64 (mrk k (sk.n + i))], u.oneCell' = true := by simp [Value.oneCell']
              have hmax : s.n + 1 ≤ maxLen := by unfold maxLen; omega
              have hbyt : (s.n + 1) * 8 ≤ 140737488355328 := by omega
              have hsrc : SrcAt (wr.alloc (.cells #[.int .i64 (mrk k (sk.n + i))] 3)) (.slice (some ⟨wr.heap.size, 0, none⟩) 1 1) 1 [Value.int .i64 (mrk k (sk.n + i))] := .inr ⟨_, _, rfl, World.news_of_block (Blk.new wr #[.int .i64 (mrk k (sk.n + i))] 3)⟩
              have HO := Lib.hid ho
              clear hm0 hin hx hsn ho
              go_wp2_with (first
                | (go_at_call 86; refine (HM.out _).mono ?_; rintro e w' ⟨rfl, rfl⟩)
                | (at_builtin; refine wpList_append_row rfl _ _ 68 rfl Try.underlying68 hi0 hi1 hi2 hi3 rfl _ _ _ rfl (HO.out.alloc _) _ 1 _ rfl hsrc rfl hone hmax hbyt (Nat.zero_le _) ?_; intro v' w6 h1' h2' h3' h4'))
              go_roundw
              case rel =>
                have hsn := HIN.out.len
                obtain ⟨s', hs', hin'⟩ := In.more (D' := fun _ => True) (HIN.out.alloc _) (HO.out.alloc _) HX.out h1' h2' h3' h4' (fun q hq _ => by
                  by_cases e : q < s.n
                  · exact .inl ⟨e, trivial⟩
                  · refine .inr ⟨by omega, ?_⟩
                    have e2 : q = sk.n + i := by omega
                    rw [e2, show sk.n + i - s.n = 0 by omega]
                    rfl)
                exact ⟨i + 1, s', by omega, by go_num, hs', hin'⟩
              case measure => simp [intOf]; omega
            · obtain rfl : i = 64 := by omega
              obtain ⟨vG, c1, f1⟩ := H2.out.cell (by decide) (HSK.out ▸ hin) hlt
              have HIN := Lib.hid hin
              clear hin hsn
              go_wp2_with fail
              go_roundw
              case rel => exact ⟨k + 1, _, by omega, by go_num, H2.out.next (by decide) (HSK.out ▸ HIN.out) hlt HAP.out⟩
              case measure => simp [intOf]; omega
        · have e : N = k := by omega
          subst e
          have HS3 := Lib.hid h2
          clear h2 hk hlt HS2
          go_wp2_with fail
          go_loopw [9, 10] (fun s9 s10 wx => ∃ k : Nat, k ≤ N ∧ s9 = .int .i64 k ∧ S2 3 68 (fun _ _ => True) w wx N ss G N gl) (fun s9 _ _ => N - (intOf s9).toNat)
          case atStart => exact ⟨0, Nat.zero_le _, rfl, HS3.out⟩
          case round =>
            obtain ⟨k, hk, rfl, h3⟩ := hrel
            by_cases hlt : k < N
            · have hltI : (k : Int) < N := by omega
              have hk6 : k ≤ 1000000 := by omega
              have hnk := HN.out k hlt
              have H3 := Lib.hid h3
              have hgn := (h3.done k hlt).1
              obtain ⟨sk, hsk⟩ : ∃ sk, sk = ss k := ⟨_, rfl⟩
              obtain ⟨gk, hgk⟩ : ∃ gk, gk = gl k := ⟨_, rfl⟩
              have hls : ∀ W, Kept (Xs N ss) w W → W.cell? ⟨L, k, none⟩ = some (.slice sk.ob sk.n sk.cap) := fun W hW => by
                rw [hsk]
                exact (World.cell?_of_block (w := w) (a := ⟨L, k, none⟩) (hW.block L hLlt HLX.out)).trans (HL.out k hlt)
              have hgs : ∀ W, S2 3 68 (fun _ _ => True) w W N ss G N gl → W.cell? ⟨G, k, none⟩ = some (.slice gk.ob gk.n gk.cap) := fun W hW => by
                rw [hgk]; exact hW.at hlt
              have HLS := Lib.hid hls
              have HGS := Lib.hid hgs
              have HSK := Lib.hid hsk
              have HGK := Lib.hid hgk
              rw [← hsk] at hnk hgn
              rw [← hgk] at hgn
              have HGN := Lib.hid hgn
              clear hls hsk hgs hgk h3 hgn
              go_wp2_with fail
              go_loopw [10] (fun s10 wx => ∃ i : Nat, i ≤ gk.n ∧ s10 = .int .i64 i ∧ S2 3 68 (fun _ _ => True) w wx N ss G N gl) (fun s10 _ => gk.n - (intOf s10).toNat)
              case atStart => exact ⟨0, Nat.zero_le _, rfl, H3.out⟩
              case round =>
                obtain ⟨i, hi, rfl, h3⟩ := hrel
                have x0 := HLS.out wr h3.kept
                have xG := HGS.out wr h3
                have H3' := Lib.hid h3
                by_cases hin : i < gk.n
                · have hinI : (i : Int) < gk.n := by omega
                  have hgn := HGN.out
                  have hi9 : i ≤ 1000000000 := by omega
                  obtain ⟨g, v, hob, -, hg, hcv, -, hv⟩ := (HGK.out ▸ (h3.done k hlt).2 : RowP 3 wr gk _ k).cell hin
                  rw [hv trivial] at hcv
                  rw [hob] at xG
                  have hcap : (gk.n : Int) ≤ gk.cap := by have := (HGK.out ▸ (h3.done k hlt).2 : RowP 3 wr gk _ k).cap; omega
                  have HM1 := Lib.hid (HMK.out k i hk6 hi9)
                  clear hob hv hgn
                  by_cases hil : i < sk.n
                  · have hilI : (i : Int) < sk.n := by omega
                    obtain ⟨g', v', hob', -, hg', hcv', -, hv'⟩ := (HSK.out ▸ h3.rows k hlt : RowP 3 wr sk _ k).cell hil
                    rw [hv' trivial] at hcv'
                    rw [hob'] at x0
                    have hcap' : (sk.n : Int) ≤ sk.cap := by have := (HSK.out ▸ h3.rows k hlt : RowP 3 wr sk _ k).cap; omega
                    clear hob' hv' h3
                    go_wp2_with fail
                    go_region_held3 (fun X => X.cell? ⟨L, k, none⟩ = some (.slice (some ⟨g', 0, none⟩) sk.n sk.cap) ∧ X.cell? ⟨G, k, none⟩ = some (.slice (some ⟨g, 0, none⟩) gk.n gk.cap) ∧ X.cell? ⟨g, i, none⟩ = some (.int .i64 (mrk k i)) ∧ X.cell? ⟨g', i, none⟩ = some (.int .i64 (mrk k i))) (go_keep)
                      (first | (go_at_call 86; refine (HM1.out _).mono ?_; rintro e w' ⟨rfl, rfl⟩))
                    all_goals
                      go_wp2
                      go_roundw
                      case rel => exact ⟨i + 1, by omega, by go_num, H3'.out.same (Kept.refl _ _).drew⟩
                      case measure => simp [intOf]; omega
                  · have hilI : ((i : Int) < sk.n) = False := by simp; omega
                    have hilN : (i < sk.n) = False := by simp; omega
                    have hLr := Nat.lt_of_lt_of_le hLlt h3.kept.size
                    have hGr := (h3.row.lt G rfl).2
                    clear h3 hil
                    go_wp2_with fail
                    refine wp_flow_below rfl (by kernel_rfl) ?_
                    iterate 35 (first
                      | (apply flow_yes
                         · rfl
                         · intro W1 hW K hK
                           obtain ⟨hc, hf⟩ := bcell hW
                           go_wp2_with (first | (go_at_call 86; refine (HM1.out _).mono ?_; rintro e w' ⟨rfl, rfl⟩))
                           exact hW
                         simp only [Act.put, List.setIfInBounds_toArray, List.set_cons_zero, List.set_cons_succ])
                      | (apply flow_no
                         · rfl
                         simp only [Act.put, List.setIfInBounds_toArray, List.set_cons_zero, List.set_cons_succ]))
                    refine flow_nil fun W1 hW => ?_
                    go_wp2
                    go_roundw
                    case rel => exact ⟨i + 1, by omega, by go_num, H3'.out.same (Kept.of_below hW _)⟩
                    case measure => simp [intOf]; omega
                · obtain rfl : i = gk.n := by omega
                  go_wp2
                  go_roundw
                  case rel => exact ⟨k + 1, by omega, by go_num, H3'.out⟩
                  case measure => simp [intOf]; omega
            · have e : N = k := by omega
              subst e
              have HS4 := Lib.hid (S2.zero (D' := fun j i => i < (ss j).n) h3)
              clear h3 hk hlt HS3
              go_wp2_with fail
              go_loopw [11, 12, 13] (fun s11 s12 s13 wx => ∃ (k : Nat) (gl : Nat → Sl), k ≤ N ∧ s11 = .int .i64 k ∧ S2 3 68 (fun j i => i < (ss j).n) w wx N ss G k gl) (fun s11 _ _ _ => N - (intOf s11).toNat)
              case atStart => exact ⟨0, _, Nat.zero_le _, rfl, HS4.out⟩
              case round =>
                obtain ⟨k, gl, hk, rfl, h4⟩ := hrel
                by_cases hlt : k < N
                · have hltI : (k : Int) < N := by omega
                  have hnk := HN.out k hlt
                  have hmb2 : i0.bytes * 64 ≤ 281474976710656 := by rw [hi3]; omega
                  have hmb3 : 64 ≤ maxLen := by unfold maxLen; omega
                  obtain ⟨sk, hsk⟩ : ∃ sk, sk = ss k := ⟨_, rfl⟩
                  have hls : ∀ W, Kept (Xs N ss) w W → W.cell? ⟨L, k, none⟩ = some (.slice sk.ob sk.n sk.cap) := fun W hW => by
                    rw [hsk]
                    exact (World.cell?_of_block (w := w) (a := ⟨L, k, none⟩) (hW.block L hLlt HLX.out)).trans (HL.out k hlt)
                  have HLS := Lib.hid hls
                  have HSK := Lib.hid hsk
                  rw [← hsk] at hnk
                  have H4 := Lib.hid h4
                  clear hls hsk h4
                  obtain ⟨wo, rfl⟩ : ∃ wo : World, wo = wr := ⟨_, rfl⟩
                  go_wp2_with (first
                    | (at_make; refine wpList_make_full _ rfl _ _ 68 rfl 0 3 i0 (.int .i64 0) 1 Try.underlying68 hi0 hi1 hi2 .i64 .i64 _ _ 64 rfl rfl rfl rfl hmb2 hmb3 (Nat.zero_le _) ?_; intro w5 hownM hgrowM))
                  have hbM : Below wo.heap.size wo w5 := (Below.refl _ _).grown hgrowM (Nat.le_refl _) (fun q hq => by cases hq)
                  have HOWM := Lib.hid hownM
                  have HBM := Lib.hid hbM
                  have hMl := (hownM.lt wo.heap.size rfl).2
                  clear hownM hgrowM hbM
                  go_loopw [13] (fun s13 wx => ∃ (i : Nat) (xs : List Value), i ≤ 64 ∧ s13 = .int .i64 i ∧ wx.ownsRow 0 3 1 (.slice (some ⟨wo.heap.size, 0, none⟩) 64 64) 64 xs ∧ (∀ u ∈ xs, u.oneCell' = true) ∧ Below wo.heap.size wo wx) (fun s13 _ => 64 - (intOf s13).toNat)
                  case atStart => exact ⟨0, _, Nat.zero_le _, rfl, HOWM.out, made_one _, HBM.out⟩
                  case round =>
                    obtain ⟨i, xs, hi, rfl, ho, h1x, hb⟩ := hrel
                    have hkx : Kept (Xs N ss) w wr := H4.out.kept.trans' (Kept.of_below hb (fun _ => False)) (fun _ _ h => h.elim)
                    have x1 := HLS.out wr hkx
                    by_cases hlt64 : i < 64
                    · have hm0 := HMK.out (k + N) i (by omega) (by omega)
                      rw [Int.natCast_add] at hm0
                      have HM := Lib.hid hm0
                      have cM := ho.cellAt i (by omega)
                      have hxl := ho.1
                      rw [List.getElem?_eq_getElem (by omega)] at cM
                      have fM := ho.frozenAt i
                      have HO := Lib.hid ho
                      have H1x := Lib.hid h1x
                      clear hm0 ho h1x hkx
                      go_wp2_with (first
                        | (go_at_call 86; refine (HM.out _).mono ?_; rintro e w' ⟨rfl, rfl⟩))
                      go_roundw
                      case rel => exact ⟨i + 1, _, by omega, by go_num, own_put HO.out _, fun u hu => by
                        rcases List.mem_or_eq_of_mem_set hu with h | h
                        · exact H1x.out u h
                        · rw [h]; rfl, hb.setCell (Nat.le_refl _) _⟩
                      case measure => simp [intOf]; omega
                    · obtain rfl : i = 64 := by omega
                      have h4' := H4.out.same (Kept.of_below hb (fun _ => False))
                      have hrk := h4'.rows k hlt
                      rw [← HSK.out] at hrk
                      have hst := In.start (D := fun _ => True) hrk
                      obtain ⟨vG, c1, f1⟩ := h4'.cell (by decide) (HSK.out ▸ hst) hlt
                      have hGk := (h4'.row.lt G rfl).2
                      have hsrc : SrcAt wr (.slice (some ⟨wo.heap.size, 0, none⟩) 64 64) 64 xs := .inr ⟨_, _, rfl, ho.cells (g := wo.heap.size) rfl⟩
                      obtain ⟨ys, hy, hyd⟩ := hrk
                      have hmax : sk.n + 64 ≤ maxLen := by unfold maxLen; omega
                      have hbyt : (sk.n + 64) * 8 ≤ 140737488355328 := by omega
                      have hxl := ho.1
                      have H4' := Lib.hid h4'
                      have HST := Lib.hid hst
                      have HY := Lib.hid hy
                      have HYD := Lib.hid hyd
                      have H1x := Lib.hid h1x
                      have hGS : bk sk ≠ some G := fun e => by
                        obtain ⟨cur, hc⟩ := own_blk hy e
                        obtain ⟨curG, hcG⟩ := own_blk h4'.row (b := G) rfl
                        rw [hc] at hcG
                        simp at hcG
                      have HGS := Lib.hid hGS
                      clear h4' hst hy hyd h1x hGS ho
                      go_wp2_with (first
                        | (at_builtin; refine wpList_append_row rfl _ _ 68 rfl Try.underlying68 hi0 hi1 hi2 hi3 rfl _ _ _ rfl HY.out _ 64 xs rfl hsrc hxl H1x.out hmax hbyt (Nat.zero_le _) ?_; intro v' w6 h1' h2' h3' h4'; obtain ⟨ob', c', rfl⟩ := own_slice h1'; have cG := h2'.cell c1 (fun e => HGS.out e.symm); have fG := (h2'.frozen_far ⟨G, k, none⟩ hGk (fun e => HGS.out e.symm)).trans f1))
                      go_roundw
                      case rel =>
                        obtain ⟨s', hs', hin'⟩ := In.more (D' := fun i => i < (ss k).n) HST.out HY.out HYD.out h1' h2' h3' h4' (fun q _ hq => .inl ⟨by rw [HSK.out]; exact hq, trivial⟩)
                        have hn := H4'.out.next (by decide) (HSK.out ▸ hin') hlt HAP.out
                        rw [← hs'] at hn
                        exact ⟨k + 1, _, by omega, by go_num, hn⟩
                      case measure => simp [intOf]; omega
                · have e : N = k := by omega
                  subst e
                  have HS5 := Lib.hid h4
                  clear h4 hk hlt HS4
                  go_wp2_with fail
                  go_loopw [14, 15] (fun s14 s15 wx => ∃ k : Nat, k ≤ N ∧ s14 = .int .i64 k ∧ S2 3 68 (fun j i => i < (ss j).n) w wx N ss G N gl) (fun s14 _ _ => N - (intOf s14).toNat)
                  case atStart => exact ⟨0, Nat.zero_le _, rfl, HS5.out⟩
                  case round =>
                    obtain ⟨k, hk, rfl, h3⟩ := hrel
                    by_cases hlt : k < N
                    · have hltI : (k : Int) < N := by omega
                      have hk6 : k ≤ 1000000 := by omega
                      have hnk := HN.out k hlt
                      have H3 := Lib.hid h3
                      have hgn := (h3.done k hlt).1
                      obtain ⟨sk, hsk⟩ : ∃ sk, sk = ss k := ⟨_, rfl⟩
                      obtain ⟨gk, hgk⟩ : ∃ gk, gk = gl k := ⟨_, rfl⟩
                      have hls : ∀ W, Kept (Xs N ss) w W → W.cell? ⟨L, k, none⟩ = some (.slice sk.ob sk.n sk.cap) := fun W hW => by
                        rw [hsk]
                        exact (World.cell?_of_block (w := w) (a := ⟨L, k, none⟩) (hW.block L hLlt HLX.out)).trans (HL.out k hlt)
                      have hgs : ∀ W, S2 3 68 (fun j i => i < (ss j).n) w W N ss G N gl → W.cell? ⟨G, k, none⟩ = some (.slice gk.ob gk.n gk.cap) := fun W hW => by
                        rw [hgk]; exact hW.at hlt
                      have HLS := Lib.hid hls
                      have HGS := Lib.hid hgs
                      have HSK := Lib.hid hsk
                      have HGK := Lib.hid hgk
                      rw [← hsk] at hnk hgn
                      rw [← hgk] at hgn
                      have HGN := Lib.hid hgn
                      clear hls hsk hgs hgk h3 hgn
                      go_wp2_with fail
                      go_loopw [15] (fun s15 wx => ∃ i : Nat, i ≤ sk.n ∧ s15 = .int .i64 i ∧ S2 3 68 (fun j i => i < (ss j).n) w wx N ss G N gl) (fun s15 _ => sk.n - (intOf s15).toNat)
                      case atStart => exact ⟨0, Nat.zero_le _, rfl, H3.out⟩
                      case round =>
                        obtain ⟨i, hi, rfl, h3⟩ := hrel
                        have x0 := HLS.out wr h3.kept
                        have xG := HGS.out wr h3
                        have H3' := Lib.hid h3
                        by_cases hil : i < sk.n
                        · have hilI : (i : Int) < sk.n := by omega
                          have hgn := HGN.out
                          have hin : i < gk.n := by omega
                          have hinI : (i : Int) < gk.n := by omega
                          have hi9 : i ≤ 1000000000 := by omega
                          obtain ⟨g, v, hob, -, hg, hcv, -, hv⟩ := (HGK.out ▸ (h3.done k hlt).2 : RowP 3 wr gk _ k).cell hin
                          rw [hv (by rw [← HSK.out]; exact hil)] at hcv
                          rw [hob] at xG
                          have hcap : (gk.n : Int) ≤ gk.cap := by have := (HGK.out ▸ (h3.done k hlt).2 : RowP 3 wr gk _ k).cap; omega
                          have HM1 := Lib.hid (HMK.out k i hk6 hi9)
                          clear hob hv hgn
                          obtain ⟨g', v', hob', -, hg', hcv', -, hv'⟩ := (HSK.out ▸ h3.rows k hlt : RowP 3 wr sk _ k).cell hil
                          rw [hv' trivial] at hcv'
                          rw [hob'] at x0
                          have hcap' : (sk.n : Int) ≤ sk.cap := by have := (HSK.out ▸ h3.rows k hlt : RowP 3 wr sk _ k).cap; omega
                          clear hob' hv' h3
                          go_wp2_with fail
                          go_region_held3 (fun X => X.cell? ⟨L, k, none⟩ = some (.slice (some ⟨g', 0, none⟩) sk.n sk.cap) ∧ X.cell? ⟨G, k, none⟩ = some (.slice (some ⟨g, 0, none⟩) gk.n gk.cap) ∧ X.cell? ⟨g, i, none⟩ = some (.int .i64 (mrk k i)) ∧ X.cell? ⟨g', i, none⟩ = some (.int .i64 (mrk k i))) (go_keep)
                            (first | (go_at_call 86; refine (HM1.out _).mono ?_; rintro e w' ⟨rfl, rfl⟩))
                          all_goals
                            go_wp2
                            go_roundw
                            case rel => exact ⟨i + 1, by omega, by go_num, H3'.out.same (Kept.refl _ _).drew⟩
                            case measure => simp [intOf]; omega
                        · obtain rfl : i = sk.n := by omega
                          go_wp2
                          go_roundw
                          case rel => exact ⟨k + 1, by omega, by go_num, H3'.out⟩
                          case measure => simp [intOf]; omega
                    · go_wp2
                      go_ret
                      exact ⟨rfl, h3.kept⟩
end Go.Proofs.Ytokgfmibhkkiaaa
