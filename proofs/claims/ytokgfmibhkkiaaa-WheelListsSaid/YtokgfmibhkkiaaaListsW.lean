/- WheelLists, walked -/
import Derived.Test.YtokgfmibhkkiaaaIn
import Derived.Test.YtokgfmibhkkiaaaFlowN
namespace Go.Proofs.Ytokgfmibhkkiaaa
open Go.RowKit Wh Mem Go.Maps

/-- the steps that a law takes: the first M of its argument -/
def StepsOb (w : World) (base : Nat) (ob : Option Addr) (M : Nat) : Prop := ∀ i : Nat, i < M → ∃ (a : Addr) (x : Int), ob = some a ∧ a.block < base ∧ 0 ≤ x ∧ x < 4294967296 ∧ w.cell? (a.add i) = some (.int .u32 x)

set_option maxHeartbeats 4000000 in
set_option maxRecDepth 100000 in
theorem lists_any {w : World} {base : Nat} {v vt : Value} {S : List Sm} {T : List Int} (hS : SmallsAt w base v S) (hT : StepsAt w base vt T) (hbase : base ≤ w.heap.size) (now : Int) (hn : U64 now) (wh : Int) (hw0 : 0 ≤ wh) (hw1 : wh < 256) :
    Calls Try.prog 8 #[.int .u64 now, v, vt, .int .u8 wh] w fun e w' => e = .returned (.bool true) ∧ Below w.heap.size w w' := by
  have HA := Lib.hid (awake_any w)
  have HS := Lib.hid hS
  have HT := Lib.hid hT
  have HN := Lib.hid hn
  clear hS hT hn
  go_enter Try.func8, Try.ntmps8
  go_wp2_with fail
  refine (HA.out).mono ?_
  rintro e w1 ⟨rfl, hb1⟩
  have HS1 := Lib.hid (HS.out.below hb1 hbase)
  have HT1 := Lib.hid (HT.out.below hb1 hbase)
  have hz1 := hb1.size
  have HM := Lib.hid (made_any HS1.out (by omega) now HN.out)
  go_wp2_with fail
  refine (HM.out).mono ?_
  rintro e w2 ⟨pb, mb, l0, rfl, hw2, hcore, hfoot, hb2⟩
  obtain ⟨N, hN⟩ : ∃ N, N = min S.length 10 := ⟨_, rfl⟩
  rw [← hN] at hcore
  simp only [← hN]
  have hN1 : N ≤ S.length := by omega
  have hN2 : N ≤ 10 := by omega
  have HID0 := Lib.hid (idsN_of hcore hN1)
  have HW2 := Lib.hid hw2
  have HF2 := Lib.hid hfoot
  have HT2 := Lib.hid (HT1.out.below hb2 (by omega))
  have hb02 : Below w.heap.size w w2 := hb1.trans (hb2.mono hz1)
  have hnow1 := Int.emod_nonneg now (b := 17592186044416) (by omega)
  have hnow2 := Int.emod_lt_of_pos now (b := 17592186044416) (by omega)
  clear hw2 hfoot hcore hN
  go_upto_region 6 with (fail)
  go_cut [46, 47, 48] (fun s46 s47 s48 wx => wx = w2 ∧ ∃ (M : Nat) (ob : Option Addr) (cap : Nat), s46 = .slice ob M cap ∧ s47 = .int .i64 M ∧ s48 = .int .i64 0 ∧ M ≤ 10 ∧ StepsOb w2 base ob M)
  case first =>
    rcases HT2.out with ⟨rfl, rfl⟩ | ⟨a, cap, rfl, hcap, hmax, hb, hcells⟩
    · go_wp2
      go_meet
      exact ⟨rfl, 0, none, 0, rfl, rfl, rfl, by omega, fun i hi => absurd hi (by omega)⟩
    · have HC := Lib.hid hcells
      have HB := Lib.hid hb
      obtain ⟨M, hM⟩ : ∃ M, M = min T.length 10 := ⟨_, rfl⟩
      have hM1 : M ≤ T.length := by omega
      have hM2 : M ≤ 10 := by omega
      have hmin : min (T.length : Int) 10 = (M : Int) := by omega
      have hmx : max (M : Int) 0 = (M : Int) := by omega
      have HMIN := Lib.hid hmin
      have HMX := Lib.hid hmx
      clear hcells hb hM hmin hmx
      go_wp2
      simp only [HMIN.out, HMX.out, Int.toNat_natCast]
      go_meet
      exact ⟨rfl, M, _, cap, rfl, rfl, rfl, hM2, fun i hi => by
        obtain ⟨⟨c1, c2⟩, c3⟩ := HC.out i (by omega)
        exact ⟨a, _, rfl, HB.out (by omega), c1, c2, c3⟩⟩
  case rest =>
    obtain ⟨rfl, M, ob, cap, rfl, rfl, rfl, hM, hst⟩ := hcut
    have HST := Lib.hid hst
    clear hst
    go_wp2_with fail
    go_loopw [48] (fun i wr => ∃ k : Nat, k ≤ M ∧ i = .int .i64 k ∧ ∃ l t0, WheelAt wr pb mb t0 l ∧ idsN l N ∧ 0 ≤ t0 ∧ t0 ≤ 17592186044416 + k * 4294967296 ∧ (∀ j, Foot pb mb l j → w1.heap.size ≤ j) ∧ Below w1.heap.size w1 wr) (fun i _ => M - (intOf i).toNat)
    case atStart => exact ⟨0, Nat.zero_le _, rfl, l0, _, HW2.out, HID0.out, hnow1, by omega, HF2.out, hb2⟩
    case round =>
      obtain ⟨k, hk, rfl, l, t0, hw, hid, ht0, ht1, hft, hbr⟩ := hrel
      have HW := Lib.hid hw
      have HID := Lib.hid hid
      have HFT := Lib.hid hft
      have hlen := idsN_len hid
      clear hw hid hft
      by_cases hlt : k < M
      · obtain ⟨a, x, rfl, hab, hx0, hx1, hcell⟩ := HST.out k hlt
        have hbrw2 : wr.heap[a.block]? = wc.heap[a.block]? := (hbr.block _ (by omega)).trans (hb2.block _ (by omega)).symm
        have hcx : wr.cell? (a.add k) = some (.int .u32 x) := (World.cell?_of_block (by rw [add_blk]; exact hbrw2)).trans hcell
        have HNOW := Lib.hid (now_any HW.out)
        have HAD := Lib.hid (advW_ok HW.out (t0 + x) (by omega) (by omega) (by omega) (by omega))
        have hwx : wrap64 (t0 + x) = t0 + x := by unfold wrap64; omega
        have HWX := Lib.hid hwx
        have hzr := hbr.size
        clear hwx hcell hbrw2
        go_wp2_with (first | (go_at_call 13; refine (HNOW.out).mono ?_; rintro e w9 ⟨rfl, rfl⟩))
        refine (HAD.out).mono ?_
        rintro e w3 ⟨v3, rfl, ho3, hw3, hk3⟩
        have HW3 := Lib.hid hw3
        have hb3 : Below w1.heap.size w1 w3 := hbr.trans (hk3.belowOf hzr (fun i hi hX => by
          have := HFT.out i (by rcases hX with rfl | ⟨m, hm, rfl⟩; exact .inl rfl; exact .inr (.inr ⟨m, hm, rfl⟩)); omega))
        have HTK := Lib.hid (ticks_any HW3.out (HS1.out.below hb3 (by omega)) (fun j hj => Nat.le_trans (show base ≤ w1.heap.size by omega) (HFT.out j (foot_of (advM_blks _ _ _) hj))) N hN1 hN2)
        have hz3 := hb3.size
        clear hw3 ho3 hk3
        go_wp2_with (first | (go_at_call 15; refine (HTK.out).mono ?_; rintro e w5 ⟨rfl, hw5, hk5⟩))
        have hids5 : (tickM S N (l.map (advM t0 (t0 + x)))).map (·.id) = l.map (·.id) := by rw [tickM_ids, List.map_map]; rfl
        have hft5 : ∀ j, Foot pb mb (tickM S N (l.map (advM t0 (t0 + x)))) j → w1.heap.size ≤ j := fun j hj => HFT.out j (foot_of (by rw [tickM_blks, advM_blks]) hj)
        have hb5 : Below w1.heap.size w1 w5 := hb3.trans (hk5.belowOf hz3 (fun i hi hX => by
          obtain ⟨m, hm, e⟩ := inB_mem hX
          have := HFT.out i (foot_of (advM_blks l t0 (t0 + x)) (.inr (.inr ⟨m, hm, e⟩))); omega))
        go_roundw
        case rel => exact ⟨k + 1, by omega, by go_num, _, t0 + x, hw5, idsN_same HID.out hids5, by omega, by omega, hft5, hb5⟩
        case measure => simp [intOf]; omega
      · obtain rfl : k = M := by omega
        clear hlt
        by_cases hN0 : N = 0
        · have HLN := Lib.hid (len_any HW.out)
          subst hN0
          rw [hlen] at HLN
          go_wp2_with fail
          refine (HLN.out).mono ?_
          rintro e w9 ⟨rfl, rfl⟩
          go_wp2
          go_ret
          exact ⟨rfl, hb1.trans (hbr.mono hz1)⟩
        · have hr0 := Int.emod_nonneg wh (b := (N : Int)) (by omega)
          have hr1 := Int.emod_lt_of_pos wh (b := (N : Int)) (by omega)
          obtain ⟨r, hr⟩ : ∃ r : Nat, wh % (N : Int) = (r : Int) := ⟨(wh % (N : Int)).toNat, by omega⟩
          have hrN : r < N := by omega
          obtain ⟨m, hm⟩ := idsN_find HID.out HW.out.ids hrN
          have hwr : wrap64 (3 * (wh % (N : Int))) = 3 * (r : Int) := by rw [hr]; unfold wrap64; omega
          obtain ⟨ID, hID⟩ : ∃ ID, ID = 3 * (r : Int) := ⟨_, rfl⟩
          rw [← hID] at hwr hm
          have hI0 : 0 ≤ ID := by omega
          have hI1 : ID ≤ 4294967295 := by omega
          have HR := Lib.hid hwr
          have HMM := Lib.hid hm
          have HWF := Lib.hid (wf_id ⟨hI0, hI1⟩)
          have hml := (findM_some hm).1
          have hfit := HW.out.fits _ hml
          have HFIT := Lib.hid hfit
          clear hr hm hr0 hr1 hwr hID hml hfit
          go_wp2_with fail
          simp only [HR.out]
          have HGET := Lib.hid (get_some (HW.out.below ((Below.refl _ _).alloc (Nat.le_refl _) (.cells #[.int .i64 ID] 3))) HWF.out HMM.out)
          refine (HGET.out).mono ?_
          rintro e wa ⟨rfl, hba⟩
          have hsa := hba.size
          simp only [World.size_alloc] at hsa
          go_wp2_with fail
          have BI : Blk ((wa.alloc (.cells #[.int .i64 m.plan.every, .int .i64 m.plan.offset, .int .i64 m.plan.timeout] 52)).alloc (.cells #[.int .u8 m.phase.state, .int .i64 m.phase.since] 59)) wr.heap.size #[.int .i64 ID] 3 := (((Blk.new wr _ 3).below hba (by simp)).alloc _).alloc _
          have BP : Blk ((wa.alloc (.cells #[.int .i64 m.plan.every, .int .i64 m.plan.offset, .int .i64 m.plan.timeout] 52)).alloc (.cells #[.int .u8 m.phase.state, .int .i64 m.phase.since] 59)) wa.heap.size #[.int .i64 m.plan.every, .int .i64 m.plan.offset, .int .i64 m.plan.timeout] 52 := (Blk.new wa _ 52).alloc _
          have BS : Blk ((wa.alloc (.cells #[.int .i64 m.plan.every, .int .i64 m.plan.offset, .int .i64 m.plan.timeout] 52)).alloc (.cells #[.int .u8 m.phase.state, .int .i64 m.phase.since] 59)) (wa.heap.size + 1) #[.int .u8 m.phase.state, .int .i64 m.phase.since] 59 := Blk.new' (w := wa.alloc _) _ 59 (by simp)
          have hbra : Below wr.heap.size wr wa := ((Below.refl _ _).alloc (Nat.le_refl _) _).trans (hba.mono (by simp))
          have hbW : Below wr.heap.size wr ((wa.alloc (.cells #[.int .i64 m.plan.every, .int .i64 m.plan.offset, .int .i64 m.plan.timeout] 52)).alloc (.cells #[.int .u8 m.phase.state, .int .i64 m.phase.since] 59)) := (hbra.alloc hbra.size _).alloc (by have := hbra.size; simp; omega) _
          clear hba hbra
          generalize ((wa.alloc (.cells #[.int .i64 m.plan.every, .int .i64 m.plan.offset, .int .i64 m.plan.timeout] 52)).alloc (.cells #[.int .u8 m.phase.state, .int .i64 m.phase.since] 59)) = W6 at BI BP BS hbW ⊢
          have HBI := Lib.hid BI
          have HBP := Lib.hid BP
          have HBS := Lib.hid BS
          have HW6 := Lib.hid (HW.out.below hbW)
          have hle : l.length ≤ 1000000 := by omega
          have hln := fun W (hW : Below W6.heap.size W6 W) => len_any (HW6.out.below hW)
          rw [hlen] at hln
          have HLN := Lib.hid hln
          clear hln
          have HHL := Lib.hid hlen
          clear BI BP BS hlen
          have HOP : Hid (decide (ID ∈ sel tOpen l) = (m.phase.state == 1)) := Lib.hid (in_sel HW.out.ids HMM.out tOpen)
          have HWT : Hid (decide (ID ∈ sel tWait l) = (m.phase.state == 2)) := Lib.hid (in_sel HW.out.ids HMM.out tWait)
          have HAL : Hid (decide (ID ∈ sel tAll l) = true) := Lib.hid (in_sel HW.out.ids HMM.out tAll)
          go_cut [128] (fun s128 wx => s128 = .bool false ∧ Below W6.heap.size W6 wx)
          case first =>
            as_aux_lemma =>
              apply wp_flowN ?hm ?hok [some _, some _, some _, some _, some _, none, some _, some _, some _, some _, some _, some _, some _, some _, some _, none, some _, some _, some _, some _, some _, some _, some _, some _, some _, none, some _, some _, some _, some _, some _, some _, some _, some _, some _, some _, some _, some _, some _, some _, some _, some _] [5, 15, 25] [5, 6, 15, 16, 25, 26] (fun i v w => (i = 5 → IntsAt w v (sel tOpen l)) ∧ (i = 15 → IntsAt w v (sel tWait l)) ∧ (i = 25 → IntsAt w v (sel tAll l)))
              case h =>
                intro u
                iterate 42 (first
                  | (apply flowN_bound (j := 6)
                     · rfl
                     · decide
                     · intro W1 hW hF K hK
                       have h5 := (hF 5 (by decide) (by decide)).1 rfl
                       obtain ⟨ci, _⟩ := (HBI.out.below hW HBI.out.lt).one
                       have HIN := Lib.hid (in_any h5 _ ID ci (by have := hW.size; have := HBI.out.lt; omega) (Nat.le_trans (sel_le _ _) hle) HOP.out)
                       go_wp2_with (first | (go_at_call 28; refine (HIN.out).mono ?_; rintro e w' ⟨rfl, hb⟩))
                       exact hb
                     simp only [Act.put, List.setIfInBounds_toArray, List.set_cons_zero, List.set_cons_succ, Nat.reduceAdd])
                  | (apply flowN_bound (j := 16)
                     · rfl
                     · decide
                     · intro W1 hW hF K hK
                       have h5 := (hF 15 (by decide) (by decide)).2.1 rfl
                       obtain ⟨ci, _⟩ := (HBI.out.below hW HBI.out.lt).one
                       have HIN := Lib.hid (in_any h5 _ ID ci (by have := hW.size; have := HBI.out.lt; omega) (Nat.le_trans (sel_le _ _) hle) HWT.out)
                       go_wp2_with (first | (go_at_call 28; refine (HIN.out).mono ?_; rintro e w' ⟨rfl, hb⟩))
                       exact hb
                     simp only [Act.put, List.setIfInBounds_toArray, List.set_cons_zero, List.set_cons_succ, Nat.reduceAdd])
                  | (apply flowN_bound (j := 26)
                     · rfl
                     · decide
                     · intro W1 hW hF K hK
                       have h5 := (hF 25 (by decide) (by decide)).2.2 rfl
                       obtain ⟨ci, _⟩ := (HBI.out.below hW HBI.out.lt).one
                       have HIN := Lib.hid (in_any h5 _ ID ci (by have := hW.size; have := HBI.out.lt; omega) (Nat.le_trans (sel_le _ _) hle) HAL.out)
                       go_wp2_with (first | (go_at_call 28; refine (HIN.out).mono ?_; rintro e w' ⟨rfl, hb⟩))
                       exact hb
                     simp only [Act.put, List.setIfInBounds_toArray, List.set_cons_zero, List.set_cons_succ, Nat.reduceAdd])
                  | (apply flowN_open (j := 5)
                     · rfl
                     · intro W1 hW hF K hK
                       go_wp2_with (first | (go_at_call 29; refine (open_any (HW6.out.below hW) hle).mono ?_; rintro e w' ⟨v', rfl, ho, hb⟩))
                       exact hK _ w' hb ⟨fun _ => IntsAt.of_row ho, fun h => absurd h (by decide), fun h => absurd h (by decide)⟩
                     simp only [Act.put, List.setIfInBounds_toArray, List.set_cons_zero, List.set_cons_succ, Nat.reduceAdd])
                  | (apply flowN_open (j := 15)
                     · rfl
                     · intro W1 hW hF K hK
                       go_wp2_with (first | (go_at_call 30; refine (wait_any (HW6.out.below hW) hle).mono ?_; rintro e w' ⟨v', rfl, ho, hb⟩))
                       exact hK _ w' hb ⟨fun h => absurd h (by decide), fun _ => IntsAt.of_row ho, fun h => absurd h (by decide)⟩
                     simp only [Act.put, List.setIfInBounds_toArray, List.set_cons_zero, List.set_cons_succ, Nat.reduceAdd])
                  | (apply flowN_open (j := 25)
                     · rfl
                     · intro W1 hW hF K hK
                       go_wp2_with (first | (go_at_call 31; refine (all_any (HW6.out.below hW) hle).mono ?_; rintro e w' ⟨v', rfl, ho, hb⟩))
                       exact hK _ w' hb ⟨fun h => absurd h (by decide), fun h => absurd h (by decide), fun _ => IntsAt.of_row ho⟩
                     simp only [Act.put, List.setIfInBounds_toArray, List.set_cons_zero, List.set_cons_succ, Nat.reduceAdd])
                  | (apply flowN_yes
                     · rfl
                     · intro W1 hW K hK
                       obtain ⟨c0, c1, c2, _⟩ := (HBP.out.below hW HBP.out.lt).three
                       obtain ⟨d0, d1, _⟩ := (HBS.out.below hW HBS.out.lt).two
                       obtain ⟨ci, _⟩ := (HBI.out.below hW HBI.out.lt).one
                       go_wp2_with (first | (go_at_call 27; refine (HLN.out _ hW).mono ?_; rintro e w' ⟨rfl, rfl⟩) | (go_at_call 18; refine (add_there (HW6.out.below hW) ID _ _ _ hI0 hI1 HFIT.out.1 HMM.out).mono ?_; rintro e w' ⟨rfl, hb⟩))
                       first | exact Below.refl _ _ | exact hb
                     simp only [Act.put, List.setIfInBounds_toArray, List.set_cons_zero, List.set_cons_succ, Nat.reduceAdd]))
                refine flowN_end fun W7 hb7 _ => ?_
                go_wp2
                go_meet
                exact ⟨rfl, hb7⟩
              case hm => rfl
              case hok => kernel_rfl
              case hokN => kernel_rfl
              case hnd => intro i hi; simp at hi; rcases hi with rfl | rfl | rfl <;> rfl
              case hV => exact fun i v w w' h hb => ⟨fun e => (h.1 e).below hb, fun e => (h.2.1 e).below hb, fun e => (h.2.2 e).below hb⟩
          case rest =>
            obtain ⟨rfl, hb7⟩ := hcut
            have HW7 := Lib.hid (HW6.out.below hb7)
            have HBI7 := Lib.hid (HBI.out.below hb7 HBI.out.lt)
            have HBP7 := Lib.hid (HBP.out.below hb7 HBP.out.lt)
            have HBS7 := Lib.hid (HBS.out.below hb7 HBS.out.lt)
            obtain ⟨ci, _⟩ := HBI7.out.one
            obtain ⟨c0, c1, c2, _⟩ := HBP7.out.three
            obtain ⟨d0, d1, _⟩ := HBS7.out.two
            have hbW7 : Below wr.heap.size wr wc := hbW.trans (hb7.mono hbW.size)
            clear hb7 HW6 HBI HBP HBS HLN
            go_upto_if 131 with (fail)
            go_cut [] (fun wx => wx = wc)
            case first =>
              as_aux_lemma =>
                by_cases hs : m.phase.state = 1
                · have e1 : (m.phase.state != 1) = false := by simp [hs]
                  go_wp2
                  go_meet
                  rfl
                · have e1 : (m.phase.state != 1) = true := by simpa using hs
                  have HAN := Lib.hid (answer_no HW7.out HWF.out HMM.out hs)
                  go_wp2_with (first | (go_at_call 21; refine (HAN.out).mono ?_; rintro e w' ⟨rfl, rfl⟩))
                  go_meet
                  rfl
            case rest =>
              subst hcut
              go_upto_if 146 with (fail)
              go_cut [] (fun wx => wx = wc)
              case first =>
                as_aux_lemma =>
                  by_cases hs : m.phase.state = 2
                  · have e1 : (m.phase.state != 2) = false := by simp [hs]
                    go_wp2
                    go_meet
                    rfl
                  · have e1 : (m.phase.state != 2) = true := by simpa using hs
                    have HAN := Lib.hid (handle_no HW7.out HWF.out HMM.out hs)
                    go_wp2_with (first | (go_at_call 22; refine (HAN.out).mono ?_; rintro e w' ⟨rfl, rfl⟩))
                    go_meet
                    rfl
              case rest =>
                as_aux_lemma =>
                  subst hcut
                  have hmbr := HW.out.lt (.inr (.inl rfl))
                  have HDR := Lib.hid (drop_some HW7.out HWF.out HMM.out)
                  have HLD := Lib.hid (length_drop HW.out.ids HMM.out)
                  go_wp2_with fail
                  refine (HDR.out).mono ?_
                  rintro e wd ⟨rfl, hwd, hkd⟩
                  have hsr := hbW7.size
                  have hsd := hkd.size
                  have hlI := HBI7.out.lt
                  have hlP := HBP7.out.lt
                  have hlS := HBS7.out.lt
                  have HBI8 := Lib.hid (HBI7.out.kept hkd (by omega))
                  have HBP8 := Lib.hid (HBP7.out.kept hkd (by omega))
                  have HBS8 := Lib.hid (HBS7.out.kept hkd (by omega))
                  have HWD := Lib.hid hwd
                  have hbWd : Below w1.heap.size w1 wd := (hbr.trans (hbW7.mono hbr.size)).trans (hkd.belowOf (by have := hbr.size; omega) (fun i hi e => by have := HFT.out mb (.inr (.inl rfl)); omega))
                  have hle8 : (dropM l ID).length ≤ 1000000 := by have := HLD.out; omega
                  have HDN := Lib.hid (fun W (hW : Below wd.heap.size wd W) => drop_none (HWD.out.below hW) HWF.out (find_drop l ID))
                  have HGN := Lib.hid (fun W (hW : Below wd.heap.size wd W) => get_none (HWD.out.below hW) HWF.out (find_drop l ID))
                  clear hwd hkd HBI7 HBP7 HBS7 HW7 HDR ci c0 c1 c2 d0 d1
                  have ca := fun O => (HBI8.out.alloc O).one.1
                  go_wp2_with fail
                  refine (HDN.out _ (by go_grown)).mono ?_
                  rintro e we ⟨rfl, hbe⟩
                  have hbe' : Below wd.heap.size wd we := Below.trans (by go_grown) (hbe.mono (by simp))
                  have cb := fun O => ((HBI8.out.below hbe' HBI8.out.lt).alloc O).one.1
                  have hse := hbe'.size
                  have hbeD := hbe
                  clear hbe ca
                  go_wp2_with fail
                  refine (HGN.out _ (by go_grown)).mono ?_
                  rintro e wf ⟨rfl, hbf⟩
                  have hbf' : Below wd.heap.size wd wf := Below.trans (b := _) (by go_grown) (hbf.mono (by simp; omega))
                  have hsf := hbf'.size
                  go_upto_region 32 with (fail)
                  have hbG : Below wd.heap.size wd ((wf.alloc (.cells #[.int .i64 0, .int .i64 0, .int .i64 0] 52)).alloc (.cells #[.int .u8 0, .int .i64 0] 59)) := (hbf'.alloc hsf _).alloc (by simp; omega) _
                  have B25 : Blk ((wf.alloc (.cells #[.int .i64 0, .int .i64 0, .int .i64 0] 52)).alloc (.cells #[.int .u8 0, .int .i64 0] 59)) wd.heap.size #[.int .u8 m.phase.state, .int .i64 m.phase.since] 59 := (((((Blk.new wd _ 59).below hbeD (by simp)).alloc _).below hbf (by simp; omega)).alloc _).alloc _
                  generalize ((wf.alloc (.cells #[.int .i64 0, .int .i64 0, .int .i64 0] 52)).alloc (.cells #[.int .u8 0, .int .i64 0] 59)) = WG at hbG B25 ⊢
                  have HIN8 := Lib.hid (fun (W : World) (hW : Below wd.heap.size wd W) (v : Value) (t : Phase → Bool) (h : IntsAt W v (sel t (dropM l ID))) => in_any h wr.heap.size ID (HBI8.out.below hW HBI8.out.lt).one.1 (by have := HBI8.out.lt; have := hW.size; omega) (Nat.le_trans (sel_le _ _) hle8) (in_drop l ID t))
                  have hAll := all_any (HWD.out.below hbG) hle8
                  obtain ⟨x0, x1, _⟩ := B25.two
                  obtain ⟨y0, y1, _⟩ := (HBS8.out.below hbG HBS8.out.lt).two
                  have HALL := Lib.hid hAll
                  clear hbf hbf' hbeD hbe' cb B25 hAll
                  go_wp2_with fail
                  refine (HALL.out).mono ?_
                  rintro e wh2 ⟨v8, rfl, ho, hbh⟩
                  have hbH : Below wd.heap.size wd wh2 := hbG.trans (hbh.mono hbG.size)
                  have HI1 := Lib.hid (HIN8.out wh2 hbH v8 tAll (IntsAt.of_row ho))
                  clear hbh ho x0 x1 y0 y1 HALL
                  go_wp2_with fail
                  refine (HI1.out).mono ?_
                  rintro e wi ⟨rfl, hbi⟩
                  have hbI : Below wd.heap.size wd wi := hbH.trans (hbi.mono hbH.size)
                  have HOPN := Lib.hid (open_any (HWD.out.below hbI) hle8)
                  clear hbi HI1
                  go_wp2_with fail
                  refine (HOPN.out).mono ?_
                  rintro e wj ⟨v9, rfl, ho, hbj⟩
                  have hbJ : Below wd.heap.size wd wj := hbI.trans (hbj.mono hbI.size)
                  have HI2 := Lib.hid (HIN8.out wj hbJ v9 tOpen (IntsAt.of_row ho))
                  clear hbj ho HOPN
                  go_wp2_with fail
                  refine (HI2.out).mono ?_
                  rintro e wk ⟨rfl, hbk⟩
                  have hbK : Below wd.heap.size wd wk := hbJ.trans (hbk.mono hbJ.size)
                  have HWTN := Lib.hid (wait_any (HWD.out.below hbK) hle8)
                  clear hbk HI2
                  go_wp2_with fail
                  refine (HWTN.out).mono ?_
                  rintro e wl ⟨v10, rfl, ho, hbl⟩
                  have hbL : Below wd.heap.size wd wl := hbK.trans (hbl.mono hbK.size)
                  have HI3 := Lib.hid (HIN8.out wl hbL v10 tWait (IntsAt.of_row ho))
                  clear hbl ho HWTN
                  go_wp2_with fail
                  refine (HI3.out).mono ?_
                  rintro e wm ⟨rfl, hbm⟩
                  have hbM : Below wd.heap.size wd wm := hbL.trans (hbm.mono hbL.size)
                  have hl9 : ((dropM l ID).length : Int) = (N : Int) - 1 := by have := HLD.out; have := HHL.out; omega
                  have hln := len_any (HWD.out.below hbM)
                  rw [hl9] at hln
                  have HLN := Lib.hid hln
                  have HWM := Lib.hid (HWD.out.below hbM)
                  have HADD := Lib.hid (add_ok HWM.out HFIT.out.2.1 ID m.plan.every m.plan.offset m.plan.timeout hI0 hI1 HFIT.out.1 (find_drop l ID) (by omega))
                  have HL9 := Lib.hid hl9
                  obtain ⟨ci, _⟩ := (HBI8.out.below hbM HBI8.out.lt).one
                  obtain ⟨c0, c1, c2, _⟩ := (HBP8.out.below hbM HBP8.out.lt).three
                  clear hbm HI3 hln hl9
                  go_wp2_with (first | (go_at_call 27; refine (HLN.out).mono ?_; rintro e w' ⟨rfl, rfl⟩))
                  refine (HADD.out).mono ?_
                  rintro e wn ⟨rfl, nb, hnb, hwn, hkn⟩
                  have hmd := HWD.out.lt (.inr (.inl rfl))
                  have hsM := hbM.size
                  have HBIn := Lib.hid ((HBI8.out.below hbM HBI8.out.lt).kept hkn (by omega))
                  have HBSn := Lib.hid ((HBS8.out.below hbM HBS8.out.lt).kept hkn (by omega))
                  have hfi := find_ins (m := ⟨ID, nb, ⟨m.plan.every, m.plan.offset, m.plan.timeout⟩, ⟨0, 0⟩⟩) HWM.out.ids (find_drop l ID)
                  have HWN := Lib.hid hwn
                  have HGI := Lib.hid (get_some hwn HWF.out hfi)
                  have hln := len_any hwn
                  have hl10 : ((ins ⟨ID, nb, ⟨m.plan.every, m.plan.offset, m.plan.timeout⟩, ⟨0, 0⟩⟩ (dropM l ID)).length : Int) = (N : Int) := by rw [length_ins]; have := HLD.out; have := HHL.out; omega
                  have HL10 := Lib.hid hl10
                  have hbN : Below w1.heap.size w1 wn := (hbWd.trans (hbM.mono hbWd.size)).trans (hkn.belowOf (by have := hbWd.size; omega) (fun i hi e => by have := HFT.out mb (.inr (.inl rfl)); omega))
                  obtain ⟨ci, _⟩ := HBIn.out.one
                  clear hwn hkn hfi hln hl10 c0 c1 c2 HADD HLN
                  go_wp2_with fail
                  refine (HGI.out).mono ?_
                  rintro e wo ⟨rfl, hbo⟩
                  have HBSo := Lib.hid (HBSn.out.below hbo HBSn.out.lt)
                  obtain ⟨_, _, f0, f1⟩ := HBSo.out.two
                  have hset := (HBSo.out.set 0 (.int .u8 0)).set 1 (.int .i64 0)
                  have hkset : Kept (fun k => k = wa.heap.size + 1) wo ((wo.setCell ⟨wa.heap.size + 1, 0, none⟩ (.int .u8 0)).setCell ⟨wa.heap.size + 1, 1, none⟩ (.int .i64 0)) := Kept.setCell (X := fun k => k = wa.heap.size + 1) (Kept.setCell (X := fun k => k = wa.heap.size + 1) (Kept.refl _ _) (fun _ => rfl) _) (fun _ => rfl) _
                  go_upto_region 35 with (fail)
                  obtain ⟨z0, z1, _⟩ := hset.two
                  have hft := fun i (hi : Foot pb mb (ins ⟨ID, nb, ⟨m.plan.every, m.plan.offset, m.plan.timeout⟩, ⟨0, 0⟩⟩ (dropM l ID)) i) => foot_ins hi
                  have hwz := (HWN.out.below hbo).kept hkset (fun i hi e => by
                    rcases hft i hi with h | h
                    · have := HW.out.lt (foot_drop h); omega
                    · have h2 : i = nb := h
                      have := HBS8.out.lt; omega)
                  have hln := len_any hwz
                  rw [HL10.out] at hln
                  have HLN := Lib.hid hln
                  have hbZ : Below w1.heap.size w1 ((wo.setCell ⟨wa.heap.size + 1, 0, none⟩ (.int .u8 0)).setCell ⟨wa.heap.size + 1, 1, none⟩ (.int .i64 0)) := (hbN.trans (hbo.mono hbN.size)).trans (hkset.belowOf (by have := hbN.size; have := hbo.size; omega) (fun i hi e => by have := hbr.size; omega))
                  clear hln hwz hft hkset hset hbo f0 f1
                  generalize ((wo.setCell ⟨wa.heap.size + 1, 0, none⟩ (.int .u8 0)).setCell ⟨wa.heap.size + 1, 1, none⟩ (.int .i64 0)) = WZ at z0 z1 HLN hbZ ⊢
                  go_wp2_with (first | (go_at_call 27; refine (HLN.out).mono ?_; rintro e w' ⟨rfl, rfl⟩))
                  go_ret
                  exact ⟨rfl, hb1.trans (hbZ.mono hz1)⟩
end Go.Proofs.Ytokgfmibhkkiaaa
