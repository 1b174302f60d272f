/- WheelApart, walked -/
import Derived.Test.YtokgfmibhkkiaaaApart
import Derived.Test.YtokgfmibhkkiaaaFlowS
import Derived.Deep.AppendLies
import Derived.Deep.LoopGhost
namespace Go.Proofs.Ytokgfmibhkkiaaa
open Go.RowKit Wh Mem Go.Maps

/-- the steps that a law takes: the first M of its argument -/
def StepsTo (w : World) (base : Nat) (ob : Option Addr) (M : Nat) : Prop := ∀ i : Nat, i < M → ∃ (a : Addr) (x : Int), ob = some a ∧ a.block < base ∧ 0 ≤ x ∧ x < 4294967296 ∧ w.cell? (a.add i) = some (.int .u32 x)

set_option maxHeartbeats 4000000 in
set_option maxRecDepth 100000 in
theorem apart_any {w : World} {base : Nat} {v vt : Value} {S : List Sm} {T : List Int} (hS : SmallsAt w base v S) (hT : StepsAt w base vt T) (hbase : base ≤ w.heap.size) (now : Int) (hn : U64 now) (wh : Int) (hw0 : 0 ≤ wh) (hw1 : wh < 256) :
    Calls Try.prog 5 #[.int .u64 now, v, vt, .int .u8 wh] w fun e w' => e = .returned (.bool true) ∧ Below w.heap.size w w' := by
  have HA := Lib.hid (awake_any w)
  have HS := Lib.hid hS
  have HT := Lib.hid hT
  have HN := Lib.hid hn
  clear hS hT hn
  go_enter Try.func5, Try.ntmps5
  go_wp2_with fail
  refine (HA.out).mono ?_
  rintro e w1 ⟨rfl, hb1⟩
  have HS1 := Lib.hid (HS.out.below hb1 hbase)
  have HT1 := Lib.hid (HT.out.below hb1 hbase)
  have hz1 := hb1.size
  have HM := Lib.hid (made_any HS1.out (by omega) now HN.out)
  go_wp2_with fail
  refine (HM.out).mono ?_
  rintro e w2 ⟨pb, mb, l0, rfl, hw2, hcore, hfoot, hb2⟩
  obtain ⟨N, hN⟩ : ∃ N, N = min S.length 10 := ⟨_, rfl⟩
  rw [← hN] at hcore
  simp only [← hN]
  have hN1 : N ≤ S.length := by omega
  have hN2 : N ≤ 10 := by omega
  have HID0 := Lib.hid (idsN_of hcore hN1)
  have HCO := Lib.hid hcore
  have HW2 := Lib.hid hw2
  have HF2 := Lib.hid hfoot
  have HT2 := Lib.hid (HT1.out.below hb2 (by omega))
  have HS2 := Lib.hid (HS1.out.below hb2 (by omega))
  have hb02 : Below w.heap.size w w2 := hb1.trans (hb2.mono hz1)
  have hz2 := hb2.size
  have hnow1 := Int.emod_nonneg now (b := 17592186044416) (by omega)
  have hnow2 := Int.emod_lt_of_pos now (b := 17592186044416) (by omega)
  obtain ⟨t0, ht0⟩ : ∃ t0, t0 = now % 17592186044416 := ⟨_, rfl⟩
  rw [← ht0] at hnow1 hnow2 HW2
  clear hw2 hfoot hcore hN ht0
  by_cases hN0 : N = 0
  · subst hN0
    go_wp2_with fail
    go_ret
    exact ⟨rfl, hb02⟩
  have hr0 := Int.emod_nonneg wh (b := (N : Int)) (by omega)
  have hr1 := Int.emod_lt_of_pos wh (b := (N : Int)) (by omega)
  obtain ⟨r, hr⟩ : ∃ r : Nat, wh % (N : Int) = (r : Int) := ⟨(wh % (N : Int)).toNat, by omega⟩
  have hrN : r < N := by omega
  have HR := Lib.hid hr
  obtain ⟨m0, hm0, hmc0⟩ := made_find HCO.out HW2.out.ids hrN hN1
  have HM0 := Lib.hid hm0
  have HMC0 := Lib.hid hmc0
  have HTK := Lib.hid (show Tick t0 from ⟨hnow1, by omega⟩)
  have HNOW := Lib.hid (now_any HW2.out)
  have HNEW := Lib.hid (new_ok t0 HTK.out w2)
  clear hr hr0 hr1 hm0 hmc0
  go_wp2_with fail
  simp only [HR.out]
  refine (HNOW.out).mono ?_
  rintro e w' ⟨rfl, rfl⟩
  go_wp2_with fail
  refine (HNEW.out).mono ?_
  rintro e w3 ⟨rfl, hw3, hb3⟩
  go_upto_region 10 with (fail)
  obtain ⟨ad, scap, rfl, hscap, hsmax, hsb, hcells⟩ : ∃ (a : Addr) (cap : Nat), v = .slice (some a) S.length cap ∧ S.length ≤ cap ∧ cap ≤ maxLen ∧ a.block < base ∧
      ∀ (i : Nat) (hi : i < S.length), (U64 S[i].every ∧ U64 S[i].offset ∧ U64 S[i].timeout) ∧
      w2.cell? (a.add (i * 4)) = some (.int .u64 S[i].every) ∧ w2.cell? ((a.add (i * 4)).add 1) = some (.int .u64 S[i].offset) ∧ w2.cell? ((a.add (i * 4)).add 2) = some (.int .u64 S[i].timeout) ∧ w2.cell? ((a.add (i * 4)).add 3) = some (.bool S[i].handled) := by
    rcases HS2.out with ⟨rfl, rfl⟩ | ⟨a, cap, rfl, h1, h2, h3, h4⟩
    · exact absurd hN1 (by simp; omega)
    · exact ⟨a, cap, rfl, h1, h2, h3 (by omega), h4⟩
  have hrS : r < S.length := by omega
  obtain ⟨⟨hu0, hu1, hu2⟩, d0, d1, d2, d3⟩ := hcells r hrS
  obtain ⟨sm, hsm⟩ : ∃ sm, sm = S[r] := ⟨_, rfl⟩
  rw [← hsm] at hu0 hu1 hu2 d0 d1 d2 d3 HMC0
  have HSM := Lib.hid (show S[r]? = some sm by rw [hsm]; exact List.getElem?_eq_getElem hrS)
  have HCL := Lib.hid (fun (W : World) (hW : W.heap[ad.block]? = w2.heap[ad.block]?) => (show W.cell? (ad.add (r * 4)) = some (.int .u64 sm.every) ∧ W.cell? ⟨(ad.add (r * 4)).block, (ad.add (r * 4)).off + 1, none⟩ = some (.int .u64 sm.offset) ∧ W.cell? ⟨(ad.add (r * 4)).block, (ad.add (r * 4)).off + 2, none⟩ = some (.int .u64 sm.timeout) ∧ W.cell? ⟨(ad.add (r * 4)).block, (ad.add (r * 4)).off + 3, none⟩ = some (.bool sm.handled) from by
    have hq : ∀ j, W.cell? ((ad.add (r * 4)).add j) = w2.cell? ((ad.add (r * 4)).add j) := fun j => World.cell?_of_block (by rw [add_blk, add_blk]; exact hW)
    exact ⟨(hq 0).trans d0, (hq 1).trans d1, (hq 2).trans d2, (hq 3).trans d3⟩))
  have HW3 := Lib.hid hw3
  have HMP := Lib.hid (fun W => made_plan sm.every sm.offset sm.timeout hu0.1 hu0.2 hu1.1 hu1.2 hu2.1 hu2.2 W)
  have hz3 := hb3.size
  clear hcells hsm d0 d1 d2 d3 hu0 hu1 hu2 hw3
  go_cut [79] (fun s79 wx => s79 = .bool false ∧ ∃ nb, w3.heap.size ≤ nb ∧ WheelAt wx (w2.heap.size + 1) w2.heap.size t0 [⟨3 * (r : Int), nb, smPlan sm, ⟨0, 0⟩⟩] ∧ Kept (fun k => k = w2.heap.size) w3 wx)
  case first =>
    as_aux_lemma =>
      refine wp_flowS rfl (by kernel_rfl) 26 (by kernel_rfl) rfl (Below w3.heap.size w3) (fun wx => ∃ nb, w3.heap.size ≤ nb ∧ WheelAt wx (w2.heap.size + 1) w2.heap.size t0 [⟨3 * (r : Int), nb, smPlan sm, ⟨0, 0⟩⟩] ∧ Kept (fun k => k = w2.heap.size) w3 wx) (Below.refl _ _).drew ?_
      iterate 29 (first
        | (apply flowS_pre
           · rfl
           · rfl
           · intro W1 hW K hK
             obtain ⟨d0, d1, d2, d3⟩ := HCL.out W1 ((hW.block _ (by omega)).trans (hb3.block _ (by omega)))
             go_wp2_with (first | (go_at_call 19; refine (HMP.out _).mono ?_; rintro e w' ⟨rfl, hb⟩))
             first | exact hW | exact hW.trans (hb.mono hW.size)
           simp only [Act.put, List.setIfInBounds_toArray, List.set_cons_zero, List.set_cons_succ, Nat.reduceAdd])
        | (apply flowS_at
           · rfl
           · rfl
           · intro W1 hW K hK
             have HAD := Lib.hid (add_ok (HW3.out.below hW) HTK.out (3 * (r : Int)) (madeOf sm.every sm.offset sm.timeout).every (madeOf sm.every sm.offset sm.timeout).offset (madeOf sm.every sm.offset sm.timeout).timeout (by omega) (by omega) madeOf_right rfl (by simp))
             have hsW := hW.size
             go_wp2_with (first | (go_at_call 18; refine (HAD.out).mono ?_; rintro e w' ⟨rfl, nb, hnb, hw', hk'⟩))
             exact ⟨nb, by omega, hw', (Kept.of_below hW _).trans hk'⟩
           simp only [Act.put, List.setIfInBounds_toArray, List.set_cons_zero, List.set_cons_succ, Nat.reduceAdd])
        | (apply flowS_post
           · rfl
           · rfl
           · intro W1 hW K hK
             go_wp2_with fail
             exact hW
           simp only [Act.put, List.setIfInBounds_toArray, List.set_cons_zero, List.set_cons_succ, Nat.reduceAdd]))
      refine flowS_end fun W7 hB => ?_
      go_wp2
      go_meet
      exact ⟨rfl, hB⟩
  case rest =>
    obtain ⟨rfl, nb, hnb, hwa, hka⟩ := hcut
    have HWA := Lib.hid hwa
    have hbA : Below w2.heap.size w2 wc := hb3.trans (hka.belowOf hz3 (fun i hi e => by omega))
    clear hwa
    have HT3 := Lib.hid (HT2.out.below hbA (by omega))
    have hzA := hbA.size
    have hP2 := HW3.out.head.lt
    go_upto_region 12 with (fail)
    go_cut [84, 85, 86] (fun s84 s85 s86 wx => wx = wc ∧ ∃ (M : Nat) (ob : Option Addr) (cap : Nat), s84 = .slice ob M cap ∧ s85 = .int .i64 M ∧ s86 = .int .i64 0 ∧ M ≤ 20 ∧ StepsTo wc base ob M)
    case first =>
      rcases HT3.out with ⟨rfl, rfl⟩ | ⟨a, cap, rfl, hcap, hmax, hb, hcells⟩
      · go_wp2
        go_meet
        exact ⟨rfl, 0, none, 0, rfl, rfl, rfl, by omega, fun i hi => absurd hi (by omega)⟩
      · have HC := Lib.hid hcells
        have HB := Lib.hid hb
        obtain ⟨M, hM⟩ : ∃ M, M = min T.length 20 := ⟨_, rfl⟩
        have hM1 : M ≤ T.length := by omega
        have hM2 : M ≤ 20 := by omega
        have hmin : min (T.length : Int) 20 = (M : Int) := by omega
        have hmx : max (M : Int) 0 = (M : Int) := by omega
        have HMIN := Lib.hid hmin
        have HMX := Lib.hid hmx
        clear hcells hb hM hmin hmx
        go_wp2
        simp only [HMIN.out, HMX.out, Int.toNat_natCast]
        go_meet
        exact ⟨rfl, M, _, cap, rfl, rfl, rfl, hM2, fun i hi => by
          obtain ⟨⟨c1, c2⟩, c3⟩ := HC.out i (by omega)
          exact ⟨a, _, rfl, HB.out (by omega), c1, c2, c3⟩⟩
    case rest =>
      obtain ⟨hwx, M, ob, cap, rfl, rfl, rfl, hM, hst⟩ := hcut
      rw [← hwx] at HWA hst hbA hzA
      clear hwx hka HT3
      have HST := Lib.hid hst
      have HF := Lib.hid (show ∀ j, Foot pb mb l0 j → w1.heap.size ≤ j ∧ j < w2.heap.size from fun j hj => ⟨HF2.out j hj, HW2.out.lt hj⟩)
      have HWB := Lib.hid (HW2.out.below hbA)
      have hbB : Below w1.heap.size w1 wc := hb2.trans (hbA.mono hz2)
      clear hst
      go_wp2_with fail
      go_loopw [86] (fun i wr => ∃ k : Nat, k ≤ M ∧ i = .int .i64 k ∧ ∃ l m m2 t, WheelAt wr pb mb t l ∧ idsN l N ∧ findM l (3 * (r : Int)) = some m ∧ core m2 = core m ∧ WheelAt wr (w2.heap.size + 1) w2.heap.size t [m2] ∧ 0 ≤ t ∧ t ≤ 17592186044416 + k * 4294967296 ∧ (∀ j, Foot pb mb l j → w1.heap.size ≤ j ∧ j < w2.heap.size) ∧ w3.heap.size ≤ m2.blk ∧ Below w1.heap.size w1 wr) (fun i _ => M - (intOf i).toNat)
      case atStart => exact ⟨0, Nat.zero_le _, rfl, l0, m0, ⟨3 * (r : Int), nb, smPlan sm, ⟨0, 0⟩⟩, t0, HWB.out, HID0.out, HM0.out, HMC0.out.symm, HWA.out, hnow1, by omega, HF.out, hnb, hbB⟩
      case round =>
        obtain ⟨k, hk, rfl, l, m, m2, t, hw, hid, hfm, hcm, hal, ht0, ht1, hft, hmb2, hbr⟩ := hrel
        have hlen := idsN_len hid
        have HID := Lib.hid hid
        have HFM := Lib.hid hfm
        have HCM := Lib.hid hcm
        have HW := Lib.hid hw
        have HAL := Lib.hid hal
        have HFT := Lib.hid hft
        have hsr := hbr.size
        have hPr := HAL.out.head.lt
        have hMr : m2.blk < wr.heap.size := (HAL.out.mem m2 (by simp)).lt
        clear hid hfm hcm hw hal hft
        by_cases hlt : k < M
        · obtain ⟨a, x, rfl, hab, hx0, hx1, hcell⟩ := HST.out k hlt
          have hbrw : wr.heap[a.block]? = wc.heap[a.block]? := (hbr.block _ (by omega)).trans (hbB.block _ (by omega)).symm
          have hcx : wr.cell? (a.add k) = some (.int .u32 x) := (World.cell?_of_block (by rw [add_blk]; exact hbrw)).trans hcell
          have hadr : wr.heap[ad.block]? = w2.heap[ad.block]? := (hbr.block _ (by omega)).trans (hb2.block _ (by omega)).symm
          have HADR := Lib.hid hadr
          have HNOW2 := Lib.hid (now_any HW.out)
          have HAD := Lib.hid (advW_ok HW.out (t + x) (by omega) (by omega) (by omega) (by omega))
          clear hcell hbrw hadr
          go_wp2_with (first | (go_at_call 13; refine (HNOW2.out).mono ?_; rintro e w9 ⟨rfl, rfl⟩))
          refine (HAD.out).mono ?_
          rintro e wa ⟨va, rfl, hoa, hwa, hka⟩
          have hsa := hka.size
          have HWa := Lib.hid hwa
          have HALa := Lib.hid (HAL.out.kept hka (fun i hi hX => by
            have h1 := HFT.out i (by rcases hX with rfl | ⟨y, hy, rfl⟩; exact .inl rfl; exact .inr (.inr ⟨y, hy, rfl⟩))
            rcases hi with rfl | rfl | ⟨y, hy, rfl⟩
            · omega
            · omega
            · simp at hy; subst hy; omega))
          have HNOW3 := Lib.hid (now_any HALa.out)
          have HAD2 := Lib.hid (advW_ok HALa.out (t + x) (by omega) (by omega) (by omega) (by simp))
          have HOA := Lib.hid hoa
          have hbra : Below w1.heap.size w1 wa := hbr.trans (hka.belowOf hsr (fun i hi hX => by
            have h1 := HFT.out i (by rcases hX with rfl | ⟨y, hy, rfl⟩; exact .inl rfl; exact .inr (.inr ⟨y, hy, rfl⟩)); omega))
          clear hoa hwa hka
          go_wp2_with (first | (go_at_call 13; refine (HNOW3.out).mono ?_; rintro e w9 ⟨rfl, rfl⟩))
          refine (HAD2.out).mono ?_
          rintro e wb ⟨vb, rfl, hob, hwb, hkb⟩
          have hX2 : ∀ i, (i = w2.heap.size + 1 ∨ ∃ y ∈ [m2], y.blk = i) → w2.heap.size ≤ i ∧ i < wr.heap.size := fun i hX => by
            rcases hX with rfl | ⟨y, hy, rfl⟩
            · omega
            · simp at hy; subst hy; omega
          have HMA := Lib.hid (MovesAt.of_row (own_kept HOA.out hkb (fun i hX => (hX2 i hX).2)))
          have HMB := Lib.hid (MovesAt.of_row hob)
          have HWb := Lib.hid (HWa.out.kept hkb (fun i hi hX => by
            have h1 := HFT.out i (foot_of (advM_blks l t (t + x)) hi)
            have h2 := hX2 i hX
            omega))
          have hwb' : WheelAt wb (w2.heap.size + 1) w2.heap.size (t + x) [advM t (t + x) m2] := hwb
          have HALb := Lib.hid hwb'
          have hbrb : Below w1.heap.size w1 wb := hbra.trans (hkb.belowOf hbra.size (fun i hi hX => by have := hX2 i hX; omega))
          clear hob hwb hwb' hkb hX2 hbra HOA HAD HAD2
          obtain ⟨o1, c1, rfl, hca⟩ := moves_form HMA.out
          obtain ⟨o2, c2, rfl, -⟩ := moves_form HMB.out
          have HCA := Lib.hid hca
          have hle1 := moves_one_le t (t + x) m2
          have hpm := pick_moves t (t + x) HW.out.ids HFM.out
          rw [← moves_core HCM.out] at hpm
          have HPM := Lib.hid hpm
          have hmvl := moves_le t (t + x) l
          obtain ⟨mv, hmv⟩ : ∃ mv, mv = moves t (t + x) l := ⟨_, rfl⟩
          rw [← hmv] at HMA HPM hmvl HCA
          obtain ⟨ow, how⟩ : ∃ ow, ow = moves t (t + x) [m2] := ⟨_, rfl⟩
          rw [← how] at HMB HPM hle1
          simp only [← hmv, ← how]
          clear hca hpm hmv how
          go_wp2_with fail
          obtain ⟨i0, hi0, hf0, hf1, hf2⟩ := info_parts info45
          have hsb := hbrb.size
          go_loopw [21, 121] (fun v21 i wx => ∃ q : Nat, q ≤ mv.length ∧ i = .int .i64 q ∧ wx.ownsRow wb.heap.size 45 4 v21 (pickMv (3 * (r : Int)) (mv.take q)).length ((pickMv (3 * (r : Int)) (mv.take q)).flatMap mvCells) ∧ Below wb.heap.size wb wx) (fun _ i _ => mv.length - (intOf i).toNat)
          case atStart => exact ⟨0, Nat.zero_le _, rfl, by simpa [pickMv] using World.ownsRow_nil _ _ _ _, Below.refl _ _⟩
          case round =>
            obtain ⟨q, hq, rfl, hown, hbx⟩ := hrel
            have hsx := hbx.size
            by_cases hqlt : q < mv.length
            · obtain ⟨g, rfl, hg, y0, y1, y2, y3⟩ := HCA.out q hqlt
              have hsn := pick_snoc (3 * (r : Int)) mv q hqlt
              have hpl := pick_le (3 * (r : Int)) (mv.take q)
              rw [List.length_take] at hpl
              have z0 := (hbx.cell (p := ⟨g, q * 4, none⟩) hg).trans y0
              have z1 := (hbx.cell (p := ⟨g, q * 4 + 1, none⟩) hg).trans y1
              have z2 := (hbx.cell (p := ⟨g, q * 4 + 2, none⟩) hg).trans y2
              have z3 := (hbx.cell (p := ⟨g, q * 4 + 3, none⟩) hg).trans y3
              obtain ⟨z, hz⟩ : ∃ z, z = mv[q] := ⟨_, rfl⟩
              rw [← hz] at hsn z0 z1 z2 z3
              clear hz y0 y1 y2 y3
              by_cases heq : z.1 = 3 * (r : Int)
              · rw [if_pos heq] at hsn
                have HSN := Lib.hid hsn
                rw [heq] at z0
                have hmvz : mvCells z = [.int .i64 (3 * (r : Int)), .int .i64 z.2.begun, .int .i64 z.2.failed, .int .i64 z.2.skipped] := by unfold mvCells; rw [heq]
                have hnews : ∀ j u, (mvCells z)[j]? = some u → ((wr.alloc (.cells #[.int .i64 (3 * (r : Int)), .int .i64 z.2.begun, .int .i64 z.2.failed, .int .i64 z.2.skipped] 45)).alloc (.cells #[.int .i64 (3 * (r : Int)), .int .i64 z.2.begun, .int .i64 z.2.failed, .int .i64 z.2.skipped] 45)).cell? ((⟨wr.heap.size + 1, 0, none⟩ : Addr).add j) = some u := by
                  rw [hmvz]
                  exact World.news_of_block (Blk.new' (w := wr.alloc _) #[.int .i64 (3 * (r : Int)), .int .i64 z.2.begun, .int .i64 z.2.failed, .int .i64 z.2.skipped] 45 (by simp))
                have hone : ∀ u ∈ mvCells z, u.oneCell' = true := by simp [mvCells, Value.oneCell']
                have hmax : (pickMv (3 * (r : Int)) (mv.take q)).length + 1 ≤ maxLen := by unfold maxLen; omega
                have hbyt : ((pickMv (3 * (r : Int)) (mv.take q)).length + 1) * 32 ≤ 140737488355328 := by omega
                have hbs : wb.heap.size ≤ ((wr.alloc (.cells #[.int .i64 (3 * (r : Int)), .int .i64 z.2.begun, .int .i64 z.2.failed, .int .i64 z.2.skipped] 45)).alloc (.cells #[.int .i64 (3 * (r : Int)), .int .i64 z.2.begun, .int .i64 z.2.failed, .int .i64 z.2.skipped] 45)).heap.size := by simp; omega
                clear hmvz hsn heq
                go_wp2_with (first
                  | (at_builtin; refine wpList_append_own _ rfl _ _ 32 rfl wb.heap.size 45 i0 (.agg #[.int .i64 0, .int .i64 0, .int .i64 0, .int .i64 0]) 4 32 Try.underlying32 hi0 hf0 hf1 hf2 rfl (by decide) _ _ _ rfl ((hown.alloc _).alloc _) _ 1 1 (mvCells z) rfl rfl hnews hone hmax hbyt hbs ?_; intro v' w4 hown' hgrow _))
                have hbx' : Below wb.heap.size wb w4 := ((hbx.alloc hsx _).alloc (by simp; omega) _).grown hgrow (by simp; omega) (fun q hq => (hown.lt q hq).1)
                clear hgrow hown hbx
                go_wp2
                go_roundw
                case rel => exact ⟨q + 1, by omega, by go_num, by rw [HSN.out]; simpa using hown', hbx'⟩
                case measure => simp [intOf]; omega
              · rw [if_neg heq, List.append_nil] at hsn
                have HSN := Lib.hid hsn
                clear hsn
                go_wp2
                go_roundw
                case rel => exact ⟨q + 1, by omega, by go_num, by rw [HSN.out]; exact hown.alloc _, hbx.alloc hsx _⟩
                case measure => simp [intOf]; omega
            · obtain rfl : q = mv.length := by omega
              rw [List.take_length, HPM.out] at hown
              have HMM := Lib.hid (moved_yes (MovesAt.of_row hown) (HMB.out.below hbx) (by omega))
              clear hown
              go_wp2_with fail
              refine (HMM.out).mono ?_
              rintro e wy ⟨rfl, hby⟩
              go_wp2_with fail
              have hbY : Below wb.heap.size wb wy := hbx.trans (hby.mono hsx)
              have hbrY : Below w1.heap.size w1 wy := hbrb.trans (hbY.mono hsb)
              have HWy := Lib.hid (HWb.out.below hbY)
              have HALy := Lib.hid (HALb.out.below hbY)
              have HTK := Lib.hid (ticks_any HWy.out (HS1.out.below hbrY (by omega)) (fun j hj => by have := (HFT.out j (foot_of (advM_blks l t (t + x)) hj)).1; omega) N hN1 hN2)
              have hsY := hbrY.size
              clear hbx hby HMM HWb HALb HMA HMB HCA
              refine (HTK.out).mono ?_
              rintro e wz ⟨rfl, hwz, hkz⟩
              have hInB : ∀ i, InB ((l.map (advM t (t + x))).map (·.blk)) i → w1.heap.size ≤ i ∧ i < w2.heap.size := fun i hX => by
                obtain ⟨y, hy, e⟩ := inB_mem hX
                exact HFT.out i (foot_of (advM_blks l t (t + x)) (.inr (.inr ⟨y, hy, e⟩)))
              have HWz := Lib.hid hwz
              have HALz := Lib.hid (HALy.out.kept hkz (fun i hi hX => by
                have h1 := hInB i hX
                rcases hi with rfl | rfl | ⟨y, hy, rfl⟩
                · omega
                · omega
                · simp at hy; subst hy; have : (advM t (t + x) m2).blk = m2.blk := rfl; omega))
              have hadz : wz.heap[ad.block]? = w2.heap[ad.block]? := (hkz.block _ (by omega) (fun hX => by have := hInB _ hX; omega)).trans ((hbrY.block _ (by omega)).trans (hb2.block _ (by omega)).symm)
              obtain ⟨-, -, -, dh⟩ := HCL.out wz hadz
              have hbrZ : Below w1.heap.size w1 wz := hbrY.trans (hkz.belowOf hsY (fun i hi hX => by have := hInB i hX; omega))
              have hft := find_tick S (r := r) (l := l.map (advM t (t + x))) (m := advM t (t + x) m) (by rw [find_adv, HFM.out]; rfl) N
              rw [HSM.out] at hft
              have HFTK := Lib.hid hft
              have HCA2 := Lib.hid (adv_core HCM.out t (t + x))
              have HWF := Lib.hid (wf_id (id := 3 * (r : Int)) ⟨by omega, by omega⟩)
              have hmid : m2.id = 3 * (r : Int) := (congrArg (·.1) HCM.out).trans (findM_some HFM.out).2
              have HMID := Lib.hid hmid
              have hsZ := hbrZ.size
              clear hwz hkz hadz hft hmid HWy HALy HTK hInB
              go_upto_if 147 with (fail)
              go_cut [] (fun wx => ∃ m3, WheelAt wx (w2.heap.size + 1) w2.heap.size (t + x) [m3] ∧ (∃ m4, findM (tickM S N (l.map (advM t (t + x)))) (3 * (r : Int)) = some m4 ∧ core m3 = core m4) ∧ m3.blk = m2.blk ∧ Kept (fun k => k = m2.blk) wz wx)
              case first =>
                obtain ⟨hd, hhd⟩ : ∃ hd, sm.handled = hd := ⟨_, rfl⟩
                simp only [hhd]
                have HHD := Lib.hid hhd
                clear hhd
                cases hd
                · go_wp2_with fail
                  go_meet
                  refine ⟨_, HALz.out, ⟨_, HFTK.out, ?_⟩, rfl, Kept.refl _ _⟩
                  rw [if_neg (by rw [Option.map_some, HHD.out]; simp)]
                  exact HCA2.out
                · have HANS := Lib.hid (answer_all HALz.out HWF.out)
                  go_wp2_with fail
                  refine (HANS.out).mono ?_
                  rintro e wp ⟨⟨x1, y1, rfl⟩, hwp, hkp⟩
                  rw [answer_one (show (advM t (t + x) m2).id = _ from HMID.out)] at hwp
                  have HHAN := Lib.hid (handle_all hwp HWF.out)
                  clear hwp
                  go_wp2_with fail
                  refine (HHAN.out).mono ?_
                  rintro e wq ⟨⟨x2, y2, rfl⟩, hwq, hkq⟩
                  rw [handle_one (show (setP (advM t (t + x) m2) (ansP (advM t (t + x) m2).phase)).id = _ from HMID.out)] at hwq
                  have HWQ := Lib.hid hwq
                  clear hwq
                  go_wp2_with fail
                  go_meet
                  refine ⟨_, HWQ.out, ⟨_, HFTK.out, ?_⟩, rfl, ?_⟩
                  · rw [if_pos ⟨hrN, by rw [Option.map_some, HHD.out]⟩]
                    have h3 := HCA2.out
                    have h4 : (advM t (t + x) m2).phase = (advM t (t + x) m).phase := congrArg (·.2.2) h3
                    have h5 : core (setP (advM t (t + x) m2) (hanP (ansP (advM t (t + x) m2).phase))) = core (setP (advM t (t + x) m) (hanP (ansP (advM t (t + x) m).phase))) := set_core h3 _ _ (by rw [h4])
                    exact h5
                  · refine (hkp.mono ?_).trans (hkq.mono ?_)
                    · intro i _ hX; simp [InB] at hX; exact hX
                    · intro i _ hX; simp [InB] at hX; exact hX
              case rest =>
                obtain ⟨m3, hw3', ⟨m4, hf4, hc34⟩, hbk3, hk3⟩ := hcut
                have HWc := Lib.hid (HWz.out.kept hk3 (fun i hi hX => by
                  have h1 := HFT.out i (foot_of (by rw [tickM_blks, advM_blks]) hi)
                  omega))
                have HALc := Lib.hid hw3'
                have hbrC : Below w1.heap.size w1 wc := hbrZ.trans (hk3.belowOf hsZ (fun i hi hX => by omega))
                have HF4 := Lib.hid hf4
                have HC34 := Lib.hid hc34
                have hid3 : m3.id = 3 * (r : Int) := (congrArg (·.1) hc34).trans (findM_some hf4).2
                have hpl : m3.plan = m4.plan := congrArg (·.2.1) hc34
                have hph : m3.phase = m4.phase := congrArg (·.2.2) hc34
                have HG1 := Lib.hid (get_some HWc.out HWF.out hf4)
                have hg2 := fun W (hW : Below wc.heap.size wc W) => get_some (HALc.out.below hW) HWF.out (find_one hid3)
                rw [hpl, hph] at hg2
                have HG2 := Lib.hid hg2
                have hsC := hbrC.size
                clear hw3' hf4 hc34 hk3 hid3 hpl hph hg2 dh
                go_wp2_with fail
                refine (HG1.out).mono ?_
                rintro e wg ⟨rfl, hbg⟩
                have hsg := hbg.size
                go_wp2_with fail
                have hbG0 : Below wc.heap.size wc ((wg.alloc (.cells #[.int .i64 m4.plan.every, .int .i64 m4.plan.offset, .int .i64 m4.plan.timeout] 52)).alloc (.cells #[.int .u8 m4.phase.state, .int .i64 m4.phase.since] 59)) := (hbg.alloc hsg _).alloc (by simp; omega) _
                refine (HG2.out _ hbG0).mono ?_
                rintro e ww ⟨rfl, hbw⟩
                have hbG : Below wc.heap.size wc ww := hbG0.trans (hbw.mono hbG0.size)
                have hsw := hbw.size
                simp only [World.size_alloc] at hsw
                go_upto_region 34 with (fail)
                have B24 : Blk ((ww.alloc (.cells #[.int .i64 m4.plan.every, .int .i64 m4.plan.offset, .int .i64 m4.plan.timeout] 52)).alloc (.cells #[.int .u8 m4.phase.state, .int .i64 m4.phase.since] 59)) wg.heap.size #[.int .i64 m4.plan.every, .int .i64 m4.plan.offset, .int .i64 m4.plan.timeout] 52 := ((((Blk.new wg _ 52).alloc _).below hbw (by simp; omega)).alloc _).alloc _
                have B25 : Blk ((ww.alloc (.cells #[.int .i64 m4.plan.every, .int .i64 m4.plan.offset, .int .i64 m4.plan.timeout] 52)).alloc (.cells #[.int .u8 m4.phase.state, .int .i64 m4.phase.since] 59)) (wg.heap.size + 1) #[.int .u8 m4.phase.state, .int .i64 m4.phase.since] 59 := (((Blk.new' (w := wg.alloc _) (b := wg.heap.size + 1) _ 59 (by simp)).below hbw (by simp)).alloc _).alloc _
                have B26 : Blk ((ww.alloc (.cells #[.int .i64 m4.plan.every, .int .i64 m4.plan.offset, .int .i64 m4.plan.timeout] 52)).alloc (.cells #[.int .u8 m4.phase.state, .int .i64 m4.phase.since] 59)) ww.heap.size #[.int .i64 m4.plan.every, .int .i64 m4.plan.offset, .int .i64 m4.plan.timeout] 52 := (Blk.new ww _ 52).alloc _
                have B27 : Blk ((ww.alloc (.cells #[.int .i64 m4.plan.every, .int .i64 m4.plan.offset, .int .i64 m4.plan.timeout] 52)).alloc (.cells #[.int .u8 m4.phase.state, .int .i64 m4.phase.since] 59)) (ww.heap.size + 1) #[.int .u8 m4.phase.state, .int .i64 m4.phase.since] 59 := Blk.new' (w := ww.alloc _) _ 59 (by simp)
                have hbV : Below wc.heap.size wc ((ww.alloc (.cells #[.int .i64 m4.plan.every, .int .i64 m4.plan.offset, .int .i64 m4.plan.timeout] 52)).alloc (.cells #[.int .u8 m4.phase.state, .int .i64 m4.phase.since] 59)) := (hbG.alloc hbG.size _).alloc (by have := hbG.size; simp; omega) _
                clear hbG0 hbw hbG hsw
                generalize ((ww.alloc (.cells #[.int .i64 m4.plan.every, .int .i64 m4.plan.offset, .int .i64 m4.plan.timeout] 52)).alloc (.cells #[.int .u8 m4.phase.state, .int .i64 m4.phase.since] 59)) = WV at B24 B25 B26 B27 hbV ⊢
                obtain ⟨a0, a1, a2, _⟩ := B24.three
                obtain ⟨b0, b1, _⟩ := B25.two
                obtain ⟨a4, a5, a6, _⟩ := B26.three
                obtain ⟨b4, b5, _⟩ := B27.two
                clear B24 B25 B26 B27
                go_wp2
                go_roundw
                case rel => exact ⟨k + 1, by omega, by go_num, _, m4, m3, t + x, HWc.out.below hbV, idsN_same HID.out (by rw [tickM_ids, List.map_map]; rfl), HF4.out, HC34.out, HALc.out.below hbV, by omega, by omega, fun j hj => HFT.out j (foot_of (by rw [tickM_blks, advM_blks]) hj), by omega, hbrC.trans (hbV.mono hsC)⟩
                case measure => simp [intOf]; omega
        · obtain rfl : k = M := by omega
          go_wp2
          go_ret
          exact ⟨rfl, hb1.trans (hbr.mono hz1)⟩
end Go.Proofs.Ytokgfmibhkkiaaa
