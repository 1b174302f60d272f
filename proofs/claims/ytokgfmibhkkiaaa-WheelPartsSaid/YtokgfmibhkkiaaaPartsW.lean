/- WheelParts, walked -/
import Derived.Test.YtokgfmibhkkiaaaPartsM
namespace Go.Proofs.Ytokgfmibhkkiaaa
open Go.RowKit Wh Mem Go.Maps

def StepsIn (w : World) (base : Nat) (ob : Option Addr) (M : Nat) : Prop := ∀ i : Nat, i < M → ∃ (a : Addr) (x : Int), ob = some a ∧ a.block < base ∧ 0 ≤ x ∧ x < 4294967296 ∧ w.cell? (a.add i) = some (.int .u32 x)

set_option maxHeartbeats 4000000 in
set_option maxRecDepth 100000 in
theorem parts_any {w : World} {base : Nat} {v vt : Value} {S : List Sm} {T : List Int} (hS : SmallsAt w base v S) (hT : StepsAt w base vt T) (hbase : base ≤ w.heap.size) (now : Int) (hn : U64 now) (da db : Int) (hda : U64 da) (hdb : U64 db) :
    Calls Try.prog 4 #[.int .u64 now, v, vt, .int .u64 da, .int .u64 db] w fun e w' => e = .returned (.bool true) ∧ Below w.heap.size w w' := by
  have HA := Lib.hid (awake_any w)
  have HS := Lib.hid hS
  have HT := Lib.hid hT
  have HN := Lib.hid hn
  have hda0 := hda.1
  have hda1 := hda.2
  have hdb0 := hdb.1
  have hdb1 := hdb.2
  clear hS hT hn
  go_enter Try.func4, Try.ntmps4
  go_wp2_with fail
  refine (HA.out).mono ?_
  rintro e w1 ⟨rfl, hb1⟩
  have HS1 := Lib.hid (HS.out.below hb1 hbase)
  have HT1 := Lib.hid (HT.out.below hb1 hbase)
  have hz1 := hb1.size
  have HM := Lib.hid (made_any HS1.out (by omega) now HN.out)
  go_wp2_with fail
  refine (HM.out).mono ?_
  rintro e w2 ⟨p1, m1, l1, rfl, hw2, hcore1, hfoot1, hb2⟩
  have hz2 := hb2.size
  have HW2 := Lib.hid hw2
  have HS2 := Lib.hid (HS1.out.below hb2 (by omega))
  have HM2 := Lib.hid (made_any HS2.out (by omega) now HN.out)
  clear hw2 HM
  go_wp2_with fail
  refine (HM2.out).mono ?_
  rintro e w3 ⟨p2, m2, l2, rfl, hw3, hcore2, hfoot2, hb3⟩
  obtain ⟨N, hN⟩ : ∃ N, N = min S.length 10 := ⟨_, rfl⟩
  rw [← hN] at hcore1 hcore2
  simp only [← hN]
  have hN1 : N ≤ S.length := by omega
  have hN2 : N ≤ 10 := by omega
  have hlen1 := core_len hcore1 hN1
  have hlen2 := core_len hcore2 hN1
  have HCC := Lib.hid (hcore1.trans hcore2.symm)
  have HWV := Lib.hid (HW2.out.below hb3)
  have HWW := Lib.hid hw3
  have HF1 := Lib.hid (show ∀ j, Foot p1 m1 l1 j → w1.heap.size ≤ j ∧ j < w2.heap.size from fun j hj => ⟨hfoot1 j hj, HW2.out.lt hj⟩)
  have HF2 := Lib.hid hfoot2
  have hz3 := hb3.size
  have hb13 : Below w1.heap.size w1 w3 := hb2.trans (hb3.mono hz2)
  have HT3 := Lib.hid (HT1.out.below hb13 (by omega))
  have HS3 := Lib.hid (HS1.out.below hb13 (by omega))
  have ht1 := Int.emod_nonneg now (b := 17592186044416) (by omega)
  have ht2 := Int.emod_lt_of_pos now (b := 17592186044416) (by omega)
  clear hw3 hcore1 hcore2 hfoot1 hfoot2 hN HM2 HW2
  obtain ⟨t0, ht0⟩ : ∃ t0, t0 = now % 17592186044416 := ⟨_, rfl⟩
  rw [← ht0] at ht1 ht2 HWV HWW
  clear ht0
  go_upto_region 7 with (fail)
  go_cut [72, 73, 74] (fun s84 s85 s86 wx => wx = w3 ∧ ∃ (M : Nat) (ob : Option Addr) (cap : Nat), s84 = .slice ob M cap ∧ s85 = .int .i64 M ∧ s86 = .int .i64 0 ∧ M ≤ 10 ∧ StepsIn w3 base ob M)
  case first =>
    rcases HT3.out with ⟨rfl, rfl⟩ | ⟨a, cap, rfl, hcap, hmax, hb, hcells⟩
    · go_wp2
      go_meet
      exact ⟨rfl, 0, none, 0, rfl, rfl, rfl, by omega, fun i hi => absurd hi (by omega)⟩
    · have HC := Lib.hid hcells
      have HB := Lib.hid hb
      obtain ⟨M, hM⟩ : ∃ M, M = min T.length 10 := ⟨_, rfl⟩
      have hM1 : M ≤ T.length := by omega
      have hM2 : M ≤ 10 := by omega
      have hmin : min (T.length : Int) 10 = (M : Int) := by omega
      have hmx : max (M : Int) 0 = (M : Int) := by omega
      have HMIN := Lib.hid hmin
      have HMX := Lib.hid hmx
      clear hcells hb hM hmin hmx
      go_wp2
      simp only [HMIN.out, HMX.out, Int.toNat_natCast]
      go_meet
      exact ⟨rfl, M, _, cap, rfl, rfl, rfl, hM2, fun i hi => by
        obtain ⟨⟨c1, c2⟩, c3⟩ := HC.out i (by omega)
        exact ⟨a, _, rfl, HB.out (by omega), c1, c2, c3⟩⟩
  case rest =>
    obtain ⟨hwx, M, ob, cap, rfl, rfl, rfl, hM, hst⟩ := hcut
    rw [← hwx] at HWV HWW hst hb13 hz3
    clear hwx HT3 hb3
    have HST := Lib.hid hst
    clear hst
    go_wp2_with fail
    go_loopw [74] (fun i wr => ∃ k : Nat, k ≤ M ∧ i = .int .i64 k ∧ ∃ l l' t, WheelAt wr p1 m1 t l ∧ WheelAt wr p2 m2 t l' ∧ l.map core = l'.map core ∧ l.length = N ∧ 0 ≤ t ∧ t ≤ 17592186044416 + k * 4294967296 ∧ (∀ j, Foot p1 m1 l j → w1.heap.size ≤ j ∧ j < w2.heap.size) ∧ (∀ j, Foot p2 m2 l' j → w2.heap.size ≤ j) ∧ Below w1.heap.size w1 wr) (fun i _ => M - (intOf i).toNat)
    case atStart => exact ⟨0, Nat.zero_le _, rfl, l1, l2, t0, HWV.out, HWW.out, HCC.out, hlen1, ht1, by omega, HF1.out, HF2.out, hb13⟩
    case round =>
      obtain ⟨k, hk, rfl, l, l', t, hwv, hww, hcc, hlen, htt0, htt1, hf1, hf2, hbr⟩ := hrel
      have hlen' : l'.length = N := by have := congrArg List.length hcc; simpa [hlen] using this.symm
      have HV := Lib.hid hwv
      have HW := Lib.hid hww
      have HC := Lib.hid hcc
      have HFV := Lib.hid hf1
      have HFW := Lib.hid hf2
      have hsr := hbr.size
      clear hwv hww hcc hf1 hf2
      by_cases hlt : k < M
      · obtain ⟨a, x, rfl, hab, hx0, hx1, hcell⟩ := HST.out k hlt
        have hbrw : wr.heap[a.block]? = wc.heap[a.block]? := (hbr.block _ (by omega)).trans (hb13.block _ (by omega)).symm
        have hcx : wr.cell? (a.add k) = some (.int .u32 x) := (World.cell?_of_block (by rw [add_blk]; exact hbrw)).trans hcell
        have HNOW := Lib.hid (now_any HV.out)
        have HAD := Lib.hid (advW_ok HV.out (t + x) (by omega) (by omega) (by omega) (by omega))
        clear hcell hbrw
        go_wp2_with (first | (go_at_call 13; refine (HNOW.out).mono ?_; rintro e w9 ⟨rfl, rfl⟩))
        refine (HAD.out).mono ?_
        rintro e wa ⟨va, rfl, hoa, hwa, hka⟩
        have hX1 : ∀ i, (i = p1 ∨ ∃ y ∈ l, y.blk = i) → w1.heap.size ≤ i ∧ i < w2.heap.size := fun i hX => HFV.out i (by rcases hX with rfl | ⟨y, hy, rfl⟩; exact .inl rfl; exact .inr (.inr ⟨y, hy, rfl⟩))
        have HVa := Lib.hid hwa
        have HWa := Lib.hid (HW.out.kept hka (fun i hi hX => by have h1 := hX1 i hX; have h2 := HFW.out i hi; omega))
        have hbra : Below w1.heap.size w1 wa := hbr.trans (hka.belowOf hsr (fun i hi hX => by have := hX1 i hX; omega))
        have hsa := hbra.size
        have HNOW2 := Lib.hid (now_any HWa.out)
        have HAD2 := Lib.hid (advW_ok HWa.out (t + x) (by omega) (by omega) (by omega) (by omega))
        clear hoa hwa hka hX1
        go_wp2_with (first | (go_at_call 13; refine (HNOW2.out).mono ?_; rintro e w9 ⟨rfl, rfl⟩))
        refine (HAD2.out).mono ?_
        rintro e wb ⟨vb, rfl, hob, hwb, hkb⟩
        have hX2 : ∀ i, (i = p2 ∨ ∃ y ∈ l', y.blk = i) → w2.heap.size ≤ i := fun i hX => HFW.out i (by rcases hX with rfl | ⟨y, hy, rfl⟩; exact .inl rfl; exact .inr (.inr ⟨y, hy, rfl⟩))
        have HWb := Lib.hid hwb
        have HVb := Lib.hid (HVa.out.kept hkb (fun i hi hX => by have h1 := hX2 i hX; have h2 := HFV.out i (foot_of (advM_blks _ _ _) hi); omega))
        have hbrb : Below w1.heap.size w1 wb := hbra.trans (hkb.belowOf hsa (fun i hi hX => by have := hX2 i hX; omega))
        have hsb := hbrb.size
        have HTK := Lib.hid (ticks_any HVb.out (HS1.out.below hbrb (by omega)) (fun j hj => by have := (HFV.out j (foot_of (advM_blks l t (t + x)) hj)).1; omega) N hN1 hN2)
        clear hob hwb hkb hX2
        go_wp2_with fail
        refine (HTK.out).mono ?_
        rintro e wd ⟨rfl, hwd, hkd⟩
        have hX3 : ∀ i, InB ((l.map (advM t (t + x))).map (·.blk)) i → w1.heap.size ≤ i ∧ i < w2.heap.size := fun i hX => by
          obtain ⟨y, hy, e⟩ := inB_mem hX
          exact HFV.out i (foot_of (advM_blks l t (t + x)) (.inr (.inr ⟨y, hy, e⟩)))
        have HVd := Lib.hid hwd
        have HWd := Lib.hid (HWb.out.kept hkd (fun i hi hX => by have h1 := hX3 i hX; have h2 := HFW.out i (foot_of (advM_blks _ _ _) hi); omega))
        have hbrd : Below w1.heap.size w1 wd := hbrb.trans (hkd.belowOf hsb (fun i hi hX => by have := hX3 i hX; omega))
        have hsd := hbrd.size
        have HTK2 := Lib.hid (ticks_any HWd.out (HS1.out.below hbrd (by omega)) (fun j hj => by have := HFW.out j (foot_of (advM_blks l' t (t + x)) hj); omega) N hN1 hN2)
        clear hwd hkd hX3
        go_wp2_with fail
        refine (HTK2.out).mono ?_
        rintro e we ⟨rfl, hwe, hke⟩
        have hX4 : ∀ i, InB ((l'.map (advM t (t + x))).map (·.blk)) i → w2.heap.size ≤ i := fun i hX => by
          obtain ⟨y, hy, e⟩ := inB_mem hX
          exact HFW.out i (foot_of (advM_blks l' t (t + x)) (.inr (.inr ⟨y, hy, e⟩)))
        have HVe := Lib.hid (HVd.out.kept hke (fun i hi hX => by have h1 := hX4 i hX; have h2 := HFV.out i (foot_of (by rw [tickM_blks, advM_blks]) hi); omega))
        have hbre : Below w1.heap.size w1 we := hbrd.trans (hke.belowOf hsd (fun i hi hX => by have := hX4 i hX; omega))
        go_wp2_with fail
        go_roundw
        case rel => exact ⟨k + 1, by omega, by go_num, _, _, t + x, HVe.out, hwe, core_tick S (core_adv HC.out _ _) N, by
          have := congrArg List.length (tickM_ids S N (l.map (advM t (t + x))))
          simpa [hlen] using this, by omega, by omega, fun j hj => HFV.out j (foot_of (by rw [tickM_blks, advM_blks]) hj), fun j hj => HFW.out j (foot_of (by rw [tickM_blks, advM_blks]) hj), hbre⟩
        case measure => simp [intOf]; omega
      · obtain rfl : k = M := by omega
        obtain ⟨X, hX⟩ : ∃ X, da % 4398046511104 = X := ⟨_, rfl⟩
        obtain ⟨Y, hY⟩ : ∃ Y, db % 4398046511104 = Y := ⟨_, rfl⟩
        have hX0 := Int.emod_nonneg da (b := 4398046511104) (by omega)
        have hX1 := Int.emod_lt_of_pos da (b := 4398046511104) (by omega)
        have hY0 := Int.emod_nonneg db (b := 4398046511104) (by omega)
        have hY1 := Int.emod_lt_of_pos db (b := 4398046511104) (by omega)
        have HXX := Lib.hid hX
        have HYY := Lib.hid hY
        rw [hX] at hX0 hX1
        rw [hY] at hY0 hY1
        clear hX hY
        have HNOW := Lib.hid (now_any HV.out)
        have HAD := Lib.hid (advW_ok HV.out (t + X) (by omega) (by omega) (by omega) (by omega))
        go_upto_region 18 with (fail)
        simp only [HXX.out, HYY.out]
        go_wp2_with (first | (go_at_call 13; refine (HNOW.out).mono ?_; rintro e w9 ⟨rfl, rfl⟩))
        refine (HAD.out).mono ?_
        rintro e wa ⟨va, rfl, hoa, hwa, hka⟩
        have hX1' : ∀ i, (i = p1 ∨ ∃ y ∈ l, y.blk = i) → w1.heap.size ≤ i ∧ i < w2.heap.size := fun i hX => HFV.out i (by rcases hX with rfl | ⟨y, hy, rfl⟩; exact .inl rfl; exact .inr (.inr ⟨y, hy, rfl⟩))
        have HVa := Lib.hid hwa
        have HWa := Lib.hid (HW.out.kept hka (fun i hi hX => by have h1 := hX1' i hX; have h2 := HFW.out i hi; omega))
        have hbra : Below w1.heap.size w1 wa := hbr.trans (hka.belowOf hsr (fun i hi hX => by have := hX1' i hX; omega))
        have hsa := hbra.size
        have hska := hka.size
        have HOA := Lib.hid hoa
        have HNOW2 := Lib.hid (now_any HVa.out)
        have HAD2 := Lib.hid (advW_ok HVa.out (t + X + Y) (by omega) (by omega) (by omega) (by simp; omega))
        clear hoa hwa hka
        go_wp2_with (first | (go_at_call 13; refine (HNOW2.out).mono ?_; rintro e w9 ⟨rfl, rfl⟩))
        refine (HAD2.out).mono ?_
        rintro e wb ⟨vb, rfl, hob, hwb, hkb⟩
        have hkb' : Kept (fun i => w1.heap.size ≤ i ∧ i < w2.heap.size) wa wb := hkb.mono (fun i _ hX => HFV.out i (foot_of (advM_blks l t (t + X)) (by rcases hX with rfl | ⟨y, hy, rfl⟩; exact .inl rfl; exact .inr (.inr ⟨y, hy, rfl⟩))))
        have HVb := Lib.hid hwb
        have HWb := Lib.hid (HWa.out.kept hkb' (fun i hi hX => by have h2 := HFW.out i hi; omega))
        have hbrb : Below w1.heap.size w1 wb := hbra.trans (hkb'.belowOf hsa (fun i hi hX => by omega))
        have hsb := hbrb.size
        have hskb := hkb'.size
        have HOB := Lib.hid hob
        have HOA2 := Lib.hid (own_kept HOA.out hkb' (fun i hX => by have := HW.out.head.lt; have := HFW.out p2 (.inl rfl); omega))
        have HNOW3 := Lib.hid (now_any HWb.out)
        have HAD3 := Lib.hid (advW_ok HWb.out (t + X + Y) (by omega) (by omega) (by omega) (by omega))
        clear hob hwb hkb hkb' HOA
        go_wp2_with (first | (go_at_call 13; refine (HNOW3.out).mono ?_; rintro e w9 ⟨rfl, rfl⟩))
        refine (HAD3.out).mono ?_
        rintro e wd ⟨vd, rfl, hod, hwd, hkd⟩
        have hkd' : Kept (fun i => w2.heap.size ≤ i ∧ i < wr.heap.size) wb wd := hkd.mono (fun i _ hX => by
          have h3 : Foot p2 m2 l' i := by rcases hX with rfl | ⟨y, hy, rfl⟩; exact .inl rfl; exact .inr (.inr ⟨y, hy, rfl⟩)
          exact ⟨HFW.out i h3, HW.out.lt h3⟩)
        have HWd := Lib.hid hwd
        have HVd := Lib.hid (HVb.out.kept hkd' (fun i hi hX => by have h2 := HFV.out i (foot_of (by rw [advM_blks, advM_blks]) hi); omega))
        have hbrd : Below w1.heap.size w1 wd := hbrb.trans (hkd'.belowOf hsb (fun i hi hX => by omega))
        have hsd := hbrd.size
        have hskd := hkd'.size
        have HMF := Lib.hid (MovesAt.of_row (own_kept HOA2.out hkd' (fun i hX => hX.2)))
        have HMG := Lib.hid (MovesAt.of_row (own_kept HOB.out hkd' (fun i hX => by omega)))
        have HMB := Lib.hid (MovesAt.of_row hod)
        have hfits := HV.out.fits
        have HALK := Lib.hid (alike_yes HVd.out HWd.out ((core_split hfits (show t ≤ t + X by omega) (show t + X ≤ t + X + Y by omega)).trans (core_adv HC.out t (t + X + Y))) (by simp; omega))
        have hsum : (moves t (t + X) l ++ moves (t + X) (t + X + Y) (l.map (advM t (t + X)))).foldl stepR [] = moves t (t + X + Y) l' := by
          rw [List.foldl_append, fold_first HV.out.ids hfits (by omega), fold_parts HV.out.ids hfits (by omega) (by omega) ⟨by omega, by omega⟩]
          exact core_moves HC.out _ _
        have HSUM := Lib.hid hsum
        have hfF := fun x (hx : x ∈ moves t (t + X) l) => moves_facts hfits HV.out.range (by omega) (by omega) hx
        have hfG := fun x (hx : x ∈ moves (t + X) (t + X + Y) (l.map (advM t (t + X)))) => moves_facts HVa.out.fits HVa.out.range (by omega) (by omega) hx
        have HFF := Lib.hid hfF
        have HFG := Lib.hid hfG
        have HSF := Lib.hid (moves_sorted (a := t) (b := t + X) HV.out.ids)
        have HSG := Lib.hid (moves_sorted (a := t + X) (b := t + X + Y) HVa.out.ids)
        have HSB := Lib.hid (moves_sorted (a := t) (b := t + X + Y) HW.out.ids)
        have hlF := moves_le t (t + X) l
        have hlG := moves_le (t + X) (t + X + Y) (l.map (advM t (t + X)))
        have hlB := moves_le t (t + X + Y) l'
        have hfB := fun x (hx : x ∈ moves t (t + X + Y) l') => moves_facts HW.out.fits HW.out.range (by omega) (by omega) hx
        have HFB := Lib.hid hfB
        rw [List.length_map] at hlG
        obtain ⟨F, hF⟩ : ∃ F, F = moves t (t + X) l := ⟨_, rfl⟩
        obtain ⟨G, hG⟩ : ∃ G, G = moves (t + X) (t + X + Y) (l.map (advM t (t + X))) := ⟨_, rfl⟩
        obtain ⟨B, hB⟩ : ∃ B, B = moves t (t + X + Y) l' := ⟨_, rfl⟩
        rw [← hF] at HMF HSUM HFF HSF hlF
        rw [← hG] at HMG HSUM HFG HSG hlG
        rw [← hB] at HMB HSUM HSB hlB HFB
        clear hod hwd hkd hkd' hsum hfits hfF hfG hfB hF hG hB HOA2 HOB HVb HWb HVa HWa HAD HAD2 HAD3 HNOW HNOW2 HNOW3
        go_wp2_with fail
        refine (HALK.out).mono ?_
        rintro e we ⟨rfl, hbe⟩
        have HMFe := Lib.hid (HMF.out.below hbe)
        have HMGe := Lib.hid (HMG.out.below hbe)
        have HMBe := Lib.hid (HMB.out.below hbe)
        have hbre : Below w1.heap.size w1 we := hbrd.trans (hbe.mono hsd)
        have hmm := @run_makeMap Try.prog
        have hse := hbre.size
        clear hbe HALK HVd HWd HMF HMG HMB
        obtain ⟨oF, cF, rfl, hcF⟩ := cells_form HMFe.out
        obtain ⟨oG, cG, rfl, hcG⟩ := cells_form HMGe.out
        obtain ⟨oB, cB, rfl, hcB⟩ := cells_form HMBe.out
        go_wp2_with fail
        have hbW : Below we.heap.size we ((we.alloc (.map #[] 0)).alloc (.cells #[.slice oF F.length cF, .slice oG G.length cG] 32)) := ((Below.refl _ _).alloc (Nat.le_refl _) _).alloc (by simp) _
        have hblk : Blk ((we.alloc (.map #[] 0)).alloc (.cells #[.slice oF F.length cF, .slice oG G.length cG] 32)) (we.heap.size + 1) #[.slice oF F.length cF, .slice oG G.length cG] 32 := Blk.new' (w := we.alloc _) _ 32 (by simp)
        have hown : ((we.alloc (.map #[] 0)).alloc (.cells #[.slice oF F.length cF, .slice oG G.length cG] 32)).ownsMap Try.prog 3 RR we.heap.size 0 (repD []) := (World.ownsMap_made we Try.prog 3 RR).alloc _
        have hcF' : CellsOf ((we.alloc (.map #[] 0)).alloc (.cells #[.slice oF F.length cF, .slice oG G.length cG] 32)) we.heap.size oF F := hcF.kept (Kept.of_below hbW (fun _ => False)) (Nat.le_refl _) (fun _ h => h.elim)
        have hcG' : CellsOf ((we.alloc (.map #[] 0)).alloc (.cells #[.slice oF F.length cF, .slice oG G.length cG] 32)) we.heap.size oG G := hcG.kept (Kept.of_below hbW (fun _ => False)) (Nat.le_refl _) (fun _ h => h.elim)
        have hcB' : CellsOf ((we.alloc (.map #[] 0)).alloc (.cells #[.slice oF F.length cF, .slice oG G.length cG] 32)) we.heap.size oB B := hcB.kept (Kept.of_below hbW (fun _ => False)) (Nat.le_refl _) (fun _ h => h.elim)
        clear hcF hcG hcB hmm HMFe HMGe HMBe
        generalize ((we.alloc (.map #[] 0)).alloc (.cells #[.slice oF F.length cF, .slice oG G.length cG] 32)) = W0 at hbW hblk hown hcF' hcG' hcB' ⊢
        obtain ⟨g0, g1, _⟩ := hblk.two
        have hzW := hblk.lt
        have HPF := Lib.hid (show Part W0 we.heap.size oF F from ⟨hcF', by omega, HSF.out, HFF.out⟩)
        have HPG := Lib.hid (show Part W0 we.heap.size oG G from ⟨hcG', by omega, HSG.out, HFG.out⟩)
        have HPB := Lib.hid (show Part W0 we.heap.size oB B from ⟨hcB', by omega, HSB.out, HFB.out⟩)
        have HCUR := Lib.hid (show ∀ j, j < 2 → ∃ cur ob cap, W0.cell? ⟨we.heap.size + 1, j, none⟩ = some (.slice ob cur.length cap) ∧ Part W0 we.heap.size ob cur ∧ preL F G (j + 1) = preL F G j ++ cur from fun j hj => by
          obtain rfl | rfl : j = 0 ∨ j = 1 := by omega
          · exact ⟨F, oF, cF, g0, HPF.out, rfl⟩
          · exact ⟨G, oG, cG, g1, HPG.out, rfl⟩)
        have HOWN := Lib.hid hown
        obtain ⟨sb, hsbe⟩ : ∃ sb, sb = we.heap.size := ⟨_, rfl⟩
        clear hblk hown hcF' hcG' hcB' HSF HSG HFF HFG g0 g1
        go_loopw [163] (fun i wr => ∃ j : Nat, j ≤ 2 ∧ i = .int .i64 j ∧ ∃ xs, xs = (preL F G j).foldl stepR [] ∧ wr.ownsMap Try.prog 3 RR we.heap.size xs.length (repD xs) ∧ Bd (preL F G j).length xs ∧ Kept (fun k => k = we.heap.size) W0 wr) (fun i _ => 2 - (intOf i).toNat)
        case atStart => exact ⟨0, by omega, rfl, [], rfl, HOWN.out, (show Bd _ [] from ⟨fun p hp => absurd hp (by simp), by simp⟩), Kept.refl _ _⟩
        case round =>
          obtain ⟨j, hj, rfl, xs, hxs, hmap, hbd, hkp⟩ := hrel
          have HMAP := Lib.hid hmap
          have HXS := Lib.hid hxs
          have HBD := Lib.hid hbd
          clear hmap hxs hbd
          by_cases hj2 : j < 2
          · obtain ⟨cur, oc, cc, hcc, hpart, hpre⟩ := HCUR.out j hj2
            have hcx : wr.cell? ⟨we.heap.size + 1, j, none⟩ = some (.slice oc cur.length cc) := (Kept.cellK hkp (p := ⟨we.heap.size + 1, j, none⟩) hzW (by show ¬ we.heap.size + 1 = we.heap.size; omega)).trans hcc
            have HPT := Lib.hid hpart
            have HPRE := Lib.hid hpre
            have hcl := hpart.len
            clear hpart hpre hcc
            have hdj : decide ((j : Int) < 2) = true := by simp; omega
            have HDJ := Lib.hid hdj
            clear hdj
            go_wp2_with fail
            simp only [HDJ.out]
            go_loopw [34, 169] (fun v34 i wi => ∃ q : Nat, q ≤ cur.length ∧ i = .int .i64 q ∧ ∃ la ys, v34 = .int .i64 la ∧ (∀ (k : Nat) (hk : k < cur.length), q ≤ k → la < cur[k].1) ∧ ys = (cur.take q).foldl stepR xs ∧ wi.ownsMap Try.prog 3 RR we.heap.size ys.length (repD ys) ∧ Bd ((preL F G j).length + q) ys ∧ Kept (fun k => k = we.heap.size) W0 wi) (fun _ i _ => cur.length - (intOf i).toNat)
            case atStart => exact ⟨0, Nat.zero_le _, rfl, -1, xs, rfl, fun k hk _ => by have := (HPT.out.fact _ (List.getElem_mem hk)).1.1; omega, rfl, HMAP.out, by simpa using HBD.out, hkp⟩
            case round =>
              obtain ⟨q, hq, rfl, la, ys, rfl, hla, hys, hmap, hbd, hkq⟩ := hrel
              have HYS := Lib.hid hys
              have HLA := Lib.hid hla
              have HBQ := Lib.hid hbd
              have HMQ := Lib.hid hmap
              clear hys hla hbd hmap
              have hzq := hkq.size
              by_cases hqlt : q < cur.length
              · obtain ⟨g, rfl, hg, y0, y1, y2, y3⟩ := HPT.out.cells q hqlt
                have hlt2 := HLA.out q hqlt (Nat.le_refl _)
                obtain ⟨⟨e0, e1⟩, hld, s0, s1⟩ := HPT.out.fact _ (List.getElem_mem hqlt)
                have hnx := sorted_next HPT.out.sorted hqlt
                have hts := take_step cur xs q hqlt
                rw [← HYS.out] at hts
                have hkc : ∀ o, wr.cell? ⟨g, o, none⟩ = W0.cell? ⟨g, o, none⟩ := fun o => Kept.cellK hkq (p := ⟨g, o, none⟩) (by show g < _; omega) (by show ¬ g = _; omega)
                have z0 := (hkc _).trans y0
                have z1 := (hkc _).trans y1
                have z2 := (hkc _).trans y2
                have z3 := (hkc _).trans y3
                obtain ⟨⟨zi, zb, zf, zs⟩, hz⟩ : ∃ z, z = cur[q] := ⟨_, rfl⟩
                rw [← hz] at z0 z1 z2 z3 hlt2 e0 e1 hld s0 s1 hnx hts
                dsimp only at z0 z1 z2 z3 hlt2 e0 e1 hld s0 s1 hnx
                have HTS := Lib.hid hts
                have HNX := Lib.hid hnx
                have hpl := preL_len (G := G) HPF.out.len hj2
                have hwf := wf_id ⟨e0, e1⟩
                have HKEY := Lib.hid (keyOf_int_mk under3 hwf)
                have hbs := bd_step (x := (zi, ⟨zb, zf, zs⟩)) HBQ.out s0 s1
                rw [← HTS.out] at hbs
                have HBS := Lib.hid hbs
                have hne : zb ≠ -1 ∨ (zb = -1 ∧ zf ≠ -1) ∨ (zb = -1 ∧ zf = -1 ∧ zs ≠ 0) := by unfold Loud at hld; dsimp only at hld; omega
                have hymax : ys.length < maxLen := by have := HBQ.out.2; unfold maxLen; omega
                clear hkc y0 y1 y2 y3 hz hts hnx hld hbs
                go_upto_region 31 with (fail)
                go_cut [182] (fun s182 wx => s182 = .bool false ∧ Blk wx wr.heap.size #[.int .i64 zi, .int .i64 zb, .int .i64 zf, .int .i64 zs] 45 ∧ wx.ownsMap Try.prog 3 RR we.heap.size ys.length (repD ys) ∧ Kept (fun k => k = we.heap.size) W0 wx)
                case first =>
                  rcases hne with h | ⟨rfl, h⟩ | ⟨rfl, rfl, h⟩
                  all_goals
                    go_wp2
                    go_meet
                    exact ⟨by first | rfl | (simp; omega), Blk.new wr _ 45, HMQ.out.alloc _, hkq.alloc _⟩
                case rest =>
                  obtain ⟨rfl, hblk, hmq, hkw⟩ := hcut
                  have hzr := hblk.lt
                  have hzw0 := hkw.size
                  have hmbw := hmq.lt
                  obtain ⟨a0, a1, a2, a3, _⟩ : wc.cell? ⟨wr.heap.size, 0, none⟩ = some (.int .i64 zi) ∧ wc.cell? ⟨wr.heap.size, 1, none⟩ = some (.int .i64 zb) ∧ wc.cell? ⟨wr.heap.size, 2, none⟩ = some (.int .i64 zf) ∧ wc.cell? ⟨wr.heap.size, 3, none⟩ = some (.int .i64 zs) ∧ True :=
                    ⟨by rw [hblk.cell]; rfl, by rw [hblk.cell]; rfl, by rw [hblk.cell]; rfl, by rw [hblk.cell]; rfl, trivial⟩
                  have HBK := Lib.hid hblk
                  have HMW := Lib.hid hmq
                  have hca : ∀ O, (wc.alloc O).cell? ⟨wr.heap.size, 0, none⟩ = some (.int .i64 zi) ∧ (wc.alloc O).cell? ⟨wr.heap.size, 1, none⟩ = some (.int .i64 zb) ∧ (wc.alloc O).cell? ⟨wr.heap.size, 2, none⟩ = some (.int .i64 zf) ∧ (wc.alloc O).cell? ⟨wr.heap.size, 3, none⟩ = some (.int .i64 zs) := fun O =>
                    ⟨by rw [(HBK.out.alloc O).cell]; rfl, by rw [(HBK.out.alloc O).cell]; rfl, by rw [(HBK.out.alloc O).cell]; rfl, by rw [(HBK.out.alloc O).cell]; rfl⟩
                  have hc0 := fun O => (hca O).1
                  have hc1 := fun O => (hca O).2.1
                  have hc2 := fun O => (hca O).2.2.1
                  have hc3 := fun O => (hca O).2.2.2
                  clear hblk hmq hca hne
                  cases hlk : lookR ys zi with
                  | some r0 =>
                    obtain ⟨b0, b1⟩ := HBQ.out.1 _ (look_mem hlk)
                    have hl := rlook_some HMW.out hwf hlk
                    simp only [aggR] at hl
                    have hst : putR ys zi (addR r0 ⟨zb, zf, zs⟩) = stepR ys (zi, ⟨zb, zf, zs⟩) := by unfold stepR; rw [hlk]; rfl
                    have HST := Lib.hid hst
                    have hmo := fun O => HMW.out.alloc O
                    have HMO := Lib.hid hmo
                    simp only at b0 b1
                    clear hlk hst hmo
                    go_wp2_with (first | (at_mapUpdate; refine wpList_mapUpdate_in _ rfl _ _ _ 40 rfl 3 43 keyed3 under40 RR we.heap.size ys.length (repD ys) rfl (HMO.out _) hymax _ _ (.int .i64 zi) rfl rfl HKEY.out (encR (addR r0 ⟨zb, zf, zs⟩)) [] rfl ?_; intro w9 hown9 hturn9))
                    have k9 := Kept.of_grown hturn9.grown
                    rw [repD_put, HST.out] at hown9
                    have hx9 := own_exactR hown9
                    have hk9 : Kept (fun k => k = we.heap.size) W0 w9 := (hkw.alloc _).trans' k9 (fun i _ e => e)
                    clear hturn9 k9 hown9
                    go_wp2_with fail
                    go_roundw
                    case rel => exact ⟨q + 1, by omega, by go_num, zi, stepR ys (zi, ⟨zb, zf, zs⟩), rfl, HNX.out, HTS.out.symm, hx9, by rw [← HTS.out]; exact HBS.out, hk9⟩
                    case measure => simp [intOf]; omega
                  | none =>
                    have hl := rlook_none HMW.out hwf hlk
                    have hst : putR ys zi ⟨max (-1) zb, max (-1) zf, zs⟩ = stepR ys (zi, ⟨zb, zf, zs⟩) := by unfold stepR; rw [hlk]; simp [addR, dflt]
                    have HST := Lib.hid hst
                    have hmo := fun O => HMW.out.alloc O
                    have HMO := Lib.hid hmo
                    clear hlk hst hmo
                    go_wp2_with (first | (at_mapUpdate; refine wpList_mapUpdate_in _ rfl _ _ _ 40 rfl 3 43 keyed3 under40 RR we.heap.size ys.length (repD ys) rfl (HMO.out _) hymax _ _ (.int .i64 zi) rfl rfl HKEY.out (encR ⟨max (-1) zb, max (-1) zf, zs⟩) [] rfl ?_; intro w9 hown9 hturn9))
                    have k9 := Kept.of_grown hturn9.grown
                    rw [repD_put, HST.out] at hown9
                    have hx9 := own_exactR hown9
                    have hk9 : Kept (fun k => k = we.heap.size) W0 w9 := (hkw.alloc _).trans' k9 (fun i _ e => e)
                    clear hturn9 k9 hown9
                    go_wp2_with fail
                    go_roundw
                    case rel => exact ⟨q + 1, by omega, by go_num, zi, stepR ys (zi, ⟨zb, zf, zs⟩), rfl, HNX.out, HTS.out.symm, hx9, by rw [← HTS.out]; exact HBS.out, hk9⟩
                    case measure => simp [intOf]; omega
              · obtain rfl : q = cur.length := by omega
                rw [List.take_length] at HYS
                go_wp2_with fail
                go_roundw
                case rel => exact ⟨j + 1, by omega, by go_num, ys, by rw [HPRE.out, List.foldl_append, ← HXS.out]; exact HYS.out, HMQ.out, by rw [HPRE.out, List.length_append]; exact HBQ.out, hkq⟩
                case measure => simp [intOf]; omega
          · obtain rfl : j = 2 := by omega
            have hxb : xs = B := by rw [HXS.out]; exact HSUM.out
            subst hxb
            have hlb := HPB.out.len
            have hlen := fun ty => HMAP.out.len under40 ty
            rw [repD_size] at hlen
            have hzq := hkp.size
            go_wp2_with fail
            go_loopw [226] (fun i wi => ∃ q : Nat, q ≤ xs.length ∧ i = .int .i64 q ∧ Kept (fun k => k = we.heap.size) W0 wi ∧ wi.ownsMap Try.prog 3 RR we.heap.size xs.length (repD xs)) (fun i _ => xs.length - (intOf i).toNat)
            case atStart => exact ⟨0, Nat.zero_le _, rfl, hkp, HMAP.out⟩
            case round =>
              obtain ⟨q, hq, rfl, hkq, hmq⟩ := hrel
              have HMQ := Lib.hid hmq
              clear hmq
              by_cases hqlt : q < xs.length
              · obtain ⟨g, rfl, hg, y0, y1, y2, y3⟩ := HPB.out.cells q hqlt
                have hkc : ∀ o, wr.cell? ⟨g, o, none⟩ = W0.cell? ⟨g, o, none⟩ := fun o => Kept.cellK hkq (p := ⟨g, o, none⟩) (by show g < _; omega) (by show ¬ g = _; omega)
                have z0 := (hkc _).trans y0
                have z1 := (hkc _).trans y1
                have z2 := (hkc _).trans y2
                have z3 := (hkc _).trans y3
                have hla := look_at HPB.out.sorted hqlt
                obtain ⟨⟨e0, e1⟩, -⟩ := HPB.out.fact _ (List.getElem_mem hqlt)
                obtain ⟨⟨zi, zb, zf, zs⟩, hz⟩ : ∃ z, z = xs[q] := ⟨_, rfl⟩
                rw [← hz] at z0 z1 z2 z3 hla e0 e1
                dsimp only at z0 z1 z2 z3 hla e0 e1
                have hl := fun O => rlook_one (HMQ.out.alloc O) (wf_id ⟨e0, e1⟩) hla
                simp only [aggR] at hl
                clear hkc y0 y1 y2 y3 hz hla
                go_wp2_with fail
                go_roundw
                case rel => exact ⟨q + 1, by omega, by go_num, hkq.alloc _, HMQ.out.alloc _⟩
                case measure => simp [intOf]; omega
              · obtain rfl : q = xs.length := by omega
                go_wp2
                go_ret
                exact ⟨rfl, hb1.trans ((hbre.trans (hbW.mono hse)).trans (hkq.belowOf (by have := hbW.size; omega) (fun i hi e => by omega)) |>.mono hz1)⟩
end Go.Proofs.Ytokgfmibhkkiaaa
