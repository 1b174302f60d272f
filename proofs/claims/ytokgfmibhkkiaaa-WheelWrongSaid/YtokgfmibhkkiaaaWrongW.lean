/- WheelWrong, walked -/
import Derived.Test.YtokgfmibhkkiaaaIn
import Derived.Test.YtokgfmibhkkiaaaAlike
namespace Go.Proofs.Ytokgfmibhkkiaaa
open Go.RowKit Wh Mem Go.Maps

/-- Pick: a number below n -/
theorem pick_any (x n : Int) (hn0 : 0 < n) (hn1 : n ≤ 281474976710656) (w : World) :
    Calls Try.prog 34 #[.int .i64 x, .int .i64 n] w fun e w' => ∃ r : Int, e = .returned (.int .i64 r) ∧ 0 ≤ r ∧ r < n ∧ w = w' := by
  have h1 : x.tmod n < n := Int.tmod_lt_of_pos x hn0
  have h2 : -n < x.tmod n := by
    have := Int.tmod_lt_of_pos (-x) hn0
    rw [Int.neg_tmod] at this
    omega
  obtain ⟨q, hq⟩ : ∃ q, q = x.tmod n := ⟨_, rfl⟩
  rw [← hq] at h1 h2
  have HQ := Lib.hid hq
  clear hq
  go_enter Try.func34, Try.ntmps34
  go_wp2
  all_goals
    have hq := HQ.out
    go_ret
    first
      | exact ⟨_, rfl, by omega, by omega, rfl⟩
      | exact ⟨_, rfl, by unfold wrap64; omega, by unfold wrap64; omega, rfl⟩

/-- a member dropped, whoever is there -/
theorem drop_any {w : World} {pb mb : Nat} {now : Int} {l : List Mb} (h : WheelAt w pb mb now l) {id : Int} (hw : (Lit.int .i64 id).wf = true) :
    Calls Try.prog 32 #[.pointer (some ⟨pb, 0, none⟩), .int .i64 id] w fun e w' => (∃ x y z, e = .returned (.tuple #[.agg #[.int .u8 x, .int .i64 y], .int .i64 z])) ∧ WheelAt w' pb mb now (dropM l id) ∧ Kept (fun k => k = mb) w w' := by
  cases hf : findM l id with
  | none =>
    rw [drop_none_eq hf]
    exact (drop_none h hw hf).mono (by rintro e w' ⟨rfl, hb⟩; exact ⟨⟨_, _, _, rfl⟩, h.below hb, Kept.of_below hb _⟩)
  | some m => exact (drop_some h hw hf).mono (by rintro e w' ⟨rfl, h1, h2⟩; exact ⟨⟨_, _, _, rfl⟩, h1, h2⟩)
theorem drop_ins {m : Mb} {l : List Mb} (h : findM l m.id = none) : dropM (ins m l) m.id = l := by
  have hn := findM_none h
  clear h
  induction l with
  | nil => simp [ins, dropM]
  | cons y r ih =>
    have h1 := hn y (by simp)
    have h2 := drop_none_eq (l := y :: r) (id := m.id) (by unfold findM; rw [List.find?_eq_none]; intro x hx; simpa using hn x hx)
    unfold ins
    split
    · unfold dropM at *; rw [List.filter_cons]; simpa using h2
    · have := ih (fun x hx => hn x (List.mem_cons_of_mem _ hx))
      unfold dropM at *; rw [List.filter_cons]; simp [h1, this]
theorem idsN_one {l : List Mb} {N : Nat} (h : idsN l N) : findM l 1 = none := by
  unfold findM
  rw [List.find?_eq_none]
  intro m hm
  have : m.id ∈ l.map (·.id) := List.mem_map_of_mem hm
  rw [h] at this
  obtain ⟨i, -, e⟩ := List.mem_map.1 this
  simp; omega

set_option maxHeartbeats 4000000 in
set_option maxRecDepth 100000 in
theorem wrong_any {w : World} {base : Nat} {v : Value} {S : List Sm} (hS : SmallsAt w base v S) (hbase : base ≤ w.heap.size) (now : Int) (hn : U64 now) (n : Int) (hn0 : -9223372036854775808 ≤ n) (hn1 : n ≤ 9223372036854775807) (y o t : Int) :
    Calls Try.prog 9 #[.int .u64 now, v, .int .i64 n, .agg #[.int .i64 y, .int .i64 o, .int .i64 t]] w fun e w' => e = .returned (.bool true) ∧ Below w.heap.size w w' := by
  have hb0 : Below w.heap.size w (w.alloc (.cells #[.int .i64 y, .int .i64 o, .int .i64 t] 52)) := (Below.refl _ _).alloc (Nat.le_refl _) _
  have HBX := Lib.hid (Blk.new w #[.int .i64 y, .int .i64 o, .int .i64 t] 52)
  have HA := Lib.hid (awake_any (w.alloc (.cells #[.int .i64 y, .int .i64 o, .int .i64 t] 52)))
  have HS := Lib.hid hS
  have HN := Lib.hid hn
  clear hS hn
  go_enter Try.func9, Try.ntmps9
  go_wp2_with fail
  refine (HA.out).mono ?_
  rintro e w1 ⟨rfl, hba⟩
  have HBX1 := Lib.hid (HBX.out.below hba HBX.out.lt)
  have hb1 : Below w.heap.size w w1 := hb0.trans (hba.mono (by simp))
  have hz1 := hb1.size
  have HS1 := Lib.hid (HS.out.below hb1 hbase)
  have HM := Lib.hid (made_any HS1.out (by omega) now HN.out)
  have hlx := HBX1.out.lt
  clear hba hb0 HBX
  go_wp2_with fail
  refine (HM.out).mono ?_
  rintro e w2 ⟨p1, m1, l1, rfl, hw2, hcore1, hfoot1, hb2⟩
  have hz2 := hb2.size
  have hs2 : Below w.heap.size w w2 := hb1.trans (hb2.mono hz1)
  have HW2 := Lib.hid hw2
  have HS2 := Lib.hid (HS1.out.below hb2 (by omega))
  have HM2 := Lib.hid (made_any HS2.out (by omega) now HN.out)
  have HBX2 := Lib.hid (HBX1.out.below hb2 hlx)
  clear hw2 HM
  go_wp2_with fail
  refine (HM2.out).mono ?_
  rintro e w3 ⟨p2, m2, l2, rfl, hw3, hcore2, hfoot2, hb3⟩
  obtain ⟨N, hN⟩ : ∃ N, N = min S.length 10 := ⟨_, rfl⟩
  rw [← hN] at hcore1 hcore2
  simp only [← hN]
  have hN2 : N ≤ 10 := by omega
  have hlen1 := core_len hcore1 (by omega)
  have hlen2 := core_len hcore2 (by omega)
  have HI2 := Lib.hid (idsN_of hcore2 (by omega))
  have HCC := Lib.hid (hcore1.trans hcore2.symm)
  have HWV := Lib.hid (HW2.out.below hb3)
  have HWW := Lib.hid hw3
  have HF1 := Lib.hid hfoot1
  have HF2 := Lib.hid hfoot2
  have HBX3 := Lib.hid (HBX2.out.below hb3 HBX2.out.lt)
  have hz3 := hb3.size
  have hs3 : Below w.heap.size w w3 := hs2.trans (hb3.mono (by omega))
  have ht1 := Int.emod_nonneg now (b := 17592186044416) (by omega)
  have ht2 := Int.emod_lt_of_pos now (b := 17592186044416) (by omega)
  clear hw3 hcore1 hcore2 hfoot1 hfoot2 hN HM2 HBX1 HBX2
  obtain ⟨t0, ht0⟩ : ∃ t0, t0 = now % 17592186044416 := ⟨_, rfl⟩
  rw [← ht0] at ht1 ht2 HWV HWW
  clear ht0
  have hmin : min n (-1) < 0 := by omega
  have hmax : 4294967295 < max n 4294967296 := by omega
  obtain ⟨a1, ha1⟩ : ∃ a1, a1 = min n (-1) := ⟨_, rfl⟩
  obtain ⟨a2, ha2⟩ : ∃ a2, a2 = max n 4294967296 := ⟨_, rfl⟩
  rw [← ha1] at hmin
  rw [← ha2] at hmax
  have HA1 := Lib.hid ha1.symm
  have HA2 := Lib.hid ha2.symm
  have HR1 := Lib.hid (fun W (hW : Below w3.heap.size w3 W) => add_range (HWW.out.below hW) a1 5 0 1 (.inl hmin))
  have HR2 := Lib.hid (fun W (hW : Below w3.heap.size w3 W) => add_range (HWW.out.below hW) a2 5 0 1 (.inr hmax))
  clear ha1 ha2
  go_wp2_with fail
  simp only [HA1.out, HA2.out]
  have B15 : Blk ((w3.alloc (.cells #[.int .i64 5, .int .i64 0, .int .i64 1] 52)).alloc (.cells #[.int .i64 a1, .int .i64 a2] 3)) w3.heap.size #[.int .i64 5, .int .i64 0, .int .i64 1] 52 := (Blk.new w3 _ 52).alloc _
  have B62 : Blk ((w3.alloc (.cells #[.int .i64 5, .int .i64 0, .int .i64 1] 52)).alloc (.cells #[.int .i64 a1, .int .i64 a2] 3)) (w3.heap.size + 1) #[.int .i64 a1, .int .i64 a2] 3 := Blk.new' (w := w3.alloc _) _ 3 (by simp)
  have hb8 : Below w3.heap.size w3 ((w3.alloc (.cells #[.int .i64 5, .int .i64 0, .int .i64 1] 52)).alloc (.cells #[.int .i64 a1, .int .i64 a2] 3)) := ((Below.refl _ _).alloc (Nat.le_refl _) _).alloc (by simp) _
  generalize ((w3.alloc (.cells #[.int .i64 5, .int .i64 0, .int .i64 1] 52)).alloc (.cells #[.int .i64 a1, .int .i64 a2] 3)) = W8 at B15 B62 hb8 ⊢
  have HB15 := Lib.hid B15
  have HB62 := Lib.hid B62
  have hz8 := hb8.size
  clear B15 B62
  go_loopw [64] (fun i wr => ∃ k : Nat, k ≤ 2 ∧ i = .int .i64 k ∧ Below W8.heap.size W8 wr) (fun i _ => 2 - (intOf i).toNat)
  case atStart => exact ⟨0, by omega, rfl, Below.refl _ _⟩
  case round =>
    obtain ⟨k, hk, rfl, hbr⟩ := hrel
    have hbr3 : Below w3.heap.size w3 wr := hb8.trans (hbr.mono hz8)
    obtain ⟨g0, g1, g2, _⟩ := (HB15.out.below hbr HB15.out.lt).three
    obtain ⟨e0, e1, _⟩ := (HB62.out.below hbr HB62.out.lt).two
    have hsr := hbr.size
    obtain rfl | rfl | rfl : k = 0 ∨ k = 1 ∨ k = 2 := by omega
    · go_wp2_with (first | (go_at_call 18; refine (HR1.out _ hbr3).mono ?_; rintro e w9 ⟨rfl, hb9⟩))
      go_roundw
      case rel => exact ⟨1, by omega, by go_num, hbr.trans (hb9.mono hsr)⟩
      case measure => simp [intOf]
    · go_wp2_with (first | (go_at_call 18; refine (HR2.out _ hbr3).mono ?_; rintro e w9 ⟨rfl, hb9⟩))
      go_roundw
      case rel => exact ⟨2, by omega, by go_num, hbr.trans (hb9.mono hsr)⟩
      case measure => simp [intOf]
    · go_upto_region 14 with (fail)
      have hwf1 : (Lit.int .i64 1).wf = true := wf_id ⟨by omega, by omega⟩
      have HWF := Lib.hid hwf1
      have hft2 := HW2.out
      have hm2 : w2.heap.size ≤ m2 := HF2.out _ (.inr (.inl rfl))
      have HWr := Lib.hid (HWW.out.below hbr3)
      have HVr := Lib.hid (HWV.out.below hbr3)
      have hBr := HBX3.out.below hbr3 HBX3.out.lt
      have HBr := Lib.hid hBr
      have hs3r : Below w.heap.size w wr := hs3.trans (hbr3.mono (by omega))
      have hTick : Tick t0 := ⟨ht1, by omega⟩
      have HTK := Lib.hid hTick
      clear hwf1 hft2 hBr hTick g0 g1 g2 e0 e1
      go_cut [18] (fun s18 wx => ∃ (e : Int) (l' : List Mb), s18 = .int .i64 e ∧ WheelAt wx p2 m2 t0 l' ∧ dropM l' 1 = l2 ∧ Kept (fun k => k = m2) wr wx ∧ (e = 0 ∧ Right ⟨y, o, t⟩ ∨ e = 2 ∧ ¬ Right ⟨y, o, t⟩))
      case first =>
        obtain ⟨b0, b1, b2, _⟩ := HBr.out.three
        have hn1 := idsN_one HI2.out
        have HN1 := Lib.hid hn1
        clear hn1
        by_cases hr : Right ⟨y, o, t⟩
        · have HAD := Lib.hid (add_ok HWr.out HTK.out 1 y o t (by omega) (by omega) hr HN1.out (by omega))
          have HRR := Lib.hid hr
          clear hr
          go_wp2_with (first | (go_at_call 18; refine (HAD.out).mono ?_; rintro e w9 ⟨rfl, nb, hnb, hw9, hk9⟩))
          go_meet
          exact ⟨0, _, rfl, hw9, drop_ins (m := ⟨1, nb, ⟨y, o, t⟩, ⟨0, 0⟩⟩) HN1.out, hk9, .inl ⟨rfl, HRR.out⟩⟩
        · have HAD := Lib.hid (add_wrong HWr.out 1 y o t (by omega) (by omega) hr)
          have HRR := Lib.hid hr
          clear hr
          go_wp2_with (first | (go_at_call 18; refine (HAD.out).mono ?_; rintro e w9 ⟨rfl, hb9⟩))
          go_meet
          exact ⟨2, l2, rfl, HWr.out.below hb9, drop_none_eq HN1.out, Kept.of_below hb9 _, .inr ⟨rfl, HRR.out⟩⟩
      case rest =>
        obtain ⟨e, l', rfl, hw4, hd4, hk4, he⟩ := hcut
        have HW4 := Lib.hid hw4
        have HD4 := Lib.hid hd4
        have HE := Lib.hid he
        have hsr := hs3r.size
        have hwlt := HBX3.out.lt
        have HB4 := Lib.hid (HBr.out.kept hk4 (by omega))
        have HV4 := Lib.hid (HVr.out.kept hk4 (fun i hi e => by have := HW2.out.lt hi; omega))
        have hs4 : Below w.heap.size w wc := hs3r.trans (hk4.belowOf hsr (fun i hi e => by omega))
        clear hw4 hd4 he hk4
        go_upto_region 15 with (fail)
        go_cut [89] (fun s89 wx => s89 = .bool false ∧ Below wc.heap.size wc wx)
        case first =>
          obtain ⟨b0, b1, b2, _⟩ := HB4.out.three
          rcases HE.out with ⟨rfl, hr⟩ | ⟨rfl, hr⟩
          · have HRT := Lib.hid (right_yes _ _ _ hr wc)
            clear hr
            go_wp2_with (first | (go_at_call 33; refine (HRT.out).mono ?_; rintro e w9 ⟨rfl, hb9⟩))
            go_meet
            exact ⟨rfl, hb9⟩
          · have HRT := Lib.hid (right_no _ _ _ hr wc)
            clear hr
            go_wp2_with (first | (go_at_call 33; refine (HRT.out).mono ?_; rintro e w9 ⟨rfl, hb9⟩))
            go_meet
            exact ⟨rfl, hb9⟩
        case rest =>
          obtain ⟨rfl, hb5⟩ := hcut
          have HW5 := Lib.hid (HW4.out.below hb5)
          have HV5 := Lib.hid (HV4.out.below hb5)
          have hs5 : Below w.heap.size w wc := hs4.trans (hb5.mono hs4.size)
          have hsz5 := hs5.size
          have hsz4 := hs4.size
          have hszb := hb5.size
          have HDA := Lib.hid (drop_any HW5.out HWF.out)
          go_wp2_with fail
          refine (HDA.out).mono ?_
          rintro e wd ⟨⟨x1, x2, x3, rfl⟩, hwd, hkd⟩
          rw [HD4.out] at hwd
          have HWD := Lib.hid hwd
          have HVD := Lib.hid (HV5.out.kept hkd (fun i hi e => by have := HW2.out.lt hi; omega))
          have hsd : Below w.heap.size w wd := hs5.trans (hkd.belowOf hsz5 (fun i hi e => by omega))
          have HN1 := Lib.hid (idsN_one HI2.out)
          have HDN := Lib.hid (drop_none HWD.out HWF.out HN1.out)
          have HANS := Lib.hid (fun W (hW : Below wd.heap.size wd W) => answer_none (HWD.out.below hW) HWF.out HN1.out)
          have HHAN := Lib.hid (fun W (hW : Below wd.heap.size wd W) => handle_none (HWD.out.below hW) HWF.out HN1.out)
          have hmx2 : 281474976710656 < max n 281474976710657 := by omega
          obtain ⟨a3, ha3⟩ : ∃ a3, a3 = max n 281474976710657 := ⟨_, rfl⟩
          rw [← ha3] at hmx2
          have HA3 := Lib.hid ha3.symm
          have HAD1 := Lib.hid (fun W (hW : Below wd.heap.size wd W) => advW_arg (HWD.out.below hW) a1 (.inl hmin))
          have HAD2 := Lib.hid (fun W (hW : Below wd.heap.size wd W) => advW_arg (HWD.out.below hW) a3 (.inr hmx2))
          clear hwd hkd hb5 HW4 HV4 HB4 HBr HVr HWr ha3
          go_wp2_with fail
          refine (HDN.out).mono ?_
          rintro e we ⟨rfl, hbe⟩
          have hse := hbe.size
          have hbE : Below wd.heap.size wd (we.alloc (.cells #[.int .u8 0, .int .i64 0] 59)) := hbe.alloc hse _
          go_upto_region 19 with (fail)
          generalize (we.alloc (.cells #[.int .u8 0, .int .i64 0] 59)) = WE at hbE ⊢
          clear hbe hse
          go_wp2_with fail
          refine (HANS.out _ hbE).mono ?_
          rintro e w9 ⟨rfl, rfl⟩
          go_wp2_with fail
          refine (HHAN.out _ hbE).mono ?_
          rintro e w9 ⟨rfl, rfl⟩
          go_wp2_with fail
          simp only [HA1.out]
          refine (HAD1.out _ hbE).mono ?_
          rintro e w9 ⟨rfl, rfl⟩
          go_wp2_with fail
          simp only [HA3.out]
          refine (HAD2.out _ hbE).mono ?_
          rintro e w9 ⟨rfl, rfl⟩
          have HNOW := Lib.hid (now_any (HWD.out.below hbE))
          go_upto_if 141 with (first | (go_at_call 13; refine (HNOW.out).mono ?_; rintro e w9 ⟨rfl, rfl⟩))
          go_cut [] (fun wx => wx = WE)
          case first =>
            by_cases hpos : 0 < t0
            · have HPK := Lib.hid (pick_any n t0 hpos (by omega) WE)
              have HBK := Lib.hid (fun r (h0 : 0 ≤ r) (h1 : r < t0) => advW_back (HWD.out.below hbE) r h0 (by omega) h1)
              go_wp2_with (first | (go_at_call 13; refine (HNOW.out).mono ?_; rintro e w9 ⟨rfl, rfl⟩))
              refine (HPK.out).mono ?_
              rintro e w9 ⟨r, rfl, hr0, hr1, rfl⟩
              go_wp2_with fail
              refine (HBK.out r hr0 hr1).mono ?_
              rintro e w9 ⟨rfl, rfl⟩
              go_wp2_with fail
              go_meet
              rfl
            · go_wp2_with fail
              go_meet
              rfl
          case rest =>
            subst hcut
            have HNW1 := Lib.hid (fun W => new_no a1 (.inl hmin) W)
            have HNW2 := Lib.hid (fun W => new_no a3 (.inr hmx2) W)
            go_wp2_with fail
            simp only [HA1.out, HA3.out]
            have B7 : Blk (wc.alloc (.cells #[.int .i64 a1, .int .i64 a3] 3)) wc.heap.size #[.int .i64 a1, .int .i64 a3] 3 := Blk.new wc _ 3
            have hbF : Below wd.heap.size wd (wc.alloc (.cells #[.int .i64 a1, .int .i64 a3] 3)) := hbE.alloc hbE.size _
            generalize (wc.alloc (.cells #[.int .i64 a1, .int .i64 a3] 3)) = WF at B7 hbF ⊢
            obtain ⟨q0, q1, _⟩ := B7.two
            clear B7
            go_loopw [159] (fun i wr => ∃ k : Nat, k ≤ 2 ∧ i = .int .i64 k ∧ wr = WF) (fun i _ => 2 - (intOf i).toNat)
            case atStart => exact ⟨0, by omega, rfl, rfl⟩
            case round =>
              obtain ⟨k, hk, rfl, rfl⟩ := hrel
              obtain rfl | rfl | rfl : k = 0 ∨ k = 1 ∨ k = 2 := by omega
              · go_wp2_with (first | (go_at_call 17; refine (HNW1.out _).mono ?_; rintro e w9 ⟨rfl, rfl⟩))
                go_roundw
                case rel => exact ⟨1, by omega, by go_num, trivial⟩
                case measure => simp [intOf]
              · go_wp2_with (first | (go_at_call 17; refine (HNW2.out _).mono ?_; rintro e w9 ⟨rfl, rfl⟩))
                go_roundw
                case rel => exact ⟨2, by omega, by go_num, trivial⟩
                case measure => simp [intOf]
              · have HALK := Lib.hid (alike_yes (HVD.out.below hbF) (HWD.out.below hbF) HCC.out (by omega))
                have hln := fun W (hW : Below wd.heap.size wd W) => len_any (HWD.out.below hW)
                rw [hlen2] at hln
                have HLN := Lib.hid hln
                clear hln
                go_wp2_with fail
                refine (HALK.out).mono ?_
                rintro e wg ⟨rfl, hbg⟩
                have hbG := hbF.trans (hbg.mono hbF.size)
                go_wp2_with fail
                refine (HLN.out _ hbG).mono ?_
                rintro e w9 ⟨rfl, rfl⟩
                go_wp2_with fail
                go_ret
                exact ⟨rfl, hsd.trans (hbG.mono hsd.size)⟩
end Go.Proofs.Ytokgfmibhkkiaaa
