/- The law's acts: whatever is done with a wheel, the reference says the same. -/
import Derived.Test.YtokgfmibhkkiaaaActsS
import Derived.Test.YtokgfmibhkkiaaaIn
import Derived.Deep.CutBlock
namespace Go.Proofs.Ytokgfmibhkkiaaa
open Go.RowKit Wh Tw Mem Grow Flat

theorem ActsAt.below {w w' : World} {base B : Nat} {v : Value} {T : List Ac} (h : ActsAt w base v T) (hb : Below B w w') (hB : base ≤ B) : ActsAt w' base v T := by
  rcases h with h | ⟨b, off, cap, e, h1, h2, h3, hc⟩
  · exact .inl h
  · refine .inr ⟨b, off, cap, e, h1, h2, h3, fun i hi => ?_⟩
    have key : ∀ o, w'.cell? ⟨b, o, none⟩ = w.cell? ⟨b, o, none⟩ := fun o => hb.cell (p := ⟨b, o, none⟩) (by show b < B; omega)
    simp only [key]
    exact hc i hi

theorem st_start {wa w1 : World} {now : Int} (hw : WheelAt w1 (wa.heap.size + 1) wa.heap.size now []) (hb : Below wa.heap.size wa w1) (ht : Tick now) : St wa (w1.alloc (.cells #[.int .i64 now, .slice none 0 0] 92)) (wa.heap.size + 1) wa.heap.size w1.heap.size now [] none 0 0 := by
  have hbx : Below w1.heap.size w1 (w1.alloc (.cells #[.int .i64 now, .slice none 0 0] 92)) := (Below.refl _ _).alloc (Nat.le_refl _) _
  refine ⟨hw.below hbx, Blk.new _ _ _, World.ownsRow_nil _ _ _ _, fun m hm => (by cases hm), Nat.le_refl _, ht, hb.trans (hbx.mono hb.size), fun b hf => ?_, hb.size⟩
  rcases hf with rfl | rfl | ⟨m, hm, -⟩
  · omega
  · exact Nat.le_refl _
  · cases hm

set_option maxHeartbeats 16000000 in
set_option maxRecDepth 100000 in
theorem acts_any {w : World} {base : Nat} {v : Value} {T : List Ac} (hT : ActsAt w base v T) (hbase : base ≤ w.heap.size) (now : Int) :
    Calls Try.prog 24 #[.int .i64 now, v] w fun e w' => e = .returned (.bool true) ∧ Below w.heap.size w w' := by
  have HFEW := Lib.hid (few_any hT hbase now)
  have HT := Lib.hid hT
  obtain ⟨ov, nv, cv, rfl⟩ : ∃ ov nv cv, v = .slice ov nv cv := by
    rcases hT with ⟨-, oa, cap, rfl⟩ | ⟨b, off, cap, rfl, -⟩
    · exact ⟨_, _, _, rfl⟩
    · exact ⟨_, _, _, rfl⟩
  clear hT
  go_enter Try.func24, Try.ntmps24
  go_wp2_with fail
  refine HFEW.out.mono ?_
  rintro e wa ⟨bf, rfl, hfew, hba⟩
  cases bf with
  | false =>
    go_wp2
    go_ret
    exact ⟨rfl, hba⟩
  | true =>
    have HFW := Lib.hid (hfew rfl)
    clear hfew
    by_cases ht : Tick now
    · have HTI := Lib.hid ht
      have hnew := Lib.hid (new_ok now ht wa)
      have htk := fun W => rtick_any now W
      rw [decide_eq_true ht] at htk
      have HTK := Lib.hid htk
      clear ht htk
      go_wp2_with (first
        | (go_at_call 17; refine hnew.out.mono ?_; rintro e w1 ⟨rfl, hw1, hb1⟩)
        | (go_at_call 42; refine (HTK.out _).mono ?_; rintro e w' ⟨rfl, rfl⟩))
      have HS0 := Lib.hid (st_start hw1 hb1 HTI.out)
      have HTa := Lib.hid (HT.out.below hba hbase)
      have HBA := Lib.hid hba
      clear hw1 hb1 HTI hnew hba
      have hza := HBA.out.size
      generalize w1.heap.size = rb at HS0 ⊢
      generalize wa.heap.size + 1 = pb at HS0 ⊢
      generalize wa.heap.size = mb at HS0 ⊢
      rcases HTa.out with ⟨rfl, oa, cap, hv⟩ | ⟨b, off, cap, hv, hcap, hmax, hab, hcells⟩
      · simp only [Value.slice.injEq] at hv
        obtain ⟨rfl, rfl, rfl⟩ := hv
        obtain ⟨x0, x1, -, -⟩ := HS0.out.ref.two
        have TL := Lib.hid (tells_any HS0.out.wh HS0.out.row 7 (by decide) (Nat.zero_le _) HS0.out.sixty)
        go_wp2_with fail
        refine wp_loop_rounds 1 ?_
        rw [rounds_succ]
        go_wp2_with (first | (go_at_call 47; refine TL.out.mono ?_; rintro e w9 ⟨rfl, hb9⟩))
        go_ret
        exact ⟨rfl, HBA.out.trans ((HS0.out.same hb9).below.mono hza)⟩
      · simp only [Value.slice.injEq] at hv
        obtain ⟨rfl, rfl, rfl⟩ := hv
        have HC := Lib.hid hcells
        have hci : (T.length : Int) ≤ cv := by omega
        have hk60 : T.length ≤ 60 := HFW.out.2
        have hba : b < wa.heap.size := by omega
        clear hcells
        go_wp2_with fail
        go_loopw [59] (fun s59 wx => ∃ (k : Nat) (l : List Mb) (nw : Int) (ob : Option Addr) (cp : Nat), k ≤ T.length ∧ s59 = .int .i64 k ∧ St wa wx pb mb rb nw l ob cp k) (fun s59 _ => T.length - (intOf s59).toNat)
        case atStart => exact ⟨0, [], now, none, 0, Nat.zero_le _, rfl, HS0.out⟩
        case round =>
          obtain ⟨k, l, nw, ob, cp, hk, rfl, hst⟩ := hrel
          by_cases hlt : k < T.length
          · have hltI : (k : Int) < T.length := by omega
            obtain ⟨hok, c0, c1, c2, c3, c4, c5⟩ := HC.out k hlt
            have hfewt : Right T[k].plan → T[k].plan.every ≤ 60 := fun h => HFW.out.1 T[k] (List.getElem_mem hlt) h
            obtain ⟨t, ht⟩ : ∃ t, t = T[k] := ⟨_, rfl⟩
            rw [← ht] at hok c0 c1 c2 c3 c4 c5 hfewt
            have key : ∀ o, wr.cell? ⟨b, o, none⟩ = wa.cell? ⟨b, o, none⟩ := fun o => hst.below.cell (p := ⟨b, o, none⟩) hba
            have d0 := (key _).trans c0
            have d1 := (key _).trans c1
            have d2 := (key _).trans c2
            have d3 := (key _).trans c3
            have d4 := (key _).trans c4
            have d5 := (key _).trans c5
            have hbn : Below wr.heap.size wr (wr.alloc (.cells (acC t) 66)) := (Below.refl _ _).alloc (Nat.le_refl _) _
            have HST := Lib.hid (hst.same hbn)
            have HAB := Lib.hid (Blk.new wr (acC t) 66)
            have HOK := Lib.hid hok
            have HFT := Lib.hid hfewt
            clear ht key c0 c1 c2 c3 c4 c5 hst hok hfewt hbn
            obtain ⟨q, hq⟩ : ∃ q, q = t.kind.tmod 7 := ⟨_, rfl⟩
            have hqc : q = 0 ∨ q = 1 ∨ q = 2 ∨ q = 3 ∨ q = 4 ∨ q = 5 ∨ q = 6 := by
              have h := HOK.out.1
              rw [Int.tmod_eq_emod_of_nonneg h.1] at hq
              omega
            go_upto_block 2 with (fail)
            rw [← hq]
            clear hq
            generalize wr.heap.size = ab at HAB ⊢
            have HAB' : Hid (Blk (wr.alloc (.cells (acC t) 66)) ab (acC t) 66) := HAB
            have HST' : Hid (St wa (wr.alloc (.cells (acC t) 66)) pb mb rb nw l ob cp k) := HST
            clear HAB HST
            generalize hWe : (wr.alloc (.cells #[.int .u8 t.kind, .int .i64 t.id, .int .i64 t.n, .int .i64 t.plan.every, .int .i64 t.plan.offset, .int .i64 t.plan.timeout] 66)) = W
            have HAB : Hid (Blk W ab (acC t) 66) := by rw [← hWe]; exact HAB'
            have HST : Hid (St wa W pb mb rb nw l ob cp k) := by rw [← hWe]; exact HST'
            clear hWe HAB' HST' d0 d1 d2 d3 d4 d5
            obtain ⟨x0, x1, x2, x3⟩ := HST.out.ref.two
            have y1 : W.cell? ⟨ab, 1, none⟩ = some (.int .i64 t.id) := by rw [HAB.out.cell]; rfl
            have y2 : W.cell? ⟨ab, 2, none⟩ = some (.int .i64 t.n) := by rw [HAB.out.cell]; rfl
            have y3 : W.cell? ⟨ab, 3, none⟩ = some (.int .i64 t.plan.every) := by rw [HAB.out.cell]; rfl
            have y4 : W.cell? ⟨ab, 4, none⟩ = some (.int .i64 t.plan.offset) := by rw [HAB.out.cell]; rfl
            have y5 : W.cell? ⟨ab, 5, none⟩ = some (.int .i64 t.plan.timeout) := by rw [HAB.out.cell]; rfl
            go_cut [] (fun wx => ∃ (l' : List Mb) (nw' : Int) (ob' : Option Addr) (cp' : Nat), St wa wx pb mb rb nw' l' ob' cp' (k + 1) ∧ Blk wx ab (acC t) 66)
            case first =>
              rcases hqc with rfl | rfl | rfl | rfl | rfl | rfl | rfl
              · as_aux_lemma =>
                  have hln := HST.out.len
                  by_cases hid : t.id < 0 ∨ 4294967295 < t.id
                  · have HA := Lib.hid (add_range HST.out.wh t.id t.plan.every t.plan.offset t.plan.timeout hid)
                    have HR : Hid (∀ W', Below W.heap.size W W' → Calls Try.prog 43 #[.agg #[.int .i64 nw, .slice ob l.length cp], .int .i64 t.id, .agg #[.int .i64 t.plan.every, .int .i64 t.plan.offset, .int .i64 t.plan.timeout]] W' _) := Lib.hid fun W' hb' => radd_range nw t.id t.plan.every t.plan.offset t.plan.timeout ob l.length cp hid
                    go_wp2_with (first
                      | (go_at_call 18; refine HA.out.mono ?_; rintro e w1 ⟨rfl, hb1⟩; have HST1 := Lib.hid (HST.out.same hb1); have HAB1 := Lib.hid (HAB.out.below hb1 HAB.out.lt); obtain ⟨x0, x1, x2, x3⟩ := HST1.out.ref.two; have y1 : w1.cell? ⟨ab, 1, none⟩ = some (.int .i64 t.id) := (by rw [HAB1.out.cell]; rfl); have y2 : w1.cell? ⟨ab, 2, none⟩ = some (.int .i64 t.n) := (by rw [HAB1.out.cell]; rfl); have y3 : w1.cell? ⟨ab, 3, none⟩ = some (.int .i64 t.plan.every) := (by rw [HAB1.out.cell]; rfl); have y4 : w1.cell? ⟨ab, 4, none⟩ = some (.int .i64 t.plan.offset) := (by rw [HAB1.out.cell]; rfl); have y5 : w1.cell? ⟨ab, 5, none⟩ = some (.int .i64 t.plan.timeout) := (by rw [HAB1.out.cell]; rfl); skip)
                      | (go_at_call 43; refine (HR.out _ hb1).mono ?_; rintro e w2 ⟨rfl, hb2⟩; have HST2 := Lib.hid (HST1.out.same hb2); have HAB2 := Lib.hid (HAB1.out.below hb2 HAB1.out.lt); obtain ⟨x0, x1, x2, x3⟩ := HST2.out.ref.two; have u0 := fun O => (HST2.out.ref.alloc O).two.1; have u1 := fun O => (HST2.out.ref.alloc O).two.2.1; have u2 := fun O => (HST2.out.ref.alloc O).frozen 0; have u3 := fun O => (HST2.out.ref.alloc O).frozen 1; have t0 := fun O O' => ((HST2.out.ref.alloc O).alloc O').two.1; have t1 := fun O O' => ((HST2.out.ref.alloc O).alloc O').two.2.1; have t2 := fun O O' => ((HST2.out.ref.alloc O).alloc O').frozen 0; have t3 := fun O O' => ((HST2.out.ref.alloc O).alloc O').frozen 1))
                    go_meet
                    exact ⟨l, nw, ob, cp, St.stored (HST2.out.same (by first | exact (Below.refl _ _).alloc (Nat.le_refl _) _ | exact ((Below.refl _ _).alloc (Nat.le_refl _) _).alloc (by simp) _ | exact (((Below.refl _ _).alloc (Nat.le_refl _) _).alloc (by simp) _).alloc (by simp; omega) _)) (by first | exact (HAB2.out.alloc _) | exact ((HAB2.out.alloc _).alloc _) | exact (((HAB2.out.alloc _).alloc _).alloc _)) (by omega)⟩
                  · have hi0 : 0 ≤ t.id := by omega
                    have hi1 : t.id ≤ 4294967295 := by omega
                    clear hid
                    by_cases hrt : Right t.plan
                    · cases hfm : findM l t.id with
                      | some m0 =>
                        obtain ⟨hmm, hmid⟩ := findM_some hfm
                        obtain ⟨j, hj, hjm⟩ := List.getElem_of_mem hmm
                        have HA := Lib.hid (add_there HST.out.wh t.id t.plan.every t.plan.offset t.plan.timeout hi0 hi1 hrt hfm)
                        have HR : Hid (∀ W', Below W.heap.size W W' → Calls Try.prog 43 #[.agg #[.int .i64 nw, .slice ob l.length cp], .int .i64 t.id, .agg #[.int .i64 t.plan.every, .int .i64 t.plan.offset, .int .i64 t.plan.timeout]] W' _) := Lib.hid fun W' hb' => radd_there (HST.out.row.below hb') HST.out.wh.ids nw t.id t.plan.every t.plan.offset t.plan.timeout (by omega) hi0 hi1 hrt hj (by rw [hjm]; exact hmid)
                        go_wp2_with (first
                          | (go_at_call 18; refine HA.out.mono ?_; rintro e w1 ⟨rfl, hb1⟩; have HST1 := Lib.hid (HST.out.same hb1); have HAB1 := Lib.hid (HAB.out.below hb1 HAB.out.lt); obtain ⟨x0, x1, x2, x3⟩ := HST1.out.ref.two; have y1 : w1.cell? ⟨ab, 1, none⟩ = some (.int .i64 t.id) := (by rw [HAB1.out.cell]; rfl); have y2 : w1.cell? ⟨ab, 2, none⟩ = some (.int .i64 t.n) := (by rw [HAB1.out.cell]; rfl); have y3 : w1.cell? ⟨ab, 3, none⟩ = some (.int .i64 t.plan.every) := (by rw [HAB1.out.cell]; rfl); have y4 : w1.cell? ⟨ab, 4, none⟩ = some (.int .i64 t.plan.offset) := (by rw [HAB1.out.cell]; rfl); have y5 : w1.cell? ⟨ab, 5, none⟩ = some (.int .i64 t.plan.timeout) := (by rw [HAB1.out.cell]; rfl); skip)
                          | (go_at_call 43; refine (HR.out _ hb1).mono ?_; rintro e w2 ⟨rfl, hb2⟩; have HST2 := Lib.hid (HST1.out.same hb2); have HAB2 := Lib.hid (HAB1.out.below hb2 HAB1.out.lt); obtain ⟨x0, x1, x2, x3⟩ := HST2.out.ref.two; have u0 := fun O => (HST2.out.ref.alloc O).two.1; have u1 := fun O => (HST2.out.ref.alloc O).two.2.1; have u2 := fun O => (HST2.out.ref.alloc O).frozen 0; have u3 := fun O => (HST2.out.ref.alloc O).frozen 1; have t0 := fun O O' => ((HST2.out.ref.alloc O).alloc O').two.1; have t1 := fun O O' => ((HST2.out.ref.alloc O).alloc O').two.2.1; have t2 := fun O O' => ((HST2.out.ref.alloc O).alloc O').frozen 0; have t3 := fun O O' => ((HST2.out.ref.alloc O).alloc O').frozen 1))
                        go_meet
                        exact ⟨l, nw, ob, cp, St.stored (HST2.out.same (by first | exact (Below.refl _ _).alloc (Nat.le_refl _) _ | exact ((Below.refl _ _).alloc (Nat.le_refl _) _).alloc (by simp) _ | exact (((Below.refl _ _).alloc (Nat.le_refl _) _).alloc (by simp) _).alloc (by simp; omega) _)) (by first | exact (HAB2.out.alloc _) | exact ((HAB2.out.alloc _).alloc _) | exact (((HAB2.out.alloc _).alloc _).alloc _)) (by omega)⟩
                      | none =>
                        have HA := Lib.hid (add_ok HST.out.wh HST.out.tick t.id t.plan.every t.plan.offset t.plan.timeout hi0 hi1 hrt hfm (by omega))
                        have HR : Hid (∀ W' b', RowAt W' ob cp l → Calls Try.prog 43 #[.agg #[.int .i64 nw, .slice ob l.length cp], .int .i64 t.id, .agg #[.int .i64 t.plan.every, .int .i64 t.plan.offset, .int .i64 t.plan.timeout]] W' _) := Lib.hid fun W' b' hr' => radd_ok hr' HST.out.wh.ids nw t.id t.plan.every t.plan.offset t.plan.timeout (by omega) hi0 hi1 hrt hfm b'
                        have HRT := Lib.hid hrt
                        clear hrt hfm
                        go_wp2_with (first
                          | (go_at_call 18; refine HA.out.mono ?_; rintro e w1 ⟨rfl, bq, hbq, hw1, hk1⟩; obtain ⟨hr1, hrow1, hb01⟩ := HST.out.beside hk1 (fun b _ e => .inr (.inl e)); have HAB1 := Lib.hid (act_kept HST.out.wh hk1 (fun b _ e => .inr (.inl e)) HAB.out); have HRB1 := Lib.hid hr1; have HROW1 := Lib.hid hrow1; have HB01 := Lib.hid hb01; have HW1 := Lib.hid hw1; obtain ⟨x0, x1, x2, x3⟩ := hr1.two; have y1 : w1.cell? ⟨ab, 1, none⟩ = some (.int .i64 t.id) := (by rw [HAB1.out.cell]; rfl); have y2 : w1.cell? ⟨ab, 2, none⟩ = some (.int .i64 t.n) := (by rw [HAB1.out.cell]; rfl); have y3 : w1.cell? ⟨ab, 3, none⟩ = some (.int .i64 t.plan.every) := (by rw [HAB1.out.cell]; rfl); have y4 : w1.cell? ⟨ab, 4, none⟩ = some (.int .i64 t.plan.offset) := (by rw [HAB1.out.cell]; rfl); have y5 : w1.cell? ⟨ab, 5, none⟩ = some (.int .i64 t.plan.timeout) := (by rw [HAB1.out.cell]; rfl); clear hr1 hrow1 hb01 hw1 hk1)
                          | (go_at_call 43; refine (HR.out _ bq HROW1.out).mono ?_; rintro e w2 ⟨g2, c2, rfl, how2, hb2⟩; have HRB2 := Lib.hid (HRB1.out.below hb2 HRB1.out.lt); have HAB2 := Lib.hid (HAB1.out.below hb2 HAB1.out.lt); have HHB2 := Lib.hid hb2; have HOW2 := Lib.hid how2; obtain ⟨x0, x1, x2, x3⟩ := HRB2.out.two; have u0 := fun O => (HRB2.out.alloc O).two.1; have u1 := fun O => (HRB2.out.alloc O).two.2.1; have u2 := fun O => (HRB2.out.alloc O).frozen 0; have u3 := fun O => (HRB2.out.alloc O).frozen 1; have t0 := fun O O' => ((HRB2.out.alloc O).alloc O').two.1; have t1 := fun O O' => ((HRB2.out.alloc O).alloc O').two.2.1; have t2 := fun O O' => ((HRB2.out.alloc O).alloc O').frozen 0; have t3 := fun O O' => ((HRB2.out.alloc O).alloc O').frozen 1; clear how2 hb2))
                        go_meet
                        have hlq : (ins (⟨t.id, bq, t.plan, ⟨0, 0⟩⟩ : Mb) l).length = l.length + 1 := length_ins _ _
                        have hb23 : ∀ wx, Below w2.heap.size w2 wx → Below w1.heap.size w1 wx := fun wx h => HHB2.out.trans (h.mono HHB2.out.size)
                        refine ⟨ins (⟨t.id, bq, t.plan, ⟨0, 0⟩⟩ : Mb) l, nw, some ⟨g2, 0, none⟩, c2, ?_⟩
                        rw [← hlq]
                        exact stored (HW1.out.below (hb23 _ (by first | exact (Below.refl _ _).alloc (Nat.le_refl _) _ | exact ((Below.refl _ _).alloc (Nat.le_refl _) _).alloc (by simp) _ | exact (((Below.refl _ _).alloc (Nat.le_refl _) _).alloc (by simp) _).alloc (by simp; omega) _))) (own_below (own_weak (by have := HOW2.out; rw [← hlq] at this; exact this) (Nat.zero_le _)) (by first | exact (Below.refl _ _).alloc (Nat.le_refl _) _ | exact ((Below.refl _ _).alloc (Nat.le_refl _) _).alloc (by simp) _ | exact (((Below.refl _ _).alloc (Nat.le_refl _) _).alloc (by simp) _).alloc (by simp; omega) _)) rfl (by first | exact (HRB2.out.alloc _) | exact ((HRB2.out.alloc _).alloc _) | exact (((HRB2.out.alloc _).alloc _).alloc _)) (sixty_ins HST.out.sixty (HFT.out HRT.out)) (by rw [length_ins]; omega) HST.out.tick (HB01.out.trans ((hb23 _ (by first | exact (Below.refl _ _).alloc (Nat.le_refl _) _ | exact ((Below.refl _ _).alloc (Nat.le_refl _) _).alloc (by simp) _ | exact (((Below.refl _ _).alloc (Nat.le_refl _) _).alloc (by simp) _).alloc (by simp; omega) _)).mono HB01.out.size)) (fresh_ins HST.out.fresh (Nat.le_trans HST.out.below.size hbq)) HST.out.rbf (by first | exact (HAB2.out.alloc _) | exact ((HAB2.out.alloc _).alloc _) | exact (((HAB2.out.alloc _).alloc _).alloc _))
                    · have HA := Lib.hid (add_wrong HST.out.wh t.id t.plan.every t.plan.offset t.plan.timeout hi0 hi1 hrt)
                      have HR : Hid (∀ W', Below W.heap.size W W' → Calls Try.prog 43 #[.agg #[.int .i64 nw, .slice ob l.length cp], .int .i64 t.id, .agg #[.int .i64 t.plan.every, .int .i64 t.plan.offset, .int .i64 t.plan.timeout]] W' _) := Lib.hid fun W' hb' => radd_wrong nw t.id t.plan.every t.plan.offset t.plan.timeout ob l.length cp hi0 hi1 hrt
                      go_wp2_with (first
                        | (go_at_call 18; refine HA.out.mono ?_; rintro e w1 ⟨rfl, hb1⟩; have HST1 := Lib.hid (HST.out.same hb1); have HAB1 := Lib.hid (HAB.out.below hb1 HAB.out.lt); obtain ⟨x0, x1, x2, x3⟩ := HST1.out.ref.two; have y1 : w1.cell? ⟨ab, 1, none⟩ = some (.int .i64 t.id) := (by rw [HAB1.out.cell]; rfl); have y2 : w1.cell? ⟨ab, 2, none⟩ = some (.int .i64 t.n) := (by rw [HAB1.out.cell]; rfl); have y3 : w1.cell? ⟨ab, 3, none⟩ = some (.int .i64 t.plan.every) := (by rw [HAB1.out.cell]; rfl); have y4 : w1.cell? ⟨ab, 4, none⟩ = some (.int .i64 t.plan.offset) := (by rw [HAB1.out.cell]; rfl); have y5 : w1.cell? ⟨ab, 5, none⟩ = some (.int .i64 t.plan.timeout) := (by rw [HAB1.out.cell]; rfl); skip)
                        | (go_at_call 43; refine (HR.out _ hb1).mono ?_; rintro e w2 ⟨rfl, hb2⟩; have HST2 := Lib.hid (HST1.out.same hb2); have HAB2 := Lib.hid (HAB1.out.below hb2 HAB1.out.lt); obtain ⟨x0, x1, x2, x3⟩ := HST2.out.ref.two; have u0 := fun O => (HST2.out.ref.alloc O).two.1; have u1 := fun O => (HST2.out.ref.alloc O).two.2.1; have u2 := fun O => (HST2.out.ref.alloc O).frozen 0; have u3 := fun O => (HST2.out.ref.alloc O).frozen 1; have t0 := fun O O' => ((HST2.out.ref.alloc O).alloc O').two.1; have t1 := fun O O' => ((HST2.out.ref.alloc O).alloc O').two.2.1; have t2 := fun O O' => ((HST2.out.ref.alloc O).alloc O').frozen 0; have t3 := fun O O' => ((HST2.out.ref.alloc O).alloc O').frozen 1))
                      go_meet
                      exact ⟨l, nw, ob, cp, St.stored (HST2.out.same (by first | exact (Below.refl _ _).alloc (Nat.le_refl _) _ | exact ((Below.refl _ _).alloc (Nat.le_refl _) _).alloc (by simp) _ | exact (((Below.refl _ _).alloc (Nat.le_refl _) _).alloc (by simp) _).alloc (by simp; omega) _)) (by first | exact (HAB2.out.alloc _) | exact ((HAB2.out.alloc _).alloc _) | exact (((HAB2.out.alloc _).alloc _).alloc _)) (by omega)⟩
              · as_aux_lemma =>
                  have hln := HST.out.len
                  cases hfm : findM l t.id with
                  | none =>
                    have HA := Lib.hid (drop_none HST.out.wh (wf64 HOK.out.2.1) hfm)
                    have HR : Hid (∀ W', Below W.heap.size W W' → Calls Try.prog 44 #[.agg #[.int .i64 nw, .slice ob l.length cp], .int .i64 t.id] W' fun e w' => e = .returned (.tuple #[.agg #[.int .i64 nw, .slice ob l.length cp], .agg #[.int .u8 0, .int .i64 0], .int .i64 6]) ∧ Below W'.heap.size W' w') := Lib.hid fun W' hb' => rdrop_none (HST.out.row.below hb') HST.out.wh.ids nw t.id (by omega) hfm
                    clear hfm
                    go_wp2_with (first
                      | (go_at_call 32; refine HA.out.mono ?_; rintro e w1 ⟨rfl, hb1⟩; have HST1 := Lib.hid (HST.out.same hb1); have HAB1 := Lib.hid (HAB.out.below hb1 HAB.out.lt); obtain ⟨x0, x1, x2, x3⟩ := HST1.out.ref.two; have y1 : w1.cell? ⟨ab, 1, none⟩ = some (.int .i64 t.id) := (by rw [HAB1.out.cell]; rfl); have y2 : w1.cell? ⟨ab, 2, none⟩ = some (.int .i64 t.n) := (by rw [HAB1.out.cell]; rfl); have y3 : w1.cell? ⟨ab, 3, none⟩ = some (.int .i64 t.plan.every) := (by rw [HAB1.out.cell]; rfl); have y4 : w1.cell? ⟨ab, 4, none⟩ = some (.int .i64 t.plan.offset) := (by rw [HAB1.out.cell]; rfl); have y5 : w1.cell? ⟨ab, 5, none⟩ = some (.int .i64 t.plan.timeout) := (by rw [HAB1.out.cell]; rfl); skip; have x0' := fun O => (HST1.out.ref.alloc O).two.1; have x1' := fun O => (HST1.out.ref.alloc O).two.2.1; have y1' : ∀ O, (w1.alloc O).cell? ⟨ab, 1, none⟩ = some (.int .i64 t.id) := (fun O => by rw [(HAB1.out.alloc O).cell]; rfl))
                      | (go_at_call 44; refine (HR.out _ (hb1.alloc hb1.size _)).mono ?_; rintro e w2 ⟨rfl, hb2⟩; have GB := (Blk.new w1 #[.int .u8 0, .int .i64 0] 59).below hb2 (by simp); have g0 := fun O O' => ((GB.alloc O).alloc O').two.1; have g1 := fun O O' => ((GB.alloc O).alloc O').two.2.1; have hb2' := ((Below.refl w1.heap.size w1).alloc (Nat.le_refl _) (.cells #[.int .u8 0, .int .i64 0] 59)).trans (hb2.mono (by simp)); clear hb2 GB; have hb2 := hb2'; clear hb2'; have hz2 := hb2.size; skip; have HST2 := Lib.hid (HST1.out.same hb2); have HAB2 := Lib.hid (HAB1.out.below hb2 HAB1.out.lt); obtain ⟨x0, x1, x2, x3⟩ := HST2.out.ref.two; have u0 := fun O => (HST2.out.ref.alloc O).two.1; have u1 := fun O => (HST2.out.ref.alloc O).two.2.1; have u2 := fun O => (HST2.out.ref.alloc O).frozen 0; have u3 := fun O => (HST2.out.ref.alloc O).frozen 1; have t0 := fun O O' => ((HST2.out.ref.alloc O).alloc O').two.1; have t1 := fun O O' => ((HST2.out.ref.alloc O).alloc O').two.2.1; have t2 := fun O O' => ((HST2.out.ref.alloc O).alloc O').frozen 0; have t3 := fun O O' => ((HST2.out.ref.alloc O).alloc O').frozen 1))
                    go_meet
                    exact ⟨l, nw, ob, cp, St.stored (HST2.out.same (by first | exact (Below.refl _ _).alloc (Nat.le_refl _) _ | exact ((Below.refl _ _).alloc (Nat.le_refl _) _).alloc (by simp) _ | exact (((Below.refl _ _).alloc (Nat.le_refl _) _).alloc (by simp) _).alloc (by simp; omega) _)) (by first | exact (HAB2.out.alloc _) | exact ((HAB2.out.alloc _).alloc _) | exact (((HAB2.out.alloc _).alloc _).alloc _)) (by omega)⟩
                  | some m0 =>
                    obtain ⟨hmm, hmid⟩ := findM_some hfm
                    obtain ⟨j, hj, hjm⟩ := List.getElem_of_mem hmm
                    have HFM := Lib.hid hfm
                    have HA := Lib.hid (drop_some HST.out.wh (wf64 HOK.out.2.1) hfm)
                    have HR : Hid (∀ W', RowAt W' ob cp l → Calls Try.prog 44 #[.agg #[.int .i64 nw, .slice ob l.length cp], .int .i64 t.id] W' fun e w' => ∃ g c, e = .returned (.tuple #[.agg #[.int .i64 nw, .slice (some ⟨g, 0, none⟩) (l.length - 1) c], .agg #[.int .u8 m0.phase.state, .int .i64 m0.phase.since], .int .i64 0]) ∧
                      w'.ownsRow W'.heap.size 118 6 (.slice (some ⟨g, 0, none⟩) (l.length - 1) c) (l.length - 1) (flatC (dropM l t.id)) ∧ Below W'.heap.size W' w') := Lib.hid fun W' hr' => by
                      have h := rdrop_yes hr' HST.out.wh.ids nw t.id (by omega) hj (by rw [hjm]; exact hmid)
                      rw [hjm] at h
                      exact h
                    clear hfm hmm hmid hjm
                    go_wp2_with (first
                      | (go_at_call 32; refine HA.out.mono ?_; rintro e w1 ⟨rfl, hw1, hk1⟩; obtain ⟨hr1, hrow1, hb01⟩ := HST.out.beside hk1 (fun b _ e => .inr (.inl e)); have HAB1 := Lib.hid (act_kept HST.out.wh hk1 (fun b _ e => .inr (.inl e)) HAB.out); have HRB1 := Lib.hid hr1; have HROW1 := Lib.hid hrow1; have HB01 := Lib.hid hb01; have HW1 := Lib.hid hw1; obtain ⟨x0, x1, x2, x3⟩ := hr1.two; have y1 : w1.cell? ⟨ab, 1, none⟩ = some (.int .i64 t.id) := (by rw [HAB1.out.cell]; rfl); have y2 : w1.cell? ⟨ab, 2, none⟩ = some (.int .i64 t.n) := (by rw [HAB1.out.cell]; rfl); have y3 : w1.cell? ⟨ab, 3, none⟩ = some (.int .i64 t.plan.every) := (by rw [HAB1.out.cell]; rfl); have y4 : w1.cell? ⟨ab, 4, none⟩ = some (.int .i64 t.plan.offset) := (by rw [HAB1.out.cell]; rfl); have y5 : w1.cell? ⟨ab, 5, none⟩ = some (.int .i64 t.plan.timeout) := (by rw [HAB1.out.cell]; rfl); clear hr1 hrow1 hb01 hw1 hk1; have x0' := fun O => (HRB1.out.alloc O).two.1; have x1' := fun O => (HRB1.out.alloc O).two.2.1; have y1' : ∀ O, (w1.alloc O).cell? ⟨ab, 1, none⟩ = some (.int .i64 t.id) := (fun O => by rw [(HAB1.out.alloc O).cell]; rfl))
                      | (go_at_call 44; refine (HR.out _ (HROW1.out.below ((Below.refl _ _).alloc (Nat.le_refl _) _))).mono ?_; rintro e w2 ⟨g2, c2, rfl, how2, hb2⟩; have GB := (Blk.new w1 #[.int .u8 m0.phase.state, .int .i64 m0.phase.since] 59).below hb2 (by simp); have g0 := fun O O' => ((GB.alloc O).alloc O').two.1; have g1 := fun O O' => ((GB.alloc O).alloc O').two.2.1; have hb2' := ((Below.refl w1.heap.size w1).alloc (Nat.le_refl _) (.cells #[.int .u8 m0.phase.state, .int .i64 m0.phase.since] 59)).trans (hb2.mono (by simp)); clear hb2 GB; have hb2 := hb2'; clear hb2'; have hz2 := hb2.size; skip; have HRB2 := Lib.hid (HRB1.out.below hb2 HRB1.out.lt); have HAB2 := Lib.hid (HAB1.out.below hb2 HAB1.out.lt); have HHB2 := Lib.hid hb2; have HOW2 := Lib.hid how2; obtain ⟨x0, x1, x2, x3⟩ := HRB2.out.two; have u0 := fun O => (HRB2.out.alloc O).two.1; have u1 := fun O => (HRB2.out.alloc O).two.2.1; have u2 := fun O => (HRB2.out.alloc O).frozen 0; have u3 := fun O => (HRB2.out.alloc O).frozen 1; have t0 := fun O O' => ((HRB2.out.alloc O).alloc O').two.1; have t1 := fun O O' => ((HRB2.out.alloc O).alloc O').two.2.1; have t2 := fun O O' => ((HRB2.out.alloc O).alloc O').frozen 0; have t3 := fun O O' => ((HRB2.out.alloc O).alloc O').frozen 1; clear how2 hb2))
                    go_meet
                    have hlq : (dropM l t.id).length = l.length - 1 := by have := length_drop HST.out.wh.ids HFM.out; omega
                    have hb23 : ∀ wx, Below w2.heap.size w2 wx → Below w1.heap.size w1 wx := fun wx h => HHB2.out.trans (h.mono HHB2.out.size)
                    refine ⟨dropM l t.id, nw, some ⟨g2, 0, none⟩, c2, ?_⟩
                    rw [← hlq]
                    exact stored (HW1.out.below (hb23 _ (by first | exact (Below.refl _ _).alloc (Nat.le_refl _) _ | exact ((Below.refl _ _).alloc (Nat.le_refl _) _).alloc (by simp) _ | exact (((Below.refl _ _).alloc (Nat.le_refl _) _).alloc (by simp) _).alloc (by simp; omega) _))) (own_below (own_weak (by have := HOW2.out; rw [← hlq] at this; exact this) (Nat.zero_le _)) (by first | exact (Below.refl _ _).alloc (Nat.le_refl _) _ | exact ((Below.refl _ _).alloc (Nat.le_refl _) _).alloc (by simp) _ | exact (((Below.refl _ _).alloc (Nat.le_refl _) _).alloc (by simp) _).alloc (by simp; omega) _)) rfl (by first | exact (HRB2.out.alloc _) | exact ((HRB2.out.alloc _).alloc _) | exact (((HRB2.out.alloc _).alloc _).alloc _)) (sixty_drop HST.out.sixty) (by have := length_drop HST.out.wh.ids HFM.out; omega) HST.out.tick (HB01.out.trans ((hb23 _ (by first | exact (Below.refl _ _).alloc (Nat.le_refl _) _ | exact ((Below.refl _ _).alloc (Nat.le_refl _) _).alloc (by simp) _ | exact (((Below.refl _ _).alloc (Nat.le_refl _) _).alloc (by simp) _).alloc (by simp; omega) _)).mono HB01.out.size)) (fun b hf => HST.out.fresh b (foot_drop hf)) HST.out.rbf (by first | exact (HAB2.out.alloc _) | exact ((HAB2.out.alloc _).alloc _) | exact (((HAB2.out.alloc _).alloc _).alloc _))
              · as_aux_lemma =>
                  have hln := HST.out.len
                  cases hfm : findM l t.id with
                  | none =>
                    have HA := Lib.hid (answer_none HST.out.wh (wf64 HOK.out.2.1) hfm)
                    have HR : Hid (∀ W', Below W.heap.size W W' → Calls Try.prog 45 #[.agg #[.int .i64 nw, .slice ob l.length cp], .int .i64 t.id, .int .u8 1, .int .u8 2] W' _) := Lib.hid fun W' hb' => rchange_none (HST.out.row.below hb') HST.out.wh.ids nw t.id 1 2 (by omega) hfm
                    go_wp2_with (first
                      | (go_at_call 21; refine HA.out.mono ?_; rintro e w1' ⟨rfl, rfl⟩)
                      | (go_at_call 45; refine (HR.out _ (Below.refl _ _)).mono ?_; rintro e w2 ⟨rfl, hb2⟩; have HST2 := Lib.hid (HST.out.same hb2); have HAB2 := Lib.hid (HAB.out.below hb2 HAB.out.lt); obtain ⟨x0, x1, x2, x3⟩ := HST2.out.ref.two; have u0 := fun O => (HST2.out.ref.alloc O).two.1; have u1 := fun O => (HST2.out.ref.alloc O).two.2.1; have u2 := fun O => (HST2.out.ref.alloc O).frozen 0; have u3 := fun O => (HST2.out.ref.alloc O).frozen 1; have t0 := fun O O' => ((HST2.out.ref.alloc O).alloc O').two.1; have t1 := fun O O' => ((HST2.out.ref.alloc O).alloc O').two.2.1; have t2 := fun O O' => ((HST2.out.ref.alloc O).alloc O').frozen 0; have t3 := fun O O' => ((HST2.out.ref.alloc O).alloc O').frozen 1))
                    go_meet
                    exact ⟨l, nw, ob, cp, St.stored (HST2.out.same (by first | exact (Below.refl _ _).alloc (Nat.le_refl _) _ | exact ((Below.refl _ _).alloc (Nat.le_refl _) _).alloc (by simp) _ | exact (((Below.refl _ _).alloc (Nat.le_refl _) _).alloc (by simp) _).alloc (by simp; omega) _)) (by first | exact (HAB2.out.alloc _) | exact ((HAB2.out.alloc _).alloc _) | exact (((HAB2.out.alloc _).alloc _).alloc _)) (by omega)⟩
                  | some m0 =>
                    obtain ⟨hmm, hmid⟩ := findM_some hfm
                    obtain ⟨j, hj, hjm⟩ := List.getElem_of_mem hmm
                    by_cases hs : m0.phase.state = 1
                    · have HA := Lib.hid (answer_yes HST.out.wh (wf64 HOK.out.2.1) hfm hs)
                      have HR : Hid (∀ W', RowAt W' ob cp l → Calls Try.prog 45 #[.agg #[.int .i64 nw, .slice ob l.length cp], .int .i64 t.id, .int .u8 1, .int .u8 2] W' fun e w' => ∃ g c, e = .returned (.tuple #[.agg #[.int .i64 nw, .slice (some ⟨g, 0, none⟩) l.length c], .int .i64 m0.phase.since, .int .i64 0]) ∧
                        w'.ownsRow W'.heap.size 118 6 (.slice (some ⟨g, 0, none⟩) l.length c) l.length (flatC (setM l t.id ⟨2, m0.phase.since⟩)) ∧ Below W'.heap.size W' w') := Lib.hid fun W' hr' => by
                        have h := rchange_yes hr' HST.out.wh.ids nw t.id 1 2 (by omega) hj (by rw [hjm]; exact hmid) (by rw [hjm]; exact hs) (ph := ⟨2, m0.phase.since⟩) (.inr ⟨rfl, by rw [hjm]⟩)
                        rw [hjm] at h
                        exact h
                      have HMM := Lib.hid hmm
                      clear hfm hmm hmid hjm hs
                      go_wp2_with (first
                        | (go_at_call 21; refine HA.out.mono ?_; rintro e w1 ⟨rfl, hw1, hk1⟩; obtain ⟨hr1, hrow1, hb01⟩ := HST.out.beside hk1 (fun b _ e => .inr (.inr ⟨m0, HMM.out, e.symm⟩)); have HAB1 := Lib.hid (act_kept HST.out.wh hk1 (fun b _ e => .inr (.inr ⟨m0, HMM.out, e.symm⟩)) HAB.out); have HRB1 := Lib.hid hr1; have HROW1 := Lib.hid hrow1; have HB01 := Lib.hid hb01; have HW1 := Lib.hid hw1; obtain ⟨x0, x1, x2, x3⟩ := hr1.two; have y1 : w1.cell? ⟨ab, 1, none⟩ = some (.int .i64 t.id) := (by rw [HAB1.out.cell]; rfl); have y2 : w1.cell? ⟨ab, 2, none⟩ = some (.int .i64 t.n) := (by rw [HAB1.out.cell]; rfl); have y3 : w1.cell? ⟨ab, 3, none⟩ = some (.int .i64 t.plan.every) := (by rw [HAB1.out.cell]; rfl); have y4 : w1.cell? ⟨ab, 4, none⟩ = some (.int .i64 t.plan.offset) := (by rw [HAB1.out.cell]; rfl); have y5 : w1.cell? ⟨ab, 5, none⟩ = some (.int .i64 t.plan.timeout) := (by rw [HAB1.out.cell]; rfl); clear hr1 hrow1 hb01 hw1 hk1)
                        | (go_at_call 45; refine (HR.out _ HROW1.out).mono ?_; rintro e w2 ⟨g2, c2, rfl, how2, hb2⟩; have HRB2 := Lib.hid (HRB1.out.below hb2 HRB1.out.lt); have HAB2 := Lib.hid (HAB1.out.below hb2 HAB1.out.lt); have HHB2 := Lib.hid hb2; have HOW2 := Lib.hid how2; obtain ⟨x0, x1, x2, x3⟩ := HRB2.out.two; have u0 := fun O => (HRB2.out.alloc O).two.1; have u1 := fun O => (HRB2.out.alloc O).two.2.1; have u2 := fun O => (HRB2.out.alloc O).frozen 0; have u3 := fun O => (HRB2.out.alloc O).frozen 1; have t0 := fun O O' => ((HRB2.out.alloc O).alloc O').two.1; have t1 := fun O O' => ((HRB2.out.alloc O).alloc O').two.2.1; have t2 := fun O O' => ((HRB2.out.alloc O).alloc O').frozen 0; have t3 := fun O O' => ((HRB2.out.alloc O).alloc O').frozen 1; clear how2 hb2))
                      go_meet
                      have hlq : (setM l t.id ⟨2, m0.phase.since⟩).length = l.length := by simp [setM]
                      have hb23 : ∀ wx, Below w2.heap.size w2 wx → Below w1.heap.size w1 wx := fun wx h => HHB2.out.trans (h.mono HHB2.out.size)
                      refine ⟨setM l t.id ⟨2, m0.phase.since⟩, nw, some ⟨g2, 0, none⟩, c2, ?_⟩
                      rw [← hlq]
                      exact stored (HW1.out.below (hb23 _ (by first | exact (Below.refl _ _).alloc (Nat.le_refl _) _ | exact ((Below.refl _ _).alloc (Nat.le_refl _) _).alloc (by simp) _ | exact (((Below.refl _ _).alloc (Nat.le_refl _) _).alloc (by simp) _).alloc (by simp; omega) _))) (own_below (own_weak (by have := HOW2.out; rw [← hlq] at this; exact this) (Nat.zero_le _)) (by first | exact (Below.refl _ _).alloc (Nat.le_refl _) _ | exact ((Below.refl _ _).alloc (Nat.le_refl _) _).alloc (by simp) _ | exact (((Below.refl _ _).alloc (Nat.le_refl _) _).alloc (by simp) _).alloc (by simp; omega) _)) rfl (by first | exact (HRB2.out.alloc _) | exact ((HRB2.out.alloc _).alloc _) | exact (((HRB2.out.alloc _).alloc _).alloc _)) (sixty_setM HST.out.sixty) (by simp [setM]; omega) HST.out.tick (HB01.out.trans ((hb23 _ (by first | exact (Below.refl _ _).alloc (Nat.le_refl _) _ | exact ((Below.refl _ _).alloc (Nat.le_refl _) _).alloc (by simp) _ | exact (((Below.refl _ _).alloc (Nat.le_refl _) _).alloc (by simp) _).alloc (by simp; omega) _)).mono HB01.out.size)) (fun b hf => HST.out.fresh b (foot_setM.1 hf)) HST.out.rbf (by first | exact (HAB2.out.alloc _) | exact ((HAB2.out.alloc _).alloc _) | exact (((HAB2.out.alloc _).alloc _).alloc _))
                    · have HA := Lib.hid (answer_no HST.out.wh (wf64 HOK.out.2.1) hfm hs)
                      have HR : Hid (∀ W', Below W.heap.size W W' → Calls Try.prog 45 #[.agg #[.int .i64 nw, .slice ob l.length cp], .int .i64 t.id, .int .u8 1, .int .u8 2] W' _) := Lib.hid fun W' hb' => rchange_no (HST.out.row.below hb') HST.out.wh.ids nw t.id 1 2 (by omega) hj (by rw [hjm]; exact hmid) (by rw [hjm]; exact hs)
                      go_wp2_with (first
                        | (go_at_call 21; refine HA.out.mono ?_; rintro e w1' ⟨rfl, rfl⟩)
                        | (go_at_call 45; refine (HR.out _ (Below.refl _ _)).mono ?_; rintro e w2 ⟨rfl, hb2⟩; have HST2 := Lib.hid (HST.out.same hb2); have HAB2 := Lib.hid (HAB.out.below hb2 HAB.out.lt); obtain ⟨x0, x1, x2, x3⟩ := HST2.out.ref.two; have u0 := fun O => (HST2.out.ref.alloc O).two.1; have u1 := fun O => (HST2.out.ref.alloc O).two.2.1; have u2 := fun O => (HST2.out.ref.alloc O).frozen 0; have u3 := fun O => (HST2.out.ref.alloc O).frozen 1; have t0 := fun O O' => ((HST2.out.ref.alloc O).alloc O').two.1; have t1 := fun O O' => ((HST2.out.ref.alloc O).alloc O').two.2.1; have t2 := fun O O' => ((HST2.out.ref.alloc O).alloc O').frozen 0; have t3 := fun O O' => ((HST2.out.ref.alloc O).alloc O').frozen 1))
                      go_meet
                      exact ⟨l, nw, ob, cp, St.stored (HST2.out.same (by first | exact (Below.refl _ _).alloc (Nat.le_refl _) _ | exact ((Below.refl _ _).alloc (Nat.le_refl _) _).alloc (by simp) _ | exact (((Below.refl _ _).alloc (Nat.le_refl _) _).alloc (by simp) _).alloc (by simp; omega) _)) (by first | exact (HAB2.out.alloc _) | exact ((HAB2.out.alloc _).alloc _) | exact (((HAB2.out.alloc _).alloc _).alloc _)) (by omega)⟩
              · as_aux_lemma =>
                  have hln := HST.out.len
                  cases hfm : findM l t.id with
                  | none =>
                    have HA := Lib.hid (handle_none HST.out.wh (wf64 HOK.out.2.1) hfm)
                    have HR : Hid (∀ W', Below W.heap.size W W' → Calls Try.prog 45 #[.agg #[.int .i64 nw, .slice ob l.length cp], .int .i64 t.id, .int .u8 2, .int .u8 0] W' _) := Lib.hid fun W' hb' => rchange_none (HST.out.row.below hb') HST.out.wh.ids nw t.id 2 0 (by omega) hfm
                    go_wp2_with (first
                      | (go_at_call 22; refine HA.out.mono ?_; rintro e w1' ⟨rfl, rfl⟩)
                      | (go_at_call 45; refine (HR.out _ (Below.refl _ _)).mono ?_; rintro e w2 ⟨rfl, hb2⟩; have HST2 := Lib.hid (HST.out.same hb2); have HAB2 := Lib.hid (HAB.out.below hb2 HAB.out.lt); obtain ⟨x0, x1, x2, x3⟩ := HST2.out.ref.two; have u0 := fun O => (HST2.out.ref.alloc O).two.1; have u1 := fun O => (HST2.out.ref.alloc O).two.2.1; have u2 := fun O => (HST2.out.ref.alloc O).frozen 0; have u3 := fun O => (HST2.out.ref.alloc O).frozen 1; have t0 := fun O O' => ((HST2.out.ref.alloc O).alloc O').two.1; have t1 := fun O O' => ((HST2.out.ref.alloc O).alloc O').two.2.1; have t2 := fun O O' => ((HST2.out.ref.alloc O).alloc O').frozen 0; have t3 := fun O O' => ((HST2.out.ref.alloc O).alloc O').frozen 1))
                    go_meet
                    exact ⟨l, nw, ob, cp, St.stored (HST2.out.same (by first | exact (Below.refl _ _).alloc (Nat.le_refl _) _ | exact ((Below.refl _ _).alloc (Nat.le_refl _) _).alloc (by simp) _ | exact (((Below.refl _ _).alloc (Nat.le_refl _) _).alloc (by simp) _).alloc (by simp; omega) _)) (by first | exact (HAB2.out.alloc _) | exact ((HAB2.out.alloc _).alloc _) | exact (((HAB2.out.alloc _).alloc _).alloc _)) (by omega)⟩
                  | some m0 =>
                    obtain ⟨hmm, hmid⟩ := findM_some hfm
                    obtain ⟨j, hj, hjm⟩ := List.getElem_of_mem hmm
                    by_cases hs : m0.phase.state = 2
                    · have HA := Lib.hid (handle_yes HST.out.wh (wf64 HOK.out.2.1) hfm hs)
                      have HR : Hid (∀ W', RowAt W' ob cp l → Calls Try.prog 45 #[.agg #[.int .i64 nw, .slice ob l.length cp], .int .i64 t.id, .int .u8 2, .int .u8 0] W' fun e w' => ∃ g c, e = .returned (.tuple #[.agg #[.int .i64 nw, .slice (some ⟨g, 0, none⟩) l.length c], .int .i64 m0.phase.since, .int .i64 0]) ∧
                        w'.ownsRow W'.heap.size 118 6 (.slice (some ⟨g, 0, none⟩) l.length c) l.length (flatC (setM l t.id ⟨0, 0⟩)) ∧ Below W'.heap.size W' w') := Lib.hid fun W' hr' => by
                        have h := rchange_yes hr' HST.out.wh.ids nw t.id 2 0 (by omega) hj (by rw [hjm]; exact hmid) (by rw [hjm]; exact hs) (ph := ⟨0, 0⟩) (.inl ⟨rfl, rfl⟩)
                        rw [hjm] at h
                        exact h
                      have HMM := Lib.hid hmm
                      clear hfm hmm hmid hjm hs
                      go_wp2_with (first
                        | (go_at_call 22; refine HA.out.mono ?_; rintro e w1 ⟨rfl, hw1, hk1⟩; obtain ⟨hr1, hrow1, hb01⟩ := HST.out.beside hk1 (fun b _ e => .inr (.inr ⟨m0, HMM.out, e.symm⟩)); have HAB1 := Lib.hid (act_kept HST.out.wh hk1 (fun b _ e => .inr (.inr ⟨m0, HMM.out, e.symm⟩)) HAB.out); have HRB1 := Lib.hid hr1; have HROW1 := Lib.hid hrow1; have HB01 := Lib.hid hb01; have HW1 := Lib.hid hw1; obtain ⟨x0, x1, x2, x3⟩ := hr1.two; have y1 : w1.cell? ⟨ab, 1, none⟩ = some (.int .i64 t.id) := (by rw [HAB1.out.cell]; rfl); have y2 : w1.cell? ⟨ab, 2, none⟩ = some (.int .i64 t.n) := (by rw [HAB1.out.cell]; rfl); have y3 : w1.cell? ⟨ab, 3, none⟩ = some (.int .i64 t.plan.every) := (by rw [HAB1.out.cell]; rfl); have y4 : w1.cell? ⟨ab, 4, none⟩ = some (.int .i64 t.plan.offset) := (by rw [HAB1.out.cell]; rfl); have y5 : w1.cell? ⟨ab, 5, none⟩ = some (.int .i64 t.plan.timeout) := (by rw [HAB1.out.cell]; rfl); clear hr1 hrow1 hb01 hw1 hk1)
                        | (go_at_call 45; refine (HR.out _ HROW1.out).mono ?_; rintro e w2 ⟨g2, c2, rfl, how2, hb2⟩; have HRB2 := Lib.hid (HRB1.out.below hb2 HRB1.out.lt); have HAB2 := Lib.hid (HAB1.out.below hb2 HAB1.out.lt); have HHB2 := Lib.hid hb2; have HOW2 := Lib.hid how2; obtain ⟨x0, x1, x2, x3⟩ := HRB2.out.two; have u0 := fun O => (HRB2.out.alloc O).two.1; have u1 := fun O => (HRB2.out.alloc O).two.2.1; have u2 := fun O => (HRB2.out.alloc O).frozen 0; have u3 := fun O => (HRB2.out.alloc O).frozen 1; have t0 := fun O O' => ((HRB2.out.alloc O).alloc O').two.1; have t1 := fun O O' => ((HRB2.out.alloc O).alloc O').two.2.1; have t2 := fun O O' => ((HRB2.out.alloc O).alloc O').frozen 0; have t3 := fun O O' => ((HRB2.out.alloc O).alloc O').frozen 1; clear how2 hb2))
                      go_meet
                      have hlq : (setM l t.id ⟨0, 0⟩).length = l.length := by simp [setM]
                      have hb23 : ∀ wx, Below w2.heap.size w2 wx → Below w1.heap.size w1 wx := fun wx h => HHB2.out.trans (h.mono HHB2.out.size)
                      refine ⟨setM l t.id ⟨0, 0⟩, nw, some ⟨g2, 0, none⟩, c2, ?_⟩
                      rw [← hlq]
                      exact stored (HW1.out.below (hb23 _ (by first | exact (Below.refl _ _).alloc (Nat.le_refl _) _ | exact ((Below.refl _ _).alloc (Nat.le_refl _) _).alloc (by simp) _ | exact (((Below.refl _ _).alloc (Nat.le_refl _) _).alloc (by simp) _).alloc (by simp; omega) _))) (own_below (own_weak (by have := HOW2.out; rw [← hlq] at this; exact this) (Nat.zero_le _)) (by first | exact (Below.refl _ _).alloc (Nat.le_refl _) _ | exact ((Below.refl _ _).alloc (Nat.le_refl _) _).alloc (by simp) _ | exact (((Below.refl _ _).alloc (Nat.le_refl _) _).alloc (by simp) _).alloc (by simp; omega) _)) rfl (by first | exact (HRB2.out.alloc _) | exact ((HRB2.out.alloc _).alloc _) | exact (((HRB2.out.alloc _).alloc _).alloc _)) (sixty_setM HST.out.sixty) (by simp [setM]; omega) HST.out.tick (HB01.out.trans ((hb23 _ (by first | exact (Below.refl _ _).alloc (Nat.le_refl _) _ | exact ((Below.refl _ _).alloc (Nat.le_refl _) _).alloc (by simp) _ | exact (((Below.refl _ _).alloc (Nat.le_refl _) _).alloc (by simp) _).alloc (by simp; omega) _)).mono HB01.out.size)) (fun b hf => HST.out.fresh b (foot_setM.1 hf)) HST.out.rbf (by first | exact (HAB2.out.alloc _) | exact ((HAB2.out.alloc _).alloc _) | exact (((HAB2.out.alloc _).alloc _).alloc _))
                    · have HA := Lib.hid (handle_no HST.out.wh (wf64 HOK.out.2.1) hfm hs)
                      have HR : Hid (∀ W', Below W.heap.size W W' → Calls Try.prog 45 #[.agg #[.int .i64 nw, .slice ob l.length cp], .int .i64 t.id, .int .u8 2, .int .u8 0] W' _) := Lib.hid fun W' hb' => rchange_no (HST.out.row.below hb') HST.out.wh.ids nw t.id 2 0 (by omega) hj (by rw [hjm]; exact hmid) (by rw [hjm]; exact hs)
                      go_wp2_with (first
                        | (go_at_call 22; refine HA.out.mono ?_; rintro e w1' ⟨rfl, rfl⟩)
                        | (go_at_call 45; refine (HR.out _ (Below.refl _ _)).mono ?_; rintro e w2 ⟨rfl, hb2⟩; have HST2 := Lib.hid (HST.out.same hb2); have HAB2 := Lib.hid (HAB.out.below hb2 HAB.out.lt); obtain ⟨x0, x1, x2, x3⟩ := HST2.out.ref.two; have u0 := fun O => (HST2.out.ref.alloc O).two.1; have u1 := fun O => (HST2.out.ref.alloc O).two.2.1; have u2 := fun O => (HST2.out.ref.alloc O).frozen 0; have u3 := fun O => (HST2.out.ref.alloc O).frozen 1; have t0 := fun O O' => ((HST2.out.ref.alloc O).alloc O').two.1; have t1 := fun O O' => ((HST2.out.ref.alloc O).alloc O').two.2.1; have t2 := fun O O' => ((HST2.out.ref.alloc O).alloc O').frozen 0; have t3 := fun O O' => ((HST2.out.ref.alloc O).alloc O').frozen 1))
                      go_meet
                      exact ⟨l, nw, ob, cp, St.stored (HST2.out.same (by first | exact (Below.refl _ _).alloc (Nat.le_refl _) _ | exact ((Below.refl _ _).alloc (Nat.le_refl _) _).alloc (by simp) _ | exact (((Below.refl _ _).alloc (Nat.le_refl _) _).alloc (by simp) _).alloc (by simp; omega) _)) (by first | exact (HAB2.out.alloc _) | exact ((HAB2.out.alloc _).alloc _) | exact (((HAB2.out.alloc _).alloc _).alloc _)) (by omega)⟩
              · as_aux_lemma =>
                  have hln := HST.out.len
                  have hnw0 := HST.out.tick.1
                  have hnw1 := HST.out.tick.2
                  have hm1 : -1125899906842624 ≤ min (max t.n (-1125899906842624)) 1125899906842624 := by omega
                  have hm2 : min (max t.n (-1125899906842624)) 1125899906842624 ≤ 1125899906842624 := by omega
                  by_cases hT : Tick (nw + min (max t.n (-1125899906842624)) 1125899906842624)
                  · by_cases hlt2 : (nw + min (max t.n (-1125899906842624)) 1125899906842624) < nw
                    · have HA : Hid (Calls Try.prog 14 #[.pointer (some ⟨pb, 0, none⟩), .int .i64 (nw + min (max t.n (-1125899906842624)) 1125899906842624)] W fun e w' => e = .returned (.tuple #[.slice none 0 0, .int .i64 292]) ∧ W = w') := Lib.hid (advW_back HST.out.wh (nw + min (max t.n (-1125899906842624)) 1125899906842624) hT.1 hT.2 hlt2)
                      have HR : Hid (∀ W', Calls Try.prog 46 #[.agg #[.int .i64 nw, .slice ob l.length cp], .int .i64 (nw + min (max t.n (-1125899906842624)) 1125899906842624)] W' fun e w' => e = .returned (.tuple #[.agg #[.int .i64 nw, .slice ob l.length cp], .slice none 0 0, .int .i64 292]) ∧ Below W'.heap.size W' w') := Lib.hid fun W' => by
                        have h := radvs_no (w := W') nw (nw + min (max t.n (-1125899906842624)) 1125899906842624) _ ob l.length cp rfl (.inr ⟨hT, hlt2⟩)
                        rw [if_pos hT] at h
                        exact h
                      have HTOK := Lib.hid hT
                      clear hT hlt2
                      go_wp2_with (first
                        | (go_at_call 14; refine HA.out.mono ?_; rintro e w1' ⟨rfl, rfl⟩)
                        | (go_at_call 46; refine (HR.out _).mono ?_; rintro e w2 ⟨rfl, hb2⟩; have HST2 := Lib.hid (HST.out.same hb2); have HAB2 := Lib.hid (HAB.out.below hb2 HAB.out.lt); obtain ⟨x0, x1, x2, x3⟩ := HST2.out.ref.two; have u0 := fun O => (HST2.out.ref.alloc O).two.1; have u1 := fun O => (HST2.out.ref.alloc O).two.2.1; have u2 := fun O => (HST2.out.ref.alloc O).frozen 0; have u3 := fun O => (HST2.out.ref.alloc O).frozen 1; have t0 := fun O O' => ((HST2.out.ref.alloc O).alloc O').two.1; have t1 := fun O O' => ((HST2.out.ref.alloc O).alloc O').two.2.1; have t2 := fun O O' => ((HST2.out.ref.alloc O).alloc O').frozen 0; have t3 := fun O O' => ((HST2.out.ref.alloc O).alloc O').frozen 1))
                      go_rounds 1
                      all_goals go_wp2
                      go_meet
                      exact ⟨l, nw, ob, cp, St.stored (HST2.out.same (by first | exact (Below.refl _ _).alloc (Nat.le_refl _) _ | exact ((Below.refl _ _).alloc (Nat.le_refl _) _).alloc (by simp) _ | exact (((Below.refl _ _).alloc (Nat.le_refl _) _).alloc (by simp) _).alloc (by simp; omega) _)) (by first | exact (HAB2.out.alloc _) | exact ((HAB2.out.alloc _).alloc _) | exact (((HAB2.out.alloc _).alloc _).alloc _)) (by omega)⟩
                    · have hh0 : 0 ≤ (nw + min (max t.n (-1125899906842624)) 1125899906842624) := hT.1
                      have hh1 : (nw + min (max t.n (-1125899906842624)) 1125899906842624) ≤ 281474976710656 := hT.2
                      have HA := Lib.hid (advW_ok HST.out.wh (nw + min (max t.n (-1125899906842624)) 1125899906842624) hh0 hh1 (by omega) (by omega))
                      have HR : Hid (∀ W', RowAt W' ob cp l → Calls Try.prog 46 #[.agg #[.int .i64 nw, .slice ob l.length cp], .int .i64 (nw + min (max t.n (-1125899906842624)) 1125899906842624)] W' _) := Lib.hid fun W' hr' => radvs_ok hr'.memb nw (nw + min (max t.n (-1125899906842624)) 1125899906842624) cp HST.out.wh.fits (by omega) hh0 hh1 (by omega)
                      have hml := moves_le nw (nw + min (max t.n (-1125899906842624)) 1125899906842624) l
                      have HTOK := Lib.hid hT
                      clear hT hh0 hh1 hlt2
                      generalize hxs : moves nw (nw + min (max t.n (-1125899906842624)) 1125899906842624) l = xs at HA HR hml
                      clear hxs
                      go_wp2_with (first
                        | (go_at_call 14; refine HA.out.mono ?_; rintro e w1 ⟨v1, rfl, hov1, hw1, hk1⟩; obtain ⟨o1, c1, rfl⟩ := own_slice hov1; have HM1 := Lib.hid (MovesAt.of_row hov1); clear hov1; obtain ⟨hr1, hrow1, hb01⟩ := HST.out.beside hk1 (fun b _ e => e.elim .inl (fun h => .inr (.inr h))); have HAB1 := Lib.hid (act_kept HST.out.wh hk1 (fun b _ e => e.elim .inl (fun h => .inr (.inr h))) HAB.out); have HRB1 := Lib.hid hr1; have HROW1 := Lib.hid hrow1; have HB01 := Lib.hid hb01; have HW1 := Lib.hid hw1; obtain ⟨x0, x1, x2, x3⟩ := hr1.two; have y1 : w1.cell? ⟨ab, 1, none⟩ = some (.int .i64 t.id) := (by rw [HAB1.out.cell]; rfl); have y2 : w1.cell? ⟨ab, 2, none⟩ = some (.int .i64 t.n) := (by rw [HAB1.out.cell]; rfl); have y3 : w1.cell? ⟨ab, 3, none⟩ = some (.int .i64 t.plan.every) := (by rw [HAB1.out.cell]; rfl); have y4 : w1.cell? ⟨ab, 4, none⟩ = some (.int .i64 t.plan.offset) := (by rw [HAB1.out.cell]; rfl); have y5 : w1.cell? ⟨ab, 5, none⟩ = some (.int .i64 t.plan.timeout) := (by rw [HAB1.out.cell]; rfl); clear hr1 hrow1 hb01 hw1 hk1)
                        | (go_at_call 46; refine (HR.out _ HROW1.out).mono ?_; rintro e w2 ⟨vm, vo, rfl, how2, hoo, hb2⟩; obtain ⟨om, cm, rfl⟩ := own_slice how2; obtain ⟨oo, co, rfl⟩ := own_slice hoo; have HM2 := Lib.hid (HM1.out.below hb2); have HMO := Lib.hid (movesAt_of_row hoo); clear hoo; have HRB2 := Lib.hid (HRB1.out.below hb2 HRB1.out.lt); have HAB2 := Lib.hid (HAB1.out.below hb2 HAB1.out.lt); have HHB2 := Lib.hid hb2; have HOW2 := Lib.hid how2; obtain ⟨x0, x1, x2, x3⟩ := HRB2.out.two; have u0 := fun O => (HRB2.out.alloc O).two.1; have u1 := fun O => (HRB2.out.alloc O).two.2.1; have u2 := fun O => (HRB2.out.alloc O).frozen 0; have u3 := fun O => (HRB2.out.alloc O).frozen 1; have t0 := fun O O' => ((HRB2.out.alloc O).alloc O').two.1; have t1 := fun O O' => ((HRB2.out.alloc O).alloc O').two.2.1; have t2 := fun O O' => ((HRB2.out.alloc O).alloc O').frozen 0; have t3 := fun O O' => ((HRB2.out.alloc O).alloc O').frozen 1; clear how2 hb2))
                      have hb3 : Below w2.heap.size w2 (w2.alloc (.cells #[.int .i64 (nw + min (max t.n (-1125899906842624)) 1125899906842624), .slice om l.length cm] 92)) := (Below.refl _ _).alloc (Nat.le_refl _) _
                      have B27 : Blk (w2.alloc (.cells #[.int .i64 (nw + min (max t.n (-1125899906842624)) 1125899906842624), .slice om l.length cm] 92)) w2.heap.size #[.int .i64 (nw + min (max t.n (-1125899906842624)) 1125899906842624), .slice om l.length cm] 92 := Blk.new _ _ _
                      generalize (w2.alloc (.cells #[.int .i64 (nw + min (max t.n (-1125899906842624)) 1125899906842624), .slice om l.length cm] 92)) = w3 at hb3 B27 ⊢
                      have HB30 := Lib.hid hb3
                      have HB27 := Lib.hid B27
                      have HM3 := Lib.hid (HM2.out.below hb3)
                      have HMO3 := Lib.hid (HMO.out.below hb3)
                      clear hb3 B27 u0 u1 u2 u3 t0 t1 t2 t3 x0 x1 x2 x3 y1 y2 y3 y4 y5
                      go_loopw [103] (fun s103 wx => ∃ i : Nat, i ≤ xs.length ∧ s103 = .int .i64 i ∧ Below w3.heap.size w3 wx) (fun s103 _ => xs.length - (intOf s103).toNat)
                      case atStart => exact ⟨0, Nat.zero_le _, rfl, Below.refl _ _⟩
                      case round =>
                        obtain ⟨i, hi, rfl, hbi⟩ := hrel
                        by_cases hil : i < xs.length
                        · have hilI : (i : Int) < xs.length := by omega
                          have hi0 : (0 : Int) ≤ i := by omega
                          rcases HM3.out.below hbi with ⟨-, e0⟩ | ⟨ga, ca, ea, hga, hca⟩
                          · rw [e0] at hil; simp at hil
                          rcases HMO3.out.below hbi with ⟨-, e0⟩ | ⟨gb, cb, eb, hgb, hcb⟩
                          · rw [e0] at hil; simp at hil
                          simp only [Value.slice.injEq, true_and] at ea eb
                          obtain ⟨rfl, rfl⟩ := ea
                          obtain ⟨rfl, rfl⟩ := eb
                          obtain ⟨a0, a1, a2, a3⟩ := hca i hil
                          obtain ⟨b0, b1, b2, b3⟩ := hcb i hil
                          have HBI := Lib.hid hbi
                          generalize xs[i] = m at a0 a1 a2 a3 b0 b1 b2 b3
                          clear hca hcb hbi
                          go_wp2_with fail
                          refine wp_flow_below rfl (by kernel_rfl) ?_
                          iterate 24 (first
                            | (apply flow_yes
                               · rfl
                               · intro W1 hW K hK
                                 obtain ⟨hc, hf⟩ := bcell hW
                                 go_wp2_with fail
                                 exact hW
                               simp only [Act.put, List.setIfInBounds_toArray, List.set_cons_zero, List.set_cons_succ])
                            | (apply flow_no
                               · rfl
                               simp only [Act.put, List.setIfInBounds_toArray, List.set_cons_zero, List.set_cons_succ]))
                          refine flow_nil fun W1 hW => ?_
                          go_wp2
                          go_roundw
                          case rel => exact ⟨i + 1, by omega, by go_num, HBI.out.trans (hW.mono HBI.out.size)⟩
                          case measure => simp [intOf]; omega
                        · have hge : xs.length ≤ i := by omega
                          have HB3 := Lib.hid (HB30.out.trans (hbi.mono HB30.out.size))
                          have B27r := HB27.out.below hbi HB27.out.lt
                          have hrbr := HRB2.out.below HB3.out HRB2.out.lt
                          obtain ⟨p0, p1, p2, p3⟩ := B27r.two
                          obtain ⟨r0, r1, r2, r3⟩ := hrbr.two
                          clear B27r hrbr hbi
                          go_wp2
                          go_meet
                          have hb23 : ∀ wx, Below w2.heap.size w2 wx → Below w1.heap.size w1 wx := fun wx h => HHB2.out.trans (h.mono HHB2.out.size)
                          have hlq : (l.map (advM nw (nw + min (max t.n (-1125899906842624)) 1125899906842624))).length = l.length := by simp
                          refine ⟨l.map (advM nw (nw + min (max t.n (-1125899906842624)) 1125899906842624)), (nw + min (max t.n (-1125899906842624)) 1125899906842624), om, cm, ?_⟩
                          rw [← hlq]
                          exact stored (HW1.out.below (hb23 _ HB3.out)) (own_below (own_weak (by have := HOW2.out; rw [← hlq] at this; exact this) (Nat.zero_le _)) HB3.out) rfl (HRB2.out.below HB3.out HRB2.out.lt) (sixty_adv HST.out.sixty) (by simp; omega) HTOK.out (HB01.out.trans ((hb23 _ HB3.out).mono HB01.out.size)) (fun b hf => HST.out.fresh b (foot_adv hf)) HST.out.rbf (HAB2.out.below HB3.out HAB2.out.lt)
                  · have HA : Hid (Calls Try.prog 14 #[.pointer (some ⟨pb, 0, none⟩), .int .i64 (nw + min (max t.n (-1125899906842624)) 1125899906842624)] W fun e w' => e = .returned (.tuple #[.slice none 0 0, .int .i64 2]) ∧ W = w') := Lib.hid (advW_arg HST.out.wh (nw + min (max t.n (-1125899906842624)) 1125899906842624) (by unfold Tick at hT; omega))
                    have HR : Hid (∀ W', Calls Try.prog 46 #[.agg #[.int .i64 nw, .slice ob l.length cp], .int .i64 (nw + min (max t.n (-1125899906842624)) 1125899906842624)] W' fun e w' => e = .returned (.tuple #[.agg #[.int .i64 nw, .slice ob l.length cp], .slice none 0 0, .int .i64 2]) ∧ Below W'.heap.size W' w') := Lib.hid fun W' => by
                      have h := radvs_no (w := W') nw (nw + min (max t.n (-1125899906842624)) 1125899906842624) _ ob l.length cp rfl (.inl hT)
                      rw [if_neg hT] at h
                      exact h
                    have HTOK := Lib.hid hT
                    clear hT 
                    go_wp2_with (first
                      | (go_at_call 14; refine HA.out.mono ?_; rintro e w1' ⟨rfl, rfl⟩)
                      | (go_at_call 46; refine (HR.out _).mono ?_; rintro e w2 ⟨rfl, hb2⟩; have HST2 := Lib.hid (HST.out.same hb2); have HAB2 := Lib.hid (HAB.out.below hb2 HAB.out.lt); obtain ⟨x0, x1, x2, x3⟩ := HST2.out.ref.two; have u0 := fun O => (HST2.out.ref.alloc O).two.1; have u1 := fun O => (HST2.out.ref.alloc O).two.2.1; have u2 := fun O => (HST2.out.ref.alloc O).frozen 0; have u3 := fun O => (HST2.out.ref.alloc O).frozen 1; have t0 := fun O O' => ((HST2.out.ref.alloc O).alloc O').two.1; have t1 := fun O O' => ((HST2.out.ref.alloc O).alloc O').two.2.1; have t2 := fun O O' => ((HST2.out.ref.alloc O).alloc O').frozen 0; have t3 := fun O O' => ((HST2.out.ref.alloc O).alloc O').frozen 1))
                    go_rounds 1
                    all_goals go_wp2
                    go_meet
                    exact ⟨l, nw, ob, cp, St.stored (HST2.out.same (by first | exact (Below.refl _ _).alloc (Nat.le_refl _) _ | exact ((Below.refl _ _).alloc (Nat.le_refl _) _).alloc (by simp) _ | exact (((Below.refl _ _).alloc (Nat.le_refl _) _).alloc (by simp) _).alloc (by simp; omega) _)) (by first | exact (HAB2.out.alloc _) | exact ((HAB2.out.alloc _).alloc _) | exact (((HAB2.out.alloc _).alloc _).alloc _)) (by omega)⟩
              · as_aux_lemma =>
                  have hln := HST.out.len
                  have hnw0 := HST.out.tick.1
                  have hnw1 := HST.out.tick.2
                  have hm1 : -1125899906842624 ≤ min (max t.n (-1125899906842624)) 1125899906842624 := by omega
                  have hm2 : min (max t.n (-1125899906842624)) 1125899906842624 ≤ 1125899906842624 := by omega
                  by_cases hT : Tick (nw + min (max t.n (-1125899906842624)) 1125899906842624)
                  · by_cases hlt2 : (nw + min (max t.n (-1125899906842624)) 1125899906842624) < nw
                    · have HA : Hid (Calls Try.prog 14 #[.pointer (some ⟨pb, 0, none⟩), .int .i64 (nw + min (max t.n (-1125899906842624)) 1125899906842624)] W fun e w' => e = .returned (.tuple #[.slice none 0 0, .int .i64 292]) ∧ W = w') := Lib.hid (advW_back HST.out.wh (nw + min (max t.n (-1125899906842624)) 1125899906842624) hT.1 hT.2 hlt2)
                      have HR : Hid (∀ W', Calls Try.prog 46 #[.agg #[.int .i64 nw, .slice ob l.length cp], .int .i64 (nw + min (max t.n (-1125899906842624)) 1125899906842624)] W' fun e w' => e = .returned (.tuple #[.agg #[.int .i64 nw, .slice ob l.length cp], .slice none 0 0, .int .i64 292]) ∧ Below W'.heap.size W' w') := Lib.hid fun W' => by
                        have h := radvs_no (w := W') nw (nw + min (max t.n (-1125899906842624)) 1125899906842624) _ ob l.length cp rfl (.inr ⟨hT, hlt2⟩)
                        rw [if_pos hT] at h
                        exact h
                      have HTOK := Lib.hid hT
                      clear hT hlt2
                      go_wp2_with (first
                        | (go_at_call 14; refine HA.out.mono ?_; rintro e w1' ⟨rfl, rfl⟩)
                        | (go_at_call 46; refine (HR.out _).mono ?_; rintro e w2 ⟨rfl, hb2⟩; have HST2 := Lib.hid (HST.out.same hb2); have HAB2 := Lib.hid (HAB.out.below hb2 HAB.out.lt); obtain ⟨x0, x1, x2, x3⟩ := HST2.out.ref.two; have u0 := fun O => (HST2.out.ref.alloc O).two.1; have u1 := fun O => (HST2.out.ref.alloc O).two.2.1; have u2 := fun O => (HST2.out.ref.alloc O).frozen 0; have u3 := fun O => (HST2.out.ref.alloc O).frozen 1; have t0 := fun O O' => ((HST2.out.ref.alloc O).alloc O').two.1; have t1 := fun O O' => ((HST2.out.ref.alloc O).alloc O').two.2.1; have t2 := fun O O' => ((HST2.out.ref.alloc O).alloc O').frozen 0; have t3 := fun O O' => ((HST2.out.ref.alloc O).alloc O').frozen 1))
                      go_rounds 1
                      all_goals go_wp2
                      go_meet
                      exact ⟨l, nw, ob, cp, St.stored (HST2.out.same (by first | exact (Below.refl _ _).alloc (Nat.le_refl _) _ | exact ((Below.refl _ _).alloc (Nat.le_refl _) _).alloc (by simp) _ | exact (((Below.refl _ _).alloc (Nat.le_refl _) _).alloc (by simp) _).alloc (by simp; omega) _)) (by first | exact (HAB2.out.alloc _) | exact ((HAB2.out.alloc _).alloc _) | exact (((HAB2.out.alloc _).alloc _).alloc _)) (by omega)⟩
                    · have hh0 : 0 ≤ (nw + min (max t.n (-1125899906842624)) 1125899906842624) := hT.1
                      have hh1 : (nw + min (max t.n (-1125899906842624)) 1125899906842624) ≤ 281474976710656 := hT.2
                      have HA := Lib.hid (advW_ok HST.out.wh (nw + min (max t.n (-1125899906842624)) 1125899906842624) hh0 hh1 (by omega) (by omega))
                      have HR : Hid (∀ W', RowAt W' ob cp l → Calls Try.prog 46 #[.agg #[.int .i64 nw, .slice ob l.length cp], .int .i64 (nw + min (max t.n (-1125899906842624)) 1125899906842624)] W' _) := Lib.hid fun W' hr' => radvs_ok hr'.memb nw (nw + min (max t.n (-1125899906842624)) 1125899906842624) cp HST.out.wh.fits (by omega) hh0 hh1 (by omega)
                      have hml := moves_le nw (nw + min (max t.n (-1125899906842624)) 1125899906842624) l
                      have HTOK := Lib.hid hT
                      clear hT hh0 hh1 hlt2
                      generalize hxs : moves nw (nw + min (max t.n (-1125899906842624)) 1125899906842624) l = xs at HA HR hml
                      clear hxs
                      go_wp2_with (first
                        | (go_at_call 14; refine HA.out.mono ?_; rintro e w1 ⟨v1, rfl, hov1, hw1, hk1⟩; obtain ⟨o1, c1, rfl⟩ := own_slice hov1; have HM1 := Lib.hid (MovesAt.of_row hov1); clear hov1; obtain ⟨hr1, hrow1, hb01⟩ := HST.out.beside hk1 (fun b _ e => e.elim .inl (fun h => .inr (.inr h))); have HAB1 := Lib.hid (act_kept HST.out.wh hk1 (fun b _ e => e.elim .inl (fun h => .inr (.inr h))) HAB.out); have HRB1 := Lib.hid hr1; have HROW1 := Lib.hid hrow1; have HB01 := Lib.hid hb01; have HW1 := Lib.hid hw1; obtain ⟨x0, x1, x2, x3⟩ := hr1.two; have y1 : w1.cell? ⟨ab, 1, none⟩ = some (.int .i64 t.id) := (by rw [HAB1.out.cell]; rfl); have y2 : w1.cell? ⟨ab, 2, none⟩ = some (.int .i64 t.n) := (by rw [HAB1.out.cell]; rfl); have y3 : w1.cell? ⟨ab, 3, none⟩ = some (.int .i64 t.plan.every) := (by rw [HAB1.out.cell]; rfl); have y4 : w1.cell? ⟨ab, 4, none⟩ = some (.int .i64 t.plan.offset) := (by rw [HAB1.out.cell]; rfl); have y5 : w1.cell? ⟨ab, 5, none⟩ = some (.int .i64 t.plan.timeout) := (by rw [HAB1.out.cell]; rfl); clear hr1 hrow1 hb01 hw1 hk1)
                        | (go_at_call 46; refine (HR.out _ HROW1.out).mono ?_; rintro e w2 ⟨vm, vo, rfl, how2, hoo, hb2⟩; obtain ⟨om, cm, rfl⟩ := own_slice how2; obtain ⟨oo, co, rfl⟩ := own_slice hoo; have HM2 := Lib.hid (HM1.out.below hb2); have HMO := Lib.hid (movesAt_of_row hoo); clear hoo; have HRB2 := Lib.hid (HRB1.out.below hb2 HRB1.out.lt); have HAB2 := Lib.hid (HAB1.out.below hb2 HAB1.out.lt); have HHB2 := Lib.hid hb2; have HOW2 := Lib.hid how2; obtain ⟨x0, x1, x2, x3⟩ := HRB2.out.two; have u0 := fun O => (HRB2.out.alloc O).two.1; have u1 := fun O => (HRB2.out.alloc O).two.2.1; have u2 := fun O => (HRB2.out.alloc O).frozen 0; have u3 := fun O => (HRB2.out.alloc O).frozen 1; have t0 := fun O O' => ((HRB2.out.alloc O).alloc O').two.1; have t1 := fun O O' => ((HRB2.out.alloc O).alloc O').two.2.1; have t2 := fun O O' => ((HRB2.out.alloc O).alloc O').frozen 0; have t3 := fun O O' => ((HRB2.out.alloc O).alloc O').frozen 1; clear how2 hb2))
                      have hb3 : Below w2.heap.size w2 (w2.alloc (.cells #[.int .i64 (nw + min (max t.n (-1125899906842624)) 1125899906842624), .slice om l.length cm] 92)) := (Below.refl _ _).alloc (Nat.le_refl _) _
                      have B27 : Blk (w2.alloc (.cells #[.int .i64 (nw + min (max t.n (-1125899906842624)) 1125899906842624), .slice om l.length cm] 92)) w2.heap.size #[.int .i64 (nw + min (max t.n (-1125899906842624)) 1125899906842624), .slice om l.length cm] 92 := Blk.new _ _ _
                      generalize (w2.alloc (.cells #[.int .i64 (nw + min (max t.n (-1125899906842624)) 1125899906842624), .slice om l.length cm] 92)) = w3 at hb3 B27 ⊢
                      have HB30 := Lib.hid hb3
                      have HB27 := Lib.hid B27
                      have HM3 := Lib.hid (HM2.out.below hb3)
                      have HMO3 := Lib.hid (HMO.out.below hb3)
                      clear hb3 B27 u0 u1 u2 u3 t0 t1 t2 t3 x0 x1 x2 x3 y1 y2 y3 y4 y5
                      go_loopw [103] (fun s103 wx => ∃ i : Nat, i ≤ xs.length ∧ s103 = .int .i64 i ∧ Below w3.heap.size w3 wx) (fun s103 _ => xs.length - (intOf s103).toNat)
                      case atStart => exact ⟨0, Nat.zero_le _, rfl, Below.refl _ _⟩
                      case round =>
                        obtain ⟨i, hi, rfl, hbi⟩ := hrel
                        by_cases hil : i < xs.length
                        · have hilI : (i : Int) < xs.length := by omega
                          have hi0 : (0 : Int) ≤ i := by omega
                          rcases HM3.out.below hbi with ⟨-, e0⟩ | ⟨ga, ca, ea, hga, hca⟩
                          · rw [e0] at hil; simp at hil
                          rcases HMO3.out.below hbi with ⟨-, e0⟩ | ⟨gb, cb, eb, hgb, hcb⟩
                          · rw [e0] at hil; simp at hil
                          simp only [Value.slice.injEq, true_and] at ea eb
                          obtain ⟨rfl, rfl⟩ := ea
                          obtain ⟨rfl, rfl⟩ := eb
                          obtain ⟨a0, a1, a2, a3⟩ := hca i hil
                          obtain ⟨b0, b1, b2, b3⟩ := hcb i hil
                          have HBI := Lib.hid hbi
                          generalize xs[i] = m at a0 a1 a2 a3 b0 b1 b2 b3
                          clear hca hcb hbi
                          go_wp2_with fail
                          refine wp_flow_below rfl (by kernel_rfl) ?_
                          iterate 24 (first
                            | (apply flow_yes
                               · rfl
                               · intro W1 hW K hK
                                 obtain ⟨hc, hf⟩ := bcell hW
                                 go_wp2_with fail
                                 exact hW
                               simp only [Act.put, List.setIfInBounds_toArray, List.set_cons_zero, List.set_cons_succ])
                            | (apply flow_no
                               · rfl
                               simp only [Act.put, List.setIfInBounds_toArray, List.set_cons_zero, List.set_cons_succ]))
                          refine flow_nil fun W1 hW => ?_
                          go_wp2
                          go_roundw
                          case rel => exact ⟨i + 1, by omega, by go_num, HBI.out.trans (hW.mono HBI.out.size)⟩
                          case measure => simp [intOf]; omega
                        · have hge : xs.length ≤ i := by omega
                          have HB3 := Lib.hid (HB30.out.trans (hbi.mono HB30.out.size))
                          have B27r := HB27.out.below hbi HB27.out.lt
                          have hrbr := HRB2.out.below HB3.out HRB2.out.lt
                          obtain ⟨p0, p1, p2, p3⟩ := B27r.two
                          obtain ⟨r0, r1, r2, r3⟩ := hrbr.two
                          clear B27r hrbr hbi
                          go_wp2
                          go_meet
                          have hb23 : ∀ wx, Below w2.heap.size w2 wx → Below w1.heap.size w1 wx := fun wx h => HHB2.out.trans (h.mono HHB2.out.size)
                          have hlq : (l.map (advM nw (nw + min (max t.n (-1125899906842624)) 1125899906842624))).length = l.length := by simp
                          refine ⟨l.map (advM nw (nw + min (max t.n (-1125899906842624)) 1125899906842624)), (nw + min (max t.n (-1125899906842624)) 1125899906842624), om, cm, ?_⟩
                          rw [← hlq]
                          exact stored (HW1.out.below (hb23 _ HB3.out)) (own_below (own_weak (by have := HOW2.out; rw [← hlq] at this; exact this) (Nat.zero_le _)) HB3.out) rfl (HRB2.out.below HB3.out HRB2.out.lt) (sixty_adv HST.out.sixty) (by simp; omega) HTOK.out (HB01.out.trans ((hb23 _ HB3.out).mono HB01.out.size)) (fun b hf => HST.out.fresh b (foot_adv hf)) HST.out.rbf (HAB2.out.below HB3.out HAB2.out.lt)
                  · have HA : Hid (Calls Try.prog 14 #[.pointer (some ⟨pb, 0, none⟩), .int .i64 (nw + min (max t.n (-1125899906842624)) 1125899906842624)] W fun e w' => e = .returned (.tuple #[.slice none 0 0, .int .i64 2]) ∧ W = w') := Lib.hid (advW_arg HST.out.wh (nw + min (max t.n (-1125899906842624)) 1125899906842624) (by unfold Tick at hT; omega))
                    have HR : Hid (∀ W', Calls Try.prog 46 #[.agg #[.int .i64 nw, .slice ob l.length cp], .int .i64 (nw + min (max t.n (-1125899906842624)) 1125899906842624)] W' fun e w' => e = .returned (.tuple #[.agg #[.int .i64 nw, .slice ob l.length cp], .slice none 0 0, .int .i64 2]) ∧ Below W'.heap.size W' w') := Lib.hid fun W' => by
                      have h := radvs_no (w := W') nw (nw + min (max t.n (-1125899906842624)) 1125899906842624) _ ob l.length cp rfl (.inl hT)
                      rw [if_neg hT] at h
                      exact h
                    have HTOK := Lib.hid hT
                    clear hT 
                    go_wp2_with (first
                      | (go_at_call 14; refine HA.out.mono ?_; rintro e w1' ⟨rfl, rfl⟩)
                      | (go_at_call 46; refine (HR.out _).mono ?_; rintro e w2 ⟨rfl, hb2⟩; have HST2 := Lib.hid (HST.out.same hb2); have HAB2 := Lib.hid (HAB.out.below hb2 HAB.out.lt); obtain ⟨x0, x1, x2, x3⟩ := HST2.out.ref.two; have u0 := fun O => (HST2.out.ref.alloc O).two.1; have u1 := fun O => (HST2.out.ref.alloc O).two.2.1; have u2 := fun O => (HST2.out.ref.alloc O).frozen 0; have u3 := fun O => (HST2.out.ref.alloc O).frozen 1; have t0 := fun O O' => ((HST2.out.ref.alloc O).alloc O').two.1; have t1 := fun O O' => ((HST2.out.ref.alloc O).alloc O').two.2.1; have t2 := fun O O' => ((HST2.out.ref.alloc O).alloc O').frozen 0; have t3 := fun O O' => ((HST2.out.ref.alloc O).alloc O').frozen 1))
                    go_rounds 1
                    all_goals go_wp2
                    go_meet
                    exact ⟨l, nw, ob, cp, St.stored (HST2.out.same (by first | exact (Below.refl _ _).alloc (Nat.le_refl _) _ | exact ((Below.refl _ _).alloc (Nat.le_refl _) _).alloc (by simp) _ | exact (((Below.refl _ _).alloc (Nat.le_refl _) _).alloc (by simp) _).alloc (by simp; omega) _)) (by first | exact (HAB2.out.alloc _) | exact ((HAB2.out.alloc _).alloc _) | exact (((HAB2.out.alloc _).alloc _).alloc _)) (by omega)⟩
              · as_aux_lemma =>
                  have hln := HST.out.len
                  have hnw0 := HST.out.tick.1
                  have hnw1 := HST.out.tick.2
                  by_cases hT : Tick (t.n)
                  · by_cases hlt2 : (t.n) < nw
                    · have HA : Hid (Calls Try.prog 14 #[.pointer (some ⟨pb, 0, none⟩), .int .i64 (t.n)] W fun e w' => e = .returned (.tuple #[.slice none 0 0, .int .i64 292]) ∧ W = w') := Lib.hid (advW_back HST.out.wh (t.n) hT.1 hT.2 hlt2)
                      have HR : Hid (∀ W', Calls Try.prog 46 #[.agg #[.int .i64 nw, .slice ob l.length cp], .int .i64 (t.n)] W' fun e w' => e = .returned (.tuple #[.agg #[.int .i64 nw, .slice ob l.length cp], .slice none 0 0, .int .i64 292]) ∧ Below W'.heap.size W' w') := Lib.hid fun W' => by
                        have h := radvs_no (w := W') nw (t.n) _ ob l.length cp rfl (.inr ⟨hT, hlt2⟩)
                        rw [if_pos hT] at h
                        exact h
                      have HTOK := Lib.hid hT
                      clear hT hlt2
                      go_wp2_with (first
                        | (go_at_call 14; refine HA.out.mono ?_; rintro e w1' ⟨rfl, rfl⟩)
                        | (go_at_call 46; refine (HR.out _).mono ?_; rintro e w2 ⟨rfl, hb2⟩; have HST2 := Lib.hid (HST.out.same hb2); have HAB2 := Lib.hid (HAB.out.below hb2 HAB.out.lt); obtain ⟨x0, x1, x2, x3⟩ := HST2.out.ref.two; have u0 := fun O => (HST2.out.ref.alloc O).two.1; have u1 := fun O => (HST2.out.ref.alloc O).two.2.1; have u2 := fun O => (HST2.out.ref.alloc O).frozen 0; have u3 := fun O => (HST2.out.ref.alloc O).frozen 1; have t0 := fun O O' => ((HST2.out.ref.alloc O).alloc O').two.1; have t1 := fun O O' => ((HST2.out.ref.alloc O).alloc O').two.2.1; have t2 := fun O O' => ((HST2.out.ref.alloc O).alloc O').frozen 0; have t3 := fun O O' => ((HST2.out.ref.alloc O).alloc O').frozen 1))
                      go_rounds 1
                      all_goals go_wp2
                      go_meet
                      exact ⟨l, nw, ob, cp, St.stored (HST2.out.same (by first | exact (Below.refl _ _).alloc (Nat.le_refl _) _ | exact ((Below.refl _ _).alloc (Nat.le_refl _) _).alloc (by simp) _ | exact (((Below.refl _ _).alloc (Nat.le_refl _) _).alloc (by simp) _).alloc (by simp; omega) _)) (by first | exact (HAB2.out.alloc _) | exact ((HAB2.out.alloc _).alloc _) | exact (((HAB2.out.alloc _).alloc _).alloc _)) (by omega)⟩
                    · have hh0 : 0 ≤ (t.n) := hT.1
                      have hh1 : (t.n) ≤ 281474976710656 := hT.2
                      have HA := Lib.hid (advW_ok HST.out.wh (t.n) hh0 hh1 (by omega) (by omega))
                      have HR : Hid (∀ W', RowAt W' ob cp l → Calls Try.prog 46 #[.agg #[.int .i64 nw, .slice ob l.length cp], .int .i64 (t.n)] W' _) := Lib.hid fun W' hr' => radvs_ok hr'.memb nw (t.n) cp HST.out.wh.fits (by omega) hh0 hh1 (by omega)
                      have hml := moves_le nw (t.n) l
                      have HTOK := Lib.hid hT
                      clear hT hh0 hh1 hlt2
                      generalize hxs : moves nw (t.n) l = xs at HA HR hml
                      clear hxs
                      go_wp2_with (first
                        | (go_at_call 14; refine HA.out.mono ?_; rintro e w1 ⟨v1, rfl, hov1, hw1, hk1⟩; obtain ⟨o1, c1, rfl⟩ := own_slice hov1; have HM1 := Lib.hid (MovesAt.of_row hov1); clear hov1; obtain ⟨hr1, hrow1, hb01⟩ := HST.out.beside hk1 (fun b _ e => e.elim .inl (fun h => .inr (.inr h))); have HAB1 := Lib.hid (act_kept HST.out.wh hk1 (fun b _ e => e.elim .inl (fun h => .inr (.inr h))) HAB.out); have HRB1 := Lib.hid hr1; have HROW1 := Lib.hid hrow1; have HB01 := Lib.hid hb01; have HW1 := Lib.hid hw1; obtain ⟨x0, x1, x2, x3⟩ := hr1.two; have y1 : w1.cell? ⟨ab, 1, none⟩ = some (.int .i64 t.id) := (by rw [HAB1.out.cell]; rfl); have y2 : w1.cell? ⟨ab, 2, none⟩ = some (.int .i64 t.n) := (by rw [HAB1.out.cell]; rfl); have y3 : w1.cell? ⟨ab, 3, none⟩ = some (.int .i64 t.plan.every) := (by rw [HAB1.out.cell]; rfl); have y4 : w1.cell? ⟨ab, 4, none⟩ = some (.int .i64 t.plan.offset) := (by rw [HAB1.out.cell]; rfl); have y5 : w1.cell? ⟨ab, 5, none⟩ = some (.int .i64 t.plan.timeout) := (by rw [HAB1.out.cell]; rfl); clear hr1 hrow1 hb01 hw1 hk1)
                        | (go_at_call 46; refine (HR.out _ HROW1.out).mono ?_; rintro e w2 ⟨vm, vo, rfl, how2, hoo, hb2⟩; obtain ⟨om, cm, rfl⟩ := own_slice how2; obtain ⟨oo, co, rfl⟩ := own_slice hoo; have HM2 := Lib.hid (HM1.out.below hb2); have HMO := Lib.hid (movesAt_of_row hoo); clear hoo; have HRB2 := Lib.hid (HRB1.out.below hb2 HRB1.out.lt); have HAB2 := Lib.hid (HAB1.out.below hb2 HAB1.out.lt); have HHB2 := Lib.hid hb2; have HOW2 := Lib.hid how2; obtain ⟨x0, x1, x2, x3⟩ := HRB2.out.two; have u0 := fun O => (HRB2.out.alloc O).two.1; have u1 := fun O => (HRB2.out.alloc O).two.2.1; have u2 := fun O => (HRB2.out.alloc O).frozen 0; have u3 := fun O => (HRB2.out.alloc O).frozen 1; have t0 := fun O O' => ((HRB2.out.alloc O).alloc O').two.1; have t1 := fun O O' => ((HRB2.out.alloc O).alloc O').two.2.1; have t2 := fun O O' => ((HRB2.out.alloc O).alloc O').frozen 0; have t3 := fun O O' => ((HRB2.out.alloc O).alloc O').frozen 1; clear how2 hb2))
                      have hb3 : Below w2.heap.size w2 (w2.alloc (.cells #[.int .i64 (t.n), .slice om l.length cm] 92)) := (Below.refl _ _).alloc (Nat.le_refl _) _
                      have B27 : Blk (w2.alloc (.cells #[.int .i64 (t.n), .slice om l.length cm] 92)) w2.heap.size #[.int .i64 (t.n), .slice om l.length cm] 92 := Blk.new _ _ _
                      generalize (w2.alloc (.cells #[.int .i64 (t.n), .slice om l.length cm] 92)) = w3 at hb3 B27 ⊢
                      have HB30 := Lib.hid hb3
                      have HB27 := Lib.hid B27
                      have HM3 := Lib.hid (HM2.out.below hb3)
                      have HMO3 := Lib.hid (HMO.out.below hb3)
                      clear hb3 B27 u0 u1 u2 u3 t0 t1 t2 t3 x0 x1 x2 x3 y1 y2 y3 y4 y5
                      go_loopw [103] (fun s103 wx => ∃ i : Nat, i ≤ xs.length ∧ s103 = .int .i64 i ∧ Below w3.heap.size w3 wx) (fun s103 _ => xs.length - (intOf s103).toNat)
                      case atStart => exact ⟨0, Nat.zero_le _, rfl, Below.refl _ _⟩
                      case round =>
                        obtain ⟨i, hi, rfl, hbi⟩ := hrel
                        by_cases hil : i < xs.length
                        · have hilI : (i : Int) < xs.length := by omega
                          have hi0 : (0 : Int) ≤ i := by omega
                          rcases HM3.out.below hbi with ⟨-, e0⟩ | ⟨ga, ca, ea, hga, hca⟩
                          · rw [e0] at hil; simp at hil
                          rcases HMO3.out.below hbi with ⟨-, e0⟩ | ⟨gb, cb, eb, hgb, hcb⟩
                          · rw [e0] at hil; simp at hil
                          simp only [Value.slice.injEq, true_and] at ea eb
                          obtain ⟨rfl, rfl⟩ := ea
                          obtain ⟨rfl, rfl⟩ := eb
                          obtain ⟨a0, a1, a2, a3⟩ := hca i hil
                          obtain ⟨b0, b1, b2, b3⟩ := hcb i hil
                          have HBI := Lib.hid hbi
                          generalize xs[i] = m at a0 a1 a2 a3 b0 b1 b2 b3
                          clear hca hcb hbi
                          go_wp2_with fail
                          refine wp_flow_below rfl (by kernel_rfl) ?_
                          iterate 24 (first
                            | (apply flow_yes
                               · rfl
                               · intro W1 hW K hK
                                 obtain ⟨hc, hf⟩ := bcell hW
                                 go_wp2_with fail
                                 exact hW
                               simp only [Act.put, List.setIfInBounds_toArray, List.set_cons_zero, List.set_cons_succ])
                            | (apply flow_no
                               · rfl
                               simp only [Act.put, List.setIfInBounds_toArray, List.set_cons_zero, List.set_cons_succ]))
                          refine flow_nil fun W1 hW => ?_
                          go_wp2
                          go_roundw
                          case rel => exact ⟨i + 1, by omega, by go_num, HBI.out.trans (hW.mono HBI.out.size)⟩
                          case measure => simp [intOf]; omega
                        · have hge : xs.length ≤ i := by omega
                          have HB3 := Lib.hid (HB30.out.trans (hbi.mono HB30.out.size))
                          have B27r := HB27.out.below hbi HB27.out.lt
                          have hrbr := HRB2.out.below HB3.out HRB2.out.lt
                          obtain ⟨p0, p1, p2, p3⟩ := B27r.two
                          obtain ⟨r0, r1, r2, r3⟩ := hrbr.two
                          clear B27r hrbr hbi
                          go_wp2
                          go_meet
                          have hb23 : ∀ wx, Below w2.heap.size w2 wx → Below w1.heap.size w1 wx := fun wx h => HHB2.out.trans (h.mono HHB2.out.size)
                          have hlq : (l.map (advM nw (t.n))).length = l.length := by simp
                          refine ⟨l.map (advM nw (t.n)), (t.n), om, cm, ?_⟩
                          rw [← hlq]
                          exact stored (HW1.out.below (hb23 _ HB3.out)) (own_below (own_weak (by have := HOW2.out; rw [← hlq] at this; exact this) (Nat.zero_le _)) HB3.out) rfl (HRB2.out.below HB3.out HRB2.out.lt) (sixty_adv HST.out.sixty) (by simp; omega) HTOK.out (HB01.out.trans ((hb23 _ HB3.out).mono HB01.out.size)) (fun b hf => HST.out.fresh b (foot_adv hf)) HST.out.rbf (HAB2.out.below HB3.out HAB2.out.lt)
                  · have HA : Hid (Calls Try.prog 14 #[.pointer (some ⟨pb, 0, none⟩), .int .i64 (t.n)] W fun e w' => e = .returned (.tuple #[.slice none 0 0, .int .i64 2]) ∧ W = w') := Lib.hid (advW_arg HST.out.wh (t.n) (by unfold Tick at hT; omega))
                    have HR : Hid (∀ W', Calls Try.prog 46 #[.agg #[.int .i64 nw, .slice ob l.length cp], .int .i64 (t.n)] W' fun e w' => e = .returned (.tuple #[.agg #[.int .i64 nw, .slice ob l.length cp], .slice none 0 0, .int .i64 2]) ∧ Below W'.heap.size W' w') := Lib.hid fun W' => by
                      have h := radvs_no (w := W') nw (t.n) _ ob l.length cp rfl (.inl hT)
                      rw [if_neg hT] at h
                      exact h
                    have HTOK := Lib.hid hT
                    clear hT 
                    go_wp2_with (first
                      | (go_at_call 14; refine HA.out.mono ?_; rintro e w1' ⟨rfl, rfl⟩)
                      | (go_at_call 46; refine (HR.out _).mono ?_; rintro e w2 ⟨rfl, hb2⟩; have HST2 := Lib.hid (HST.out.same hb2); have HAB2 := Lib.hid (HAB.out.below hb2 HAB.out.lt); obtain ⟨x0, x1, x2, x3⟩ := HST2.out.ref.two; have u0 := fun O => (HST2.out.ref.alloc O).two.1; have u1 := fun O => (HST2.out.ref.alloc O).two.2.1; have u2 := fun O => (HST2.out.ref.alloc O).frozen 0; have u3 := fun O => (HST2.out.ref.alloc O).frozen 1; have t0 := fun O O' => ((HST2.out.ref.alloc O).alloc O').two.1; have t1 := fun O O' => ((HST2.out.ref.alloc O).alloc O').two.2.1; have t2 := fun O O' => ((HST2.out.ref.alloc O).alloc O').frozen 0; have t3 := fun O O' => ((HST2.out.ref.alloc O).alloc O').frozen 1))
                    go_rounds 1
                    all_goals go_wp2
                    go_meet
                    exact ⟨l, nw, ob, cp, St.stored (HST2.out.same (by first | exact (Below.refl _ _).alloc (Nat.le_refl _) _ | exact ((Below.refl _ _).alloc (Nat.le_refl _) _).alloc (by simp) _ | exact (((Below.refl _ _).alloc (Nat.le_refl _) _).alloc (by simp) _).alloc (by simp; omega) _)) (by first | exact (HAB2.out.alloc _) | exact ((HAB2.out.alloc _).alloc _) | exact (((HAB2.out.alloc _).alloc _).alloc _)) (by omega)⟩
            case rest =>
              as_aux_lemma =>
                obtain ⟨l', nw', ob', cp', hst', hab'⟩ := hcut
                obtain ⟨z0, z1, z2, z3⟩ := hst'.ref.two
                have zi : wc.cell? ⟨ab, 1, none⟩ = some (.int .i64 t.id) := by rw [hab'.cell]; rfl
                have TL := Lib.hid (tells_any hst'.wh hst'.row t.id (wf64 HOK.out.2.1) (by have := hst'.len; omega) hst'.sixty)
                have HST2 := Lib.hid hst'
                clear hst' hab' x0 x1 x2 x3 y1 y2 y3 y4 y5
                go_wp2_with (first | (go_at_call 47; refine TL.out.mono ?_; rintro e w9 ⟨rfl, hb9⟩))
                go_roundw
                case rel => exact ⟨k + 1, l', nw', ob', cp', by omega, by go_num, HST2.out.same hb9⟩
                case measure => simp [intOf]; omega
          · have hge : T.length ≤ k := by omega
            obtain ⟨x0, x1, -, -⟩ := hst.ref.two
            have TL := Lib.hid (tells_any hst.wh hst.row 7 (by decide) (by have := hst.len; omega) hst.sixty)
            have HST := Lib.hid hst
            clear hst
            go_wp2_with (first | (go_at_call 47; refine TL.out.mono ?_; rintro e w9 ⟨rfl, hb9⟩))
            go_ret
            exact ⟨rfl, HBA.out.trans ((HST.out.same hb9).below.mono hza)⟩
    · have hnew := Lib.hid (new_no now (by unfold Tick at ht; omega) wa)
      have htk := fun W => rtick_any now W
      rw [decide_eq_false ht] at htk
      have HTK := Lib.hid htk
      clear ht htk
      go_wp2_with (first
        | (go_at_call 17; refine hnew.out.mono ?_; rintro e w1 ⟨rfl, rfl⟩)
        | (go_at_call 42; refine (HTK.out _).mono ?_; rintro e w' ⟨rfl, rfl⟩))
      go_ret
      exact ⟨rfl, hba⟩
end Go.Proofs.Ytokgfmibhkkiaaa
