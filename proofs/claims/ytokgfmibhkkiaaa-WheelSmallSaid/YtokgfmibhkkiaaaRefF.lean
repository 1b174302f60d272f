/- The reference's Advance of all members. -/
import Derived.Test.YtokgfmibhkkiaaaRefE
import Derived.Test.YtokgfmibhkkiaaaAdvW
import Derived.Test.YtokgfmibhkkiaaaGrow
namespace Go.Proofs.Ytokgfmibhkkiaaa
open Go.RowKit Wh Tw Mem

theorem info106 : (Try.prog.info? 106).map (fun i => (i.zero, i.size, i.bytes)) = some (some (.agg #[.int .i64 0, .int .i64 0, .int .i64 0, .int .i64 0]), 4, 32) := by kernel_rfl
theorem info118 : (Try.prog.info? 118).map (fun i => (i.zero, i.size, i.bytes)) = some (some (.agg #[.int .i64 0, .int .i64 0, .int .i64 0, .int .i64 0, .int .u8 0, .int .i64 0]), 6, 48) := by kernel_rfl

/-- rejected: what is not a tick, and what lies before now -/
theorem radvs_no {w : World} (now to' : Int) (v : Value) (ob : Option Addr) (n cap : Nat) (hv : v = .slice ob n cap) (h : ¬ Tick to' ∨ (Tick to' ∧ to' < now)) :
    Calls Try.prog 46 #[.agg #[.int .i64 now, v], .int .i64 to'] w fun e w' => e = .returned (.tuple #[.agg #[.int .i64 now, v], .slice none 0 0, .int .i64 (if Tick to' then 292 else 2)]) ∧ Below w.heap.size w w' := by
  subst hv
  rcases h with h | ⟨h, hlt⟩
  · have hti := fun W => rtick_any to' W
    rw [decide_eq_false h] at hti
    have HTI := Lib.hid hti
    rw [if_neg h]
    clear hti h
    go_enter Try.func46, Try.ntmps46
    go_wp2_with (first | (go_at_call 42; refine (HTI.out _).mono ?_; rintro e w' ⟨rfl, rfl⟩))
    refine bodyPost_ret ?_ rfl ⟨rfl, ?_⟩
    · simp [results, Try.results46, go_sem]
    · go_grown
  · have hti := fun W => rtick_any to' W
    rw [decide_eq_true h] at hti
    have HTI := Lib.hid hti
    rw [if_pos h]
    clear hti h
    go_enter Try.func46, Try.ntmps46
    go_wp2_with (first | (go_at_call 42; refine (HTI.out _).mono ?_; rintro e w' ⟨rfl, rfl⟩))
    refine bodyPost_ret ?_ rfl ⟨rfl, ?_⟩
    · simp [results, Try.results46, go_sem]
    · go_grown

theorem own_apart {w : World} {b1 b2 : Nat} {e1 e2 : TypeId} {s1 s2 : Nat} {v1 v2 : Value} {n1 n2 : Nat} {xs1 xs2 : List Value} (h1 : w.ownsRow b1 e1 s1 v1 n1 xs1) (h2 : w.ownsRow b2 e2 s2 v2 n2 xs2) (he : e1 ≠ e2) :
    ∀ g, v1.ownBlock = some g → v2.ownBlock ≠ some g := by
  intro g k1 k2
  rcases h1.2 with ⟨rfl, -⟩ | ⟨g1, c1, cur1, rfl, -, hg1, -⟩
  · simp [Value.ownBlock] at k1
  · rcases h2.2 with ⟨rfl, -⟩ | ⟨g2, c2, cur2, rfl, -, hg2, -⟩
    · simp [Value.ownBlock] at k2
    · simp [Value.ownBlock] at k1 k2
      subst k1 k2
      rw [hg1] at hg2
      simp at hg2
      exact he hg2.2
/-- a row stays through what another row's append does -/
theorem own_beside {w w' : World} {b1 : Nat} {e1 : TypeId} {s1 : Nat} {v1 : Value} {n1 : Nat} {xs1 : List Value} {r : Option Nat} (h1 : w.ownsRow b1 e1 s1 v1 n1 xs1) (hg : w.grownBy w' r) (hr : ∀ g, v1.ownBlock = some g → r ≠ some g) : w'.ownsRow b1 e1 s1 v1 n1 xs1 := by
  refine ⟨h1.1, ?_⟩
  rcases h1.2 with hn | ⟨g, c, cur, rfl, hb, hh, rest⟩
  · exact .inl hn
  · refine .inr ⟨g, c, cur, rfl, hb, ?_, rest⟩
    exact (hg.block g (Array.getElem?_eq_some_iff.1 hh).1 (fun e => hr g rfl e.symm)).trans hh
theorem own_below {w w' : World} {b1 : Nat} {e1 : TypeId} {s1 : Nat} {v1 : Value} {n1 : Nat} {xs1 : List Value} (h1 : w.ownsRow b1 e1 s1 v1 n1 xs1) (hb : Below w.heap.size w w') : w'.ownsRow b1 e1 s1 v1 n1 xs1 := own_at h1 fun g _ h => hb.block g h
theorem blk_beside {w w' : World} {b : Nat} {cs : Array Value} {t : TypeId} {r : Option Nat} (h : Blk w b cs t) (hg : w.grownBy w' r) (hr : r ≠ some b) : Blk w' b cs t := (hg.block b h.lt (fun e => hr e.symm)).trans h
theorem own_not {w : World} {b1 : Nat} {e1 : TypeId} {s1 : Nat} {v1 : Value} {n1 : Nat} {xs1 : List Value} (h1 : w.ownsRow b1 e1 s1 v1 n1 xs1) {b : Nat} (hb : b < b1) : v1.ownBlock ≠ some b := fun e => by have := (h1.lt b e).1; omega
theorem own_type {w : World} {b1 : Nat} {e1 : TypeId} {s1 : Nat} {v1 : Value} {n1 : Nat} {xs1 : List Value} (h : w.ownsRow b1 e1 s1 v1 n1 xs1) {b : Nat} {cs : Array Value} {t : TypeId} (hb : Blk w b cs t) (ht : e1 ≠ t) : v1.ownBlock ≠ some b := by
  intro k
  rcases h.2 with ⟨rfl, -⟩ | ⟨g, c, cur, rfl, -, hg, -⟩
  · simp [Value.ownBlock] at k
  · simp [Value.ownBlock] at k
    subst k
    unfold Blk at hb
    rw [hg] at hb
    simp at hb
    exact ht hb.2
theorem kept_grown {X : Nat → Prop} {a b c : World} {r : Option Nat} (h : Kept X a b) (hg : b.grownBy c r) (hr : ∀ k, r = some k → k < a.heap.size → X k) : Kept X a c :=
  h.trans' (Y := fun i => some i = r) ⟨hg.os, hg.tape, hg.output, hg.size, fun k hk hn => hg.block k hk hn⟩ (fun i hi e => hr i e.symm hi)
theorem own_slice {w : World} {b1 : Nat} {e1 : TypeId} {s1 : Nat} {v1 : Value} {n1 : Nat} {xs1 : List Value} (h : w.ownsRow b1 e1 s1 v1 n1 xs1) : ∃ ob c, v1 = .slice ob n1 c := by
  rcases h.2 with ⟨rfl, rfl⟩ | ⟨g, c, cur, rfl, -⟩
  · exact ⟨_, _, rfl⟩
  · exact ⟨_, _, rfl⟩
def flatC (l : List Mb) : List Value := (l.map core).flatMap cellsC

set_option maxHeartbeats 8000000 in
set_option maxRecDepth 100000 in
theorem radvs_ok {w : World} {ob : Option Addr} {l : List Mb} (h : MembAt w ob (l.map core)) (now b : Int) (cap : Nat) (hf : ∀ m ∈ l, Fits m.plan m.phase now) (hnb : now ≤ b) (h0 : 0 ≤ b) (h1 : b ≤ 281474976710656) (hlen : l.length ≤ 10000) :
    Calls Try.prog 46 #[.agg #[.int .i64 now, .slice ob l.length cap], .int .i64 b] w fun e w' => ∃ vm vo, e = .returned (.tuple #[.agg #[.int .i64 b, vm], vo, .int .i64 0]) ∧
      w'.ownsRow w.heap.size 118 6 vm l.length (flatC (l.map (advM now b))) ∧ w'.ownsRow w.heap.size 106 4 vo (moves now b l).length ((moves now b l).flatMap mvCells) ∧ Below w.heap.size w w' := by
  have hti := fun W => rtick_any b W
  rw [decide_eq_true (show Tick b from ⟨h0, h1⟩)] at hti
  have HTI := Lib.hid hti
  have HM0 := Lib.hid h
  have HF := Lib.hid hf
  obtain ⟨i0, hi0, hi1, hi2, hi3⟩ := info_parts info106
  obtain ⟨j0, hj0, hj1, hj2, hj3⟩ := info_parts info118
  clear hti h hf
  go_enter Try.func46, Try.ntmps46
  go_wp2_with (first | (go_at_call 42; refine (HTI.out _).mono ?_; rintro e w' ⟨rfl, rfl⟩))
  have hdf : decide (b < now) = false := by simp; omega
  simp only [hdf]
  clear hdf
  have B2 : Blk (((w.alloc (.cells #[.int .i64 now, .slice ob l.length cap] 92)).alloc (.cells #[.int .i64 0, .slice none 0 0] 92)).alloc (.cells #[.int .i64 b, .slice none 0 0] 92)) w.heap.size #[.int .i64 now, .slice ob l.length cap] 92 := ((Blk.new w _ 92).alloc _).alloc _
  have B4 : Blk (((w.alloc (.cells #[.int .i64 now, .slice ob l.length cap] 92)).alloc (.cells #[.int .i64 0, .slice none 0 0] 92)).alloc (.cells #[.int .i64 b, .slice none 0 0] 92)) (w.heap.size + 1) #[.int .i64 0, .slice none 0 0] 92 := (Blk.new' (w := w.alloc _) _ 92 (by simp)).alloc _
  have B8 : Blk (((w.alloc (.cells #[.int .i64 now, .slice ob l.length cap] 92)).alloc (.cells #[.int .i64 0, .slice none 0 0] 92)).alloc (.cells #[.int .i64 b, .slice none 0 0] 92)) (w.heap.size + 1 + 1) #[.int .i64 b, .slice none 0 0] 92 := Blk.new' (w := (w.alloc _).alloc _) _ 92 (by simp)
  have hb3 : Below w.heap.size w (((w.alloc (.cells #[.int .i64 now, .slice ob l.length cap] 92)).alloc (.cells #[.int .i64 0, .slice none 0 0] 92)).alloc (.cells #[.int .i64 b, .slice none 0 0] 92)) := (((Below.refl w.heap.size w).alloc (Nat.le_refl _) _).alloc (by simp) _).alloc (by simp; omega) _
  generalize (((w.alloc (.cells #[.int .i64 now, .slice ob l.length cap] 92)).alloc (.cells #[.int .i64 0, .slice none 0 0] 92)).alloc (.cells #[.int .i64 b, .slice none 0 0] 92)) = W3 at B2 B4 B8 hb3 ⊢
  have HB2 := Lib.hid B2
  have HB4 := Lib.hid B4
  have hl8 := B8.lt
  go_loopw [7, 9] (fun v i wr => ∃ k : Nat, k ≤ l.length ∧ i = .int .i64 k ∧ ∃ vm, wr.ownsRow W3.heap.size 106 4 v (moves now b (l.take k)).length ((moves now b (l.take k)).flatMap mvCells) ∧ Blk wr (w.heap.size + 1 + 1) #[.int .i64 b, vm] 92 ∧ wr.ownsRow W3.heap.size 118 6 vm k (flatC ((l.take k).map (advM now b))) ∧ Kept (fun i => i = w.heap.size + 1 + 1) W3 wr) (fun _ i _ => l.length - (intOf i).toNat)
  case atStart => exact ⟨0, Nat.zero_le _, rfl, _, by simpa [moves] using World.ownsRow_nil _ _ _ _, B8, by simpa [flatC] using World.ownsRow_nil _ _ _ _, Kept.refl _ _⟩
  case round =>
    obtain ⟨k, hk, rfl, vm, hov, h8, hom, hkp⟩ := hrel
    have hsr := hkp.size
    have hbw : Below w.heap.size w wr := hb3.trans (hkp.belowOf hb3.size (fun i hi e => by omega))
    have HOV := Lib.hid hov
    have HOM := Lib.hid hom
    have H8 := Lib.hid h8
    clear hov hom h8 B2 B4 B8
    have B2r := HB2.out.kept hkp (by omega)
    obtain ⟨x20, x21, _⟩ := B2r.two
    have x30 := fun O O' => ((B2r.alloc O).alloc O').two.1
    clear B2r
    by_cases hlt : k < l.length
    · obtain ⟨g, rfl, hg, c0, c1, c2, c3, c4, c5⟩ := HM0.out k (by simpa using hlt)
      simp only [List.getElem_map, core] at c0 c1 c2 c3 c4 c5
      have hsn := moves_snoc now b l k hlt
      have hmle := moves_le now b (l.take k)
      rw [List.length_take] at hmle
      have hfl : flatC ((l.take (k + 1)).map (advM now b)) = flatC ((l.take k).map (advM now b)) ++ cellsC (core (advM now b l[k])) := by
        unfold flatC
        rw [List.take_succ_eq_append_getElem hlt, List.map_append, List.map_append, List.flatMap_append]
        congr 1
      obtain ⟨m, hm⟩ : ∃ m, m = l[k] := ⟨_, rfl⟩
      rw [← hm] at c0 c1 c2 c3 c4 c5 hsn hfl
      have hmem : m ∈ l := by rw [hm]; exact List.getElem_mem hlt
      have hcall := fun W => radv_any m.plan m.phase now b (HF.out _ hmem) hnb ⟨h0, h1⟩ W
      obtain ⟨ad, had⟩ : ∃ ad, ad = adv m.plan m.phase now b := ⟨_, rfl⟩
      have hre : repM now b m = ad.2 := by rw [had]; rfl
      have hce : cellsC (core (advM now b m)) = [.int .i64 m.id, .int .i64 m.plan.every, .int .i64 m.plan.offset, .int .i64 m.plan.timeout, .int .u8 ad.1.state, .int .i64 ad.1.since] := by rw [had]; rfl
      rw [← had] at hcall
      rw [hre] at hsn
      rw [hce] at hfl
      simp only [aggP, aggS, aggQ] at hcall
      have HC := Lib.hid hcall
      have HSN := Lib.hid hsn
      have HFL := Lib.hid hfl
      have key : ∀ o, wr.cell? ⟨g, o, none⟩ = w.cell? ⟨g, o, none⟩ := fun o => hbw.cell (p := ⟨g, o, none⟩) hg
      have d0 := (key _).trans c0
      have d1 := (key _).trans c1
      have d2 := (key _).trans c2
      have d3 := (key _).trans c3
      have d4 := (key _).trans c4
      have d5 := (key _).trans c5
      clear hcall hsn hfl had hre hce hm hmem key c0 c1 c2 c3 c4 c5
      go_wp2_with fail
      refine (HC.out _).mono ?_
      rintro e w1 ⟨rfl, hb1⟩
      have BM := ((Blk.new wr #[.int .i64 m.id, .int .i64 m.plan.every, .int .i64 m.plan.offset, .int .i64 m.plan.timeout, .int .u8 m.phase.state, .int .i64 m.phase.since] 118).alloc (.cells #[.int .i64 0, .int .i64 0, .int .i64 0] 104)).below hb1 (by simp; omega)
      have BZ := (Blk.new' (w := wr.alloc (.cells #[.int .i64 m.id, .int .i64 m.plan.every, .int .i64 m.plan.offset, .int .i64 m.plan.timeout, .int .u8 m.phase.state, .int .i64 m.phase.since] 118)) (b := wr.heap.size + 1) #[.int .i64 0, .int .i64 0, .int .i64 0] 104 (by simp)).below hb1 (by simp)
      have hbr1 : Below wr.heap.size wr w1 := (((Below.refl wr.heap.size wr).alloc (Nat.le_refl _) _).alloc (by simp) _).trans (hb1.mono (by simp; omega))
      have y4 : w1.cell? ⟨wr.heap.size, 4, none⟩ = some (.int .u8 m.phase.state) := by rw [BM.cell]; rfl
      have y5 : w1.cell? ⟨wr.heap.size, 5, none⟩ = some (.int .i64 m.phase.since) := by rw [BM.cell]; rfl
      have f4 := BM.frozen 4
      have f5 := BM.frozen 5
      obtain ⟨z0, z1, z2, g0, g1, g2⟩ := BZ.three
      clear hb1 d0 d1 d2 d3 d4 d5 x20 x21 x30
      go_upto_region 13 with (fail)
      have n1 : wr.heap.size ≠ wr.heap.size + 1 := by omega
      have CM : Blk (((((w1.setCell ⟨wr.heap.size, 4, none⟩ (.int .u8 ad.1.state)).setCell ⟨wr.heap.size, 5, none⟩ (.int .i64 ad.1.since)).setCell ⟨wr.heap.size + 1, 0, none⟩ (.int .i64 ad.2.begun)).setCell ⟨wr.heap.size + 1, 1, none⟩ (.int .i64 ad.2.failed)).setCell ⟨wr.heap.size + 1, 2, none⟩ (.int .i64 ad.2.skipped)) wr.heap.size #[.int .i64 m.id, .int .i64 m.plan.every, .int .i64 m.plan.offset, .int .i64 m.plan.timeout, .int .u8 ad.1.state, .int .i64 ad.1.since] 118 := ((((BM.set 4 _).set 5 _).setOther (p := ⟨wr.heap.size + 1, 0, none⟩) n1 _).setOther (p := ⟨wr.heap.size + 1, 1, none⟩) n1 _).setOther (p := ⟨wr.heap.size + 1, 2, none⟩) n1 _
      have CZ : Blk (((((w1.setCell ⟨wr.heap.size, 4, none⟩ (.int .u8 ad.1.state)).setCell ⟨wr.heap.size, 5, none⟩ (.int .i64 ad.1.since)).setCell ⟨wr.heap.size + 1, 0, none⟩ (.int .i64 ad.2.begun)).setCell ⟨wr.heap.size + 1, 1, none⟩ (.int .i64 ad.2.failed)).setCell ⟨wr.heap.size + 1, 2, none⟩ (.int .i64 ad.2.skipped)) (wr.heap.size + 1) #[.int .i64 ad.2.begun, .int .i64 ad.2.failed, .int .i64 ad.2.skipped] 104 := ((((BZ.setOther (p := ⟨wr.heap.size, 4, none⟩) n1.symm _).setOther (p := ⟨wr.heap.size, 5, none⟩) n1.symm _).set 0 _).set 1 _).set 2 _
      have hbr2 : Below wr.heap.size wr (((((w1.setCell ⟨wr.heap.size, 4, none⟩ (.int .u8 ad.1.state)).setCell ⟨wr.heap.size, 5, none⟩ (.int .i64 ad.1.since)).setCell ⟨wr.heap.size + 1, 0, none⟩ (.int .i64 ad.2.begun)).setCell ⟨wr.heap.size + 1, 1, none⟩ (.int .i64 ad.2.failed)).setCell ⟨wr.heap.size + 1, 2, none⟩ (.int .i64 ad.2.skipped)) := by go_grown
      clear BM BZ hbr1 y4 y5 f4 f5 z0 z1 z2 g0 g1 g2 n1
      generalize (((((w1.setCell ⟨wr.heap.size, 4, none⟩ (.int .u8 ad.1.state)).setCell ⟨wr.heap.size, 5, none⟩ (.int .i64 ad.1.since)).setCell ⟨wr.heap.size + 1, 0, none⟩ (.int .i64 ad.2.begun)).setCell ⟨wr.heap.size + 1, 1, none⟩ (.int .i64 ad.2.failed)).setCell ⟨wr.heap.size + 1, 2, none⟩ (.int .i64 ad.2.skipped)) = W2 at CM CZ hbr2 ⊢
      have hz2 := hbr2.size
      have hcml := CM.lt
      have hczl := CZ.lt
      obtain ⟨z0, z1, z2, _⟩ := CZ.three
      have HCM := Lib.hid CM
      have HV2 := Lib.hid (own_below HOV.out hbr2)
      have HMB2 := Lib.hid (own_below HOM.out hbr2)
      have H82 := Lib.hid (H8.out.below hbr2 H8.out.lt)
      have hkp2 : Kept (fun i => i = w.heap.size + 1 + 1) W3 W2 := kept_then hkp (hbr2.mono hsr)
      clear CM CZ
      obtain ⟨lo, hlo⟩ : ∃ lo, decide (Loud ad.2) = lo := ⟨_, rfl⟩
      have HLO := Lib.hid hlo
      have hcs : (lo = false ∧ ¬ 0 ≤ ad.2.begun ∧ ¬ 0 ≤ ad.2.failed ∧ ¬ 0 < ad.2.skipped) ∨ (lo = true ∧ 0 ≤ ad.2.begun) ∨ (lo = true ∧ ¬ 0 ≤ ad.2.begun ∧ 0 ≤ ad.2.failed) ∨ (lo = true ∧ ¬ 0 ≤ ad.2.begun ∧ ¬ 0 ≤ ad.2.failed ∧ 0 < ad.2.skipped) := by
        cases lo with
        | false =>
          have h := of_decide_eq_false hlo
          unfold Loud at h
          exact .inl ⟨rfl, by omega, by omega, by omega⟩
        | true =>
          have h := of_decide_eq_true hlo
          unfold Loud at h
          by_cases e0 : 0 ≤ ad.2.begun
          · exact .inr (.inl ⟨rfl, e0⟩)
          · by_cases e1 : 0 ≤ ad.2.failed
            · exact .inr (.inr (.inl ⟨rfl, e0, e1⟩))
            · exact .inr (.inr (.inr ⟨rfl, e0, e1, by omega⟩))
      clear hlo
      go_cut [60] (fun s60 wx => s60 = .bool lo ∧ wx = W2)
      case first =>
        rcases hcs with ⟨rfl, q0, q1, q2⟩ | ⟨rfl, q0⟩ | ⟨rfl, q0, q1⟩ | ⟨rfl, q0, q1, q2⟩
        all_goals
          go_wp2
          go_meet
          exact ⟨by first | rfl | (simp; omega), rfl⟩
      case rest =>
        obtain ⟨rfl, hwx⟩ := hcut
        subst hwx
        have hapt := own_apart HMB2.out HV2.out (by decide)
        have HAPT := Lib.hid hapt
        clear hcs hapt
        have hzc := hkp2.size
        go_upto_if 60 with (fail)
        go_cut [7] (fun s7 wx => wx.ownsRow W3.heap.size 106 4 s7 (moves now b (l.take (k + 1))).length ((moves now b (l.take (k + 1))).flatMap mvCells) ∧ Blk wx wr.heap.size #[.int .i64 m.id, .int .i64 m.plan.every, .int .i64 m.plan.offset, .int .i64 m.plan.timeout, .int .u8 ad.1.state, .int .i64 ad.1.since] 118 ∧ Blk wx (w.heap.size + 1 + 1) #[.int .i64 b, vm] 92 ∧ wx.ownsRow W3.heap.size 118 6 vm k (flatC ((l.take k).map (advM now b))) ∧ Kept (fun i => i = w.heap.size + 1 + 1) W3 wx)
        case first =>
          cases lo with
          | false =>
            have hsn := HSN.out
            rw [if_neg (of_decide_eq_false HLO.out), List.append_nil] at hsn
            have HSN2 := Lib.hid hsn
            clear hsn
            go_wp2
            go_meet
            exact ⟨by rw [HSN2.out]; exact HV2.out, HCM.out, H82.out, HMB2.out, hkp2⟩
          | true =>
            have hsn := HSN.out
            rw [if_pos (of_decide_eq_true HLO.out)] at hsn
            have HSN2 := Lib.hid hsn
            have y0 : wc.cell? ⟨wr.heap.size, 0, none⟩ = some (.int .i64 m.id) := by rw [HCM.out.cell]; rfl
            have hnews : ∀ j u, (mvCells (m.id, ad.2))[j]? = some u → (wc.alloc (.cells #[.int .i64 m.id, .int .i64 ad.2.begun, .int .i64 ad.2.failed, .int .i64 ad.2.skipped] 106)).cell? ((⟨wc.heap.size, 0, none⟩ : Addr).add j) = some u :=
              World.news_of_block (Blk.new wc #[.int .i64 m.id, .int .i64 ad.2.begun, .int .i64 ad.2.failed, .int .i64 ad.2.skipped] 106)
            have hone : ∀ u ∈ mvCells (m.id, ad.2), u.oneCell' = true := by simp [mvCells, Value.oneCell']
            have hmax : (moves now b (l.take k)).length + 1 ≤ maxLen := by unfold maxLen; omega
            have hbyt : ((moves now b (l.take k)).length + 1) * 32 ≤ 140737488355328 := by omega
            have hbs : W3.heap.size ≤ (wc.alloc (.cells #[.int .i64 m.id, .int .i64 ad.2.begun, .int .i64 ad.2.failed, .int .i64 ad.2.skipped] 106)).heap.size := by simp; omega
            have hov := HV2.out.alloc (.cells #[.int .i64 m.id, .int .i64 ad.2.begun, .int .i64 ad.2.failed, .int .i64 ad.2.skipped] 106)
            clear hsn
            go_wp2_with (first
              | (at_builtin; refine wpList_append_own _ rfl _ _ 101 rfl W3.heap.size 106 i0 (.agg #[.int .i64 0, .int .i64 0, .int .i64 0, .int .i64 0]) 4 32 Try.underlying101 hi0 hi1 hi2 hi3 rfl (by decide) _ _ _ rfl hov _ 1 1 (mvCells (m.id, ad.2)) rfl rfl hnews hone hmax hbyt hbs ?_; intro v' w4 hown' hgrow _))
            go_meet
            exact ⟨by rw [HSN2.out]; simpa using hown', blk_beside (HCM.out.alloc _) hgrow (own_type hov (HCM.out.alloc _) (by decide)), blk_beside (H82.out.alloc _) hgrow (own_not HV2.out (by omega)), own_beside (HMB2.out.alloc _) hgrow (fun g hg e => HAPT.out g hg e), kept_grown (hkp2.alloc _) hgrow (fun g hg hl => absurd (HV2.out.lt g hg).1 (by omega))⟩
        case rest =>
          obtain ⟨hov3, hbm3, h83, hom3, hkp3⟩ := hcut
          have hz3 := hkp3.size
          have hl83 := h83.lt
          have e0 : wc.cell? ⟨wr.heap.size, 0, none⟩ = some (.int .i64 m.id) := by rw [hbm3.cell]; rfl
          have e1 : wc.cell? ⟨wr.heap.size, 1, none⟩ = some (.int .i64 m.plan.every) := by rw [hbm3.cell]; rfl
          have e2 : wc.cell? ⟨wr.heap.size, 2, none⟩ = some (.int .i64 m.plan.offset) := by rw [hbm3.cell]; rfl
          have e3 : wc.cell? ⟨wr.heap.size, 3, none⟩ = some (.int .i64 m.plan.timeout) := by rw [hbm3.cell]; rfl
          have e4 : wc.cell? ⟨wr.heap.size, 4, none⟩ = some (.int .u8 ad.1.state) := by rw [hbm3.cell]; rfl
          have e5 : wc.cell? ⟨wr.heap.size, 5, none⟩ = some (.int .i64 ad.1.since) := by rw [hbm3.cell]; rfl
          obtain ⟨q0, q1, q2, q3⟩ := h83.two
          have hnews : ∀ j u, ([.int .i64 m.id, .int .i64 m.plan.every, .int .i64 m.plan.offset, .int .i64 m.plan.timeout, .int .u8 ad.1.state, .int .i64 ad.1.since] : List Value)[j]? = some u → (wc.alloc (.cells #[.int .i64 m.id, .int .i64 m.plan.every, .int .i64 m.plan.offset, .int .i64 m.plan.timeout, .int .u8 ad.1.state, .int .i64 ad.1.since] 118)).cell? ((⟨wc.heap.size, 0, none⟩ : Addr).add j) = some u :=
            World.news_of_block (Blk.new wc #[.int .i64 m.id, .int .i64 m.plan.every, .int .i64 m.plan.offset, .int .i64 m.plan.timeout, .int .u8 ad.1.state, .int .i64 ad.1.since] 118)
          have hone : ∀ u ∈ ([.int .i64 m.id, .int .i64 m.plan.every, .int .i64 m.plan.offset, .int .i64 m.plan.timeout, .int .u8 ad.1.state, .int .i64 ad.1.since] : List Value), u.oneCell' = true := by simp [Value.oneCell']
          have hmax : k + 1 ≤ maxLen := by unfold maxLen; omega
          have hbyt : (k + 1) * 48 ≤ 140737488355328 := by omega
          have hbs : W3.heap.size ≤ (wc.alloc (.cells #[.int .i64 m.id, .int .i64 m.plan.every, .int .i64 m.plan.offset, .int .i64 m.plan.timeout, .int .u8 ad.1.state, .int .i64 ad.1.since] 118)).heap.size := by simp; omega
          have hom4 := hom3.alloc (.cells #[.int .i64 m.id, .int .i64 m.plan.every, .int .i64 m.plan.offset, .int .i64 m.plan.timeout, .int .u8 ad.1.state, .int .i64 ad.1.since] 118)
          have HOV3 := Lib.hid hov3
          have HOM3 := Lib.hid hom3
          have H83 := Lib.hid h83
          clear hov3 hom3 h83 hbm3 HAPT HCM
          go_wp2_with (first
            | (at_builtin; refine wpList_append_lies _ rfl _ _ 90 rfl W3.heap.size 118 j0 (.agg #[.int .i64 0, .int .i64 0, .int .i64 0, .int .i64 0, .int .u8 0, .int .i64 0]) 6 48 Try.underlying90 hj0 hj1 hj2 hj3 rfl (by decide) _ _ _ rfl hom4 _ 1 1 _ rfl rfl hnews hone (by decide) hmax hbyt hbs _ rfl ?_; intro g2 c2 w4 hown' hgrow _ _; have h84 := blk_beside (H83.out.alloc _) hgrow (own_not HOM3.out (by omega)); have g84 := h84.frozen 1; have q84 := h84.two.2.1))
          go_roundw
          case rel =>
            have hapt := own_apart HOV3.out HOM3.out (by decide)
            exact ⟨k + 1, by omega, by go_num, _, ownsRow_setCell_below (own_beside (HOV3.out.alloc _) hgrow (fun g hg e => hapt g hg e)) (by show w.heap.size + 1 + 1 < _; omega) _, h84.set 1 _, ownsRow_setCell_below (by rw [HFL.out]; exact hown') (by show w.heap.size + 1 + 1 < _; omega) _, (kept_grown (hkp3.alloc _) hgrow (fun g hg hl => absurd (HOM3.out.lt g hg).1 (by omega))).setCell (fun _ => rfl) _⟩
          case measure => simp [intOf]; omega
    · obtain rfl : k = l.length := by omega
      rw [List.take_length] at HOV HOM
      obtain ⟨o1, c1, rfl⟩ := own_slice HOM.out
      have H4 := HB4.out.kept hkp (by omega)
      obtain ⟨a0, a1, a2, a3⟩ := H4.two
      obtain ⟨b0, b1, b2, b3⟩ := H8.out.two
      have hl4 := H4.lt
      have hz3 := hb3.size
      have hl8 := H8.out.lt
      go_wp2
      refine bodyPost_ret (v := .tuple #[.agg #[.int .i64 b, .slice o1 l.length c1], u7, .int .i64 0]) ?_ rfl ⟨_, u7, rfl, ?_, ?_, ?_⟩
      · simp [results, Try.results46, go_sem, a0, a1]
      · exact ownsRow_base_a (ownsRow_setCell_below (ownsRow_setCell_below HOM.out (by show w.heap.size + 1 < _; omega) _) (by show w.heap.size + 1 < _; omega) _) hz3
      · exact ownsRow_base_a (ownsRow_setCell_below (ownsRow_setCell_below HOV.out (by show w.heap.size + 1 < _; omega) _) (by show w.heap.size + 1 < _; omega) _) hz3
      · exact (hbw.setCell (by show w.heap.size ≤ w.heap.size + 1; omega) _).setCell (by show w.heap.size ≤ w.heap.size + 1; omega) _
end Go.Proofs.Ytokgfmibhkkiaaa
