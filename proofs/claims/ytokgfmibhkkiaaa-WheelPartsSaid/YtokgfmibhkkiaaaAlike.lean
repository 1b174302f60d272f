/- alike: two wheels of the same members, in the same phases, at the same tick -/
import Derived.Test.YtokgfmibhkkiaaaAwakeW
namespace Go.Proofs.Ytokgfmibhkkiaaa
open Go.RowKit Wh Mem Go.Maps

theorem core_ids {l1 l2 : List Mb} (h : l1.map core = l2.map core) : l1.map (·.id) = l2.map (·.id) := by
  have e : ∀ l : List Mb, l.map (·.id) = (l.map core).map (·.1) := fun l => by rw [List.map_map]; rfl
  rw [e, e, h]
theorem core_at {l1 l2 : List Mb} (h : l1.map core = l2.map core) {k : Nat} (h1 : k < l1.length) (h2 : k < l2.length) : l2[k].id = l1[k].id ∧ l2[k].plan = l1[k].plan ∧ l2[k].phase = l1[k].phase := by
  have e : (l1.map core)[k]? = (l2.map core)[k]? := by rw [h]
  rw [List.getElem?_map, List.getElem?_map, List.getElem?_eq_getElem h1, List.getElem?_eq_getElem h2] at e
  simp [core] at e
  exact ⟨e.1.symm, e.2.1.symm, e.2.2.symm⟩

theorem ints_form {w : World} {v : Value} {xs : List Int} (h : IntsAt w v xs) : ∃ (ob : Option Addr) (cap : Nat), v = .slice ob xs.length cap ∧
    ∀ (k : Nat) (hk : k < xs.length), ∃ g, ob = some ⟨g, 0, none⟩ ∧ g < w.heap.size ∧ w.cell? ⟨g, k, none⟩ = some (.int .i64 xs[k]) := by
  rcases h with ⟨rfl, rfl⟩ | ⟨g, cap, rfl, hg, hc⟩
  · exact ⟨none, 0, rfl, fun k hk => absurd hk (by simp)⟩
  · exact ⟨_, cap, rfl, fun k hk => ⟨g, rfl, hg, hc k hk⟩⟩

set_option maxHeartbeats 4000000 in
set_option maxRecDepth 100000 in
theorem alike_yes {w : World} {p1 m1 p2 m2 : Nat} {now : Int} {l1 l2 : List Mb} (h1 : WheelAt w p1 m1 now l1) (h2 : WheelAt w p2 m2 now l2) (hc : l1.map core = l2.map core) (hlen : l1.length ≤ 1000000) :
    Calls Try.prog 16 #[.pointer (some ⟨p1, 0, none⟩), .pointer (some ⟨p2, 0, none⟩)] w fun e w' => e = .returned (.bool true) ∧ Below w.heap.size w w' := by
  have hl2 : l2.length = l1.length := by have := congrArg List.length hc; simpa using this.symm
  have hids := core_ids hc
  have HA1 := Lib.hid (all_any h1 hlen)
  have H1 := Lib.hid h1
  have H2 := Lib.hid h2
  have HC := Lib.hid hc
  have HIDS := Lib.hid hids
  have HL2 := Lib.hid hl2
  clear h1 h2 hc hids hl2
  go_enter Try.func16, Try.ntmps16
  go_wp2_with fail
  refine (HA1.out).mono ?_
  rintro e wa ⟨va, rfl, hoa, hba⟩
  rw [sel_all] at hoa
  have HIA := Lib.hid (IntsAt.of_row (xs := l1.map (·.id)) (by simpa using hoa))
  have hsa := hba.size
  have H2a := Lib.hid (H2.out.kept (Kept.of_below hba (fun _ => False)) (fun _ _ h => h))
  have HA2 := Lib.hid (all_any H2a.out (by rw [HL2.out]; exact hlen))
  clear hoa
  go_wp2_with fail
  refine (HA2.out).mono ?_
  rintro e wb ⟨vb, rfl, hob, hbb⟩
  rw [sel_all] at hob
  have HIB := Lib.hid (IntsAt.of_row (xs := l2.map (·.id)) (by simpa using hob))
  have hbwb : Below w.heap.size w wb := hba.trans (hbb.mono hsa)
  have HIAb := Lib.hid (HIA.out.below hbb)
  have HS := Lib.hid (same_yes HIAb.out (by rw [HIDS.out]; exact HIB.out) (by simpa using hlen))
  have hsb := hbwb.size
  clear hob
  go_wp2_with fail
  refine (HS.out).mono ?_
  rintro e wc ⟨rfl, hbc⟩
  have hbwc : Below w.heap.size w wc := hbwb.trans (hbc.mono hsb)
  have HN1 := Lib.hid (now_any (H1.out.below hbwc))
  have HN2 := Lib.hid (now_any (H2.out.below hbwc))
  go_wp2_with fail
  refine (HN1.out).mono ?_
  rintro e w' ⟨rfl, rfl⟩
  go_wp2_with fail
  refine (HN2.out).mono ?_
  rintro e w' ⟨rfl, rfl⟩
  obtain ⟨ob, cap, rfl, hxs⟩ := ints_form HIAb.out
  have HXS := Lib.hid hxs
  have hsc := hbc.size
  clear hxs HIAb HIB HIA HS
  rw [List.length_map]
  go_wp2_with fail
  go_loopw [30] (fun i wr => ∃ k : Nat, k ≤ l1.length ∧ i = .int .i64 k ∧ Below wc.heap.size wc wr) (fun i _ => l1.length - (intOf i).toNat)
  case atStart => exact ⟨0, Nat.zero_le _, rfl, Below.refl _ _⟩
  case round =>
    obtain ⟨k, hk, rfl, hbr⟩ := hrel
    have hsr := hbr.size
    have hbwr : Below w.heap.size w wr := hbwc.trans (hbr.mono (by omega))
    by_cases hlt : k < l1.length
    · obtain ⟨g, rfl, hg, hcell⟩ := HXS.out k (by simpa using hlt)
      rw [List.getElem_map] at hcell
      have hbbr : Below wb.heap.size wb wr := hbc.trans (hbr.mono hsc)
      have hcx : wr.cell? ⟨g, k, none⟩ = some (.int .i64 l1[k].id) := (hbbr.cell (p := ⟨g, k, none⟩) hg).trans hcell
      obtain ⟨q1, q2, q3⟩ := core_at HC.out hlt (by rw [HL2.out]; exact hlt)
      have hm1 : l1[k] ∈ l1 := List.getElem_mem hlt
      have hm2 : l2[k]'(by rw [HL2.out]; exact hlt) ∈ l2 := List.getElem_mem _
      have hwf := wf_id (H1.out.range _ hm1)
      have HG1 := Lib.hid (get_some (H1.out.below hbwr) hwf (findM_at H1.out.ids hm1))
      have hg2 := fun W (hb : Below w.heap.size w W) => get_some (H2.out.below hb) (id := l1[k].id) hwf (m := l2[k]'(by rw [HL2.out]; exact hlt)) (by rw [← q1]; exact findM_at H2.out.ids hm2)
      rw [q2, q3] at hg2
      have HG2 := Lib.hid hg2
      have hfit := H1.out.fits _ hm1
      obtain ⟨m, hm⟩ : ∃ m, m = l1[k] := ⟨_, rfl⟩
      rw [← hm] at HG1 HG2 hcx hfit
      have hf := fun W => fits_yes m.plan m.phase now hfit W
      have HF := Lib.hid hf
      clear hg2 q1 q2 q3 hm1 hm2 hm hwf hfit hf hcell hbbr
      go_wp2_with fail
      refine (HG1.out).mono ?_
      rintro e w5 ⟨rfl, hb5⟩
      have hbw5 : Below w.heap.size w w5 := hbwr.trans (hb5.mono (by omega))
      go_wp2_with fail
      have hs5 := hbw5.size
      refine (HG2.out _ (by go_grown)).mono ?_
      rintro e w6 ⟨rfl, hb6⟩
      have hs6 := hb6.size
      simp only [World.size_alloc] at hs6
      go_wp2_with fail
      have B8 : Blk ((w6.alloc (.cells #[.int .i64 m.plan.every, .int .i64 m.plan.offset, .int .i64 m.plan.timeout] 52)).alloc (.cells #[.int .u8 m.phase.state, .int .i64 m.phase.since] 59)) w5.heap.size #[.int .i64 m.plan.every, .int .i64 m.plan.offset, .int .i64 m.plan.timeout] 52 := ((((Blk.new w5 _ 52).alloc _).below hb6 (by simp; omega)).alloc _).alloc _
      have B9 : Blk ((w6.alloc (.cells #[.int .i64 m.plan.every, .int .i64 m.plan.offset, .int .i64 m.plan.timeout] 52)).alloc (.cells #[.int .u8 m.phase.state, .int .i64 m.phase.since] 59)) (w5.heap.size + 1) #[.int .u8 m.phase.state, .int .i64 m.phase.since] 59 := (((Blk.new' (w := w5.alloc _) (b := w5.heap.size + 1) _ 59 (by simp)).below hb6 (by simp)).alloc _).alloc _
      have B11 : Blk ((w6.alloc (.cells #[.int .i64 m.plan.every, .int .i64 m.plan.offset, .int .i64 m.plan.timeout] 52)).alloc (.cells #[.int .u8 m.phase.state, .int .i64 m.phase.since] 59)) w6.heap.size #[.int .i64 m.plan.every, .int .i64 m.plan.offset, .int .i64 m.plan.timeout] 52 := (Blk.new w6 _ 52).alloc _
      have B12 : Blk ((w6.alloc (.cells #[.int .i64 m.plan.every, .int .i64 m.plan.offset, .int .i64 m.plan.timeout] 52)).alloc (.cells #[.int .u8 m.phase.state, .int .i64 m.phase.since] 59)) (w6.heap.size + 1) #[.int .u8 m.phase.state, .int .i64 m.phase.since] 59 := Blk.new' (w := w6.alloc _) _ 59 (by simp)
      have hb6' : Below wr.heap.size wr w6 := hb5.trans ((((Below.refl w5.heap.size w5).alloc (Nat.le_refl _) _).alloc (by simp) _).trans (hb6.mono (by simp; omega)) |>.mono hb5.size)
      have hbW : Below wr.heap.size wr ((w6.alloc (.cells #[.int .i64 m.plan.every, .int .i64 m.plan.offset, .int .i64 m.plan.timeout] 52)).alloc (.cells #[.int .u8 m.phase.state, .int .i64 m.phase.since] 59)) := (hb6'.alloc hb6'.size _).alloc (by have := hb6'.size; simp; omega) _
      clear hb6' hb6 hb5 hbw5 hs6
      generalize ((w6.alloc (.cells #[.int .i64 m.plan.every, .int .i64 m.plan.offset, .int .i64 m.plan.timeout] 52)).alloc (.cells #[.int .u8 m.phase.state, .int .i64 m.phase.since] 59)) = W6 at B8 B9 B11 B12 hbW ⊢
      have HC8 := Lib.hid B8
      have HC9 := Lib.hid B9
      have HC11 := Lib.hid B11
      have HC12 := Lib.hid B12
      have hbwW : Below w.heap.size w W6 := hbwr.trans (hbW.mono (by omega))
      have hsW := hbwW.size
      clear B8 B9 B11 B12
      refine wp_flow_below rfl (by kernel_rfl) ?_
      repeat (first
        | (apply flow_yes
           · rfl
           · intro W1 hW K hK
             obtain ⟨c0, c1, c2, _⟩ := (HC8.out.below hW HC8.out.lt).three
             obtain ⟨d0, d1, _⟩ := (HC9.out.below hW HC9.out.lt).two
             obtain ⟨x0, x1, x2, _⟩ := (HC11.out.below hW HC11.out.lt).three
             obtain ⟨y0, y1, _⟩ := (HC12.out.below hW HC12.out.lt).two
             have HNW := Lib.hid (now_any (H1.out.below (hbwW.trans (hW.mono hsW))))
             go_wp2_with (first | (go_at_call 13; refine (HNW.out).mono ?_; rintro e w' ⟨rfl, rfl⟩) | (go_at_call 39; with_reducible refine (HF.out _).mono ?_; rintro e w' ⟨rfl, hb⟩))
             first | exact hW | exact hW.trans (hb.mono hW.size)
           simp only [Act.put, List.setIfInBounds_toArray, List.set_cons_zero, List.set_cons_succ])
        | (apply flow_no
           · rfl
           simp only [Act.put, List.setIfInBounds_toArray, List.set_cons_zero, List.set_cons_succ]))
      refine flow_nil fun W1 hW => ?_
      go_wp2
      go_roundw
      case rel => exact ⟨k + 1, by omega, by go_num, (hbr.trans (hbW.mono (by omega))).trans (hW.mono (by have := hbW.size; omega))⟩
      case measure => simp [intOf]; omega
    · obtain rfl : k = l1.length := by omega
      go_wp2
      go_ret
      exact ⟨rfl, hbwr⟩
end Go.Proofs.Ytokgfmibhkkiaaa
