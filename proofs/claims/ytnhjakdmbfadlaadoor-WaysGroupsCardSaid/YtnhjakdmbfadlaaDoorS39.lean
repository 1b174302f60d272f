/- Parts of the proof: Bareb. Conditions: none. -/
import Derived.Test.YtnhjakdmbfadlaaDoorS10
set_option linter.all false
namespace Go.Proofs.YtnhjakdmbfadlaaDoor
open Go.RowKit Wy Mem Grow

theorem info28b : (Tryd.prog.info? 28).map (fun i => (i.zero, i.size, i.bytes)) = some (some (.agg #[.int .u8 0, .slice none 0 0, .int .i64 0, .int .i64 0, .bool false, .slice none 0 0]), 6, 80) := by kernel_rfl
def BarSpec (t : Nd) : Prop := ∀ (N : Nat → Prop) (w : World) (cs : List Value), NdAt N w t cs → nodes t ≤ 1000000 →
  Calls Tryd.prog 11 #[.agg cs.toArray] w (Trd (fun q => N q ∨ w.heap.size ≤ q) (bareT t) w)
set_option maxHeartbeats 8000000 in
set_option maxRecDepth 100000 in
theorem bare_step {k : Int} {set : List Rg} {lo hi : Int} {lazy : Bool} {subs : List Nd} (ih : ∀ s ∈ subs, BarSpec s) : BarSpec (.mk k set lo hi lazy subs) := by
  intro N w cs hnd hno
  rw [NdAt] at hnd
  obtain ⟨sv, uv, ucs, rfl, hk, hlo, hhi, hset, hrow, hsubs⟩ := hnd
  obtain ⟨os, cs, rfl⟩ := hset.row.slice
  obtain ⟨ou, cu, rfl⟩ := hrow.slice
  have HIH := Lib.hid ih
  have HSET := Lib.hid hset
  have HROW := Lib.hid hrow
  have HSUBS := Lib.hid hsubs
  have hsl : (subs.length : Int) ≤ 1048576 := by omega
  have hnoN : nodesL subs ≤ 1000000 := by rw [nodes] at hno; omega
  have HNO := Lib.hid hnoN
  clear ih hset hrow hsubs hno hnoN
  obtain ⟨i0, hi0, hz0, hz1, hz2⟩ := info_parts info28b
  go_enter Tryd.func11, Tryd.ntmps11
  go_upto_region 1 with fail
  have hBp : Blk ((w.alloc (.cells #[.int .u8 k, .slice os set.length cs, .int .i64 lo, .int .i64 hi, .bool lazy, .slice ou subs.length cu] 28)).alloc (.cells #[.int .u8 0, .slice none 0 0, .int .i64 0, .int .i64 0, .bool false, .slice none 0 0] 28)) w.heap.size #[.int .u8 k, .slice os set.length cs, .int .i64 lo, .int .i64 hi, .bool lazy, .slice ou subs.length cu] 28 := (Blk.new _ _ _).alloc _
  have hBr : Blk ((w.alloc (.cells #[.int .u8 k, .slice os set.length cs, .int .i64 lo, .int .i64 hi, .bool lazy, .slice ou subs.length cu] 28)).alloc (.cells #[.int .u8 0, .slice none 0 0, .int .i64 0, .int .i64 0, .bool false, .slice none 0 0] 28)) (w.heap.size + 1) #[.int .u8 0, .slice none 0 0, .int .i64 0, .int .i64 0, .bool false, .slice none 0 0] 28 := Blk.new' _ _ (by simp)
  have hbW : Below w.heap.size w ((w.alloc (.cells #[.int .u8 k, .slice os set.length cs, .int .i64 lo, .int .i64 hi, .bool lazy, .slice ou subs.length cu] 28)).alloc (.cells #[.int .u8 0, .slice none 0 0, .int .i64 0, .int .i64 0, .bool false, .slice none 0 0] 28)) := ((Below.refl _ _).alloc (Nat.le_refl _) _).alloc (by simp) _
  have hzW : ((w.alloc (.cells #[.int .u8 k, .slice os set.length cs, .int .i64 lo, .int .i64 hi, .bool lazy, .slice ou subs.length cu] 28)).alloc (.cells #[.int .u8 0, .slice none 0 0, .int .i64 0, .int .i64 0, .bool false, .slice none 0 0] 28)).heap.size = w.heap.size + 2 := by simp
  generalize ((w.alloc (.cells #[.int .u8 k, .slice os set.length cs, .int .i64 lo, .int .i64 hi, .bool lazy, .slice ou subs.length cu] 28)).alloc (.cells #[.int .u8 0, .slice none 0 0, .int .i64 0, .int .i64 0, .bool false, .slice none 0 0] 28)) = W at hBp hBr hbW hzW ⊢
  obtain ⟨d0, d1, d2, d3, d4, d5⟩ : W.cell? ⟨w.heap.size, 0, none⟩ = some (.int .u8 k) ∧ W.cell? ⟨w.heap.size, 1, none⟩ = some (.slice os set.length cs) ∧ W.cell? ⟨w.heap.size, 2, none⟩ = some (.int .i64 lo) ∧ W.cell? ⟨w.heap.size, 3, none⟩ = some (.int .i64 hi) ∧ W.cell? ⟨w.heap.size, 4, none⟩ = some (.bool lazy) ∧ W.cell? ⟨w.heap.size, 5, none⟩ = some (.slice ou subs.length cu) :=
    ⟨hBp.cell 0, hBp.cell 1, hBp.cell 2, hBp.cell 3, hBp.cell 4, hBp.cell 5⟩
  have dz := hBp.lt
  have pf : ∀ i, W.frozen? ⟨w.heap.size, i, none⟩ = false := hBp.frozen
  have HBP := Lib.hid hBp
  have HBR := Lib.hid hBr
  have HBW := Lib.hid hbW
  have HZW := Lib.hid hzW
  have setOk : ∀ w', Below w.heap.size w w' → RgsAt (fun q => N q ∨ w.heap.size ≤ q) w' (.slice os set.length cs) set := fun w' hb => RgsGo HSET.out (Kept.of_below hb (fun _ => False)) (fun q _ hq => ⟨id, .inl hq⟩)
  have SETOK := Lib.hid setOk
  clear hBp hBr hbW hzW setOk
  -- the result is stored: what a last store gives
  have fin : ∀ (Wf : World) (c0 c1 c2 c3 c4 c5 : Value), Below w.heap.size w Wf → Blk Wf (w.heap.size + 1) #[.int .u8 0, .slice none 0 0, .int .i64 0, .int .i64 0, .bool false, .slice none 0 0] 28 → NdAt (fun q => (N q ∨ w.heap.size ≤ q) ∧ q ≠ w.heap.size + 1) Wf (bareT (.mk k set lo hi lazy subs)) [c0, c1, c2, c3, c4, c5] →
      Trd (fun q => N q ∨ w.heap.size ≤ q) (bareT (.mk k set lo hi lazy subs)) w (.returned (.agg #[c0, c1, c2, c3, c4, c5])) ((((((Wf.setCell ⟨w.heap.size + 1, 0, none⟩ c0).setCell ⟨w.heap.size + 1, 1, none⟩ c1).setCell ⟨w.heap.size + 1, 2, none⟩ c2).setCell ⟨w.heap.size + 1, 3, none⟩ c3).setCell ⟨w.heap.size + 1, 4, none⟩ c4).setCell ⟨w.heap.size + 1, 5, none⟩ c5) ∧
      Blk ((((((Wf.setCell ⟨w.heap.size + 1, 0, none⟩ c0).setCell ⟨w.heap.size + 1, 1, none⟩ c1).setCell ⟨w.heap.size + 1, 2, none⟩ c2).setCell ⟨w.heap.size + 1, 3, none⟩ c3).setCell ⟨w.heap.size + 1, 4, none⟩ c4).setCell ⟨w.heap.size + 1, 5, none⟩ c5) (w.heap.size + 1) #[c0, c1, c2, c3, c4, c5] 28 := by
    intro Wf c0 c1 c2 c3 c4 c5 hb hB hn
    have hk := set6k (W := Wf) (b := w.heap.size + 1) c0 c1 c2 c3 c4 c5
    exact ⟨⟨_, rfl, NdAt.go hk (fun q _ hq => ⟨hq.2, hq.1⟩) hn, ((Kept.of_below hb (fun q => q = w.heap.size + 1)).trans hk).below (fun q hq e => by omega)⟩, set6blk hB c0 c1 c2 c3 c4 c5⟩
  have FIN := Lib.hid fin
  clear fin
  by_cases h6 : k = 6 ∧ 0 < subs.length
  · obtain ⟨rfl, hpos⟩ := h6
    obtain ⟨ub, uo, uc, hue, huc, hum, hNub, hubz, hucell⟩ := HROW.out.parts HSUBS.out hpos
    simp only [Value.slice.injEq, true_and] at hue
    obtain ⟨rfl, rfl⟩ := hue
    obtain ⟨tsv, tuv, hnt, t0, t1, t2, t3, t4, t5⟩ := hucell 0 hpos
    simp only [Nat.zero_mul, Nat.add_zero] at t0 t1 t2 t3 t4 t5
    obtain ⟨k', lo', hi', lz', o1, o2, n1, c1, n2, c2, he⟩ := nd6k hnt
    simp only [List.cons.injEq, Value.int.injEq, Value.bool.injEq, true_and, and_true] at he
    obtain ⟨rfl, rfl, rfl, rfl, rfl, rfl⟩ := he
    have hub : ub < W.heap.size := by have := HBW.out.size; omega
    have g0 := (HBW.out.cell (p := ⟨ub, uo, none⟩) hubz).trans t0
    have g1 := (HBW.out.cell (p := ⟨ub, uo + 1, none⟩) hubz).trans t1
    have g2 := (HBW.out.cell (p := ⟨ub, uo + 2, none⟩) hubz).trans t2
    have g3 := (HBW.out.cell (p := ⟨ub, uo + 3, none⟩) hubz).trans t3
    have g4 := (HBW.out.cell (p := ⟨ub, uo + 4, none⟩) hubz).trans t4
    have g5 := (HBW.out.cell (p := ⟨ub, uo + 5, none⟩) hubz).trans t5
    have hb0 : bareT (.mk 6 set lo hi lazy subs) = bareT subs[0] := by
      rw [bareT, if_pos rfl]
      rcases subs with _ | ⟨a, r⟩
      · simp at hpos
      · rw [bareL]; rfl
    have hnos : nodes subs[0] ≤ 1000000 := by have := nodesL_at hpos; have := HNO.out; omega
    obtain ⟨ts, hts⟩ : ∃ ts, ts = subs[0] := ⟨_, rfl⟩
    have hcall := HIH.out subs[0] (List.getElem_mem hpos) (fun q => N q ∧ q < w.heap.size) W _ (NdAt.go (Kept.of_below HBW.out (fun _ => False)) (fun q hq hn => ⟨id, hn, hq⟩) hnt) hnos
    rw [← hts] at g0 g2 g3 g4 hcall hb0
    have hposI : (0 : Int) < subs.length := by omega
    have hucI : (subs.length : Int) ≤ cu := by omega
    have HC := Lib.hid hcall
    have HB0 := Lib.hid hb0
    clear hucell hnt t0 t1 t2 t3 t4 t5 hcall hts hb0 hnos
    go_wp2_with (go_at_call 11; go_loud (refine HC.out.mono ?_; rintro e w5 ⟨cs5, rfl, hn5, hb5⟩; obtain ⟨k5, lo5, hi5, lz5, o15, o25, n15, c15, n25, c25, rfl⟩ := nd6k hn5; have HN5 := Lib.hid hn5; have HB5 := Lib.hid hb5; have B5 := HBR.out.below hb5 HBR.out.lt; have r0 := B5.cell 0; have r1 := B5.cell 1; have r2 := B5.cell 2; have r3 := B5.cell 3; have r4 := B5.cell 4; have r5 := B5.cell 5; have rz := B5.lt; have rf : ∀ i, w5.frozen? ⟨w.heap.size + 1, i, none⟩ = false := B5.frozen; have HB55 := Lib.hid B5; clear hn5 hb5 B5))
    have hF := FIN.out w5 (.int .u8 k5) (.slice o15 n15 c15) (.int .i64 lo5) (.int .i64 hi5) (.bool lz5) (.slice o25 n25 c25) (HBW.out.trans (HB5.out.mono HBW.out.size)) HB55.out (by
      rw [HB0.out]
      refine NdAt.mono (fun q hq => ?_) HN5.out
      have := HZW.out
      rcases hq with hq | hq
      · exact ⟨.inl hq.1, by omega⟩
      · exact ⟨.inr (by omega), by omega⟩)
    exact bodyPost_ret (v := .agg #[.int .u8 k5, .slice o15 n15 c15, .int .i64 lo5, .int .i64 hi5, .bool lz5, .slice o25 n25 c25]) (by simp [results, Tryd.results11, go_sem, hF.2.cell]) rfl hF.1
  · have hbt : bareT (.mk k set lo hi lazy subs) = .mk k set lo hi lazy (bareL subs) := by
      rw [bareT]
      by_cases hk6 : k = 6
      · rw [if_pos hk6]
        have : subs = [] := by
          rcases subs with _ | ⟨a, r⟩
          · rfl
          · exact absurd ⟨hk6, by simp⟩ h6
        subst this
        rw [bareL]
      · rw [if_neg hk6]
    have hbl : (bareL subs).length = subs.length := by rw [bareL_map, List.length_map]
    have HBT := Lib.hid hbt
    have HBL := Lib.hid hbl
    have HH6 := Lib.hid h6
    clear hbt hbl h6
    go_cut [6, 7, 8, 9, 10, 11, 12, 13, 14] (fun _ _ _ _ _ _ _ _ s14 wx => s14 = .bool false ∧ wx = W)
    case first =>
      by_cases hk6 : k = 6
      · subst hk6
        have h0 : (subs.length : Int) = 0 := by
          have := HH6.out
          by_cases h : 0 < subs.length
          · exact absurd ⟨rfl, h⟩ this
          · omega
        have h0n := Lib.hid (show ¬ 0 < subs.length by omega)
        have h0d : decide ((0 : Int) < subs.length) = false := by rw [h0]; rfl
        clear h0
        go_wp2_with fail
        go_meet
        exact ⟨by rw [decide_eq_false h0n.out], rfl⟩
      · have hk6b : (k == 6) = false := by simpa using hk6
        go_wp2_with fail
        go_meet
        exact ⟨rfl, rfl⟩
    case rest =>
      obtain ⟨rfl, rfl⟩ := hcut
      rename World => W
      go_upto_region 5 with fail
      have hbr0 : BrAt w (fun q => (N q ∨ w.heap.size ≤ q) ∧ q ≠ w.heap.size + 1) (w.heap.size + 2) w.heap.size k lo hi lazy (.slice os set.length cs) (W.setCell ⟨w.heap.size, 5, none⟩ (.slice none 0 0)) [] (.slice none 0 0) :=
        ⟨HBP.out.set 5 (.slice none 0 0), ⟨[], World.ownsRow_nil _ _ _ _, by rw [NdsAt]⟩, by omega, Nat.le_refl _, HBW.out.setCell (Nat.le_refl _) _⟩
      have hres0 : Blk (W.setCell ⟨w.heap.size, 5, none⟩ (.slice none 0 0)) (w.heap.size + 1) #[.int .u8 0, .slice none 0 0, .int .i64 0, .int .i64 0, .bool false, .slice none 0 0] 28 := HBR.out.setOther (p := ⟨w.heap.size, 5, none⟩) (by show w.heap.size + 1 ≠ w.heap.size; omega) _
      generalize (W.setCell ⟨w.heap.size, 5, none⟩ (.slice none 0 0)) = W0 at hbr0 hres0 ⊢
      have HBR0 := Lib.hid hbr0
      have HRES0 := Lib.hid hres0
      clear hbr0 hres0 d0 d1 d2 d3 d4 d5 dz pf
      go_wp2_with fail
      go_loopw [25] (fun s25 wx => ∃ (i : Nat) (pv : Value), i ≤ subs.length ∧ s25 = .int .i64 i ∧ BrAt w (fun q => (N q ∨ w.heap.size ≤ q) ∧ q ≠ w.heap.size + 1) (w.heap.size + 2) w.heap.size k lo hi lazy (.slice os set.length cs) wx ((bareL subs).take i) pv ∧ Blk wx (w.heap.size + 1) #[.int .u8 0, .slice none 0 0, .int .i64 0, .int .i64 0, .bool false, .slice none 0 0] 28) (fun s25 _ => subs.length - (intOf s25).toNat)
      case atStart => exact ⟨0, _, by omega, rfl, by rw [List.take_zero]; exact HBR0.out, HRES0.out⟩
      case round =>
        rename World => Wa
        obtain ⟨i, pv, hi', rfl, hbr, hres⟩ := hrel
        have HBRA := Lib.hid hbr
        have HRES := Lib.hid hres
        by_cases hil : i < subs.length
        · obtain ⟨ub, uo, uc, hue, huc, hum, hNub, hubz, hucell⟩ := HROW.out.parts HSUBS.out (by omega)
          simp only [Value.slice.injEq, true_and] at hue
          obtain ⟨rfl, rfl⟩ := hue
          obtain ⟨tsv, tuv, hnt, t0, t1, t2, t3, t4, t5⟩ := hucell i hil
          obtain ⟨k', lo', hi'', lz', o1, o2, n1, c1, n2, c2, he⟩ := nd6k hnt
          simp only [List.cons.injEq, Value.int.injEq, Value.bool.injEq, true_and, and_true] at he
          obtain ⟨rfl, rfl, rfl, rfl, rfl, rfl⟩ := he
          obtain ⟨ts, hts⟩ : ∃ ts, ts = subs[i] := ⟨_, rfl⟩
          have hbz : Below w.heap.size w Wa := hbr.below
          have hsnoc : (bareL subs).take i ++ [bareT ts] = (bareL subs).take (i + 1) := by
            have : i < (bareL subs).length := by rw [HBL.out]; exact hil
            rw [List.take_succ_eq_append_getElem this, hts]
            congr 2
            simp [bareL_map]
          have hnos : nodes subs[i] ≤ 1000000 := by have := nodesL_at hil; have := HNO.out; omega
          have g0 := (hbz.cell (p := ⟨ub, uo + i * 6, none⟩) hubz).trans t0
          have g1 := (hbz.cell (p := ⟨ub, uo + i * 6 + 1, none⟩) hubz).trans t1
          have g2 := (hbz.cell (p := ⟨ub, uo + i * 6 + 2, none⟩) hubz).trans t2
          have g3 := (hbz.cell (p := ⟨ub, uo + i * 6 + 3, none⟩) hubz).trans t3
          have g4 := (hbz.cell (p := ⟨ub, uo + i * 6 + 4, none⟩) hubz).trans t4
          have g5 := (hbz.cell (p := ⟨ub, uo + i * 6 + 5, none⟩) hubz).trans t5
          have hubza : ub < Wa.heap.size := by have := hbz.size; omega
          have hilI : (i : Int) < subs.length := by omega
          have hucI : (subs.length : Int) ≤ cu := by omega
          rw [← hts] at g0 g2 g3 g4 hnos hnt
          have hih := HIH.out ts (by rw [hts]; exact List.getElem_mem hil) (fun q => N q ∧ q < w.heap.size)
          have HSN := Lib.hid hsnoc
          have HNT := Lib.hid hnt
          have HIHT := Lib.hid hih
          clear hucell t0 t1 t2 t3 t4 t5 hbr hres hbz hnt hts hih hsnoc
          go_upto_region 8 with fail
          have hbC : Below Wa.heap.size Wa (Wa.alloc (.cells #[.int .u8 ts.kind, .slice o1 n1 c1, .int .i64 ts.lo, .int .i64 ts.hi, .bool ts.lazy, .slice o2 n2 c2] 28)) := (Below.refl _ _).alloc (Nat.le_refl _) _
          have hBe : Blk (Wa.alloc (.cells #[.int .u8 ts.kind, .slice o1 n1 c1, .int .i64 ts.lo, .int .i64 ts.hi, .bool ts.lazy, .slice o2 n2 c2] 28)) Wa.heap.size #[.int .u8 ts.kind, .slice o1 n1 c1, .int .i64 ts.lo, .int .i64 ts.hi, .bool ts.lazy, .slice o2 n2 c2] 28 := Blk.new _ _ _
          generalize (Wa.alloc (.cells #[.int .u8 ts.kind, .slice o1 n1 c1, .int .i64 ts.lo, .int .i64 ts.hi, .bool ts.lazy, .slice o2 n2 c2] 28)) = Wc at hbC hBe ⊢
          have hbrc := HBRA.out.go hbC
          have hresc := HRES.out.below hbC HRES.out.lt
          obtain ⟨ps, hro, hrn⟩ := hbrc.row
          obtain ⟨ov, cv, rfl⟩ := ownSlice hro
          have hlt : ((bareL subs).take i).length = i := by rw [List.length_take, HBL.out]; omega
          rw [hlt] at hro
          have hez : Wa.heap.size < Wc.heap.size := hBe.lt
          have hownlt : ∀ q, (Value.slice ov i cv).ownBlock = some q → w.heap.size + 2 ≤ q ∧ q < Wa.heap.size := fun q hq => by
            obtain ⟨ps', hh, -⟩ := HBRA.out.row
            have h1 := hh.lt q (by rw [hlt]; exact hq)
            exact h1
          have hcall := HIHT.out Wc.drew _ (NdAt.go (Kept.of_below ((HBRA.out.below.trans (hbC.mono HBRA.out.below.size)).drew) (fun _ => False)) (fun q hq hn => ⟨id, hn, hq⟩) HNT.out) hnos
          have HCALL := Lib.hid hcall
          have HBRC := Lib.hid hbrc
          have HRESC := Lib.hid hresc
          have HRO := Lib.hid hro
          have HRN := Lib.hid hrn
          have HLT := Lib.hid hlt
          have HBE := Lib.hid hBe
          have HOWN := Lib.hid hownlt
          have HEZ := Lib.hid hez
          have hmx1 : i + 1 ≤ maxLen := by unfold maxLen; omega
          have hmx2 : (i + 1) * 80 ≤ 140737488355328 := by omega
          rw [hlt] at HBRC
          clear hcall hbrc hresc hro hrn hBe hownlt hbC g0 g1 g2 g3 g4 g5 hez
          have hwz : w.heap.size + 2 ≤ Wa.heap.size := by have := HRES.out.lt; omega
          apply wp_flowL ?hm ?hok [0, 1, 2, 3, 4, 5, 6, 7] [3, 4, 5, 7] [] ?hord (fun w' => Blk w' w.heap.size #[.int .u8 k, .slice os set.length cs, .int .i64 lo, .int .i64 hi, .bool lazy, .slice ov i cv] 28 ∧ Blk w' Wa.heap.size #[.int .u8 ts.kind, .slice o1 n1 c1, .int .i64 ts.lo, .int .i64 ts.hi, .bool ts.lazy, .slice o2 n2 c2] 28)
            (brW w (fun q => (N q ∨ w.heap.size ≤ q) ∧ q ≠ w.heap.size + 1) (w.heap.size + 2) w.heap.size k lo hi lazy (.slice os set.length cs) Wc ((bareL subs).take i) (bareT ts) (.slice ov i cv))
          case hm => rfl
          case hok => kernel_rfl
          case hord => kernel_rfl
          case hb =>
            intro L w' h hl
            have hkP : ∀ {w' : World}, Kept (fun q => (Value.slice ov i cv).ownBlock = some q) Wc w' → _ := fun {w'} (hk : Kept (fun q => (Value.slice ov i cv).ownBlock = some q) Wc w') => And.intro (HBRC.out.node.kept hk (fun e => by have := HOWN.out _ e; omega)) (HBE.out.kept hk (fun e => by have := HOWN.out _ e; omega))
            match L with
            | [] => obtain rfl : w' = Wc.drew := h; exact ⟨HBRC.out.node, HBE.out⟩
            | [_] => obtain ⟨_, _, _, _, _, _, _, _, _, _, _, _, h⟩ := h; exact hkP (Kept.of_below h _)
            | [_, _] => obtain ⟨_, _, _, _, _, _, _, _, _, _, _, _, _, _, _, h⟩ := h; exact hkP (Kept.of_below h _)
            | [_, _, _] => obtain ⟨_, _, _, _, h⟩ := h; exact hkP h
            | _ :: _ :: _ :: _ :: _ =>
              exfalso
              rw [show (List.filter (fun j => [3, 4, 5, 7].contains j) [0, 1, 2, 3, 4, 5, 6, 7]).length = 4 by decide] at hl
              simp only [List.length_cons] at hl
              omega
          case hw => rfl
          case h =>
            iterate 3
              apply flowL_read _ rfl rfl rfl rfl
              case h =>
                intro W1 hW K hK
                (obtain ⟨hWp, hW7⟩ := hW; have w8 : W1.cell? ⟨w.heap.size, 5, none⟩ = some (.slice ov i cv) := hWp.cell 5; have w8z := hWp.lt; have x0 := hW7.cell 0; have x1 := hW7.cell 1; have x2 := hW7.cell 2; have x3 := hW7.cell 3; have x4 := hW7.cell 4; have x5 := hW7.cell 5; have x7z := hW7.lt; clear hWp hW7)
                go_wp2_with fail
                exact hK
              simp only [Act.put, List.setIfInBounds_toArray, List.set_cons_zero, List.set_cons_succ, Nat.reduceAdd]
            apply flowL_act rfl rfl rfl
            case h =>
              intro W10 hW K hK
              obtain rfl : W10 = Wc.drew := hW
              go_wp2_with (go_at_call 11; go_loud (refine HCALL.out.mono ?_; rintro e w' ⟨cs5, rfl, hn5, hb5⟩))
              obtain ⟨k5, lo5, hi5, lz5, o15, o25, n15, c15, n25, c25, rfl⟩ := nd6k hn5
              refine ⟨k5, lo5, hi5, lz5, o15, o25, n15, c15, n25, c25, rfl, NdAt.mono (fun q hq => ?_) hn5, ((Below.refl _ _).drew).trans hb5⟩
              have hez := HEZ.out
              rcases hq with hq | hq
              · exact ⟨⟨.inl hq.1, by omega⟩, by omega, fun e => by have := HOWN.out _ e; omega⟩
              · have hq' : Wc.heap.size ≤ q := hq
                exact ⟨⟨.inr (by omega), by omega⟩, by omega, fun e => by have := HOWN.out _ e; omega⟩
            intro v3 hv3
            obtain ⟨_, k6, lo6, hi6, lz6, o61, o62, n61, c61, n62, c62, rfl, -⟩ := hv3
            simp only [six]
            simp only [Act.put, List.setIfInBounds_toArray, List.set_cons_zero, List.set_cons_succ, Nat.reduceAdd]
            apply flowL_act rfl rfl rfl
            case h =>
              intro W1 hW K hK
              obtain ⟨k, lo, hi, lz, o1, o2, n1, c1, n2, c2, he, hn, hb⟩ := hW
              have HE := Lib.hid he
              have HN := Lib.hid hn
              have HB := Lib.hid hb
              clear he hn hb
              go_wp2_with fail
              have he := HE.out
              simp only [six, Value.agg.injEq, List.toArray_eq_toArray_eq, List.toArray_inj, List.cons.injEq, Value.int.injEq, Value.slice.injEq, Value.bool.injEq, true_and, and_true] at he
              obtain ⟨rfl, ⟨rfl, rfl, rfl⟩, rfl, rfl, rfl, rfl, rfl, rfl⟩ := he
              have k1 : Kept (fun _ => False) W1 (W1.alloc (.cells #[.int .u8 k6, .slice o61 n61 c61, .int .i64 lo6, .int .i64 hi6, .bool lz6, .slice o62 n62 c62] 28)) := (Kept.refl _ _).alloc _
              exact ⟨k6, lo6, hi6, lz6, o61, o62, n61, c61, n62, c62, W1.heap.size, rfl, rfl, srcN rfl, NdAt.go k1 (fun q _ hq => ⟨id, hq⟩) HN.out, HB.out.alloc HB.out.size _⟩
            intro v4 hv4
            obtain ⟨_, _, _, _, _, _, _, _, _, _, _, q7, -, rfl, -⟩ := hv4
            simp only [Act.put, List.setIfInBounds_toArray, List.set_cons_zero, List.set_cons_succ, Nat.reduceAdd]
            apply flowL_act rfl rfl rfl
            case h =>
              intro W1 hW K hK
              obtain ⟨k9, lo9, hi9, lz9, o1, o2, n1, c1, n2, c2, q, he, hq, hsr, hn, hb⟩ := hW
              simp only [Value.slice.injEq, Option.some.injEq, Addr.mk.injEq, true_and, and_true] at hq
              subst hq
              have hbr1 := HBRC.out.go hb
              have hro1 := ownGo HRO.out (Kept.of_below hb (fun _ => False)) (fun _ _ => id)
              have hrn1 := NdsAt.go (M := fun q => ((N q ∨ w.heap.size ≤ q) ∧ q ≠ w.heap.size + 1) ∧ q ≠ w.heap.size ∧ (Value.slice ov i cv).ownBlock ≠ some q) (Kept.of_below hb (fun _ => False)) (fun q _ hq => ⟨id, by simpa [HLT.out] using hq⟩) HRN.out
              refine wp_append_row _ _ 26 rfl Tryd.underlying26 hi0 hz0 hz1 hz2 rfl (.slice ov i cv) i ps rfl hro1 _ 1 _ rfl hsr rfl (by simp [six, Value.oneCell']) hmx1 hmx2 (by have := hb.size; have := HEZ.out; omega) ?_
              intro v' w' h1 h2 h3 h4
              obtain ⟨ov', cv', rfl⟩ := ownSlice h1
              have hm := hbr1.more (t := bareT ts) (by rw [HLT.out]; exact hro1) hrn1 hn (by rw [HLT.out]; exact h1) h2 h3
              refine hK _ _ ⟨ov', cv', by rw [HLT.out], by rw [HLT.out]; exact hm, (Kept.of_below hb _).trans (grownK h2)⟩
            intro v5 hv5
            obtain ⟨_, o3, c3, rfl, -⟩ := hv5
            rw [HLT.out]
            simp only [Act.put, List.setIfInBounds_toArray, List.set_cons_zero, List.set_cons_succ, Nat.reduceAdd]
            iterate 1
              apply flowL_read _ rfl rfl rfl rfl
              case h =>
                intro W1 hW K hK
                (obtain ⟨hWp, hW7⟩ := hW; have w8 : W1.cell? ⟨w.heap.size, 5, none⟩ = some (.slice ov i cv) := hWp.cell 5; have w8z := hWp.lt; have x0 := hW7.cell 0; have x1 := hW7.cell 1; have x2 := hW7.cell 2; have x3 := hW7.cell 3; have x4 := hW7.cell 4; have x5 := hW7.cell 5; have x7z := hW7.lt; clear hWp hW7)
                go_wp2_with fail
                exact hK
              simp only [Act.put, List.setIfInBounds_toArray, List.set_cons_zero, List.set_cons_succ, Nat.reduceAdd]
            apply flowL_act rfl rfl rfl
            case h =>
              intro W10 hW K hK
              obtain ⟨o4, c4, he4, hbr4, hk4⟩ := hW
              rw [HLT.out] at he4 hbr4
              simp only [Value.slice.injEq, true_and] at he4
              obtain ⟨rfl, rfl⟩ := he4
              have hPP := HBRC.out.node.kept hk4 (fun e => by have := HOWN.out _ e; omega)
              have w8 : W10.cell? ⟨w.heap.size, 5, none⟩ = some (.slice ov i cv) := hPP.cell 5
              have w8z := hPP.lt
              have w8f := hPP.frozen 5
              have HEND := Lib.hid hbr4
              have HK4 := Lib.hid ((hk4.mono (fun q _ e => Or.inl e)).setCell (X := fun q => (Value.slice ov i cv).ownBlock = some q ∨ q = w.heap.size) (p := ⟨w.heap.size, 5, none⟩) (fun _ => Or.inr rfl) (.slice o3 (i + 1) c3))
              clear hbr4 hk4 hPP
              go_wp2_with fail
              exact hK undef _ ⟨o3, c3, by rw [HLT.out]; exact HEND.out, HK4.out⟩
            intro v6 hv6
            simp only [Act.put, List.setIfInBounds_toArray, List.set_cons_zero, List.set_cons_succ, Nat.reduceAdd]
            refine flowL_end fun W11 h11 => ?_
            obtain ⟨o4, c4, hbr4, hk4⟩ := h11
            rw [HSN.out] at hbr4
            have HBR4 := Lib.hid hbr4
            have HR4 := Lib.hid (HRESC.out.kept hk4 (fun e => by
              rcases e with e | e
              · have := (HOWN.out _ e).1; omega
              · omega))
            clear hbr4 hk4
            go_wp2_with fail
            go_roundw
            case rel => exact ⟨i + 1, _, by omega, by go_num, HBR4.out, HR4.out⟩
            case measure => simp [intOf]; omega
        · obtain rfl : i = subs.length := by omega
          have hall : (bareL subs).take subs.length = bareL subs := List.take_of_length_le (by rw [HBL.out]; exact Nat.le_refl _)
          rw [hall] at hbr
          obtain ⟨ps, hro, hrn⟩ := hbr.row
          obtain ⟨ov, cv, rfl⟩ := ownSlice hro
          have hnode := hbr.node
          obtain ⟨e0, e1, e2, e3, e4, e5⟩ : Wa.cell? ⟨w.heap.size, 0, none⟩ = some (.int .u8 k) ∧ Wa.cell? ⟨w.heap.size, 1, none⟩ = some (.slice os set.length cs) ∧ Wa.cell? ⟨w.heap.size, 2, none⟩ = some (.int .i64 lo) ∧ Wa.cell? ⟨w.heap.size, 3, none⟩ = some (.int .i64 hi) ∧ Wa.cell? ⟨w.heap.size, 4, none⟩ = some (.bool lazy) ∧ Wa.cell? ⟨w.heap.size, 5, none⟩ = some (.slice ov (bareL subs).length cv) :=
            ⟨hnode.cell 0, hnode.cell 1, hnode.cell 2, hnode.cell 3, hnode.cell 4, hnode.cell 5⟩
          have ez := hnode.lt
          have r0 := hres.cell 0; have r1 := hres.cell 1; have r2 := hres.cell 2; have r3 := hres.cell 3; have r4 := hres.cell 4; have r5 := hres.cell 5
          have rz := hres.lt
          have rf : ∀ i, Wa.frozen? ⟨w.heap.size + 1, i, none⟩ = false := hres.frozen
          have hnd : NdAt (fun q => (N q ∨ w.heap.size ≤ q) ∧ q ≠ w.heap.size + 1) Wa (bareT (.mk k set lo hi lazy subs)) [.int .u8 k, .slice os set.length cs, .int .i64 lo, .int .i64 hi, .bool lazy, .slice ov (bareL subs).length cv] := by
            rw [HBT.out, NdAt]
            refine ⟨_, _, ps, rfl, ⟨hk.1, hk.2.1, by rw [HBL.out]; exact hk.2.2⟩, hlo, hhi, RgsGo HSET.out (Kept.of_below hbr.below (fun _ => False)) (fun q hq hn => ⟨id, .inl hn, by omega⟩), rowOwn hro (fun q hq => ?_), NdsAt.mono (fun q hq => hq.1) hrn⟩
            have := (hro.lt q hq).1
            exact ⟨.inr (by omega), by omega⟩
          have hF := FIN.out Wa _ _ _ _ _ _ hbr.below hres hnd
          have HF := Lib.hid hF
          clear hF hnd hbr hres hro hrn hnode hall
          go_wp2_with fail
          have hF := HF.out
          exact bodyPost_ret (v := .agg #[.int .u8 k, .slice os set.length cs, .int .i64 lo, .int .i64 hi, .bool lazy, .slice ov (bareL subs).length cv]) (by simp [results, Tryd.results11, go_sem, hF.2.cell]) rfl hF.1
theorem bare_all : ∀ t : Nd, BarSpec t
  | .mk k set lo hi lazy subs => bare_step (fun s hs => bare_all s)
termination_by t => SizeOf.sizeOf t
decreasing_by
  have := List.sizeOf_lt_of_mem hs
  simp
  omega
end Go.Proofs.YtnhjakdmbfadlaaDoor
