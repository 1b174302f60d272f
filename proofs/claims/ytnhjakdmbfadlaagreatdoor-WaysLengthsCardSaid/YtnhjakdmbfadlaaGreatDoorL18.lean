/- Parts of the proof: PartW. Conditions: none. -/
import Derived.Test.YtnhjakdmbfadlaaGreatDoorL11
set_option linter.all false
/- part, walked. -/
namespace Go.Proofs.YtnhjakdmbfadlaaGreatDoor
open Go.RowKit Wy Mem Grow

def ptW (m p : Nat) (s mv : Value) (N1 : Nat → Prop) (t : Nd) (Gi Pi : Nat) (pv : Value) (n : Nat) (ps : List Value) (W : World) : List Value → World → Prop
  | [] => fun w' => w' = W.drew
  | [v1] => fun w' => ∃ b, v1 = .pointer (some ⟨b, 0, none⟩) ∧ Kept (fun q => q = m) W w' ∧ PartAt N1 w' t Pi Gi b ∧ Blk w' m (mkC s mv (Gi + opened t) (Pi + nodes t)) 105
  | [v1, v2] => fun w' => ∃ b q, v1 = .pointer (some ⟨b, 0, none⟩) ∧ v2 = .slice (some ⟨q, 0, none⟩) 1 1 ∧ SrcAt w' (.slice (some ⟨q, 0, none⟩) 1 1) 1 [.pointer (some ⟨b, 0, none⟩)] ∧ Kept (fun q => q = m) W w' ∧ PartAt N1 w' t Pi Gi b ∧ Blk w' m (mkC s mv (Gi + opened t) (Pi + nodes t)) 105
  | [_, _, v3] => fun w' => ∃ b w3 o c, Kept (fun q => q = m) W w3 ∧ PartAt N1 w3 t Pi Gi b ∧ Blk w3 m (mkC s mv (Gi + opened t) (Pi + nodes t)) 105 ∧ v3 = .slice o (n + 1) c ∧ w'.ownsRow (p + 1) 106 1 (.slice o (n + 1) c) (n + 1) (ps ++ [.pointer (some ⟨b, 0, none⟩)]) ∧ w3.grownBy w' pv.ownBlock ∧ ((Value.slice o (n + 1) c).ownBlock = pv.ownBlock ∨ (Value.slice o (n + 1) c).ownBlock = some w3.heap.size)
  | [_, _, _, _] => fun w' => ∃ b w3 w4 o c, Kept (fun q => q = m) W w3 ∧ PartAt N1 w3 t Pi Gi b ∧ Blk w3 m (mkC s mv (Gi + opened t) (Pi + nodes t)) 105 ∧ w4.ownsRow (p + 1) 106 1 (.slice o (n + 1) c) (n + 1) (ps ++ [.pointer (some ⟨b, 0, none⟩)]) ∧ w3.grownBy w4 pv.ownBlock ∧ ((Value.slice o (n + 1) c).ownBlock = pv.ownBlock ∨ (Value.slice o (n + 1) c).ownBlock = some w3.heap.size) ∧ w' = w4.setCell ⟨p, 8, none⟩ (.slice o (n + 1) c)
  | _ => fun _ => False

theorem mkC_two (s mv : Value) (G0 P0 : Nat) : ((mkC s mv G0 P0).setIfInBounds 2 (.int .i64 ((P0 : Int) + 1))).setIfInBounds 1 (.int .i64 ((G0 : Int) + 1)) = mkC s mv (G0 + 1) (P0 + 1) := by
  unfold mkC
  simp
theorem mkC_one (s mv : Value) (G0 P0 : Nat) : (mkC s mv G0 P0).setIfInBounds 2 (.int .i64 ((P0 : Int) + 1)) = mkC s mv G0 (P0 + 1) := by
  unfold mkC
  simp
set_option maxHeartbeats 8000000 in
set_option maxRecDepth 100000 in
theorem part_step {k : Int} {set : List Rg} {lo hi : Int} {lazy : Bool} {subs : List Nd} (ih : ∀ s ∈ subs, PartSpec s) : PartSpec (.mk k set lo hi lazy subs) := by
  intro N w m s mv G0 P0 cs hm hnd hnew hNm hG hP
  rw [NdAt] at hnd
  obtain ⟨sv, uv, ucs, rfl, hk, hlo, hhi, hset, hrow, hsubs⟩ := hnd
  obtain ⟨os, cs, rfl⟩ := hset.row.slice
  obtain ⟨ou, cu, rfl⟩ := hrow.slice
  have HM := Lib.hid hm
  have HIH := Lib.hid ih
  have HSET := Lib.hid hset
  have HROW := Lib.hid hrow
  have HSUBS := Lib.hid hsubs
  have HNEW := Lib.hid hnew
  have hmz := hm.lt
  have hsl : (subs.length : Int) ≤ 1048576 := by omega
  clear hm ih hset hrow hsubs hnew
  go_enter Tryz.func42, Tryz.ntmps42
  go_upto_region 1 with fail
  have hB3 : Blk (w.alloc (.cells #[.int .u8 k, .slice os set.length cs, .int .i64 lo, .int .i64 hi, .bool lazy, .slice ou subs.length cu] 27)) w.heap.size #[.int .u8 k, .slice os set.length cs, .int .i64 lo, .int .i64 hi, .bool lazy, .slice ou subs.length cu] 27 := Blk.new _ _ _
  have hmB := HM.out.alloc (.cells #[.int .u8 k, .slice os set.length cs, .int .i64 lo, .int .i64 hi, .bool lazy, .slice ou subs.length cu] 27)
  have hk1 : Below w.heap.size w (w.alloc (.cells #[.int .u8 k, .slice os set.length cs, .int .i64 lo, .int .i64 hi, .bool lazy, .slice ou subs.length cu] 27)) := (Below.refl _ _).alloc (Nat.le_refl _) _
  have hz1 : (w.alloc (.cells #[.int .u8 k, .slice os set.length cs, .int .i64 lo, .int .i64 hi, .bool lazy, .slice ou subs.length cu] 27)).heap.size = w.heap.size + 1 := by simp
  generalize (w.alloc (.cells #[.int .u8 k, .slice os set.length cs, .int .i64 lo, .int .i64 hi, .bool lazy, .slice ou subs.length cu] 27)) = W1 at hB3 hmB hk1 hz1 ⊢
  have HZ1 := Lib.hid hz1
  have HB3 := Lib.hid hB3
  have HMB := Lib.hid hmB
  have HK1 := Lib.hid hk1
  obtain ⟨m1, m2⟩ : W1.cell? ⟨m, 1, none⟩ = some (.int .i64 G0) ∧ W1.cell? ⟨m, 2, none⟩ = some (.int .i64 P0) := ⟨hmB.cell 1, hmB.cell 2⟩
  obtain ⟨n0, n1, n2, n3, n4, n5⟩ : W1.cell? ⟨w.heap.size, 0, none⟩ = some (.int .u8 k) ∧ W1.cell? ⟨w.heap.size, 1, none⟩ = some (.slice os set.length cs) ∧ W1.cell? ⟨w.heap.size, 2, none⟩ = some (.int .i64 lo) ∧ W1.cell? ⟨w.heap.size, 3, none⟩ = some (.int .i64 hi) ∧ W1.cell? ⟨w.heap.size, 4, none⟩ = some (.bool lazy) ∧ W1.cell? ⟨w.heap.size, 5, none⟩ = some (.slice ou subs.length cu) :=
    ⟨hB3.cell 0, hB3.cell 1, hB3.cell 2, hB3.cell 3, hB3.cell 4, hB3.cell 5⟩
  have mz := hmB.lt
  have nz := hB3.lt
  clear hB3 hmB hk1 hz1
  apply wp_flowL ?hm ?hok [0, 1, 2, 3, 4, 5, 6, 7, 8, 9, 10, 11] [10] [11] ?hord (fun w' => w' = W1.drew) (fun L w' => match L with | [] => w' = W1.drew | [v] => v = .pointer (some ⟨W1.heap.size, 0, none⟩) ∧ w' = W1.drew.alloc (.cells (partC0 k lo hi lazy (.slice os set.length cs) (.slice ou subs.length cu) (.slice none 0 0) P0 G0) 140) | _ => False)
  case hm => rfl
  case hok => kernel_rfl
  case hord => kernel_rfl
  case hb =>
    intro L w' h hl
    match L with
    | [] => exact h
    | _ :: _ => simp at hl
  case hw => rfl
  case h =>
    iterate 10
      apply flowL_read _ rfl rfl rfl rfl
      case h =>
        intro W1 hW K hK
        (obtain rfl := hW)
        go_wp2_with fail
        exact hK
      simp only [Act.put, List.setIfInBounds_toArray, List.set_cons_zero, List.set_cons_succ, Nat.reduceAdd]
    apply flowL_act rfl rfl rfl
    case h =>
      intro W10 hW K hK
      obtain rfl : W10 = W1.drew := hW
      go_wp2_with fail
      rename_i heq
      simp only [List.nil_append, List.cons.injEq, and_true] at heq
      exact ⟨heq.symm, rfl⟩
    intro v10 hv10
    obtain ⟨_, rfl, -⟩ := hv10
    simp only [Act.put, List.setIfInBounds_toArray, List.set_cons_zero, List.set_cons_succ, Nat.reduceAdd]
    iterate 1
      apply flowL_pin _ rfl rfl rfl rfl
      case h =>
        intro W1 hW K hK
        (skip)
        go_wp2_with fail
        exact hK
      simp only [Act.put, List.setIfInBounds_toArray, List.set_cons_zero, List.set_cons_succ, Nat.reduceAdd]
    refine flowL_end fun W2 h2 => ?_
    obtain ⟨-, rfl⟩ := h2
    have hp2 : Blk (W1.drew.alloc (.cells (partC0 k lo hi lazy (.slice os set.length cs) (.slice ou subs.length cu) (.slice none 0 0) P0 G0) 140)) W1.heap.size (partC0 k lo hi lazy (.slice os set.length cs) (.slice ou subs.length cu) (.slice none 0 0) P0 G0) 140 := Blk.new W1.drew _ _
    have hm2 : Blk (W1.drew.alloc (.cells (partC0 k lo hi lazy (.slice os set.length cs) (.slice ou subs.length cu) (.slice none 0 0) P0 G0) 140)) m (mkC s mv G0 P0) 105 := HMB.out.drew.alloc _
    have hn2 : Blk (W1.drew.alloc (.cells (partC0 k lo hi lazy (.slice os set.length cs) (.slice ou subs.length cu) (.slice none 0 0) P0 G0) 140)) w.heap.size _ _ := HB3.out.drew.alloc _
    have hk2 : Below w.heap.size w (W1.drew.alloc (.cells (partC0 k lo hi lazy (.slice os set.length cs) (.slice ou subs.length cu) (.slice none 0 0) P0 G0) 140)) := HK1.out.drew.alloc (by have := HK1.out.size; exact this) _
    have hz2 : (W1.drew.alloc (.cells (partC0 k lo hi lazy (.slice os set.length cs) (.slice ou subs.length cu) (.slice none 0 0) P0 G0) 140)).heap.size = W1.heap.size + 1 := by simp
    generalize (W1.drew.alloc (.cells (partC0 k lo hi lazy (.slice os set.length cs) (.slice ou subs.length cu) (.slice none 0 0) P0 G0) 140)) = W2 at hp2 hm2 hn2 hk2 hz2 ⊢
    obtain ⟨p, hpe⟩ : ∃ p, p = W1.heap.size := ⟨_, rfl⟩
    rw [← hpe] at hp2 hz2 ⊢
    have hpm : p ≠ m := by omega
    have hpB : w.heap.size ≤ p := by have := HK1.out.size; omega
    obtain ⟨e, he⟩ : ∃ e, e = if k = 6 then 1 else 0 := ⟨_, rfl⟩
    have HP2 := Lib.hid hp2
    obtain ⟨a1, a2⟩ : W2.cell? ⟨m, 1, none⟩ = some (.int .i64 G0) ∧ W2.cell? ⟨m, 2, none⟩ = some (.int .i64 P0) := ⟨hm2.cell 1, hm2.cell 2⟩
    have a3 := hm2.lt
    have a0 : ∀ i, W2.frozen? ⟨m, i, none⟩ = false := hm2.frozen
    obtain ⟨b0, b5⟩ : W2.cell? ⟨w.heap.size, 0, none⟩ = some (.int .u8 k) ∧ W2.cell? ⟨w.heap.size, 5, none⟩ = some (.slice ou subs.length cu) := ⟨hn2.cell 0, hn2.cell 5⟩
    have b3 := hn2.lt
    have hne : w.heap.size ≠ m := by omega
    have hP1 : (P0 : Int) ≤ 1000000000 := by omega
    have hG1 : (G0 : Int) ≤ 1000000000 := by omega
    have HGG := Lib.hid hG
    have HPP := Lib.hid hP
    have HM2 := Lib.hid hm2
    have HN2 := Lib.hid hn2
    have HZ2 := Lib.hid hz2
    have HPE := Lib.hid hpe
    have HK2 := Lib.hid hk2
    clear hz2 hpe hk2 hG hP
    have HE := Lib.hid he
    clear hm2 hn2 he hp2 m1 m2 n0 n1 n2 n3 n4 n5 mz nz
    go_upto_if 28 with fail
    go_cut [] (fun wx => PtAt N m s mv p k lo hi lazy (.slice os set.length cs) (.slice ou subs.length cu) G0 P0 w [] e (fun q => N q ∧ q ≠ p) wx (.slice none 0 0) ∧ Blk wx w.heap.size #[.int .u8 k, .slice os set.length cs, .int .i64 lo, .int .i64 hi, .bool lazy, .slice ou subs.length cu] 27)
    case first =>
      by_cases k6 : k = 6
      · subst k6
        go_wp2_with fail
        go_meet
        have hk2 := HK2.out
        have hz2 := HZ2.out
        have hpe := HPE.out
        have hp2 := HP2.out
        have hbase : ∀ W3, Kept (fun q => q = m) W2 W3 → Blk W3 m (mkC s mv (G0 + e) (P0 + 1)) 105 → W3.heap.size = W2.heap.size → PtAt N m s mv p 6 lo hi lazy (.slice os set.length cs) (.slice ou subs.length cu) G0 P0 w [] e (fun q => N q ∧ q ≠ p) W3 (.slice none 0 0) := by
          intro W3 hk3 hm3 hz3
          refine ⟨fun q hq => hq.1, fun q hq hn => ⟨hn, by omega⟩, fun q hq => ⟨HNEW.out q (by have := hk2.size; omega), by omega⟩, fun e => hNm e.1, fun e => e.2 rfl, hpm, hpB, hp2.kept hk3 (fun e => hpm e), ⟨[], World.ownsRow_nil _ _ _ _, by rw [PartsAt]⟩, fun g hg => by simp [Value.ownBlock] at hg, by simpa [openedL, nodesL] using hm3, (Kept.of_below hk2 _).trans hk3⟩
        have hm3 := (HM2.out.set 2 (.int .i64 ((P0 : Int) + 1))).set 1 (.int .i64 ((G0 : Int) + 1))
        refine ⟨hbase _ (((Kept.refl (fun q => q = m) W2).setCell (p := ⟨m, 2, none⟩) (fun _ => rfl) _).setCell (p := ⟨m, 1, none⟩) (fun _ => rfl) _) ?_ (by simp [World.setCell]), (HN2.out.setOther (p := ⟨m, 2, none⟩) hne _).setOther (p := ⟨m, 1, none⟩) hne _⟩
        rw [mkC_two] at hm3
        rw [show e = 1 by rw [HE.out]; rfl]
        exact hm3
      · have k6b : (k == 6) = false := by simpa using k6
        go_wp2_with fail
        go_meet
        have hk2 := HK2.out
        have hz2 := HZ2.out
        have hpe := HPE.out
        have hp2 := HP2.out
        have hbase : ∀ W3, Kept (fun q => q = m) W2 W3 → Blk W3 m (mkC s mv (G0 + e) (P0 + 1)) 105 → W3.heap.size = W2.heap.size → PtAt N m s mv p k lo hi lazy (.slice os set.length cs) (.slice ou subs.length cu) G0 P0 w [] e (fun q => N q ∧ q ≠ p) W3 (.slice none 0 0) := by
          intro W3 hk3 hm3 hz3
          refine ⟨fun q hq => hq.1, fun q hq hn => ⟨hn, by omega⟩, fun q hq => ⟨HNEW.out q (by have := hk2.size; omega), by omega⟩, fun e => hNm e.1, fun e => e.2 rfl, hpm, hpB, hp2.kept hk3 (fun e => hpm e), ⟨[], World.ownsRow_nil _ _ _ _, by rw [PartsAt]⟩, fun g hg => by simp [Value.ownBlock] at hg, by simpa [openedL, nodesL] using hm3, (Kept.of_below hk2 _).trans hk3⟩
        have hm3 := (HM2.out.set 2 (.int .i64 ((P0 : Int) + 1)))
        refine ⟨hbase _ ((Kept.refl (fun q => q = m) W2).setCell (p := ⟨m, 2, none⟩) (fun _ => rfl) _) ?_ (by simp [World.setCell]), HN2.out.setOther (p := ⟨m, 2, none⟩) hne _⟩
        rw [mkC_one] at hm3
        rw [HE.out, if_neg k6, Nat.add_zero]
        exact hm3
    case rest =>
      rename World => W4
      obtain ⟨hpt4, hn4⟩ := hcut
      have HPT4 := Lib.hid hpt4
      have HN4 := Lib.hid hn4
      have c5 : W4.cell? ⟨w.heap.size, 5, none⟩ = some (.slice ou subs.length cu) := hn4.cell 5
      have c5z := hn4.lt
      obtain ⟨i0, hi0, hz0, hz1, hz2'⟩ := info_parts infoP
      clear hpt4 hn4 a0 a1 a2 a3 b0 b5 b3
      go_wp2_with fail
      go_loopw [39] (fun s39 wx => ∃ (i : Nat) (N1 : Nat → Prop) (pv : Value), i ≤ subs.length ∧ s39 = .int .i64 i ∧ PtAt N m s mv p k lo hi lazy (.slice os set.length cs) (.slice ou subs.length cu) G0 P0 w (subs.take i) e N1 wx pv) (fun s39 _ => subs.length - (intOf s39).toNat)
      case atStart => exact ⟨0, _, _, by omega, rfl, HPT4.out⟩
      case round =>
        rename World => Wa
        obtain ⟨i, N1, pv, hi', rfl, hpt⟩ := hrel
        by_cases hil : i < subs.length
        · obtain ⟨ub, uo, uc, hue, huc, hum, hNub, hubz, hucell⟩ := HROW.out.parts HSUBS.out (by omega)
          simp only [Value.slice.injEq, true_and] at hue
          obtain ⟨rfl, rfl⟩ := hue
          obtain ⟨tsv, tuv, hnt, t0, t1, t2, t3, t4, t5⟩ := hucell i hil
          have hub : Wa.heap[ub]? = w.heap[ub]? := hpt.kept.block ub hubz (fun e => hNm (e ▸ hNub))
          have hnta : NdAt N1 Wa subs[i] [.int .u8 subs[i].kind, tsv, .int .i64 subs[i].lo, .int .i64 subs[i].hi, .bool subs[i].lazy, tuv] := NdAt.go hpt.kept (fun q hq hn => ⟨fun e => hNm (e ▸ hn), hpt.keep q hq hn⟩) hnt
          have hnt' := hnt
          obtain ⟨ts, hts⟩ : ∃ ts, ts = subs[i] := ⟨_, rfl⟩
          rw [← hts] at t0 t2 t3 t4 hnta hnt'
          have hsl1 : ∃ o n c, tsv = .slice o n c := by
            cases ts
            rw [NdAt] at hnt'
            obtain ⟨sv', uv', ucs', h1, -, -, -, h5, h6, -⟩ := hnt'
            simp only [List.cons.injEq] at h1
            rw [h1.2.1]
            obtain ⟨o, c, e⟩ := h5.row.slice
            exact ⟨_, _, _, e⟩
          have hsl2 : ∃ o n c, tuv = .slice o n c := by
            cases ts
            rw [NdAt] at hnt'
            obtain ⟨sv', uv', ucs', h1, -, -, -, h5, h6, -⟩ := hnt'
            simp only [List.cons.injEq] at h1
            rw [h1.2.2.2.2.2.1]
            obtain ⟨o, c, e⟩ := h6.slice
            exact ⟨_, _, _, e⟩
          obtain ⟨to1, tn1, tc1, rfl⟩ := hsl1
          obtain ⟨to2, tn2, tc2, rfl⟩ := hsl2
          have g0 := (World.cell?_of_block (a := ⟨ub, uo + i * 6, none⟩) hub).trans t0
          have g1 := (World.cell?_of_block (a := ⟨ub, uo + i * 6 + 1, none⟩) hub).trans t1
          have g2 := (World.cell?_of_block (a := ⟨ub, uo + i * 6 + 2, none⟩) hub).trans t2
          have g3 := (World.cell?_of_block (a := ⟨ub, uo + i * 6 + 3, none⟩) hub).trans t3
          have g4 := (World.cell?_of_block (a := ⟨ub, uo + i * 6 + 4, none⟩) hub).trans t4
          have g5 := (World.cell?_of_block (a := ⟨ub, uo + i * 6 + 5, none⟩) hub).trans t5
          have hubza : ub < Wa.heap.size := hpt.kept.lt hubz
          have hilI : (i : Int) < subs.length := by omega
          have hucI : (subs.length : Int) ≤ cu := by omega
          have HPT := Lib.hid hpt
          have HNT := Lib.hid hnta
          have HTS := Lib.hid hts
          clear hucell hnt hnt' hnta hts hub t0 t1 t2 t3 t4 t5 hpt
          go_upto_region 8 with fail
          have hbC : Below Wa.heap.size Wa (Wa.alloc (.cells #[.int .u8 ts.kind, .slice to1 tn1 tc1, .int .i64 ts.lo, .int .i64 ts.hi, .bool ts.lazy, .slice to2 tn2 tc2] 27)) := (Below.refl _ _).alloc (Nat.le_refl _) _
          have hB7 : Blk (Wa.alloc (.cells #[.int .u8 ts.kind, .slice to1 tn1 tc1, .int .i64 ts.lo, .int .i64 ts.hi, .bool ts.lazy, .slice to2 tn2 tc2] 27)) Wa.heap.size #[.int .u8 ts.kind, .slice to1 tn1 tc1, .int .i64 ts.lo, .int .i64 ts.hi, .bool ts.lazy, .slice to2 tn2 tc2] 27 := Blk.new _ _ _
          have hazB : Wa.heap.size < (Wa.alloc (.cells #[.int .u8 ts.kind, .slice to1 tn1 tc1, .int .i64 ts.lo, .int .i64 ts.hi, .bool ts.lazy, .slice to2 tn2 tc2] 27)).heap.size := by simp
          generalize (Wa.alloc (.cells #[.int .u8 ts.kind, .slice to1 tn1 tc1, .int .i64 ts.lo, .int .i64 ts.hi, .bool ts.lazy, .slice to2 tn2 tc2] 27)) = Wc at hbC hB7 hazB ⊢
          have hptc : PtAt N m s mv p k lo hi lazy (.slice os set.length cs) (.slice (some ⟨ub, uo, none⟩) subs.length cu) G0 P0 w (subs.take i) e N1 Wc pv := HPT.out.below hbC
          have hntc : NdAt N1 Wc ts [.int .u8 ts.kind, .slice to1 tn1 tc1, .int .i64 ts.lo, .int .i64 ts.hi, .bool ts.lazy, .slice to2 tn2 tc2] := NdAt.go (Kept.of_below hbC (fun _ => False)) (fun q _ hn => ⟨id, hn⟩) HNT.out
          obtain ⟨ps, ho1, ho2⟩ := hptc.own
          obtain ⟨opv, cpv, rfl⟩ := own_slice ho1
          have hlt : (subs.take i).length = i := by rw [List.length_take]; omega
          rw [hlt] at ho1
          have h7m : Wa.heap.size ≠ m := by have := HPT.out.maker.lt; omega
          have h7p : Wa.heap.size ≠ p := by have := HPT.out.part.lt; omega
          have hown7 : ∀ q, (Value.slice opv (subs.take i).length cpv).ownBlock = some q → q ≠ p ∧ q ≠ Wa.heap.size := fun q hq => by
            obtain ⟨ps', hh, -⟩ := HPT.out.own
            have := hh.lt q hq
            omega
          have hnom := hptc.ownM
          have hdr : Below Wc.heap.size Wc Wc.drew := (Below.refl _ _).drew
          have hcall := HIH.out ts (by rw [HTS.out]; exact List.getElem_mem hil) N1 Wc.drew m s mv (G0 + e + openedL (subs.take i)) (P0 + 1 + nodesL (subs.take i)) _ (hptc.below hdr).maker (NdAt.go (Kept.of_below hdr (fun _ => False)) (fun q _ hn => ⟨id, hn⟩) hntc) (hptc.below hdr).new hptc.noM
            (by have := HGG.out; rw [opened] at this; have := openedL_at hil; rw [← HTS.out] at this; have := HE.out; omega) (by have := HPP.out; rw [nodes] at this; have := nodesL_at hil; rw [← HTS.out] at this; omega)
          rw [hlt] at hown7 hnom
          have HCALL := Lib.hid hcall
          have HPTC := Lib.hid hptc
          have HO1 := Lib.hid ho1
          have HO2 := Lib.hid ho2
          have HB7 := Lib.hid hB7
          have HOWN7 := Lib.hid hown7
          have HNOM := Lib.hid hnom
          have HAZ := Lib.hid hazB
          have HLT := Lib.hid hlt
          have H7M := Lib.hid h7m
          have hmx1 : i + 1 ≤ maxLen := by unfold maxLen; omega
          have hmx2 : (i + 1) * 8 ≤ 140737488355328 := by omega
          rw [hlt] at HPTC
          clear hcall hptc hntc ho1 ho2 hB7 hown7 hnom hazB hdr hbC hlt g0 g1 g2 g3 g4 g5 h7m
          apply wp_flowL ?hm ?hok [0, 1, 2, 3, 4, 5, 6, 7, 8, 9, 10, 11, 12] [7, 8, 9, 12] [] ?hord (fun w' => Blk w' p (partC0 k lo hi lazy (.slice os set.length cs) (.slice (some ⟨ub, uo, none⟩) subs.length cu) (.slice opv i cpv) P0 G0) 140 ∧ Blk w' Wa.heap.size #[.int .u8 ts.kind, .slice to1 tn1 tc1, .int .i64 ts.lo, .int .i64 ts.hi, .bool ts.lazy, .slice to2 tn2 tc2] 27) (ptW m p s mv N1 ts (G0 + e + openedL (subs.take i)) (P0 + 1 + nodesL (subs.take i)) (.slice opv i cpv) i ps Wc)
          case hm => rfl
          case hok => kernel_rfl
          case hord => kernel_rfl
          case hb =>
            intro L w' h hl
            have hP0 := HPTC.out.part
            match L with
            | [] => obtain rfl : w' = Wc.drew := h; exact ⟨hP0, HB7.out⟩
            | [_] => obtain ⟨b, -, h1, -⟩ := h; exact ⟨hP0.kept h1 HPTC.out.pm, HB7.out.kept h1 H7M.out⟩
            | [_, _] => obtain ⟨b, q, -, -, -, h1, -⟩ := h; exact ⟨hP0.kept h1 HPTC.out.pm, HB7.out.kept h1 H7M.out⟩
            | [_, _, _] =>
              obtain ⟨b, w3, o, c, h1, -, -, -, -, h2, -⟩ := h
              exact ⟨(hP0.kept h1 HPTC.out.pm).kept (Kept.of_grown h2) (fun e => (HOWN7.out _ e).1 rfl), (HB7.out.kept h1 H7M.out).kept (Kept.of_grown h2) (fun e => (HOWN7.out _ e).2 rfl)⟩
            | _ :: _ :: _ :: _ :: _ =>
              exfalso
              rw [show (List.filter (fun j => [7, 8, 9, 12].contains j) [0, 1, 2, 3, 4, 5, 6, 7, 8, 9, 10, 11, 12]).length = 4 by decide] at hl
              simp only [List.length_cons] at hl
              omega
          case hw => rfl
          case h =>
            iterate 7
              apply flowL_read _ rfl rfl rfl rfl
              case h =>
                intro W1 hW K hK
                (obtain ⟨hWp, hW7⟩ := hW; have w8 : W1.cell? ⟨p, 8, none⟩ = some (.slice opv i cpv) := hWp.cell 8; have w8z := hWp.lt; have x0 := hW7.cell 0; have x1 := hW7.cell 1; have x2 := hW7.cell 2; have x3 := hW7.cell 3; have x4 := hW7.cell 4; have x5 := hW7.cell 5; have x7z := hW7.lt; clear hWp hW7)
                go_wp2_with fail
                exact hK
              simp only [Act.put, List.setIfInBounds_toArray, List.set_cons_zero, List.set_cons_succ, Nat.reduceAdd]
            apply flowL_act rfl rfl rfl
            case h =>
              intro W10 hW K hK
              obtain rfl : W10 = Wc.drew := hW
              go_wp2_with (go_at_call 42; refine HCALL.out.mono ?_; rintro e w' ⟨b, rfl, hb1, hb2, hb3⟩)
              exact ⟨b, rfl, (Kept.of_below ((Below.refl _ _).drew) _).trans hb3, hb1, hb2⟩
            intro v1 hv1
            obtain ⟨_, b, rfl, -⟩ : ∃ w', ∃ b, v1 = .pointer (some ⟨b, 0, none⟩) ∧ Kept (fun q => q = m) Wc w' ∧ PartAt N1 w' ts (P0 + 1 + nodesL (subs.take i)) (G0 + e + openedL (subs.take i)) b ∧ Blk w' m (mkC s mv (G0 + e + openedL (subs.take i) + opened ts) (P0 + 1 + nodesL (subs.take i) + nodes ts)) 105 := hv1
            simp only [Act.put, List.setIfInBounds_toArray, List.set_cons_zero, List.set_cons_succ, Nat.reduceAdd]
            apply flowL_act rfl rfl rfl
            case h =>
              intro W10 hW K hK
              obtain ⟨b', hb', hk3, hp3, hm3⟩ := hW
              simp only [Value.pointer.injEq, Option.some.injEq, Addr.mk.injEq, true_and, and_true] at hb'
              have HK3 := Lib.hid hk3
              have HP3 := Lib.hid hp3
              have HM3 := Lib.hid hm3
              have HB' := Lib.hid hb'
              clear hb' hk3 hp3 hm3
              go_wp2_with fail
              have hb' := HB'.out
              subst hb'
              have hnb := Blk.new W10 #[.pointer (some ⟨b, 0, none⟩)] 106
              refine ⟨b, W10.heap.size, rfl, rfl, .inr ⟨_, _, rfl, fun j u hu => ?_⟩, HK3.out.alloc _, PartAt.go ((Kept.refl (fun _ => False) W10).alloc _) (fun q _ hn => ⟨id, hn⟩) HP3.out, HM3.out.alloc _⟩
              match j with
              | 0 => simp at hu; subst hu; simp [Addr.add, hnb.cell]
              | j + 1 => simp at hu
            intro v2 hv2
            obtain ⟨_, b', q, -, rfl, -⟩ : ∃ (w' : World) (b' q : Nat), (Value.pointer (some ⟨b, 0, none⟩)) = .pointer (some ⟨b', 0, none⟩) ∧ v2 = .slice (some ⟨q, 0, none⟩) 1 1 ∧ SrcAt w' (.slice (some ⟨q, 0, none⟩) 1 1) 1 [.pointer (some ⟨b', 0, none⟩)] ∧ Kept (fun q => q = m) Wc w' ∧ PartAt N1 w' ts (P0 + 1 + nodesL (subs.take i)) (G0 + e + openedL (subs.take i)) b' ∧ Blk w' m (mkC s mv (G0 + e + openedL (subs.take i) + opened ts) (P0 + 1 + nodesL (subs.take i) + nodes ts)) 105 := hv2
            simp only [Act.put, List.setIfInBounds_toArray, List.set_cons_zero, List.set_cons_succ, Nat.reduceAdd]
            apply flowL_act rfl rfl rfl
            case h =>
              intro W10 hW K hK
              obtain ⟨b', q', hb', hq', hsrc, hk3, hp3, hm3⟩ := hW
              simp only [Value.slice.injEq, Option.some.injEq, Addr.mk.injEq, true_and, and_true] at hq'
              subst hq'
              refine wp_append_row _ _ 138 rfl Tryz.underlying138 hi0 hz0 hz1 hz2' rfl (.slice opv i cpv) i ps rfl (ownsRow_go HO1.out hk3 (fun g hg e => HNOM.out (e ▸ hg))) _ 1 _ rfl hsrc rfl (by simp [Value.oneCell']) hmx1 hmx2 (by have := hk3.size; have := HPTC.out.part.lt; omega) ?_
              intro v' w' h1 h2 h3 h4
              obtain ⟨ov, cv, rfl⟩ := own_slice h1
              exact hK _ _ ⟨b', W10, ov, cv, hk3, hp3, hm3, rfl, h1, h2, h3⟩
            intro v3 hv3
            obtain ⟨_, _, _, o3, c3, -, -, -, rfl, -⟩ := hv3
            simp only [Act.put, List.setIfInBounds_toArray, List.set_cons_zero, List.set_cons_succ, Nat.reduceAdd]
            apply flowL_read _ rfl rfl rfl rfl
            case h =>
              intro W1 hW K hK
              (skip)
              go_wp2_with fail
              exact hK
            simp only [Act.put, List.setIfInBounds_toArray, List.set_cons_zero, List.set_cons_succ, Nat.reduceAdd]
            apply flowL_read _ rfl rfl rfl rfl
            case h =>
              intro W1 hW K hK
              (skip)
              go_wp2_with fail
              exact hK
            simp only [Act.put, List.setIfInBounds_toArray, List.set_cons_zero, List.set_cons_succ, Nat.reduceAdd]
            apply flowL_act rfl rfl rfl
            case h =>
              intro W10 hW K hK
              obtain ⟨b', w3, o4, c4, hk3, hp3, hm3, he3, hr3, hg3, hv3⟩ := hW
              simp only [Value.slice.injEq, true_and] at he3
              obtain ⟨rfl, rfl⟩ := he3
              have hPP := (HPTC.out.part.kept hk3 HPTC.out.pm).kept (Kept.of_grown hg3) (fun e => (HOWN7.out _ e).1 rfl)
              have w8 : W10.cell? ⟨p, 8, none⟩ = some (.slice opv i cpv) := hPP.cell 8
              have w8z := hPP.lt
              have w8f := hPP.frozen 8
              have hend : ptW m p s mv N1 ts (G0 + e + openedL (subs.take i)) (P0 + 1 + nodesL (subs.take i)) (.slice opv i cpv) i ps Wc [.pointer (some ⟨b, 0, none⟩), .slice (some ⟨q, 0, none⟩) 1 1, .slice o3 (i + 1) c3, undef] (W10.setCell ⟨p, 8, none⟩ (.slice o3 (i + 1) c3)) :=
                ⟨b', w3, W10, o3, c3, hk3, hp3, hm3, hr3, hg3, hv3, rfl⟩
              have HEND := Lib.hid hend
              clear hend hk3 hp3 hm3 hr3 hg3 hv3 hPP
              go_wp2_with fail
              exact hK undef _ HEND.out
            intro v4 hv4
            simp only [Act.put, List.setIfInBounds_toArray, List.set_cons_zero, List.set_cons_succ, Nat.reduceAdd]
            refine flowL_end fun W11 h11 => ?_
            obtain ⟨b', w3, w4, o4, c4, hk3, hp3, hm3, hr3, hg3, hv3, rfl⟩ := h11
            have hmore := HPTC.out.more HO2.out hk3 hp3 hm3 (by rw [HLT.out]; exact hr3) hg3 hv3
            have htk : subs.take i ++ [ts] = subs.take (i + 1) := by rw [HTS.out, List.take_succ_eq_append_getElem hil]
            rw [htk] at hmore
            have HMORE := Lib.hid hmore
            clear hmore hk3 hp3 hm3 hr3 hg3 hv3 htk
            go_wp2_with fail
            go_roundw
            case rel => exact ⟨i + 1, _, _, by omega, by go_num, HMORE.out⟩
            case measure => simp [intOf]; omega
        · obtain rfl : i = subs.length := by omega
          obtain ⟨ps, ho1, ho2⟩ := hpt.own
          have hend : Prt N w m s mv (.mk k set lo hi lazy subs) G0 P0 (.returned (.pointer (some ⟨p, 0, none⟩))) Wa := by
            have hmk := hpt.maker
            rw [List.take_length] at ho1 ho2 hmk
            refine ⟨p, rfl, ?_, ?_, hpt.kept⟩
            · rw [PartAt]
              refine ⟨.slice os set.length cs, .slice ou subs.length cu, pv, ps, hpt.part, HNEW.out p hpB, ⟨hk.1, hk.2.1, hk.2.2, ⟨_, _, _, rfl⟩⟩, hlo, hhi, RgsAt.go HSET.out hpt.kept (fun q _ hn => ⟨fun e => hNm (e ▸ hn), hn⟩), Row.of_own ho1 (fun q hq _ => HNEW.out q (by omega)), ?_⟩
              rw [← HE.out]
              exact PartsAt.go (Kept.refl (fun _ => False) Wa) (fun q _ hn => ⟨id, hpt.sub q hn⟩) ho2
            · rw [opened, nodes, ← HE.out]
              have e1 : G0 + (e + openedL subs) = G0 + e + openedL subs := by omega
              have e2 : P0 + (nodesL subs + 1) = P0 + 1 + nodesL subs := by omega
              rw [e1, e2]
              exact hmk
          have HEND := Lib.hid hend
          clear hend hpt ho1 ho2
          go_wp2_with fail
          exact bodyPost_ret (v := .pointer (some ⟨p, 0, none⟩)) (by simp [results, Tryz.results42, go_sem]) rfl HEND.out

theorem part_all : ∀ t : Nd, PartSpec t
  | .mk k set lo hi lazy subs => part_step (fun s hs => part_all s)
termination_by t => SizeOf.sizeOf t
decreasing_by
  have := List.sizeOf_lt_of_mem hs
  simp
  omega
end Go.Proofs.YtnhjakdmbfadlaaGreatDoor
