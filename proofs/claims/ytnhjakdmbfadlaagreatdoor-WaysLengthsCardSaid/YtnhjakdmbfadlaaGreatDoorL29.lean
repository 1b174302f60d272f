/- Parts of the proof: Frm. Conditions: none. -/
import Derived.Test.YtnhjakdmbfadlaaGreatDoorL28
import Derived.Outline
set_option linter.all false
/- firm of the reference: true at trees that are shaped and firm. -/
namespace Go.Proofs.YtnhjakdmbfadlaaGreatDoor
open Go.RowKit Wy Mem Grow

def FrmSpec (t : Nd) : Prop := ∀ (N : Nat → Prop) (w : World) (cs : List Value), NdAt N w t cs → (Wy.look t).shaped = true → (Wy.look t).firm = true →
  Calls Tryz.prog 63 #[.agg cs.toArray] w fun e w' => e = .returned (.bool true) ∧ Below w.heap.size w w'
set_option maxHeartbeats 4000000 in
set_option maxRecDepth 100000 in
theorem frm_step {k : Int} {set : List Rg} {lo hi : Int} {lazy : Bool} {subs : List Nd} (ih : ∀ s ∈ subs, FrmSpec s) : FrmSpec (.mk k set lo hi lazy subs) := by
  intro N w cs hnd hsh hfi
  rw [NdAt] at hnd
  obtain ⟨sv, uv, ucs, rfl, hk, hlo, hhi, hset, hrow, hsubs⟩ := hnd
  obtain ⟨os, cs, rfl⟩ := hset.row.slice
  obtain ⟨ou, cu, rfl⟩ := hrow.slice
  rw [look_shaped, Bool.and_eq_true, List.all_eq_true] at hsh
  obtain ⟨hs1, hs2⟩ := hsh
  rw [look_firm, Bool.and_eq_true, List.all_eq_true] at hfi
  obtain ⟨hf1, hf2⟩ := hfi
  have HIH := Lib.hid (fun s hs N w cs h => ih s hs N w cs h (hs2 s hs) (hf1 s hs))
  have HSH := Lib.hid hs2
  have HROW := Lib.hid hrow
  have HSUBS := Lib.hid hsubs
  have hsl : (subs.length : Int) ≤ 1048576 := by omega
  clear ih hset hrow hsubs hs2 hf1
  go_enter Tryz.func63, Tryz.ntmps63
  go_upto_region 1 with fail
  have hB : Blk (w.alloc (.cells #[.int .u8 k, .slice os set.length cs, .int .i64 lo, .int .i64 hi, .bool lazy, .slice ou subs.length cu] 70)) w.heap.size #[.int .u8 k, .slice os set.length cs, .int .i64 lo, .int .i64 hi, .bool lazy, .slice ou subs.length cu] 70 := Blk.new _ _ _
  have hbW : Below w.heap.size w (w.alloc (.cells #[.int .u8 k, .slice os set.length cs, .int .i64 lo, .int .i64 hi, .bool lazy, .slice ou subs.length cu] 70)) := (Below.refl _ _).alloc (Nat.le_refl _) _
  generalize (w.alloc (.cells #[.int .u8 k, .slice os set.length cs, .int .i64 lo, .int .i64 hi, .bool lazy, .slice ou subs.length cu] 70)) = W at hB hbW ⊢
  have HB := Lib.hid hB
  have HBW := Lib.hid hbW
  clear hB hbW
  by_cases k5 : k = 5
  · subst k5
    have hl5 : hi = -1 ∨ 0 ≤ hi := by
      rw [shapedN] at hs1
      simp at hs1
      omega
    by_cases hm : hi = -1 ∨ 1 < hi
    · have hnul : ∀ s ∈ subs, (Wy.look s).nullable = false := by
        have : (decide (hi = -1) || decide (1 < hi)) = true := by simpa using hm
        rw [this] at hf2
        intro s hs
        simpa using (by simpa using hf2 : ∀ x ∈ subs, (Wy.look x).nullable = false) s hs
      have HNUL := Lib.hid hnul
      clear hs1 hf2 hnul
      by_cases hneg : hi = -1
      · have hnegb : decide (hi < 0) = true := by simp; omega
        clear hm hl5 hneg
        go_wp2_with fail
        go_loopw [3] (fun s3 wx => ∃ i : Nat, i ≤ subs.length ∧ s3 = .int .i64 i ∧ Below W.heap.size W wx) (fun s3 _ => subs.length - (intOf s3).toNat)
        case atStart => exact ⟨0, by omega, rfl, Below.refl _ _⟩
        case round =>
          rename World => Wa
          obtain ⟨i, hi', rfl, hba⟩ := hrel
          have HBA := Lib.hid hba
          have y0 : Wa.cell? ⟨w.heap.size, 0, none⟩ = some (.int .u8 5) := (HB.out.below hba HB.out.lt).cell 0
          have y3 : Wa.cell? ⟨w.heap.size, 3, none⟩ = some (.int .i64 hi) := (HB.out.below hba HB.out.lt).cell 3
          have y5 : Wa.cell? ⟨w.heap.size, 5, none⟩ = some (.slice ou subs.length cu) := (HB.out.below hba HB.out.lt).cell 5
          have yz := (HB.out.below hba HB.out.lt).lt
          by_cases hil : i < subs.length
          · obtain ⟨ub, uo, tk, tl, th, tz, o1, o2, n1, c1, n2, c2, rfl, huc, hubz, g0, g1, g2, g3, g4, g5, hnt⟩ := kidAt HROW.out HSUBS.out (HBW.out.trans (hba.mono HBW.out.size)) hil
            have hilI : (i : Int) < subs.length := by omega
            have hucI : (subs.length : Int) ≤ cu := by omega
            have hcall := HIH.out subs[i] (List.getElem_mem hil) N Wa _ hnt
            have HC := Lib.hid hcall
            have HNT := Lib.hid hnt
            clear hcall hnt hba
            have hsi := HSH.out subs[i] (List.getElem_mem hil)
            have hcn := nls_all subs[i] N
            have hnl := HNUL.out subs[i] (List.getElem_mem hil)
            have HCN := Lib.hid (fun (w5 : World) (cs : List Value) (h : NdAt N w5 subs[i] cs) => (hnl ▸ hcn w5 cs h hsi : Calls Tryz.prog 87 #[.agg cs.toArray] w5 fun e w' => e = .returned (.bool false) ∧ Below w5.heap.size w5 w'))
            clear hsi hcn hnl
            go_wp2_with (first | (go_at_call 63; go_loud (refine HC.out.mono ?_; rintro ee w5 ⟨rfl, hb5⟩; have HB5 := Lib.hid (HBA.out.trans (hb5.mono HBA.out.size)); have z0 : w5.cell? ⟨w.heap.size, 0, none⟩ = some (.int .u8 5) := (HB.out.below HB5.out HB.out.lt).cell 0; have z3 : w5.cell? ⟨w.heap.size, 3, none⟩ = some (.int .i64 hi) := (HB.out.below HB5.out HB.out.lt).cell 3; have z5 : w5.cell? ⟨w.heap.size, 5, none⟩ = some (.slice (some ⟨ub, uo, none⟩) subs.length cu) := (HB.out.below HB5.out HB.out.lt).cell 5; have zz := (HB.out.below HB5.out HB.out.lt).lt; have G0 := (hb5.cell (p := ⟨ub, uo + i * 6, none⟩) hubz).trans g0; have G1 := (hb5.cell (p := ⟨ub, uo + i * 6 + 1, none⟩) hubz).trans g1; have G2 := (hb5.cell (p := ⟨ub, uo + i * 6 + 2, none⟩) hubz).trans g2; have G3 := (hb5.cell (p := ⟨ub, uo + i * 6 + 3, none⟩) hubz).trans g3; have G4 := (hb5.cell (p := ⟨ub, uo + i * 6 + 4, none⟩) hubz).trans g4; have G5 := (hb5.cell (p := ⟨ub, uo + i * 6 + 5, none⟩) hubz).trans g5; have hub5 : ub < w5.heap.size := Nat.lt_of_lt_of_le hubz hb5.size; have HC5 := Lib.hid (HCN.out w5 _ (NdAt.go (Kept.of_below hb5 (fun _ => False)) (fun q _ hq => ⟨id, hq⟩) HNT.out)); clear hb5)) | (go_at_call 87; go_loud (refine HC5.out.mono ?_; rintro ee w6 ⟨rfl, hb6⟩; have HB6 := Lib.hid (HB5.out.trans (hb6.mono HB5.out.size)); clear hb6)))
            go_roundw
            case rel => exact ⟨i + 1, by omega, by go_num, HB6.out⟩
            case measure => simp [intOf]; omega
          · obtain rfl : i = subs.length := by omega
            clear hba
            go_wp2_with fail
            go_ret
            exact ⟨rfl, HBW.out.trans (HBA.out.mono HBW.out.size)⟩
      · have hp : 1 < hi := hm.resolve_left hneg
        have hnegb : decide (hi < 0) = false := by simp; omega
        have hpb : decide (1 < hi) = true := by simp; omega
        clear hm hl5 hneg
        go_wp2_with fail
        go_loopw [3] (fun s3 wx => ∃ i : Nat, i ≤ subs.length ∧ s3 = .int .i64 i ∧ Below W.heap.size W wx) (fun s3 _ => subs.length - (intOf s3).toNat)
        case atStart => exact ⟨0, by omega, rfl, Below.refl _ _⟩
        case round =>
          rename World => Wa
          obtain ⟨i, hi', rfl, hba⟩ := hrel
          have HBA := Lib.hid hba
          have y0 : Wa.cell? ⟨w.heap.size, 0, none⟩ = some (.int .u8 5) := (HB.out.below hba HB.out.lt).cell 0
          have y3 : Wa.cell? ⟨w.heap.size, 3, none⟩ = some (.int .i64 hi) := (HB.out.below hba HB.out.lt).cell 3
          have y5 : Wa.cell? ⟨w.heap.size, 5, none⟩ = some (.slice ou subs.length cu) := (HB.out.below hba HB.out.lt).cell 5
          have yz := (HB.out.below hba HB.out.lt).lt
          by_cases hil : i < subs.length
          · obtain ⟨ub, uo, tk, tl, th, tz, o1, o2, n1, c1, n2, c2, rfl, huc, hubz, g0, g1, g2, g3, g4, g5, hnt⟩ := kidAt HROW.out HSUBS.out (HBW.out.trans (hba.mono HBW.out.size)) hil
            have hilI : (i : Int) < subs.length := by omega
            have hucI : (subs.length : Int) ≤ cu := by omega
            have hcall := HIH.out subs[i] (List.getElem_mem hil) N Wa _ hnt
            have HC := Lib.hid hcall
            have HNT := Lib.hid hnt
            clear hcall hnt hba
            have hsi := HSH.out subs[i] (List.getElem_mem hil)
            have hcn := nls_all subs[i] N
            have hnl := HNUL.out subs[i] (List.getElem_mem hil)
            have HCN := Lib.hid (fun (w5 : World) (cs : List Value) (h : NdAt N w5 subs[i] cs) => (hnl ▸ hcn w5 cs h hsi : Calls Tryz.prog 87 #[.agg cs.toArray] w5 fun e w' => e = .returned (.bool false) ∧ Below w5.heap.size w5 w'))
            clear hsi hcn hnl
            go_wp2_with (first | (go_at_call 63; go_loud (refine HC.out.mono ?_; rintro ee w5 ⟨rfl, hb5⟩; have HB5 := Lib.hid (HBA.out.trans (hb5.mono HBA.out.size)); have z0 : w5.cell? ⟨w.heap.size, 0, none⟩ = some (.int .u8 5) := (HB.out.below HB5.out HB.out.lt).cell 0; have z3 : w5.cell? ⟨w.heap.size, 3, none⟩ = some (.int .i64 hi) := (HB.out.below HB5.out HB.out.lt).cell 3; have z5 : w5.cell? ⟨w.heap.size, 5, none⟩ = some (.slice (some ⟨ub, uo, none⟩) subs.length cu) := (HB.out.below HB5.out HB.out.lt).cell 5; have zz := (HB.out.below HB5.out HB.out.lt).lt; have G0 := (hb5.cell (p := ⟨ub, uo + i * 6, none⟩) hubz).trans g0; have G1 := (hb5.cell (p := ⟨ub, uo + i * 6 + 1, none⟩) hubz).trans g1; have G2 := (hb5.cell (p := ⟨ub, uo + i * 6 + 2, none⟩) hubz).trans g2; have G3 := (hb5.cell (p := ⟨ub, uo + i * 6 + 3, none⟩) hubz).trans g3; have G4 := (hb5.cell (p := ⟨ub, uo + i * 6 + 4, none⟩) hubz).trans g4; have G5 := (hb5.cell (p := ⟨ub, uo + i * 6 + 5, none⟩) hubz).trans g5; have hub5 : ub < w5.heap.size := Nat.lt_of_lt_of_le hubz hb5.size; have HC5 := Lib.hid (HCN.out w5 _ (NdAt.go (Kept.of_below hb5 (fun _ => False)) (fun q _ hq => ⟨id, hq⟩) HNT.out)); clear hb5)) | (go_at_call 87; go_loud (refine HC5.out.mono ?_; rintro ee w6 ⟨rfl, hb6⟩; have HB6 := Lib.hid (HB5.out.trans (hb6.mono HB5.out.size)); clear hb6)))
            go_roundw
            case rel => exact ⟨i + 1, by omega, by go_num, HB6.out⟩
            case measure => simp [intOf]; omega
          · obtain rfl : i = subs.length := by omega
            clear hba
            go_wp2_with fail
            go_ret
            exact ⟨rfl, HBW.out.trans (HBA.out.mono HBW.out.size)⟩
    · have hnegb : decide (hi < 0) = false := by simp; omega
      have hpb : decide (1 < hi) = false := by simp; omega
      clear hm hl5 hs1 hf2
      go_wp2_with fail
      go_loopw [3] (fun s3 wx => ∃ i : Nat, i ≤ subs.length ∧ s3 = .int .i64 i ∧ Below W.heap.size W wx) (fun s3 _ => subs.length - (intOf s3).toNat)
      case atStart => exact ⟨0, by omega, rfl, Below.refl _ _⟩
      case round =>
        rename World => Wa
        obtain ⟨i, hi', rfl, hba⟩ := hrel
        have HBA := Lib.hid hba
        have y0 : Wa.cell? ⟨w.heap.size, 0, none⟩ = some (.int .u8 5) := (HB.out.below hba HB.out.lt).cell 0
        have y3 : Wa.cell? ⟨w.heap.size, 3, none⟩ = some (.int .i64 hi) := (HB.out.below hba HB.out.lt).cell 3
        have y5 : Wa.cell? ⟨w.heap.size, 5, none⟩ = some (.slice ou subs.length cu) := (HB.out.below hba HB.out.lt).cell 5
        have yz := (HB.out.below hba HB.out.lt).lt
        by_cases hil : i < subs.length
        · obtain ⟨ub, uo, tk, tl, th, tz, o1, o2, n1, c1, n2, c2, rfl, huc, hubz, g0, g1, g2, g3, g4, g5, hnt⟩ := kidAt HROW.out HSUBS.out (HBW.out.trans (hba.mono HBW.out.size)) hil
          have hilI : (i : Int) < subs.length := by omega
          have hucI : (subs.length : Int) ≤ cu := by omega
          have hcall := HIH.out subs[i] (List.getElem_mem hil) N Wa _ hnt
          have HC := Lib.hid hcall
          have HNT := Lib.hid hnt
          clear hcall hnt hba
          go_wp2_with (go_at_call 63; go_loud (refine HC.out.mono ?_; rintro ee w5 ⟨rfl, hb5⟩; have HB5 := Lib.hid (HBA.out.trans (hb5.mono HBA.out.size)); have z0 : w5.cell? ⟨w.heap.size, 0, none⟩ = some (.int .u8 5) := (HB.out.below HB5.out HB.out.lt).cell 0; have z3 : w5.cell? ⟨w.heap.size, 3, none⟩ = some (.int .i64 hi) := (HB.out.below HB5.out HB.out.lt).cell 3; have z5 : w5.cell? ⟨w.heap.size, 5, none⟩ = some (.slice (some ⟨ub, uo, none⟩) subs.length cu) := (HB.out.below HB5.out HB.out.lt).cell 5; have zz := (HB.out.below HB5.out HB.out.lt).lt; clear hb5))
          go_roundw
          case rel => exact ⟨i + 1, by omega, by go_num, HB5.out⟩
          case measure => simp [intOf]; omega
        · obtain rfl : i = subs.length := by omega
          clear hba
          go_wp2_with fail
          go_ret
          exact ⟨rfl, HBW.out.trans (HBA.out.mono HBW.out.size)⟩
  · have k5b : (k == 5) = false := by simpa using k5
    clear hs1 hf2 k5
    go_wp2_with fail
    go_loopw [3] (fun s3 wx => ∃ i : Nat, i ≤ subs.length ∧ s3 = .int .i64 i ∧ Below W.heap.size W wx) (fun s3 _ => subs.length - (intOf s3).toNat)
    case atStart => exact ⟨0, by omega, rfl, Below.refl _ _⟩
    case round =>
      rename World => Wa
      obtain ⟨i, hi', rfl, hba⟩ := hrel
      have HBA := Lib.hid hba
      have y0 : Wa.cell? ⟨w.heap.size, 0, none⟩ = some (.int .u8 k) := (HB.out.below hba HB.out.lt).cell 0
      have y3 : Wa.cell? ⟨w.heap.size, 3, none⟩ = some (.int .i64 hi) := (HB.out.below hba HB.out.lt).cell 3
      have y5 : Wa.cell? ⟨w.heap.size, 5, none⟩ = some (.slice ou subs.length cu) := (HB.out.below hba HB.out.lt).cell 5
      have yz := (HB.out.below hba HB.out.lt).lt
      by_cases hil : i < subs.length
      · obtain ⟨ub, uo, tk, tl, th, tz, o1, o2, n1, c1, n2, c2, rfl, huc, hubz, g0, g1, g2, g3, g4, g5, hnt⟩ := kidAt HROW.out HSUBS.out (HBW.out.trans (hba.mono HBW.out.size)) hil
        have hilI : (i : Int) < subs.length := by omega
        have hucI : (subs.length : Int) ≤ cu := by omega
        have hcall := HIH.out subs[i] (List.getElem_mem hil) N Wa _ hnt
        have HC := Lib.hid hcall
        have HNT := Lib.hid hnt
        clear hcall hnt hba
        go_wp2_with (go_at_call 63; go_loud (refine HC.out.mono ?_; rintro ee w5 ⟨rfl, hb5⟩; have HB5 := Lib.hid (HBA.out.trans (hb5.mono HBA.out.size)); have z0 : w5.cell? ⟨w.heap.size, 0, none⟩ = some (.int .u8 k) := (HB.out.below HB5.out HB.out.lt).cell 0; have z3 : w5.cell? ⟨w.heap.size, 3, none⟩ = some (.int .i64 hi) := (HB.out.below HB5.out HB.out.lt).cell 3; have z5 : w5.cell? ⟨w.heap.size, 5, none⟩ = some (.slice (some ⟨ub, uo, none⟩) subs.length cu) := (HB.out.below HB5.out HB.out.lt).cell 5; have zz := (HB.out.below HB5.out HB.out.lt).lt; clear hb5))
        go_roundw
        case rel => exact ⟨i + 1, by omega, by go_num, HB5.out⟩
        case measure => simp [intOf]; omega
      · obtain rfl : i = subs.length := by omega
        clear hba
        go_wp2_with fail
        go_ret
        exact ⟨rfl, HBW.out.trans (HBA.out.mono HBW.out.size)⟩
theorem frm_all : ∀ t : Nd, FrmSpec t
  | .mk k set lo hi lazy subs => frm_step (fun s hs => frm_all s)
termination_by t => SizeOf.sizeOf t
decreasing_by
  have := List.sizeOf_lt_of_mem hs
  simp
  omega
end Go.Proofs.YtnhjakdmbfadlaaGreatDoor
