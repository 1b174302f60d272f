/- Parts of the proof: Nls. Conditions: none. -/
import Derived.Test.YtnhjakdmbfadlaaGreatDoorL24
import Derived.Test.YtnhjakdmbfadlaaGreatDoorL05
import Derived.Outline
set_option linter.all false
/- Nulls of the reference, at trees that are shaped. -/
namespace Go.Proofs.YtnhjakdmbfadlaaGreatDoor
open Go.RowKit Wy Mem Grow

def NlsSpec (t : Nd) : Prop := ∀ (N : Nat → Prop) (w : World) (cs : List Value), NdAt N w t cs → (Wy.look t).shaped = true →
  Calls Tryz.prog 87 #[.agg cs.toArray] w fun e w' => e = .returned (.bool (Wy.look t).nullable) ∧ Below w.heap.size w w'
set_option maxHeartbeats 4000000 in
set_option maxRecDepth 100000 in
theorem nls_step {k : Int} {set : List Rg} {lo hi : Int} {lazy : Bool} {subs : List Nd} (ih : ∀ s ∈ subs, NlsSpec s) : NlsSpec (.mk k set lo hi lazy subs) := by
  intro N w cs hnd hsh
  rw [NdAt] at hnd
  obtain ⟨sv, uv, ucs, rfl, hk, hlo, hhi, hset, hrow, hsubs⟩ := hnd
  obtain ⟨os, cs, rfl⟩ := hset.row.slice
  obtain ⟨ou, cu, rfl⟩ := hrow.slice
  rw [look_shaped, Bool.and_eq_true, List.all_eq_true] at hsh
  obtain ⟨hs1, hs2⟩ := hsh
  have HIH := Lib.hid (fun s hs N w cs h => ih s hs N w cs h (hs2 s hs))
  have HROW := Lib.hid hrow
  have HSUBS := Lib.hid hsubs
  have hsl : (subs.length : Int) ≤ 1048576 := by omega
  have hl := look_nullable k set lo hi lazy subs
  change _ = if k = 1 then true else if k = 3 then allN subs else if k = 5 then anyN subs || decide (lo = 0) else anyN subs at hl
  have HL := Lib.hid hl
  clear ih hset hrow hsubs hl hs2
  have hB : Blk (w.alloc (.cells #[.int .u8 k, .slice os set.length cs, .int .i64 lo, .int .i64 hi, .bool lazy, .slice ou subs.length cu] 70)) w.heap.size #[.int .u8 k, .slice os set.length cs, .int .i64 lo, .int .i64 hi, .bool lazy, .slice ou subs.length cu] 70 := Blk.new _ _ _
  have hbW : Below w.heap.size w (w.alloc (.cells #[.int .u8 k, .slice os set.length cs, .int .i64 lo, .int .i64 hi, .bool lazy, .slice ou subs.length cu] 70)) := (Below.refl _ _).alloc (Nat.le_refl _) _
  have HB0 := Lib.hid hB
  have HBW0 := Lib.hid hbW
  clear hB hbW
  by_cases k1 : k = 1
  · subst k1
    clear hs1
    go_enter Tryz.func87, Tryz.ntmps87
    go_wp2_with fail
    go_ret
    exact ⟨by rw [HL.out]; rfl, HBW0.out⟩
  have k1b : (k == 1) = false := by simpa using k1
  by_cases k3 : k = 3
  · have hv : (Wy.look (.mk k set lo hi lazy subs)).nullable = allN subs := by rw [HL.out]; simp [k3]
    have HV := Lib.hid hv
    subst k3
    clear hs1 k1 HL hv
    go_enter Tryz.func87, Tryz.ntmps87
    go_upto_region 1 with fail
    generalize (w.alloc (.cells #[.int .u8 3, .slice os set.length cs, .int .i64 lo, .int .i64 hi, .bool lazy, .slice ou subs.length cu] 70)) = W at HB0 HBW0 ⊢
    have d0 : W.cell? ⟨w.heap.size, 0, none⟩ = some (.int .u8 3) := HB0.out.cell 0
    have dz := HB0.out.lt
    go_wp2_with fail
    go_loopw [3] (fun s3 wx => ∃ i : Nat, i ≤ subs.length ∧ s3 = .int .i64 i ∧ allN (subs.take i) = true ∧ Below W.heap.size W wx) (fun s3 _ => subs.length - (intOf s3).toNat)
    case atStart => exact ⟨0, by omega, rfl, rfl, Below.refl _ _⟩
    case round =>
      rename World => Wa
      obtain ⟨i, hi', rfl, hal, hba⟩ := hrel
      have HBA := Lib.hid hba
      have HAL := Lib.hid hal
      have y5 : Wa.cell? ⟨w.heap.size, 5, none⟩ = some (.slice ou subs.length cu) := (HB0.out.below hba HB0.out.lt).cell 5
      have yz := (HB0.out.below hba HB0.out.lt).lt
      by_cases hil : i < subs.length
      · obtain ⟨ub, uo, tk, tl, th, tz, o1, o2, n1, c1, n2, c2, rfl, huc, hubz, g0, g1, g2, g3, g4, g5, hnt⟩ := kidAt HROW.out HSUBS.out (HBW0.out.trans (hba.mono HBW0.out.size)) hil
        have hilI : (i : Int) < subs.length := by omega
        have hucI : (subs.length : Int) ≤ cu := by omega
        have hcall := HIH.out subs[i] (List.getElem_mem hil) N Wa _ hnt
        obtain ⟨b, hb⟩ : ∃ b, b = (Wy.look subs[i]).nullable := ⟨_, rfl⟩
        rw [← hb] at hcall
        have hat := allN_take hil
        rw [← hb] at hat
        have hne : b = false → allN subs = false := fun e => by
          unfold allN
          rw [List.all_eq_false]
          exact ⟨subs[i], List.getElem_mem hil, by rw [← hb, e]; simp⟩
        have HC := Lib.hid hcall
        have HAT := Lib.hid hat
        have HNE := Lib.hid hne
        clear hcall hat hne hnt hba hal hb
        cases b
        · go_wp2_with (go_at_call 87; go_loud (refine HC.out.mono ?_; rintro ee w5 ⟨rfl, hb5⟩; have HB5 := Lib.hid (HBA.out.trans (hb5.mono HBA.out.size)); clear hb5))
          go_ret
          exact ⟨by rw [HV.out, HNE.out (by first | rfl | trivial)]; rfl, HBW0.out.trans (HB5.out.mono HBW0.out.size)⟩
        · go_wp2_with (go_at_call 87; go_loud (refine HC.out.mono ?_; rintro ee w5 ⟨rfl, hb5⟩; have HB5 := Lib.hid (HBA.out.trans (hb5.mono HBA.out.size)); clear hb5))
          go_roundw
          case rel => exact ⟨i + 1, by omega, by go_num, by rw [HAT.out, HAL.out]; rfl, HB5.out⟩
          case measure => simp [intOf]; omega
      · obtain rfl : i = subs.length := by omega
        rw [List.take_length] at hal
        have HA := Lib.hid hal
        clear hba hal HAL
        go_wp2_with fail
        go_ret
        exact ⟨by rw [HV.out, HA.out]; rfl, HBW0.out.trans (HBA.out.mono HBW0.out.size)⟩
  have k3b : (k == 3) = false := by simpa using k3
  by_cases k4 : k = 4
  · have hv : (Wy.look (.mk k set lo hi lazy subs)).nullable = anyN subs := by rw [HL.out]; simp [k4]
    have HV := Lib.hid hv
    subst k4
    clear hs1 k1 k3 HL hv
    go_enter Tryz.func87, Tryz.ntmps87
    go_upto_region 1 with fail
    generalize (w.alloc (.cells #[.int .u8 4, .slice os set.length cs, .int .i64 lo, .int .i64 hi, .bool lazy, .slice ou subs.length cu] 70)) = W at HB0 HBW0 ⊢
    have d0 : W.cell? ⟨w.heap.size, 0, none⟩ = some (.int .u8 4) := HB0.out.cell 0
    have dz := HB0.out.lt
    go_wp2_with fail
    go_loopw [4] (fun s4 wx => ∃ i : Nat, i ≤ subs.length ∧ s4 = .int .i64 i ∧ anyN (subs.take i) = false ∧ Below W.heap.size W wx) (fun s4 _ => subs.length - (intOf s4).toNat)
    case atStart => exact ⟨0, by omega, rfl, rfl, Below.refl _ _⟩
    case round =>
      rename World => Wa
      obtain ⟨i, hi', rfl, hal, hba⟩ := hrel
      have HBA := Lib.hid hba
      have HAL := Lib.hid hal
      have y5 : Wa.cell? ⟨w.heap.size, 5, none⟩ = some (.slice ou subs.length cu) := (HB0.out.below hba HB0.out.lt).cell 5
      have yz := (HB0.out.below hba HB0.out.lt).lt
      by_cases hil : i < subs.length
      · obtain ⟨ub, uo, tk, tl, th, tz, o1, o2, n1, c1, n2, c2, rfl, huc, hubz, g0, g1, g2, g3, g4, g5, hnt⟩ := kidAt HROW.out HSUBS.out (HBW0.out.trans (hba.mono HBW0.out.size)) hil
        have hilI : (i : Int) < subs.length := by omega
        have hucI : (subs.length : Int) ≤ cu := by omega
        have hcall := HIH.out subs[i] (List.getElem_mem hil) N Wa _ hnt
        obtain ⟨b, hb⟩ : ∃ b, b = (Wy.look subs[i]).nullable := ⟨_, rfl⟩
        rw [← hb] at hcall
        have hat := anyN_take hil
        rw [← hb] at hat
        have hne : b = true → anyN subs = true := fun e => by
          unfold anyN
          rw [List.any_eq_true]
          exact ⟨subs[i], List.getElem_mem hil, by rw [← hb, e]⟩
        have HC := Lib.hid hcall
        have HAT := Lib.hid hat
        have HNE := Lib.hid hne
        clear hcall hat hne hnt hba hal hb
        cases b
        · go_wp2_with (go_at_call 87; go_loud (refine HC.out.mono ?_; rintro ee w5 ⟨rfl, hb5⟩; have HB5 := Lib.hid (HBA.out.trans (hb5.mono HBA.out.size)); clear hb5))
          go_roundw
          case rel => exact ⟨i + 1, by omega, by go_num, by rw [HAT.out, HAL.out]; rfl, HB5.out⟩
          case measure => simp [intOf]; omega
        · go_wp2_with (go_at_call 87; go_loud (refine HC.out.mono ?_; rintro ee w5 ⟨rfl, hb5⟩; have HB5 := Lib.hid (HBA.out.trans (hb5.mono HBA.out.size)); clear hb5))
          go_ret
          exact ⟨by rw [HV.out, HNE.out (by first | rfl | trivial)]; rfl, HBW0.out.trans (HB5.out.mono HBW0.out.size)⟩
      · obtain rfl : i = subs.length := by omega
        rw [List.take_length] at hal
        have HA := Lib.hid hal
        clear hba hal HAL
        go_wp2_with fail
        go_ret
        exact ⟨by rw [HV.out, HA.out]; rfl, HBW0.out.trans (HBA.out.mono HBW0.out.size)⟩
  have k4b : (k == 4) = false := by simpa using k4
  by_cases k56 : k = 5 ∨ k = 6
  · have hlen : subs.length = 1 := by
      rw [shapedN] at hs1
      rcases k56 with rfl | rfl
      · simp at hs1; exact hs1.2
      · simp at hs1; exact hs1.2.2
    obtain ⟨t, rfl⟩ := List.length_eq_one_iff.1 hlen
    have hb0 := HBW0.out
    obtain ⟨ub, uo, tk, tl, th, tz, o1, o2, n1, c1, n2, c2, rfl, huc, hubz, g0, g1, g2, g3, g4, g5, hnt⟩ := kidAt HROW.out HSUBS.out hb0 (i := 0) (by simp)
    simp only [Nat.zero_mul, Nat.add_zero, List.getElem_cons_zero] at g0 g1 g2 g3 g4 g5 hnt
    have hucI : (1 : Int) ≤ cu := by simp at huc; omega
    have hcall := HIH.out t (by simp) N _ _ hnt
    have hany : anyN [t] = (Wy.look t).nullable := by simp [anyN]
    obtain ⟨b, hb⟩ : ∃ b, b = (Wy.look t).nullable := ⟨_, rfl⟩
    rw [← hb] at hcall hany
    have HC := Lib.hid hcall
    have HA := Lib.hid hany
    have hv5 : (Wy.look (.mk k set lo hi lazy [t])).nullable = if k = 5 then b || decide (lo = 0) else b := by
      rw [HL.out, hany, if_neg k1, if_neg k3]
    have HV := Lib.hid hv5
    clear hcall hnt hany hb hv5 HL
    go_enter Tryz.func87, Tryz.ntmps87
    go_upto_region 1 with fail
    simp only [List.length_cons, List.length_nil] at HB0 HBW0 HC g0 g1 g2 g3 g4 g5 hubz hb0 ⊢
    generalize (w.alloc (.cells #[.int .u8 k, .slice os set.length cs, .int .i64 lo, .int .i64 hi, .bool lazy, .slice (some ⟨ub, uo, none⟩) (0 + 1) cu] 70)) = W at HB0 HBW0 HC g0 g1 g2 g3 g4 g5 hubz hb0 ⊢
    have d0 : W.cell? ⟨w.heap.size, 0, none⟩ = some (.int .u8 k) := HB0.out.cell 0
    have d2 : W.cell? ⟨w.heap.size, 2, none⟩ = some (.int .i64 lo) := HB0.out.cell 2
    have d5 : W.cell? ⟨w.heap.size, 5, none⟩ = some (.slice (some ⟨ub, uo, none⟩) 1 cu) := HB0.out.cell 5
    have dz := HB0.out.lt
    by_cases k5 : k = 5
    · have HV5 := Lib.hid (by have := HV.out; rwa [if_pos k5] at this)
      subst k5
      clear hs1 k1 k3 k56 HV hb0
      by_cases hl0 : lo = 0
      · have hl0b : (lo == 0) = true := by simpa using hl0
        have HL0 := Lib.hid hl0
        clear hl0
        go_wp2_with fail
        go_ret
        exact ⟨by rw [HV5.out, HL0.out]; simp, HBW0.out⟩
      · have hl0b : (lo == 0) = false := by simpa using hl0
        have HL0 := Lib.hid hl0
        clear hl0
        go_wp2_with (go_at_call 87; go_loud (refine HC.out.mono ?_; rintro ee w5 ⟨rfl, hb5⟩; have HB5 := Lib.hid (HBW0.out.trans (hb5.mono HBW0.out.size)); clear hb5))
        go_ret
        exact ⟨by rw [HV5.out]; simp [HL0.out], HB5.out⟩
    · have k6 : k = 6 := k56.resolve_left k5
      have HV6 := Lib.hid (by have := HV.out; rwa [if_neg k5] at this)
      subst k6
      clear hs1 k1 k3 k56 HV hb0 k5
      go_wp2_with (go_at_call 87; go_loud (refine HC.out.mono ?_; rintro ee w5 ⟨rfl, hb5⟩; have HB5 := Lib.hid (HBW0.out.trans (hb5.mono HBW0.out.size)); clear hb5))
      go_ret
      exact ⟨by rw [HV6.out]; rfl, HB5.out⟩
  · have k5b : (k == 5) = false := by simp; omega
    have k6b : (k == 6) = false := by simp; omega
    have hsub : subs = [] := by
      rw [shapedN] at hs1
      rw [if_neg (fun e => k56 (.inl e)), if_neg k1] at hs1
      by_cases k2 : k = 2
      · rw [if_pos k2] at hs1
        simp at hs1
        exact hs1.2.2
      · rw [if_neg k2, if_neg (by omega), if_neg (fun e => k56 (.inr e))] at hs1
        simp at hs1
    subst hsub
    have hv : (Wy.look (.mk k set lo hi lazy [])).nullable = false := by
      rw [HL.out, if_neg k1, if_neg k3, if_neg (fun e => k56 (.inl e))]
      rfl
    have HV := Lib.hid hv
    clear hs1 hv HL k56
    go_enter Tryz.func87, Tryz.ntmps87
    go_wp2_with fail
    go_ret
    exact ⟨by rw [HV.out]; rfl, HBW0.out⟩
theorem nls_all : ∀ t : Nd, NlsSpec t
  | .mk k set lo hi lazy subs => nls_step (fun s hs => nls_all s)
termination_by t => SizeOf.sizeOf t
decreasing_by
  have := List.sizeOf_lt_of_mem hs
  simp
  omega
end Go.Proofs.YtnhjakdmbfadlaaGreatDoor
