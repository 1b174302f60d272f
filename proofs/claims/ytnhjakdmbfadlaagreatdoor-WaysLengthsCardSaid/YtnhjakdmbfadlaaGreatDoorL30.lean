/- Parts of the proof: Lev. Conditions: none. -/
import Derived.Test.YtnhjakdmbfadlaaGreatDoorL24
set_option linter.all false
/- levels of the reference. -/
namespace Go.Proofs.YtnhjakdmbfadlaaGreatDoor
open Go.RowKit Wy Mem Grow

def maxD (l : List Nd) : Int := l.foldl (fun d s => max d (Wy.look s).depth) 0
theorem lookL_depthF (k : Int) : ∀ (l : List Nd) (f : Facts), (lookL k f l).depth = l.foldl (fun d s => max d (Wy.look s).depth) f.depth
  | [], f => by rw [lookL]; rfl
  | s :: r, f => by rw [lookL, lookL_depthF k r, List.foldl_cons]
theorem look_depth_eq (k : Int) (set : List Rg) (lo hi : Int) (lazy : Bool) (subs : List Nd) : (Wy.look (.mk k set lo hi lazy subs)).depth = maxD subs + 1 := by
  rw [Wy.look]
  simp only [lookL_depthF]
  rfl
theorem foldl_max : ∀ (l : List Nd) (d : Int), l.foldl (fun d s => max d (Wy.look s).depth) d = max d (l.foldl (fun d s => max d (Wy.look s).depth) d) ∧ (∀ n : Int, d ≤ n → (∀ s ∈ l, (Wy.look s).depth ≤ n) → l.foldl (fun d s => max d (Wy.look s).depth) d ≤ n)
  | [], d => ⟨by simp, fun n h _ => h⟩
  | s :: r, d => by
    obtain ⟨h1, h2⟩ := foldl_max r (max d (Wy.look s).depth)
    rw [List.foldl_cons]
    refine ⟨by omega, fun n hd hl => h2 n ?_ (fun t ht => hl t (List.mem_cons_of_mem _ ht))⟩
    have := hl s (by simp)
    omega
theorem nodes_mem : ∀ {l : List Nd} {s : Nd}, s ∈ l → nodes s ≤ nodesL l
  | a :: r, s, h => by
    rw [nodesL]
    rcases List.mem_cons.1 h with rfl | h
    · omega
    · have := nodes_mem h
      omega
theorem depth_nodes : ∀ t : Nd, (Wy.look t).depth ≤ nodes t
  | .mk k set lo hi lazy subs => by
    rw [look_depth_eq, nodes]
    have : maxD subs ≤ nodesL subs := (foldl_max subs 0).2 _ (by omega) (fun s hs => by
      have h1 := depth_nodes s
      have h2 := nodes_mem hs
      omega)
    omega
termination_by t => SizeOf.sizeOf t
decreasing_by
  have := List.sizeOf_lt_of_mem hs
  simp
  omega
theorem maxD_le (l : List Nd) : 0 ≤ maxD l ∧ maxD l ≤ nodesL l := by
  have h := foldl_max l 0
  refine ⟨?_, h.2 _ (by omega) (fun s hs => by
    have h1 := depth_nodes s
    have h2 := nodes_mem hs
    omega)⟩
  have := h.1
  unfold maxD
  omega
def LevSpec (t : Nd) : Prop := ∀ (N : Nat → Prop) (w : World) (cs : List Value), NdAt N w t cs → nodes t ≤ 1000000 →
  Calls Tryz.prog 64 #[.agg cs.toArray] w fun e w' => e = .returned (.int .i64 (Wy.look t).depth) ∧ Below w.heap.size w w'
set_option maxHeartbeats 4000000 in
set_option maxRecDepth 100000 in
theorem lev_step {k : Int} {set : List Rg} {lo hi : Int} {lazy : Bool} {subs : List Nd} (ih : ∀ s ∈ subs, LevSpec s) : LevSpec (.mk k set lo hi lazy subs) := by
  intro N w cs hnd hno
  rw [NdAt] at hnd
  obtain ⟨sv, uv, ucs, rfl, hk, hlo, hhi, hset, hrow, hsubs⟩ := hnd
  obtain ⟨os, cs, rfl⟩ := hset.row.slice
  obtain ⟨ou, cu, rfl⟩ := hrow.slice
  have HIH := Lib.hid ih
  have HROW := Lib.hid hrow
  have HSUBS := Lib.hid hsubs
  have hsl : (subs.length : Int) ≤ 1048576 := by omega
  have hnoN : nodesL subs + 1 ≤ 1000000 := by rw [nodes] at hno; exact hno
  have HNO := Lib.hid hnoN
  clear ih hset hrow hsubs hno hnoN
  go_enter Tryz.func64, Tryz.ntmps64
  go_upto_region 2 with fail
  have hB : Blk (w.alloc (.cells #[.int .u8 k, .slice os set.length cs, .int .i64 lo, .int .i64 hi, .bool lazy, .slice ou subs.length cu] 70)) w.heap.size #[.int .u8 k, .slice os set.length cs, .int .i64 lo, .int .i64 hi, .bool lazy, .slice ou subs.length cu] 70 := Blk.new _ _ _
  have hbW : Below w.heap.size w (w.alloc (.cells #[.int .u8 k, .slice os set.length cs, .int .i64 lo, .int .i64 hi, .bool lazy, .slice ou subs.length cu] 70)) := (Below.refl _ _).alloc (Nat.le_refl _) _
  generalize (w.alloc (.cells #[.int .u8 k, .slice os set.length cs, .int .i64 lo, .int .i64 hi, .bool lazy, .slice ou subs.length cu] 70)) = W at hB hbW ⊢
  have d0 : W.cell? ⟨w.heap.size, 0, none⟩ = some (.int .u8 k) := hB.cell 0
  have dz := hB.lt
  have HB := Lib.hid hB
  have HBW := Lib.hid hbW
  clear hB hbW
  go_wp2_with fail
  go_loopw [3, 4] (fun s3 s4 wx => ∃ i : Nat, i ≤ subs.length ∧ s4 = .int .i64 i ∧ s3 = .int .i64 (maxD (subs.take i)) ∧ Below W.heap.size W wx) (fun _ s4 _ => subs.length - (intOf s4).toNat)
  case atStart => exact ⟨0, by omega, rfl, rfl, Below.refl _ _⟩
  case round =>
    rename World => Wa
    obtain ⟨i, hi', rfl, rfl, hba⟩ := hrel
    have HBA := Lib.hid hba
    have y5 : Wa.cell? ⟨w.heap.size, 5, none⟩ = some (.slice ou subs.length cu) := (HB.out.below hba HB.out.lt).cell 5
    have yz := (HB.out.below hba HB.out.lt).lt
    by_cases hil : i < subs.length
    · obtain ⟨ub, uo, tk, tl, th, tz, o1, o2, n1, c1, n2, c2, rfl, huc, hubz, g0, g1, g2, g3, g4, g5, hnt⟩ := kidAt HROW.out HSUBS.out (HBW.out.trans (hba.mono HBW.out.size)) hil
      have hilI : (i : Int) < subs.length := by omega
      have hucI : (subs.length : Int) ≤ cu := by omega
      have hns := nodesL_at hil
      have hnn := HNO.out
      have hcall := HIH.out subs[i] (List.getElem_mem hil) N Wa _ hnt (by omega)
      have hsn : maxD (subs.take (i + 1)) = max (maxD (subs.take i)) (Wy.look subs[i]).depth := by unfold maxD; rw [List.take_succ_eq_append_getElem hil, List.foldl_append]; rfl
      obtain ⟨a, ha⟩ : ∃ a, a = maxD (subs.take i) := ⟨_, rfl⟩
      obtain ⟨b, hb⟩ : ∃ b, b = (Wy.look subs[i]).depth := ⟨_, rfl⟩
      rw [← ha] at hsn ⊢
      rw [← hb] at hcall hsn
      have HC := Lib.hid hcall
      have HSN := Lib.hid hsn
      clear hcall hsn hnt hba ha hb hns hnn
      by_cases hab : a < b
      · go_wp2_with (go_at_call 64; go_loud (refine HC.out.mono ?_; rintro ee w5 ⟨rfl, hb5⟩; have HB5 := Lib.hid (HBA.out.trans (hb5.mono HBA.out.size)); clear hb5))
        go_roundw
        case rel => exact ⟨i + 1, by omega, by go_num, by rw [HSN.out]; congr 1; omega, HB5.out⟩
        case measure => simp [intOf]; omega
      · have hab' : b ≤ a := by omega
        go_wp2_with (go_at_call 64; go_loud (refine HC.out.mono ?_; rintro ee w5 ⟨rfl, hb5⟩; have HB5 := Lib.hid (HBA.out.trans (hb5.mono HBA.out.size)); clear hb5))
        go_roundw
        case rel => exact ⟨i + 1, by omega, by go_num, by rw [HSN.out]; congr 1; omega, HB5.out⟩
        case measure => simp [intOf]; omega
    · obtain rfl : i = subs.length := by omega
      rw [List.take_length]
      have hmb := maxD_le subs
      have hnn := HNO.out
      have hl := look_depth_eq k set lo hi lazy subs
      obtain ⟨a, ha⟩ : ∃ a, a = maxD subs := ⟨_, rfl⟩
      rw [← ha] at hmb hl ⊢
      have h1 : a ≤ 1000000 := by omega
      have h2 : 0 ≤ a := hmb.1
      have HL := Lib.hid hl
      clear hba hmb hnn hl ha
      go_wp2_with fail
      go_ret
      exact ⟨by rw [HL.out]; rfl, HBW.out.trans (HBA.out.mono HBW.out.size)⟩
theorem lev_all : ∀ t : Nd, LevSpec t
  | .mk k set lo hi lazy subs => lev_step (fun s hs => lev_all s)
termination_by t => SizeOf.sizeOf t
decreasing_by
  have := List.sizeOf_lt_of_mem hs
  simp
  omega
end Go.Proofs.YtnhjakdmbfadlaaGreatDoor
