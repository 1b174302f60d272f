/- Parts of the proof: Kid, Tm1. Conditions: none. -/
import Derived.Test.YtnhjakdmbfadlaaGreatDoorL07
import Derived.Deep.DeepCutAuto
import Derived.Deep.CutRange
set_option linter.all false
/- Opened and levels of the reference. -/
namespace Go.Proofs.YtnhjakdmbfadlaaGreatDoor
open Go.RowKit Wy Mem Grow

/-- the i-th part's cells, later on -/
theorem kidAt {N : Nat → Prop} {w Wa : World} {ou : Option Addr} {cu : Nat} {subs : List Nd} {ucs : List Value} (hr : Row N w (.slice ou subs.length cu) subs.length 6 ucs) (hn : NdsAt N w subs ucs) (hb : Below w.heap.size w Wa) {i : Nat} (hi : i < subs.length) :
    ∃ (ub uo : Nat) (k lo hi' : Int) (lz : Bool) (o1 o2 : Option Addr) (n1 c1 n2 c2 : Nat), ou = some ⟨ub, uo, none⟩ ∧ subs.length ≤ cu ∧ ub < Wa.heap.size ∧
      Wa.cell? ⟨ub, uo + i * 6, none⟩ = some (.int .u8 k) ∧ Wa.cell? ⟨ub, uo + i * 6 + 1, none⟩ = some (.slice o1 n1 c1) ∧ Wa.cell? ⟨ub, uo + i * 6 + 2, none⟩ = some (.int .i64 lo) ∧ Wa.cell? ⟨ub, uo + i * 6 + 3, none⟩ = some (.int .i64 hi') ∧ Wa.cell? ⟨ub, uo + i * 6 + 4, none⟩ = some (.bool lz) ∧ Wa.cell? ⟨ub, uo + i * 6 + 5, none⟩ = some (.slice o2 n2 c2) ∧
      NdAt N Wa subs[i] [.int .u8 k, .slice o1 n1 c1, .int .i64 lo, .int .i64 hi', .bool lz, .slice o2 n2 c2] := by
  obtain ⟨ub, uo, uc, hue, huc, hum, hNub, hubz, hucell⟩ := hr.parts hn (by omega)
  simp only [Value.slice.injEq, true_and] at hue
  obtain ⟨rfl, rfl⟩ := hue
  obtain ⟨tsv, tuv, hnt, t0, t1, t2, t3, t4, t5⟩ := hucell i hi
  obtain ⟨k', lo', hi'', lz', o1, o2, n1, c1, n2, c2, he⟩ := nd6k hnt
  simp only [List.cons.injEq, Value.int.injEq, Value.bool.injEq, true_and, and_true] at he
  obtain ⟨rfl, rfl, rfl, rfl, rfl, rfl⟩ := he
  refine ⟨ub, uo, _, _, _, _, o1, o2, n1, c1, n2, c2, rfl, huc, by have := hb.size; omega, (hb.cell (p := ⟨ub, uo + i * 6, none⟩) hubz).trans t0, (hb.cell (p := ⟨ub, uo + i * 6 + 1, none⟩) hubz).trans t1, (hb.cell (p := ⟨ub, uo + i * 6 + 2, none⟩) hubz).trans t2, (hb.cell (p := ⟨ub, uo + i * 6 + 3, none⟩) hubz).trans t3, (hb.cell (p := ⟨ub, uo + i * 6 + 4, none⟩) hubz).trans t4, (hb.cell (p := ⟨ub, uo + i * 6 + 5, none⟩) hubz).trans t5, NdAt.go (Kept.of_below hb (fun _ => False)) (fun q _ hq => ⟨id, hq⟩) hnt⟩
mutual
theorem opened_le : ∀ t : Nd, opened t ≤ nodes t
  | .mk k set lo hi lazy subs => by
    have := openedL_le subs
    rw [opened, nodes]
    split <;> omega
theorem openedL_le : ∀ l : List Nd, openedL l ≤ nodesL l
  | [] => by simp [openedL, nodesL]
  | s :: r => by
    have h1 := opened_le s
    have h2 := openedL_le r
    rw [openedL, nodesL]
    omega
end
def OpnSpec (t : Nd) : Prop := ∀ (N : Nat → Prop) (w : World) (cs : List Value), NdAt N w t cs → nodes t ≤ 1000000 →
  Calls Tryz.prog 61 #[.agg cs.toArray] w fun e w' => e = .returned (.int .i64 (opened t)) ∧ Below w.heap.size w w'
set_option maxHeartbeats 4000000 in
set_option maxRecDepth 100000 in
theorem opn_step {k : Int} {set : List Rg} {lo hi : Int} {lazy : Bool} {subs : List Nd} (ih : ∀ s ∈ subs, OpnSpec s) : OpnSpec (.mk k set lo hi lazy subs) := by
  intro N w cs hnd hno
  rw [NdAt] at hnd
  obtain ⟨sv, uv, ucs, rfl, hk, hlo, hhi, hset, hrow, hsubs⟩ := hnd
  obtain ⟨os, cs, rfl⟩ := hset.row.slice
  obtain ⟨ou, cu, rfl⟩ := hrow.slice
  have HIH := Lib.hid ih
  have HROW := Lib.hid hrow
  have HSUBS := Lib.hid hsubs
  have hsl : (subs.length : Int) ≤ 1048576 := by omega
  have hnoN : nodesL subs + 1 ≤ 1000000 := by rw [nodes] at hno; exact hno
  have HNO := Lib.hid hnoN
  obtain ⟨e, he⟩ : ∃ e, e = if k = 6 then 1 else 0 := ⟨_, rfl⟩
  have HE := Lib.hid he
  have he1 : e ≤ 1 := by rw [he]; split <;> omega
  clear ih hset hrow hsubs hno hnoN he
  go_enter Tryz.func61, Tryz.ntmps61
  go_upto_region 2 with fail
  have hB : Blk (w.alloc (.cells #[.int .u8 k, .slice os set.length cs, .int .i64 lo, .int .i64 hi, .bool lazy, .slice ou subs.length cu] 70)) w.heap.size #[.int .u8 k, .slice os set.length cs, .int .i64 lo, .int .i64 hi, .bool lazy, .slice ou subs.length cu] 70 := Blk.new _ _ _
  have hbW : Below w.heap.size w (w.alloc (.cells #[.int .u8 k, .slice os set.length cs, .int .i64 lo, .int .i64 hi, .bool lazy, .slice ou subs.length cu] 70)) := (Below.refl _ _).alloc (Nat.le_refl _) _
  generalize (w.alloc (.cells #[.int .u8 k, .slice os set.length cs, .int .i64 lo, .int .i64 hi, .bool lazy, .slice ou subs.length cu] 70)) = W at hB hbW ⊢
  have d0 : W.cell? ⟨w.heap.size, 0, none⟩ = some (.int .u8 k) := hB.cell 0
  have dz := hB.lt
  have HB := Lib.hid hB
  have HBW := Lib.hid hbW
  clear hB hbW
  by_cases h6 : k = 6
  · have h6b : (k == 6) = true := by simpa using h6
    have HH := Lib.hid h6
    clear h6
    go_wp2_with fail
    go_loopw [3, 4] (fun s3 s4 wx => ∃ i : Nat, i ≤ subs.length ∧ s4 = .int .i64 i ∧ s3 = .int .i64 ((e + openedL (subs.take i) : Nat) : Int) ∧ Below W.heap.size W wx) (fun _ s4 _ => subs.length - (intOf s4).toNat)
    case atStart => exact ⟨0, by omega, rfl, by rw [HE.out, List.take_zero, openedL]; rw [if_pos HH.out]; rfl, Below.refl _ _⟩
    case round =>
      rename World => Wa
      obtain ⟨i, hi', rfl, rfl, hba⟩ := hrel
      have HBA := Lib.hid hba
      have y5 : Wa.cell? ⟨w.heap.size, 5, none⟩ = some (.slice ou subs.length cu) := (HB.out.below hba HB.out.lt).cell 5
      have yz := (HB.out.below hba HB.out.lt).lt
      by_cases hil : i < subs.length
      · obtain ⟨ub, uo, tk, tl, th, tz, o1, o2, n1, c1, n2, c2, rfl, huc, hubz, g0, g1, g2, g3, g4, g5, hnt⟩ := kidAt HROW.out HSUBS.out (HBW.out.trans (hba.mono HBW.out.size)) hil
        have hilI : (i : Int) < subs.length := by omega
        have hucI : (subs.length : Int) ≤ cu := by omega
        have hns := nodesL_at hil
        have hnn := HNO.out
        have hol := openedL_le (subs.take i)
        have hos := opened_le subs[i]
        have hcall := HIH.out subs[i] (List.getElem_mem hil) N Wa _ hnt (by omega)
        have hsn : openedL (subs.take (i + 1)) = openedL (subs.take i) + opened subs[i] := by rw [List.take_succ_eq_append_getElem hil, openedL_append, openedL_one]
        obtain ⟨a, ha⟩ : ∃ a, a = openedL (subs.take i) := ⟨_, rfl⟩
        obtain ⟨b, hb⟩ : ∃ b, b = opened subs[i] := ⟨_, rfl⟩
        rw [← ha] at hol hsn ⊢
        rw [← hb] at hos hcall hsn
        have ha6 : a ≤ 1000000 := by omega
        have hb6 : b ≤ 1000000 := by omega
        have HC := Lib.hid hcall
        have HSN := Lib.hid hsn
        clear hcall hsn hnt hba ha hb hns hnn hol hos
        go_wp2_with (go_at_call 61; go_loud (refine HC.out.mono ?_; rintro ee w5 ⟨rfl, hb5⟩; have HB5 := Lib.hid (HBA.out.trans (hb5.mono HBA.out.size)); clear hb5))
        go_roundw
        case rel => exact ⟨i + 1, by omega, by go_num, by rw [HSN.out]; congr 1; omega, HB5.out⟩
        case measure => simp [intOf]; omega
      · obtain rfl : i = subs.length := by omega
        rw [List.take_length]
        clear hba
        go_wp2_with fail
        go_ret
        exact ⟨by rw [opened, ← HE.out]; rfl, HBW.out.trans (HBA.out.mono HBW.out.size)⟩
  · have h6b : (k == 6) = false := by simpa using h6
    have HH := Lib.hid h6
    clear h6
    go_wp2_with fail
    go_loopw [3, 4] (fun s3 s4 wx => ∃ i : Nat, i ≤ subs.length ∧ s4 = .int .i64 i ∧ s3 = .int .i64 ((e + openedL (subs.take i) : Nat) : Int) ∧ Below W.heap.size W wx) (fun _ s4 _ => subs.length - (intOf s4).toNat)
    case atStart => exact ⟨0, by omega, rfl, by rw [HE.out, List.take_zero, openedL]; rw [if_neg HH.out]; rfl, Below.refl _ _⟩
    case round =>
      rename World => Wa
      obtain ⟨i, hi', rfl, rfl, hba⟩ := hrel
      have HBA := Lib.hid hba
      have y5 : Wa.cell? ⟨w.heap.size, 5, none⟩ = some (.slice ou subs.length cu) := (HB.out.below hba HB.out.lt).cell 5
      have yz := (HB.out.below hba HB.out.lt).lt
      by_cases hil : i < subs.length
      · obtain ⟨ub, uo, tk, tl, th, tz, o1, o2, n1, c1, n2, c2, rfl, huc, hubz, g0, g1, g2, g3, g4, g5, hnt⟩ := kidAt HROW.out HSUBS.out (HBW.out.trans (hba.mono HBW.out.size)) hil
        have hilI : (i : Int) < subs.length := by omega
        have hucI : (subs.length : Int) ≤ cu := by omega
        have hns := nodesL_at hil
        have hnn := HNO.out
        have hol := openedL_le (subs.take i)
        have hos := opened_le subs[i]
        have hcall := HIH.out subs[i] (List.getElem_mem hil) N Wa _ hnt (by omega)
        have hsn : openedL (subs.take (i + 1)) = openedL (subs.take i) + opened subs[i] := by rw [List.take_succ_eq_append_getElem hil, openedL_append, openedL_one]
        obtain ⟨a, ha⟩ : ∃ a, a = openedL (subs.take i) := ⟨_, rfl⟩
        obtain ⟨b, hb⟩ : ∃ b, b = opened subs[i] := ⟨_, rfl⟩
        rw [← ha] at hol hsn ⊢
        rw [← hb] at hos hcall hsn
        have ha6 : a ≤ 1000000 := by omega
        have hb6 : b ≤ 1000000 := by omega
        have HC := Lib.hid hcall
        have HSN := Lib.hid hsn
        clear hcall hsn hnt hba ha hb hns hnn hol hos
        go_wp2_with (go_at_call 61; go_loud (refine HC.out.mono ?_; rintro ee w5 ⟨rfl, hb5⟩; have HB5 := Lib.hid (HBA.out.trans (hb5.mono HBA.out.size)); clear hb5))
        go_roundw
        case rel => exact ⟨i + 1, by omega, by go_num, by rw [HSN.out]; congr 1; omega, HB5.out⟩
        case measure => simp [intOf]; omega
      · obtain rfl : i = subs.length := by omega
        rw [List.take_length]
        clear hba
        go_wp2_with fail
        go_ret
        exact ⟨by rw [opened, ← HE.out]; rfl, HBW.out.trans (HBA.out.mono HBW.out.size)⟩
theorem opn_all : ∀ t : Nd, OpnSpec t
  | .mk k set lo hi lazy subs => opn_step (fun s hs => opn_all s)
termination_by t => SizeOf.sizeOf t
decreasing_by
  have := List.sizeOf_lt_of_mem hs
  simp
  omega
end Go.Proofs.YtnhjakdmbfadlaaGreatDoor

/- A node with one sub. -/
namespace Go.Proofs.YtnhjakdmbfadlaaGreatDoor
open Go.RowKit Wy Mem Grow

theorem nd_oneT {N : Nat → Prop} {W : World} {q : Nat} {T : TypeId} {k lo hi : Int} {lazy : Bool} {tp : Nd} {c0 c1 c2 c3 c4 c5 : Value} (hB : Blk W q #[c0, c1, c2, c3, c4, c5] T) (hN : N q) (h : NdAt N W tp [c0, c1, c2, c3, c4, c5]) (hk : 0 ≤ k ∧ k ≤ 255) (hlo : I64 lo) (hhi : I64 hi) :
    NdAt N W (.mk k [] lo hi lazy [tp]) [.int .u8 k, .slice none 0 0, .int .i64 lo, .int .i64 hi, .bool lazy, .slice (some ⟨q, 0, none⟩) 1 1] := by
  rw [NdAt]
  refine ⟨_, _, [c0, c1, c2, c3, c4, c5], rfl, ⟨hk.1, hk.2, by simp⟩, hlo, hhi, ⟨⟨rfl, .inl ⟨rfl, _, _, rfl⟩⟩, by simp, by simp⟩, ⟨rfl, .inr ⟨q, 0, 1, rfl, Nat.le_refl _, by unfold maxLen; omega, hN, hB.lt, fun j hj => ?_⟩⟩, NdsAt.one h⟩
  rw [Nat.zero_add, hB.cell]
  simp
end Go.Proofs.YtnhjakdmbfadlaaGreatDoor
