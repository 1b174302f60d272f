/- The reference's wheel: how it lies, and Find, List, Wake. -/
import Derived.Test.YtokgfmibhkkiaaaRefC
import Derived.Test.YtokgfmibhkkiaaaWakeW
import Derived.Test.YtokgfmibhkkiaaaList
namespace Go.Proofs.Ytokgfmibhkkiaaa
open Go.RowKit Wh Tw Mem

/-- a member of the reference: its ID, its plan, its phase -/
abbrev Cm := Int × Plan × Phase
def cellsC (c : Cm) : List Value := [.int .i64 c.1, .int .i64 c.2.1.every, .int .i64 c.2.1.offset, .int .i64 c.2.1.timeout, .int .u8 c.2.2.state, .int .i64 c.2.2.since]
/-- members behind a slice -/
def MembAt (w : World) (ob : Option Addr) (cs : List Cm) : Prop := ∀ (k : Nat) (hk : k < cs.length), ∃ g, ob = some ⟨g, 0, none⟩ ∧ g < w.heap.size ∧ w.cell? ⟨g, k * 6, none⟩ = some (.int .i64 cs[k].1) ∧ w.cell? ⟨g, k * 6 + 1, none⟩ = some (.int .i64 cs[k].2.1.every) ∧
  w.cell? ⟨g, k * 6 + 2, none⟩ = some (.int .i64 cs[k].2.1.offset) ∧ w.cell? ⟨g, k * 6 + 3, none⟩ = some (.int .i64 cs[k].2.1.timeout) ∧ w.cell? ⟨g, k * 6 + 4, none⟩ = some (.int .u8 cs[k].2.2.state) ∧ w.cell? ⟨g, k * 6 + 5, none⟩ = some (.int .i64 cs[k].2.2.since)
theorem MembAt.below {w w' : World} {ob : Option Addr} {cs : List Cm} (h : MembAt w ob cs) (hb : Below w.heap.size w w') : MembAt w' ob cs := by
  intro k hk
  obtain ⟨g, e, hg, c0, c1, c2, c3, c4, c5⟩ := h k hk
  have key : ∀ o, w'.cell? ⟨g, o, none⟩ = w.cell? ⟨g, o, none⟩ := fun o => hb.cell (p := ⟨g, o, none⟩) hg
  exact ⟨g, e, by have := hb.size; omega, (key _).trans c0, (key _).trans c1, (key _).trans c2, (key _).trans c3, (key _).trans c4, (key _).trans c5⟩

set_option maxHeartbeats 1000000 in
theorem rfind_any {w : World} {ob : Option Addr} {cs : List Cm} (h : MembAt w ob cs) (now : Int) (cap : Nat) (id : Int) (hlen : cs.length ≤ 1000000) :
    Calls Try.prog 59 #[.agg #[.int .i64 now, .slice ob cs.length cap], .int .i64 id] w fun e w' => ∃ r : Int, e = .returned (.int .i64 r) ∧ Below w.heap.size w w' ∧
      ((r = -1 ∧ ∀ (j : Nat) (hj : j < cs.length), cs[j].1 ≠ id) ∨ (∃ (k : Nat) (hk : k < cs.length), r = k ∧ cs[k].1 = id ∧ ∀ (j : Nat) (hj : j < cs.length), j < k → cs[j].1 ≠ id)) := by
  have hb0 : Below w.heap.size w (w.alloc (.cells #[.int .i64 now, .slice ob cs.length cap] 92)) := (Below.refl _ _).alloc (Nat.le_refl _) _
  have HM := Lib.hid (h.below hb0)
  have HB := Lib.hid (Blk.new w #[.int .i64 now, .slice ob cs.length cap] 92)
  clear h
  go_enter Try.func59, Try.ntmps59
  go_wp2_with fail
  generalize (w.alloc (.cells #[.int .i64 now, .slice ob cs.length cap] 92)) = W0 at HM HB hb0 ⊢
  have hl := HB.out.lt
  go_loopw [5] (fun i wr => ∃ k : Nat, k ≤ cs.length ∧ i = .int .i64 k ∧ Below W0.heap.size W0 wr ∧ Hid (∀ (j : Nat) (hj : j < cs.length), j < k → cs[j].1 ≠ id)) (fun i _ => cs.length - (intOf i).toNat)
  case atStart => exact ⟨0, Nat.zero_le _, rfl, Below.refl _ _, Lib.hid (fun j hj h => absurd h (by omega))⟩
  case round =>
    obtain ⟨k, hk, rfl, hbr, HN⟩ := hrel
    obtain ⟨b0, b1, _⟩ := (HB.out.below hbr hl).two
    have hbw : Below w.heap.size w wr := hb0.trans (hbr.mono hb0.size)
    by_cases hlt : k < cs.length
    · obtain ⟨g, rfl, hg, c0, -⟩ := HM.out k hlt
      have d0 := (hbr.cell (p := ⟨g, k * 6, none⟩) hg).trans c0
      obtain ⟨z, hz⟩ : ∃ z, z = cs[k].1 := ⟨_, rfl⟩
      rw [← hz] at d0
      have HZ := Lib.hid hz
      clear hz c0
      by_cases he : z = id
      · subst he
        go_wp2
        go_ret
        exact ⟨_, rfl, hbw, .inr ⟨k, hlt, rfl, HZ.out.symm, HN.out⟩⟩
      · go_wp2
        go_roundw
        case rel => exact ⟨k + 1, by omega, by go_num, hbr, Lib.hid (fun j hj h => by
          by_cases e : j = k
          · subst e; rw [← HZ.out]; exact he
          · exact HN.out j hj (by omega))⟩
        case measure => simp [intOf]; omega
    · obtain rfl : k = cs.length := by omega
      go_wp2
      go_ret
      exact ⟨_, rfl, hbw, .inl ⟨rfl, fun j hj => HN.out j hj hj⟩⟩

def inState (sv : Int) (c : Cm) : Bool := decide (sv = 3 ∨ c.2.2.state = sv)
def idsIn (sv : Int) (cs : List Cm) : List Int := (cs.filter (inState sv)).map (·.1)
theorem idsIn_snoc (sv : Int) (cs : List Cm) (k : Nat) (h : k < cs.length) : idsIn sv (cs.take (k + 1)) = idsIn sv (cs.take k) ++ if inState sv cs[k] then [cs[k].1] else [] := by
  unfold idsIn
  rw [List.take_succ_eq_append_getElem h, List.filter_append, List.map_append]
  congr 1
  simp only [List.filter_cons, List.filter_nil]
  split <;> rfl
theorem idsIn_le (sv : Int) (cs : List Cm) : (idsIn sv cs).length ≤ cs.length := by unfold idsIn; rw [List.length_map]; exact List.length_filter_le _ _

set_option maxHeartbeats 1000000 in
set_option maxRecDepth 100000 in
theorem rlist_any {w : World} {ob : Option Addr} {cs : List Cm} (h : MembAt w ob cs) (now : Int) (cap : Nat) (sv : Int) (hlen : cs.length ≤ 1000000) :
    Calls Try.prog 61 #[.agg #[.int .i64 now, .slice ob cs.length cap], .int .u8 sv] w fun e w' => ∃ v, e = .returned v ∧
      w'.ownsRow w.heap.size 3 1 v (idsIn sv cs).length ((idsIn sv cs).map (.int .i64)) ∧ Below w.heap.size w w' := by
  have hb0 : Below w.heap.size w (w.alloc (.cells #[.int .i64 now, .slice ob cs.length cap] 92)) := (Below.refl _ _).alloc (Nat.le_refl _) _
  have HM := Lib.hid (h.below hb0)
  have HB := Lib.hid (Blk.new w #[.int .i64 now, .slice ob cs.length cap] 92)
  obtain ⟨i0, hi0, hf0, hf1, hf2⟩ := info_parts info3
  clear h
  go_enter Try.func61, Try.ntmps61
  go_wp2_with fail
  generalize (w.alloc (.cells #[.int .i64 now, .slice ob cs.length cap] 92)) = W0 at HM HB hb0 ⊢
  have hl := HB.out.lt
  have hz0 := hb0.size
  go_loopw [5, 6] (fun v i wr => ∃ k : Nat, k ≤ cs.length ∧ i = .int .i64 k ∧ wr.ownsRow W0.heap.size 3 1 v (idsIn sv (cs.take k)).length ((idsIn sv (cs.take k)).map (.int .i64)) ∧ Below W0.heap.size W0 wr) (fun _ i _ => cs.length - (intOf i).toNat)
  case atStart => exact ⟨0, Nat.zero_le _, rfl, by simpa [idsIn] using World.ownsRow_nil _ _ _ _, Below.refl _ _⟩
  case round =>
    obtain ⟨k, hk, rfl, hown, hbr⟩ := hrel
    obtain ⟨b0, b1, _⟩ := (HB.out.below hbr hl).two
    have hbw : Below w.heap.size w wr := hb0.trans (hbr.mono hb0.size)
    have hsr := hbr.size
    by_cases hlt : k < cs.length
    · obtain ⟨g, rfl, hg, c0, -, -, -, c4, -⟩ := HM.out k hlt
      have d0 := (hbr.cell (p := ⟨g, k * 6, none⟩) hg).trans c0
      have d4 := (hbr.cell (p := ⟨g, k * 6 + 4, none⟩) hg).trans c4
      have hsn := idsIn_snoc sv cs k hlt
      have hle := idsIn_le sv (cs.take k)
      rw [List.length_take] at hle
      obtain ⟨⟨zi, zp, zs, zn⟩, hz⟩ : ∃ z, z = cs[k] := ⟨_, rfl⟩
      rw [← hz] at d0 d4 hsn
      dsimp only at d0 d4
      clear hz c0 c4
      have hcase : (sv = 3 ∧ inState sv (zi, zp, ⟨zs, zn⟩) = true) ∨ (sv ≠ 3 ∧ zs = sv ∧ inState sv (zi, zp, ⟨zs, zn⟩) = true) ∨ (sv ≠ 3 ∧ zs ≠ sv ∧ inState sv (zi, zp, ⟨zs, zn⟩) = false) := by
        unfold inState
        by_cases h3 : sv = 3
        · exact .inl ⟨h3, by simp [h3]⟩
        · by_cases h4 : zs = sv
          · exact .inr (.inl ⟨h3, h4, by simp [h4]⟩)
          · exact .inr (.inr ⟨h3, h4, by simp [h3, h4]⟩)
      have hmax : (idsIn sv (cs.take k)).length + 1 ≤ maxLen := by unfold maxLen; omega
      have hbyt : ((idsIn sv (cs.take k)).length + 1) * 8 ≤ 140737488355328 := by omega
      have hbs : W0.heap.size ≤ (wr.alloc (.cells #[.int .i64 zi] 3)).heap.size := by simp; omega
      have hone : ∀ u ∈ [Value.int .i64 zi], u.oneCell' = true := by simp [Value.oneCell']
      rcases hcase with ⟨h3, hin⟩ | ⟨h3, h4, hin⟩ | ⟨h3, h4, hin⟩
      · rw [hin] at hsn
        have HSN := Lib.hid hsn
        clear hsn hin
        subst h3
        go_wp2_with (first
          | (at_builtin; refine wpList_append_own _ rfl _ _ 68 rfl W0.heap.size 3 i0 (.int .i64 0) 1 8 Try.underlying68 hi0 hf0 hf1 hf2 rfl (by decide) _ _ _ rfl (hown.alloc _) ⟨wr.heap.size, 0, none⟩ 1 1 [.int .i64 zi] rfl rfl (cell_one_new _ _ _) hone hmax hbyt hbs ?_; intro v' w4 hown' hgrow _))
        have hbr' : Below W0.heap.size W0 w4 := (hbr.alloc hsr _).grown hgrow (by simp; omega) (fun q hq => (hown.lt q hq).1)
        clear hgrow hown hbr
        go_wp2
        go_roundw
        case rel => exact ⟨k + 1, by omega, by go_num, by rw [HSN.out]; simpa using hown', hbr'⟩
        case measure => simp [intOf]; omega
      · rw [hin] at hsn
        have HSN := Lib.hid hsn
        clear hsn hin
        have e4 : (zs == sv) = true := by simp [h4]
        go_wp2_with (first
          | (at_builtin; refine wpList_append_own _ rfl _ _ 68 rfl W0.heap.size 3 i0 (.int .i64 0) 1 8 Try.underlying68 hi0 hf0 hf1 hf2 rfl (by decide) _ _ _ rfl (hown.alloc _) ⟨wr.heap.size, 0, none⟩ 1 1 [.int .i64 zi] rfl rfl (cell_one_new _ _ _) hone hmax hbyt hbs ?_; intro v' w4 hown' hgrow _))
        have hbr' : Below W0.heap.size W0 w4 := (hbr.alloc hsr _).grown hgrow (by simp; omega) (fun q hq => (hown.lt q hq).1)
        clear hgrow hown hbr
        go_wp2
        go_roundw
        case rel => exact ⟨k + 1, by omega, by go_num, by rw [HSN.out]; simpa using hown', hbr'⟩
        case measure => simp [intOf]; omega
      · rw [hin] at hsn
        simp only [Bool.false_eq_true, if_false, List.append_nil] at hsn
        have HSN := Lib.hid hsn
        have e4 : (zs == sv) = false := by simp [h4]
        have e3 : (sv == 3) = false := by simp [h3]
        clear hsn hin
        go_wp2
        go_roundw
        case rel => exact ⟨k + 1, by omega, by go_num, by rw [HSN.out]; exact hown, hbr⟩
        case measure => simp [intOf]; omega
    · obtain rfl : k = cs.length := by omega
      rw [List.take_length] at hown
      go_wp2
      go_ret
      exact ⟨_, rfl, ownsRow_base_a hown hz0, hbw⟩
end Go.Proofs.Ytokgfmibhkkiaaa
