/- Parts of the proof: Copied. Conditions: none. -/
import Derived.Test.YtnhjakdmbfadlaaGreatDoorL11
set_option linter.all false
/- Ways that share no memory. -/
namespace Go.Proofs.YtnhjakdmbfadlaaGreatDoor
open Go.RowKit Wy Mem Grow

def Cpy (G L : Nat) (l : List Wy.Way) (w : World) (e : Ending) (w' : World) : Prop :=
  ∃ v', e = .returned v' ∧ (∃ cs, w'.ownsRow w.heap.size 43 2 v' l.length cs ∧ WysAt (fun q => w.heap.size ≤ q ∧ v'.ownBlock ≠ some q) w' G L l cs) ∧ Below w.heap.size w w'
theorem WysAt.cut {N : Nat → Prop} {w : World} {G L : Nat} : ∀ {l : List Wy.Way} {cs : List Value}, WysAt N w G L l cs → ∀ j, j ≤ l.length → ∃ cs1 cs2, cs = cs1 ++ cs2 ∧ cs1.length = j * 2 ∧ WysAt N w G L (l.take j) cs1 ∧ WysAt N w G L (l.drop j) cs2
  | l, cs, h, 0, _ => ⟨[], cs, rfl, rfl, by rw [List.take_zero]; rfl, by rw [List.drop_zero]; exact h⟩
  | [], cs, h, j + 1, hj => absurd hj (by simp)
  | x :: r, cs, h, j + 1, hj => by
    obtain ⟨v, q, rfl, h2, h3, h4⟩ := h
    obtain ⟨c1, c2, rfl, e2, e3, e4⟩ := WysAt.cut h4 j (by simpa using hj)
    exact ⟨.int .i64 x.stop :: v :: c1, c2, rfl, by simp [e2]; omega, ⟨v, c1, rfl, h2, h3, e3⟩, e4⟩
set_option maxHeartbeats 8000000 in
set_option maxRecDepth 100000 in
theorem copied_any {N : Nat → Prop} {w : World} {G L : Nat} {v : Value} {l : List Wy.Way} (h : WaysAt N w G L v l) (hn : l.length ≤ 500) (hL : L ≤ 1000000) : Calls Tryz.prog 44 #[v] w (Cpy G L l w) := by
  obtain ⟨ov, cv, rfl⟩ := h.slice
  obtain ⟨cs, hr, hw⟩ := h
  have hcl := cloneW_any hr hw.oneCell (by omega)
  have HCL := Lib.hid hcl
  have HW := Lib.hid hw
  have hnI : (l.length : Int) ≤ 500 := by omega
  clear hcl hr hw
  go_enter Tryz.func44, Tryz.ntmps44
  go_wp2_with (go_at_call 71; refine HCL.out.mono ?_; rintro e w1 ⟨v1, rfl, hown1, hb1⟩; obtain ⟨o1, c1, rfl⟩ := own_slice hown1; have HO1 := Lib.hid hown1; have HB1 := Lib.hid hb1; clear hown1 hb1)
  go_loopw [9] (fun s9 wx => ∃ (j : Nat) (cs1 cs2 : List Value), j ≤ l.length ∧ s9 = .int .i64 j ∧ cs1.length = j * 2 ∧ wx.ownsRow w.heap.size 43 2 (.slice o1 l.length c1) l.length (cs1 ++ cs2) ∧ WysAt (fun q => w.heap.size ≤ q ∧ (Value.slice o1 l.length c1).ownBlock ≠ some q) wx G L (l.take j) cs1 ∧ WysAt (fun q => N q ∧ q < w.heap.size) wx G L (l.drop j) cs2 ∧ Below w.heap.size w wx) (fun s9 _ => l.length - (intOf s9).toNat)
  case atStart => exact ⟨0, [], cs, by omega, rfl, rfl, HO1.out, by rw [List.take_zero]; rfl, HW.out.go (Kept.of_below HB1.out (fun _ => False)) (fun q hq hn => ⟨id, hn, hq⟩), HB1.out⟩
  case round =>
    rename World => Wa
    obtain ⟨j, cs1, cs2, hj, rfl, hl1, hro, hw1, hw2, hbw⟩ := hrel
    have HRO := Lib.hid hro
    have HW1 := Lib.hid hw1
    have HBW := Lib.hid hbw
    by_cases hjl : j < l.length
    · obtain ⟨g, cg, heg, hg1, hg2, hnc⟩ := own_some hro (by omega)
      simp only [Value.slice.injEq, true_and] at heg
      obtain ⟨rfl, rfl⟩ := heg
      rw [List.drop_eq_getElem_cons hjl] at hw2
      obtain ⟨x, hx⟩ : ∃ x, x = l[j] := ⟨_, rfl⟩
      rw [← hx] at hw2
      obtain ⟨svx, q2, rfl, hsx, hxl, hw3⟩ := hw2
      obtain ⟨so, sc, rfl⟩ := hsx.row.slice
      have y0 : Wa.cell? ⟨g, j * 2, none⟩ = some (.int .i64 x.stop) := by rw [hro.cellAt (j * 2) (by omega), List.getElem?_append_right (by omega), hl1, Nat.sub_self]; rfl
      have y1 : Wa.cell? ⟨g, j * 2 + 1, none⟩ = some (.slice so x.spans.length sc) := by rw [hro.cellAt (j * 2 + 1) (by omega), List.getElem?_append_right (by omega), hl1, show j * 2 + 1 - j * 2 = 1 by omega]; rfl
      have hbA : Below Wa.heap.size Wa (Wa.alloc (.cells #[.int .i64 x.stop, .slice so x.spans.length sc] 43)) := (Below.refl _ _).alloc (Nat.le_refl _) _
      have hcs := cloneS_any (hsx.go (Kept.of_below hbA (fun _ => False)) (fun q _ hn => ⟨id, hn⟩)).row (spCs_one _) (by have := hsx.small; omega)
      have HCS := Lib.hid hcs
      have HSX := Lib.hid hsx
      have HW3 := Lib.hid hw3
      have HX := Lib.hid hx
      have HXL := Lib.hid hxl
      have HL1 := Lib.hid hl1
      have hjlI : (j : Int) < l.length := by omega
      have hcI : (l.length : Int) ≤ c1 := by omega
      clear hcs hsx hw3 hx hxl hro hw1 hbw hbA hl1
      go_wp2_with (first | (go_at_call 72; refine HCS.out.mono ?_; rintro e w5 ⟨nv, rfl, hown5, hb5⟩; obtain ⟨o5, c5, rfl⟩ := own_slice hown5; have HO5 := Lib.hid hown5; have HB5 := Lib.hid (((Below.refl Wa.heap.size Wa).alloc (Nat.le_refl _) (.cells #[.int .i64 x.stop, .slice so x.spans.length sc] 43)).trans (hb5.mono (by simp))); have HR5 := Lib.hid (ownsRow_go HRO.out (Kept.of_below HB5.out (fun _ => False)) (fun _ _ => id)); have y15 : w5.cell? ⟨g, j * 2 + 1, none⟩ = some (.slice so x.spans.length sc) := (HB5.out.cell (p := ⟨g, j * 2 + 1, none⟩) hg2).trans y1; have f15 : w5.frozen? ⟨g, j * 2 + 1, none⟩ = false := HR5.out.frozenAt _; clear hown5 hb5))
      have k6 : Kept (fun q => q = g) Wa (w5.setCell ⟨g, j * 2 + 1, none⟩ (.slice o5 x.spans.length c5)) := (Kept.of_below HB5.out (fun q => q = g)).setCell (p := ⟨g, j * 2 + 1, none⟩) (fun _ => rfl) _
      have hR6 := (HR5.out.stored (j * 2 + 1) (.slice o5 x.spans.length c5)).1
      have hset : (cs1 ++ .int .i64 x.stop :: .slice so x.spans.length sc :: q2).set (j * 2 + 1) (.slice o5 x.spans.length c5) = (cs1 ++ [.int .i64 x.stop, .slice o5 x.spans.length c5]) ++ q2 := by
        rw [List.set_append_right _ _ (by rw [HL1.out]; omega), HL1.out, show j * 2 + 1 - j * 2 = 1 by omega, List.append_assoc]
        rfl
      rw [hset] at hR6
      have hO6 : (w5.setCell ⟨g, j * 2 + 1, none⟩ (.slice o5 x.spans.length c5)).ownsRow (Wa.heap.size + 1) 57 2 (.slice o5 x.spans.length c5) x.spans.length (x.spans.flatMap spCs) :=
        ownsRow_go (own_weak HO5.out (by simp)) ((Kept.refl (fun q => q = g) w5).setCell (p := ⟨g, j * 2 + 1, none⟩) (fun _ => rfl) _) (fun q hq e => by have := (HO5.out.lt q hq).1; simp at this; omega)
      have hnew : SpsAt (fun q => w.heap.size ≤ q ∧ (Value.slice (some ⟨g, 0, none⟩) l.length c1).ownBlock ≠ some q) (w5.setCell ⟨g, j * 2 + 1, none⟩ (.slice o5 x.spans.length c5)) (.slice o5 x.spans.length c5) x.spans :=
        ⟨Row.of_own hO6 (fun q hq _ => ⟨by have := HBW.out.size; omega, by simp [Value.ownBlock]; omega⟩), HSX.out.ok, HSX.out.small⟩
      have hw1' := (HW1.out.go (M := fun q => w.heap.size ≤ q ∧ (Value.slice (some ⟨g, 0, none⟩) l.length c1).ownBlock ≠ some q) k6 (fun q _ hn => ⟨fun e => hn.2 (by rw [e]; rfl), hn⟩)).append (WysAt.one (x := x) hnew HXL.out.1 HXL.out.2)
      have hw3' := HW3.out.go (M := fun q => N q ∧ q < w.heap.size) k6 (fun q _ hn => ⟨fun e => by omega, hn⟩)
      have hbw' : Below w.heap.size w (w5.setCell ⟨g, j * 2 + 1, none⟩ (.slice o5 x.spans.length c5)) := (HBW.out.trans (HB5.out.mono HBW.out.size)).setCell (by show w.heap.size ≤ g; omega) _
      go_roundw
      case rel => exact ⟨j + 1, _, q2, by omega, by go_num, by rw [List.length_append, HL1.out]; simp; omega, hR6, by rw [List.take_succ_eq_append_getElem hjl, ← HX.out]; exact hw1', hw3', hbw'⟩
      case measure => simp [intOf]; omega
    · obtain rfl : j = l.length := by omega
      have hend : Cpy G L l w (.returned (.slice o1 l.length c1)) Wa := by
        rw [List.drop_length, WysAt] at hw2
        subst hw2
        rw [List.append_nil] at hro
        rw [List.take_length] at hw1
        exact ⟨_, rfl, ⟨cs1, hro, hw1⟩, hbw⟩
      have HEND := Lib.hid hend
      clear hend hro hw1 hw2 hbw hl1
      go_wp2_with fail
      go_ret
      exact HEND.out
end Go.Proofs.YtnhjakdmbfadlaaGreatDoor
