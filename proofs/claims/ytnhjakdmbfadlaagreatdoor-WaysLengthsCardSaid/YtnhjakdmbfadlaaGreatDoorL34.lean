/- Parts of the proof: Fnd, Fw. Conditions: none. -/
import Derived.Test.YtnhjakdmbfadlaaGreatDoorL20
set_option linter.all false
/- find, First, Whole. -/
namespace Go.Proofs.YtnhjakdmbfadlaaGreatDoor
open Go.RowKit Wy Mem Grow

theorem find_at {α : Type} {p : α → Bool} : ∀ {l : List α} {i : Nat} (hi : i < l.length), (∀ j (hj : j < i), p (l[j]'(by omega)) = false) → p l[i] = true → l.find? p = some l[i]
  | [], i, hi, _, _ => absurd hi (by simp)
  | a :: r, 0, hi, _, h => List.find?_cons_of_pos h
  | a :: r, i + 1, hi, h0, h => by
    have ha := h0 0 (by omega)
    simp only [List.getElem_cons_zero] at ha
    rw [List.find?_cons_of_neg (by rw [ha]; simp)]
    have := find_at (l := r) (i := i) (by simpa using hi) (fun j hj => by have := h0 (j + 1) (by omega); simpa using this) (by simpa using h)
    simpa using this
theorem find_none {α : Type} {p : α → Bool} {l : List α} (h : ∀ j (hj : j < l.length), p l[j] = false) : l.find? p = none := by
  rw [List.find?_eq_none]
  intro x hx
  obtain ⟨i, hi, rfl⟩ := List.getElem_of_mem hx
  rw [h i hi]; simp
def Idx (p : Wy.Way → Bool) (l : List Wy.Way) (w : World) (e : Ending) (w' : World) : Prop :=
  Below w.heap.size w w' ∧ ((l.find? p = none ∧ e = .returned (.int .i64 (-1))) ∨ ∃ (i : Nat) (hi : i < l.length), l.find? p = some l[i] ∧ e = .returned (.int .i64 i))
def Fnd (p : Wy.Way → Bool) (s : ByteArray) (t : Nd) (w : World) (e : Ending) (w' : World) : Prop :=
  Below w.heap.size w w' ∧ match Wy.ways (strS s) t with
    | none => e = .returned (.tuple #[.agg #[.int .i64 0, .slice none 0 0], .bool false, .int .i64 5])
    | some l => match l.find? p with
      | none => e = .returned (.tuple #[.agg #[.int .i64 0, .slice none 0 0], .bool false, .int .i64 0])
      | some x => ∃ sv, e = .returned (.tuple #[.agg #[.int .i64 x.stop, sv], .bool true, .int .i64 0]) ∧ SpsAt (fun q => w.heap.size ≤ q) w' sv x.spans
theorem idx_no {p : Wy.Way → Bool} {e : Ending} (h : ((([] : List Wy.Way).find? p = none ∧ e = .returned (.int .i64 (-1))) ∨ ∃ (i : Nat) (hi : i < ([] : List Wy.Way).length), ([] : List Wy.Way).find? p = some ([] : List Wy.Way)[i] ∧ e = .returned (.int .i64 i))) : e = .returned (.int .i64 (-1)) := by
  rcases h with ⟨-, h⟩ | ⟨i, hi, -, -⟩
  · exact h
  · simp at hi
theorem idx_split {p : Wy.Way → Bool} {l : List Wy.Way} {e : Ending} (h : ((l.find? p = none ∧ e = .returned (.int .i64 (-1))) ∨ ∃ (i : Nat) (hi : i < l.length), l.find? p = some l[i] ∧ e = .returned (.int .i64 i))) :
    ∃ ix : Int, e = .returned (.int .i64 ix) ∧ ((l.find? p = none ∧ ix = -1) ∨ ∃ (i : Nat) (hi : i < l.length), l.find? p = some l[i] ∧ ix = i) := by
  rcases h with ⟨h, rfl⟩ | ⟨i, hi, h, rfl⟩
  · exact ⟨_, rfl, .inl ⟨h, rfl⟩⟩
  · exact ⟨_, rfl, .inr ⟨i, hi, h, rfl⟩⟩
def firstP : Wy.Way → Bool := fun _ => true
def wholeP (s : ByteArray) : Wy.Way → Bool := fun x => decide (x.stop = s.size)
theorem first1_any (st : Int) (o : Option Addr) (n c : Nat) (w : World) : Calls Tryz.prog 46 #[.agg #[.int .i64 st, .slice o n c]] w fun e w' => e = .returned (.bool true) ∧ Below w.heap.size w w' := by
  go_enter Tryz.func46, Tryz.ntmps46
  go_wp2
  go_ret
  exact ⟨rfl, (Below.refl _ _).alloc (Nat.le_refl _) _⟩
theorem whole1_any (st : Nat) (o : Option Addr) (n c b : Nat) (s : ByteArray) (w : World) (hb : w.cell? ⟨b, 0, none⟩ = some (.string s)) (hz : b < w.heap.size) (hs : s.size ≤ 32) : Calls Tryz.prog 47 #[.agg #[.int .i64 st, .slice o n c], .pointer (some ⟨b, 0, none⟩)] w fun e w' => e = .returned (.bool (decide (st = s.size))) ∧ Below w.heap.size w w' := by
  by_cases h : st = s.size
  · have hb1 : ((st : Int) == s.size) = true := by rw [h]; simp
    go_enter Tryz.func47, Tryz.ntmps47
    go_wp2
    go_ret
    exact ⟨by simp [h], (Below.refl _ _).alloc (Nat.le_refl _) _⟩
  · have hb1 : ((st : Int) == s.size) = false := by simp; omega
    go_enter Tryz.func47, Tryz.ntmps47
    go_wp2
    go_ret
    exact ⟨by simp [h], (Below.refl _ _).alloc (Nat.le_refl _) _⟩
set_option maxHeartbeats 4000000 in
set_option maxRecDepth 100000 in
theorem idxFirst_any {N : Nat → Prop} {w : World} {G L : Nat} {v : Value} {l : List Wy.Way} (h : WaysAt N w G L v l) (hl : l.length ≤ 500) : Calls Tryz.prog 53 #[v, .func (.func 46) #[] #[]] w (Idx firstP l w) := by
  obtain ⟨o, c, rfl⟩ := h.slice
  have H := Lib.hid h
  clear h
  have hlI : (l.length : Int) ≤ 500 := by omega
  go_enter Tryz.func53, Tryz.ntmps53
  go_wp2_with fail
  go_loopw [8] (fun s8 wx => ∃ j : Nat, j ≤ l.length ∧ s8 = .int .i64 j ∧ (∀ i (hi : i < l.length), i < j → firstP l[i] = false) ∧ Below w.heap.size w wx) (fun s8 _ => l.length - (intOf s8).toNat)
  case atStart => exact ⟨0, by omega, rfl, fun i _ hi => by omega, Below.refl _ _⟩
  case round =>
    rename World => Wa
    obtain ⟨j, hj, rfl, hno, hbw⟩ := hrel
    have HNO := Lib.hid hno
    have HBW := Lib.hid hbw
    clear hno
    by_cases hjl : j < l.length
    · obtain ⟨b, off, cap, hve, hc1, hc2, hNb, hbz, hcell⟩ := H.out.cells (by omega)
      simp only [Value.slice.injEq, true_and] at hve
      obtain ⟨rfl, rfl⟩ := hve
      obtain ⟨sv, e0, e1, hsv, -, -⟩ := hcell j hjl
      obtain ⟨so, sc, rfl⟩ := hsv.row.slice
      have y0 : Wa.cell? ⟨b, off + j * 2, none⟩ = some (.int .i64 l[j].stop) := (hbw.cell (p := ⟨b, off + j * 2, none⟩) hbz).trans e0
      have y1 : Wa.cell? ⟨b, off + j * 2 + 1, none⟩ = some (.slice so l[j].spans.length sc) := (hbw.cell (p := ⟨b, off + j * 2 + 1, none⟩) hbz).trans e1
      have hbza : b < Wa.heap.size := by have := hbw.size; omega
      have hjI : (j : Int) < l.length := by omega
      have hcI : (l.length : Int) ≤ c := by omega
      have hcall := first1_any l[j].stop so l[j].spans.length sc Wa
      obtain ⟨x, hx⟩ : ∃ x, x = l[j] := ⟨_, rfl⟩
      rw [← hx] at y0 y1 hcall
      obtain ⟨pb, hpb⟩ : ∃ pb, pb = firstP x := ⟨_, rfl⟩
      have hcall' : Calls Tryz.prog 46 #[.agg #[.int .i64 x.stop, .slice so x.spans.length sc]] Wa fun e w' => e = .returned (.bool pb) ∧ Below Wa.heap.size Wa w' := by rw [hpb]; exact hcall
      have HC := Lib.hid hcall'
      have HX := Lib.hid hx
      have HPB := Lib.hid hpb
      clear hcell e0 e1 hsv hcall hcall' hx hpb hbw
      cases pb
      · go_wp2_with (go_at_call 46; go_loud (refine HC.out.mono ?_; rintro e w5 ⟨rfl, hb5⟩; have HB5 := Lib.hid (HBW.out.trans (hb5.mono HBW.out.size)); clear hb5))
        go_roundw
        case rel => exact ⟨j + 1, by omega, by go_num, fun i hi hij => by
          by_cases e : i = j
          · subst e
            rw [← HX.out]; exact HPB.out.symm
          · exact HNO.out i hi (by omega), HB5.out⟩
        case measure => simp [intOf]; omega
      · go_wp2_with (go_at_call 46; go_loud (refine HC.out.mono ?_; rintro e w5 ⟨rfl, hb5⟩; have HB5 := Lib.hid (HBW.out.trans (hb5.mono HBW.out.size)); clear hb5))
        go_ret
        exact ⟨HB5.out, .inr ⟨j, hjl, find_at hjl (fun i hi => HNO.out i (by omega) hi) (by rw [← HX.out]; exact HPB.out.symm), rfl⟩⟩
    · obtain rfl : j = l.length := by omega
      clear hbw
      go_wp2_with fail
      go_ret
      exact ⟨HBW.out, .inl ⟨find_none (fun i hi => HNO.out i hi hi), rfl⟩⟩
set_option maxHeartbeats 4000000 in
set_option maxRecDepth 100000 in
theorem findFirst_any {w : World} {t : Nd} {cs : List Value} {s : ByteArray} (h : NdAt (fun _ => True) w t cs) (hr : right t = true) (hno : nodes t ≤ 1000000) (hs : s.size ≤ 32) (hv : Lib.validD s.data.toList = true) (htab : Lib.Utf8Tabs 0 1 w) (hnone : NoneAt w) :
    Calls Tryz.prog 45 #[.agg cs.toArray, .string s, .func (.func 46) #[] #[]] w (Fnd firstP s t w) := by
  obtain ⟨k, lo, hi, lz, o1, o2, n1, c1, n2, c2, rfl⟩ := nd6c h
  have HND := Lib.hid h
  have hall : ∀ W, Below w.heap.size w W → Calls Tryz.prog 13 #[.agg #[.int .u8 k, .slice o1 n1 c1, .int .i64 lo, .int .i64 hi, .bool lz, .slice o2 n2 c2], .string s] W (Alls s t W) := fun W hW =>
    all_any (NdAt.go (Kept.of_below hW (fun _ => False)) (fun _ _ _ => ⟨id, trivial⟩) HND.out) hr hno hs hv (tabs_kept htab (Kept.of_below hW (fun _ => False)) id id (by have := hnone.1; omega)) (hnone.below hW)
  have HALL := Lib.hid hall
  clear h hall htab hnone
  go_enter Tryz.func45, Tryz.ntmps45
  go_upto_region 1 with fail
  have hB1 : Blk ((w.alloc (.cells #[.int .u8 k, .slice o1 n1 c1, .int .i64 lo, .int .i64 hi, .bool lz, .slice o2 n2 c2] 27)).alloc (.cells #[.int .i64 0, .slice none 0 0] 43)) (w.heap.size + 1) #[.int .i64 0, .slice none 0 0] 43 := Blk.new' _ _ (by simp)
  have hN1 : Blk ((w.alloc (.cells #[.int .u8 k, .slice o1 n1 c1, .int .i64 lo, .int .i64 hi, .bool lz, .slice o2 n2 c2] 27)).alloc (.cells #[.int .i64 0, .slice none 0 0] 43)) w.heap.size #[.int .u8 k, .slice o1 n1 c1, .int .i64 lo, .int .i64 hi, .bool lz, .slice o2 n2 c2] 27 := (Blk.new _ _ _).alloc _
  have hb1 : Below w.heap.size w ((w.alloc (.cells #[.int .u8 k, .slice o1 n1 c1, .int .i64 lo, .int .i64 hi, .bool lz, .slice o2 n2 c2] 27)).alloc (.cells #[.int .i64 0, .slice none 0 0] 43)) := ((Below.refl _ _).alloc (Nat.le_refl _) _).alloc (by simp) _
  generalize ((w.alloc (.cells #[.int .u8 k, .slice o1 n1 c1, .int .i64 lo, .int .i64 hi, .bool lz, .slice o2 n2 c2] 27)).alloc (.cells #[.int .i64 0, .slice none 0 0] 43)) = W1 at hB1 hN1 hb1 ⊢
  obtain ⟨d0, d1, d2, d3, d4, d5⟩ : W1.cell? ⟨w.heap.size, 0, none⟩ = some (.int .u8 k) ∧ W1.cell? ⟨w.heap.size, 1, none⟩ = some (.slice o1 n1 c1) ∧ W1.cell? ⟨w.heap.size, 2, none⟩ = some (.int .i64 lo) ∧ W1.cell? ⟨w.heap.size, 3, none⟩ = some (.int .i64 hi) ∧ W1.cell? ⟨w.heap.size, 4, none⟩ = some (.bool lz) ∧ W1.cell? ⟨w.heap.size, 5, none⟩ = some (.slice o2 n2 c2) :=
    ⟨hN1.cell 0, hN1.cell 1, hN1.cell 2, hN1.cell 3, hN1.cell 4, hN1.cell 5⟩
  have dz := hN1.lt
  have hcall := HALL.out W1 hb1
  unfold Alls at hcall
  have HCALL := Lib.hid hcall
  have HB1 := Lib.hid hB1
  have HBE := Lib.hid hb1
  clear hcall hB1 hN1 hb1
  unfold Fnd
  cases ho : Wy.ways (strS s) t with
  | none =>
    rw [ho] at HCALL
    have HO := Lib.hid ho
    clear ho
    have hw : Calls Tryz.prog 13 #[.agg #[.int .u8 k, .slice o1 n1 c1, .int .i64 lo, .int .i64 hi, .bool lz, .slice o2 n2 c2], .string s] W1 fun e w' => e = .returned (.tuple #[.slice none 0 0, .int .i64 5]) ∧ Below W1.heap.size W1 w' := HCALL.out.mono fun e w' h => ⟨h.2, h.1⟩
    have HW := Lib.hid hw
    clear hw
    go_wp2_with (first | (go_at_call 13; go_loud (refine HW.out.mono ?_; rintro e w2 ⟨rfl, hb2⟩; have HB2 := Lib.hid hb2; have HI := Lib.hid (idxFirst_any (WaysAt.nil (fun _ => True) w2 0 0 none 0) (by simp)); clear hb2)) | (go_at_call 53; go_loud (refine HI.out.mono ?_; rintro e w3 ⟨hb3, h3⟩; obtain rfl := idx_no h3; have HB3 := Lib.hid (HB2.out.trans (hb3.mono HB2.out.size)); have B3 := HB1.out.below HB3.out HB1.out.lt; obtain ⟨r0, r1, rf0, rf1⟩ := B3.two; have rz := B3.lt; have HBB := Lib.hid B3; clear hb3 h3 B3)))
    have hR := ((HBB.out.set 0 (.int .i64 0)).set 1 (.slice none 0 0)).two
    exact bodyPost_ret (v := .tuple #[.agg #[.int .i64 0, .slice none 0 0], .bool false, .int .i64 5]) (by simp [results, Tryz.results45, go_sem, hR.1, hR.2.1]) rfl ⟨((HBE.out.trans (HB3.out.mono HBE.out.size)).setCell (by show w.heap.size ≤ w.heap.size + 1; omega) _).setCell (by show w.heap.size ≤ w.heap.size + 1; omega) _, by rw [HO.out]⟩
  | some l =>
    rw [ho] at HCALL
    have hlen : l.length ≤ 500 := by unfold Wy.ways at ho; exact wy_len ho
    have HO := Lib.hid ho
    clear ho
    have hw : Calls Tryz.prog 13 #[.agg #[.int .u8 k, .slice o1 n1 c1, .int .i64 lo, .int .i64 hi, .bool lz, .slice o2 n2 c2], .string s] W1 fun e w' => ∃ o c, e = .returned (.tuple #[.slice o l.length c, .int .i64 0]) ∧ Below W1.heap.size W1 w' ∧ WaysAt (fun q => W1.heap.size ≤ q) w' (opened t) s.size (.slice o l.length c) l := HCALL.out.mono fun e w' h => by
      obtain ⟨h1, v, h2, h3⟩ := h
      obtain ⟨o, c, rfl⟩ := h3.slice
      exact ⟨o, c, h2, h1, h3⟩
    have HW := Lib.hid hw
    clear hw
    go_upto_region 3 with (first | (go_at_call 13; go_loud (refine HW.out.mono ?_; rintro e w2 ⟨o6, c6, rfl, hb2, hw2⟩; have HB2 := Lib.hid hb2; have HW2 := Lib.hid hw2; have HI := Lib.hid (idxFirst_any hw2 hlen); clear hb2 hw2)) | (go_at_call 53; go_loud (refine HI.out.mono ?_; rintro e w3 ⟨hb3, h3⟩; obtain ⟨ix, rfl, h4⟩ := idx_split h3; have HB3 := Lib.hid (HB2.out.trans (hb3.mono HB2.out.size)); have HB23 := Lib.hid hb3; have B3 := HB1.out.below HB3.out HB1.out.lt; obtain ⟨r0, r1, rf0, rf1⟩ := B3.two; have rz := B3.lt; have HBB := Lib.hid B3; have H4 := Lib.hid h4; clear hb3 h3 h4 B3)))
    rcases H4.out with ⟨hf, rfl⟩ | ⟨i, hi, hf, rfl⟩
    · have HF := Lib.hid hf
      clear hf
      go_wp2_with fail
      have hR := ((HBB.out.set 0 (.int .i64 0)).set 1 (.slice none 0 0)).two
      exact bodyPost_ret (v := .tuple #[.agg #[.int .i64 0, .slice none 0 0], .bool false, .int .i64 0]) (by simp [results, Tryz.results45, go_sem, hR.1, hR.2.1]) rfl ⟨((HBE.out.trans (HB3.out.mono HBE.out.size)).setCell (by show w.heap.size ≤ w.heap.size + 1; omega) _).setCell (by show w.heap.size ≤ w.heap.size + 1; omega) _, by rw [HO.out]; simp only [HF.out]⟩
    · have HF := Lib.hid hf
      have hw3 := HW2.out.go (M := fun q => W1.heap.size ≤ q) (Kept.of_below HB23.out (fun _ => False)) (fun q _ hn => ⟨id, hn⟩)
      obtain ⟨b, off, cap, hve, hc1, hc2, hNb, hbz, hcell⟩ := hw3.cells (by omega)
      simp only [Value.slice.injEq, true_and] at hve
      obtain ⟨rfl, rfl⟩ := hve
      obtain ⟨sv, e0, e1, hsv, -, -⟩ := hcell i hi
      obtain ⟨so, sc, rfl⟩ := hsv.row.slice
      have hiI : (i : Int) < l.length := by omega
      have hi0 : decide ((i : Int) < 0) = false := by simp
      have hcI : (l.length : Int) ≤ c6 := by omega
      have hsv' : SpsAt (fun q => w.heap.size ≤ q) ((w3.setCell ⟨w.heap.size + 1, 0, none⟩ (.int .i64 l[i].stop)).setCell ⟨w.heap.size + 1, 1, none⟩ (.slice so l[i].spans.length sc)) (.slice so l[i].spans.length sc) l[i].spans := by
        have hz := HB1.out.lt
        have := HBE.out.size
        exact SpsAt.go hsv (((Kept.refl (fun q => q = w.heap.size + 1) w3).setCell (p := ⟨w.heap.size + 1, 0, none⟩) (fun _ => rfl) _).setCell (p := ⟨w.heap.size + 1, 1, none⟩) (fun _ => rfl) _) (fun q _ hq => ⟨by omega, by omega⟩)
      obtain ⟨x, hx⟩ : ∃ x, x = l[i] := ⟨_, rfl⟩
      rw [← hx] at e0 e1 hsv' hf
      have HSV := Lib.hid hsv'
      have HF := Lib.hid hf
      clear hcell hsv hsv' hw3 hf hx hNb
      go_wp2_with fail
      have hR := ((HBB.out.set 0 (.int .i64 x.stop)).set 1 (.slice so x.spans.length sc)).two
      exact bodyPost_ret (v := .tuple #[.agg #[.int .i64 x.stop, .slice so x.spans.length sc], .bool true, .int .i64 0]) (by simp [results, Tryz.results45, go_sem, hR.1, hR.2.1]) rfl ⟨((HBE.out.trans (HB3.out.mono HBE.out.size)).setCell (by show w.heap.size ≤ w.heap.size + 1; omega) _).setCell (by show w.heap.size ≤ w.heap.size + 1; omega) _, by rw [HO.out]; simp only [HF.out]; exact ⟨_, rfl, HSV.out⟩⟩
set_option maxHeartbeats 4000000 in
set_option maxRecDepth 100000 in
theorem idxWhole_any {N : Nat → Prop} {w : World} {G L : Nat} {v : Value} {l : List Wy.Way} (h : WaysAt N w G L v l) (hl : l.length ≤ 500) {sb : Nat} {s : ByteArray} (hsb : w.cell? ⟨sb, 0, none⟩ = some (.string s)) (hsz : sb < w.heap.size) (hs : s.size ≤ 32) : Calls Tryz.prog 53 #[v, .func (.func 47) #[] #[.pointer (some ⟨sb, 0, none⟩)]] w (Idx (wholeP s) l w) := by
  obtain ⟨o, c, rfl⟩ := h.slice
  have H := Lib.hid h
  clear h
  have hlI : (l.length : Int) ≤ 500 := by omega
  go_enter Tryz.func53, Tryz.ntmps53
  go_wp2_with fail
  go_loopw [8] (fun s8 wx => ∃ j : Nat, j ≤ l.length ∧ s8 = .int .i64 j ∧ (∀ i (hi : i < l.length), i < j → (wholeP s) l[i] = false) ∧ Below w.heap.size w wx) (fun s8 _ => l.length - (intOf s8).toNat)
  case atStart => exact ⟨0, by omega, rfl, fun i _ hi => by omega, Below.refl _ _⟩
  case round =>
    rename World => Wa
    obtain ⟨j, hj, rfl, hno, hbw⟩ := hrel
    have HNO := Lib.hid hno
    have HBW := Lib.hid hbw
    clear hno
    by_cases hjl : j < l.length
    · obtain ⟨b, off, cap, hve, hc1, hc2, hNb, hbz, hcell⟩ := H.out.cells (by omega)
      simp only [Value.slice.injEq, true_and] at hve
      obtain ⟨rfl, rfl⟩ := hve
      obtain ⟨sv, e0, e1, hsv, -, -⟩ := hcell j hjl
      obtain ⟨so, sc, rfl⟩ := hsv.row.slice
      have y0 : Wa.cell? ⟨b, off + j * 2, none⟩ = some (.int .i64 l[j].stop) := (hbw.cell (p := ⟨b, off + j * 2, none⟩) hbz).trans e0
      have y1 : Wa.cell? ⟨b, off + j * 2 + 1, none⟩ = some (.slice so l[j].spans.length sc) := (hbw.cell (p := ⟨b, off + j * 2 + 1, none⟩) hbz).trans e1
      have hbza : b < Wa.heap.size := by have := hbw.size; omega
      have hjI : (j : Int) < l.length := by omega
      have hcI : (l.length : Int) ≤ c := by omega
      have hcall := whole1_any l[j].stop so l[j].spans.length sc sb s Wa ((hbw.cell (p := ⟨sb, 0, none⟩) hsz).trans hsb) (Nat.lt_of_lt_of_le hsz hbw.size) hs
      obtain ⟨x, hx⟩ : ∃ x, x = l[j] := ⟨_, rfl⟩
      rw [← hx] at y0 y1 hcall
      obtain ⟨pb, hpb⟩ : ∃ pb, pb = (wholeP s) x := ⟨_, rfl⟩
      have hcall' : Calls Tryz.prog 47 #[.agg #[.int .i64 x.stop, .slice so x.spans.length sc], .pointer (some ⟨sb, 0, none⟩)] Wa fun e w' => e = .returned (.bool pb) ∧ Below Wa.heap.size Wa w' := by rw [hpb]; exact hcall
      have HC := Lib.hid hcall'
      have HX := Lib.hid hx
      have HPB := Lib.hid hpb
      clear hcell e0 e1 hsv hcall hcall' hx hpb hbw
      cases pb
      · go_wp2_with (go_at_call 47; go_loud (refine HC.out.mono ?_; rintro e w5 ⟨rfl, hb5⟩; have HB5 := Lib.hid (HBW.out.trans (hb5.mono HBW.out.size)); clear hb5))
        go_roundw
        case rel => exact ⟨j + 1, by omega, by go_num, fun i hi hij => by
          by_cases e : i = j
          · subst e
            rw [← HX.out]; exact HPB.out.symm
          · exact HNO.out i hi (by omega), HB5.out⟩
        case measure => simp [intOf]; omega
      · go_wp2_with (go_at_call 47; go_loud (refine HC.out.mono ?_; rintro e w5 ⟨rfl, hb5⟩; have HB5 := Lib.hid (HBW.out.trans (hb5.mono HBW.out.size)); clear hb5))
        go_ret
        exact ⟨HB5.out, .inr ⟨j, hjl, find_at hjl (fun i hi => HNO.out i (by omega) hi) (by rw [← HX.out]; exact HPB.out.symm), rfl⟩⟩
    · obtain rfl : j = l.length := by omega
      clear hbw
      go_wp2_with fail
      go_ret
      exact ⟨HBW.out, .inl ⟨find_none (fun i hi => HNO.out i hi hi), rfl⟩⟩
set_option maxHeartbeats 4000000 in
set_option maxRecDepth 100000 in
theorem findWhole_any {w : World} {t : Nd} {cs : List Value} {s : ByteArray} (h : NdAt (fun _ => True) w t cs) (hr : right t = true) (hno : nodes t ≤ 1000000) (hs : s.size ≤ 32) (hv : Lib.validD s.data.toList = true) (htab : Lib.Utf8Tabs 0 1 w) (hnone : NoneAt w) {sb : Nat} (hsb : w.cell? ⟨sb, 0, none⟩ = some (.string s)) (hsz : sb < w.heap.size) :
    Calls Tryz.prog 45 #[.agg cs.toArray, .string s, .func (.func 47) #[] #[.pointer (some ⟨sb, 0, none⟩)]] w (Fnd (wholeP s) s t w) := by
  obtain ⟨k, lo, hi, lz, o1, o2, n1, c1, n2, c2, rfl⟩ := nd6c h
  have HND := Lib.hid h
  have hall : ∀ W, Below w.heap.size w W → Calls Tryz.prog 13 #[.agg #[.int .u8 k, .slice o1 n1 c1, .int .i64 lo, .int .i64 hi, .bool lz, .slice o2 n2 c2], .string s] W (Alls s t W) := fun W hW =>
    all_any (NdAt.go (Kept.of_below hW (fun _ => False)) (fun _ _ _ => ⟨id, trivial⟩) HND.out) hr hno hs hv (tabs_kept htab (Kept.of_below hW (fun _ => False)) id id (by have := hnone.1; omega)) (hnone.below hW)
  have HALL := Lib.hid hall
  clear h hall htab hnone
  go_enter Tryz.func45, Tryz.ntmps45
  go_upto_region 1 with fail
  have hB1 : Blk ((w.alloc (.cells #[.int .u8 k, .slice o1 n1 c1, .int .i64 lo, .int .i64 hi, .bool lz, .slice o2 n2 c2] 27)).alloc (.cells #[.int .i64 0, .slice none 0 0] 43)) (w.heap.size + 1) #[.int .i64 0, .slice none 0 0] 43 := Blk.new' _ _ (by simp)
  have hN1 : Blk ((w.alloc (.cells #[.int .u8 k, .slice o1 n1 c1, .int .i64 lo, .int .i64 hi, .bool lz, .slice o2 n2 c2] 27)).alloc (.cells #[.int .i64 0, .slice none 0 0] 43)) w.heap.size #[.int .u8 k, .slice o1 n1 c1, .int .i64 lo, .int .i64 hi, .bool lz, .slice o2 n2 c2] 27 := (Blk.new _ _ _).alloc _
  have hb1 : Below w.heap.size w ((w.alloc (.cells #[.int .u8 k, .slice o1 n1 c1, .int .i64 lo, .int .i64 hi, .bool lz, .slice o2 n2 c2] 27)).alloc (.cells #[.int .i64 0, .slice none 0 0] 43)) := ((Below.refl _ _).alloc (Nat.le_refl _) _).alloc (by simp) _
  generalize ((w.alloc (.cells #[.int .u8 k, .slice o1 n1 c1, .int .i64 lo, .int .i64 hi, .bool lz, .slice o2 n2 c2] 27)).alloc (.cells #[.int .i64 0, .slice none 0 0] 43)) = W1 at hB1 hN1 hb1 ⊢
  obtain ⟨d0, d1, d2, d3, d4, d5⟩ : W1.cell? ⟨w.heap.size, 0, none⟩ = some (.int .u8 k) ∧ W1.cell? ⟨w.heap.size, 1, none⟩ = some (.slice o1 n1 c1) ∧ W1.cell? ⟨w.heap.size, 2, none⟩ = some (.int .i64 lo) ∧ W1.cell? ⟨w.heap.size, 3, none⟩ = some (.int .i64 hi) ∧ W1.cell? ⟨w.heap.size, 4, none⟩ = some (.bool lz) ∧ W1.cell? ⟨w.heap.size, 5, none⟩ = some (.slice o2 n2 c2) :=
    ⟨hN1.cell 0, hN1.cell 1, hN1.cell 2, hN1.cell 3, hN1.cell 4, hN1.cell 5⟩
  have dz := hN1.lt
  have hcall := HALL.out W1 hb1
  unfold Alls at hcall
  have HCALL := Lib.hid hcall
  have HB1 := Lib.hid hB1
  have HBE := Lib.hid hb1
  clear hcall hB1 hN1 hb1
  unfold Fnd
  cases ho : Wy.ways (strS s) t with
  | none =>
    rw [ho] at HCALL
    have HO := Lib.hid ho
    clear ho
    have hw : Calls Tryz.prog 13 #[.agg #[.int .u8 k, .slice o1 n1 c1, .int .i64 lo, .int .i64 hi, .bool lz, .slice o2 n2 c2], .string s] W1 fun e w' => e = .returned (.tuple #[.slice none 0 0, .int .i64 5]) ∧ Below W1.heap.size W1 w' := HCALL.out.mono fun e w' h => ⟨h.2, h.1⟩
    have HW := Lib.hid hw
    clear hw
    go_wp2_with (first | (go_at_call 13; go_loud (refine HW.out.mono ?_; rintro e w2 ⟨rfl, hb2⟩; have HB2 := Lib.hid hb2; have HI := Lib.hid (idxWhole_any (WaysAt.nil (fun _ => True) w2 0 0 none 0) (by simp) ((HB2.out.cell (p := ⟨sb, 0, none⟩) (Nat.lt_of_lt_of_le hsz HBE.out.size)).trans ((HBE.out.cell (p := ⟨sb, 0, none⟩) hsz).trans hsb)) (Nat.lt_of_lt_of_le hsz (Nat.le_trans HBE.out.size HB2.out.size)) hs); clear hb2)) | (go_at_call 53; go_loud (refine HI.out.mono ?_; rintro e w3 ⟨hb3, h3⟩; obtain rfl := idx_no h3; have HB3 := Lib.hid (HB2.out.trans (hb3.mono HB2.out.size)); have B3 := HB1.out.below HB3.out HB1.out.lt; obtain ⟨r0, r1, rf0, rf1⟩ := B3.two; have rz := B3.lt; have HBB := Lib.hid B3; clear hb3 h3 B3)))
    have hR := ((HBB.out.set 0 (.int .i64 0)).set 1 (.slice none 0 0)).two
    exact bodyPost_ret (v := .tuple #[.agg #[.int .i64 0, .slice none 0 0], .bool false, .int .i64 5]) (by simp [results, Tryz.results45, go_sem, hR.1, hR.2.1]) rfl ⟨((HBE.out.trans (HB3.out.mono HBE.out.size)).setCell (by show w.heap.size ≤ w.heap.size + 1; omega) _).setCell (by show w.heap.size ≤ w.heap.size + 1; omega) _, by rw [HO.out]⟩
  | some l =>
    rw [ho] at HCALL
    have hlen : l.length ≤ 500 := by unfold Wy.ways at ho; exact wy_len ho
    have HO := Lib.hid ho
    clear ho
    have hw : Calls Tryz.prog 13 #[.agg #[.int .u8 k, .slice o1 n1 c1, .int .i64 lo, .int .i64 hi, .bool lz, .slice o2 n2 c2], .string s] W1 fun e w' => ∃ o c, e = .returned (.tuple #[.slice o l.length c, .int .i64 0]) ∧ Below W1.heap.size W1 w' ∧ WaysAt (fun q => W1.heap.size ≤ q) w' (opened t) s.size (.slice o l.length c) l := HCALL.out.mono fun e w' h => by
      obtain ⟨h1, v, h2, h3⟩ := h
      obtain ⟨o, c, rfl⟩ := h3.slice
      exact ⟨o, c, h2, h1, h3⟩
    have HW := Lib.hid hw
    clear hw
    go_upto_region 3 with (first | (go_at_call 13; go_loud (refine HW.out.mono ?_; rintro e w2 ⟨o6, c6, rfl, hb2, hw2⟩; have HB2 := Lib.hid hb2; have HW2 := Lib.hid hw2; have HI := Lib.hid (idxWhole_any hw2 hlen ((HB2.out.cell (p := ⟨sb, 0, none⟩) (Nat.lt_of_lt_of_le hsz HBE.out.size)).trans ((HBE.out.cell (p := ⟨sb, 0, none⟩) hsz).trans hsb)) (Nat.lt_of_lt_of_le hsz (Nat.le_trans HBE.out.size HB2.out.size)) hs); clear hb2 hw2)) | (go_at_call 53; go_loud (refine HI.out.mono ?_; rintro e w3 ⟨hb3, h3⟩; obtain ⟨ix, rfl, h4⟩ := idx_split h3; have HB3 := Lib.hid (HB2.out.trans (hb3.mono HB2.out.size)); have HB23 := Lib.hid hb3; have B3 := HB1.out.below HB3.out HB1.out.lt; obtain ⟨r0, r1, rf0, rf1⟩ := B3.two; have rz := B3.lt; have HBB := Lib.hid B3; have H4 := Lib.hid h4; clear hb3 h3 h4 B3)))
    rcases H4.out with ⟨hf, rfl⟩ | ⟨i, hi, hf, rfl⟩
    · have HF := Lib.hid hf
      clear hf
      go_wp2_with fail
      have hR := ((HBB.out.set 0 (.int .i64 0)).set 1 (.slice none 0 0)).two
      exact bodyPost_ret (v := .tuple #[.agg #[.int .i64 0, .slice none 0 0], .bool false, .int .i64 0]) (by simp [results, Tryz.results45, go_sem, hR.1, hR.2.1]) rfl ⟨((HBE.out.trans (HB3.out.mono HBE.out.size)).setCell (by show w.heap.size ≤ w.heap.size + 1; omega) _).setCell (by show w.heap.size ≤ w.heap.size + 1; omega) _, by rw [HO.out]; simp only [HF.out]⟩
    · have HF := Lib.hid hf
      have hw3 := HW2.out.go (M := fun q => W1.heap.size ≤ q) (Kept.of_below HB23.out (fun _ => False)) (fun q _ hn => ⟨id, hn⟩)
      obtain ⟨b, off, cap, hve, hc1, hc2, hNb, hbz, hcell⟩ := hw3.cells (by omega)
      simp only [Value.slice.injEq, true_and] at hve
      obtain ⟨rfl, rfl⟩ := hve
      obtain ⟨sv, e0, e1, hsv, -, -⟩ := hcell i hi
      obtain ⟨so, sc, rfl⟩ := hsv.row.slice
      have hiI : (i : Int) < l.length := by omega
      have hi0 : decide ((i : Int) < 0) = false := by simp
      have hcI : (l.length : Int) ≤ c6 := by omega
      have hsv' : SpsAt (fun q => w.heap.size ≤ q) ((w3.setCell ⟨w.heap.size + 1, 0, none⟩ (.int .i64 l[i].stop)).setCell ⟨w.heap.size + 1, 1, none⟩ (.slice so l[i].spans.length sc)) (.slice so l[i].spans.length sc) l[i].spans := by
        have hz := HB1.out.lt
        have := HBE.out.size
        exact SpsAt.go hsv (((Kept.refl (fun q => q = w.heap.size + 1) w3).setCell (p := ⟨w.heap.size + 1, 0, none⟩) (fun _ => rfl) _).setCell (p := ⟨w.heap.size + 1, 1, none⟩) (fun _ => rfl) _) (fun q _ hq => ⟨by omega, by omega⟩)
      obtain ⟨x, hx⟩ : ∃ x, x = l[i] := ⟨_, rfl⟩
      rw [← hx] at e0 e1 hsv' hf
      have HSV := Lib.hid hsv'
      have HF := Lib.hid hf
      clear hcell hsv hsv' hw3 hf hx hNb
      go_wp2_with fail
      have hR := ((HBB.out.set 0 (.int .i64 x.stop)).set 1 (.slice so x.spans.length sc)).two
      exact bodyPost_ret (v := .tuple #[.agg #[.int .i64 x.stop, .slice so x.spans.length sc], .bool true, .int .i64 0]) (by simp [results, Tryz.results45, go_sem, hR.1, hR.2.1]) rfl ⟨((HBE.out.trans (HB3.out.mono HBE.out.size)).setCell (by show w.heap.size ≤ w.heap.size + 1; omega) _).setCell (by show w.heap.size ≤ w.heap.size + 1; omega) _, by rw [HO.out]; simp only [HF.out]; exact ⟨_, rfl, HSV.out⟩⟩
end Go.Proofs.YtnhjakdmbfadlaaGreatDoor

/- First and Whole. -/
namespace Go.Proofs.YtnhjakdmbfadlaaGreatDoor
open Go.RowKit Wy Mem Grow

def FndV (p : Wy.Way → Bool) (s : ByteArray) (t : Nd) (w w' : World) (st : Int) (v : Value) (bb : Bool) (er : Int) : Prop :=
  match Wy.ways (strS s) t with
  | none => st = 0 ∧ v = .slice none 0 0 ∧ bb = false ∧ er = 5
  | some l => match l.find? p with
    | none => st = 0 ∧ v = .slice none 0 0 ∧ bb = false ∧ er = 0
    | some x => st = x.stop ∧ bb = true ∧ er = 0 ∧ SpsAt (fun q => w.heap.size ≤ q) w' v x.spans
theorem fnd_form {p : Wy.Way → Bool} {s : ByteArray} {t : Nd} {w w' : World} {e : Ending} (h : Fnd p s t w e w') : Below w.heap.size w w' ∧ ∃ (st : Int) (o : Option Addr) (n c : Nat) (bb : Bool) (er : Int), e = .returned (.tuple #[.agg #[.int .i64 st, .slice o n c], .bool bb, .int .i64 er]) ∧ FndV p s t w w' st (.slice o n c) bb er := by
  obtain ⟨h1, h2⟩ := h
  refine ⟨h1, ?_⟩
  unfold FndV
  cases hw : Wy.ways (strS s) t with
  | none =>
    rw [hw] at h2
    exact ⟨_, _, _, _, _, _, h2, rfl, rfl, rfl, rfl⟩
  | some l =>
    rw [hw] at h2
    simp only at h2 ⊢
    cases hf : l.find? p with
    | none =>
      rw [hf] at h2
      exact ⟨_, _, _, _, _, _, h2, rfl, rfl, rfl, rfl⟩
    | some x =>
      rw [hf] at h2
      obtain ⟨sv, h3, h4⟩ := h2
      obtain ⟨o, c, rfl⟩ := h4.row.slice
      exact ⟨_, _, _, _, _, _, h3, rfl, rfl, rfl, h4⟩
theorem FndV.go {p : Wy.Way → Bool} {s : ByteArray} {t : Nd} {w w0 w1 w' : World} {st : Int} {v : Value} {bb : Bool} {er : Int} (h : FndV p s t w1 w' st v bb er) {X : Nat → Prop} {w2 : World} (k : Kept X w' w2) (hX : ∀ q, w1.heap.size ≤ q → q < w'.heap.size → ¬ X q) (hw : w0.heap.size ≤ w1.heap.size) (e : w = w0) : FndV p s t w w2 st v bb er := by
  subst e
  unfold FndV at h ⊢
  cases hw : Wy.ways (strS s) t with
  | none => rw [hw] at h; exact h
  | some l =>
    rw [hw] at h
    simp only at h ⊢
    cases hf : l.find? p with
    | none => rw [hf] at h; exact h
    | some x =>
      rw [hf] at h
      exact ⟨h.1, h.2.1, h.2.2.1, SpsAt.go h.2.2.2 k (fun q hq hn => ⟨hX q hn hq, by omega⟩)⟩
def Fst (s : ByteArray) (t : Nd) (w : World) (e : Ending) (w' : World) : Prop :=
  Below w.heap.size w w' ∧ ∃ (st : Int) (v : Value) (bb : Bool) (er : Int), e = .returned (.tuple #[.agg #[.int .i64 st, v], .bool bb, .int .i64 er]) ∧ FndV firstP s t w w' st v bb er
def Whl (s : ByteArray) (t : Nd) (w : World) (e : Ending) (w' : World) : Prop :=
  Below w.heap.size w w' ∧ ∃ (st : Int) (v : Value) (bb : Bool) (er : Int), e = .returned (.tuple #[v, .bool bb, .int .i64 er]) ∧ FndV (wholeP s) s t w w' st v bb er
set_option maxHeartbeats 4000000 in
set_option maxRecDepth 100000 in
theorem first_any {w : World} {t : Nd} {cs : List Value} {s : ByteArray} (h : NdAt (fun _ => True) w t cs) (hr : right t = true) (hno : nodes t ≤ 1000000) (hs : s.size ≤ 32) (hv : Lib.validD s.data.toList = true) (htab : Lib.Utf8Tabs 0 1 w) (hnone : NoneAt w) :
    Calls Tryz.prog 14 #[.agg cs.toArray, .string s] w (Fst s t w) := by
  obtain ⟨k, lo, hi, lz, o1, o2, n1, c1, n2, c2, rfl⟩ := nd6c h
  have hcall : ∀ W, Below w.heap.size w W → Calls Tryz.prog 45 #[.agg #[.int .u8 k, .slice o1 n1 c1, .int .i64 lo, .int .i64 hi, .bool lz, .slice o2 n2 c2], .string s, .func (.func 46) #[] #[]] W (Fnd firstP s t W) := fun W hW =>
    findFirst_any (NdAt.go (Kept.of_below hW (fun _ => False)) (fun _ _ _ => ⟨id, trivial⟩) h) hr hno hs hv (tabs_kept htab (Kept.of_below hW (fun _ => False)) id id (by have := hnone.1; omega)) (hnone.below hW)
  have HCALL := Lib.hid hcall
  clear h hcall htab hnone
  go_enter Tryz.func14, Tryz.ntmps14
  go_upto_region 1 with fail
  have hB1 : Blk ((w.alloc (.cells #[.int .u8 k, .slice o1 n1 c1, .int .i64 lo, .int .i64 hi, .bool lz, .slice o2 n2 c2] 27)).alloc (.cells #[.int .i64 0, .slice none 0 0] 43)) (w.heap.size + 1) #[.int .i64 0, .slice none 0 0] 43 := Blk.new' _ _ (by simp)
  have hN1 : Blk ((w.alloc (.cells #[.int .u8 k, .slice o1 n1 c1, .int .i64 lo, .int .i64 hi, .bool lz, .slice o2 n2 c2] 27)).alloc (.cells #[.int .i64 0, .slice none 0 0] 43)) w.heap.size #[.int .u8 k, .slice o1 n1 c1, .int .i64 lo, .int .i64 hi, .bool lz, .slice o2 n2 c2] 27 := (Blk.new _ _ _).alloc _
  have hb1 : Below w.heap.size w ((w.alloc (.cells #[.int .u8 k, .slice o1 n1 c1, .int .i64 lo, .int .i64 hi, .bool lz, .slice o2 n2 c2] 27)).alloc (.cells #[.int .i64 0, .slice none 0 0] 43)) := ((Below.refl _ _).alloc (Nat.le_refl _) _).alloc (by simp) _
  generalize ((w.alloc (.cells #[.int .u8 k, .slice o1 n1 c1, .int .i64 lo, .int .i64 hi, .bool lz, .slice o2 n2 c2] 27)).alloc (.cells #[.int .i64 0, .slice none 0 0] 43)) = W1 at hB1 hN1 hb1 ⊢
  obtain ⟨d0, d1, d2, d3, d4, d5⟩ : W1.cell? ⟨w.heap.size, 0, none⟩ = some (.int .u8 k) ∧ W1.cell? ⟨w.heap.size, 1, none⟩ = some (.slice o1 n1 c1) ∧ W1.cell? ⟨w.heap.size, 2, none⟩ = some (.int .i64 lo) ∧ W1.cell? ⟨w.heap.size, 3, none⟩ = some (.int .i64 hi) ∧ W1.cell? ⟨w.heap.size, 4, none⟩ = some (.bool lz) ∧ W1.cell? ⟨w.heap.size, 5, none⟩ = some (.slice o2 n2 c2) :=
    ⟨hN1.cell 0, hN1.cell 1, hN1.cell 2, hN1.cell 3, hN1.cell 4, hN1.cell 5⟩
  have dz := hN1.lt
  have HB1 := Lib.hid hB1
  have HBE := Lib.hid hb1
  clear hB1 hN1 hb1
  go_wp2_with (go_at_call 45; go_loud (refine (HCALL.out W1 HBE.out).mono ?_; rintro e w2 h2; obtain ⟨hb2, st, o, n, c, bb, er, rfl, hf⟩ := fnd_form h2; have HB2 := Lib.hid hb2; have HF := Lib.hid hf; have B3 := HB1.out.below hb2 HB1.out.lt; obtain ⟨r0, r1, rf0, rf1⟩ := B3.two; have rz := B3.lt; have HBB := Lib.hid B3; clear h2 hb2 hf B3))
  have hR := ((HBB.out.set 0 (.int .i64 st)).set 1 (.slice o n c)).two
  have hz := HB1.out.lt
  have hz' := HBE.out.size
  exact bodyPost_ret (v := .tuple #[.agg #[.int .i64 st, .slice o n c], .bool bb, .int .i64 er]) (by simp [results, Tryz.results14, go_sem, hR.1, hR.2.1]) rfl
    ⟨((HBE.out.trans (HB2.out.mono HBE.out.size)).setCell (by show w.heap.size ≤ w.heap.size + 1; omega) _).setCell (by show w.heap.size ≤ w.heap.size + 1; omega) _, st, _, bb, er, rfl,
      FndV.go HF.out (((Kept.refl (fun q => q = w.heap.size + 1) w2).setCell (p := ⟨w.heap.size + 1, 0, none⟩) (fun _ => rfl) _).setCell (p := ⟨w.heap.size + 1, 1, none⟩) (fun _ => rfl) _) (fun q hq _ e => by omega) hz' rfl⟩
set_option maxHeartbeats 4000000 in
set_option maxRecDepth 100000 in
theorem whole_any {w : World} {t : Nd} {cs : List Value} {s : ByteArray} (h : NdAt (fun _ => True) w t cs) (hr : right t = true) (hno : nodes t ≤ 1000000) (hs : s.size ≤ 32) (hv : Lib.validD s.data.toList = true) (htab : Lib.Utf8Tabs 0 1 w) (hnone : NoneAt w) :
    Calls Tryz.prog 15 #[.agg cs.toArray, .string s] w (Whl s t w) := by
  obtain ⟨k, lo, hi, lz, o1, o2, n1, c1, n2, c2, rfl⟩ := nd6c h
  have hcall : ∀ W sb, Below w.heap.size w W → W.cell? ⟨sb, 0, none⟩ = some (.string s) → sb < W.heap.size → Calls Tryz.prog 45 #[.agg #[.int .u8 k, .slice o1 n1 c1, .int .i64 lo, .int .i64 hi, .bool lz, .slice o2 n2 c2], .string s, .func (.func 47) #[] #[.pointer (some ⟨sb, 0, none⟩)]] W (Fnd (wholeP s) s t W) := fun W sb hW hsb hsz =>
    findWhole_any (NdAt.go (Kept.of_below hW (fun _ => False)) (fun _ _ _ => ⟨id, trivial⟩) h) hr hno hs hv (tabs_kept htab (Kept.of_below hW (fun _ => False)) id id (by have := hnone.1; omega)) (hnone.below hW) hsb hsz
  have HCALL := Lib.hid hcall
  clear h hcall htab hnone
  go_enter Tryz.func15, Tryz.ntmps15
  go_upto_region 1 with fail
  have hB1 : Blk ((w.alloc (.cells #[.int .u8 k, .slice o1 n1 c1, .int .i64 lo, .int .i64 hi, .bool lz, .slice o2 n2 c2] 27)).alloc (.cells #[.string s] 9)) (w.heap.size + 1) #[.string s] 9 := Blk.new' _ _ (by simp)
  have hN1 : Blk ((w.alloc (.cells #[.int .u8 k, .slice o1 n1 c1, .int .i64 lo, .int .i64 hi, .bool lz, .slice o2 n2 c2] 27)).alloc (.cells #[.string s] 9)) w.heap.size #[.int .u8 k, .slice o1 n1 c1, .int .i64 lo, .int .i64 hi, .bool lz, .slice o2 n2 c2] 27 := (Blk.new _ _ _).alloc _
  have hb1 : Below w.heap.size w ((w.alloc (.cells #[.int .u8 k, .slice o1 n1 c1, .int .i64 lo, .int .i64 hi, .bool lz, .slice o2 n2 c2] 27)).alloc (.cells #[.string s] 9)) := ((Below.refl _ _).alloc (Nat.le_refl _) _).alloc (by simp) _
  generalize ((w.alloc (.cells #[.int .u8 k, .slice o1 n1 c1, .int .i64 lo, .int .i64 hi, .bool lz, .slice o2 n2 c2] 27)).alloc (.cells #[.string s] 9)) = W1 at hB1 hN1 hb1 ⊢
  obtain ⟨d0, d1, d2, d3, d4, d5⟩ : W1.cell? ⟨w.heap.size, 0, none⟩ = some (.int .u8 k) ∧ W1.cell? ⟨w.heap.size, 1, none⟩ = some (.slice o1 n1 c1) ∧ W1.cell? ⟨w.heap.size, 2, none⟩ = some (.int .i64 lo) ∧ W1.cell? ⟨w.heap.size, 3, none⟩ = some (.int .i64 hi) ∧ W1.cell? ⟨w.heap.size, 4, none⟩ = some (.bool lz) ∧ W1.cell? ⟨w.heap.size, 5, none⟩ = some (.slice o2 n2 c2) :=
    ⟨hN1.cell 0, hN1.cell 1, hN1.cell 2, hN1.cell 3, hN1.cell 4, hN1.cell 5⟩
  have dz := hN1.lt
  have s0 : W1.cell? ⟨w.heap.size + 1, 0, none⟩ = some (.string s) := hB1.cell 0
  have sz := hB1.lt
  have hcl := HCALL.out W1 _ hb1 s0 sz
  have HC := Lib.hid hcl
  have HBE := Lib.hid hb1
  clear hB1 hN1 hb1 hcl HCALL
  go_wp2_with (go_at_call 45; go_loud (refine HC.out.mono ?_; rintro e w2 h2; obtain ⟨hb2, st, o, n, c, bb, er, rfl, hf⟩ := fnd_form h2; have HB2 := Lib.hid hb2; have HF := Lib.hid hf; clear h2 hb2 hf))
  have hz' := HBE.out.size
  exact bodyPost_ret (v := .tuple #[.slice o n c, .bool bb, .int .i64 er]) (by simp [results, Tryz.results15, go_sem]) rfl
    ⟨(HBE.out.trans (HB2.out.mono HBE.out.size)).alloc (by have := HB2.out.size; omega) _, st, _, bb, er, rfl, FndV.go HF.out ((Kept.refl (fun _ => False) w2).alloc _) (fun q hq _ => id) hz' rfl⟩
end Go.Proofs.YtnhjakdmbfadlaaGreatDoor
