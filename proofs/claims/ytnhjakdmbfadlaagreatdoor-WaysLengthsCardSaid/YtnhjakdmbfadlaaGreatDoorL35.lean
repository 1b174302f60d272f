/- Parts of the proof: Se. Conditions: none. -/
import Derived.Test.YtnhjakdmbfadlaaGreatDoorL20
set_option linter.all false
/- slices.Equal, at ints and at spans. -/
namespace Go.Proofs.YtnhjakdmbfadlaaGreatDoor
open Go.RowKit Wy Mem Grow

def Eqs (b : Bool) (w : World) (e : Ending) (w' : World) : Prop := e = .returned (.bool b) ∧ Below w.heap.size w w'
theorem take_same {α : Type} {l m : List α} {j : Nat} (hj : j < l.length) (hm : j < m.length) (h : l.take j = m.take j) (e : l[j] = m[j]) : l.take (j + 1) = m.take (j + 1) := by
  rw [List.take_succ_eq_append_getElem hj, List.take_succ_eq_append_getElem hm, h, e]
theorem ints_at {N : Nat → Prop} {w : World} {v : Value} {l : List Nat} (h : Row N w v l.length 1 (intCs l)) (hne : 0 < l.length) :
    ∃ b off cap : Nat, v = .slice (some ⟨b, off, none⟩) l.length cap ∧ l.length ≤ cap ∧ b < w.heap.size ∧ ∀ i (hi : i < l.length), w.cell? ⟨b, off + i, none⟩ = some (.int .i64 l[i]) := by
  rcases h.at_ with ⟨h0, _⟩ | ⟨b, off, cap, rfl, k1, k2, k3, k4, k5⟩
  · omega
  · refine ⟨b, off, cap, rfl, k1, k4, fun i hi => ?_⟩
    rw [k5 i (by rw [intCs_len]; omega)]
    simp [intCs, hi]
theorem sps_at {N : Nat → Prop} {w : World} {v : Value} {l : List (Int × Int)} (h : SpsAt N w v l) (hne : 0 < l.length) :
    ∃ b off cap : Nat, v = .slice (some ⟨b, off, none⟩) l.length cap ∧ l.length ≤ cap ∧ b < w.heap.size ∧ ∀ i (hi : i < l.length), w.cell? ⟨b, off + i * 2, none⟩ = some (.int .i64 l[i].1) ∧ w.cell? ⟨b, off + i * 2 + 1, none⟩ = some (.int .i64 l[i].2) := by
  obtain ⟨b, off, cap, rfl, h1, h2, h3, h4, h5⟩ := h.row.cells (f := spCs) (fun _ => rfl) hne
  exact ⟨b, off, cap, rfl, h1, h4, fun i hi => ⟨h5 i hi 0 (by omega), h5 i hi 1 (by omega)⟩⟩
set_option maxHeartbeats 4000000 in
set_option maxRecDepth 100000 in
theorem equalI_any {N M : Nat → Prop} {w : World} {v1 v2 : Value} {l m : List Nat} (h1 : Row N w v1 l.length 1 (intCs l)) (h2 : Row M w v2 m.length 1 (intCs m)) (hl : l.length ≤ 1000000000) (hm : m.length ≤ 1000000000) : Calls Tryz.prog 34 #[v1, v2] w (Eqs (decide (l = m)) w) := by
  obtain ⟨oa, ca, rfl⟩ := h1.slice
  obtain ⟨ob, cb, rfl⟩ := h2.slice
  have H1 := Lib.hid h1
  have H2 := Lib.hid h2
  have hlI : (l.length : Int) ≤ 1000000000 := by omega
  have hmI : (m.length : Int) ≤ 1000000000 := by omega
  clear h1 h2
  by_cases hlen : l.length = m.length
  · have hb : ((l.length : Int) == m.length) = true := by rw [hlen]; simp
    have hb' : ((l.length : Int) != m.length) = false := by rw [hlen]; simp
    have HLEN := Lib.hid hlen
    clear hlen
    go_enter Tryz.func34, Tryz.ntmps34
    go_wp2_with fail
    go_loopw [13] (fun s13 wx => ∃ j : Nat, j ≤ l.length ∧ s13 = .int .i64 j ∧ l.take j = m.take j ∧ Below w.heap.size w wx) (fun s13 _ => l.length - (intOf s13).toNat)
    case atStart => exact ⟨0, by omega, rfl, by simp, Below.refl _ _⟩
    case round =>
      rename World => Wa
      obtain ⟨j, hj, rfl, htk, hbw⟩ := hrel
      have HBW := Lib.hid hbw
      have HTK := Lib.hid htk
      by_cases hjl : j < l.length
      · have hjm : j < m.length := by have := HLEN.out; omega
        obtain ⟨b1, of1, c1, hv1, hc1, hz1, he1⟩ := ints_at H1.out (by omega)
        obtain ⟨b2, of2, c2, hv2, hc2, hz2, he2⟩ := ints_at H2.out (by omega)
        simp only [Value.slice.injEq, true_and] at hv1 hv2
        obtain ⟨rfl, rfl⟩ := hv1
        obtain ⟨rfl, rfl⟩ := hv2
        have hjI : (j : Int) < l.length := by omega
        have hjJ : (j : Int) < m.length := by omega
        have hcI : (l.length : Int) ≤ ca := by omega
        have hcJ : (m.length : Int) ≤ cb := by omega
        have hza1 : b1 < Wa.heap.size := Nat.lt_of_lt_of_le hz1 hbw.size
        have hza2 : b2 < Wa.heap.size := Nat.lt_of_lt_of_le hz2 hbw.size
        have y1 : Wa.cell? ⟨b1, of1 + j, none⟩ = some (.int .i64 l[j]) := (hbw.cell (p := ⟨b1, of1 + j, none⟩) hz1).trans (he1 j hjl)
        have y2 : Wa.cell? ⟨b2, of2 + j, none⟩ = some (.int .i64 m[j]) := (hbw.cell (p := ⟨b2, of2 + j, none⟩) hz2).trans (he2 j hjm)
        obtain ⟨x, hx⟩ : ∃ x, x = l[j] := ⟨_, rfl⟩
        obtain ⟨y, hy⟩ : ∃ y, y = m[j] := ⟨_, rfl⟩
        rw [← hx] at y1
        rw [← hy] at y2
        have HX := Lib.hid hx
        have HY := Lib.hid hy
        clear hx hy he1 he2 htk hbw
        by_cases hxy : x = y
        · subst hxy
          go_upto_region 6 with fail
          go_region
          go_wp2_with fail
          go_roundw
          case rel => exact ⟨j + 1, by omega, by go_num, take_same hjl hjm HTK.out (HX.out.symm.trans HY.out), HBW.out.drew⟩
          case measure => simp [intOf]; omega
        · have hne1 : ((x : Int) == y) = false := by simp; omega
          have hne2 : ((x : Int) != y) = true := by simp; omega
          have HNE := Lib.hid hxy
          clear hxy
          go_upto_region 6 with fail
          go_region
          go_wp2_with fail
          go_ret
          refine ⟨?_, HBW.out.drew⟩
          have : l ≠ m := fun e => HNE.out (by rw [HX.out, HY.out]; subst e; rfl)
          simp [this]
      · obtain rfl : j = l.length := by omega
        have he : l = m := by
          have h := HTK.out
          rw [List.take_length] at h
          rw [h, List.take_of_length_le (by have := HLEN.out; omega)]
        have HE := Lib.hid he
        clear he htk hbw
        go_wp2_with fail
        go_ret
        exact ⟨by simp [HE.out], HBW.out⟩
  · have hb : ((l.length : Int) == m.length) = false := by simp; omega
    have hb' : ((l.length : Int) != m.length) = true := by simp; omega
    have HLEN := Lib.hid hlen
    clear hlen
    go_enter Tryz.func34, Tryz.ntmps34
    go_wp2_with fail
    go_ret
    refine ⟨?_, Below.refl _ _⟩
    have : l ≠ m := fun e => HLEN.out (by rw [e])
    simp [this]
set_option maxHeartbeats 4000000 in
set_option maxRecDepth 100000 in
theorem equalS_any {N M : Nat → Prop} {w : World} {v1 v2 : Value} {l m : List (Int × Int)} (h1 : SpsAt N w v1 l) (h2 : SpsAt M w v2 m) (hl : l.length ≤ 1000000000) (hm : m.length ≤ 1000000000) : Calls Tryz.prog 20 #[v1, v2] w (Eqs (decide (l = m)) w) := by
  obtain ⟨oa, ca, rfl⟩ := h1.row.slice
  obtain ⟨ob, cb, rfl⟩ := h2.row.slice
  have H1 := Lib.hid h1
  have H2 := Lib.hid h2
  have hlI : (l.length : Int) ≤ 1000000000 := by omega
  have hmI : (m.length : Int) ≤ 1000000000 := by omega
  clear h1 h2
  by_cases hlen : l.length = m.length
  · have hb : ((l.length : Int) == m.length) = true := by rw [hlen]; simp
    have hb' : ((l.length : Int) != m.length) = false := by rw [hlen]; simp
    have HLEN := Lib.hid hlen
    clear hlen
    go_enter Tryz.func20, Tryz.ntmps20
    go_wp2_with fail
    go_loopw [13] (fun s13 wx => ∃ j : Nat, j ≤ l.length ∧ s13 = .int .i64 j ∧ l.take j = m.take j ∧ Below w.heap.size w wx) (fun s13 _ => l.length - (intOf s13).toNat)
    case atStart => exact ⟨0, by omega, rfl, by simp, Below.refl _ _⟩
    case round =>
      rename World => Wa
      obtain ⟨j, hj, rfl, htk, hbw⟩ := hrel
      have HBW := Lib.hid hbw
      have HTK := Lib.hid htk
      by_cases hjl : j < l.length
      · have hjm : j < m.length := by have := HLEN.out; omega
        obtain ⟨b1, of1, c1, hv1, hc1, hz1, he1⟩ := sps_at H1.out (by omega)
        obtain ⟨b2, of2, c2, hv2, hc2, hz2, he2⟩ := sps_at H2.out (by omega)
        simp only [Value.slice.injEq, true_and] at hv1 hv2
        obtain ⟨rfl, rfl⟩ := hv1
        obtain ⟨rfl, rfl⟩ := hv2
        have hjI : (j : Int) < l.length := by omega
        have hjJ : (j : Int) < m.length := by omega
        have hcI : (l.length : Int) ≤ ca := by omega
        have hcJ : (m.length : Int) ≤ cb := by omega
        have hza1 : b1 < Wa.heap.size := Nat.lt_of_lt_of_le hz1 hbw.size
        have hza2 : b2 < Wa.heap.size := Nat.lt_of_lt_of_le hz2 hbw.size
        have y1 : Wa.cell? ⟨b1, of1 + j * 2, none⟩ = some (.int .i64 l[j].1) := (hbw.cell (p := ⟨b1, of1 + j * 2, none⟩) hz1).trans (he1 j hjl).1
        have y1' : Wa.cell? ⟨b1, of1 + j * 2 + 1, none⟩ = some (.int .i64 l[j].2) := (hbw.cell (p := ⟨b1, of1 + j * 2 + 1, none⟩) hz1).trans (he1 j hjl).2
        have y2 : Wa.cell? ⟨b2, of2 + j * 2, none⟩ = some (.int .i64 m[j].1) := (hbw.cell (p := ⟨b2, of2 + j * 2, none⟩) hz2).trans (he2 j hjm).1
        have y2' : Wa.cell? ⟨b2, of2 + j * 2 + 1, none⟩ = some (.int .i64 m[j].2) := (hbw.cell (p := ⟨b2, of2 + j * 2 + 1, none⟩) hz2).trans (he2 j hjm).2
        obtain ⟨x, hx⟩ : ∃ x, x = l[j] := ⟨_, rfl⟩
        obtain ⟨y, hy⟩ : ∃ y, y = m[j] := ⟨_, rfl⟩
        rw [← hx] at y1 y1'
        rw [← hy] at y2 y2'
        obtain ⟨xa, xb⟩ := x
        obtain ⟨ya, yb⟩ := y
        have HX := Lib.hid hx
        have HY := Lib.hid hy
        simp only at y1 y1' y2 y2'
        clear hx hy he1 he2 htk hbw
        by_cases hxa : xa = ya
        · subst hxa
          by_cases hxb : xb = yb
          · subst hxb
            go_upto_region 6 with fail
            go_region
            go_wp2_with fail
            go_roundw
            case rel => exact ⟨j + 1, by omega, by go_num, take_same hjl hjm HTK.out (HX.out.symm.trans HY.out), HBW.out.drew⟩
            case measure => simp [intOf]; omega
          · have HNE := Lib.hid hxb
            go_upto_region 6 with fail
            go_region
            go_wp2_with fail
            go_ret
            refine ⟨?_, HBW.out.drew⟩
            have : l ≠ m := fun e => HNE.out (by have h := HX.out.trans (by subst e; exact HY.out.symm); simpa using h)
            simp [this]
        · have HNE := Lib.hid (show ¬ (xa = ya ∧ xb = yb) from fun e => hxa e.1)
          go_upto_region 6 with fail
          go_region
          go_wp2_with fail
          go_ret
          refine ⟨?_, HBW.out.drew⟩
          have : l ≠ m := fun e => HNE.out (by have h := HX.out.trans (by subst e; exact HY.out.symm); simpa using h)
          simp [this]
      · obtain rfl : j = l.length := by omega
        have he : l = m := by
          have h := HTK.out
          rw [List.take_length] at h
          rw [h, List.take_of_length_le (by have := HLEN.out; omega)]
        have HE := Lib.hid he
        clear he htk hbw
        go_wp2_with fail
        go_ret
        exact ⟨by simp [HE.out], HBW.out⟩
  · have hb : ((l.length : Int) == m.length) = false := by simp; omega
    have hb' : ((l.length : Int) != m.length) = true := by simp; omega
    have HLEN := Lib.hid hlen
    clear hlen
    go_enter Tryz.func20, Tryz.ntmps20
    go_wp2_with fail
    go_ret
    refine ⟨?_, Below.refl _ _⟩
    have : l ≠ m := fun e => HLEN.out (by rw [e])
    simp [this]
end Go.Proofs.YtnhjakdmbfadlaaGreatDoor
