/- Parts of the proof: Se, Grw. Conditions: none. -/
import Derived.Test.YtnhjakdmbfadlaaDoorS33
import Derived.Test.YtnhjakdmbfadlaaDoorS04
import Derived.Test.YtnhjakdmbfadlaaDoorS06
import Derived.Test.YtnhjakdmbfadlaaDoorS02
import Derived.Outline
import Derived.IntWalk
set_option linter.all false
/- slices.Equal, at ints and at spans. -/
namespace Go.Proofs.YtnhjakdmbfadlaaDoor
open Go.RowKit Wy Mem Grow

def Eqs (b : Bool) (w : World) (e : Ending) (w' : World) : Prop := e = .returned (.bool b) ∧ Below w.heap.size w w'
theorem take_same {α : Type} {l m : List α} {j : Nat} (hj : j < l.length) (hm : j < m.length) (h : l.take j = m.take j) (e : l[j] = m[j]) : l.take (j + 1) = m.take (j + 1) := by
  rw [List.take_succ_eq_append_getElem hj, List.take_succ_eq_append_getElem hm, h, e]
theorem ints_at {N : Nat → Prop} {w : World} {v : Value} {l : List Nat} (h : Row N w v l.length 1 (intCs l)) (hne : 0 < l.length) :
    ∃ b off cap : Nat, v = .slice (some ⟨b, off, none⟩) l.length cap ∧ l.length ≤ cap ∧ b < w.heap.size ∧ ∀ i (hi : i < l.length), w.cell? ⟨b, off + i, none⟩ = some (.int .i64 l[i]) := by
  rcases h.at_ with ⟨h0, _⟩ | ⟨b, off, cap, rfl, k1, k2, k3, k4, k5⟩
  · omega
  · refine ⟨b, off, cap, rfl, k1, k4, fun i hi => ?_⟩
    rw [k5 i (by rw [intCs_len]; omega)]
    simp [intCs, hi]
theorem sps_at {N : Nat → Prop} {w : World} {v : Value} {l : List (Int × Int)} (h : SpsAt N w v l) (hne : 0 < l.length) :
    ∃ b off cap : Nat, v = .slice (some ⟨b, off, none⟩) l.length cap ∧ l.length ≤ cap ∧ b < w.heap.size ∧ ∀ i (hi : i < l.length), w.cell? ⟨b, off + i * 2, none⟩ = some (.int .i64 l[i].1) ∧ w.cell? ⟨b, off + i * 2 + 1, none⟩ = some (.int .i64 l[i].2) := by
  obtain ⟨b, off, cap, rfl, h1, h2, h3, h4, h5⟩ := h.row.cells (f := spCs) (fun _ => rfl) hne
  exact ⟨b, off, cap, rfl, h1, h4, fun i hi => ⟨h5 i hi 0 (by omega), h5 i hi 1 (by omega)⟩⟩
set_option maxHeartbeats 4000000 in
set_option maxRecDepth 100000 in
theorem equalI_any {N M : Nat → Prop} {w : World} {v1 v2 : Value} {l m : List Nat} (h1 : Row N w v1 l.length 1 (intCs l)) (h2 : Row M w v2 m.length 1 (intCs m)) (hl : l.length ≤ 1000000000) (hm : m.length ≤ 1000000000) : Calls Tryd.prog 12 #[v1, v2] w (Eqs (decide (l = m)) w) := by
  obtain ⟨oa, ca, rfl⟩ := h1.slice
  obtain ⟨ob, cb, rfl⟩ := h2.slice
  have H1 := Lib.hid h1
  have H2 := Lib.hid h2
  have hlI : (l.length : Int) ≤ 1000000000 := by omega
  have hmI : (m.length : Int) ≤ 1000000000 := by omega
  clear h1 h2
  by_cases hlen : l.length = m.length
  · have hb : ((l.length : Int) == m.length) = true := by rw [hlen]; simp
    have hb' : ((l.length : Int) != m.length) = false := by rw [hlen]; simp
    have HLEN := Lib.hid hlen
    clear hlen
    go_enter Tryd.func12, Tryd.ntmps12
    go_wp2_with fail
    go_loopw [13] (fun s13 wx => ∃ j : Nat, j ≤ l.length ∧ s13 = .int .i64 j ∧ l.take j = m.take j ∧ Below w.heap.size w wx) (fun s13 _ => l.length - (intOf s13).toNat)
    case atStart => exact ⟨0, by omega, rfl, by simp, Below.refl _ _⟩
    case round =>
      rename World => Wa
      obtain ⟨j, hj, rfl, htk, hbw⟩ := hrel
      have HBW := Lib.hid hbw
      have HTK := Lib.hid htk
      by_cases hjl : j < l.length
      · have hjm : j < m.length := by have := HLEN.out; omega
        obtain ⟨b1, of1, c1, hv1, hc1, hz1, he1⟩ := ints_at H1.out (by omega)
        obtain ⟨b2, of2, c2, hv2, hc2, hz2, he2⟩ := ints_at H2.out (by omega)
        simp only [Value.slice.injEq, true_and] at hv1 hv2
        obtain ⟨rfl, rfl⟩ := hv1
        obtain ⟨rfl, rfl⟩ := hv2
        have hjI : (j : Int) < l.length := by omega
        have hjJ : (j : Int) < m.length := by omega
        have hcI : (l.length : Int) ≤ ca := by omega
        have hcJ : (m.length : Int) ≤ cb := by omega
        have hza1 : b1 < Wa.heap.size := Nat.lt_of_lt_of_le hz1 hbw.size
        have hza2 : b2 < Wa.heap.size := Nat.lt_of_lt_of_le hz2 hbw.size
        have y1 : Wa.cell? ⟨b1, of1 + j, none⟩ = some (.int .i64 l[j]) := (hbw.cell (p := ⟨b1, of1 + j, none⟩) hz1).trans (he1 j hjl)
        have y2 : Wa.cell? ⟨b2, of2 + j, none⟩ = some (.int .i64 m[j]) := (hbw.cell (p := ⟨b2, of2 + j, none⟩) hz2).trans (he2 j hjm)
        obtain ⟨x, hx⟩ : ∃ x, x = l[j] := ⟨_, rfl⟩
        obtain ⟨y, hy⟩ : ∃ y, y = m[j] := ⟨_, rfl⟩
        rw [← hx] at y1
        rw [← hy] at y2
        have HX := Lib.hid hx
        have HY := Lib.hid hy
        clear hx hy he1 he2 htk hbw
        by_cases hxy : x = y
        · subst hxy
          go_upto_region 6 with fail
          go_region
          go_wp2_with fail
          go_roundw
          case rel => exact ⟨j + 1, by omega, by go_num, take_same hjl hjm HTK.out (HX.out.symm.trans HY.out), HBW.out.drew⟩
          case measure => simp [intOf]; omega
        · have hne1 : ((x : Int) == y) = false := by simp; omega
          have hne2 : ((x : Int) != y) = true := by simp; omega
          have HNE := Lib.hid hxy
          clear hxy
          go_upto_region 6 with fail
          go_region
          go_wp2_with fail
          go_ret
          refine ⟨?_, HBW.out.drew⟩
          have : l ≠ m := fun e => HNE.out (by rw [HX.out, HY.out]; subst e; rfl)
          simp [this]
      · obtain rfl : j = l.length := by omega
        have he : l = m := by
          have h := HTK.out
          rw [List.take_length] at h
          rw [h, List.take_of_length_le (by have := HLEN.out; omega)]
        have HE := Lib.hid he
        clear he htk hbw
        go_wp2_with fail
        go_ret
        exact ⟨by simp [HE.out], HBW.out⟩
  · have hb : ((l.length : Int) == m.length) = false := by simp; omega
    have hb' : ((l.length : Int) != m.length) = true := by simp; omega
    have HLEN := Lib.hid hlen
    clear hlen
    go_enter Tryd.func12, Tryd.ntmps12
    go_wp2_with fail
    go_ret
    refine ⟨?_, Below.refl _ _⟩
    have : l ≠ m := fun e => HLEN.out (by rw [e])
    simp [this]
set_option maxHeartbeats 4000000 in
set_option maxRecDepth 100000 in
theorem equalS_any {N M : Nat → Prop} {w : World} {v1 v2 : Value} {l m : List (Int × Int)} (h1 : SpsAt N w v1 l) (h2 : SpsAt M w v2 m) (hl : l.length ≤ 1000000000) (hm : m.length ≤ 1000000000) : Calls Tryd.prog 14 #[v1, v2] w (Eqs (decide (l = m)) w) := by
  obtain ⟨oa, ca, rfl⟩ := h1.row.slice
  obtain ⟨ob, cb, rfl⟩ := h2.row.slice
  have H1 := Lib.hid h1
  have H2 := Lib.hid h2
  have hlI : (l.length : Int) ≤ 1000000000 := by omega
  have hmI : (m.length : Int) ≤ 1000000000 := by omega
  clear h1 h2
  by_cases hlen : l.length = m.length
  · have hb : ((l.length : Int) == m.length) = true := by rw [hlen]; simp
    have hb' : ((l.length : Int) != m.length) = false := by rw [hlen]; simp
    have HLEN := Lib.hid hlen
    clear hlen
    go_enter Tryd.func14, Tryd.ntmps14
    go_wp2_with fail
    go_loopw [13] (fun s13 wx => ∃ j : Nat, j ≤ l.length ∧ s13 = .int .i64 j ∧ l.take j = m.take j ∧ Below w.heap.size w wx) (fun s13 _ => l.length - (intOf s13).toNat)
    case atStart => exact ⟨0, by omega, rfl, by simp, Below.refl _ _⟩
    case round =>
      rename World => Wa
      obtain ⟨j, hj, rfl, htk, hbw⟩ := hrel
      have HBW := Lib.hid hbw
      have HTK := Lib.hid htk
      by_cases hjl : j < l.length
      · have hjm : j < m.length := by have := HLEN.out; omega
        obtain ⟨b1, of1, c1, hv1, hc1, hz1, he1⟩ := sps_at H1.out (by omega)
        obtain ⟨b2, of2, c2, hv2, hc2, hz2, he2⟩ := sps_at H2.out (by omega)
        simp only [Value.slice.injEq, true_and] at hv1 hv2
        obtain ⟨rfl, rfl⟩ := hv1
        obtain ⟨rfl, rfl⟩ := hv2
        have hjI : (j : Int) < l.length := by omega
        have hjJ : (j : Int) < m.length := by omega
        have hcI : (l.length : Int) ≤ ca := by omega
        have hcJ : (m.length : Int) ≤ cb := by omega
        have hza1 : b1 < Wa.heap.size := Nat.lt_of_lt_of_le hz1 hbw.size
        have hza2 : b2 < Wa.heap.size := Nat.lt_of_lt_of_le hz2 hbw.size
        have y1 : Wa.cell? ⟨b1, of1 + j * 2, none⟩ = some (.int .i64 l[j].1) := (hbw.cell (p := ⟨b1, of1 + j * 2, none⟩) hz1).trans (he1 j hjl).1
        have y1' : Wa.cell? ⟨b1, of1 + j * 2 + 1, none⟩ = some (.int .i64 l[j].2) := (hbw.cell (p := ⟨b1, of1 + j * 2 + 1, none⟩) hz1).trans (he1 j hjl).2
        have y2 : Wa.cell? ⟨b2, of2 + j * 2, none⟩ = some (.int .i64 m[j].1) := (hbw.cell (p := ⟨b2, of2 + j * 2, none⟩) hz2).trans (he2 j hjm).1
        have y2' : Wa.cell? ⟨b2, of2 + j * 2 + 1, none⟩ = some (.int .i64 m[j].2) := (hbw.cell (p := ⟨b2, of2 + j * 2 + 1, none⟩) hz2).trans (he2 j hjm).2
        obtain ⟨x, hx⟩ : ∃ x, x = l[j] := ⟨_, rfl⟩
        obtain ⟨y, hy⟩ : ∃ y, y = m[j] := ⟨_, rfl⟩
        rw [← hx] at y1 y1'
        rw [← hy] at y2 y2'
        obtain ⟨xa, xb⟩ := x
        obtain ⟨ya, yb⟩ := y
        have HX := Lib.hid hx
        have HY := Lib.hid hy
        simp only at y1 y1' y2 y2'
        clear hx hy he1 he2 htk hbw
        by_cases hxa : xa = ya
        · subst hxa
          by_cases hxb : xb = yb
          · subst hxb
            go_upto_region 6 with fail
            go_region
            go_wp2_with fail
            go_roundw
            case rel => exact ⟨j + 1, by omega, by go_num, take_same hjl hjm HTK.out (HX.out.symm.trans HY.out), HBW.out.drew⟩
            case measure => simp [intOf]; omega
          · have HNE := Lib.hid hxb
            go_upto_region 6 with fail
            go_region
            go_wp2_with fail
            go_ret
            refine ⟨?_, HBW.out.drew⟩
            have : l ≠ m := fun e => HNE.out (by have h := HX.out.trans (by subst e; exact HY.out.symm); simpa using h)
            simp [this]
        · have HNE := Lib.hid (show ¬ (xa = ya ∧ xb = yb) from fun e => hxa e.1)
          go_upto_region 6 with fail
          go_region
          go_wp2_with fail
          go_ret
          refine ⟨?_, HBW.out.drew⟩
          have : l ≠ m := fun e => HNE.out (by have h := HX.out.trans (by subst e; exact HY.out.symm); simpa using h)
          simp [this]
      · obtain rfl : j = l.length := by omega
        have he : l = m := by
          have h := HTK.out
          rw [List.take_length] at h
          rw [h, List.take_of_length_le (by have := HLEN.out; omega)]
        have HE := Lib.hid he
        clear he htk hbw
        go_wp2_with fail
        go_ret
        exact ⟨by simp [HE.out], HBW.out⟩
  · have hb : ((l.length : Int) == m.length) = false := by simp; omega
    have hb' : ((l.length : Int) != m.length) = true := by simp; omega
    have HLEN := Lib.hid hlen
    clear hlen
    go_enter Tryd.func14, Tryd.ntmps14
    go_wp2_with fail
    go_ret
    refine ⟨?_, Below.refl _ _⟩
    have : l ≠ m := fun e => HLEN.out (by rw [e])
    simp [this]
end Go.Proofs.YtnhjakdmbfadlaaDoor

/- slices.Grow of no ints, slices.Concat of two slices of ints, slices.Reverse of ints. -/
namespace Go.Proofs.YtnhjakdmbfadlaaDoor
open Go.RowKit Wy Mem Grow

theorem run_append_make {P : Program} {w : World} (t u ty e : TypeId) (i : TypeInfo) (z : Value) (ht : P.underlying t = some (.slice e)) (hu : P.underlying u = some (.int .i64)) (hi : P.info? e = some i) (hz : i.zero = some z) (hs : i.size = 1)
    (n : Nat) (h0 : 0 < n) (h63 : (n : Int) ≤ 9223372036854775807) (h48 : n * i.bytes ≤ 281474976710656) :
    (Builtin.append_ #[t, u] ty #[.slice none 0 0, .int .i64 n]).run P w =
      .ok (.slice (some ⟨w.heap.size, 0, none⟩) n (grownCap w n 0 e)) (w.drew.alloc (.cells (Builtin.zeroCells z.cells n ++ Builtin.zeroCells z.cells (grownCap w n 0 e - n)) e)) := by
  have hn : n ≠ 0 := by omega
  have h63' : ¬ (9223372036854775807 < (n : Int)) := by omega
  have h63'' : ¬ (9223372036854775807 < max (n : Int) 0) := by omega
  have hneg : ¬ ((n : Int) < 0) := by omega
  have h48' : ¬ (281474976710656 < Builtin.nextslicecap n 0 * i.bytes) := by rw [nextslicecap_zero h0]; omega
  have h48'' : ¬ (281474976710656 < (n : Int) * (i.bytes : Int)) := by
    have : ((n * i.bytes : Nat) : Int) ≤ 281474976710656 := by omega
    rw [Int.natCast_mul] at this
    omega
  have hw : IntKind.i64.wrap (n : Int) = n := by
    rw [IntKind.wrap_i64]
    omega
  simp [Builtin.append_, run_underlying ht, run_underlying hu, sizeOf, typeInfo, zeroValue, hi, hz, hs, Builtin.lenOf, hn, h63', h63'', h48', h48'', hneg, hw, asInt, asIntOf, Question.forced, run_firstCells_none, newRow, grownCap]
theorem wp_append_run {P : Program} {w w' : World} {o : Oper} {a : Act} {K : Act → World → Prop} {Q : Exit → Act → World → Prop} (s x : Operand) (t u : TypeId) {v y v' : Value}
    (ho : o.op = .call { callee := .builtin .append, args := #[s, x], argTypes := #[t, u] }) (hs : a.eval s = v) (hx : a.eval x = y) (hr : (Builtin.append_ #[t, u] o.type #[v, y]).run P w = .ok v' w') (h : K (a.put o.dst v') w') : o.wp P a w K Q := by
  unfold Oper.wp execOp
  simp only [ho, resolve, invoke, builtin, Sem.run_bind, Sem.run_pure, Result.andThen_ok, List.map_toArray, List.map_cons, List.map_nil, hs, hx, hr]
  exact h
theorem wpList_append_run {P : Program} {w w' : World} {ops : Array Oper} {rest : List Oper} {o : Oper} {a : Act} {Q : Exit → Act → World → Prop} (hgd : o.guard = none) (s x : Operand) (t u : TypeId) {v y v' : Value}
    (ho : o.op = .call { callee := .builtin .append, args := #[s, x], argTypes := #[t, u] }) (hs : a.eval s = v) (hx : a.eval x = y) (hr : (Builtin.append_ #[t, u] o.type #[v, y]).run P w = .ok v' w') (h : wpList P ops Q rest (a.put o.dst v') w') : wpList P ops Q (o :: rest) a w :=
  wpList_plain hgd fun _ hK => wp_append_run s x t u ho hs hx hr (hK _ _ h)
/-- what Grow hands back: room for n -/
def Grn (w : World) (e : Ending) (w' : World) : Prop := ∃ v, e = .returned v ∧ w'.ownsRow w.heap.size 3 1 v 0 [] ∧ Below w.heap.size w w'
set_option maxHeartbeats 4000000 in
set_option maxRecDepth 100000 in
theorem grow_any (n : Nat) (hn : n ≤ 1000000) (w : World) : Calls Tryd.prog 33 #[.slice none 0 0, .int .i64 n] w (Grn w) := by
  have hnI : (n : Int) ≤ 1000000 := by omega
  have hn0 : (0 : Int) ≤ n := by omega
  by_cases h0 : n = 0
  · subst h0
    go_enter Tryd.func33, Tryd.ntmps33
    go_wp2_with fail
    exact bodyPost_ret (v := .slice none 0 0) (by simp [results, Tryd.results33, go_sem]) rfl ⟨_, rfl, World.ownsRow_nil _ _ _ _, Below.refl _ _⟩
  · obtain ⟨i0, hi0, hz0, hz1, hz2⟩ := info_parts infoI
    have hpos : (0 : Int) < n := by omega
    have hr := run_append_make (P := Tryd.prog) (w := w) 35 3 35 3 i0 _ Tryd.underlying35 Tryd.underlying3 hi0 hz0 hz1 n (by omega) (by omega) (by rw [hz2]; omega)
    have fin : Grn w (.returned (.slice (some ⟨w.heap.size, 0, none⟩) 0 (grownCap w n 0 3))) (w.drew.alloc (.cells (Builtin.zeroCells (Value.int .i64 0).cells n ++ Builtin.zeroCells (Value.int .i64 0).cells (grownCap w n 0 3 - n)) 3)) := by
      have hc := grownCap_ge w n 0 3
      have hm := grownCap_le_maxLen w n 0 3 (by unfold maxLen; omega)
      refine ⟨_, rfl, ⟨rfl, .inr ⟨w.heap.size, _, _, rfl, Nat.le_refl _, heap_alloc_new w.drew _, Nat.zero_le _, hm, ?_, by simp⟩⟩, (Below.refl _ _).drew.alloc (Nat.le_refl _) _⟩
      simp only [Array.size_append, size_zeroCells]
      simp [Value.cells]
      omega
    have hcap : (0 : Int) ≤ grownCap w n 0 3 := by omega
    have HFIN := Lib.hid fin
    have HR := Lib.hid hr
    clear fin h0 hr
    go_enter Tryd.func33, Tryd.ntmps33
    go_wp2_with (at_builtin; refine wpList_append_run rfl _ _ 35 3 rfl rfl rfl HR.out ?_)
    exact bodyPost_ret (v := .slice (some ⟨w.heap.size, 0, none⟩) 0 (grownCap w n 0 3)) (by simp [results, Tryd.results33, go_sem]) rfl HFIN.out
/-- two slices of ints, one after the other -/
def Cct (cs : List Value) (w : World) (e : Ending) (w' : World) : Prop := ∃ v, e = .returned v ∧ w'.ownsRow w.heap.size 3 1 v cs.length cs ∧ Below w.heap.size w w'
theorem srcRow {N : Nat → Prop} {w : World} {v : Value} {n : Nat} {cs : List Value} (h : Row N w v n 1 cs) : SrcAt w v n cs := src_row h
set_option maxHeartbeats 4000000 in
set_option maxRecDepth 100000 in
theorem concat_any {N : Nat → Prop} {w : World} {b : Nat} {T : TypeId} {v1 v2 : Value} {p q : List Nat} (hb : Blk w b #[v1, v2] T) (h1 : Row N w v1 p.length 1 (intCs p)) (h2 : Row N w v2 q.length 1 (intCs q)) (hp : p.length ≤ 1000) (hq : q.length ≤ 1000) :
    Calls Tryd.prog 20 #[.slice (some ⟨b, 0, none⟩) 2 2] w (Cct (intCs p ++ intCs q) w) := by
  obtain ⟨o1, c1, rfl⟩ := h1.slice
  obtain ⟨o2, c2, rfl⟩ := h2.slice
  have b0 := hb.cell 0
  have b1 := hb.cell 1
  have bz := hb.lt
  obtain ⟨i0, hi0, hz0, hz1, hz2⟩ := info_parts infoI
  have H1 := Lib.hid h1
  have H2 := Lib.hid h2
  have HB := Lib.hid hb
  have hg := fun w => grow_any (p.length + q.length) (by omega) w
  have HG := Lib.hid hg
  have hcp : (intCs p).length = p.length := by simp [intCs]
  have hcq : (intCs q).length = q.length := by simp [intCs]
  have HCP := Lib.hid hcp
  have HCQ := Lib.hid hcq
  obtain ⟨P, hP⟩ : ∃ P, P = p.length := ⟨_, rfl⟩
  obtain ⟨R, hR⟩ : ∃ R, R = q.length := ⟨_, rfl⟩
  rw [← hP] at HG H1 HCP hp b0 HB
  rw [← hR] at HG H2 HCQ hq b1 HB
  rw [← hP] at b1
  rw [← hR] at b0
  have hg' : ∀ w, Calls Tryd.prog 33 #[.slice none 0 0, .int .i64 ((P : Int) + R)] w (Grn w) := HG.out
  have HG' := Lib.hid hg'
  have hone : ∀ l : List Nat, ∀ u ∈ intCs l, u.oneCell' = true := by
    intro l u hu
    obtain ⟨x, -, rfl⟩ := List.mem_map.1 hu
    rfl
  have HONE := Lib.hid hone
  clear HG hone hg'
  have hPI : (P : Int) ≤ 1000 := by omega
  have hRI : (R : Int) ≤ 1000 := by omega
  clear h1 h2 hb hg hcp hcq hP hR
  go_enter Tryd.func20, Tryd.ntmps20
  go_wp2_with fail
  go_loopw [3, 11] (fun s3 s11 wx => wx = w ∧ ((s11 = .int .i64 0 ∧ s3 = .int .i64 0) ∨ (s11 = .int .i64 1 ∧ s3 = .int .i64 P) ∨ (s11 = .int .i64 2 ∧ s3 = .int .i64 ((P : Int) + R)))) (fun _ s11 _ => 2 - (intOf s11).toNat)
  case atStart => exact ⟨rfl, .inl ⟨rfl, rfl⟩⟩
  case round =>
    obtain ⟨rfl, hrel⟩ := hrel
    rcases hrel with ⟨rfl, rfl⟩ | ⟨rfl, rfl⟩ | ⟨rfl, rfl⟩
    · have h0 : (0 : Int) ≤ P := by omega
      go_wp2_with fail
      go_roundw
      case rel => exact ⟨trivial, .inr (.inl ⟨rfl, rfl⟩)⟩
      case measure => simp [intOf]
    · have h0 : (0 : Int) ≤ P := by omega
      have h1 : (0 : Int) ≤ R := by omega
      go_wp2_with fail
      go_roundw
      case rel => exact ⟨trivial, .inr (.inr ⟨rfl, rfl⟩)⟩
      case measure => simp [intOf]
    · go_wp2_with (go_at_call 33; go_loud (refine (HG'.out _).mono ?_; rintro ee w5 ⟨v5, rfl, ho5, hb5⟩; have HO5 := Lib.hid ho5; have HB5 := Lib.hid hb5; clear ho5 hb5))
      go_loopw [6, 27] (fun s6 s27 wx => Below wr.heap.size wr wx ∧ ((s27 = .int .i64 0 ∧ wx.ownsRow wr.heap.size 3 1 s6 0 []) ∨ (s27 = .int .i64 1 ∧ wx.ownsRow wr.heap.size 3 1 s6 P (intCs p)) ∨ (s27 = .int .i64 2 ∧ wx.ownsRow wr.heap.size 3 1 s6 (P + R) (intCs p ++ intCs q)))) (fun _ s27 _ => 2 - (intOf s27).toNat)
      case atStart => exact ⟨HB5.out, .inl ⟨rfl, HO5.out⟩⟩
      case round =>
        rename World => wa
        obtain ⟨hba, hrel⟩ := hrel
        have hbz : b < wa.heap.size := Nat.lt_of_lt_of_le bz hba.size
        have a0 := (hba.cell (p := ⟨b, 0, none⟩) bz).trans b0
        have a1 := (hba.cell (p := ⟨b, 1, none⟩) bz).trans b1
        have HBA := Lib.hid hba
        clear hba
        rcases hrel with ⟨rfl, ho⟩ | ⟨rfl, ho⟩ | ⟨rfl, ho⟩
        · obtain ⟨og, cg, rfl⟩ := own_slice ho
          have HO := Lib.hid ho
          clear ho
          go_wp2_with (at_builtin; go_loud (refine wpList_append_row rfl _ _ 35 rfl Tryd.underlying35 hi0 hz0 hz1 hz2 rfl (.slice og 0 cg) 0 [] rfl HO.out _ P (intCs p) rfl (src_row (RowGo H1.out (Kept.of_below HBA.out (fun _ => False)) (fun _ _ h => ⟨id, h⟩))) (by rw [HCP.out]; omega) (HONE.out p) (by unfold maxLen; omega) (by omega) HBA.out.size ?_; intro v' w4 hown' hgrow h3' h4'; have HK := Lib.hid (And.intro hown' (Kept.belowOf ((Kept.of_below HBA.out (fun q => (Value.slice og 0 cg).ownBlock = some q)).trans (grownK hgrow)) (Nat.le_refl _) (fun q hq e => by have := (HO.out.lt q e).1; omega))); clear hown' hgrow h3' h4'))
          go_roundw
          case rel => exact ⟨HK.out.2, .inr (.inl ⟨rfl, by have := HK.out.1; rwa [Nat.zero_add] at this⟩)⟩
          case measure => simp [intOf]
        · obtain ⟨og, cg, rfl⟩ := own_slice ho
          have HO := Lib.hid ho
          clear ho
          go_wp2_with (at_builtin; go_loud (refine wpList_append_row rfl _ _ 35 rfl Tryd.underlying35 hi0 hz0 hz1 hz2 rfl (.slice og P cg) P (intCs p) rfl HO.out _ R (intCs q) rfl (src_row (RowGo H2.out (Kept.of_below HBA.out (fun _ => False)) (fun _ _ h => ⟨id, h⟩))) (by rw [HCQ.out]; omega) (HONE.out q) (by unfold maxLen; omega) (by omega) HBA.out.size ?_; intro v' w4 hown' hgrow h3' h4'; have HK := Lib.hid (And.intro hown' (Kept.belowOf ((Kept.of_below HBA.out (fun q => (Value.slice og P cg).ownBlock = some q)).trans (grownK hgrow)) (Nat.le_refl _) (fun q hq e => by have := (HO.out.lt q e).1; omega))); clear hown' hgrow h3' h4'))
          go_roundw
          case rel => exact ⟨HK.out.2, .inr (.inr ⟨rfl, HK.out.1⟩)⟩
          case measure => simp [intOf]
        · obtain ⟨og, cg, rfl⟩ := own_slice ho
          have hfin : Cct (intCs p ++ intCs q) wr (.returned (.slice og (P + R) cg)) wa := ⟨_, rfl, by rw [List.length_append, HCP.out, HCQ.out]; exact ho, HBA.out⟩
          have HFIN := Lib.hid hfin
          clear hfin ho
          go_wp2_with fail
          exact bodyPost_ret (v := .slice og (P + R) cg) (by simp [results, Tryd.results20, go_sem]) rfl HFIN.out
/-- the first k and the last k exchanged -/
def revK (l : List Nat) (k : Nat) : List Nat := (List.range l.length).map fun t => if t < k ∨ l.length - k ≤ t then l.getD (l.length - 1 - t) 0 else l.getD t 0
theorem revK_len (l : List Nat) (k : Nat) : (revK l k).length = l.length := by simp [revK]
theorem revK_zero (l : List Nat) : revK l 0 = l := by
  apply List.ext_getElem
  · simp [revK]
  · intro i h1 h2
    simp [revK, List.getD_eq_getElem?_getD, h2, show ¬ l.length ≤ i by omega]
theorem revK_end {l : List Nat} {k : Nat} (h : l.length ≤ 2 * k + 1) : revK l k = l.reverse := by
  apply List.ext_getElem
  · simp [revK]
  · intro i h1 h2
    simp only [revK, List.length_map, List.length_range] at h1
    simp only [revK, List.getElem_map, List.getElem_range, List.getElem_reverse, List.getD_eq_getElem?_getD]
    by_cases hc : i < k ∨ l.length - k ≤ i
    · rw [if_pos hc, List.getElem?_eq_getElem (by omega)]
      simp
    · rw [if_neg hc, List.getElem?_eq_getElem (by omega)]
      simp only [Option.getD_some]
      congr 1
      omega
theorem revK_at {l : List Nat} {k i : Nat} (h1 : k ≤ i) (h2 : i < l.length - k) (h3 : i < l.length) : (revK l k)[i]? = some (l.getD i 0) := by
  simp only [revK, List.getElem?_map, List.getElem?_range h3, Option.map_some]
  rw [if_neg (by omega)]
theorem revK_succ {l : List Nat} {k : Nat} (h : k < l.length - 1 - k) : ((revK l k).set k (l.getD (l.length - 1 - k) 0)).set (l.length - 1 - k) (l.getD k 0) = revK l (k + 1) := by
  apply List.ext_getElem
  · simp [revK]
  · intro i h1 h2
    simp only [List.length_set, revK_len] at h1
    simp only [List.getElem_set, revK, List.getElem_map, List.getElem_range]
    by_cases e1 : l.length - 1 - k = i
    · subst e1
      rw [if_pos rfl, if_pos (by omega)]
      congr 1
      omega
    · rw [if_neg e1]
      by_cases e2 : k = i
      · subst e2
        rw [if_pos rfl, if_pos (by omega)]
      · rw [if_neg e2]
        by_cases hc : i < k ∨ l.length - k ≤ i
        · rw [if_pos hc, if_pos (by omega)]
        · rw [if_neg hc, if_neg (by omega)]
theorem intCs_set (l : List Nat) (i x : Nat) : (intCs l).set i (.int .i64 x) = intCs (l.set i x) := by
  unfold intCs
  rw [List.map_set]
def Rvs (B : Nat) (v : Value) (l : List Nat) (w : World) (e : Ending) (w' : World) : Prop := e = .returned (.tuple #[]) ∧ w'.ownsRow B 3 1 v l.length (intCs l.reverse) ∧ Kept (fun q => v.ownBlock = some q) w w'
set_option maxHeartbeats 4000000 in
set_option maxRecDepth 100000 in
theorem reverse_any {B : Nat} {w : World} {v : Value} {l : List Nat} (h : w.ownsRow B 3 1 v l.length (intCs l)) (hl : l.length ≤ 1000) :
    Calls Tryd.prog 19 #[v] w (Rvs B v l w) := by
  obtain ⟨o, c, rfl⟩ := own_slice h
  have H := Lib.hid h
  have hlI : (l.length : Int) ≤ 1000 := by omega
  obtain ⟨n, hn⟩ : ∃ n, n = l.length := ⟨_, rfl⟩
  have HN := Lib.hid hn
  rw [← hn] at H hlI hl ⊢
  clear h hn
  go_enter Tryd.func19, Tryd.ntmps19
  go_wp2_with fail
  go_loopw [2, 3] (fun s2 s3 wx => ∃ k : Nat, s2 = .int .i64 k ∧ s3 = .int .i64 ((n : Int) - 1 - k) ∧ (k = 0 ∨ 2 * k ≤ n) ∧ wx.ownsRow B 3 1 (.slice o n c) n (intCs (revK l k)) ∧ Kept (fun q => (Value.slice o n c).ownBlock = some q) w wx) (fun s2 _ _ => n - (intOf s2).toNat)
  case atStart => exact ⟨0, rfl, by simp, .inl rfl, by rw [revK_zero]; exact H.out, Kept.refl _ _⟩
  case round =>
    rename World => wa
    obtain ⟨k, rfl, rfl, hk, ho, hkept⟩ := hrel
    by_cases hlt : 2 * k + 1 < n
    · have hkI : (k : Int) < (n : Int) - 1 - k := by omega
      have HO := Lib.hid ho
      have HKE := Lib.hid hkept
      obtain ⟨g, rfl⟩ : ∃ g, o = some ⟨g, 0, none⟩ := by
        rcases ho.2 with ⟨_, h0⟩ | ⟨g, c', cur, e, -⟩
        · omega
        · simp only [Value.slice.injEq, true_and] at e; exact ⟨g, e.1⟩
      obtain ⟨j, hj⟩ : ∃ j : Nat, (n : Int) - 1 - k = j := ⟨n - 1 - k, by omega⟩
      have hjn : j = n - 1 - k := by omega
      rw [hj]
      rw [hj] at hkI
      have hln := HN.out
      have hck : wa.cell? ⟨g, k, none⟩ = some (.int .i64 (l.getD k 0 : Nat)) := by
        rw [ho.cellAt k (by omega)]
        unfold intCs
        rw [List.getElem?_map, revK_at (Nat.le_refl _) (by omega) (by omega)]
        rfl
      have hcj : wa.cell? ⟨g, j, none⟩ = some (.int .i64 (l.getD j 0 : Nat)) := by
        rw [ho.cellAt j (by omega)]
        unfold intCs
        rw [List.getElem?_map, revK_at (by omega) (by omega) (by omega)]
        rfl
      have hfz : ∀ i, wa.frozen? ⟨g, i, none⟩ = false := fun i => ho.frozenAt i
      have hgz : g < wa.heap.size := (ho.lt g rfl).2
      have hjI : (j : Int) < n := by omega
      have hkn : (k : Int) < n := by omega
      have hkj : k ≠ j := by omega
      obtain ⟨x, hx⟩ : ∃ x, x = l.getD k 0 := ⟨_, rfl⟩
      obtain ⟨y, hy⟩ : ∃ y, y = l.getD j 0 := ⟨_, rfl⟩
      rw [← hx] at hck
      rw [← hy] at hcj
      have fin : ∀ w', w' = (wa.drew.setCell ⟨g, k, none⟩ (.int .i64 y)).setCell ⟨g, j, none⟩ (.int .i64 x) → w'.ownsRow B 3 1 (.slice (some ⟨g, 0, none⟩) n c) n (intCs (revK l (k + 1))) ∧ Kept (fun q => (Value.slice (some ⟨g, 0, none⟩) n c).ownBlock = some q) w w' := by
        intro w' hw'
        have o1 := ownGo ho ((Kept.refl (fun _ => False) wa).drew) (fun _ _ => id)
        have o2 := ((o1.stored k (.int .i64 y)).1.stored j (.int .i64 x)).1
        rw [intCs_set, intCs_set] at o2
        have e := revK_succ (l := l) (k := k) (by omega)
        rw [show l.length - 1 - k = j by omega, ← hx, ← hy] at e
        rw [e] at o2
        subst hw'
        exact ⟨o2, hkept.trans ((((Kept.refl (fun q => (Value.slice (some ⟨g, 0, none⟩) n c).ownBlock = some q) wa).drew).setCell (p := ⟨g, k, none⟩) (fun _ => rfl) _).setCell (p := ⟨g, j, none⟩) (fun _ => rfl) _)⟩
      have FIN := Lib.hid fin
      have HJN := Lib.hid (And.intro hj hlt)
      clear fin ho hkept hk hln hx hy hjn hlt hj HO HKE H
      go_upto_region 3 with fail
      apply wp_flowX ?hm ?hok [some _, some _, some _, some _, some _, some _, some _, some _, some _, some _, some _, some _, some _, some undef, some _, some undef] (fun S _ w' => (S 13 = false → w' = wa.drew) ∧ (S 13 = true → S 15 = false → w' = wa.drew.setCell ⟨g, k, none⟩ (.int .i64 y)) ∧ (S 15 = true → w' = (wa.drew.setCell ⟨g, k, none⟩ (.int .i64 y)).setCell ⟨g, j, none⟩ (.int .i64 x))) ?hw ?h
      case hm => rfl
      case hok => kernel_rfl
      case hw => exact ⟨fun _ => rfl, fun e => (by cases e), fun e => (by cases e)⟩
      case h =>
        intro u
        iterate 6
          apply flowX_read rfl
          case hs => exact fun _ _ _ h => h
          case h =>
            intro S w hS hW K hK
            clear hS hW
            go_wp2_with fail
            exact hK
          case' k => simp only [Act.put, List.setIfInBounds_toArray, List.set_cons_zero, List.set_cons_succ, Nat.reduceAdd]
        iterate 6
          apply flowX_read rfl
          case hs => exact fun _ _ _ h => h
          case h =>
            intro S w hS hW K hK
            have hw := hW.1 (hS.last 13 (by kernel_rfl))
            subst hw
            clear hS hW
            go_wp2_with fail
            exact hK
          case' k => simp only [Act.put, List.setIfInBounds_toArray, List.set_cons_zero, List.set_cons_succ, Nat.reduceAdd]
        apply flowX_read rfl
        case hs => exact fun _ _ _ h => h
        case h =>
          intro S w hS hW K hK
          clear hS hW
          go_wp2_with fail
          exact hK
        case' k => simp only [Act.put, List.setIfInBounds_toArray, List.set_cons_zero, List.set_cons_succ, Nat.reduceAdd]
        apply flowX_yes rfl
        case h =>
          intro S w hS hW K hK
          have hw := hW.1 hS.new
          have h15 := hS.last 15 (by kernel_rfl)
          subst hw
          have hK' := hK _ ⟨fun e => by simp [putS] at e, fun _ _ => rfl, fun e => Bool.noConfusion (h15.symm.trans e)⟩
          have HK := Lib.hid hK'
          clear hS hW hK hK' h15
          go_wp2_with fail
          exact HK.out
        case' k => simp only [Act.put, List.setIfInBounds_toArray, List.set_cons_zero, List.set_cons_succ, Nat.reduceAdd]
        apply flowX_read rfl
        case hs => exact fun _ _ _ h => h
        case h =>
          intro S w hS hW K hK
          clear hS hW
          go_wp2_with fail
          exact hK
        case' k => simp only [Act.put, List.setIfInBounds_toArray, List.set_cons_zero, List.set_cons_succ, Nat.reduceAdd]
        apply flowX_yes rfl
        case h =>
          intro S w hS hW K hK
          have h13 := hS.deps 13 (by kernel_rfl)
          have hw := hW.2.1 h13 hS.new
          subst hw
          have hK' := hK _ ⟨fun e => Bool.noConfusion (h13.symm.trans e), fun _ e => (by simp [putS] at e), fun _ => rfl⟩
          have HK := Lib.hid hK'
          clear hS hW hK hK' h13
          go_wp2_with fail
          exact HK.out
        case' k => simp only [Act.put, List.setIfInBounds_toArray, List.set_cons_zero, List.set_cons_succ, Nat.reduceAdd]
        refine flowX_end ?_
        intro S w' hS hW
        have hw := hW.2.2 (hS 15 (by decide))
        clear hW hS
        have hF := FIN.out w' hw
        have HF := Lib.hid hF
        clear hF hw
        go_wp2_with fail
        go_roundw
        case rel =>
          have := HJN.out
          exact ⟨k + 1, by go_num, by congr 1; omega, .inr (by omega), HF.out⟩
        case measure =>
          have := HJN.out
          simp [intOf]
          omega
    · have hkI : (n : Int) - 1 - k ≤ k := by omega
      have hln := HN.out
      rw [revK_end (by omega)] at ho
      have hfin : Rvs B (.slice o n c) l w (.returned (.tuple #[])) wa := ⟨rfl, by rw [← hln]; exact ho, hkept⟩
      have HFIN := Lib.hid hfin
      clear hfin ho hkept hk hln H
      go_wp2_with fail
      exact bodyPost_ret (v := .tuple #[]) (by simp [results, Tryd.results19, go_sem]) rfl HFIN.out
end Go.Proofs.YtnhjakdmbfadlaaDoor
