/- Parts of the proof: RdR. Conditions: none. -/
import Derived.Test.YtnhjakdmbfadlaaGreatDoorL22
import Derived.Test.YtnhjakdmbfadlaaGreatDoorL27
import Derived.Test.YtnhjakdmbfadlaaGreatDoorL26
import Derived.Test.YtnhjakdmbfadlaaGreatDoorL31
import Derived.Deep.LoopGhost
set_option linter.all false
/- The reference's reader. -/
namespace Go.Proofs.YtnhjakdmbfadlaaGreatDoor
open Go.RowKit Wy Mem Grow

/-- what a round finds -/
def RdInv (B rb : Nat) (s : ByteArray) (t : Nd) (wI : World) (n : Nat) (a : Act) (w : World) : Prop := ∃ (l : List Value) (v : Value) (xs : List OpV) (i k : Nat) (st : List Wy.Op), a = ⟨l.toArray, []⟩ ∧ l.length = 177 ∧ l[0]? = some (.string s) ∧ l[2]? = some (.pointer (some ⟨rb, 0, none⟩)) ∧ l[4]? = some v ∧ l[5]? = some (.int .i64 i) ∧
  StkAt 155 70 B w v st xs ∧ st ≠ [] ∧ wgt st ≤ i + 1 ∧ i ≤ s.size ∧ readM s k i st = some t ∧ n = s.size - i ∧ Below B wI w
/-- what it leaves behind -/
def RdOut (B rb : Nat) (s : ByteArray) (t : Nd) (wI : World) (a : Act) (w : World) : Prop := ∃ (l : List Value) (v : Value) (xs : List OpV) (o : Wy.Op), a = ⟨l.toArray, []⟩ ∧ l.length = 177 ∧ l[0]? = some (.string s) ∧ l[2]? = some (.pointer (some ⟨rb, 0, none⟩)) ∧ l[4]? = some v ∧
  StkAt 155 70 B w v [o] xs ∧ t = wholeM o ∧ wgt [o] ≤ s.size + 1 ∧ Below B wI w
theorem stk_form {B : Nat} {w : World} {v : Value} {st : List Wy.Op} {xs : List OpV} (h : StkAt 155 70 B w v st xs) (hne : st ≠ []) : ∃ g c, v = .slice (some ⟨g, 0, none⟩) st.length c := by
  rcases h.row.2 with ⟨_, h0⟩ | ⟨g, c, cur, rfl, -⟩
  · exact absurd (List.eq_nil_of_length_eq_zero h0) hne
  · exact ⟨g, c, rfl⟩
theorem stk_split {B : Nat} {w : World} {v : Value} {st : List Wy.Op} {xs : List OpV} (h : StkAt 155 70 B w v st xs) (hne : st ≠ []) : ∃ ys x, xs = ys ++ [x] := by
  have hl := h.len
  have : xs ≠ [] := fun e => by subst e; simp at hl; exact hne (List.eq_nil_of_length_eq_zero hl.symm)
  exact ⟨xs.dropLast, xs.getLast this, (List.dropLast_concat_getLast this).symm⟩
theorem readM_succ (s : ByteArray) (k i : Nat) (st : List Wy.Op) : readM s (k + 1) i st = if i < s.size then (match stepM s i st with | none => none | some (j, st') => readM s k j st') else (match st with | [o] => some (wholeM o) | _ => none) := rfl
theorem topM_concat (pre : List Wy.Op) (o : Wy.Op) : topM (pre ++ [o]) = o := by unfold topM; simp
set_option maxHeartbeats 8000000 in
set_option maxRecDepth 100000 in
theorem rd_exit {rb i : Nat} {s : ByteArray} {v : Value} {W : World} {J : Act → World → Prop} {Q : Exit → Act → World → Prop} (e : Nat → Value) (hi : ¬ i < s.size) (hs : s.size ≤ 1024)
    (hJ : ∀ l : List Value, l.length = 177 → l[0]? = some (.string s) → l[2]? = some (.pointer (some ⟨rb, 0, none⟩)) → l[4]? = some v → Q (.exit 0) ⟨l.toArray, []⟩ W) :
    Code.wp Tryz.prog (rdC [1, 1, 1, 0, 0, 0]) (Exit.then J Q) ⟨#[.string s, e 1, .pointer (some ⟨rb, 0, none⟩), e 3, v, .int .i64 i, e 6, e 7, e 8, e 9, e 10, e 11, e 12, e 13, e 14, e 15, e 16, e 17, e 18, e 19, e 20, e 21, e 22, e 23, e 24, e 25, e 26, e 27, e 28, e 29, e 30, e 31, e 32, e 33, e 34, e 35, e 36, e 37, e 38, e 39, e 40, e 41, e 42, e 43, e 44, e 45, e 46, e 47, e 48, e 49, e 50, e 51, e 52, e 53, e 54, e 55, e 56, e 57, e 58, e 59, e 60, e 61, e 62, e 63, e 64, e 65, e 66, e 67, e 68, e 69, e 70, e 71, e 72, e 73, e 74, e 75, e 76, e 77, e 78, e 79, e 80, e 81, e 82, e 83, e 84, e 85, e 86, e 87, e 88, e 89, e 90, e 91, e 92, e 93, e 94, e 95, e 96, e 97, e 98, e 99, e 100, e 101, e 102, e 103, e 104, e 105, e 106, e 107, e 108, e 109, e 110, e 111, e 112, e 113, e 114, e 115, e 116, e 117, e 118, e 119, e 120, e 121, e 122, e 123, e 124, e 125, e 126, e 127, e 128, e 129, e 130, e 131, e 132, e 133, e 134, e 135, e 136, e 137, e 138, e 139, e 140, e 141, e 142, e 143, e 144, e 145, e 146, e 147, e 148, e 149, e 150, e 151, e 152, e 153, e 154, e 155, e 156, e 157, e 158, e 159, e 160, e 161, e 162, e 163, e 164, e 165, e 166, e 167, e 168, e 169, e 170, e 171, e 172, e 173, e 174, e 175, e 176], []⟩ W := by
  have hsI : (s.size : Int) ≤ 1024 := by omega
  have hiN : decide (i < s.size) = false := decide_eq_false hi
  have HJ := Lib.hid hJ
  clear hJ hi hs
  conv => arg 2; whnf
  go_wp2_with fail
  refine HJ.out _ ?_ ?_ ?_ ?_ <;> rfl
theorem rd_round {B rb n : Nat} {s : ByteArray} {t : Nd} {wI : World} {Q : Exit → Act → World → Prop} (hs : s.size ≤ 1024) (hBI : B ≤ wI.heap.size) {a : Act} {w : World} (hI : RdInv B rb s t wI n a w) (hQ : ∀ a' w', RdOut B rb s t wI a' w' → Q (.exit 0) a' w') :
    Code.wp Tryz.prog (rdC [1, 1, 1, 0, 0, 0]) (Exit.then (fun a' w' => ∃ n', n' < n ∧ RdInv B rb s t wI n' a' w') Q) a w := by
  obtain ⟨l, v, xs, i, k, st, rfl, hl, h0, h2, h4, h5, hst, hne, hwg, his, hrd, hn, hb⟩ := hI
  obtain ⟨e, rfl⟩ := frame177 hl
  have h0 := Option.some.inj h0
  have h2 := Option.some.inj h2
  have h4 := Option.some.inj h4
  have h5 := Option.some.inj h5
  rw [h0, h2, h4, h5]
  cases k with
  | zero => rw [readM] at hrd; cases hrd
  | succ k =>
    rw [readM_succ] at hrd
    by_cases hi : i < s.size
    · rw [if_pos hi] at hrd
      cases hstep : stepM s i st with
      | none => rw [hstep] at hrd; cases hrd
      | some p =>
        obtain ⟨j, st'⟩ := p
        rw [hstep] at hrd
        simp only at hrd
        have hlt := stepM_lt hstep hi
        have hwg' := stepM_wgt hstep hi hne
        have hB0 : B ≤ w.heap.size := by have := hb.size; omega
        have hJ : ∀ a' w', RdNext B rb s j st' w a' w' → ∃ n', n' < n ∧ RdInv B rb s t wI n' a' w' := by
          intro a' w' hnx
          obtain ⟨l, v, xs, e1, e2, e3, e4, e5, e6, e7, e8⟩ := hnx
          exact ⟨s.size - j, by omega, l, v, xs, j, k, st', e1, e2, e3, e4, e5, e6, e7, hwg'.2, by omega, hlt.2, hrd, rfl, hb.trans e8⟩
        obtain ⟨g0, c0, rfl⟩ := stk_form hst hne
        obtain ⟨ys, x, rfl⟩ := stk_split hst hne
        obtain ⟨pre, o, rfl⟩ : ∃ pre o, st = pre ++ [o] := ⟨_, _, top_split hne⟩
        have hsplit := wgt_split hne
        rw [List.dropLast_concat, topM_concat] at hsplit
        have hpl := wgt_len pre
        have hlen : (pre ++ [o]).length = pre.length + 1 := by simp
        rw [hlen] at hst ⊢
        unfold stepM at hstep
        by_cases b1 : byteAt s i = 124
        · rw [if_pos b1, List.dropLast_concat, topM_concat] at hstep
          simp only [Option.some.injEq, Prod.mk.injEq] at hstep
          obtain ⟨rfl, rfl⟩ := hstep
          exact rd_bar e hi hs b1 hst rfl (by omega) hB0 (by omega) (by omega) hJ
        rw [if_neg b1] at hstep
        by_cases b2 : byteAt s i = 40
        · rw [if_pos b2] at hstep
          by_cases h2s : i + 2 < s.size
          · by_cases q1 : byteAt s (i + 1) = 63
            · by_cases q2 : byteAt s (i + 2) = 58
              · rw [if_pos ⟨h2s, q1, q2⟩] at hstep
                simp only [Option.some.injEq, Prod.mk.injEq] at hstep
                obtain ⟨rfl, rfl⟩ := hstep
                exact rd_open1 e hi hs b2 h2s q1 q2 hst rfl (by omega) hB0 hJ
              · rw [if_neg (fun h => q2 h.2.2)] at hstep
                simp only [Option.some.injEq, Prod.mk.injEq] at hstep
                obtain ⟨rfl, rfl⟩ := hstep
                exact rd_open4 e hi hs b2 h2s q1 q2 hst rfl (by omega) hB0 hJ
            · rw [if_neg (fun h => q1 h.2.1)] at hstep
              simp only [Option.some.injEq, Prod.mk.injEq] at hstep
              obtain ⟨rfl, rfl⟩ := hstep
              exact rd_open3 e hi hs b2 h2s q1 hst rfl (by omega) hB0 hJ
          · rw [if_neg (fun h => h2s h.1)] at hstep
            simp only [Option.some.injEq, Prod.mk.injEq] at hstep
            obtain ⟨rfl, rfl⟩ := hstep
            exact rd_open2 e hi hs b2 h2s hst rfl (by omega) hB0 hJ
        rw [if_neg b2] at hstep
        by_cases b3 : byteAt s i = 41
        · rw [if_pos b3, hlen] at hstep
          by_cases hp1 : pre.length + 1 ≤ 1
          · rw [if_pos hp1] at hstep; cases hstep
          rw [if_neg hp1, List.dropLast_concat, topM_concat] at hstep
          have hpne : pre ≠ [] := fun e => by subst e; simp at hp1
          obtain ⟨pre', op, rfl⟩ : ∃ p o, pre = p ++ [o] := ⟨_, _, top_split hpne⟩
          have hys := hst.low
          have hyne : ys ≠ [] := fun e => by subst e; simp at hys
          obtain ⟨ys', xp, rfl⟩ : ∃ y x, ys = y ++ [x] := ⟨ys.dropLast, ys.getLast hyne, (List.dropLast_concat_getLast hyne).symm⟩
          have hsplit2 := wgt_split hpne
          rw [List.dropLast_concat, topM_concat] at hsplit2
          have hlen2 : (pre' ++ [op]).length = pre'.length + 1 := by simp
          rw [hlen2] at hst hpl ⊢
          cases hg : o.group with
          | true =>
            rw [hg, if_pos rfl] at hstep
            exact rd_close1 e hi hs b3 hg hst rfl (by omega) hB0 (by omega) (by omega) (by omega) hstep hJ
          | false =>
            rw [hg, if_neg (by simp)] at hstep
            exact rd_close0 e hi hs b3 hg hst rfl (by omega) hB0 (by omega) (by omega) (by omega) hstep hJ
        rw [if_neg b3] at hstep
        cases hset : setM s i with
        | none => rw [hset] at hstep; cases hstep
        | some p =>
          obtain ⟨ls, nn⟩ := p
          rw [hset] at hstep
          simp only at hstep
          obtain ⟨c, hpt, hmt, rfl⟩ := setM_some hset
          exact rd_char e hi hs b1 b2 b3 hpt hmt hst rfl (by omega) hB0 (by omega) hstep hJ
    · rw [if_neg hi] at hrd
      obtain ⟨o, rfl, rfl⟩ : ∃ o, st = [o] ∧ t = wholeM o := by
        rcases st with _ | ⟨o, _ | ⟨o2, r⟩⟩
        · cases hrd
        · exact ⟨o, rfl, (Option.some.inj hrd).symm⟩
        · cases hrd
      exact rd_exit e hi hs (fun l k0 k1 k2 k3 => hQ _ _ ⟨l, v, xs, o, rfl, k0, k1, k2, k3, hst, rfl, by omega, hb⟩)
theorem stk_new {w : World} {B : Nat} (hB : B ≤ w.heap.size) : StkAt 155 70 B (w.alloc (.cells #[.slice none 0 0, .slice none 0 0, .bool false] 155)) (.slice (some ⟨w.heap.size, 0, none⟩) 1 1) [⟨[], [], false⟩] [⟨.slice none 0 0, .slice none 0 0⟩] := by
  refine ⟨rfl, ?_, ?_, by simp [ownL, OpV.own, ownO, Value.ownBlock], fun b hb => by simp [ownL, OpV.own, ownO, Value.ownBlock] at hb⟩
  · exact World.ownsRow_lit w #[.slice none 0 0, .slice none 0 0, .bool false] 1 hB (by unfold maxLen; omega) rfl
  · intro i hi hx
    obtain rfl : i = 0 := by simp at hi; omega
    exact ⟨TrRow.nil, TrRow.nil⟩
set_option maxHeartbeats 8000000 in
set_option maxRecDepth 100000 in
theorem read_any {s : ByteArray} {t : Nd} (hp : parseM s = some t) (hs : s.size ≤ 1024) : RdSpec s t := by
  intro w
  have hsI : (s.size : Int) ≤ 1024 := by omega
  have hB1 : Blk (w.alloc (.cells #[.int .u8 0, .slice none 0 0, .int .i64 0, .int .i64 0, .bool false, .slice none 0 0] 70)) w.heap.size #[.int .u8 0, .slice none 0 0, .int .i64 0, .int .i64 0, .bool false, .slice none 0 0] 70 := Blk.new _ _ _
  have hz1 : (w.alloc (.cells #[.int .u8 0, .slice none 0 0, .int .i64 0, .int .i64 0, .bool false, .slice none 0 0] 70)).heap.size = w.heap.size + 1 := by simp
  have hst := stk_new (w := w.alloc (.cells #[.int .u8 0, .slice none 0 0, .int .i64 0, .int .i64 0, .bool false, .slice none 0 0] 70)) (B := w.heap.size + 1) (by omega)
  have hB2 := hB1.alloc (.cells #[.slice none 0 0, .slice none 0 0, .bool false] 155)
  have hbI : Below w.heap.size w ((w.alloc (.cells #[.int .u8 0, .slice none 0 0, .int .i64 0, .int .i64 0, .bool false, .slice none 0 0] 70)).alloc (.cells #[.slice none 0 0, .slice none 0 0, .bool false] 155)) := ((Below.refl _ _).alloc (Nat.le_refl _) _).alloc (by simp) _
  rw [hz1] at hst
  have hzI : ((w.alloc (.cells #[.int .u8 0, .slice none 0 0, .int .i64 0, .int .i64 0, .bool false, .slice none 0 0] 70)).alloc (.cells #[.slice none 0 0, .slice none 0 0, .bool false] 155)).heap.size = w.heap.size + 2 := by simp
  have HST := Lib.hid hst
  have HB2 := Lib.hid hB2
  have HBI := Lib.hid hbI
  have HZI := Lib.hid hzI
  have HP := Lib.hid hp
  clear hst hB1 hB2 hbI hz1 hzI hp
  go_enter Tryz.func62, Tryz.ntmps62
  go_wp2_with fail
  generalize ((w.alloc (.cells #[.int .u8 0, .slice none 0 0, .int .i64 0, .int .i64 0, .bool false, .slice none 0 0] 70)).alloc (.cells #[.slice none 0 0, .slice none 0 0, .bool false] 155)) = wI at HST HB2 HBI HZI ⊢
  refine wp_loop_ghost (RdInv (w.heap.size + 1) w.heap.size s t wI) (s.size - 0) ?_ (fun n a w' hI => rd_round hs (by have := HZI.out; omega) hI ?_)
  · exact ⟨_, _, _, 0, s.size + 1, _, rfl, rfl, rfl, rfl, rfl, rfl, HST.out, by simp, by simp [wgt], by omega, HP.out, rfl, Below.refl _ _⟩
  · intro a' w5 hout
    obtain ⟨l, v, xs, o, rfl, hl, h0, h2, h4, hst, rfl, hwg, hb⟩ := hout
    obtain ⟨e, rfl⟩ := frame177 hl
    have h0 := Option.some.inj h0
    have h2 := Option.some.inj h2
    have h4 := Option.some.inj h4
    rw [h0, h2, h4]
    obtain ⟨g0, c0, rfl⟩ := stk_form hst (by simp)
    obtain ⟨ys, ⟨sv, iv⟩, rfl⟩ := stk_split hst (by simp)
    obtain rfl : ys = [] := by have := hst.len; simpa using this
    have hwg1 : o.items.length ≤ 1000000 ∧ o.seqs.length ≤ 1000000 := by simp [wgt] at hwg; omega
    obtain ⟨so, sc, hsv⟩ := (StkAt.last (pre := []) (ys := []) hst).1.slice
    obtain ⟨io, ic, hiv⟩ := (StkAt.last (pre := []) (ys := []) hst).2.slice
    simp only at hsv hiv
    subst hsv hiv
    have hrow : w5.ownsRow (w.heap.size + 1) 155 3 (.slice (some ⟨g0, 0, none⟩) (0 + 1) c0) (0 + 1) ([] ++ [.slice so o.seqs.length sc, .slice io o.items.length ic, .bool o.group]) := hst.row
    obtain ⟨t0, t1, t2, tf, tz⟩ := last3 hrow rfl
    obtain ⟨-, ⟨scs, hsr, hsn⟩, ⟨ics, hir, hin⟩⟩ := StkAt.pop (pre := []) (ys := []) hst
    simp only at hsr hir
    have hcall := whole7_any (o := o) hsr hsn hir hin hwg1.2 hwg1.1
    have hBr := HB2.out.below hb (by omega)
    have hbw : Below w.heap.size w w5 := HBI.out.trans (hb.mono (by omega))
    have hz5 : w.heap.size < w5.heap.size := hBr.lt
    have HC := Lib.hid hcall
    have HBR := Lib.hid hBr
    have HBW := Lib.hid hbw
    obtain ⟨ns, hns⟩ : ∃ n, n = o.seqs.length := ⟨_, rfl⟩
    obtain ⟨ni, hni⟩ : ∃ n, n = o.items.length := ⟨_, rfl⟩
    rw [← hns, ← hni] at HC
    rw [← hns] at t0
    rw [← hni] at t1
    simp only [Nat.zero_mul, Nat.zero_add] at t0 t1 t2
    clear hst hrow hsr hsn hir hin hcall hBr hbw hwg hwg1 hb h0 h2 h4 hl HST HB2 HBI HZI HP hns hni
    go_wp2_with (go_at_call 84; go_loud (refine HC.out.mono ?_; rintro ee w6 ⟨cs6, rfl, hn6, hb6⟩; obtain ⟨k6, lo6, hi6, lz6, o16, o26, n16, c16, n26, c26, rfl⟩ := nd6k hn6; have HN6 := Lib.hid hn6; have HB6 := Lib.hid hb6; have B6 := HBR.out.below hb6 hz5; have r0 := B6.cell 0; have r1 := B6.cell 1; have r2 := B6.cell 2; have r3 := B6.cell 3; have r4 := B6.cell 4; have r5 := B6.cell 5; have rz := B6.lt; have rf : ∀ i, w6.frozen? ⟨w.heap.size, i, none⟩ = false := B6.frozen; clear B6 hn6 hb6))
    have hF := set6blk (HBR.out.below HB6.out hz5) (.int .u8 k6) (.slice o16 n16 c16) (.int .i64 lo6) (.int .i64 hi6) (.bool lz6) (.slice o26 n26 c26)
    have k7 := set6k (W := w6) (b := w.heap.size) (.int .u8 k6) (.slice o16 n16 c16) (.int .i64 lo6) (.int .i64 hi6) (.bool lz6) (.slice o26 n26 c26)
    refine bodyPost_ret (v := .tuple #[.agg #[.int .u8 k6, .slice o16 n16 c16, .int .i64 lo6, .int .i64 hi6, .bool lz6, .slice o26 n26 c26], .bool true]) (by simp [results, Tryz.results62, go_sem, hF.cell]) rfl ⟨_, rfl, NdAt.go k7 (fun b hb hn => ?_) HN6.out, ?_⟩
    · rcases hn with hn | hn
      · have := hn.1
        exact ⟨by omega, by omega⟩
      · exact ⟨by omega, by omega⟩
    · exact ((Kept.of_below (HBW.out.trans (HB6.out.mono HBW.out.size)) (fun q => q = w.heap.size)).trans k7).below (fun q hq e => by omega)
end Go.Proofs.YtnhjakdmbfadlaaGreatDoor
