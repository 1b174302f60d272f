/- Parts of the proof: Lh. Conditions: none. -/
import Derived.Test.YtnhjakdmbfadlaaDoorS43
import Derived.Test.YtnhjakdmbfadlaaDoorS39
set_option linter.all false
/- WaysGroups. -/
namespace Go.Proofs.YtnhjakdmbfadlaaDoor
open Go.RowKit Wy Mem Grow

set_option maxHeartbeats 8000000 in
set_option maxRecDepth 100000 in
theorem lg_exit {n c2 : Nat} {o2 : Option Addr} {W : World} {J : Act → World → Prop} {Q : Exit → Act → World → Prop} (e : Nat → Value)
    (hJ : ∀ (m : List Value), m.length = 108 → Q (.exit 0) ⟨m.toArray, []⟩ W) :
    Code.wp Tryd.prog (lgC [1, 1, 1, 1, 1, 1, 1, 1, 0, 1, 0, 0]) (Exit.then J Q) ⟨#[e 0, e 1, e 2, e 3, e 4, e 5, e 6, e 7, e 8, e 9, e 10, e 11, e 12, e 13, e 14, e 15, e 16, e 17, e 18, e 19, e 20, e 21, e 22, e 23, e 24, e 25, e 26, e 27, e 28, e 29, e 30, e 31, e 32, e 33, e 34, e 35, e 36, e 37, e 38, e 39, e 40, e 41, e 42, e 43, e 44, e 45, e 46, e 47, e 48, e 49, e 50, e 51, e 52, e 53, e 54, e 55, e 56, e 57, e 58, e 59, e 60, e 61, e 62, e 63, e 64, e 65, e 66, .slice o2 n c2, .int .i64 n, .int .i64 n, e 70, e 71, e 72, e 73, e 74, e 75, e 76, e 77, e 78, e 79, e 80, e 81, e 82, e 83, e 84, e 85, e 86, e 87, e 88, e 89, e 90, e 91, e 92, e 93, e 94, e 95, e 96, e 97, e 98, e 99, e 100, e 101, e 102, e 103, e 104, e 105, e 106, e 107], []⟩ W := by
  have HJ := Lib.hid hJ
  clear hJ
  conv => arg 2; whnf
  go_wp2_with fail
  exact HJ.out _ rfl
def Lgr (o1 o2 : Option Addr) (n c1 c2 : Nat) (W1 : World) (j : Nat) (a : Act) (w : World) : Prop := ∃ (m : List Value) (i : Nat), a = ⟨m.toArray, []⟩ ∧ m.length = 108 ∧ m[7]? = some (.slice o1 n c1) ∧ m[67]? = some (.slice o2 n c2) ∧ m[68]? = some (.int .i64 n) ∧ m[69]? = some (.int .i64 i) ∧ i ≤ n ∧ j = n - i ∧ Below W1.heap.size W1 w
def gW (w : Wy.Way) : Wy.Way := ⟨w.stop, (0, (w.stop : Int)) :: w.spans⟩
theorem lg_loop {o1 o2 : Option Addr} {n c1 c2 j G L : Nat} {W1 w : World} {a : Act} {l : List Wy.Way} {Q : Exit → Act → World → Prop} (hI : Lgr o1 o2 n c1 c2 W1 j a w) (hl : l.length = n) (hn : n ≤ 500) (hG : G ≤ 60) (hL : L ≤ 64)
    (hA : WaysAt (fun _ => True) W1 G L (.slice o1 n c1) l) (hB : WaysAt (fun _ => True) W1 (G + 1) L (.slice o2 n c2) (l.map gW))
    (hQ : ∀ (m : List Value) (w' : World), m.length = 108 → Below W1.heap.size W1 w' → Q (.exit 0) ⟨m.toArray, []⟩ w') :
    Code.wp Tryd.prog (lgC [1, 1, 1, 1, 1, 1, 1, 1, 0, 1, 0, 0]) (Exit.then (fun a' w' => ∃ j', j' < j ∧ Lgr o1 o2 n c1 c2 W1 j' a' w') Q) a w := by
  obtain ⟨m, i, rfl, hm, h7, h67, h68, h69, hi, hj, hb⟩ := hI
  obtain ⟨e, rfl⟩ := frame108 hm
  have h7 := Option.some.inj h7
  have h67 := Option.some.inj h67
  have h68 := Option.some.inj h68
  have h69 := Option.some.inj h69
  by_cases hin : i < n
  · have hlm : (l.map gW).length = n := by rw [List.length_map, hl]
    obtain ⟨b1, f1, k1, e1, -, -, -, z1, hc1⟩ := hA.cells (by omega)
    obtain ⟨b2, f2, k2, e2, -, -, -, z2, hc2⟩ := hB.cells (by omega)
    rw [hl] at e1
    rw [hlm] at e2
    simp only [Value.slice.injEq, true_and] at e1 e2
    obtain ⟨rfl, rfl⟩ := e1
    obtain ⟨rfl, rfl⟩ := e2
    obtain ⟨sv1, -, d2, hx, hst, hx2⟩ := hc1 i (by omega)
    obtain ⟨sv2, d0, d1, hy, -, hy2⟩ := hc2 i (by omega)
    have hgi : (l.map gW)[i]'(by omega) = gW (l[i]'(by omega)) := List.getElem_map _
    rw [hgi] at d0 hy hy2
    have kb := Kept.of_below hb (fun _ => False)
    obtain ⟨bs, fs, cs, rfl, hcs, zs, hsc⟩ := sps_at hy (by rw [hy2]; omega)
    obtain ⟨o, cx, rfl⟩ := hx.row.slice
    have hs0 := hsc 0 (by rw [hy2]; omega)
    rw [hy2] at d1 hcs hy
    rw [hx2] at d2 hx
    obtain ⟨x, hxx⟩ : ∃ x, x = l[i]'(by omega) := ⟨_, rfl⟩
    have hs1 : W1.cell? ⟨bs, fs, none⟩ = some (.int .i64 0) := hs0.1
    have hs2 : W1.cell? ⟨bs, fs + 1, none⟩ = some (.int .i64 (l[i]'(by omega)).stop) := hs0.2
    clear hs0 hsc
    rw [← hxx] at d0 hx hx2 hy hst hs2
    rw [h7, h67, h68, h69]
    exact lg_round (st := x.stop) (x := x.spans) e hin hn (by omega) hx2 hG ((hb.cell (p := ⟨b2, f2 + i * 2, none⟩) z2).trans d0) ((hb.cell (p := ⟨b2, f2 + i * 2 + 1, none⟩) z2).trans d1) (Nat.lt_of_lt_of_le z2 hb.size) ((hb.cell (p := ⟨b1, f1 + i * 2 + 1, none⟩) z1).trans d2) (Nat.lt_of_lt_of_le z1 hb.size)
      ((hb.cell (p := ⟨bs, fs, none⟩) zs).trans hs1) ((hb.cell (p := ⟨bs, fs + 1, none⟩) zs).trans hs2) (Nat.lt_of_lt_of_le zs hb.size) hcs (SpsAt.go hx kb (fun _ _ h => ⟨id, h⟩)) (SpsAt.go hy kb (fun _ _ h => ⟨id, h⟩))
      (fun m w' k0 k1 k2 k3 k4 k5 => ⟨n - (i + 1), by omega, m, i + 1, rfl, k0, k1, k2, k3, k4, by omega, rfl, hb.trans (k5.mono hb.size)⟩)
  · obtain rfl : i = n := by omega
    rw [h67, h68, h69]
    exact lg_exit e (fun m k0 => hQ m w k0 hb)
mutual
theorem nodes_bare : ∀ t : Nd, nodes (bareT t) ≤ nodes t
  | .mk k set lo hi lazy subs => by
    have ih := nodesL_bare subs
    rw [bareT]
    by_cases h6 : k = 6
    · rw [if_pos h6]
      cases hb : bareL subs with
      | nil => simp only [nodes, nodesL]; omega
      | cons b r =>
        rw [hb, nodesL] at ih
        simp only [nodes]
        omega
    · rw [if_neg h6]
      simp only [nodes]
      omega
theorem nodesL_bare : ∀ l : List Nd, nodesL (bareL l) ≤ nodesL l
  | [] => by rw [bareL]; omega
  | s :: r => by
    have h1 := nodes_bare s
    have h2 := nodesL_bare r
    rw [bareL, nodesL, nodesL]
    omega
end
theorem min_take {α : Type} (L : List α) (k : Nat) : L.take (min L.length k) = L.take k := by
  by_cases h : L.length ≤ k
  · rw [Nat.min_eq_left h, List.take_of_length_le (Nat.le_refl _), List.take_of_length_le h]
  · rw [Nat.min_eq_right (by omega)]
set_option maxHeartbeats 8000000 in
set_option maxRecDepth 100000 in
theorem groups_any {N M : Nat → Prop} {w : World} {v1 v2 : Value} {L : List Sm} {B : List Nat} (h1 : SmsAt N w v1 L) (h2 : U8At M w v2 B) (hL : L.length ≤ 9223372036854775807) (hB : B.length ≤ 9223372036854775807) (htab : Lib.Utf8Tabs 0 1 w) (hnone : NoneAt w) :
    Calls Tryd.prog 3 #[v1, v2] w fun e w' => e = .returned (.bool true) ∧ Below w.heap.size w w' := by
  obtain ⟨o1, c1, rfl⟩ := h1.row.slice
  have hcap : L.length ≤ c1 := by
    rcases h1.row.at_ with ⟨h0, _⟩ | ⟨b, off, cap, he, h1, _⟩
    · omega
    · simp only [Value.slice.injEq, true_and] at he
      omega
  obtain ⟨n, hn⟩ : ∃ n, n = min L.length 12 := ⟨_, rfl⟩
  have hsm : SmsAt N w (.slice o1 n c1) (L.take 12) := by
    have := h1.take (n := n) rfl (by omega)
    rwa [hn, min_take, ← hn] at this
  obtain ⟨t, ht⟩ : ∃ t, t = madeT (L.take 12) := ⟨_, rfl⟩
  obtain ⟨s, hs⟩ : ∃ s, s = strB (textL (B.take 8)) := ⟨_, rfl⟩
  have hrt : right t = true := by rw [ht]; exact made_right (by omega)
  have hgood : Wy.Good t 13 12 := by rw [ht]; exact made_good _ (take_le20 L 12)
  have hrg : right (.mk 6 [] 0 0 false [t]) = true := (good_group hgood).right (by omega) (by omega)
  have hnt : nodes t ≤ 21 := by rw [ht]; exact nodes_made _
  have hss : s.size ≤ 24 := by rw [hs]; exact text_size B 8 (by omega)
  have hsv : Lib.validD s.data.toList = true := by rw [hs]; exact text_valid _
  have haw := awake_any w htab hnone
  have hmade : ∀ w', Below w.heap.size w w' → Calls Tryd.prog 7 #[.slice o1 n c1] w' (Mde (L.take 12) w') := fun w' hb => made_any (hsm.below hb) (by rw [List.length_take]; omega)
  have htext : ∀ w', Below w.heap.size w w' → Calls Tryd.prog 8 #[v2, .int .i64 8] w' fun e w'' => e = .returned (.string s) ∧ Below w'.heap.size w' w'' := fun w' hb => by
    rw [hs]
    exact text_any (m := 8) (h2.below hb) (by omega) hB
  have hn' : n = (min (L.length : Int) 12).toNat := by omega
  rw [hn'] at hmade
  have HMADE := Lib.hid hmade
  have HTEXT := Lib.hid htext
  have HAW := Lib.hid haw
  have HT := Lib.hid htab
  have HN := Lib.hid hnone
  have HRT := Lib.hid hrt
  have HRG := Lib.hid hrg
  have HNT := Lib.hid hnt
  have HSV := Lib.hid hsv
  have HTT := Lib.hid ht
  clear h1 h2 hsm hs hrt hgood hrg hnt hsv haw hmade htext htab hnone hn hn' hB ht
  go_enter Tryd.func3, Tryd.ntmps3
  go_upto_region 3 with (go_at_call 6; go_loud (refine HAW.out.mono ?_; rintro ee w1 ⟨rfl, hb1⟩; have HB1 := Lib.hid hb1; clear hb1))
  go_upto_region 4 with (first | (go_at_call 7; go_loud (refine (HMADE.out _ HB1.out).mono ?_; rintro ee w2 ⟨cs2, rfl, hn2, hb2⟩; rw [← HTT.out] at hn2; obtain ⟨k, lo, hi, lz, p1, p2, n1, d1, n2, d2, rfl⟩ := nd6k hn2; have HN2 := Lib.hid hn2; have HB2 := Lib.hid hb2; clear hn2 hb2)) | (go_at_call 8; go_loud (refine (HTEXT.out _ (HB1.out.trans (HB2.out.mono HB1.out.size))).mono ?_; rintro ee w3 ⟨rfl, hb3⟩; have HB3 := Lib.hid hb3; clear hb3)))
  have h12 := HB1.out.trans (HB2.out.mono HB1.out.size)
  have h13 := h12.trans (HB3.out.mono h12.size)
  have hq : Blk (w3.alloc (.cells #[.int .u8 k, .slice p1 n1 d1, .int .i64 lo, .int .i64 hi, .bool lz, .slice p2 n2 d2] 28)) w3.heap.size #[.int .u8 k, .slice p1 n1 d1, .int .i64 lo, .int .i64 hi, .bool lz, .slice p2 n2 d2] 28 := Blk.new _ _ _
  have hnd : NdAt (fun _ => True) (w3.alloc (.cells #[.int .u8 k, .slice p1 n1 d1, .int .i64 lo, .int .i64 hi, .bool lz, .slice p2 n2 d2] 28)) t _ := NdAt.go ((Kept.of_below HB3.out (fun _ => False)).alloc _) (fun _ _ _ => ⟨id, trivial⟩) HN2.out
  have hbw := h13.alloc h13.size (.cells #[.int .u8 k, .slice p1 n1 d1, .int .i64 lo, .int .i64 hi, .bool lz, .slice p2 n2 d2] 28)
  generalize (w3.alloc (.cells #[.int .u8 k, .slice p1 n1 d1, .int .i64 lo, .int .i64 hi, .bool lz, .slice p2 n2 d2] 28)) = W at hq hnd hbw ⊢
  generalize w3.heap.size = q at hq ⊢
  have hall : ∀ w', Below W.heap.size W w' → Calls Tryd.prog 9 #[.agg #[.int .u8 k, .slice p1 n1 d1, .int .i64 lo, .int .i64 hi, .bool lz, .slice p2 n2 d2], .string s] w' (Alu s t w') := fun w' hb => by
    have hb' := hbw.trans (hb.mono hbw.size)
    exact alu_any (NdAt.go (Kept.of_below hb (fun _ => False)) (fun _ _ h => ⟨id, h⟩) hnd) HRT.out (by have := HNT.out; omega) (by omega) HSV.out (tabs_below HT.out HN.out hb') (HN.out.below hb')
  have hgrp : ∀ w', Below W.heap.size W w' → Calls Tryd.prog 9 #[.agg #[.int .u8 6, .slice none 0 0, .int .i64 0, .int .i64 0, .bool false, .slice (some ⟨w'.heap.size, 0, none⟩) 1 1], .string s] (w'.alloc (.cells #[.int .u8 k, .slice p1 n1 d1, .int .i64 lo, .int .i64 hi, .bool lz, .slice p2 n2 d2] 28)) (Alu s (.mk 6 [] 0 0 false [t]) (w'.alloc (.cells #[.int .u8 k, .slice p1 n1 d1, .int .i64 lo, .int .i64 hi, .bool lz, .slice p2 n2 d2] 28))) := fun w' hb => by
    have hb' := (hbw.trans (hb.mono hbw.size)).alloc (Nat.le_trans hbw.size (Nat.le_trans (by omega) hb.size)) (.cells #[.int .u8 k, .slice p1 n1 d1, .int .i64 lo, .int .i64 hi, .bool lz, .slice p2 n2 d2] 28)
    have hn' := NdAt.go (M := fun _ => True) ((Kept.of_below hb (fun _ => False)).alloc (.cells #[.int .u8 k, .slice p1 n1 d1, .int .i64 lo, .int .i64 hi, .bool lz, .slice p2 n2 d2] 28)) (fun _ _ _ => ⟨id, trivial⟩) hnd
    exact alu_any (nd_oneT (Blk.new w' _ _) trivial hn' (by omega) ⟨by decide, by decide⟩ ⟨by decide, by decide⟩) HRG.out (by have := HNT.out; simp only [nodes, nodesL]; omega) (by omega) HSV.out (tabs_below HT.out HN.out hb') (HN.out.below hb')
  obtain ⟨l, hl⟩ : ∃ l, l = lA s t := ⟨_, rfl⟩
  obtain ⟨er, her⟩ : ∃ er, er = erW s t := ⟨_, rfl⟩
  obtain ⟨nl, hnl⟩ : ∃ nl, nl = l.length := ⟨_, rfl⟩
  have hnl5 : nl ≤ 500 := by rw [hnl, hl]; exact lA_len _ _
  have hG := opened_right HRT.out
  have hbare : ∀ w', Below W.heap.size W w' → Calls Tryd.prog 11 #[.agg #[.int .u8 k, .slice p1 n1 d1, .int .i64 lo, .int .i64 hi, .bool lz, .slice p2 n2 d2]] w' (Trd (fun _ => True) (bareT t) w') := fun w' hb =>
    (bare_all t (fun _ => True) w' _ (NdAt.go (Kept.of_below hb (fun _ => False)) (fun _ _ h => ⟨id, h⟩) hnd) (by have := HNT.out; omega)).mono fun e w'' ⟨cs, h1, h2, h3⟩ => ⟨cs, h1, NdAt.mono (fun _ _ => trivial) h2, h3⟩
  have heof : ∀ w' cs, Below W.heap.size W w' → NdAt (fun _ => True) w' (bareT t) cs → Calls Tryd.prog 10 #[.agg cs.toArray, .string s] w' (fun e w'' => ∃ v, e = .returned (.tuple #[v, .int .i64 er]) ∧ Row (fun _ => True) w'' v (l.map Wy.Way.stop).length 1 (intCs (l.map Wy.Way.stop)) ∧ Below w'.heap.size w' w'') := fun w' cs hb hn => by
    have hb' := hbw.trans (hb.mono hbw.size)
    have := eou_any hn (bare_right HRT.out) (by have := nodes_bare t; have := HNT.out; omega) (by omega) HSV.out (tabs_below HT.out HN.out hb') (HN.out.below hb')
    refine this.mono fun e w'' ⟨v, h1, h2, h3, h4⟩ => ?_
    rw [(ends_bare HRT.out).2, ← her] at h1
    rw [(ends_bare HRT.out).1, ← hl] at h2
    exact ⟨v, h1, h2, h4⟩
  have hall2 : ∀ w', Below W.heap.size W w' → Calls Tryd.prog 9 #[.agg #[.int .u8 k, .slice p1 n1 d1, .int .i64 lo, .int .i64 hi, .bool lz, .slice p2 n2 d2], .string s] w' (fun e w'' => ∃ o c, e = .returned (.tuple #[.slice o nl c, .int .i64 er]) ∧ WaysAt (fun _ => True) w'' (opened t) s.size (.slice o nl c) l ∧ Below w'.heap.size w' w'') := fun w' hb => by
    have := hall w' hb
    unfold Alu at this
    rw [← hl, ← her, ← hnl] at this
    exact this
  have hgrp2 : ∀ w', Below W.heap.size W w' → Calls Tryd.prog 9 #[.agg #[.int .u8 6, .slice none 0 0, .int .i64 0, .int .i64 0, .bool false, .slice (some ⟨w'.heap.size, 0, none⟩) 1 1], .string s] (w'.alloc (.cells #[.int .u8 k, .slice p1 n1 d1, .int .i64 lo, .int .i64 hi, .bool lz, .slice p2 n2 d2] 28)) (fun e w'' => ∃ o c, e = .returned (.tuple #[.slice o nl c, .int .i64 er]) ∧ WaysAt (fun _ => True) w'' (opened t + 1) s.size (.slice o nl c) (l.map gW) ∧ Below w'.heap.size w' w'') := fun w' hb => by
    refine (hgrp w' hb).mono fun e w'' ⟨o, c, h1, h2, h3⟩ => ?_
    rw [lA_group, erW_group, ← hl, ← her, List.length_map, ← hnl] at h1
    rw [lA_group, ← hl, List.length_map, ← hnl] at h2
    have eo : opened (.mk 6 [] 0 0 false [t]) = opened t + 1 := by simp [opened, openedL]; omega
    rw [eo] at h2
    exact ⟨o, c, h1, h2, ((Below.refl _ _).alloc (Nat.le_refl _) _).trans (h3.mono (by simp))⟩
  have HALL := Lib.hid hall2
  have HGRP := Lib.hid hgrp2
  have HBARE := Lib.hid hbare
  have HEOF := Lib.hid heof
  have HBW := Lib.hid hbw
  have HQ := Lib.hid hq
  have HNL := Lib.hid hnl
  have HB0 := Lib.hid (Below.refl W.heap.size W)
  have hlm : (l.map Wy.Way.stop).length ≤ 500 := by rw [List.length_map, ← hnl]; exact hnl5
  have hstop : ((l.map gW).map Wy.Way.stop) = l.map Wy.Way.stop := by rw [List.map_map]; rfl
  have HLM := Lib.hid hlm
  have HSTOP := Lib.hid hstop
  have HG := Lib.hid hG
  have b0 := hq.cell 0
  have b1 := hq.cell 1
  have b2 := hq.cell 2
  have b3 := hq.cell 3
  have b4 := hq.cell 4
  have b5 := hq.cell 5
  have bz := hq.lt
  clear hall hgrp hall2 hgrp2 hbare heof hbw hq hnd hl her hnl hlm hstop hG HMADE HTEXT HAW HRT HRG HNT HSV HTT HB1 HN2 HB2 HB3 h12 h13 hcap hL
  go_upto_region 5 with (go_at_call 9; go_loud (refine (HALL.out _ HB0.out).mono ?_; rintro ee w4 ⟨o4, c4, rfl, hx4, hb4⟩; have HX4 := Lib.hid hx4; have HB4 := Lib.hid hb4; have Bq := HQ.out.below hb4 HQ.out.lt; have b0 := Bq.cell 0; have b1 := Bq.cell 1; have b2 := Bq.cell 2; have b3 := Bq.cell 3; have b4 := Bq.cell 4; have b5 := Bq.cell 5; have bz := Bq.lt; clear Bq hx4 hb4))
  go_upto_region 6 with (go_at_call 9; go_loud (refine (HGRP.out _ HB4.out).mono ?_; rintro ee w5 ⟨o5, c5, rfl, hx5, hb5⟩; have HX5 := Lib.hid hx5; have HB5 := Lib.hid (HB4.out.trans (hb5.mono HB4.out.size)); have HX4' := Lib.hid (WaysAt.go HX4.out (Kept.of_below hb5 (fun _ => False)) (M := fun _ => True) (fun _ _ h => ⟨id, h⟩)); have Bq := HQ.out.below HB5.out HQ.out.lt; have b0 := Bq.cell 0; have b1 := Bq.cell 1; have b2 := Bq.cell 2; have b3 := Bq.cell 3; have b4 := Bq.cell 4; have b5 := Bq.cell 5; have bz := Bq.lt; clear Bq hx5 hb5))
  go_upto_region 7 with (first | (go_at_call 11; go_loud (refine (HBARE.out _ HB5.out).mono ?_; rintro ee w6 ⟨cs6, rfl, hn6, hb6⟩; have HN6 := Lib.hid hn6; have HB6 := Lib.hid (HB5.out.trans (hb6.mono HB5.out.size)); have HB56 := Lib.hid hb6; clear hn6 hb6)) | (go_at_call 10; go_loud (refine (HEOF.out _ _ HB6.out HN6.out).mono ?_; rintro ee w7 ⟨v7, rfl, hr7, hb7⟩; have HR7 := Lib.hid hr7; have HB7 := Lib.hid (HB6.out.trans (hb7.mono HB6.out.size)); have HB57 := Lib.hid (HB56.out.trans (hb7.mono HB56.out.size)); clear hr7 hb7)))
  have hx4 := WaysAt.go HX4'.out (Kept.of_below HB57.out (fun _ => False)) (M := fun _ => True) (fun _ _ h => ⟨id, h⟩)
  have hx5 := WaysAt.go HX5.out (Kept.of_below HB57.out (fun _ => False)) (M := fun _ => True) (fun _ _ h => ⟨id, h⟩)
  have ends4 : ∀ w', Below w7.heap.size w7 w' → Calls Tryd.prog 13 #[.slice o4 nl c4] w' (Ens (l.map Wy.Way.stop) w') := fun w' hb => ends_any (WaysAt.go hx4 (Kept.of_below hb (fun _ => False)) (M := fun _ => True) (fun _ _ h => ⟨id, h⟩)) (by have := HNL.out; omega)
  have ends5 : ∀ w', Below w7.heap.size w7 w' → Calls Tryd.prog 13 #[.slice o5 nl c5] w' (Ens (l.map Wy.Way.stop) w') := fun w' hb => by
    have := ends_any (WaysAt.go hx5 (Kept.of_below hb (fun _ => False)) (M := fun _ => True) (fun _ _ h => ⟨id, h⟩)) (by have := HNL.out; rw [List.length_map]; omega)
    rwa [HSTOP.out] at this
  have equal : ∀ w' (u v : Value), Row (fun _ => True) w' u (l.map Wy.Way.stop).length 1 (intCs (l.map Wy.Way.stop)) → Row (fun _ => True) w' v (l.map Wy.Way.stop).length 1 (intCs (l.map Wy.Way.stop)) → Calls Tryd.prog 12 #[u, v] w' (Eqs true w') := fun w' u v h1 h2 => by
    have := equalI_any h1 h2 (by have := HLM.out; omega) (by have := HLM.out; omega)
    rwa [decide_eq_true rfl] at this
  have E4 := Lib.hid ends4
  have E5 := Lib.hid ends5
  have EQ := Lib.hid equal
  have HX4v := Lib.hid hx4
  have HX5v := Lib.hid hx5
  have HB70 := Lib.hid (Below.refl w7.heap.size w7)
  clear hx4 hx5 ends4 ends5 equal HALL HGRP HBARE HEOF HX4 HX4' HX5 HB4 HB5 HB6 HB56 HB57 HN6 HQ HB0 HT HN
  go_wp2_with (first
    | (go_at_call 13; (refine (E4.out _ HE1.out).mono ?_; rintro ee w11 ⟨v11, rfl, ho11, hb11⟩; have HA3 := Lib.hid (Row.of_own ho11 (N := fun _ => True) (fun _ _ _ => trivial)); have HC3 := Lib.hid (HE1.out.trans (hb11.mono HE1.out.size)); have HR3 := Lib.hid (RowGo HRE1.out (Kept.of_below hb11 (fun _ => False)) (M := fun _ => True) (fun _ _ h => ⟨id, h⟩)); clear ho11 hb11))
    | (go_at_call 13; (refine (E5.out _ HC1.out).mono ?_; rintro ee w9 ⟨v9, rfl, ho9, hb9⟩; have HA2 := Lib.hid (Row.of_own ho9 (N := fun _ => True) (fun _ _ _ => trivial)); have HA12 := Lib.hid (RowGo HA1.out (Kept.of_below hb9 (fun _ => False)) (M := fun _ => True) (fun _ _ h => ⟨id, h⟩)); have HC2 := Lib.hid (HC1.out.trans (hb9.mono HC1.out.size)); clear ho9 hb9))
    | (go_at_call 13; go_loud (refine (E4.out _ HB70.out).mono ?_; rintro ee w8 ⟨v8, rfl, ho8, hb8⟩; have HA1 := Lib.hid (Row.of_own ho8 (N := fun _ => True) (fun _ _ _ => trivial)); have HC1 := Lib.hid hb8; clear ho8 hb8))
    | (go_at_call 12; (refine (EQ.out _ _ _ HA3.out HR3.out).mono ?_; rintro ee w12 ⟨rfl, hb12⟩; have HE2 := Lib.hid (HC3.out.trans (hb12.mono HC3.out.size)); clear hb12))
    | (go_at_call 12; go_loud (refine (EQ.out _ _ _ HA12.out HA2.out).mono ?_; rintro ee w10 ⟨rfl, hb10⟩; have HE1 := Lib.hid (HC2.out.trans (hb10.mono HC2.out.size)); have HRE1 := Lib.hid (RowGo HR7.out (Kept.of_below (HC2.out.trans (hb10.mono HC2.out.size)) (fun _ => False)) (M := fun _ => True) (fun _ _ h => ⟨id, h⟩)); clear hb10)))
  have k7 := Kept.of_below HE2.out (fun _ => False)
  have ha := WaysAt.go HX4v.out k7 (M := fun _ => True) (fun _ _ h => ⟨id, h⟩)
  have hb := WaysAt.go HX5v.out k7 (M := fun _ => True) (fun _ _ h => ⟨id, h⟩)
  have hbf : Below w.heap.size w w12 := HBW.out.trans ((HB7.out.mono HBW.out.size).trans (HE2.out.mono (Nat.le_trans HBW.out.size HB7.out.size)))
  have HBF := Lib.hid hbf
  have hg := HG.out
  have hnl := HNL.out
  rename_i K1 hK1
  refine wp_loop_ghost (Lgr o4 o5 nl c4 c5 w12) (nl - 0) ?_ (fun j a w' hI => lg_loop (G := opened t) (L := s.size) hI hnl.symm hnl5 (by omega) (by omega) ha hb ?_)
  · exact ⟨_, 0, rfl, rfl, rfl, rfl, rfl, rfl, by omega, rfl, Below.refl _ _⟩
  · intro m w13 hm hb13
    obtain ⟨e', rfl⟩ := frame108 hm
    have hfin := HBF.out.trans (hb13.mono HBF.out.size)
    have HFIN := Lib.hid hfin
    clear hfin hbf HBF ha hb k7 hm hb13 hg hnl
    refine hK1 _ _ ?_
    go_wp2_with fail
    exact bodyPost_ret (v := .bool true) (by simp [results, Tryd.results3, go_sem]) rfl ⟨rfl, HFIN.out⟩
end Go.Proofs.YtnhjakdmbfadlaaDoor
