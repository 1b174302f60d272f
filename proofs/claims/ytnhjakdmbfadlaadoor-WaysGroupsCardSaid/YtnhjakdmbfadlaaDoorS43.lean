/- Parts of the proof: Lg. Conditions: none. -/
import Derived.Test.YtnhjakdmbfadlaaDoorS38
set_option linter.all false
/- WaysGroups: the round of its loop. -/
namespace Go.Proofs.YtnhjakdmbfadlaaDoor
open Go.RowKit Wy Mem Grow

noncomputable def lgC (p : List Nat) : Code := pieceC (way p) (Tryd.f3.body.getD .skip)
theorem frame108 {l : List Value} (h : l.length = 108) : ∃ e : Nat → Value, l = [e 0, e 1, e 2, e 3, e 4, e 5, e 6, e 7, e 8, e 9, e 10, e 11, e 12, e 13, e 14, e 15, e 16, e 17, e 18, e 19, e 20, e 21, e 22, e 23, e 24, e 25, e 26, e 27, e 28, e 29, e 30, e 31, e 32, e 33, e 34, e 35, e 36, e 37, e 38, e 39, e 40, e 41, e 42, e 43, e 44, e 45, e 46, e 47, e 48, e 49, e 50, e 51, e 52, e 53, e 54, e 55, e 56, e 57, e 58, e 59, e 60, e 61, e 62, e 63, e 64, e 65, e 66, e 67, e 68, e 69, e 70, e 71, e 72, e 73, e 74, e 75, e 76, e 77, e 78, e 79, e 80, e 81, e 82, e 83, e 84, e 85, e 86, e 87, e 88, e 89, e 90, e 91, e 92, e 93, e 94, e 95, e 96, e 97, e 98, e 99, e 100, e 101, e 102, e 103, e 104, e 105, e 106, e 107] := by
  refine ⟨fun k => l.getD k undef, ?_⟩
  have h2 : l = (List.range 108).map fun k => l.getD k undef := by
    apply List.ext_getElem
    · simp [h]
    · intro i h1 h2
      simp [List.getD_eq_getElem?_getD, h1]
  exact h2
/-- the row behind the first one -/
theorem sps_tail {w : World} {b o n c : Nat} {x : Int × Int} {l : List (Int × Int)} (h : SpsAt (fun _ => True) w (.slice (some ⟨b, o, none⟩) (n + 1) c) (x :: l)) (hn : n = l.length) : SpsAt (fun _ => True) w (.slice (some ⟨b, o + 2, none⟩) n (c - 1)) l := by
  have hok := h.ok
  have hsm := h.small
  have hr := h.row
  refine ⟨⟨flat_len (f := spCs) (n := 2) (fun _ => rfl) l, ?_⟩, fun s hs => hok s (List.mem_cons_of_mem _ hs), by simp at hsm; omega⟩
  rcases hr.at_ with ⟨h0, _⟩ | ⟨b', o', c', e1, k1, k2, k3, k4, k5⟩
  · simp at h0
  · simp only [Value.slice.injEq, Option.some.injEq, Addr.mk.injEq, and_true, List.length_cons] at e1
    obtain ⟨⟨rfl, rfl⟩, -, rfl⟩ := e1
    by_cases h0 : l.length = 0
    · exact .inl ⟨h0, _, _, by rw [hn, h0]⟩
    · refine .inr ⟨b, o + 2, c - 1, by rw [hn], by simp at k1; omega, by omega, trivial, k4, fun j hj => ?_⟩
      have := k5 (2 + j) (by
        simp only [List.flatMap_cons, List.length_append]
        have : (spCs x).length = 2 := rfl
        omega)
      rw [show o + 2 + j = o + (2 + j) by omega, this]
      simp only [List.flatMap_cons]
      rw [List.getElem?_append_right (by show 2 ≤ 2 + j; omega)]
      congr 1
      show 2 + j - 2 = j
      omega
set_option maxHeartbeats 8000000 in
set_option maxRecDepth 100000 in
theorem lg_round {b1 f1 c1 b2 f2 c2 n i G st bs fs cs : Nat} {o : Option Addr} {cx : Nat} {x : List (Int × Int)} {W : World} {J : Act → World → Prop} {Q : Exit → Act → World → Prop} (e : Nat → Value) (hi : i < n) (hn : n ≤ 500) (hst : st ≤ 64) (hG : x.length = G) (hGl : G ≤ 60)
    (d0 : W.cell? ⟨b2, f2 + i * 2, none⟩ = some (.int .i64 st)) (d1 : W.cell? ⟨b2, f2 + i * 2 + 1, none⟩ = some (.slice (some ⟨bs, fs, none⟩) (G + 1) cs)) (z2 : b2 < W.heap.size)
    (d2 : W.cell? ⟨b1, f1 + i * 2 + 1, none⟩ = some (.slice o G cx)) (z1 : b1 < W.heap.size)
    (d3 : W.cell? ⟨bs, fs, none⟩ = some (.int .i64 0)) (d4 : W.cell? ⟨bs, fs + 1, none⟩ = some (.int .i64 st)) (zs : bs < W.heap.size) (hcs : G + 1 ≤ cs)
    (hx : SpsAt (fun _ => True) W (.slice o G cx) x) (hy : SpsAt (fun _ => True) W (.slice (some ⟨bs, fs, none⟩) (G + 1) cs) ((0, (st : Int)) :: x))
    (hJ : ∀ (m : List Value) (w' : World), m.length = 108 → m[7]? = some (.slice (some ⟨b1, f1, none⟩) n c1) → m[67]? = some (.slice (some ⟨b2, f2, none⟩) n c2) → m[68]? = some (.int .i64 n) → m[69]? = some (.int .i64 ((i + 1 : Nat) : Int)) → Below W.heap.size W w' → J ⟨m.toArray, []⟩ w') :
    Code.wp Tryd.prog (lgC [1, 1, 1, 1, 1, 1, 1, 1, 0, 1, 0, 0]) (Exit.then J Q) ⟨#[e 0, e 1, e 2, e 3, e 4, e 5, e 6, .slice (some ⟨b1, f1, none⟩) n c1, e 8, e 9, e 10, e 11, e 12, e 13, e 14, e 15, e 16, e 17, e 18, e 19, e 20, e 21, e 22, e 23, e 24, e 25, e 26, e 27, e 28, e 29, e 30, e 31, e 32, e 33, e 34, e 35, e 36, e 37, e 38, e 39, e 40, e 41, e 42, e 43, e 44, e 45, e 46, e 47, e 48, e 49, e 50, e 51, e 52, e 53, e 54, e 55, e 56, e 57, e 58, e 59, e 60, e 61, e 62, e 63, e 64, e 65, e 66, .slice (some ⟨b2, f2, none⟩) n c2, .int .i64 n, .int .i64 i, e 70, e 71, e 72, e 73, e 74, e 75, e 76, e 77, e 78, e 79, e 80, e 81, e 82, e 83, e 84, e 85, e 86, e 87, e 88, e 89, e 90, e 91, e 92, e 93, e 94, e 95, e 96, e 97, e 98, e 99, e 100, e 101, e 102, e 103, e 104, e 105, e 106, e 107], []⟩ W := by
  have hiI : (i : Int) < n := by omega
  have hnI : (n : Int) ≤ 500 := by omega
  have hGI : (G : Int) ≤ 60 := by omega
  have hcsI : (G : Int) + 1 ≤ cs := by omega
  have hG0 : (0 : Int) ≤ G := by omega
  have hc1 : (1 : Int) ≤ cs := by omega
  have hB : Blk (W.alloc (.cells #[.int .i64 st, .slice (some ⟨bs, fs, none⟩) (G + 1) cs] 43)) W.heap.size #[.int .i64 st, .slice (some ⟨bs, fs, none⟩) (G + 1) cs] 43 := Blk.new _ _ _
  have hb : Below W.heap.size W (W.alloc (.cells #[.int .i64 st, .slice (some ⟨bs, fs, none⟩) (G + 1) cs] 43)) := (Below.refl _ _).alloc (Nat.le_refl _) _
  have kb := Kept.of_below hb (fun _ => False)
  have D := Lib.hid (show _ ∧ _ ∧ _ ∧ _ ∧ _ ∧ _ ∧ _ ∧ _ from ⟨((bcell hb).1 b1 (f1 + i * 2 + 1) z1).trans d2, hB.cell 0, hB.cell 1, ((bcell hb).1 bs fs zs).trans d3, ((bcell hb).1 bs (fs + 1) zs).trans d4, Nat.lt_of_lt_of_le z1 hb.size, hB.lt, Nat.lt_of_lt_of_le zs hb.size⟩)
  have hx1 := SpsAt.go hx kb (M := fun _ => True) (fun _ _ h => ⟨id, h⟩)
  obtain ⟨pf, hpf, hy1⟩ : ∃ pf, ((cs = 1 ∧ pf = fs) ∨ (2 ≤ cs ∧ pf = fs + 2)) ∧ SpsAt (fun _ => True) (W.alloc (.cells #[.int .i64 st, .slice (some ⟨bs, fs, none⟩) (G + 1) cs] 43)) (.slice (some ⟨bs, pf, none⟩) G (cs - 1)) x := by
    by_cases h1 : cs = 1
    · have h0 : x = [] := List.eq_nil_of_length_eq_zero (by omega)
      refine ⟨fs, .inl ⟨h1, rfl⟩, ?_⟩
      subst h0
      exact ⟨⟨rfl, .inl ⟨rfl, some ⟨bs, fs, none⟩, cs - 1, by rw [← hG]; rfl⟩⟩, by simp, by simp⟩
    · exact ⟨fs + 2, .inr ⟨by omega, rfl⟩, sps_tail (SpsAt.go hy kb (M := fun _ => True) (fun _ _ h => ⟨id, h⟩)) hG.symm⟩
  have HPF := Lib.hid hpf
  have HD := D
  have HX := Lib.hid hx1
  have HY := Lib.hid hy1
  have HBE := Lib.hid hb
  have HJ := Lib.hid hJ
  have HG := Lib.hid hG
  clear D hB hb kb hx hy hx1 hy1 hJ hG hpf
  conv => arg 2; whnf
  go_upto_region 14 with fail
  generalize (W.alloc (.cells #[.int .i64 st, .slice (some ⟨bs, fs, none⟩) (G + 1) cs] 43)) = V at HD HX HY HBE ⊢
  have hcall : ∀ w, Below V.heap.size V w → Calls Tryd.prog 14 #[.slice (some ⟨bs, pf, none⟩) G (cs - 1), .slice o G cx] w (Eqs true w) := by
    intro w hb
    have k := Kept.of_below hb (fun _ => False)
    have := equalS_any (SpsAt.go HY.out k (M := fun _ => True) (fun _ _ h => ⟨id, h⟩)) (SpsAt.go HX.out k (M := fun _ => True) (fun _ _ h => ⟨id, h⟩)) (by rw [HG.out]; omega) (by rw [HG.out]; omega)
    rw [decide_eq_true rfl] at this
    exact this
  have HCALL := Lib.hid hcall
  clear hcall d0 d1 d2 d3 d4 z1 z2 zs
  apply wp_flowX ?hm ?hok [some _, some _, some _, some _, some _, some _, some _, some _, some _, some _, some _, some _, some _, some _, some _, some _, some _, some _, some _, some _, some _, some _, some _, some _, some (.slice (some ⟨bs, pf, none⟩) G (cs - 1)), some _, some _, some _, some _, some _, some (.bool true), some _, some _] (fun _ _ w' => Below V.heap.size V w') ?hw ?h
  case hm => rfl
  case hok => kernel_rfl
  case hw => exact (Below.refl _ _).drew
  case h =>
    intro u
    iterate 24
      apply flowX_read rfl
      case hs => exact fun _ _ _ h => h
      case h =>
        intro S w hS hW K hK
        have D := HD.out
        have g0 := ((bcell hW).1 _ _ D.2.2.2.2.2.1).trans D.1
        have g1 := ((bcell hW).1 _ _ D.2.2.2.2.2.2.1).trans D.2.1
        have g2 := ((bcell hW).1 _ _ D.2.2.2.2.2.2.1).trans D.2.2.1
        have g3 := ((bcell hW).1 _ _ D.2.2.2.2.2.2.2).trans D.2.2.2.1
        have g4 := ((bcell hW).1 _ _ D.2.2.2.2.2.2.2).trans D.2.2.2.2.1
        have z0 := Nat.lt_of_lt_of_le D.2.2.2.2.2.1 hW.size
        have z1 := Nat.lt_of_lt_of_le D.2.2.2.2.2.2.1 hW.size
        have z2 := Nat.lt_of_lt_of_le D.2.2.2.2.2.2.2 hW.size
        clear D hW hS
        go_wp2_with fail
        exact hK
      case' k => simp only [Act.put, List.setIfInBounds_toArray, List.set_cons_zero, List.set_cons_succ, Nat.reduceAdd]
    apply flowX_read rfl
    case hs => exact fun _ _ _ h => h
    case h =>
      intro S w hS hW K hK
      have HK := Lib.hid hK
      clear hS hW hK
      rcases HPF.out with ⟨h1, h2⟩ | ⟨h1, h2⟩
      · obtain rfl : G = 0 := by omega
        subst h1 h2
        go_wp2_with fail
        exact HK.out
      · subst h2
        have h2I : (2 : Int) ≤ cs := by omega
        go_wp2_with fail
        all_goals (first | exact HK.out | (exfalso; omega))
    case' k => simp only [Act.put, List.setIfInBounds_toArray, List.set_cons_zero, List.set_cons_succ, Nat.reduceAdd]
    iterate 5
      apply flowX_read rfl
      case hs => exact fun _ _ _ h => h
      case h =>
        intro S w hS hW K hK
        have D := HD.out
        have g0 := ((bcell hW).1 _ _ D.2.2.2.2.2.1).trans D.1
        have g1 := ((bcell hW).1 _ _ D.2.2.2.2.2.2.1).trans D.2.1
        have g2 := ((bcell hW).1 _ _ D.2.2.2.2.2.2.1).trans D.2.2.1
        have g3 := ((bcell hW).1 _ _ D.2.2.2.2.2.2.2).trans D.2.2.2.1
        have g4 := ((bcell hW).1 _ _ D.2.2.2.2.2.2.2).trans D.2.2.2.2.1
        have z0 := Nat.lt_of_lt_of_le D.2.2.2.2.2.1 hW.size
        have z1 := Nat.lt_of_lt_of_le D.2.2.2.2.2.2.1 hW.size
        have z2 := Nat.lt_of_lt_of_le D.2.2.2.2.2.2.2 hW.size
        clear D hW hS
        go_wp2_with fail
        exact hK
      case' k => simp only [Act.put, List.setIfInBounds_toArray, List.set_cons_zero, List.set_cons_succ, Nat.reduceAdd]
    apply flowX_yes rfl
    case h =>
      intro S w hS hW K hK
      have hC := HCALL.out w hW
      have hK' := fun w' hb => hK w' (Below.trans hW (Below.mono hb hW.size))
      have HK := Lib.hid hK'
      have HC := Lib.hid hC
      clear hS hW hK hK' hC
      go_wp2_with (go_at_call 14; go_loud (refine HC.out.mono ?_; rintro ee w' ⟨rfl, hb'⟩))
      exact HK.out _ hb'
    case' k => simp only [Act.put, List.setIfInBounds_toArray, List.set_cons_zero, List.set_cons_succ, Nat.reduceAdd]
    iterate 2
      apply flowX_read rfl
      case hs => exact fun _ _ _ h => h
      case h =>
        intro S w hS hW K hK
        clear hS hW
        go_wp2_with fail
        exact hK
      case' k => simp only [Act.put, List.setIfInBounds_toArray, List.set_cons_zero, List.set_cons_succ, Nat.reduceAdd]
    refine flowX_end ?_
    intro S W3 hS hW
    have HJ' := Lib.hid (fun (m : List Value) h0 h1 h2 h3 h4 => HJ.out m W3 h0 h1 h2 h3 h4 (HBE.out.trans (Below.mono hW HBE.out.size)))
    clear hS hW HJ HCALL HD HX HY HBE HG
    go_wp2_with fail
    exact HJ'.out _ rfl rfl rfl rfl rfl
end Go.Proofs.YtnhjakdmbfadlaaDoor
