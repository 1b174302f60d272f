/- The reference's Change, done. -/
import Derived.Test.YtokgfmibhkkiaaaRefG
namespace Go.Proofs.Ytokgfmibhkkiaaa
open Go.RowKit Wh Tw Mem Grow

theorem flatC_one (l : List Mb) : ∀ u ∈ flatC l, u.oneCell' = true := by
  intro u hu
  unfold flatC at hu
  rw [List.mem_flatMap] at hu
  obtain ⟨c, -, hc⟩ := hu
  simp [cellsC] at hc
  rcases hc with rfl | rfl | rfl | rfl | rfl | rfl <;> rfl

theorem after_app {W w4 : World} {b : Nat} {cs : Array Value} {v : Value} {n : Nat} {xs : List Value} (C : Blk W b cs 92) (hg : (W.alloc (.cells #[] 118)).grownBy w4 (Value.slice (some ⟨W.heap.size, 0, none⟩) 0 0).ownBlock)
    (hown : w4.ownsRow W.heap.size 118 6 v (0 + n) ([] ++ xs)) : Blk w4 b cs 92 ∧ Hid (w4.ownsRow W.heap.size 118 6 v n xs) := by
  have hl := C.lt
  refine ⟨blk_beside (C.alloc _) hg (by simp [Value.ownBlock]; omega), Lib.hid ?_⟩
  simpa using hown
theorem own_q {b n c q : Nat} (h : (Value.slice (some ⟨b, 0, none⟩) n c).ownBlock = some q) : b = q := by simpa [Value.ownBlock] using h
theorem after_appM {W w4 : World} {b : Nat} {cs : Array Value} {t : TypeId} (C : Blk W b cs t) (hg : (W.alloc (.cells #[] 118)).grownBy w4 (Value.slice (some ⟨W.heap.size, 0, none⟩) 0 0).ownBlock) : Blk w4 b cs t := by
  have hl := C.lt
  exact blk_beside (C.alloc _) hg (by simp [Value.ownBlock]; omega)
set_option maxHeartbeats 4000000 in
set_option maxRecDepth 100000 in
theorem rchange_yes {w : World} {ob : Option Addr} {cap : Nat} {l : List Mb} (h : RowAt w ob cap l) (hl : Ids l) (now id fr tt : Int) (hlen : l.length ≤ 10000) {k : Nat} (hk : k < l.length) (hid : l[k].id = id) (hs : l[k].phase.state = fr)
    {ph : Phase} (hq : (tt = 0 ∧ ph = ⟨0, 0⟩) ∨ ((tt == 0) = false ∧ ph = ⟨tt, l[k].phase.since⟩)) :
    Calls Try.prog 45 #[.agg #[.int .i64 now, .slice ob l.length cap], .int .i64 id, .int .u8 fr, .int .u8 tt] w fun e w' => ∃ g c, e = .returned (.tuple #[.agg #[.int .i64 now, .slice (some ⟨g, 0, none⟩) l.length c], .int .i64 l[k].phase.since, .int .i64 0]) ∧
      w'.ownsRow w.heap.size 118 6 (.slice (some ⟨g, 0, none⟩) l.length c) l.length (flatC (setM l id ph)) ∧ Below w.heap.size w w' := by
  have hb2 : Below w.heap.size w ((w.alloc (.cells #[.int .i64 now, .slice ob l.length cap] 92)).alloc (.cells #[.int .i64 0, .slice none 0 0] 92)) := ((Below.refl _ _).alloc (Nat.le_refl _) _).alloc (by simp) _
  have B0 : Blk ((w.alloc (.cells #[.int .i64 now, .slice ob l.length cap] 92)).alloc (.cells #[.int .i64 0, .slice none 0 0] 92)) w.heap.size #[.int .i64 now, .slice ob l.length cap] 92 := (Blk.new w _ 92).alloc _
  have B1 : Blk ((w.alloc (.cells #[.int .i64 now, .slice ob l.length cap] 92)).alloc (.cells #[.int .i64 0, .slice none 0 0] 92)) (w.heap.size + 1) #[.int .i64 0, .slice none 0 0] 92 := Blk.new' (w := w.alloc _) _ 92 (by simp)
  have HF := Lib.hid (rfind_yes (h.below hb2) hl now id hlen hk hid)
  have HB0 := Lib.hid B0
  have HB1 := Lib.hid B1
  obtain ⟨g, hob, hg, c0, c1, c2, c3, c4, c5⟩ := h.memb k (by simpa using hk)
  simp only [List.getElem_map, core] at c0 c1 c2 c3 c4 c5
  have hne : (l[k].phase.state != fr) = false := by simp [hs]
  have hres : setM l id ph = l.set k (setP l[k] ph) := by rw [set_setM hl hk, hid]
  rw [hres]
  obtain ⟨m, hm⟩ : ∃ m, m = l[k] := ⟨_, rfl⟩
  rw [← hm] at c0 c1 c2 c3 c4 c5 hne hq ⊢
  subst hob
  have HROW := Lib.hid h
  have hkl : (k : Int) < l.length := by omega
  have HQ := Lib.hid hq
  clear h B0 B1 hl hid hs hm hres
  obtain ⟨j0, hj0, hj1, hj2, hj3⟩ := info_parts info118
  rcases hq with ⟨htt, rfl⟩ | ⟨htt, rfl⟩
  · subst htt
    go_enter Try.func45, Try.ntmps45
    go_upto_region 11 with (first | (go_at_call 59; refine HF.out.mono ?_; rintro e w' ⟨rfl, hb⟩; have B0 := (HB0.out.below hb (by simp; omega)); have B1 := (HB1.out.below hb (by simp)); have HB0 := Lib.hid B0; have HB1 := Lib.hid B1; obtain ⟨x0, x1, x2, x3⟩ := B0.two; have z0 := fun O => ((B0.alloc O).two).1; have z1 := fun O => ((B0.alloc O).two).2.1; have hbw := hb2.trans (hb.mono (by simp; omega)); have d0 := (hbw.cell (p := ⟨g, k * 6, none⟩) hg).trans c0; have d1 := (hbw.cell (p := ⟨g, k * 6 + 1, none⟩) hg).trans c1; have d2 := (hbw.cell (p := ⟨g, k * 6 + 2, none⟩) hg).trans c2; have d3 := (hbw.cell (p := ⟨g, k * 6 + 3, none⟩) hg).trans c3; have d4 := (hbw.cell (p := ⟨g, k * 6 + 4, none⟩) hg).trans c4; have d5 := (hbw.cell (p := ⟨g, k * 6 + 5, none⟩) hg).trans c5; have hbz := hbw.size; have hlt1 := B1.lt; clear B0 B1 c0 c1 c2 c3 c4 c5))
    have BM : Blk (w'.alloc (.cells #[.int .i64 m.id, .int .i64 m.plan.every, .int .i64 m.plan.offset, .int .i64 m.plan.timeout, .int .u8 0, .int .i64 0] 118)) w'.heap.size #[.int .i64 m.id, .int .i64 m.plan.every, .int .i64 m.plan.offset, .int .i64 m.plan.timeout, .int .u8 0, .int .i64 0] 118 := Blk.new w' #[.int .i64 m.id, .int .i64 m.plan.every, .int .i64 m.plan.offset, .int .i64 m.plan.timeout, .int .u8 0, .int .i64 0] 118
    have C0 := HB0.out.alloc (.cells #[.int .i64 m.id, .int .i64 m.plan.every, .int .i64 m.plan.offset, .int .i64 m.plan.timeout, .int .u8 0, .int .i64 0] 118)
    have C1 := HB1.out.alloc (.cells #[.int .i64 m.id, .int .i64 m.plan.every, .int .i64 m.plan.offset, .int .i64 m.plan.timeout, .int .u8 0, .int .i64 0] 118)
    have hbW := hbw.alloc hbz (.cells #[.int .i64 m.id, .int .i64 m.plan.every, .int .i64 m.plan.offset, .int .i64 m.plan.timeout, .int .u8 0, .int .i64 0] 118)
    generalize (w'.alloc (.cells #[.int .i64 m.id, .int .i64 m.plan.every, .int .i64 m.plan.offset, .int .i64 m.plan.timeout, .int .u8 0, .int .i64 0] 118)) = W at BM C0 C1 hbW ⊢
    have hzW := hbW.size
    have hlm := BM.lt
    have hl0 := C0.lt
    have hl1 := C1.lt
    have HRW := Lib.hid (own_at HROW.out (fun q _ hq => hbW.block q hq))
    obtain ⟨x0, x1, x2, x3⟩ := C0.two
    have z0 := fun O => (C0.alloc O).two.1
    have z1 := fun O => (C0.alloc O).two.2.1
    have z2 := fun O => (C0.alloc O).frozen 1
    have hme := World.ownsRow_made (base := W.heap.size) (e := 118) (size := 6) W #[] 0 (Nat.le_refl _) (by decide) (by rfl)
    have hnews : ∀ j u, (flatC l)[j]? = some u → (W.alloc (.cells #[] 118)).cell? ((⟨g, 0, none⟩ : Addr).add j) = some u := (HRW.out.alloc (.cells #[] 118)).cells (g := g) rfl
    have hone : ∀ u ∈ flatC l, u.oneCell' = true := flatC_one l
    have hmax : 0 + l.length ≤ maxLen := by unfold maxLen; omega
    have hbyt : (0 + l.length) * 48 ≤ 140737488355328 := by omega
    have hbs : W.heap.size ≤ (W.alloc (.cells #[] 118)).heap.size := by simp
    have hfl := flatC_len l
    have hpos : 0 < l.length := by omega
    have HME := Lib.hid hme
    have HC0 := Lib.hid C0
    have HC1 := Lib.hid C1
    have HBM := Lib.hid BM
    clear hme C0 C1 BM hbw d0 d1 d2 d3 d4 d5 HB0 HB1
    go_upto_region 12 with (first
      | (at_builtin; refine wpList_append_lies _ rfl _ _ 90 rfl W.heap.size 118 j0 (.agg #[.int .i64 0, .int .i64 0, .int .i64 0, .int .i64 0, .int .u8 0, .int .i64 0]) 6 48 Try.underlying90 hj0 hj1 hj2 hj3 rfl (by decide) _ 0 [] rfl HME.out _ l.length cap _ rfl hfl hnews hone hpos hmax hbyt hbs _ rfl ?_; intro g2 c2 w4 hown' hgrow hat hlt4; obtain ⟨D0, HOW⟩ := after_app HC0.out hgrow hown'; have q0 := D0.frozen 1; have q1 := D0.two.2.1; have HD0 := Lib.hid D0; clear D0 z0 z1 z2; have hown := hown'; clear hown'))
    have hlo := (HOW.out.lt g2 rfl).1
    have E0 := HD0.out.set 1 (.slice (some ⟨g2, 0, none⟩) l.length c2)
    have E1 : Blk (w4.setCell ⟨w.heap.size, 1, none⟩ (.slice (some ⟨g2, 0, none⟩) l.length c2)) (w.heap.size + 1) #[.int .i64 0, .slice none 0 0] 92 := (after_app HC1.out hgrow (by simpa using HOW.out)).1.setOther (by show w.heap.size + 1 ≠ w.heap.size; omega) _
    have EM : Blk (w4.setCell ⟨w.heap.size, 1, none⟩ (.slice (some ⟨g2, 0, none⟩) l.length c2)) w'.heap.size #[.int .i64 m.id, .int .i64 m.plan.every, .int .i64 m.plan.offset, .int .i64 m.plan.timeout, .int .u8 0, .int .i64 0] 118 := (after_appM HBM.out hgrow).setOther (by show w'.heap.size ≠ w.heap.size; omega) _
    have ER : (w4.setCell ⟨w.heap.size, 1, none⟩ (.slice (some ⟨g2, 0, none⟩) l.length c2)).ownsRow W.heap.size 118 6 (.slice (some ⟨g2, 0, none⟩) l.length c2) l.length (flatC l) := ownsRow_setCell_below (a := ⟨w.heap.size, 1, none⟩) (by simpa using HOW.out) (by show w.heap.size < W.heap.size; omega) _
    have hbX : Below w.heap.size w (w4.setCell ⟨w.heap.size, 1, none⟩ (.slice (some ⟨g2, 0, none⟩) l.length c2)) := ((hbW.alloc hzW _).grown hgrow (by simp; omega) (fun q hq => by rw [← own_q hq]; omega)).setCell (Nat.le_refl _) _
    generalize (w4.setCell ⟨w.heap.size, 1, none⟩ (.slice (some ⟨g2, 0, none⟩) l.length c2)) = X at E0 E1 EM ER hbX ⊢
    have hra : RowAt X (some ⟨g2, 0, none⟩) c2 l := own_weak ER (Nat.zero_le _)
    obtain ⟨g', hg', hgx, c0, c1, c2', c3, c4, c5⟩ := hra.memb k (by simpa using hk)
    clear hra
    obtain rfl : g2 = g' := by simpa using hg'
    have f0 := ER.frozenAt
    have y0 : X.cell? ⟨w'.heap.size, 0, none⟩ = some (.int .i64 m.id) := by rw [EM.cell]; rfl
    have y1 : X.cell? ⟨w'.heap.size, 1, none⟩ = some (.int .i64 m.plan.every) := by rw [EM.cell]; rfl
    have y2 : X.cell? ⟨w'.heap.size, 2, none⟩ = some (.int .i64 m.plan.offset) := by rw [EM.cell]; rfl
    have y3 : X.cell? ⟨w'.heap.size, 3, none⟩ = some (.int .i64 m.plan.timeout) := by rw [EM.cell]; rfl
    have y4 : X.cell? ⟨w'.heap.size, 4, none⟩ = some (.int .u8 0) := by rw [EM.cell]; rfl
    have y5 : X.cell? ⟨w'.heap.size, 5, none⟩ = some (.int .i64 0) := by rw [EM.cell]; rfl
    obtain ⟨v0, v1, v2, v3⟩ := E0.two
    have HE0 := Lib.hid E0
    have HE1 := Lib.hid E1
    have HER := Lib.hid ER
    clear E0 E1 EM ER q0 q1 hgrow hat hlt4 hown HD0 HOW
    go_upto_region 13 with (fail)
    have hs6 := set6 l k (setP m ⟨0, 0⟩) hk
    have FR := own_set (own_set (own_set (own_set (own_set (own_set HER.out (i := k * 6) (.int .i64 m.id)) (i := k * 6 + 1) (.int .i64 m.plan.every)) (i := k * 6 + 2) (.int .i64 m.plan.offset)) (i := k * 6 + 3) (.int .i64 m.plan.timeout)) (i := k * 6 + 4) (.int .u8 0)) (i := k * 6 + 5) (.int .i64 0)
    have F0 := (((((HE0.out.setOther (p := ⟨g2, k * 6, none⟩) (by show w.heap.size ≠ g2; omega) (.int .i64 m.id)).setOther (p := ⟨g2, k * 6 + 1, none⟩) (by show w.heap.size ≠ g2; omega) (.int .i64 m.plan.every)).setOther (p := ⟨g2, k * 6 + 2, none⟩) (by show w.heap.size ≠ g2; omega) (.int .i64 m.plan.offset)).setOther (p := ⟨g2, k * 6 + 3, none⟩) (by show w.heap.size ≠ g2; omega) (.int .i64 m.plan.timeout)).setOther (p := ⟨g2, k * 6 + 4, none⟩) (by show w.heap.size ≠ g2; omega) (.int .u8 0)).setOther (p := ⟨g2, k * 6 + 5, none⟩) (by show w.heap.size ≠ g2; omega) (.int .i64 0)
    have F1 := (((((HE1.out.setOther (p := ⟨g2, k * 6, none⟩) (by show w.heap.size + 1 ≠ g2; omega) (.int .i64 m.id)).setOther (p := ⟨g2, k * 6 + 1, none⟩) (by show w.heap.size + 1 ≠ g2; omega) (.int .i64 m.plan.every)).setOther (p := ⟨g2, k * 6 + 2, none⟩) (by show w.heap.size + 1 ≠ g2; omega) (.int .i64 m.plan.offset)).setOther (p := ⟨g2, k * 6 + 3, none⟩) (by show w.heap.size + 1 ≠ g2; omega) (.int .i64 m.plan.timeout)).setOther (p := ⟨g2, k * 6 + 4, none⟩) (by show w.heap.size + 1 ≠ g2; omega) (.int .u8 0)).setOther (p := ⟨g2, k * 6 + 5, none⟩) (by show w.heap.size + 1 ≠ g2; omega) (.int .i64 0)
    have hbY := (((((hbX.setCell (p := ⟨g2, k * 6, none⟩) (by show w.heap.size ≤ g2; omega) (.int .i64 m.id)).setCell (p := ⟨g2, k * 6 + 1, none⟩) (by show w.heap.size ≤ g2; omega) (.int .i64 m.plan.every)).setCell (p := ⟨g2, k * 6 + 2, none⟩) (by show w.heap.size ≤ g2; omega) (.int .i64 m.plan.offset)).setCell (p := ⟨g2, k * 6 + 3, none⟩) (by show w.heap.size ≤ g2; omega) (.int .i64 m.plan.timeout)).setCell (p := ⟨g2, k * 6 + 4, none⟩) (by show w.heap.size ≤ g2; omega) (.int .u8 0)).setCell (p := ⟨g2, k * 6 + 5, none⟩) (by show w.heap.size ≤ g2; omega) (.int .i64 0)
    clear c0 c1 c2' c3 c4 c5 y0 y1 y2 y3 y4 y5 f0 v0 v1 v2 v3 HE0 HE1 HER
    generalize ((((((X.setCell ⟨g2, k * 6, none⟩ (.int .i64 m.id)).setCell ⟨g2, k * 6 + 1, none⟩ (.int .i64 m.plan.every)).setCell ⟨g2, k * 6 + 2, none⟩ (.int .i64 m.plan.offset)).setCell ⟨g2, k * 6 + 3, none⟩ (.int .i64 m.plan.timeout)).setCell ⟨g2, k * 6 + 4, none⟩ (.int .u8 0)).setCell ⟨g2, k * 6 + 5, none⟩ (.int .i64 0)) = Y at FR F0 F1 hbY ⊢
    have FR2 : Y.ownsRow W.heap.size 118 6 (.slice (some ⟨g2, 0, none⟩) l.length c2) l.length (flatC (l.set k (setP m ⟨0, 0⟩))) := by rw [← hs6]; exact FR
    obtain ⟨c0, c1, -, -⟩ := F0.two
    obtain ⟨v0, v1, v2, v3⟩ := F1.two
    have HFR := Lib.hid FR2
    clear FR FR2 F0 F1 hs6
    go_wp2
    refine bodyPost_ret (v := .tuple #[.agg #[.int .i64 now, .slice (some ⟨g2, 0, none⟩) l.length c2], .int .i64 m.phase.since, .int .i64 0]) ?_ rfl ⟨_, _, rfl, ?_, ?_⟩
    · simp [results, Try.results45, go_sem, v0, v1]
    · exact own_weak (ownsRow_setCell_below (ownsRow_setCell_below HFR.out (by show w.heap.size + 1 < _; omega) _) (by show w.heap.size + 1 < _; omega) _) hzW
    · exact (hbY.setCell (by show w.heap.size ≤ w.heap.size + 1; omega) _).setCell (by show w.heap.size ≤ w.heap.size + 1; omega) _
  · go_enter Try.func45, Try.ntmps45
    go_upto_region 11 with (first | (go_at_call 59; refine HF.out.mono ?_; rintro e w' ⟨rfl, hb⟩; have B0 := (HB0.out.below hb (by simp; omega)); have B1 := (HB1.out.below hb (by simp)); have HB0 := Lib.hid B0; have HB1 := Lib.hid B1; obtain ⟨x0, x1, x2, x3⟩ := B0.two; have z0 := fun O => ((B0.alloc O).two).1; have z1 := fun O => ((B0.alloc O).two).2.1; have hbw := hb2.trans (hb.mono (by simp; omega)); have d0 := (hbw.cell (p := ⟨g, k * 6, none⟩) hg).trans c0; have d1 := (hbw.cell (p := ⟨g, k * 6 + 1, none⟩) hg).trans c1; have d2 := (hbw.cell (p := ⟨g, k * 6 + 2, none⟩) hg).trans c2; have d3 := (hbw.cell (p := ⟨g, k * 6 + 3, none⟩) hg).trans c3; have d4 := (hbw.cell (p := ⟨g, k * 6 + 4, none⟩) hg).trans c4; have d5 := (hbw.cell (p := ⟨g, k * 6 + 5, none⟩) hg).trans c5; have hbz := hbw.size; have hlt1 := B1.lt; clear B0 B1 c0 c1 c2 c3 c4 c5))
    have BM : Blk (w'.alloc (.cells #[.int .i64 m.id, .int .i64 m.plan.every, .int .i64 m.plan.offset, .int .i64 m.plan.timeout, .int .u8 tt, .int .i64 m.phase.since] 118)) w'.heap.size #[.int .i64 m.id, .int .i64 m.plan.every, .int .i64 m.plan.offset, .int .i64 m.plan.timeout, .int .u8 tt, .int .i64 m.phase.since] 118 := Blk.new w' #[.int .i64 m.id, .int .i64 m.plan.every, .int .i64 m.plan.offset, .int .i64 m.plan.timeout, .int .u8 tt, .int .i64 m.phase.since] 118
    have C0 := HB0.out.alloc (.cells #[.int .i64 m.id, .int .i64 m.plan.every, .int .i64 m.plan.offset, .int .i64 m.plan.timeout, .int .u8 tt, .int .i64 m.phase.since] 118)
    have C1 := HB1.out.alloc (.cells #[.int .i64 m.id, .int .i64 m.plan.every, .int .i64 m.plan.offset, .int .i64 m.plan.timeout, .int .u8 tt, .int .i64 m.phase.since] 118)
    have hbW := hbw.alloc hbz (.cells #[.int .i64 m.id, .int .i64 m.plan.every, .int .i64 m.plan.offset, .int .i64 m.plan.timeout, .int .u8 tt, .int .i64 m.phase.since] 118)
    generalize (w'.alloc (.cells #[.int .i64 m.id, .int .i64 m.plan.every, .int .i64 m.plan.offset, .int .i64 m.plan.timeout, .int .u8 tt, .int .i64 m.phase.since] 118)) = W at BM C0 C1 hbW ⊢
    have hzW := hbW.size
    have hlm := BM.lt
    have hl0 := C0.lt
    have hl1 := C1.lt
    have HRW := Lib.hid (own_at HROW.out (fun q _ hq => hbW.block q hq))
    obtain ⟨x0, x1, x2, x3⟩ := C0.two
    have z0 := fun O => (C0.alloc O).two.1
    have z1 := fun O => (C0.alloc O).two.2.1
    have z2 := fun O => (C0.alloc O).frozen 1
    have hme := World.ownsRow_made (base := W.heap.size) (e := 118) (size := 6) W #[] 0 (Nat.le_refl _) (by decide) (by rfl)
    have hnews : ∀ j u, (flatC l)[j]? = some u → (W.alloc (.cells #[] 118)).cell? ((⟨g, 0, none⟩ : Addr).add j) = some u := (HRW.out.alloc (.cells #[] 118)).cells (g := g) rfl
    have hone : ∀ u ∈ flatC l, u.oneCell' = true := flatC_one l
    have hmax : 0 + l.length ≤ maxLen := by unfold maxLen; omega
    have hbyt : (0 + l.length) * 48 ≤ 140737488355328 := by omega
    have hbs : W.heap.size ≤ (W.alloc (.cells #[] 118)).heap.size := by simp
    have hfl := flatC_len l
    have hpos : 0 < l.length := by omega
    have HME := Lib.hid hme
    have HC0 := Lib.hid C0
    have HC1 := Lib.hid C1
    have HBM := Lib.hid BM
    clear hme C0 C1 BM hbw d0 d1 d2 d3 d4 d5 HB0 HB1
    go_upto_region 12 with (first
      | (at_builtin; refine wpList_append_lies _ rfl _ _ 90 rfl W.heap.size 118 j0 (.agg #[.int .i64 0, .int .i64 0, .int .i64 0, .int .i64 0, .int .u8 0, .int .i64 0]) 6 48 Try.underlying90 hj0 hj1 hj2 hj3 rfl (by decide) _ 0 [] rfl HME.out _ l.length cap _ rfl hfl hnews hone hpos hmax hbyt hbs _ rfl ?_; intro g2 c2 w4 hown' hgrow hat hlt4; obtain ⟨D0, HOW⟩ := after_app HC0.out hgrow hown'; have q0 := D0.frozen 1; have q1 := D0.two.2.1; have HD0 := Lib.hid D0; clear D0 z0 z1 z2; have hown := hown'; clear hown'))
    have hlo := (HOW.out.lt g2 rfl).1
    have E0 := HD0.out.set 1 (.slice (some ⟨g2, 0, none⟩) l.length c2)
    have E1 : Blk (w4.setCell ⟨w.heap.size, 1, none⟩ (.slice (some ⟨g2, 0, none⟩) l.length c2)) (w.heap.size + 1) #[.int .i64 0, .slice none 0 0] 92 := (after_app HC1.out hgrow (by simpa using HOW.out)).1.setOther (by show w.heap.size + 1 ≠ w.heap.size; omega) _
    have EM : Blk (w4.setCell ⟨w.heap.size, 1, none⟩ (.slice (some ⟨g2, 0, none⟩) l.length c2)) w'.heap.size #[.int .i64 m.id, .int .i64 m.plan.every, .int .i64 m.plan.offset, .int .i64 m.plan.timeout, .int .u8 tt, .int .i64 m.phase.since] 118 := (after_appM HBM.out hgrow).setOther (by show w'.heap.size ≠ w.heap.size; omega) _
    have ER : (w4.setCell ⟨w.heap.size, 1, none⟩ (.slice (some ⟨g2, 0, none⟩) l.length c2)).ownsRow W.heap.size 118 6 (.slice (some ⟨g2, 0, none⟩) l.length c2) l.length (flatC l) := ownsRow_setCell_below (a := ⟨w.heap.size, 1, none⟩) (by simpa using HOW.out) (by show w.heap.size < W.heap.size; omega) _
    have hbX : Below w.heap.size w (w4.setCell ⟨w.heap.size, 1, none⟩ (.slice (some ⟨g2, 0, none⟩) l.length c2)) := ((hbW.alloc hzW _).grown hgrow (by simp; omega) (fun q hq => by rw [← own_q hq]; omega)).setCell (Nat.le_refl _) _
    generalize (w4.setCell ⟨w.heap.size, 1, none⟩ (.slice (some ⟨g2, 0, none⟩) l.length c2)) = X at E0 E1 EM ER hbX ⊢
    have hra : RowAt X (some ⟨g2, 0, none⟩) c2 l := own_weak ER (Nat.zero_le _)
    obtain ⟨g', hg', hgx, c0, c1, c2', c3, c4, c5⟩ := hra.memb k (by simpa using hk)
    clear hra
    obtain rfl : g2 = g' := by simpa using hg'
    have f0 := ER.frozenAt
    have y0 : X.cell? ⟨w'.heap.size, 0, none⟩ = some (.int .i64 m.id) := by rw [EM.cell]; rfl
    have y1 : X.cell? ⟨w'.heap.size, 1, none⟩ = some (.int .i64 m.plan.every) := by rw [EM.cell]; rfl
    have y2 : X.cell? ⟨w'.heap.size, 2, none⟩ = some (.int .i64 m.plan.offset) := by rw [EM.cell]; rfl
    have y3 : X.cell? ⟨w'.heap.size, 3, none⟩ = some (.int .i64 m.plan.timeout) := by rw [EM.cell]; rfl
    have y4 : X.cell? ⟨w'.heap.size, 4, none⟩ = some (.int .u8 tt) := by rw [EM.cell]; rfl
    have y5 : X.cell? ⟨w'.heap.size, 5, none⟩ = some (.int .i64 m.phase.since) := by rw [EM.cell]; rfl
    obtain ⟨v0, v1, v2, v3⟩ := E0.two
    have HE0 := Lib.hid E0
    have HE1 := Lib.hid E1
    have HER := Lib.hid ER
    clear E0 E1 EM ER q0 q1 hgrow hat hlt4 hown HD0 HOW
    go_upto_region 13 with (fail)
    have hs6 := set6 l k (setP m ⟨tt, m.phase.since⟩) hk
    have FR := own_set (own_set (own_set (own_set (own_set (own_set HER.out (i := k * 6) (.int .i64 m.id)) (i := k * 6 + 1) (.int .i64 m.plan.every)) (i := k * 6 + 2) (.int .i64 m.plan.offset)) (i := k * 6 + 3) (.int .i64 m.plan.timeout)) (i := k * 6 + 4) (.int .u8 tt)) (i := k * 6 + 5) (.int .i64 m.phase.since)
    have F0 := (((((HE0.out.setOther (p := ⟨g2, k * 6, none⟩) (by show w.heap.size ≠ g2; omega) (.int .i64 m.id)).setOther (p := ⟨g2, k * 6 + 1, none⟩) (by show w.heap.size ≠ g2; omega) (.int .i64 m.plan.every)).setOther (p := ⟨g2, k * 6 + 2, none⟩) (by show w.heap.size ≠ g2; omega) (.int .i64 m.plan.offset)).setOther (p := ⟨g2, k * 6 + 3, none⟩) (by show w.heap.size ≠ g2; omega) (.int .i64 m.plan.timeout)).setOther (p := ⟨g2, k * 6 + 4, none⟩) (by show w.heap.size ≠ g2; omega) (.int .u8 tt)).setOther (p := ⟨g2, k * 6 + 5, none⟩) (by show w.heap.size ≠ g2; omega) (.int .i64 m.phase.since)
    have F1 := (((((HE1.out.setOther (p := ⟨g2, k * 6, none⟩) (by show w.heap.size + 1 ≠ g2; omega) (.int .i64 m.id)).setOther (p := ⟨g2, k * 6 + 1, none⟩) (by show w.heap.size + 1 ≠ g2; omega) (.int .i64 m.plan.every)).setOther (p := ⟨g2, k * 6 + 2, none⟩) (by show w.heap.size + 1 ≠ g2; omega) (.int .i64 m.plan.offset)).setOther (p := ⟨g2, k * 6 + 3, none⟩) (by show w.heap.size + 1 ≠ g2; omega) (.int .i64 m.plan.timeout)).setOther (p := ⟨g2, k * 6 + 4, none⟩) (by show w.heap.size + 1 ≠ g2; omega) (.int .u8 tt)).setOther (p := ⟨g2, k * 6 + 5, none⟩) (by show w.heap.size + 1 ≠ g2; omega) (.int .i64 m.phase.since)
    have hbY := (((((hbX.setCell (p := ⟨g2, k * 6, none⟩) (by show w.heap.size ≤ g2; omega) (.int .i64 m.id)).setCell (p := ⟨g2, k * 6 + 1, none⟩) (by show w.heap.size ≤ g2; omega) (.int .i64 m.plan.every)).setCell (p := ⟨g2, k * 6 + 2, none⟩) (by show w.heap.size ≤ g2; omega) (.int .i64 m.plan.offset)).setCell (p := ⟨g2, k * 6 + 3, none⟩) (by show w.heap.size ≤ g2; omega) (.int .i64 m.plan.timeout)).setCell (p := ⟨g2, k * 6 + 4, none⟩) (by show w.heap.size ≤ g2; omega) (.int .u8 tt)).setCell (p := ⟨g2, k * 6 + 5, none⟩) (by show w.heap.size ≤ g2; omega) (.int .i64 m.phase.since)
    clear c0 c1 c2' c3 c4 c5 y0 y1 y2 y3 y4 y5 f0 v0 v1 v2 v3 HE0 HE1 HER
    generalize ((((((X.setCell ⟨g2, k * 6, none⟩ (.int .i64 m.id)).setCell ⟨g2, k * 6 + 1, none⟩ (.int .i64 m.plan.every)).setCell ⟨g2, k * 6 + 2, none⟩ (.int .i64 m.plan.offset)).setCell ⟨g2, k * 6 + 3, none⟩ (.int .i64 m.plan.timeout)).setCell ⟨g2, k * 6 + 4, none⟩ (.int .u8 tt)).setCell ⟨g2, k * 6 + 5, none⟩ (.int .i64 m.phase.since)) = Y at FR F0 F1 hbY ⊢
    have FR2 : Y.ownsRow W.heap.size 118 6 (.slice (some ⟨g2, 0, none⟩) l.length c2) l.length (flatC (l.set k (setP m ⟨tt, m.phase.since⟩))) := by rw [← hs6]; exact FR
    obtain ⟨c0, c1, -, -⟩ := F0.two
    obtain ⟨v0, v1, v2, v3⟩ := F1.two
    have HFR := Lib.hid FR2
    clear FR FR2 F0 F1 hs6
    go_wp2
    refine bodyPost_ret (v := .tuple #[.agg #[.int .i64 now, .slice (some ⟨g2, 0, none⟩) l.length c2], .int .i64 m.phase.since, .int .i64 0]) ?_ rfl ⟨_, _, rfl, ?_, ?_⟩
    · simp [results, Try.results45, go_sem, v0, v1]
    · exact own_weak (ownsRow_setCell_below (ownsRow_setCell_below HFR.out (by show w.heap.size + 1 < _; omega) _) (by show w.heap.size + 1 < _; omega) _) hzW
    · exact (hbY.setCell (by show w.heap.size ≤ w.heap.size + 1; omega) _).setCell (by show w.heap.size ≤ w.heap.size + 1; omega) _
end Go.Proofs.Ytokgfmibhkkiaaa
