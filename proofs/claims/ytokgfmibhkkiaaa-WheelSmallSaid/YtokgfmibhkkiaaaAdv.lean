/- What due.Advance does, of what is right and of what is not. -/
import Derived.Test.YtokgfmibhkkiaaaDue
namespace Go.Proofs.Ytokgfmibhkkiaaa
open Go.RowKit Wh Mem

set_option maxHeartbeats 1000000 in
set_option maxRecDepth 100000 in
theorem adv2 (p : Plan) (s : Phase) (a b : Int) (w : World) (h : Fits p s a) (hb : Tick b) (hab : a ≤ b) (hst : s.state = 2) :
    Calls Try.prog 38 #[.agg #[.int .i64 p.every, .int .i64 p.offset, .int .i64 p.timeout], .agg #[.int .u8 s.state, .int .i64 s.since], .int .i64 a, .int .i64 b] w
      fun e w' => e = .returned (.tuple #[.agg #[.int .u8 (adv p s a b).1.state, .int .i64 (adv p s a b).1.since], .agg #[.int .i64 (adv p s a b).2.begun, .int .i64 (adv p s a b).2.failed, .int .i64 (adv p s a b).2.skipped], .int .i64 0]) ∧ Below w.heap.size w w' := by
  have cc := fun w => count_any p.every p.offset p.timeout a b h.1 h.2.1 hb hab w
  have cf := fun w => fits_yes p s a h w
  have e : adv p s a b = (s, ⟨-1, -1, upTo p b - upTo p a⟩) := by unfold adv; rw [if_pos hst]
  rw [e]
  have m1 : 0 ≤ upTo p b - upTo p a := by have := upTo_mono h.1 hab; omega
  have m2 : upTo p b - upTo p a ≤ 281474976710657 := by have := upTo_le h.1 hb.1; have := hb.2; have := upTo_nonneg h.1 (t := a) (by have := h.2.1.1; omega); omega
  have l1 : 1 ≤ p.timeout := h.1.2.2.1
  have l2 : p.timeout ≤ 1099511627776 := by have := h.1.2.2.2; have := h.1.1.2; omega

  have CC := Lib.hid cc
  have CF := Lib.hid cf
  have ST := Lib.hid hst
  clear cc cf e h hst
  obtain ⟨y, o, l⟩ := p
  obtain ⟨st, si⟩ := s
  dsimp only at *
  obtain rfl : st = 2 := ST.out
  clear ST
  generalize upTo ⟨y, o, l⟩ b - upTo ⟨y, o, l⟩ a = m at *

  go_enter Try.func38, Try.ntmps38
  go_wp2_with fail
  refine wp_scope_forward 0 rfl ?_
  go_wp2_with fail
  refine (CC.out _).mono ?_
  rintro e w1 ⟨rfl, h1⟩
  have hz1 := h1.size
  simp only [World.size_alloc] at hz1
  have hP := Blk.below ((((((Blk.new' (w := w) #[.int .i64 y, .int .i64 o, .int .i64 l] 52 rfl).alloc _).alloc _).alloc _).alloc _).alloc _) h1 (by simp; omega)
  have hS := Blk.below (((((Blk.new' (w := w.alloc _) (b := w.heap.size + 1) #[.int .u8 2, .int .i64 si] 59 (by simp)).alloc _).alloc _).alloc _).alloc _) h1 (by simp)
  have hF := Blk.below ((((Blk.new' (w := (w.alloc _).alloc _) (b := w.heap.size + 1 + 1) #[.int .i64 a] 3 (by simp)).alloc _).alloc _).alloc _) h1 (by simp)
  have hT := Blk.below (((Blk.new' (w := ((w.alloc _).alloc _).alloc _) (b := w.heap.size + 1 + 1 + 1) #[.int .i64 b] 3 (by simp)).alloc _).alloc _) h1 (by simp)
  have hA := Blk.below ((Blk.new' (w := (((w.alloc _).alloc _).alloc _).alloc _) (b := w.heap.size + 1 + 1 + 1 + 1) #[.int .u8 0, .int .i64 0] 59 (by simp)).alloc _) h1 (by simp)
  have hB := Blk.below (Blk.new' (w := ((((w.alloc _).alloc _).alloc _).alloc _).alloc _) (b := w.heap.size + 1 + 1 + 1 + 1 + 1) #[.int .i64 0, .int .i64 0, .int .i64 0] 43 (by simp)) h1 (by simp)
  have hb1 : Below w.heap.size w w1 := (((((((Below.refl _ _).alloc (Nat.le_refl _) _).alloc (by simp) _).alloc (by simp; omega) _).alloc (by simp; omega) _).alloc (by simp; omega) _).alloc (by simp; omega) _).trans (h1.mono (by simp; omega))
  clear h1
  obtain ⟨p0, p1, p2, _⟩ := (hP.alloc (.cells #[.int .i64 m] 3)).three
  obtain ⟨s0, s1, _⟩ := (hS.alloc (.cells #[.int .i64 m] 3)).two
  obtain ⟨f0, _⟩ := (hF.alloc (.cells #[.int .i64 m] 3)).one
  go_wp2_with fail
  refine (CF.out _).mono ?_
  rintro e w2 ⟨rfl, h2⟩
  have hz2 := h2.size
  simp only [World.size_alloc] at hz2
  have hM := Blk.below (Blk.new' (w := w1) #[.int .i64 m] 3 rfl) h2 (by simp)
  replace hP := (hP.alloc _).below h2 (by simp; omega)
  replace hS := (hS.alloc _).below h2 (by simp; omega)
  replace hF := (hF.alloc _).below h2 (by simp; omega)
  replace hT := (hT.alloc _).below h2 (by simp; omega)
  replace hA := (hA.alloc _).below h2 (by simp; omega)
  replace hB := (hB.alloc _).below h2 (by simp; omega)
  have hb2 : Below w.heap.size w w2 := (hb1.alloc hb1.size _).trans (h2.mono (by simp; omega))
  clear h2 hb1 p0 p1 p2 s0 s1 f0
  obtain ⟨m0, _⟩ := hM.one
  replace hP := hP.alloc (.cells #[.int .i64 (-1), .int .i64 (-1), .int .i64 m] 43)
  replace hS := hS.alloc (.cells #[.int .i64 (-1), .int .i64 (-1), .int .i64 m] 43)
  replace hF := hF.alloc (.cells #[.int .i64 (-1), .int .i64 (-1), .int .i64 m] 43)
  replace hT := hT.alloc (.cells #[.int .i64 (-1), .int .i64 (-1), .int .i64 m] 43)
  replace hA := hA.alloc (.cells #[.int .i64 (-1), .int .i64 (-1), .int .i64 m] 43)
  replace hB := hB.alloc (.cells #[.int .i64 (-1), .int .i64 (-1), .int .i64 m] 43)
  replace hM := hM.alloc (.cells #[.int .i64 (-1), .int .i64 (-1), .int .i64 m] 43)
  have hR := Blk.new w2 #[.int .i64 (-1), .int .i64 (-1), .int .i64 m] 43
  have hbX := hb2.alloc hb2.size (.cells #[.int .i64 (-1), .int .i64 (-1), .int .i64 m] 43)
  have hzX : w1.heap.size + 1 ≤ (w2.alloc (.cells #[.int .i64 (-1), .int .i64 (-1), .int .i64 m] 43)).heap.size := by simp; omega
  obtain ⟨s0, s1, _⟩ := hS.two
  obtain ⟨r0, r1, r2, _⟩ := hR.three
  obtain ⟨a0, a1, a2, a3⟩ := hA.two
  obtain ⟨b0, b1, b2, b3, b4, b5⟩ := hB.three
  go_wp2
  go_step3
  go_wp2
  refine jump_goto ?_
  go_wp2
  go_region
  go_wp2
  rw [Exit.noGoto_ret]
  refine bodyPost_ret (v := .tuple #[.agg #[.int .u8 2, .int .i64 si], .agg #[.int .i64 (-1), .int .i64 (-1), .int .i64 m], .int .i64 0]) ?_ rfl ⟨rfl, ?_⟩
  · have hA' := (((((hA.set 0 (.int .u8 2)).set 1 (.int .i64 si)).setOther (p := ⟨w.heap.size + 1 + 1 + 1 + 1 + 1, 0, none⟩) (by simp) (.int .i64 (-1))).setOther (p := ⟨w.heap.size + 1 + 1 + 1 + 1 + 1, 1, none⟩) (by simp) (.int .i64 (-1))).setOther (p := ⟨w.heap.size + 1 + 1 + 1 + 1 + 1, 2, none⟩) (by simp) (.int .i64 m)).two
    have hB' := (((((hB.setOther (p := ⟨w.heap.size + 1 + 1 + 1 + 1, 0, none⟩) (by simp) (.int .u8 2)).setOther (p := ⟨w.heap.size + 1 + 1 + 1 + 1, 1, none⟩) (by simp) (.int .i64 si)).set 0 (.int .i64 (-1))).set 1 (.int .i64 (-1))).set 2 (.int .i64 m)).three
    simp [results, Try.results38, go_sem, hA'.1, hA'.2.1, hB'.1, hB'.2.1, hB'.2.2.1]
  · exact ((((((hbX.setCell (p := ⟨w.heap.size + 1 + 1 + 1 + 1, 0, none⟩) (by simp; omega) _).setCell (p := ⟨w.heap.size + 1 + 1 + 1 + 1, 1, none⟩) (by simp; omega) _).setCell (p := ⟨w.heap.size + 1 + 1 + 1 + 1 + 1, 0, none⟩) (by simp; omega) _).setCell (p := ⟨w.heap.size + 1 + 1 + 1 + 1 + 1, 1, none⟩) (by simp; omega) _).setCell (p := ⟨w.heap.size + 1 + 1 + 1 + 1 + 1, 2, none⟩) (by simp; omega) _).drew)

set_option maxHeartbeats 1000000 in
set_option maxRecDepth 100000 in
theorem adv00 (p : Plan) (s : Phase) (a b : Int) (w : World) (h : Fits p s a) (hb : Tick b) (hab : a ≤ b) (hst : s.state = 0) (hm : upTo p b - upTo p a = 0) :
    Calls Try.prog 38 #[.agg #[.int .i64 p.every, .int .i64 p.offset, .int .i64 p.timeout], .agg #[.int .u8 s.state, .int .i64 s.since], .int .i64 a, .int .i64 b] w
      fun e w' => e = .returned (.tuple #[.agg #[.int .u8 (adv p s a b).1.state, .int .i64 (adv p s a b).1.since], .agg #[.int .i64 (adv p s a b).2.begun, .int .i64 (adv p s a b).2.failed, .int .i64 (adv p s a b).2.skipped], .int .i64 0]) ∧ Below w.heap.size w w' := by
  have cc := fun w => count_any p.every p.offset p.timeout a b h.1 h.2.1 hb hab w
  have cf := fun w => fits_yes p s a h w
  have e : adv p s a b = (s, ⟨-1, -1, 0⟩) := by unfold adv; rw [if_neg (by omega), if_pos hst, if_pos hm]
  rw [e]
  have m1 : 0 ≤ upTo p b - upTo p a := by have := upTo_mono h.1 hab; omega
  have m2 : upTo p b - upTo p a ≤ 281474976710657 := by have := upTo_le h.1 hb.1; have := hb.2; have := upTo_nonneg h.1 (t := a) (by have := h.2.1.1; omega); omega
  have l1 : 1 ≤ p.timeout := h.1.2.2.1
  have l2 : p.timeout ≤ 1099511627776 := by have := h.1.2.2.2; have := h.1.1.2; omega

  have CC := Lib.hid cc
  have CF := Lib.hid cf
  have ST := Lib.hid hst
  clear cc cf e h hst
  obtain ⟨y, o, l⟩ := p
  obtain ⟨st, si⟩ := s
  dsimp only at *
  obtain rfl : st = 0 := ST.out
  clear ST
  rw [hm] at CC
  clear hm m1 m2

  go_enter Try.func38, Try.ntmps38
  go_wp2_with fail
  refine wp_scope_forward 0 rfl ?_
  go_wp2_with fail
  refine (CC.out _).mono ?_
  rintro e w1 ⟨rfl, h1⟩
  have hz1 := h1.size
  simp only [World.size_alloc] at hz1
  have hP := Blk.below ((((((Blk.new' (w := w) #[.int .i64 y, .int .i64 o, .int .i64 l] 52 rfl).alloc _).alloc _).alloc _).alloc _).alloc _) h1 (by simp; omega)
  have hS := Blk.below (((((Blk.new' (w := w.alloc _) (b := w.heap.size + 1) #[.int .u8 0, .int .i64 si] 59 (by simp)).alloc _).alloc _).alloc _).alloc _) h1 (by simp)
  have hF := Blk.below ((((Blk.new' (w := (w.alloc _).alloc _) (b := w.heap.size + 1 + 1) #[.int .i64 a] 3 (by simp)).alloc _).alloc _).alloc _) h1 (by simp)
  have hT := Blk.below (((Blk.new' (w := ((w.alloc _).alloc _).alloc _) (b := w.heap.size + 1 + 1 + 1) #[.int .i64 b] 3 (by simp)).alloc _).alloc _) h1 (by simp)
  have hA := Blk.below ((Blk.new' (w := (((w.alloc _).alloc _).alloc _).alloc _) (b := w.heap.size + 1 + 1 + 1 + 1) #[.int .u8 0, .int .i64 0] 59 (by simp)).alloc _) h1 (by simp)
  have hB := Blk.below (Blk.new' (w := ((((w.alloc _).alloc _).alloc _).alloc _).alloc _) (b := w.heap.size + 1 + 1 + 1 + 1 + 1) #[.int .i64 0, .int .i64 0, .int .i64 0] 43 (by simp)) h1 (by simp)
  have hb1 : Below w.heap.size w w1 := (((((((Below.refl _ _).alloc (Nat.le_refl _) _).alloc (by simp) _).alloc (by simp; omega) _).alloc (by simp; omega) _).alloc (by simp; omega) _).alloc (by simp; omega) _).trans (h1.mono (by simp; omega))
  clear h1
  obtain ⟨p0, p1, p2, _⟩ := (hP.alloc (.cells #[.int .i64 0] 3)).three
  obtain ⟨s0, s1, _⟩ := (hS.alloc (.cells #[.int .i64 0] 3)).two
  obtain ⟨f0, _⟩ := (hF.alloc (.cells #[.int .i64 0] 3)).one
  go_wp2_with fail
  refine (CF.out _).mono ?_
  rintro e w2 ⟨rfl, h2⟩
  have hz2 := h2.size
  simp only [World.size_alloc] at hz2
  have hM := Blk.below (Blk.new' (w := w1) #[.int .i64 0] 3 rfl) h2 (by simp)
  replace hP := (hP.alloc _).below h2 (by simp; omega)
  replace hS := (hS.alloc _).below h2 (by simp; omega)
  replace hF := (hF.alloc _).below h2 (by simp; omega)
  replace hT := (hT.alloc _).below h2 (by simp; omega)
  replace hA := (hA.alloc _).below h2 (by simp; omega)
  replace hB := (hB.alloc _).below h2 (by simp; omega)
  have hb2 : Below w.heap.size w w2 := (hb1.alloc hb1.size _).trans (h2.mono (by simp; omega))
  clear h2 hb1 p0 p1 p2 s0 s1 f0
  obtain ⟨m0, _⟩ := hM.one
  replace hP := hP.alloc (.cells #[.int .i64 (-1), .int .i64 (-1), .int .i64 0] 43)
  replace hS := hS.alloc (.cells #[.int .i64 (-1), .int .i64 (-1), .int .i64 0] 43)
  replace hF := hF.alloc (.cells #[.int .i64 (-1), .int .i64 (-1), .int .i64 0] 43)
  replace hT := hT.alloc (.cells #[.int .i64 (-1), .int .i64 (-1), .int .i64 0] 43)
  replace hA := hA.alloc (.cells #[.int .i64 (-1), .int .i64 (-1), .int .i64 0] 43)
  replace hB := hB.alloc (.cells #[.int .i64 (-1), .int .i64 (-1), .int .i64 0] 43)
  replace hM := hM.alloc (.cells #[.int .i64 (-1), .int .i64 (-1), .int .i64 0] 43)
  have hR := Blk.new w2 #[.int .i64 (-1), .int .i64 (-1), .int .i64 0] 43
  have hbX := hb2.alloc hb2.size (.cells #[.int .i64 (-1), .int .i64 (-1), .int .i64 0] 43)
  have hzX : w1.heap.size + 1 ≤ (w2.alloc (.cells #[.int .i64 (-1), .int .i64 (-1), .int .i64 0] 43)).heap.size := by simp; omega
  obtain ⟨s0, s1, _⟩ := hS.two
  obtain ⟨r0, r1, r2, _⟩ := hR.three
  obtain ⟨a0, a1, a2, a3⟩ := hA.two
  obtain ⟨b0, b1, b2, b3, b4, b5⟩ := hB.three
  obtain ⟨mm0, _⟩ := hM.one
  go_wp2
  go_step3
  go_wp2
  refine jump_goto ?_
  go_wp2
  go_region
  go_wp2
  rw [Exit.noGoto_ret]
  refine bodyPost_ret (v := .tuple #[.agg #[.int .u8 0, .int .i64 si], .agg #[.int .i64 (-1), .int .i64 (-1), .int .i64 0], .int .i64 0]) ?_ rfl ⟨rfl, ?_⟩
  · have hA' := (((((hA.set 0 (.int .u8 0)).set 1 (.int .i64 si)).setOther (p := ⟨w.heap.size + 1 + 1 + 1 + 1 + 1, 0, none⟩) (by simp) (.int .i64 (-1))).setOther (p := ⟨w.heap.size + 1 + 1 + 1 + 1 + 1, 1, none⟩) (by simp) (.int .i64 (-1))).setOther (p := ⟨w.heap.size + 1 + 1 + 1 + 1 + 1, 2, none⟩) (by simp) (.int .i64 0)).two
    have hB' := (((((hB.setOther (p := ⟨w.heap.size + 1 + 1 + 1 + 1, 0, none⟩) (by simp) (.int .u8 0)).setOther (p := ⟨w.heap.size + 1 + 1 + 1 + 1, 1, none⟩) (by simp) (.int .i64 si)).set 0 (.int .i64 (-1))).set 1 (.int .i64 (-1))).set 2 (.int .i64 0)).three
    simp [results, Try.results38, go_sem, hA'.1, hA'.2.1, hB'.1, hB'.2.1, hB'.2.2.1]
  · exact ((((((hbX.setCell (p := ⟨w.heap.size + 1 + 1 + 1 + 1, 0, none⟩) (by simp; omega) _).setCell (p := ⟨w.heap.size + 1 + 1 + 1 + 1, 1, none⟩) (by simp; omega) _).setCell (p := ⟨w.heap.size + 1 + 1 + 1 + 1 + 1, 0, none⟩) (by simp; omega) _).setCell (p := ⟨w.heap.size + 1 + 1 + 1 + 1 + 1, 1, none⟩) (by simp; omega) _).setCell (p := ⟨w.heap.size + 1 + 1 + 1 + 1 + 1, 2, none⟩) (by simp; omega) _).drew)

set_option maxHeartbeats 1000000 in
set_option maxRecDepth 100000 in
theorem adv1y (p : Plan) (s : Phase) (a b : Int) (w : World) (h : Fits p s a) (hb : Tick b) (hab : a ≤ b) (hst : s.state = 1) (hle : s.since + p.timeout ≤ b) :
    Calls Try.prog 38 #[.agg #[.int .i64 p.every, .int .i64 p.offset, .int .i64 p.timeout], .agg #[.int .u8 s.state, .int .i64 s.since], .int .i64 a, .int .i64 b] w
      fun e w' => e = .returned (.tuple #[.agg #[.int .u8 (adv p s a b).1.state, .int .i64 (adv p s a b).1.since], .agg #[.int .i64 (adv p s a b).2.begun, .int .i64 (adv p s a b).2.failed, .int .i64 (adv p s a b).2.skipped], .int .i64 0]) ∧ Below w.heap.size w w' := by
  have cc := fun w => count_any p.every p.offset p.timeout a b h.1 h.2.1 hb hab w
  have cf := fun w => fits_yes p s a h w
  have e : adv p s a b = (⟨2, s.since⟩, ⟨-1, s.since, upTo p b - upTo p a⟩) := by unfold adv; rw [if_neg (by omega), if_neg (by omega), if_pos hle]
  rw [e]
  have m1 : 0 ≤ upTo p b - upTo p a := by have := upTo_mono h.1 hab; omega
  have m2 : upTo p b - upTo p a ≤ 281474976710657 := by have := upTo_le h.1 hb.1; have := hb.2; have := upTo_nonneg h.1 (t := a) (by have := h.2.1.1; omega); omega
  have l1 : 1 ≤ p.timeout := h.1.2.2.1
  have l2 : p.timeout ≤ 1099511627776 := by have := h.1.2.2.2; have := h.1.1.2; omega
  have i1 : 0 ≤ s.since ∧ s.since ≤ 281474976710656 := by
    rcases h.2.2 with g | g | g
    · omega
    · exact g.2.1.2.1
    · omega
  obtain ⟨i1, i2⟩ := i1
  have CC := Lib.hid cc
  have CF := Lib.hid cf
  have ST := Lib.hid hst
  clear cc cf e h hst
  obtain ⟨y, o, l⟩ := p
  obtain ⟨st, si⟩ := s
  dsimp only at *
  obtain rfl : st = 1 := ST.out
  clear ST
  generalize upTo ⟨y, o, l⟩ b - upTo ⟨y, o, l⟩ a = m at *

  go_enter Try.func38, Try.ntmps38
  go_wp2_with fail
  refine wp_scope_forward 0 rfl ?_
  go_wp2_with fail
  refine (CC.out _).mono ?_
  rintro e w1 ⟨rfl, h1⟩
  have hz1 := h1.size
  simp only [World.size_alloc] at hz1
  have hP := Blk.below ((((((Blk.new' (w := w) #[.int .i64 y, .int .i64 o, .int .i64 l] 52 rfl).alloc _).alloc _).alloc _).alloc _).alloc _) h1 (by simp; omega)
  have hS := Blk.below (((((Blk.new' (w := w.alloc _) (b := w.heap.size + 1) #[.int .u8 1, .int .i64 si] 59 (by simp)).alloc _).alloc _).alloc _).alloc _) h1 (by simp)
  have hF := Blk.below ((((Blk.new' (w := (w.alloc _).alloc _) (b := w.heap.size + 1 + 1) #[.int .i64 a] 3 (by simp)).alloc _).alloc _).alloc _) h1 (by simp)
  have hT := Blk.below (((Blk.new' (w := ((w.alloc _).alloc _).alloc _) (b := w.heap.size + 1 + 1 + 1) #[.int .i64 b] 3 (by simp)).alloc _).alloc _) h1 (by simp)
  have hA := Blk.below ((Blk.new' (w := (((w.alloc _).alloc _).alloc _).alloc _) (b := w.heap.size + 1 + 1 + 1 + 1) #[.int .u8 0, .int .i64 0] 59 (by simp)).alloc _) h1 (by simp)
  have hB := Blk.below (Blk.new' (w := ((((w.alloc _).alloc _).alloc _).alloc _).alloc _) (b := w.heap.size + 1 + 1 + 1 + 1 + 1) #[.int .i64 0, .int .i64 0, .int .i64 0] 43 (by simp)) h1 (by simp)
  have hb1 : Below w.heap.size w w1 := (((((((Below.refl _ _).alloc (Nat.le_refl _) _).alloc (by simp) _).alloc (by simp; omega) _).alloc (by simp; omega) _).alloc (by simp; omega) _).alloc (by simp; omega) _).trans (h1.mono (by simp; omega))
  clear h1
  obtain ⟨p0, p1, p2, _⟩ := (hP.alloc (.cells #[.int .i64 m] 3)).three
  obtain ⟨s0, s1, _⟩ := (hS.alloc (.cells #[.int .i64 m] 3)).two
  obtain ⟨f0, _⟩ := (hF.alloc (.cells #[.int .i64 m] 3)).one
  go_wp2_with fail
  refine (CF.out _).mono ?_
  rintro e w2 ⟨rfl, h2⟩
  have hz2 := h2.size
  simp only [World.size_alloc] at hz2
  have hM := Blk.below (Blk.new' (w := w1) #[.int .i64 m] 3 rfl) h2 (by simp)
  replace hP := (hP.alloc _).below h2 (by simp; omega)
  replace hS := (hS.alloc _).below h2 (by simp; omega)
  replace hF := (hF.alloc _).below h2 (by simp; omega)
  replace hT := (hT.alloc _).below h2 (by simp; omega)
  replace hA := (hA.alloc _).below h2 (by simp; omega)
  replace hB := (hB.alloc _).below h2 (by simp; omega)
  have hb2 : Below w.heap.size w w2 := (hb1.alloc hb1.size _).trans (h2.mono (by simp; omega))
  clear h2 hb1 p0 p1 p2 s0 s1 f0
  obtain ⟨m0, _⟩ := hM.one
  replace hP := hP.alloc (.cells #[.int .i64 (-1), .int .i64 (-1), .int .i64 m] 43)
  replace hS := hS.alloc (.cells #[.int .i64 (-1), .int .i64 (-1), .int .i64 m] 43)
  replace hF := hF.alloc (.cells #[.int .i64 (-1), .int .i64 (-1), .int .i64 m] 43)
  replace hT := hT.alloc (.cells #[.int .i64 (-1), .int .i64 (-1), .int .i64 m] 43)
  replace hA := hA.alloc (.cells #[.int .i64 (-1), .int .i64 (-1), .int .i64 m] 43)
  replace hB := hB.alloc (.cells #[.int .i64 (-1), .int .i64 (-1), .int .i64 m] 43)
  replace hM := hM.alloc (.cells #[.int .i64 (-1), .int .i64 (-1), .int .i64 m] 43)
  have hR := Blk.new w2 #[.int .i64 (-1), .int .i64 (-1), .int .i64 m] 43
  have hbX := hb2.alloc hb2.size (.cells #[.int .i64 (-1), .int .i64 (-1), .int .i64 m] 43)
  have hzX : w1.heap.size + 1 ≤ (w2.alloc (.cells #[.int .i64 (-1), .int .i64 (-1), .int .i64 m] 43)).heap.size := by simp; omega
  obtain ⟨s0, s1, _⟩ := hS.two
  go_wp2_with fail
  refine (fail_yes y o l 1 si b (-1) (-1) m (w.heap.size + 1) w.heap.size (w.heap.size + 1 + 1 + 1) w2.heap.size _ i1 i2 l1 l2 hle hS hP hT hR (by omega)).mono ?_
  rintro e w4 ⟨rfl, k4, hS', hR'⟩
  replace hA := hA.kept k4 (by simp; omega)
  replace hB := hB.kept k4 (by simp; omega)
  replace hbX : Below w.heap.size w w4 := hbX.trans (k4.belowOf (by first | (simp; omega) | omega) (by simp; omega))
  have hz4 := k4.size
  clear k4 hS hR
  have hS := hS'
  have hR := hR'
  clear hS' hR'
  obtain ⟨s0, s1, _⟩ := hS.two
  obtain ⟨r0, r1, r2, _⟩ := hR.three
  obtain ⟨a0, a1, a2, a3⟩ := hA.two
  obtain ⟨b0, b1, b2, b3, b4, b5⟩ := hB.three
  go_wp2
  go_step3
  go_wp2
  go_region
  go_wp2
  rw [jump_ret]
  refine bodyPost_ret (v := .tuple #[.agg #[.int .u8 2, .int .i64 si], .agg #[.int .i64 (-1), .int .i64 si, .int .i64 m], .int .i64 0]) ?_ rfl ⟨rfl, ?_⟩
  · have hA' := (((((hA.set 0 (.int .u8 2)).set 1 (.int .i64 si)).setOther (p := ⟨w.heap.size + 1 + 1 + 1 + 1 + 1, 0, none⟩) (by simp) (.int .i64 (-1))).setOther (p := ⟨w.heap.size + 1 + 1 + 1 + 1 + 1, 1, none⟩) (by simp) (.int .i64 si)).setOther (p := ⟨w.heap.size + 1 + 1 + 1 + 1 + 1, 2, none⟩) (by simp) (.int .i64 m)).two
    have hB' := (((((hB.setOther (p := ⟨w.heap.size + 1 + 1 + 1 + 1, 0, none⟩) (by simp) (.int .u8 2)).setOther (p := ⟨w.heap.size + 1 + 1 + 1 + 1, 1, none⟩) (by simp) (.int .i64 si)).set 0 (.int .i64 (-1))).set 1 (.int .i64 si)).set 2 (.int .i64 m)).three
    simp [results, Try.results38, go_sem, hA'.1, hA'.2.1, hB'.1, hB'.2.1, hB'.2.2.1]
  · exact ((((((hbX.setCell (p := ⟨w.heap.size + 1 + 1 + 1 + 1, 0, none⟩) (by simp; omega) _).setCell (p := ⟨w.heap.size + 1 + 1 + 1 + 1, 1, none⟩) (by simp; omega) _).setCell (p := ⟨w.heap.size + 1 + 1 + 1 + 1 + 1, 0, none⟩) (by simp; omega) _).setCell (p := ⟨w.heap.size + 1 + 1 + 1 + 1 + 1, 1, none⟩) (by simp; omega) _).setCell (p := ⟨w.heap.size + 1 + 1 + 1 + 1 + 1, 2, none⟩) (by simp; omega) _).drew)

set_option maxHeartbeats 1000000 in
set_option maxRecDepth 100000 in
theorem adv1n (p : Plan) (s : Phase) (a b : Int) (w : World) (h : Fits p s a) (hb : Tick b) (hab : a ≤ b) (hst : s.state = 1) (hle : b < s.since + p.timeout) :
    Calls Try.prog 38 #[.agg #[.int .i64 p.every, .int .i64 p.offset, .int .i64 p.timeout], .agg #[.int .u8 s.state, .int .i64 s.since], .int .i64 a, .int .i64 b] w
      fun e w' => e = .returned (.tuple #[.agg #[.int .u8 (adv p s a b).1.state, .int .i64 (adv p s a b).1.since], .agg #[.int .i64 (adv p s a b).2.begun, .int .i64 (adv p s a b).2.failed, .int .i64 (adv p s a b).2.skipped], .int .i64 0]) ∧ Below w.heap.size w w' := by
  have cc := fun w => count_any p.every p.offset p.timeout a b h.1 h.2.1 hb hab w
  have cf := fun w => fits_yes p s a h w
  have e : adv p s a b = (s, ⟨-1, -1, upTo p b - upTo p a⟩) := by unfold adv; rw [if_neg (by omega), if_neg (by omega), if_neg (by omega)]
  rw [e]
  have m1 : 0 ≤ upTo p b - upTo p a := by have := upTo_mono h.1 hab; omega
  have m2 : upTo p b - upTo p a ≤ 281474976710657 := by have := upTo_le h.1 hb.1; have := hb.2; have := upTo_nonneg h.1 (t := a) (by have := h.2.1.1; omega); omega
  have l1 : 1 ≤ p.timeout := h.1.2.2.1
  have l2 : p.timeout ≤ 1099511627776 := by have := h.1.2.2.2; have := h.1.1.2; omega
  have i1 : 0 ≤ s.since ∧ s.since ≤ 281474976710656 := by
    rcases h.2.2 with g | g | g
    · omega
    · exact g.2.1.2.1
    · omega
  obtain ⟨i1, i2⟩ := i1
  have CC := Lib.hid cc
  have CF := Lib.hid cf
  have ST := Lib.hid hst
  clear cc cf e h hst
  obtain ⟨y, o, l⟩ := p
  obtain ⟨st, si⟩ := s
  dsimp only at *
  obtain rfl : st = 1 := ST.out
  clear ST
  generalize upTo ⟨y, o, l⟩ b - upTo ⟨y, o, l⟩ a = m at *

  go_enter Try.func38, Try.ntmps38
  go_wp2_with fail
  refine wp_scope_forward 0 rfl ?_
  go_wp2_with fail
  refine (CC.out _).mono ?_
  rintro e w1 ⟨rfl, h1⟩
  have hz1 := h1.size
  simp only [World.size_alloc] at hz1
  have hP := Blk.below ((((((Blk.new' (w := w) #[.int .i64 y, .int .i64 o, .int .i64 l] 52 rfl).alloc _).alloc _).alloc _).alloc _).alloc _) h1 (by simp; omega)
  have hS := Blk.below (((((Blk.new' (w := w.alloc _) (b := w.heap.size + 1) #[.int .u8 1, .int .i64 si] 59 (by simp)).alloc _).alloc _).alloc _).alloc _) h1 (by simp)
  have hF := Blk.below ((((Blk.new' (w := (w.alloc _).alloc _) (b := w.heap.size + 1 + 1) #[.int .i64 a] 3 (by simp)).alloc _).alloc _).alloc _) h1 (by simp)
  have hT := Blk.below (((Blk.new' (w := ((w.alloc _).alloc _).alloc _) (b := w.heap.size + 1 + 1 + 1) #[.int .i64 b] 3 (by simp)).alloc _).alloc _) h1 (by simp)
  have hA := Blk.below ((Blk.new' (w := (((w.alloc _).alloc _).alloc _).alloc _) (b := w.heap.size + 1 + 1 + 1 + 1) #[.int .u8 0, .int .i64 0] 59 (by simp)).alloc _) h1 (by simp)
  have hB := Blk.below (Blk.new' (w := ((((w.alloc _).alloc _).alloc _).alloc _).alloc _) (b := w.heap.size + 1 + 1 + 1 + 1 + 1) #[.int .i64 0, .int .i64 0, .int .i64 0] 43 (by simp)) h1 (by simp)
  have hb1 : Below w.heap.size w w1 := (((((((Below.refl _ _).alloc (Nat.le_refl _) _).alloc (by simp) _).alloc (by simp; omega) _).alloc (by simp; omega) _).alloc (by simp; omega) _).alloc (by simp; omega) _).trans (h1.mono (by simp; omega))
  clear h1
  obtain ⟨p0, p1, p2, _⟩ := (hP.alloc (.cells #[.int .i64 m] 3)).three
  obtain ⟨s0, s1, _⟩ := (hS.alloc (.cells #[.int .i64 m] 3)).two
  obtain ⟨f0, _⟩ := (hF.alloc (.cells #[.int .i64 m] 3)).one
  go_wp2_with fail
  refine (CF.out _).mono ?_
  rintro e w2 ⟨rfl, h2⟩
  have hz2 := h2.size
  simp only [World.size_alloc] at hz2
  have hM := Blk.below (Blk.new' (w := w1) #[.int .i64 m] 3 rfl) h2 (by simp)
  replace hP := (hP.alloc _).below h2 (by simp; omega)
  replace hS := (hS.alloc _).below h2 (by simp; omega)
  replace hF := (hF.alloc _).below h2 (by simp; omega)
  replace hT := (hT.alloc _).below h2 (by simp; omega)
  replace hA := (hA.alloc _).below h2 (by simp; omega)
  replace hB := (hB.alloc _).below h2 (by simp; omega)
  have hb2 : Below w.heap.size w w2 := (hb1.alloc hb1.size _).trans (h2.mono (by simp; omega))
  clear h2 hb1 p0 p1 p2 s0 s1 f0
  obtain ⟨m0, _⟩ := hM.one
  replace hP := hP.alloc (.cells #[.int .i64 (-1), .int .i64 (-1), .int .i64 m] 43)
  replace hS := hS.alloc (.cells #[.int .i64 (-1), .int .i64 (-1), .int .i64 m] 43)
  replace hF := hF.alloc (.cells #[.int .i64 (-1), .int .i64 (-1), .int .i64 m] 43)
  replace hT := hT.alloc (.cells #[.int .i64 (-1), .int .i64 (-1), .int .i64 m] 43)
  replace hA := hA.alloc (.cells #[.int .i64 (-1), .int .i64 (-1), .int .i64 m] 43)
  replace hB := hB.alloc (.cells #[.int .i64 (-1), .int .i64 (-1), .int .i64 m] 43)
  replace hM := hM.alloc (.cells #[.int .i64 (-1), .int .i64 (-1), .int .i64 m] 43)
  have hR := Blk.new w2 #[.int .i64 (-1), .int .i64 (-1), .int .i64 m] 43
  have hbX := hb2.alloc hb2.size (.cells #[.int .i64 (-1), .int .i64 (-1), .int .i64 m] 43)
  have hzX : w1.heap.size + 1 ≤ (w2.alloc (.cells #[.int .i64 (-1), .int .i64 (-1), .int .i64 m] 43)).heap.size := by simp; omega
  obtain ⟨s0, s1, _⟩ := hS.two
  go_wp2_with fail
  refine (fail_no (br := w2.heap.size) y o l 1 si b (w.heap.size + 1) w.heap.size (w.heap.size + 1 + 1 + 1) _ i1 i2 l1 l2 hle hS hP hT).mono ?_
  rintro e w4 ⟨rfl, rfl⟩
  obtain ⟨s0, s1, _⟩ := hS.two
  obtain ⟨r0, r1, r2, _⟩ := hR.three
  obtain ⟨a0, a1, a2, a3⟩ := hA.two
  obtain ⟨b0, b1, b2, b3, b4, b5⟩ := hB.three
  go_wp2
  go_step3
  go_wp2
  go_region
  go_wp2
  rw [jump_ret]
  refine bodyPost_ret (v := .tuple #[.agg #[.int .u8 1, .int .i64 si], .agg #[.int .i64 (-1), .int .i64 (-1), .int .i64 m], .int .i64 0]) ?_ rfl ⟨rfl, ?_⟩
  · have hA' := (((((hA.set 0 (.int .u8 1)).set 1 (.int .i64 si)).setOther (p := ⟨w.heap.size + 1 + 1 + 1 + 1 + 1, 0, none⟩) (by simp) (.int .i64 (-1))).setOther (p := ⟨w.heap.size + 1 + 1 + 1 + 1 + 1, 1, none⟩) (by simp) (.int .i64 (-1))).setOther (p := ⟨w.heap.size + 1 + 1 + 1 + 1 + 1, 2, none⟩) (by simp) (.int .i64 m)).two
    have hB' := (((((hB.setOther (p := ⟨w.heap.size + 1 + 1 + 1 + 1, 0, none⟩) (by simp) (.int .u8 1)).setOther (p := ⟨w.heap.size + 1 + 1 + 1 + 1, 1, none⟩) (by simp) (.int .i64 si)).set 0 (.int .i64 (-1))).set 1 (.int .i64 (-1))).set 2 (.int .i64 m)).three
    simp [results, Try.results38, go_sem, hA'.1, hA'.2.1, hB'.1, hB'.2.1, hB'.2.2.1]
  · exact ((((((hbX.setCell (p := ⟨w.heap.size + 1 + 1 + 1 + 1, 0, none⟩) (by simp; omega) _).setCell (p := ⟨w.heap.size + 1 + 1 + 1 + 1, 1, none⟩) (by simp; omega) _).setCell (p := ⟨w.heap.size + 1 + 1 + 1 + 1 + 1, 0, none⟩) (by simp; omega) _).setCell (p := ⟨w.heap.size + 1 + 1 + 1 + 1 + 1, 1, none⟩) (by simp; omega) _).setCell (p := ⟨w.heap.size + 1 + 1 + 1 + 1 + 1, 2, none⟩) (by simp; omega) _).drew)

set_option maxHeartbeats 1000000 in
set_option maxRecDepth 100000 in
theorem adv0y (p : Plan) (s : Phase) (a b : Int) (w : World) (h : Fits p s a) (hb : Tick b) (hab : a ≤ b) (hst : s.state = 0) (hm : ¬ upTo p b - upTo p a = 0) (hle : nxt p a + p.timeout ≤ b) :
    Calls Try.prog 38 #[.agg #[.int .i64 p.every, .int .i64 p.offset, .int .i64 p.timeout], .agg #[.int .u8 s.state, .int .i64 s.since], .int .i64 a, .int .i64 b] w
      fun e w' => e = .returned (.tuple #[.agg #[.int .u8 (adv p s a b).1.state, .int .i64 (adv p s a b).1.since], .agg #[.int .i64 (adv p s a b).2.begun, .int .i64 (adv p s a b).2.failed, .int .i64 (adv p s a b).2.skipped], .int .i64 0]) ∧ Below w.heap.size w w' := by
  have cc := fun w => count_any p.every p.offset p.timeout a b h.1 h.2.1 hb hab w
  have cf := fun w => fits_yes p s a h w
  have e : adv p s a b = (⟨2, nxt p a⟩, ⟨nxt p a, nxt p a, upTo p b - upTo p a - 1⟩) := by unfold adv; rw [if_neg (by omega), if_pos hst, if_neg hm, if_pos hle]
  rw [e]
  have m1 : 0 ≤ upTo p b - upTo p a := by have := upTo_mono h.1 hab; omega
  have m2 : upTo p b - upTo p a ≤ 281474976710657 := by have := upTo_le h.1 hb.1; have := hb.2; have := upTo_nonneg h.1 (t := a) (by have := h.2.1.1; omega); omega
  have l1 : 1 ≤ p.timeout := h.1.2.2.1
  have l2 : p.timeout ≤ 1099511627776 := by have := h.1.2.2.2; have := h.1.1.2; omega
  have hn : nxt p a ≤ b := (nxt_le_iff h.1 a b).2 (by omega)
  have hn1 : nxt p a ≤ 281474976710656 := by have := hb.2; omega
  have hn0 : 0 ≤ nxt p a := by have := nxt_gt h.1 a; have := h.2.1.1; omega
  have m3 : ((upTo p b - upTo p a) == 0) = false := by simpa using hm
  have cb := fun bp bf bs bm br r0 r1 r2 m w g1 g2 => begin_any p.every p.offset p.timeout s.state s.since a m r0 r1 r2 bp bf bs bm br w h.1 h.2.1 hn1 g1 g2
  have CB := Lib.hid cb
  clear cb hm
  have CC := Lib.hid cc
  have CF := Lib.hid cf
  have ST := Lib.hid hst
  clear cc cf e h hst
  obtain ⟨y, o, l⟩ := p
  obtain ⟨st, si⟩ := s
  dsimp only at *
  obtain rfl : st = 0 := ST.out
  clear ST
  generalize upTo ⟨y, o, l⟩ b - upTo ⟨y, o, l⟩ a = m at *
  generalize nxt ⟨y, o, l⟩ a = n at *
  go_enter Try.func38, Try.ntmps38
  go_wp2_with fail
  refine wp_scope_forward 0 rfl ?_
  go_wp2_with fail
  refine (CC.out _).mono ?_
  rintro e w1 ⟨rfl, h1⟩
  have hz1 := h1.size
  simp only [World.size_alloc] at hz1
  have hP := Blk.below ((((((Blk.new' (w := w) #[.int .i64 y, .int .i64 o, .int .i64 l] 52 rfl).alloc _).alloc _).alloc _).alloc _).alloc _) h1 (by simp; omega)
  have hS := Blk.below (((((Blk.new' (w := w.alloc _) (b := w.heap.size + 1) #[.int .u8 0, .int .i64 si] 59 (by simp)).alloc _).alloc _).alloc _).alloc _) h1 (by simp)
  have hF := Blk.below ((((Blk.new' (w := (w.alloc _).alloc _) (b := w.heap.size + 1 + 1) #[.int .i64 a] 3 (by simp)).alloc _).alloc _).alloc _) h1 (by simp)
  have hT := Blk.below (((Blk.new' (w := ((w.alloc _).alloc _).alloc _) (b := w.heap.size + 1 + 1 + 1) #[.int .i64 b] 3 (by simp)).alloc _).alloc _) h1 (by simp)
  have hA := Blk.below ((Blk.new' (w := (((w.alloc _).alloc _).alloc _).alloc _) (b := w.heap.size + 1 + 1 + 1 + 1) #[.int .u8 0, .int .i64 0] 59 (by simp)).alloc _) h1 (by simp)
  have hB := Blk.below (Blk.new' (w := ((((w.alloc _).alloc _).alloc _).alloc _).alloc _) (b := w.heap.size + 1 + 1 + 1 + 1 + 1) #[.int .i64 0, .int .i64 0, .int .i64 0] 43 (by simp)) h1 (by simp)
  have hb1 : Below w.heap.size w w1 := (((((((Below.refl _ _).alloc (Nat.le_refl _) _).alloc (by simp) _).alloc (by simp; omega) _).alloc (by simp; omega) _).alloc (by simp; omega) _).alloc (by simp; omega) _).trans (h1.mono (by simp; omega))
  clear h1
  obtain ⟨p0, p1, p2, _⟩ := (hP.alloc (.cells #[.int .i64 m] 3)).three
  obtain ⟨s0, s1, _⟩ := (hS.alloc (.cells #[.int .i64 m] 3)).two
  obtain ⟨f0, _⟩ := (hF.alloc (.cells #[.int .i64 m] 3)).one
  go_wp2_with fail
  refine (CF.out _).mono ?_
  rintro e w2 ⟨rfl, h2⟩
  have hz2 := h2.size
  simp only [World.size_alloc] at hz2
  have hM := Blk.below (Blk.new' (w := w1) #[.int .i64 m] 3 rfl) h2 (by simp)
  replace hP := (hP.alloc _).below h2 (by simp; omega)
  replace hS := (hS.alloc _).below h2 (by simp; omega)
  replace hF := (hF.alloc _).below h2 (by simp; omega)
  replace hT := (hT.alloc _).below h2 (by simp; omega)
  replace hA := (hA.alloc _).below h2 (by simp; omega)
  replace hB := (hB.alloc _).below h2 (by simp; omega)
  have hb2 : Below w.heap.size w w2 := (hb1.alloc hb1.size _).trans (h2.mono (by simp; omega))
  clear h2 hb1 p0 p1 p2 s0 s1 f0
  obtain ⟨m0, _⟩ := hM.one
  replace hP := hP.alloc (.cells #[.int .i64 (-1), .int .i64 (-1), .int .i64 m] 43)
  replace hS := hS.alloc (.cells #[.int .i64 (-1), .int .i64 (-1), .int .i64 m] 43)
  replace hF := hF.alloc (.cells #[.int .i64 (-1), .int .i64 (-1), .int .i64 m] 43)
  replace hT := hT.alloc (.cells #[.int .i64 (-1), .int .i64 (-1), .int .i64 m] 43)
  replace hA := hA.alloc (.cells #[.int .i64 (-1), .int .i64 (-1), .int .i64 m] 43)
  replace hB := hB.alloc (.cells #[.int .i64 (-1), .int .i64 (-1), .int .i64 m] 43)
  replace hM := hM.alloc (.cells #[.int .i64 (-1), .int .i64 (-1), .int .i64 m] 43)
  have hR := Blk.new w2 #[.int .i64 (-1), .int .i64 (-1), .int .i64 m] 43
  have hbX := hb2.alloc hb2.size (.cells #[.int .i64 (-1), .int .i64 (-1), .int .i64 m] 43)
  have hzX : w1.heap.size + 1 ≤ (w2.alloc (.cells #[.int .i64 (-1), .int .i64 (-1), .int .i64 m] 43)).heap.size := by simp; omega
  obtain ⟨s0, s1, _⟩ := hS.two
  obtain ⟨mm0, _⟩ := hM.one
  go_wp2_with fail
  refine (CB.out w.heap.size (w.heap.size + 1 + 1) (w.heap.size + 1) w1.heap.size w2.heap.size (-1) (-1) m m _ m1 m2 hP hF hS hM hR (by omega) (by omega) (by omega)).mono ?_
  rintro e w3 ⟨rfl, k4, hS', hR'⟩
  replace hP := hP.kept k4 (by simp; omega)
  replace hT := hT.kept k4 (by simp; omega)
  replace hA := hA.kept k4 (by simp; omega)
  replace hB := hB.kept k4 (by simp; omega)
  replace hbX : Below w.heap.size w w3 := hbX.trans (k4.belowOf (by simp; omega) (by simp; omega))
  have hz3 := k4.size
  simp only [World.size_alloc] at hz3
  clear k4 hS hR
  have hS := hS'
  have hR := hR'
  clear hS' hR'
  go_wp2_with fail
  refine (fail_yes y o l 1 n b n (-1) (m - 1) (w.heap.size + 1) w.heap.size (w.heap.size + 1 + 1 + 1) w2.heap.size _ hn0 hn1 l1 l2 hle hS hP hT hR (by omega)).mono ?_
  rintro e w4 ⟨rfl, k4, hS', hR'⟩
  replace hA := hA.kept k4 (by simp; omega)
  replace hB := hB.kept k4 (by simp; omega)
  replace hbX : Below w.heap.size w w4 := hbX.trans (k4.belowOf (by first | (simp; omega) | omega) (by simp; omega))
  have hz4 := k4.size
  clear k4 hS hR
  have hS := hS'
  have hR := hR'
  clear hS' hR'
  obtain ⟨s0, s1, _⟩ := hS.two
  obtain ⟨r0, r1, r2, _⟩ := hR.three
  obtain ⟨a0, a1, a2, a3⟩ := hA.two
  obtain ⟨b0, b1, b2, b3, b4, b5⟩ := hB.three
  go_wp2
  go_step3
  go_wp2
  go_region
  go_wp2
  rw [jump_ret]
  refine bodyPost_ret (v := .tuple #[.agg #[.int .u8 2, .int .i64 n], .agg #[.int .i64 n, .int .i64 n, .int .i64 (m - 1)], .int .i64 0]) ?_ rfl ⟨rfl, ?_⟩
  · have hA' := (((((hA.set 0 (.int .u8 2)).set 1 (.int .i64 n)).setOther (p := ⟨w.heap.size + 1 + 1 + 1 + 1 + 1, 0, none⟩) (by simp) (.int .i64 n)).setOther (p := ⟨w.heap.size + 1 + 1 + 1 + 1 + 1, 1, none⟩) (by simp) (.int .i64 n)).setOther (p := ⟨w.heap.size + 1 + 1 + 1 + 1 + 1, 2, none⟩) (by simp) (.int .i64 (m - 1))).two
    have hB' := (((((hB.setOther (p := ⟨w.heap.size + 1 + 1 + 1 + 1, 0, none⟩) (by simp) (.int .u8 2)).setOther (p := ⟨w.heap.size + 1 + 1 + 1 + 1, 1, none⟩) (by simp) (.int .i64 n)).set 0 (.int .i64 n)).set 1 (.int .i64 n)).set 2 (.int .i64 (m - 1))).three
    simp [results, Try.results38, go_sem, hA'.1, hA'.2.1, hB'.1, hB'.2.1, hB'.2.2.1]
  · exact ((((((hbX.setCell (p := ⟨w.heap.size + 1 + 1 + 1 + 1, 0, none⟩) (by simp; omega) _).setCell (p := ⟨w.heap.size + 1 + 1 + 1 + 1, 1, none⟩) (by simp; omega) _).setCell (p := ⟨w.heap.size + 1 + 1 + 1 + 1 + 1, 0, none⟩) (by simp; omega) _).setCell (p := ⟨w.heap.size + 1 + 1 + 1 + 1 + 1, 1, none⟩) (by simp; omega) _).setCell (p := ⟨w.heap.size + 1 + 1 + 1 + 1 + 1, 2, none⟩) (by simp; omega) _).drew)

set_option maxHeartbeats 1000000 in
set_option maxRecDepth 100000 in
theorem adv0n (p : Plan) (s : Phase) (a b : Int) (w : World) (h : Fits p s a) (hb : Tick b) (hab : a ≤ b) (hst : s.state = 0) (hm : ¬ upTo p b - upTo p a = 0) (hle : b < nxt p a + p.timeout) :
    Calls Try.prog 38 #[.agg #[.int .i64 p.every, .int .i64 p.offset, .int .i64 p.timeout], .agg #[.int .u8 s.state, .int .i64 s.since], .int .i64 a, .int .i64 b] w
      fun e w' => e = .returned (.tuple #[.agg #[.int .u8 (adv p s a b).1.state, .int .i64 (adv p s a b).1.since], .agg #[.int .i64 (adv p s a b).2.begun, .int .i64 (adv p s a b).2.failed, .int .i64 (adv p s a b).2.skipped], .int .i64 0]) ∧ Below w.heap.size w w' := by
  have cc := fun w => count_any p.every p.offset p.timeout a b h.1 h.2.1 hb hab w
  have cf := fun w => fits_yes p s a h w
  have e : adv p s a b = (⟨1, nxt p a⟩, ⟨nxt p a, -1, upTo p b - upTo p a - 1⟩) := by unfold adv; rw [if_neg (by omega), if_pos hst, if_neg hm, if_neg (by omega)]
  rw [e]
  have m1 : 0 ≤ upTo p b - upTo p a := by have := upTo_mono h.1 hab; omega
  have m2 : upTo p b - upTo p a ≤ 281474976710657 := by have := upTo_le h.1 hb.1; have := hb.2; have := upTo_nonneg h.1 (t := a) (by have := h.2.1.1; omega); omega
  have l1 : 1 ≤ p.timeout := h.1.2.2.1
  have l2 : p.timeout ≤ 1099511627776 := by have := h.1.2.2.2; have := h.1.1.2; omega
  have hn : nxt p a ≤ b := (nxt_le_iff h.1 a b).2 (by omega)
  have hn1 : nxt p a ≤ 281474976710656 := by have := hb.2; omega
  have hn0 : 0 ≤ nxt p a := by have := nxt_gt h.1 a; have := h.2.1.1; omega
  have m3 : ((upTo p b - upTo p a) == 0) = false := by simpa using hm
  have cb := fun bp bf bs bm br r0 r1 r2 m w g1 g2 => begin_any p.every p.offset p.timeout s.state s.since a m r0 r1 r2 bp bf bs bm br w h.1 h.2.1 hn1 g1 g2
  have CB := Lib.hid cb
  clear cb hm
  have CC := Lib.hid cc
  have CF := Lib.hid cf
  have ST := Lib.hid hst
  clear cc cf e h hst
  obtain ⟨y, o, l⟩ := p
  obtain ⟨st, si⟩ := s
  dsimp only at *
  obtain rfl : st = 0 := ST.out
  clear ST
  generalize upTo ⟨y, o, l⟩ b - upTo ⟨y, o, l⟩ a = m at *
  generalize nxt ⟨y, o, l⟩ a = n at *
  go_enter Try.func38, Try.ntmps38
  go_wp2_with fail
  refine wp_scope_forward 0 rfl ?_
  go_wp2_with fail
  refine (CC.out _).mono ?_
  rintro e w1 ⟨rfl, h1⟩
  have hz1 := h1.size
  simp only [World.size_alloc] at hz1
  have hP := Blk.below ((((((Blk.new' (w := w) #[.int .i64 y, .int .i64 o, .int .i64 l] 52 rfl).alloc _).alloc _).alloc _).alloc _).alloc _) h1 (by simp; omega)
  have hS := Blk.below (((((Blk.new' (w := w.alloc _) (b := w.heap.size + 1) #[.int .u8 0, .int .i64 si] 59 (by simp)).alloc _).alloc _).alloc _).alloc _) h1 (by simp)
  have hF := Blk.below ((((Blk.new' (w := (w.alloc _).alloc _) (b := w.heap.size + 1 + 1) #[.int .i64 a] 3 (by simp)).alloc _).alloc _).alloc _) h1 (by simp)
  have hT := Blk.below (((Blk.new' (w := ((w.alloc _).alloc _).alloc _) (b := w.heap.size + 1 + 1 + 1) #[.int .i64 b] 3 (by simp)).alloc _).alloc _) h1 (by simp)
  have hA := Blk.below ((Blk.new' (w := (((w.alloc _).alloc _).alloc _).alloc _) (b := w.heap.size + 1 + 1 + 1 + 1) #[.int .u8 0, .int .i64 0] 59 (by simp)).alloc _) h1 (by simp)
  have hB := Blk.below (Blk.new' (w := ((((w.alloc _).alloc _).alloc _).alloc _).alloc _) (b := w.heap.size + 1 + 1 + 1 + 1 + 1) #[.int .i64 0, .int .i64 0, .int .i64 0] 43 (by simp)) h1 (by simp)
  have hb1 : Below w.heap.size w w1 := (((((((Below.refl _ _).alloc (Nat.le_refl _) _).alloc (by simp) _).alloc (by simp; omega) _).alloc (by simp; omega) _).alloc (by simp; omega) _).alloc (by simp; omega) _).trans (h1.mono (by simp; omega))
  clear h1
  obtain ⟨p0, p1, p2, _⟩ := (hP.alloc (.cells #[.int .i64 m] 3)).three
  obtain ⟨s0, s1, _⟩ := (hS.alloc (.cells #[.int .i64 m] 3)).two
  obtain ⟨f0, _⟩ := (hF.alloc (.cells #[.int .i64 m] 3)).one
  go_wp2_with fail
  refine (CF.out _).mono ?_
  rintro e w2 ⟨rfl, h2⟩
  have hz2 := h2.size
  simp only [World.size_alloc] at hz2
  have hM := Blk.below (Blk.new' (w := w1) #[.int .i64 m] 3 rfl) h2 (by simp)
  replace hP := (hP.alloc _).below h2 (by simp; omega)
  replace hS := (hS.alloc _).below h2 (by simp; omega)
  replace hF := (hF.alloc _).below h2 (by simp; omega)
  replace hT := (hT.alloc _).below h2 (by simp; omega)
  replace hA := (hA.alloc _).below h2 (by simp; omega)
  replace hB := (hB.alloc _).below h2 (by simp; omega)
  have hb2 : Below w.heap.size w w2 := (hb1.alloc hb1.size _).trans (h2.mono (by simp; omega))
  clear h2 hb1 p0 p1 p2 s0 s1 f0
  obtain ⟨m0, _⟩ := hM.one
  replace hP := hP.alloc (.cells #[.int .i64 (-1), .int .i64 (-1), .int .i64 m] 43)
  replace hS := hS.alloc (.cells #[.int .i64 (-1), .int .i64 (-1), .int .i64 m] 43)
  replace hF := hF.alloc (.cells #[.int .i64 (-1), .int .i64 (-1), .int .i64 m] 43)
  replace hT := hT.alloc (.cells #[.int .i64 (-1), .int .i64 (-1), .int .i64 m] 43)
  replace hA := hA.alloc (.cells #[.int .i64 (-1), .int .i64 (-1), .int .i64 m] 43)
  replace hB := hB.alloc (.cells #[.int .i64 (-1), .int .i64 (-1), .int .i64 m] 43)
  replace hM := hM.alloc (.cells #[.int .i64 (-1), .int .i64 (-1), .int .i64 m] 43)
  have hR := Blk.new w2 #[.int .i64 (-1), .int .i64 (-1), .int .i64 m] 43
  have hbX := hb2.alloc hb2.size (.cells #[.int .i64 (-1), .int .i64 (-1), .int .i64 m] 43)
  have hzX : w1.heap.size + 1 ≤ (w2.alloc (.cells #[.int .i64 (-1), .int .i64 (-1), .int .i64 m] 43)).heap.size := by simp; omega
  obtain ⟨s0, s1, _⟩ := hS.two
  obtain ⟨mm0, _⟩ := hM.one
  go_wp2_with fail
  refine (CB.out w.heap.size (w.heap.size + 1 + 1) (w.heap.size + 1) w1.heap.size w2.heap.size (-1) (-1) m m _ m1 m2 hP hF hS hM hR (by omega) (by omega) (by omega)).mono ?_
  rintro e w3 ⟨rfl, k4, hS', hR'⟩
  replace hP := hP.kept k4 (by simp; omega)
  replace hT := hT.kept k4 (by simp; omega)
  replace hA := hA.kept k4 (by simp; omega)
  replace hB := hB.kept k4 (by simp; omega)
  replace hbX : Below w.heap.size w w3 := hbX.trans (k4.belowOf (by simp; omega) (by simp; omega))
  have hz3 := k4.size
  simp only [World.size_alloc] at hz3
  clear k4 hS hR
  have hS := hS'
  have hR := hR'
  clear hS' hR'
  go_wp2_with fail
  refine (fail_no (br := w2.heap.size) y o l 1 n b (w.heap.size + 1) w.heap.size (w.heap.size + 1 + 1 + 1) _ hn0 hn1 l1 l2 hle hS hP hT).mono ?_
  rintro e w4 ⟨rfl, rfl⟩
  obtain ⟨s0, s1, _⟩ := hS.two
  obtain ⟨r0, r1, r2, _⟩ := hR.three
  obtain ⟨a0, a1, a2, a3⟩ := hA.two
  obtain ⟨b0, b1, b2, b3, b4, b5⟩ := hB.three
  go_wp2
  go_step3
  go_wp2
  go_region
  go_wp2
  rw [jump_ret]
  refine bodyPost_ret (v := .tuple #[.agg #[.int .u8 1, .int .i64 n], .agg #[.int .i64 n, .int .i64 (-1), .int .i64 (m - 1)], .int .i64 0]) ?_ rfl ⟨rfl, ?_⟩
  · have hA' := (((((hA.set 0 (.int .u8 1)).set 1 (.int .i64 n)).setOther (p := ⟨w.heap.size + 1 + 1 + 1 + 1 + 1, 0, none⟩) (by simp) (.int .i64 n)).setOther (p := ⟨w.heap.size + 1 + 1 + 1 + 1 + 1, 1, none⟩) (by simp) (.int .i64 (-1))).setOther (p := ⟨w.heap.size + 1 + 1 + 1 + 1 + 1, 2, none⟩) (by simp) (.int .i64 (m - 1))).two
    have hB' := (((((hB.setOther (p := ⟨w.heap.size + 1 + 1 + 1 + 1, 0, none⟩) (by simp) (.int .u8 1)).setOther (p := ⟨w.heap.size + 1 + 1 + 1 + 1, 1, none⟩) (by simp) (.int .i64 n)).set 0 (.int .i64 n)).set 1 (.int .i64 (-1))).set 2 (.int .i64 (m - 1))).three
    simp [results, Try.results38, go_sem, hA'.1, hA'.2.1, hB'.1, hB'.2.1, hB'.2.2.1]
  · exact ((((((hbX.setCell (p := ⟨w.heap.size + 1 + 1 + 1 + 1, 0, none⟩) (by simp; omega) _).setCell (p := ⟨w.heap.size + 1 + 1 + 1 + 1, 1, none⟩) (by simp; omega) _).setCell (p := ⟨w.heap.size + 1 + 1 + 1 + 1 + 1, 0, none⟩) (by simp; omega) _).setCell (p := ⟨w.heap.size + 1 + 1 + 1 + 1 + 1, 1, none⟩) (by simp; omega) _).setCell (p := ⟨w.heap.size + 1 + 1 + 1 + 1 + 1, 2, none⟩) (by simp; omega) _).drew)

/-- due.Advance, of what fits. -/
theorem adv_any (p : Plan) (s : Phase) (a b : Int) (w : World) (h : Fits p s a) (hb : Tick b) (hab : a ≤ b) :
    Calls Try.prog 38 #[.agg #[.int .i64 p.every, .int .i64 p.offset, .int .i64 p.timeout], .agg #[.int .u8 s.state, .int .i64 s.since], .int .i64 a, .int .i64 b] w
      fun e w' => e = .returned (.tuple #[.agg #[.int .u8 (adv p s a b).1.state, .int .i64 (adv p s a b).1.since], .agg #[.int .i64 (adv p s a b).2.begun, .int .i64 (adv p s a b).2.failed, .int .i64 (adv p s a b).2.skipped], .int .i64 0]) ∧ Below w.heap.size w w' := by
  rcases h.2.2 with g | g | g
  · by_cases hm : upTo p b - upTo p a = 0
    · exact adv00 p s a b w h hb hab g.1 hm
    · by_cases hle : nxt p a + p.timeout ≤ b
      · exact adv0y p s a b w h hb hab g.1 hm hle
      · exact adv0n p s a b w h hb hab g.1 hm (by omega)
  · by_cases hle : s.since + p.timeout ≤ b
    · exact adv1y p s a b w h hb hab g.1 hle
    · exact adv1n p s a b w h hb hab g.1 (by omega)
  · exact adv2 p s a b w h hb hab g.1
end Go.Proofs.Ytokgfmibhkkiaaa
