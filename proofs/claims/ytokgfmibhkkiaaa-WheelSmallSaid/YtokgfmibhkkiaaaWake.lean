/- What due.Wake does. -/
import Derived.Test.YtokgfmibhkkiaaaDue
namespace Go.Proofs.Ytokgfmibhkkiaaa
open Go.RowKit Wh Mem

set_option maxRecDepth 100000 in
theorem wake1 (p : Plan) (s : Phase) (t : Int) (w : World) (h : Fits p s t) (hst : s.state ≠ 1) (hn : nxt p t ≤ 281474976710656) :
    Calls Try.prog 37 #[.agg #[.int .i64 p.every, .int .i64 p.offset, .int .i64 p.timeout], .agg #[.int .u8 s.state, .int .i64 s.since], .int .i64 t] w
      fun e w' => e = .returned (.tuple #[.int .i64 (nxt p t), .int .i64 0]) ∧ Below w.heap.size w w' := by
  have cf := fun w => fits_yes p s t h w
  have cn := fun w => next_ok p.every p.offset p.timeout t h.1 h.2.1 hn w
  have e1 : (s.state == 1) = false := by simpa using hst
  clear hst
  have CF := Lib.hid cf
  have CN := Lib.hid cn
  have ng := nxt_gt h.1 t
  have nt := h.2.1.1
  clear cf cn h
  obtain ⟨y, o, l⟩ := p
  obtain ⟨st, si⟩ := s
  dsimp only at *
  skip
  generalize nxt ⟨y, o, l⟩ t = n at *
  go_enter Try.func37, Try.ntmps37
  go_wp2_with (first | (go_at_call 39; with_reducible refine (CF.out _).mono ?_; rintro e w1 ⟨rfl, hb⟩; obtain ⟨hc, hf⟩ := bcell hb) | (go_at_call 52; with_reducible refine (CN.out _).mono ?_; rintro e w2 ⟨rfl, hb2⟩; replace hb := hb.trans (hb2.mono hb.size); clear hc hf; obtain ⟨hc, hf⟩ := bcell hb))
  go_ret2
  exact ⟨rfl, (((Below.refl _ _).alloc (Nat.le_refl _) _).alloc (by simp) _).trans (hb.mono (by simp; omega))⟩

set_option maxRecDepth 100000 in
theorem wake2 (p : Plan) (s : Phase) (t : Int) (w : World) (h : Fits p s t) (hst : s.state ≠ 1) (hn : 281474976710656 < nxt p t) :
    Calls Try.prog 37 #[.agg #[.int .i64 p.every, .int .i64 p.offset, .int .i64 p.timeout], .agg #[.int .u8 s.state, .int .i64 s.since], .int .i64 t] w
      fun e w' => e = .returned (.tuple #[.int .i64 0, .int .i64 4]) ∧ Below w.heap.size w w' := by
  have cf := fun w => fits_yes p s t h w
  have cn := fun w => next_full p.every p.offset p.timeout t h.1 h.2.1 hn w
  have e1 : (s.state == 1) = false := by simpa using hst
  clear hst
  have CF := Lib.hid cf
  have CN := Lib.hid cn
  have ng := nxt_gt h.1 t
  have nt := h.2.1.1
  clear cf cn h
  obtain ⟨y, o, l⟩ := p
  obtain ⟨st, si⟩ := s
  dsimp only at *
  skip
  generalize nxt ⟨y, o, l⟩ t = n at *
  go_enter Try.func37, Try.ntmps37
  go_wp2_with (first | (go_at_call 39; with_reducible refine (CF.out _).mono ?_; rintro e w1 ⟨rfl, hb⟩; obtain ⟨hc, hf⟩ := bcell hb) | (go_at_call 52; with_reducible refine (CN.out _).mono ?_; rintro e w2 ⟨rfl, hb2⟩; replace hb := hb.trans (hb2.mono hb.size); clear hc hf; obtain ⟨hc, hf⟩ := bcell hb))
  go_ret2
  exact ⟨rfl, (((Below.refl _ _).alloc (Nat.le_refl _) _).alloc (by simp) _).trans (hb.mono (by simp; omega))⟩

set_option maxRecDepth 100000 in
theorem wake3 (p : Plan) (s : Phase) (t : Int) (w : World) (h : Fits p s t) (hst : s.state = 1) (hend : s.since + p.timeout ≤ 281474976710656) (hn : 281474976710656 < nxt p t) :
    Calls Try.prog 37 #[.agg #[.int .i64 p.every, .int .i64 p.offset, .int .i64 p.timeout], .agg #[.int .u8 s.state, .int .i64 s.since], .int .i64 t] w
      fun e w' => e = .returned (.tuple #[.int .i64 (s.since + p.timeout), .int .i64 0]) ∧ Below w.heap.size w w' := by
  have cf := fun w => fits_yes p s t h w
  have cn := fun w => next_full p.every p.offset p.timeout t h.1 h.2.1 hn w
  have hs0 : 0 ≤ s.since ∧ s.since ≤ 281474976710656 := by
    rcases h.2.2 with g | g | g
    · omega
    · exact g.2.1.2.1
    · omega
  obtain ⟨hs0, hs1⟩ := hs0
  have hl1 : 1 ≤ p.timeout := h.1.2.2.1
  have hl2 : p.timeout ≤ 1099511627776 := by have := h.1.2.2.2; have := h.1.1.2; omega
  have he : Tick (s.since + p.timeout) := ⟨by omega, hend⟩
  have HE := Lib.hid he
  clear he
  have CF := Lib.hid cf
  have CN := Lib.hid cn
  have ng := nxt_gt h.1 t
  have nt := h.2.1.1
  clear cf cn h
  obtain ⟨y, o, l⟩ := p
  obtain ⟨st, si⟩ := s
  dsimp only at *
  obtain rfl : st = 1 := hst
  generalize nxt ⟨y, o, l⟩ t = n at *
  go_enter Try.func37, Try.ntmps37
  go_wp2_with (first | (go_at_call 39; with_reducible refine (CF.out _).mono ?_; rintro e w1 ⟨rfl, hb⟩; obtain ⟨hc, hf⟩ := bcell hb) | (go_at_call 52; with_reducible refine (CN.out _).mono ?_; rintro e w2 ⟨rfl, hb2⟩; replace hb := hb.trans (hb2.mono hb.size); clear hc hf; obtain ⟨hc, hf⟩ := bcell hb) | (go_at_call 53; with_reducible refine (tick_yes _ HE.out _).mono ?_; rintro e w3 ⟨rfl, rfl⟩))
  go_ret2
  exact ⟨rfl, (((Below.refl _ _).alloc (Nat.le_refl _) _).alloc (by simp) _).trans (hb.mono (by simp; omega))⟩

set_option maxRecDepth 100000 in
theorem wake4 (p : Plan) (s : Phase) (t : Int) (w : World) (h : Fits p s t) (hst : s.state = 1) (hend : s.since + p.timeout ≤ 281474976710656) (hn : nxt p t ≤ 281474976710656) (hlt : s.since + p.timeout < nxt p t) :
    Calls Try.prog 37 #[.agg #[.int .i64 p.every, .int .i64 p.offset, .int .i64 p.timeout], .agg #[.int .u8 s.state, .int .i64 s.since], .int .i64 t] w
      fun e w' => e = .returned (.tuple #[.int .i64 (s.since + p.timeout), .int .i64 0]) ∧ Below w.heap.size w w' := by
  have cf := fun w => fits_yes p s t h w
  have cn := fun w => next_ok p.every p.offset p.timeout t h.1 h.2.1 hn w
  have hs0 : 0 ≤ s.since ∧ s.since ≤ 281474976710656 := by
    rcases h.2.2 with g | g | g
    · omega
    · exact g.2.1.2.1
    · omega
  obtain ⟨hs0, hs1⟩ := hs0
  have hl1 : 1 ≤ p.timeout := h.1.2.2.1
  have hl2 : p.timeout ≤ 1099511627776 := by have := h.1.2.2.2; have := h.1.1.2; omega
  have he : Tick (s.since + p.timeout) := ⟨by omega, hend⟩
  have HE := Lib.hid he
  clear he
  have CF := Lib.hid cf
  have CN := Lib.hid cn
  have ng := nxt_gt h.1 t
  have nt := h.2.1.1
  clear cf cn h
  obtain ⟨y, o, l⟩ := p
  obtain ⟨st, si⟩ := s
  dsimp only at *
  obtain rfl : st = 1 := hst
  generalize nxt ⟨y, o, l⟩ t = n at *
  go_enter Try.func37, Try.ntmps37
  go_wp2_with (first | (go_at_call 39; with_reducible refine (CF.out _).mono ?_; rintro e w1 ⟨rfl, hb⟩; obtain ⟨hc, hf⟩ := bcell hb) | (go_at_call 52; with_reducible refine (CN.out _).mono ?_; rintro e w2 ⟨rfl, hb2⟩; replace hb := hb.trans (hb2.mono hb.size); clear hc hf; obtain ⟨hc, hf⟩ := bcell hb) | (go_at_call 53; with_reducible refine (tick_yes _ HE.out _).mono ?_; rintro e w3 ⟨rfl, rfl⟩))
  go_ret2
  exact ⟨rfl, (((Below.refl _ _).alloc (Nat.le_refl _) _).alloc (by simp) _).trans (hb.mono (by simp; omega))⟩

set_option maxRecDepth 100000 in
theorem wake5 (p : Plan) (s : Phase) (t : Int) (w : World) (h : Fits p s t) (hst : s.state = 1) (hend : s.since + p.timeout ≤ 281474976710656) (hn : nxt p t ≤ 281474976710656) (hlt : nxt p t ≤ s.since + p.timeout) :
    Calls Try.prog 37 #[.agg #[.int .i64 p.every, .int .i64 p.offset, .int .i64 p.timeout], .agg #[.int .u8 s.state, .int .i64 s.since], .int .i64 t] w
      fun e w' => e = .returned (.tuple #[.int .i64 (nxt p t), .int .i64 0]) ∧ Below w.heap.size w w' := by
  have cf := fun w => fits_yes p s t h w
  have cn := fun w => next_ok p.every p.offset p.timeout t h.1 h.2.1 hn w
  have hs0 : 0 ≤ s.since ∧ s.since ≤ 281474976710656 := by
    rcases h.2.2 with g | g | g
    · omega
    · exact g.2.1.2.1
    · omega
  obtain ⟨hs0, hs1⟩ := hs0
  have hl1 : 1 ≤ p.timeout := h.1.2.2.1
  have hl2 : p.timeout ≤ 1099511627776 := by have := h.1.2.2.2; have := h.1.1.2; omega
  have he : Tick (s.since + p.timeout) := ⟨by omega, hend⟩
  have HE := Lib.hid he
  clear he
  have CF := Lib.hid cf
  have CN := Lib.hid cn
  have ng := nxt_gt h.1 t
  have nt := h.2.1.1
  clear cf cn h
  obtain ⟨y, o, l⟩ := p
  obtain ⟨st, si⟩ := s
  dsimp only at *
  obtain rfl : st = 1 := hst
  generalize nxt ⟨y, o, l⟩ t = n at *
  go_enter Try.func37, Try.ntmps37
  go_wp2_with (first | (go_at_call 39; with_reducible refine (CF.out _).mono ?_; rintro e w1 ⟨rfl, hb⟩; obtain ⟨hc, hf⟩ := bcell hb) | (go_at_call 52; with_reducible refine (CN.out _).mono ?_; rintro e w2 ⟨rfl, hb2⟩; replace hb := hb.trans (hb2.mono hb.size); clear hc hf; obtain ⟨hc, hf⟩ := bcell hb) | (go_at_call 53; with_reducible refine (tick_yes _ HE.out _).mono ?_; rintro e w3 ⟨rfl, rfl⟩))
  go_ret2
  exact ⟨rfl, (((Below.refl _ _).alloc (Nat.le_refl _) _).alloc (by simp) _).trans (hb.mono (by simp; omega))⟩

set_option maxRecDepth 100000 in
theorem wake6 (p : Plan) (s : Phase) (t : Int) (w : World) (h : Fits p s t) (hst : s.state = 1) (hend : 281474976710656 < s.since + p.timeout) (hn : nxt p t ≤ 281474976710656) :
    Calls Try.prog 37 #[.agg #[.int .i64 p.every, .int .i64 p.offset, .int .i64 p.timeout], .agg #[.int .u8 s.state, .int .i64 s.since], .int .i64 t] w
      fun e w' => e = .returned (.tuple #[.int .i64 (nxt p t), .int .i64 0]) ∧ Below w.heap.size w w' := by
  have cf := fun w => fits_yes p s t h w
  have cn := fun w => next_ok p.every p.offset p.timeout t h.1 h.2.1 hn w
  have hs0 : 0 ≤ s.since ∧ s.since ≤ 281474976710656 := by
    rcases h.2.2 with g | g | g
    · omega
    · exact g.2.1.2.1
    · omega
  obtain ⟨hs0, hs1⟩ := hs0
  have hl1 : 1 ≤ p.timeout := h.1.2.2.1
  have hl2 : p.timeout ≤ 1099511627776 := by have := h.1.2.2.2; have := h.1.1.2; omega
  have he : ¬ Tick (s.since + p.timeout) := fun g => by have := g.2; omega
  have HE := Lib.hid he
  clear he
  have CF := Lib.hid cf
  have CN := Lib.hid cn
  have ng := nxt_gt h.1 t
  have nt := h.2.1.1
  clear cf cn h
  obtain ⟨y, o, l⟩ := p
  obtain ⟨st, si⟩ := s
  dsimp only at *
  obtain rfl : st = 1 := hst
  generalize nxt ⟨y, o, l⟩ t = n at *
  go_enter Try.func37, Try.ntmps37
  go_wp2_with (first | (go_at_call 39; with_reducible refine (CF.out _).mono ?_; rintro e w1 ⟨rfl, hb⟩; obtain ⟨hc, hf⟩ := bcell hb) | (go_at_call 52; with_reducible refine (CN.out _).mono ?_; rintro e w2 ⟨rfl, hb2⟩; replace hb := hb.trans (hb2.mono hb.size); clear hc hf; obtain ⟨hc, hf⟩ := bcell hb) | (go_at_call 53; with_reducible refine (tick_no _ HE.out _).mono ?_; rintro e w3 ⟨rfl, rfl⟩))
  go_ret2
  exact ⟨rfl, (((Below.refl _ _).alloc (Nat.le_refl _) _).alloc (by simp) _).trans (hb.mono (by simp; omega))⟩

set_option maxRecDepth 100000 in
theorem wake7 (p : Plan) (s : Phase) (t : Int) (w : World) (h : Fits p s t) (hst : s.state = 1) (hend : 281474976710656 < s.since + p.timeout) (hn : 281474976710656 < nxt p t) :
    Calls Try.prog 37 #[.agg #[.int .i64 p.every, .int .i64 p.offset, .int .i64 p.timeout], .agg #[.int .u8 s.state, .int .i64 s.since], .int .i64 t] w
      fun e w' => e = .returned (.tuple #[.int .i64 0, .int .i64 4]) ∧ Below w.heap.size w w' := by
  have cf := fun w => fits_yes p s t h w
  have cn := fun w => next_full p.every p.offset p.timeout t h.1 h.2.1 hn w
  have hs0 : 0 ≤ s.since ∧ s.since ≤ 281474976710656 := by
    rcases h.2.2 with g | g | g
    · omega
    · exact g.2.1.2.1
    · omega
  obtain ⟨hs0, hs1⟩ := hs0
  have hl1 : 1 ≤ p.timeout := h.1.2.2.1
  have hl2 : p.timeout ≤ 1099511627776 := by have := h.1.2.2.2; have := h.1.1.2; omega
  have he : ¬ Tick (s.since + p.timeout) := fun g => by have := g.2; omega
  have HE := Lib.hid he
  clear he
  have CF := Lib.hid cf
  have CN := Lib.hid cn
  have ng := nxt_gt h.1 t
  have nt := h.2.1.1
  clear cf cn h
  obtain ⟨y, o, l⟩ := p
  obtain ⟨st, si⟩ := s
  dsimp only at *
  obtain rfl : st = 1 := hst
  generalize nxt ⟨y, o, l⟩ t = n at *
  go_enter Try.func37, Try.ntmps37
  go_wp2_with (first | (go_at_call 39; with_reducible refine (CF.out _).mono ?_; rintro e w1 ⟨rfl, hb⟩; obtain ⟨hc, hf⟩ := bcell hb) | (go_at_call 52; with_reducible refine (CN.out _).mono ?_; rintro e w2 ⟨rfl, hb2⟩; replace hb := hb.trans (hb2.mono hb.size); clear hc hf; obtain ⟨hc, hf⟩ := bcell hb) | (go_at_call 53; with_reducible refine (tick_no _ HE.out _).mono ?_; rintro e w3 ⟨rfl, rfl⟩))
  go_ret2
  exact ⟨rfl, (((Below.refl _ _).alloc (Nat.le_refl _) _).alloc (by simp) _).trans (hb.mono (by simp; omega))⟩

/-- what due.Wake returns: a tick, or that there is none -/
def wakeRes (r : Option Int) : Array Value := match r with
  | some t => #[.int .i64 t, .int .i64 0]
  | none => #[.int .i64 0, .int .i64 4]

/-- due.Wake, of what fits. -/
theorem wake_any (p : Plan) (s : Phase) (t : Int) (w : World) (h : Fits p s t) :
    Calls Try.prog 37 #[.agg #[.int .i64 p.every, .int .i64 p.offset, .int .i64 p.timeout], .agg #[.int .u8 s.state, .int .i64 s.since], .int .i64 t] w
      fun e w' => e = .returned (.tuple (wakeRes (wakeOf p s t))) ∧ Below w.heap.size w w' := by
  unfold wakeOf
  by_cases hst : s.state = 1
  · by_cases hend : s.since + p.timeout ≤ 281474976710656
    · by_cases hn : nxt p t ≤ 281474976710656
      · by_cases hlt : s.since + p.timeout < nxt p t
        · rw [if_pos ⟨hst, hend, .inr hlt⟩]; exact wake4 p s t w h hst hend hn hlt
        · rw [if_neg (by omega), if_pos hn]; exact wake5 p s t w h hst hend hn (by omega)
      · rw [if_pos ⟨hst, hend, .inl (by omega)⟩]; exact wake3 p s t w h hst hend (by omega)
    · by_cases hn : nxt p t ≤ 281474976710656
      · rw [if_neg (by omega), if_pos hn]; exact wake6 p s t w h hst (by omega) hn
      · rw [if_neg (by omega), if_neg hn]; exact wake7 p s t w h hst (by omega) (by omega)
  · by_cases hn : nxt p t ≤ 281474976710656
    · rw [if_neg (by omega), if_pos hn]; exact wake1 p s t w h hst hn
    · rw [if_neg (by omega), if_neg hn]; exact wake2 p s t w h hst (by omega)
end Go.Proofs.Ytokgfmibhkkiaaa
