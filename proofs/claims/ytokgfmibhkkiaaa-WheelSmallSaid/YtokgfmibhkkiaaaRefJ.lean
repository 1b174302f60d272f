/- The reference's Add: what it rejects. -/
import Derived.Test.YtokgfmibhkkiaaaRefI
namespace Go.Proofs.Ytokgfmibhkkiaaa
open Go.RowKit Wh Tw Mem Grow

theorem add_blks (w : World) (now y o t : Int) (sv : Value) : ∃ W, W = (((w.alloc (.cells #[.int .i64 now, sv] 92)).alloc (.cells #[.int .i64 y, .int .i64 o, .int .i64 t] 95)).alloc (.cells #[.int .i64 0, .slice none 0 0] 92)) ∧
    Below w.heap.size w W ∧ Blk W w.heap.size #[.int .i64 now, sv] 92 ∧ Blk W (w.heap.size + 1) #[.int .i64 y, .int .i64 o, .int .i64 t] 95 ∧ Blk W (w.heap.size + 1 + 1) #[.int .i64 0, .slice none 0 0] 92 :=
  ⟨_, rfl, (((Below.refl _ _).alloc (Nat.le_refl _) _).alloc (by simp) _).alloc (by simp; omega) _, ((Blk.new w _ 92).alloc _).alloc _, (Blk.new' (w := w.alloc _) _ 95 (by simp)).alloc _, Blk.new' (w := (w.alloc _).alloc _) _ 92 (by simp)⟩

theorem RowAt.below' {w w' : World} {ob : Option Addr} {cap : Nat} {l : List Mb} (h : RowAt w ob cap l) (hb : Below w.heap.size w w') : RowAt w' ob cap l := h.below hb
set_option maxHeartbeats 2000000 in
theorem radd_range {w : World} (now id y o t : Int) (ob : Option Addr) (n cap : Nat) (hid : id < 0 ∨ 4294967295 < id) :
    Calls Try.prog 43 #[.agg #[.int .i64 now, .slice ob n cap], .int .i64 id, .agg #[.int .i64 y, .int .i64 o, .int .i64 t]] w fun e w' => e = .returned (.tuple #[.agg #[.int .i64 now, .slice ob n cap], .int .i64 2]) ∧ Below w.heap.size w w' := by
  rcases hid with hid | hid
  all_goals
    go_enter Try.func43, Try.ntmps43
    go_wp2
    refine bodyPost_ret (v := .tuple #[.agg #[.int .i64 now, .slice ob n cap], .int .i64 2]) ?_ rfl ⟨rfl, ?_⟩
    · simp [results, Try.results43, go_sem]
    · go_grown

set_option maxHeartbeats 2000000 in
theorem radd_wrong {w : World} (now id y o t : Int) (ob : Option Addr) (n cap : Nat) (h1 : 0 ≤ id) (h2 : id ≤ 4294967295) (hr : ¬ Right ⟨y, o, t⟩) :
    Calls Try.prog 43 #[.agg #[.int .i64 now, .slice ob n cap], .int .i64 id, .agg #[.int .i64 y, .int .i64 o, .int .i64 t]] w fun e w' => e = .returned (.tuple #[.agg #[.int .i64 now, .slice ob n cap], .int .i64 2]) ∧ Below w.heap.size w w' := by
  obtain ⟨W, hW, hbW, B0, B1, B2⟩ := add_blks w now y o t (.slice ob n cap)
  have hcall := fun W => rright_no y o t hr W
  have HC := Lib.hid hcall
  have HB0 := Lib.hid B0
  have HB1 := Lib.hid B1
  have HB2 := Lib.hid B2
  clear hcall hr
  obtain ⟨p0, p1, p2, p3, p4, p5⟩ := B1.three
  clear B0 B1 B2
  subst hW
  go_enter Try.func43, Try.ntmps43
  go_wp2_with (first | (go_at_call 58; refine (HC.out _).mono ?_; rintro e w' ⟨rfl, hb⟩; obtain ⟨x0, x1, x2, x3⟩ := (HB0.out.below hb (by simp <;> omega)).two; obtain ⟨y0, y1, y2, y3⟩ := (HB2.out.below hb (by simp <;> omega)).two; have hbw := hbW.trans (hb.mono (by simp <;> omega))))
  refine bodyPost_ret (v := .tuple #[.agg #[.int .i64 now, .slice ob n cap], .int .i64 2]) ?_ rfl ⟨rfl, ?_⟩
  · simp [results, Try.results43, go_sem, y0, y1]
  · exact (hbw.setCell (by show w.heap.size ≤ w.heap.size + 1 + 1; omega) _).setCell (by show w.heap.size ≤ w.heap.size + 1 + 1; omega) _

set_option maxHeartbeats 2000000 in
set_option maxRecDepth 100000 in
theorem radd_there {w : World} {ob : Option Addr} {cap : Nat} {l : List Mb} (h : RowAt w ob cap l) (hl : Ids l) (now id y o t : Int) (hlen : l.length ≤ 10000) (h1 : 0 ≤ id) (h2 : id ≤ 4294967295) (hr : Right ⟨y, o, t⟩) {k : Nat} (hk : k < l.length) (hid : l[k].id = id) :
    Calls Try.prog 43 #[.agg #[.int .i64 now, .slice ob l.length cap], .int .i64 id, .agg #[.int .i64 y, .int .i64 o, .int .i64 t]] w fun e w' => e = .returned (.tuple #[.agg #[.int .i64 now, .slice ob l.length cap], .int .i64 290]) ∧ Below w.heap.size w w' := by
  obtain ⟨W, hW, hbW, B0, B1, B2⟩ := add_blks w now y o t (.slice ob l.length cap)
  have HC := Lib.hid (fun W => rright_yes y o t hr W)
  have HF : Hid (∀ W', Below w.heap.size w W' → Calls Try.prog 59 #[.agg #[.int .i64 now, .slice ob l.length cap], .int .i64 id] W' fun e w' => e = .returned (.int .i64 k) ∧ Below W'.heap.size W' w') := Lib.hid fun W' hb' => rfind_yes (RowAt.below' h hb') hl now id hlen hk hid
  have HB0 := Lib.hid B0
  have HB1 := Lib.hid B1
  have HB2 := Lib.hid B2
  obtain ⟨p0, p1, p2, p3, p4, p5⟩ := B1.three
  clear B0 B1 B2 hr h
  subst hW
  go_enter Try.func43, Try.ntmps43
  go_wp2_with (first | (go_at_call 58; refine (HC.out _).mono ?_; rintro e w' ⟨rfl, hb⟩; have B0 := (HB0.out.below hb (by simp <;> omega)); have B1 := (HB1.out.below hb (by simp <;> omega)); have B2 := (HB2.out.below hb (by simp <;> omega)); have hbw := hbW.trans (hb.mono (by simp <;> omega)); have hzw := hbw.size; have HB0 := Lib.hid B0; have HB1 := Lib.hid B1; have HB2 := Lib.hid B2; obtain ⟨x0, x1, x2, x3⟩ := B0.two; clear B0 B1 B2 hb) | (go_at_call 59; refine (HF.out _ hbw).mono ?_; rintro e w2 ⟨rfl, hb⟩; have B0 := (HB0.out.below hb HB0.out.lt); have B2 := (HB2.out.below hb HB2.out.lt); have hbw2 := hbw.trans (hb.mono hzw); obtain ⟨r0, r1, r2, r3⟩ := B0.two; obtain ⟨y0, y1, y2, y3⟩ := B2.two; clear B0 B2 hb))
  refine bodyPost_ret (v := .tuple #[.agg #[.int .i64 now, .slice ob l.length cap], .int .i64 290]) ?_ rfl ⟨rfl, ?_⟩
  · simp [results, Try.results43, go_sem, y0, y1]
  · exact (hbw2.setCell (by show w.heap.size ≤ w.heap.size + 1 + 1; omega) _).setCell (by show w.heap.size ≤ w.heap.size + 1 + 1; omega) _

set_option maxHeartbeats 2000000 in
set_option maxRecDepth 100000 in
theorem radd_many {w : World} {ob : Option Addr} {cap : Nat} {l : List Mb} (h : RowAt w ob cap l) (hl : Ids l) (now id y o t : Int) (hlen : l.length ≤ 10000) (h1 : 0 ≤ id) (h2 : id ≤ 4294967295) (hr : Right ⟨y, o, t⟩) (hm : findM l id = none) (hfull : l.length = 10000) :
    Calls Try.prog 43 #[.agg #[.int .i64 now, .slice ob l.length cap], .int .i64 id, .agg #[.int .i64 y, .int .i64 o, .int .i64 t]] w fun e w' => e = .returned (.tuple #[.agg #[.int .i64 now, .slice ob l.length cap], .int .i64 5]) ∧ Below w.heap.size w w' := by
  obtain ⟨W, hW, hbW, B0, B1, B2⟩ := add_blks w now y o t (.slice ob l.length cap)
  have HC := Lib.hid (fun W => rright_yes y o t hr W)
  have HF : Hid (∀ W', Below w.heap.size w W' → Calls Try.prog 59 #[.agg #[.int .i64 now, .slice ob l.length cap], .int .i64 id] W' fun e w' => e = .returned (.int .i64 (-1)) ∧ Below W'.heap.size W' w') := Lib.hid fun W' hb' => rfind_no (RowAt.below' h hb') hl now id hlen hm
  have HB0 := Lib.hid B0
  have HB1 := Lib.hid B1
  have HB2 := Lib.hid B2
  obtain ⟨p0, p1, p2, p3, p4, p5⟩ := B1.three
  have hge : 10000 ≤ l.length := by omega
  clear B0 B1 B2 hr h hfull
  subst hW
  go_enter Try.func43, Try.ntmps43
  go_wp2_with (first | (go_at_call 58; refine (HC.out _).mono ?_; rintro e w' ⟨rfl, hb⟩; have B0 := (HB0.out.below hb (by simp <;> omega)); have B1 := (HB1.out.below hb (by simp <;> omega)); have B2 := (HB2.out.below hb (by simp <;> omega)); have hbw := hbW.trans (hb.mono (by simp <;> omega)); have hzw := hbw.size; have HB0 := Lib.hid B0; have HB1 := Lib.hid B1; have HB2 := Lib.hid B2; obtain ⟨x0, x1, x2, x3⟩ := B0.two; clear B0 B1 B2 hb) | (go_at_call 59; refine (HF.out _ hbw).mono ?_; rintro e w2 ⟨rfl, hb⟩; have B0 := (HB0.out.below hb HB0.out.lt); have B2 := (HB2.out.below hb HB2.out.lt); have hbw2 := hbw.trans (hb.mono hzw); obtain ⟨r0, r1, r2, r3⟩ := B0.two; obtain ⟨y0, y1, y2, y3⟩ := B2.two; clear B0 B2 hb))
  refine bodyPost_ret (v := .tuple #[.agg #[.int .i64 now, .slice ob l.length cap], .int .i64 5]) ?_ rfl ⟨rfl, ?_⟩
  · simp [results, Try.results43, go_sem, y0, y1]
  · exact (hbw2.setCell (by show w.heap.size ≤ w.heap.size + 1 + 1; omega) _).setCell (by show w.heap.size ≤ w.heap.size + 1 + 1; omega) _
end Go.Proofs.Ytokgfmibhkkiaaa
