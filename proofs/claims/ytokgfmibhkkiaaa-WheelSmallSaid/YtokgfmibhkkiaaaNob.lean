/- Wheels that are none: what every method answers on them. -/
import Derived.Test.YtokgfmibhkkiaaaAwakeW
namespace Go.Proofs.Ytokgfmibhkkiaaa
open Go.RowKit Wh Mem Go.Maps

/-- a pointer to no wheel: nil, or to a head that New did not make -/
def NoW (w : World) (p : Option Addr) : Prop := p = none ∨ ∃ b, p = some ⟨b, 0, none⟩ ∧ Blk w b #[.bool false, .int .i64 0, .map none] 79
theorem NoW.below {w w' : World} {p : Option Addr} (h : NoW w p) (hb : Below w.heap.size w w') : NoW w' p := by
  rcases h with rfl | ⟨b, rfl, h⟩
  · exact .inl rfl
  · exact .inr ⟨b, rfl, h.below hb h.lt⟩

theorem isw_no {w : World} {p : Option Addr} (h : NoW w p) :
    Calls Try.prog 36 #[.pointer p] w fun e w' => e = .returned (.bool false) ∧ w = w' := by
  rcases h with rfl | ⟨b, rfl, h⟩
  · go_enter Try.func36, Try.ntmps36
    go_wp2
    go_ret
    exact ⟨rfl, rfl⟩
  · obtain ⟨h0, h1, h2, _⟩ := h.three
    clear h
    go_enter Try.func36, Try.ntmps36
    go_wp2
    go_ret
    exact ⟨rfl, rfl⟩
theorem find_no {w : World} {p : Option Addr} (h : NoW w p) (id : Int) :
    Calls Try.prog 40 #[.pointer p, .int .i64 id] w fun e w' => e = .returned (.tuple #[.pointer none, .int .i64 1]) ∧ w = w' := by
  have HI := Lib.hid (isw_no h)
  clear h
  go_enter Try.func40, Try.ntmps40
  go_wp2_with (first | (go_at_call 36; refine (HI.out).mono ?_; rintro e w' ⟨rfl, rfl⟩))
  go_ret2
  exact ⟨rfl, rfl⟩
theorem answer_nil {w : World} {p : Option Addr} (h : NoW w p) (id : Int) :
    Calls Try.prog 21 #[.pointer p, .int .i64 id] w fun e w' => e = .returned (.tuple #[.int .i64 0, .int .i64 1]) ∧ w = w' := by
  have HI := Lib.hid (find_no h id)
  clear h
  go_enter Try.func21, Try.ntmps21
  go_wp2_with (first | (go_at_call 40; refine (HI.out).mono ?_; rintro e w' ⟨rfl, rfl⟩))
  go_ret2
  exact ⟨rfl, rfl⟩
theorem handle_nil {w : World} {p : Option Addr} (h : NoW w p) (id : Int) :
    Calls Try.prog 22 #[.pointer p, .int .i64 id] w fun e w' => e = .returned (.tuple #[.int .i64 0, .int .i64 1]) ∧ w = w' := by
  have HI := Lib.hid (find_no h id)
  clear h
  go_enter Try.func22, Try.ntmps22
  go_wp2_with (first | (go_at_call 40; refine (HI.out).mono ?_; rintro e w' ⟨rfl, rfl⟩))
  go_ret2
  exact ⟨rfl, rfl⟩
theorem drop_nil {w : World} {p : Option Addr} (h : NoW w p) (id : Int) :
    Calls Try.prog 32 #[.pointer p, .int .i64 id] w fun e w' => e = .returned (.tuple #[.agg #[.int .u8 0, .int .i64 0], .int .i64 1]) ∧ Below w.heap.size w w' := by
  have hb : Below w.heap.size w (w.alloc (.cells #[.int .u8 0, .int .i64 0] 59)) := ((Below.refl _ _).alloc (Nat.le_refl _) _)
  have HI := Lib.hid (find_no (h.below hb) id)
  clear h
  go_enter Try.func32, Try.ntmps32
  go_wp2_with (first | (go_at_call 40; refine (HI.out).mono ?_; rintro e w' ⟨rfl, rfl⟩))
  refine bodyPost_ret (v := (.tuple #[.agg #[.int .u8 0, .int .i64 0], .int .i64 1])) (by simp [results, Try.results32, go_sem]) rfl ⟨rfl, hb⟩
theorem get_nil {w : World} {p : Option Addr} (h : NoW w p) (id : Int) :
    Calls Try.prog 23 #[.pointer p, .int .i64 id] w fun e w' => e = .returned (.tuple #[.agg #[.int .i64 0, .int .i64 0, .int .i64 0], .agg #[.int .u8 0, .int .i64 0], .int .i64 1]) ∧ Below w.heap.size w w' := by
  have hb : Below w.heap.size w ((w.alloc (.cells #[.int .i64 0, .int .i64 0, .int .i64 0] 52)).alloc (.cells #[.int .u8 0, .int .i64 0] 59)) := (((Below.refl _ _).alloc (Nat.le_refl _) _).alloc (by simp) _)
  have HI := Lib.hid (find_no (h.below hb) id)
  clear h
  go_enter Try.func23, Try.ntmps23
  go_wp2_with (first | (go_at_call 40; refine (HI.out).mono ?_; rintro e w' ⟨rfl, rfl⟩))
  refine bodyPost_ret (v := (.tuple #[.agg #[.int .i64 0, .int .i64 0, .int .i64 0], .agg #[.int .u8 0, .int .i64 0], .int .i64 1])) (by simp [results, Try.results23, go_sem]) rfl ⟨rfl, hb⟩
theorem adv_nil {w : World} {p : Option Addr} (h : NoW w p) (tt : Int) :
    Calls Try.prog 14 #[.pointer p, .int .i64 tt] w fun e w' => e = .returned (.tuple #[.slice none 0 0, .int .i64 1]) ∧ w = w' := by
  have HI := Lib.hid (isw_no h)
  clear h
  go_enter Try.func14, Try.ntmps14
  go_wp2_with (first | (go_at_call 36; refine (HI.out).mono ?_; rintro e w' ⟨rfl, rfl⟩))
  go_ret2
  exact ⟨rfl, rfl⟩
theorem wake_nil {w : World} {p : Option Addr} (h : NoW w p) :
    Calls Try.prog 12 #[.pointer p] w fun e w' => e = .returned (.tuple #[.int .i64 0, .int .i64 1]) ∧ w = w' := by
  have HI := Lib.hid (isw_no h)
  clear h
  go_enter Try.func12, Try.ntmps12
  go_wp2_with (first | (go_at_call 36; refine (HI.out).mono ?_; rintro e w' ⟨rfl, rfl⟩))
  go_ret2
  exact ⟨rfl, rfl⟩
theorem now_nil {w : World} {p : Option Addr} (h : NoW w p) :
    Calls Try.prog 13 #[.pointer p] w fun e w' => e = .returned (.int .i64 0) ∧ w = w' := by
  have HI := Lib.hid (isw_no h)
  clear h
  go_enter Try.func13, Try.ntmps13
  go_wp2_with (first | (go_at_call 36; refine (HI.out).mono ?_; rintro e w' ⟨rfl, rfl⟩))
  go_ret
  exact ⟨rfl, rfl⟩
theorem len_nil {w : World} {p : Option Addr} (h : NoW w p) :
    Calls Try.prog 27 #[.pointer p] w fun e w' => e = .returned (.int .i64 0) ∧ w = w' := by
  have HI := Lib.hid (isw_no h)
  clear h
  go_enter Try.func27, Try.ntmps27
  go_wp2_with (first | (go_at_call 36; refine (HI.out).mono ?_; rintro e w' ⟨rfl, rfl⟩))
  go_ret
  exact ⟨rfl, rfl⟩
theorem add_nil {w : World} {p : Option Addr} (h : NoW w p) (id y o t : Int) :
    Calls Try.prog 18 #[.pointer p, .int .i64 id, .agg #[.int .i64 y, .int .i64 o, .int .i64 t]] w fun e w' => e = .returned (.int .i64 1) ∧ Below w.heap.size w w' := by
  have hb : Below w.heap.size w (w.alloc (.cells #[.int .i64 y, .int .i64 o, .int .i64 t] 52)) := (Below.refl _ _).alloc (Nat.le_refl _) _
  have HI := Lib.hid (isw_no (h.below hb))
  clear h
  go_enter Try.func18, Try.ntmps18
  go_wp2_with (first | (go_at_call 36; refine (HI.out).mono ?_; rintro e w' ⟨rfl, rfl⟩))
  go_ret
  exact ⟨rfl, hb⟩
theorem list_nil_all {w : World} {p : Option Addr} (h : NoW w p) :
    Calls Try.prog 48 #[.pointer p, .func (.func 51) #[] #[]] w fun e w' => e = .returned (.slice none 0 0) ∧ w = w' := by
  have HI := Lib.hid (isw_no h)
  clear h
  go_enter Try.func48, Try.ntmps48
  go_wp2_with (first | (go_at_call 36; refine (HI.out).mono ?_; rintro e w' ⟨rfl, rfl⟩))
  go_ret
  exact ⟨rfl, rfl⟩
theorem all_nil {w : World} {p : Option Addr} (h : NoW w p) :
    Calls Try.prog 31 #[.pointer p] w fun e w' => e = .returned (.slice none 0 0) ∧ w = w' := by
  have HI := Lib.hid (list_nil_all h)
  clear h
  go_enter Try.func31, Try.ntmps31
  go_wp2_with (first | (go_at_call 48; refine (HI.out).mono ?_; rintro e w' ⟨rfl, rfl⟩))
  go_ret
  exact ⟨rfl, rfl⟩
theorem list_nil_open {w : World} {p : Option Addr} (h : NoW w p) :
    Calls Try.prog 48 #[.pointer p, .func (.func 49) #[] #[]] w fun e w' => e = .returned (.slice none 0 0) ∧ w = w' := by
  have HI := Lib.hid (isw_no h)
  clear h
  go_enter Try.func48, Try.ntmps48
  go_wp2_with (first | (go_at_call 36; refine (HI.out).mono ?_; rintro e w' ⟨rfl, rfl⟩))
  go_ret
  exact ⟨rfl, rfl⟩
theorem open_nil {w : World} {p : Option Addr} (h : NoW w p) :
    Calls Try.prog 29 #[.pointer p] w fun e w' => e = .returned (.slice none 0 0) ∧ w = w' := by
  have HI := Lib.hid (list_nil_open h)
  clear h
  go_enter Try.func29, Try.ntmps29
  go_wp2_with (first | (go_at_call 48; refine (HI.out).mono ?_; rintro e w' ⟨rfl, rfl⟩))
  go_ret
  exact ⟨rfl, rfl⟩
theorem list_nil_wait {w : World} {p : Option Addr} (h : NoW w p) :
    Calls Try.prog 48 #[.pointer p, .func (.func 50) #[] #[]] w fun e w' => e = .returned (.slice none 0 0) ∧ w = w' := by
  have HI := Lib.hid (isw_no h)
  clear h
  go_enter Try.func48, Try.ntmps48
  go_wp2_with (first | (go_at_call 36; refine (HI.out).mono ?_; rintro e w' ⟨rfl, rfl⟩))
  go_ret
  exact ⟨rfl, rfl⟩
theorem wait_nil {w : World} {p : Option Addr} (h : NoW w p) :
    Calls Try.prog 30 #[.pointer p] w fun e w' => e = .returned (.slice none 0 0) ∧ w = w' := by
  have HI := Lib.hid (list_nil_wait h)
  clear h
  go_enter Try.func30, Try.ntmps30
  go_wp2_with (first | (go_at_call 48; refine (HI.out).mono ?_; rintro e w' ⟨rfl, rfl⟩))
  go_ret
  exact ⟨rfl, rfl⟩
end Go.Proofs.Ytokgfmibhkkiaaa
