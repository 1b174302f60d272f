/- What the methods of a wheel do: New, Add, Drop, Answer, Handle, Get, Now, Len. -/
import Derived.Test.YtokgfmibhkkiaaaRep
import Derived.Test.YtokgfmibhkkiaaaDue
import Derived.Test.YtokgfmibhkkiaaaAdv
import Derived.Test.YtokgfmibhkkiaaaWake
import Derived.Carry
import Derived.Deep.RegionLaw
import Derived.Deep.RegionWith
namespace Go.Proofs.Ytokgfmibhkkiaaa
open Go.RowKit Wh Mem Go.Maps

/-- (*Wheel).is -/
theorem isw_yes {w : World} {pb mb : Nat} {now : Int} (h : Blk w pb #[.bool true, .int .i64 now, .map (some mb)] 79) :
    Calls Try.prog 36 #[.pointer (some ⟨pb, 0, none⟩)] w fun e w' => e = .returned (.bool true) ∧ w = w' := by
  obtain ⟨h0, h1, h2, _⟩ := h.three
  go_enter Try.func36, Try.ntmps36
  go_wp2
  go_ret
  exact ⟨rfl, rfl⟩

/-- (*Wheel).find -/
theorem find_some {w : World} {pb mb : Nat} {now : Int} {l : List Mb} (h : WheelAt w pb mb now l) {id : Int} (hw : (Lit.int .i64 id).wf = true) {m : Mb} (hm : findM l id = some m) :
    Calls Try.prog 40 #[.pointer (some ⟨pb, 0, none⟩), .int .i64 id] w fun e w' => e = .returned (.tuple #[.pointer (some ⟨m.blk, 0, none⟩), .int .i64 0]) ∧ w = w' := by
  obtain ⟨h0, h1, h2, _⟩ := h.head.three
  have hl := look_some h.map hw hm
  have hi := isw_yes h.head
  have H := Lib.hid h
  have HI := Lib.hid hi
  clear h hm hw hi
  go_enter Try.func40, Try.ntmps40
  go_wp2_with (first | (go_at_call 36; refine (HI.out).mono ?_; rintro e w' ⟨rfl, rfl⟩))
  go_ret2
  exact ⟨rfl, rfl⟩
theorem find_none {w : World} {pb mb : Nat} {now : Int} {l : List Mb} (h : WheelAt w pb mb now l) {id : Int} (hw : (Lit.int .i64 id).wf = true) (hm : findM l id = none) :
    Calls Try.prog 40 #[.pointer (some ⟨pb, 0, none⟩), .int .i64 id] w fun e w' => e = .returned (.tuple #[.pointer none, .int .i64 6]) ∧ w = w' := by
  obtain ⟨h0, h1, h2, _⟩ := h.head.three
  have hl := look_none h.map hw hm
  have hi := isw_yes h.head
  have H := Lib.hid h
  have HI := Lib.hid hi
  clear h hm hw hi
  go_enter Try.func40, Try.ntmps40
  go_wp2_with (first | (go_at_call 36; refine (HI.out).mono ?_; rintro e w' ⟨rfl, rfl⟩))
  go_ret2
  exact ⟨rfl, rfl⟩
/-- (*Wheel).Now -/
theorem now_any {w : World} {pb mb : Nat} {now : Int} {l : List Mb} (h : WheelAt w pb mb now l) :
    Calls Try.prog 13 #[.pointer (some ⟨pb, 0, none⟩)] w fun e w' => e = .returned (.int .i64 now) ∧ w = w' := by
  obtain ⟨h0, h1, h2, _⟩ := h.head.three
  have hi := isw_yes h.head
  have HI := Lib.hid hi
  clear h hi
  go_enter Try.func13, Try.ntmps13
  go_wp2_with (first | (go_at_call 36; refine (HI.out).mono ?_; rintro e w' ⟨rfl, rfl⟩))
  go_ret
  exact ⟨rfl, rfl⟩
/-- (*Wheel).Len -/
theorem len_any {w : World} {pb mb : Nat} {now : Int} {l : List Mb} (h : WheelAt w pb mb now l) :
    Calls Try.prog 27 #[.pointer (some ⟨pb, 0, none⟩)] w fun e w' => e = .returned (.int .i64 l.length) ∧ w = w' := by
  obtain ⟨h0, h1, h2, _⟩ := h.head.three
  have hi := isw_yes h.head
  have hlen := fun ty => h.map.len under77 ty
  rw [memD_size] at hlen
  have HI := Lib.hid hi
  clear h hi
  go_enter Try.func27, Try.ntmps27
  go_wp2_with (first | (go_at_call 36; refine (HI.out).mono ?_; rintro e w' ⟨rfl, rfl⟩))
  go_ret
  exact ⟨rfl, rfl⟩

/-- wheel.New -/
theorem new_ok (now : Int) (h : Tick now) (w : World) :
    Calls Try.prog 17 #[.int .i64 now] w fun e w' => e = .returned (.tuple #[.pointer (some ⟨w.heap.size + 1, 0, none⟩), .int .i64 0]) ∧ WheelAt w' (w.heap.size + 1) w.heap.size now [] ∧ Below w.heap.size w w' := by
  have h1 := h.1
  have h2 := h.2
  have hmm := @run_makeMap Try.prog
  clear h
  go_enter Try.func17, Try.ntmps17
  go_wp2
  go_ret2
  refine ⟨rfl, ⟨Blk.new' _ _ (by simp), ?_, by simp, by simp [Ids], by simp, by simp, by simp⟩, ((Below.refl _ _).alloc (Nat.le_refl _) _).alloc (by simp) _⟩
  exact ((World.ownsMap_made w Try.prog 3 Rp).alloc _)
theorem new_no (now : Int) (h : now < 0 ∨ 281474976710656 < now) (w : World) :
    Calls Try.prog 17 #[.int .i64 now] w fun e w' => e = .returned (.tuple #[.pointer none, .int .i64 2]) ∧ w = w' := by
  rcases h with h | h
  all_goals
    go_enter Try.func17, Try.ntmps17
    go_wp2
    go_ret2
    exact ⟨rfl, rfl⟩

/-- (*Wheel).Answer -/
theorem answer_none {w : World} {pb mb : Nat} {now : Int} {l : List Mb} (h : WheelAt w pb mb now l) {id : Int} (hw : (Lit.int .i64 id).wf = true) (hm : findM l id = none) :
    Calls Try.prog 21 #[.pointer (some ⟨pb, 0, none⟩), .int .i64 id] w fun e w' => e = .returned (.tuple #[.int .i64 0, .int .i64 6]) ∧ w = w' := by
  have hf := find_none h hw hm
  have HF := Lib.hid hf
  clear h hm hw hf
  go_enter Try.func21, Try.ntmps21
  go_wp2_with (first | (go_at_call 40; refine (HF.out).mono ?_; rintro e w' ⟨rfl, rfl⟩))
  go_ret2
  exact ⟨rfl, rfl⟩
theorem answer_no {w : World} {pb mb : Nat} {now : Int} {l : List Mb} (h : WheelAt w pb mb now l) {id : Int} (hw : (Lit.int .i64 id).wf = true) {m : Mb} (hm : findM l id = some m) (hs : m.phase.state ≠ 1) :
    Calls Try.prog 21 #[.pointer (some ⟨pb, 0, none⟩), .int .i64 id] w fun e w' => e = .returned (.tuple #[.int .i64 0, .int .i64 291]) ∧ w = w' := by
  have hf := find_some h hw hm
  obtain ⟨_, _, _, c3, c4, _⟩ := (h.mem m (findM_some hm).1).five
  have e1 : (m.phase.state != 1) = true := by simpa using hs
  have HF := Lib.hid hf
  clear h hm hw hf hs
  go_enter Try.func21, Try.ntmps21
  go_wp2_with (first | (go_at_call 40; refine (HF.out).mono ?_; rintro e w' ⟨rfl, rfl⟩))
  go_ret2
  exact ⟨rfl, rfl⟩
theorem answer_yes {w : World} {pb mb : Nat} {now : Int} {l : List Mb} (h : WheelAt w pb mb now l) {id : Int} (hw : (Lit.int .i64 id).wf = true) {m : Mb} (hm : findM l id = some m) (hs : m.phase.state = 1) :
    Calls Try.prog 21 #[.pointer (some ⟨pb, 0, none⟩), .int .i64 id] w fun e w' => e = .returned (.tuple #[.int .i64 m.phase.since, .int .i64 0]) ∧ WheelAt w' pb mb now (setM l id ⟨2, m.phase.since⟩) ∧ Kept (fun k => k = m.blk) w w' := by
  have hf := find_some h hw hm
  obtain ⟨hml, hid⟩ := findM_some hm
  have hb := h.mem m hml
  obtain ⟨_, _, _, c3, c4, _, _, _, f3, f4⟩ := hb.five
  have hfin : ∀ w', Kept (fun k => k = m.blk) w w' → Blk w' m.blk (mcells (setP m ⟨2, m.phase.since⟩)) 83 → WheelAt w' pb mb now (setM l id ⟨2, m.phase.since⟩) := by
    intro w' k hb'
    have := h.turned hml k hb' (by
      obtain ⟨r, t, g⟩ := h.fits m hml
      refine ⟨r, t, .inr (.inr ⟨rfl, ?_⟩)⟩
      rcases g with g | g | g
      · omega
      · exact ⟨g.2.1, g.2.2.1⟩
      · omega)
    rw [hid] at this
    exact this
  have HFin := Lib.hid hfin
  have HF := Lib.hid hf
  have e1 : (m.phase.state != 1) = false := by simpa using hs
  clear h hm hw hf hs hfin hid hml
  go_enter Try.func21, Try.ntmps21
  go_wp2_with (first | (go_at_call 40; refine (HF.out).mono ?_; rintro e w' ⟨rfl, rfl⟩))
  go_ret2
  have kk : Kept (fun k => k = m.blk) w (w.setCell ⟨m.blk, 3, none⟩ (.int .u8 2)) := Kept.setCell (X := fun k => k = m.blk) (Kept.refl _ _) (fun _ => rfl) _
  exact ⟨rfl, HFin.out _ kk (hb.set 3 _), kk⟩

/-- (*Wheel).Handle -/
theorem handle_none {w : World} {pb mb : Nat} {now : Int} {l : List Mb} (h : WheelAt w pb mb now l) {id : Int} (hw : (Lit.int .i64 id).wf = true) (hm : findM l id = none) :
    Calls Try.prog 22 #[.pointer (some ⟨pb, 0, none⟩), .int .i64 id] w fun e w' => e = .returned (.tuple #[.int .i64 0, .int .i64 6]) ∧ w = w' := by
  have hf := find_none h hw hm
  have HF := Lib.hid hf
  clear h hm hw hf
  go_enter Try.func22, Try.ntmps22
  go_wp2_with (first | (go_at_call 40; refine (HF.out).mono ?_; rintro e w' ⟨rfl, rfl⟩))
  go_ret2
  exact ⟨rfl, rfl⟩
theorem handle_no {w : World} {pb mb : Nat} {now : Int} {l : List Mb} (h : WheelAt w pb mb now l) {id : Int} (hw : (Lit.int .i64 id).wf = true) {m : Mb} (hm : findM l id = some m) (hs : m.phase.state ≠ 2) :
    Calls Try.prog 22 #[.pointer (some ⟨pb, 0, none⟩), .int .i64 id] w fun e w' => e = .returned (.tuple #[.int .i64 0, .int .i64 291]) ∧ w = w' := by
  have hf := find_some h hw hm
  obtain ⟨_, _, _, c3, c4, _⟩ := (h.mem m (findM_some hm).1).five
  have e1 : (m.phase.state != 2) = true := by simpa using hs
  have HF := Lib.hid hf
  clear h hm hw hf hs
  go_enter Try.func22, Try.ntmps22
  go_wp2_with (first | (go_at_call 40; refine (HF.out).mono ?_; rintro e w' ⟨rfl, rfl⟩))
  go_ret2
  exact ⟨rfl, rfl⟩
theorem handle_yes {w : World} {pb mb : Nat} {now : Int} {l : List Mb} (h : WheelAt w pb mb now l) {id : Int} (hw : (Lit.int .i64 id).wf = true) {m : Mb} (hm : findM l id = some m) (hs : m.phase.state = 2) :
    Calls Try.prog 22 #[.pointer (some ⟨pb, 0, none⟩), .int .i64 id] w fun e w' => e = .returned (.tuple #[.int .i64 m.phase.since, .int .i64 0]) ∧ WheelAt w' pb mb now (setM l id ⟨0, 0⟩) ∧ Kept (fun k => k = m.blk) w w' := by
  have hf := find_some h hw hm
  obtain ⟨hml, hid⟩ := findM_some hm
  have hb := h.mem m hml
  obtain ⟨_, _, _, c3, c4, _, _, _, f3, f4⟩ := hb.five
  have hfin : ∀ w', Kept (fun k => k = m.blk) w w' → Blk w' m.blk (mcells (setP m ⟨0, 0⟩)) 83 → WheelAt w' pb mb now (setM l id ⟨0, 0⟩) := by
    intro w' k hb'
    have := h.turned hml k hb' (by
      obtain ⟨r, t, g⟩ := h.fits m hml
      exact ⟨r, t, .inl ⟨rfl, rfl⟩⟩)
    rw [hid] at this
    exact this
  have HFin := Lib.hid hfin
  have HF := Lib.hid hf
  have e1 : (m.phase.state != 2) = false := by simpa using hs
  clear h hm hw hf hs hfin hid hml
  go_enter Try.func22, Try.ntmps22
  go_wp2_with (first | (go_at_call 40; refine (HF.out).mono ?_; rintro e w' ⟨rfl, rfl⟩))
  go_ret2
  have kk : Kept (fun k => k = m.blk) w (w.setCell ⟨m.blk, 3, none⟩ (.int .u8 0)) := Kept.setCell (X := fun k => k = m.blk) (Kept.refl _ _) (fun _ => rfl) _
  have kk2 : Kept (fun k => k = m.blk) w ((w.setCell ⟨m.blk, 3, none⟩ (.int .u8 0)).setCell ⟨m.blk, 4, none⟩ (.int .i64 0)) := kk.setCell (fun _ => rfl) _
  exact ⟨rfl, HFin.out _ kk2 ((hb.set 3 _).set 4 _), kk2⟩

/-- (*Wheel).Get -/
theorem get_none {w : World} {pb mb : Nat} {now : Int} {l : List Mb} (h : WheelAt w pb mb now l) {id : Int} (hw : (Lit.int .i64 id).wf = true) (hm : findM l id = none) :
    Calls Try.prog 23 #[.pointer (some ⟨pb, 0, none⟩), .int .i64 id] w fun e w' => e = .returned (.tuple #[.agg #[.int .i64 0, .int .i64 0, .int .i64 0], .agg #[.int .u8 0, .int .i64 0], .int .i64 6]) ∧ Below w.heap.size w w' := by
  have hb : Below w.heap.size w ((w.alloc (.cells #[.int .i64 0, .int .i64 0, .int .i64 0] 52)).alloc (.cells #[.int .u8 0, .int .i64 0] 59)) := ((Below.refl _ _).alloc (Nat.le_refl _) _).alloc (by simp) _
  have hf := find_none (h.below hb) hw hm
  have HF := Lib.hid hf
  clear h hm hw hf
  go_enter Try.func23, Try.ntmps23
  go_wp2_with (first | (go_at_call 40; refine (HF.out).mono ?_; rintro e w' ⟨rfl, rfl⟩))
  refine bodyPost_ret (v := .tuple #[.agg #[.int .i64 0, .int .i64 0, .int .i64 0], .agg #[.int .u8 0, .int .i64 0], .int .i64 6]) (by simp [results, Try.results23, go_sem]) rfl ⟨rfl, hb⟩
theorem get_some {w : World} {pb mb : Nat} {now : Int} {l : List Mb} (h : WheelAt w pb mb now l) {id : Int} (hw : (Lit.int .i64 id).wf = true) {m : Mb} (hm : findM l id = some m) :
    Calls Try.prog 23 #[.pointer (some ⟨pb, 0, none⟩), .int .i64 id] w fun e w' => e = .returned (.tuple #[.agg #[.int .i64 m.plan.every, .int .i64 m.plan.offset, .int .i64 m.plan.timeout], .agg #[.int .u8 m.phase.state, .int .i64 m.phase.since], .int .i64 0]) ∧ Below w.heap.size w w' := by
  have hb : Below w.heap.size w ((w.alloc (.cells #[.int .i64 0, .int .i64 0, .int .i64 0] 52)).alloc (.cells #[.int .u8 0, .int .i64 0] 59)) := ((Below.refl _ _).alloc (Nat.le_refl _) _).alloc (by simp) _
  have hf := find_some (h.below hb) hw hm
  obtain ⟨c0, c1, c2, c3, c4, _⟩ := ((h.below hb).mem m (findM_some hm).1).five
  obtain ⟨d0, d1, d2, d3, d4, _⟩ := (h.mem m (findM_some hm).1).five
  have hlt := (h.mem m (findM_some hm).1).lt
  have n1 : m.blk ≠ w.heap.size := by omega
  have n2 : m.blk ≠ w.heap.size + 1 := by omega
  have HF := Lib.hid hf
  clear h hm hw hf
  go_enter Try.func23, Try.ntmps23
  go_wp2_with (first | (go_at_call 40; refine (HF.out).mono ?_; rintro e w' ⟨rfl, rfl⟩))
  go_region
  go_wp2
  refine bodyPost_ret (v := .tuple #[.agg #[.int .i64 m.plan.every, .int .i64 m.plan.offset, .int .i64 m.plan.timeout], .agg #[.int .u8 m.phase.state, .int .i64 m.phase.since], .int .i64 0]) (by simp [results, Try.results23, go_sem]) rfl ⟨rfl, ?_⟩
  exact (((Below.refl _ _).alloc (Nat.le_refl _) _).alloc (by simp) _).drew

/-- (*Wheel).Drop -/
theorem drop_none {w : World} {pb mb : Nat} {now : Int} {l : List Mb} (h : WheelAt w pb mb now l) {id : Int} (hw : (Lit.int .i64 id).wf = true) (hm : findM l id = none) :
    Calls Try.prog 32 #[.pointer (some ⟨pb, 0, none⟩), .int .i64 id] w fun e w' => e = .returned (.tuple #[.agg #[.int .u8 0, .int .i64 0], .int .i64 6]) ∧ Below w.heap.size w w' := by
  have hb : Below w.heap.size w (w.alloc (.cells #[.int .u8 0, .int .i64 0] 59)) := (Below.refl _ _).alloc (Nat.le_refl _) _
  have hf := find_none (h.below hb) hw hm
  have HF := Lib.hid hf
  clear h hm hw hf
  go_enter Try.func32, Try.ntmps32
  go_wp2_with (first | (go_at_call 40; refine (HF.out).mono ?_; rintro e w' ⟨rfl, rfl⟩))
  refine bodyPost_ret (v := .tuple #[.agg #[.int .u8 0, .int .i64 0], .int .i64 6]) (by simp [results, Try.results32, go_sem]) rfl ⟨rfl, hb⟩
theorem drop_some {w : World} {pb mb : Nat} {now : Int} {l : List Mb} (h : WheelAt w pb mb now l) {id : Int} (hw : (Lit.int .i64 id).wf = true) {m : Mb} (hm : findM l id = some m) :
    Calls Try.prog 32 #[.pointer (some ⟨pb, 0, none⟩), .int .i64 id] w fun e w' => e = .returned (.tuple #[.agg #[.int .u8 m.phase.state, .int .i64 m.phase.since], .int .i64 0]) ∧ WheelAt w' pb mb now (dropM l id) ∧ Kept (fun k => k = mb) w w' := by
  have hb : Below w.heap.size w (w.alloc (.cells #[.int .u8 0, .int .i64 0] 59)) := (Below.refl _ _).alloc (Nat.le_refl _) _
  have hn := Blk.new w #[.int .u8 0, .int .i64 0] 59
  have h1 := h.below hb
  have hf := find_some h1 hw hm
  have hml := (findM_some hm).1
  have hlt := (h.mem m hml).lt
  have hmb := h.map.lt
  obtain ⟨g0, g1, g2, _⟩ := h1.head.three
  have hne := (h1.mem_ne hml).2
  have hfoot : ∀ i, Foot pb mb (dropM l id) i → i < w.heap.size := fun i hi => h.lt (foot_drop hi)
  have hne2 : w.heap.size ≠ mb := by omega
  have hne3 : m.blk ≠ w.heap.size := by omega
  have hmem := h1.mem m hml
  have hmap := h1.map
  have hkey := keyOf_int_mk under3 hw
  have hfin : ∀ w' n, Kept (fun k => k = mb) (w.alloc (.cells #[.int .u8 0, .int .i64 0] 59)) w' → w'.ownsMap Try.prog 3 Rp mb n (memD (dropM l id)) → WheelAt w' pb mb now (dropM l id) := fun w' n k ho => h1.dropped id k ho
  have HFin := Lib.hid hfin
  have HF := Lib.hid hf
  have HM := Lib.hid hmap
  have HK := Lib.hid hkey
  clear hfin hf hmap hkey h h1 hm
  go_enter Try.func32, Try.ntmps32
  go_wp2_with (first | (go_at_call 40; refine (HF.out).mono ?_; rintro e w' ⟨rfl, rfl⟩) | (at_delete; refine wpList_delete_own _ rfl _ _ 77 3 rfl 80 keyed3 under77 _ mb _ _ rfl HM.out _ _ rfl HK.out ?_; intro w2 hown hturn; have k2 := Kept.of_grown hturn.grown; obtain ⟨c0, c1, c2, c3, c4, _⟩ := (hmem.kept k2 hne).five; have hr := hn.kept k2 hne2; obtain ⟨r0, r1, r2, r3⟩ := hr.two; clear hturn))
  have hA := ((hr.set 0 (.int .u8 m.phase.state)).set 1 (.int .i64 m.phase.since)).two
  have k3 : Kept (fun k => k = w.heap.size) w2 ((w2.setCell ⟨w.heap.size, 0, none⟩ (.int .u8 m.phase.state)).setCell ⟨w.heap.size, 1, none⟩ (.int .i64 m.phase.since)) := Kept.setCell (X := fun k => k = w.heap.size) (Kept.setCell (X := fun k => k = w.heap.size) (Kept.refl _ _) (fun _ => rfl) _) (fun _ => rfl) _
  refine bodyPost_ret (v := .tuple #[.agg #[.int .u8 m.phase.state, .int .i64 m.phase.since], .int .i64 0]) (by simp [results, Try.results32, go_sem, hA.1, hA.2.1]) rfl ⟨rfl, ?_, ?_⟩
  · rw [memD_del] at hown
    refine (HFin.out w2 _ k2 hown).kept k3 fun i hi e => ?_
    have := hfoot i hi
    omega
  · exact ((Kept.of_below hb _).trans k2).trans' k3 fun i hi e => by omega

/- (*Wheel).Add -/
set_option maxRecDepth 100000 in
theorem add_range {w : World} {pb mb : Nat} {now : Int} {l : List Mb} (h : WheelAt w pb mb now l) (id y o t : Int) (hid : id < 0 ∨ 4294967295 < id) :
    Calls Try.prog 18 #[.pointer (some ⟨pb, 0, none⟩), .int .i64 id, .agg #[.int .i64 y, .int .i64 o, .int .i64 t]] w fun e w' => e = .returned (.int .i64 2) ∧ Below w.heap.size w w' := by
  have hb : Below w.heap.size w (w.alloc (.cells #[.int .i64 y, .int .i64 o, .int .i64 t] 52)) := (Below.refl _ _).alloc (Nat.le_refl _) _
  have hi := isw_yes (h.below hb).head
  have HI := Lib.hid hi
  clear hi h
  rcases hid with hid | hid
  all_goals
    go_enter Try.func18, Try.ntmps18
    go_wp2_with (first | (go_at_call 36; refine (HI.out).mono ?_; rintro e w' ⟨rfl, rfl⟩))
    go_ret
    exact ⟨rfl, hb⟩
set_option maxRecDepth 100000 in
theorem add_wrong {w : World} {pb mb : Nat} {now : Int} {l : List Mb} (h : WheelAt w pb mb now l) (id y o t : Int) (h1 : 0 ≤ id) (h2 : id ≤ 4294967295) (hr : ¬ Right ⟨y, o, t⟩) :
    Calls Try.prog 18 #[.pointer (some ⟨pb, 0, none⟩), .int .i64 id, .agg #[.int .i64 y, .int .i64 o, .int .i64 t]] w fun e w' => e = .returned (.int .i64 2) ∧ Below w.heap.size w w' := by
  have hb : Below w.heap.size w (w.alloc (.cells #[.int .i64 y, .int .i64 o, .int .i64 t] 52)) := (Below.refl _ _).alloc (Nat.le_refl _) _
  have hi := isw_yes (h.below hb).head
  have HI := Lib.hid hi
  have HR := Lib.hid hr
  clear hi h hr
  go_enter Try.func18, Try.ntmps18
  go_wp2_with (first | (go_at_call 36; refine (HI.out).mono ?_; rintro e w' ⟨rfl, rfl⟩) | (go_at_call 33; refine (right_no _ _ _ HR.out _).mono ?_; rintro e w1 ⟨rfl, hb1⟩))
  go_ret
  exact ⟨rfl, hb.trans (hb1.mono (by simp))⟩
set_option maxRecDepth 100000 in
theorem add_there {w : World} {pb mb : Nat} {now : Int} {l : List Mb} (h : WheelAt w pb mb now l) (id y o t : Int) (h1 : 0 ≤ id) (h2 : id ≤ 4294967295) (hr : Right ⟨y, o, t⟩) {m : Mb} (hm : findM l id = some m) :
    Calls Try.prog 18 #[.pointer (some ⟨pb, 0, none⟩), .int .i64 id, .agg #[.int .i64 y, .int .i64 o, .int .i64 t]] w fun e w' => e = .returned (.int .i64 290) ∧ Below w.heap.size w w' := by
  have hb : Below w.heap.size w (w.alloc (.cells #[.int .i64 y, .int .i64 o, .int .i64 t] 52)) := (Below.refl _ _).alloc (Nat.le_refl _) _
  have h' := h.below hb
  have hi := isw_yes h'.head
  have hw := wf_id ⟨h1, h2⟩
  have HI := Lib.hid hi
  have HR := Lib.hid hr
  have H := Lib.hid h'
  have HM := Lib.hid hm
  clear hi h hr h' hm
  go_enter Try.func18, Try.ntmps18
  go_wp2_with (first | (go_at_call 36; refine (HI.out).mono ?_; rintro e w' ⟨rfl, rfl⟩) | (go_at_call 33; refine (right_yes _ _ _ HR.out _).mono ?_; rintro e w1 ⟨rfl, hb1⟩; have hw1 := H.out.below hb1; obtain ⟨g0, g1, g2, _⟩ := hw1.head.three; have hl := look_some hw1.map hw HM.out; clear hw1))
  go_ret
  exact ⟨rfl, hb.trans (hb1.mono (by simp))⟩
set_option maxRecDepth 100000 in
theorem add_many {w : World} {pb mb : Nat} {now : Int} {l : List Mb} (h : WheelAt w pb mb now l) (id y o t : Int) (h1 : 0 ≤ id) (h2 : id ≤ 4294967295) (hr : Right ⟨y, o, t⟩) (hm : findM l id = none) (hlen : 10000 ≤ l.length) :
    Calls Try.prog 18 #[.pointer (some ⟨pb, 0, none⟩), .int .i64 id, .agg #[.int .i64 y, .int .i64 o, .int .i64 t]] w fun e w' => e = .returned (.int .i64 5) ∧ Below w.heap.size w w' := by
  have hb : Below w.heap.size w (w.alloc (.cells #[.int .i64 y, .int .i64 o, .int .i64 t] 52)) := (Below.refl _ _).alloc (Nat.le_refl _) _
  have h' := h.below hb
  have hi := isw_yes h'.head
  have hw := wf_id ⟨h1, h2⟩
  have HI := Lib.hid hi
  have HR := Lib.hid hr
  have H := Lib.hid h'
  have HM := Lib.hid hm
  clear hi h hr h' hm
  go_enter Try.func18, Try.ntmps18
  go_wp2_with (first | (go_at_call 36; refine (HI.out).mono ?_; rintro e w' ⟨rfl, rfl⟩) | (go_at_call 33; refine (right_yes _ _ _ HR.out _).mono ?_; rintro e w1 ⟨rfl, hb1⟩; have hw1 := H.out.below hb1; obtain ⟨g0, g1, g2, _⟩ := hw1.head.three; have hl := look_none hw1.map hw HM.out; have hlen2 := fun ty => hw1.map.len under77 ty; rw [memD_size] at hlen2; clear hw1))
  go_ret
  exact ⟨rfl, hb.trans (hb1.mono (by simp))⟩
set_option maxRecDepth 100000 in
theorem add_ok {w : World} {pb mb : Nat} {now : Int} {l : List Mb} (h : WheelAt w pb mb now l) (ht : Tick now) (id y o t : Int) (h1 : 0 ≤ id) (h2 : id ≤ 4294967295) (hr : Right ⟨y, o, t⟩) (hm : findM l id = none) (hlen : l.length < 10000) :
    Calls Try.prog 18 #[.pointer (some ⟨pb, 0, none⟩), .int .i64 id, .agg #[.int .i64 y, .int .i64 o, .int .i64 t]] w fun e w' => e = .returned (.int .i64 0) ∧
      ∃ b, w.heap.size ≤ b ∧ WheelAt w' pb mb now (ins ⟨id, b, ⟨y, o, t⟩, ⟨0, 0⟩⟩ l) ∧ Kept (fun k => k = mb) w w' := by
  have hb : Below w.heap.size w (w.alloc (.cells #[.int .i64 y, .int .i64 o, .int .i64 t] 52)) := (Below.refl _ _).alloc (Nat.le_refl _) _
  have hp := Blk.new w #[.int .i64 y, .int .i64 o, .int .i64 t] 52
  have h' := h.below hb
  have hi := isw_yes h'.head
  have hw := wf_id ⟨h1, h2⟩
  have hkey := keyOf_int_mk under3 hw
  have hpb := h.head.lt
  have hmb := h.map.lt
  have HI := Lib.hid hi
  have HR := Lib.hid hr
  have H := Lib.hid h'
  have HM := Lib.hid hm
  have HK := Lib.hid hkey
  clear hi h hr h' hm hkey
  go_enter Try.func18, Try.ntmps18
  go_wp2_with (first | (go_at_call 36; refine (HI.out).mono ?_; rintro e w' ⟨rfl, rfl⟩) | (go_at_call 33; refine (right_yes _ _ _ HR.out _).mono ?_; rintro e w1 ⟨rfl, hb1⟩; have hw1 := H.out.below hb1; obtain ⟨g0, g1, g2, _⟩ := hw1.head.three; have hl := look_none hw1.map hw HM.out; have hlen2 := fun ty => hw1.map.len under77 ty; rw [memD_size] at hlen2; have HW := Lib.hid hw1; clear hw1))
  have hz := hb1.size
  simp only [World.size_alloc] at hz
  obtain ⟨p0, p1, p2, _⟩ := (hp.below hb1 (by simp)).three
  have hw1 := HW.out
  have hgrow : Kept (fun k => k = mb) w1 (w1.alloc (.cells #[.int .i64 y, .int .i64 o, .int .i64 t, .int .u8 0, .int .i64 0] 83)).drew := ((Kept.refl _ _).alloc _).drew
  obtain ⟨w2, hrun, hown, hturn⟩ := ((hw1.map.alloc (.cells #[.int .i64 y, .int .i64 o, .int .i64 t, .int .u8 0, .int .i64 0] 83)).drew).store keyed3 under77 (by unfold maxLen; omega) (val := .pointer (some ⟨w1.heap.size, 0, none⟩)) HK.out (d := .lit (.int .i64 w1.heap.size)) (ps := []) rfl
  have k2 := Kept.of_grown hturn.grown
  rw [memD_put ⟨id, w1.heap.size, ⟨y, o, t⟩, ⟨0, 0⟩⟩ HM.out] at hown
  have hmb1 := hw1.map.lt
  have kk : Kept (fun k => k = mb) w1 w2 := hgrow.trans k2
  have hnewb := ((Blk.new w1 #[.int .i64 y, .int .i64 o, .int .i64 t, .int .u8 0, .int .i64 0] 83).drew).kept k2 (by omega)
  have hfin := hw1.added ⟨id, w1.heap.size, ⟨y, o, t⟩, ⟨0, 0⟩⟩ HM.out ⟨h1, h2⟩ ⟨HR.out, ht, .inl ⟨rfl, rfl⟩⟩ (Nat.le_refl _) kk hnewb hown
  have hkept : Kept (fun k => k = mb) w w2 := (Kept.of_below (hb.trans (hb1.mono (by simp))) _).trans kk
  have HFin := Lib.hid hfin
  have HKept := Lib.hid hkept
  have g2a := fun o => (hw1.head.alloc o).three.2.2.1
  clear hw1 hturn hfin hkept hnewb kk k2 hown hgrow hp
  go_region
  go_wp2
  go_ret
  exact ⟨rfl, _, by omega, HFin.out, HKept.out⟩
end Go.Proofs.Ytokgfmibhkkiaaa
