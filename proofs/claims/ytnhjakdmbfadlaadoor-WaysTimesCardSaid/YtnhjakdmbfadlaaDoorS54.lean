/- Parts of the proof: Te, Tf, Tg. Conditions: none. -/
import Derived.Test.YtnhjakdmbfadlaaDoorS53
import Derived.Test.YtnhjakdmbfadlaaDoorS06
import Derived.BigFrame
set_option linter.all false
/- WaysTimes: the second drawn region, and the set. -/
namespace Go.Proofs.YtnhjakdmbfadlaaDoor
open Go.RowKit Wy Mem Grow

/-- what holds in region 16 -/
def pt16 (W : World) (x T : Nd) (n : Nat) (l : List Nat) (er : Int) (s5 s6 s7 s9 s10 s11 s13 : Bool) (u5 u6 u7 u9 u10 u11 u13 : Value) (w' : World) : Prop :=
  Below W.heap.size W w' ∧ (s5 = true → ∃ ts : List Value, u5 = .agg ts.toArray ∧ NdAt (fun _ => True) w' T ts) ∧
  (s6 = true → ∃ p, u6 = .slice (some ⟨p, 0, none⟩) 2 2 ∧ NdAt (fun _ => True) w' (catT x T) [.int .u8 3, .slice none 0 0, .int .i64 0, .int .i64 0, .bool false, .slice (some ⟨p, 0, none⟩) 2 2] ∧ (s7 = true → u7 = .agg #[.int .u8 3, .slice none 0 0, .int .i64 0, .int .i64 0, .bool false, .slice (some ⟨p, 0, none⟩) 2 2])) ∧
  (s9 = true → ∃ o c, u9 = .tuple #[.slice o n c, .int .i64 er] ∧ Row (fun _ => True) w' (.slice o n c) n 1 (intCs l) ∧ (s10 = true → u10 = .tuple #[.slice o n c, .int .i64 er]) ∧ (s11 = true → u11 = .slice o n c) ∧ (s13 = true → u13 = .slice o n c))
theorem pt16_go {W : World} {x T : Nd} {n : Nat} {l : List Nat} {er : Int} {s5 s6 s7 s9 s10 s11 s13 : Bool} {u5 u6 u7 u9 u10 u11 u13 : Value} {w w' : World} (h : pt16 W x T n l er s5 s6 s7 s9 s10 s11 s13 u5 u6 u7 u9 u10 u11 u13 w) (hb : Below w.heap.size w w') : pt16 W x T n l er s5 s6 s7 s9 s10 s11 s13 u5 u6 u7 u9 u10 u11 u13 w' := by
  obtain ⟨h1, h2, h3, h4⟩ := h
  have k := Kept.of_below hb (fun _ => False)
  refine ⟨h1.trans (hb.mono h1.size), fun e => ?_, fun e => ?_, fun e => ?_⟩
  · obtain ⟨ts, a, b⟩ := h2 e
    exact ⟨ts, a, NdAt.go k (fun _ _ h => ⟨id, h⟩) b⟩
  · obtain ⟨p, a, b, c⟩ := h3 e
    exact ⟨p, a, NdAt.go k (fun _ _ h => ⟨id, h⟩) b, c⟩
  · obtain ⟨o, c, a, b, d⟩ := h4 e
    exact ⟨o, c, a, RowGo b k (fun _ _ h => ⟨id, h⟩), d⟩
set_option maxHeartbeats 8000000 in
set_option maxRecDepth 100000 in
theorem tm16 {xb n : Nat} {a less : Int} {l : List Nat} {er : Int} {s : ByteArray} {x T : Nd} {k lo hi : Int} {lz : Bool} {p1 p2 : Option Addr} {n1 d1 n2 d2 : Nat} {W : World} {J : Act → World → Prop} {Q : Exit → Act → World → Prop} (e : Nat → Value) (ha0 : 1 ≤ a) (ha : a ≤ 3) (hB : Blk W xb #[.int .u8 k, .slice p1 n1 d1, .int .i64 lo, .int .i64 hi, .bool lz, .slice p2 n2 d2] 28) (hx : NdAt (fun _ => True) W x [.int .u8 k, .slice p1 n1 d1, .int .i64 lo, .int .i64 hi, .bool lz, .slice p2 n2 d2])
    (hcl : ∀ w', Below W.heap.size W w' → Calls Tryd.prog 17 #[.int .i64 (a - 1), .int .i64 less, .bool false, .pointer (some ⟨xb, 0, none⟩)] w' (Trt T w'))
    (hcall : ∀ w' cs, Below W.heap.size W w' → NdAt (fun _ => True) w' (catT x T) cs → Calls Tryd.prog 10 #[.agg cs.toArray, .string s] w' (Eoc n l er w'))
    (hJ : ∀ (m : List Value) (w' : World) (o : Option Addr) (c : Nat), m.length = 182 → (m[9]? = some (.pointer (some ⟨xb, 0, none⟩)) ∧ m[10]? = some (.string s) ∧ m[13]? = some (.func (.func 17) #[] #[.pointer (some ⟨xb, 0, none⟩)]) ∧ m[14]? = some (.int .i64 a) ∧ m[15]? = some (e 15) ∧ m[17]? = some (e 17) ∧ m[18]? = some (e 18) ∧ True) → m[19]? = some (.slice o n c) → m[20]? = some (.int .i64 er) → Row (fun _ => True) w' (.slice o n c) n 1 (intCs l) → Below W.heap.size W w' → J ⟨m.toArray, []⟩ w') :
    Code.wp Tryd.prog (tmC [1, 1, 1, 1, 1, 1, 1, 1, 1, 1, 1, 1, 0]) (Exit.then J Q) ⟨#[e 0, e 1, e 2, e 3, e 4, e 5, e 6, e 7, e 8, .pointer (some ⟨xb, 0, none⟩), .string s, e 11, e 12, .func (.func 17) #[] #[.pointer (some ⟨xb, 0, none⟩)], .int .i64 a, e 15, .int .i64 less, e 17, e 18, e 19, e 20, e 21, e 22, e 23, e 24, e 25, e 26, e 27, e 28, e 29, e 30, e 31, e 32, e 33, e 34, e 35, e 36, e 37, e 38, e 39, e 40, e 41, e 42, e 43, e 44, e 45, e 46, e 47, e 48, e 49, e 50, e 51, e 52, e 53, e 54, e 55, e 56, e 57, e 58, e 59, e 60, e 61, e 62, e 63, e 64, e 65, e 66, e 67, e 68, e 69, e 70, e 71, e 72, e 73, e 74, e 75, e 76, e 77, e 78, e 79, e 80, e 81, e 82, e 83, e 84, e 85, e 86, e 87, e 88, e 89, e 90, e 91, e 92, e 93, e 94, e 95, e 96, e 97, e 98, e 99, e 100, e 101, e 102, e 103, e 104, e 105, e 106, e 107, e 108, e 109, e 110, e 111, e 112, e 113, e 114, e 115, e 116, e 117, e 118, e 119, e 120, e 121, e 122, e 123, e 124, e 125, e 126, e 127, e 128, e 129, e 130, e 131, e 132, e 133, e 134, e 135, e 136, e 137, e 138, e 139, e 140, e 141, e 142, e 143, e 144, e 145, e 146, e 147, e 148, e 149, e 150, e 151, e 152, e 153, e 154, e 155, e 156, e 157, e 158, e 159, e 160, e 161, e 162, e 163, e 164, e 165, e 166, e 167, e 168, e 169, e 170, e 171, e 172, e 173, e 174, e 175, e 176, e 177, e 178, e 179, e 180, e 181], []⟩ W := by
  have HL := Lib.hid hcl
  have HC := Lib.hid hcall
  have HB := Lib.hid hB
  have HX := Lib.hid hx
  have HJ := Lib.hid hJ
  clear hcl hcall hJ hB hx
  conv => arg 2; whnf
  apply wp_flowX ?hm ?hok [some _, some _, some _, some _, some _, none, none, none, some _, none, none, none, some (.int .i64 er), none, some (.int .i64 er)] (fun S u w' => pt16 W x T n l er (S 5) (S 6) (S 7) (S 9) (S 10) (S 11) (S 13) (u 5) (u 6) (u 7) (u 9) (u 10) (u 11) (u 13) w') ?hw ?h
  case hm => rfl
  case hok => kernel_rfl
  case hw => exact ⟨(Below.refl _ _).drew, fun e => (by cases e), fun e => (by cases e), fun e => (by cases e)⟩
  case h =>
    intro u
    apply flowX_read rfl
    case hs => exact fun _ _ _ h => h
    case h =>
      intro S w hS hW K hK
      have B := HB.out.below hW.1 HB.out.lt
      have b0 := B.cell 0
      have b1 := B.cell 1
      have b2 := B.cell 2
      have b3 := B.cell 3
      have b4 := B.cell 4
      have b5 := B.cell 5
      have bz := B.lt
      clear B hW hS
      go_wp2_with fail
      exact hK
    case' k => simp only [Act.put, List.setIfInBounds_toArray, List.set_cons_zero, List.set_cons_succ, Nat.reduceAdd]
    apply flowX_read rfl
    case hs => exact fun _ _ _ h => h
    case h =>
      intro S w hS hW K hK
      clear hS hW
      go_wp2_with fail
      exact hK
    case' k => simp only [Act.put, List.setIfInBounds_toArray, List.set_cons_zero, List.set_cons_succ, Nat.reduceAdd]
    apply flowX_read rfl
    case hs => exact fun _ _ _ h => h
    case h =>
      intro S w hS hW K hK
      clear hS hW
      go_wp2_with fail
      exact hK
    case' k => simp only [Act.put, List.setIfInBounds_toArray, List.set_cons_zero, List.set_cons_succ, Nat.reduceAdd]
    apply flowX_read rfl
    case hs => exact fun _ _ _ h => h
    case h =>
      intro S w hS hW K hK
      clear hS hW
      go_wp2_with fail
      exact hK
    case' k => simp only [Act.put, List.setIfInBounds_toArray, List.set_cons_zero, List.set_cons_succ, Nat.reduceAdd]
    apply flowX_read rfl
    case hs => exact fun _ _ _ h => h
    case h =>
      intro S w hS hW K hK
      clear hS hW
      go_wp2_with fail
      exact hK
    case' k => simp only [Act.put, List.setIfInBounds_toArray, List.set_cons_zero, List.set_cons_succ, Nat.reduceAdd]
    -- the repetition
    apply flowX_open rfl
    case h =>
      intro S w hS hW K hK
      have hC := HL.out w hW.1
      have hK' := fun (cs : List Value) (w' : World) (hn : NdAt (fun _ => True) w' T cs) (hb : Below w.heap.size w w') => hK (.agg cs.toArray) w' (by
        show pt16 W x T n l er true (S 6) (S 7) (S 9) (S 10) (S 11) (S 13) (.agg cs.toArray) (u 6) (u 7) (u 9) (u 10) (u 11) (u 13) w'
        have h := pt16_go hW hb
        exact ⟨h.1, fun _ => ⟨cs, rfl, hn⟩, h.2.2⟩)
      have HK := Lib.hid hK'
      have HC' := Lib.hid hC
      clear hS hW hK hK' hC
      go_wp2_with (go_at_call 17; go_loud (refine HC'.out.mono ?_; rintro ee w' ⟨cs, rfl, hn, hb'⟩))
      exact HK.out cs _ hn hb'
    case' k => simp only [Act.put, List.setIfInBounds_toArray, List.set_cons_zero, List.set_cons_succ, Nat.reduceAdd]
    -- both
    apply flowX_open rfl
    case h =>
      intro S w hS hW K hK
      have h5 := hS.deps 5 (by kernel_rfl)
      have h7 := hS.last 7 (by kernel_rfl)
      obtain ⟨ts, hu5, hn⟩ := hW.2.1 h5
      obtain ⟨kt, lot, hit, lzt, pt1, pt2, nt1, dt1, nt2, dt2, rfl⟩ := nd6k hn
      have hx2 := NdAt.go (M := fun _ => True) (Kept.of_below hW.1 (fun _ => False)) (fun _ _ h => ⟨id, h⟩) HX.out
      have hK' := hK (.slice (some ⟨w.heap.size, 0, none⟩) 2 2) (w.alloc (.cells #[.int .u8 k, .slice p1 n1 d1, .int .i64 lo, .int .i64 hi, .bool lz, .slice p2 n2 d2, .int .u8 kt, .slice pt1 nt1 dt1, .int .i64 lot, .int .i64 hit, .bool lzt, .slice pt2 nt2 dt2] 28)) (by
        show pt16 W x T n l er (S 5) true (S 7) (S 9) (S 10) (S 11) (S 13) (u 5) (.slice (some ⟨w.heap.size, 0, none⟩) 2 2) (u 7) (u 9) (u 10) (u 11) (u 13) _
        have hb : Below w.heap.size w (w.alloc (.cells #[.int .u8 k, .slice p1 n1 d1, .int .i64 lo, .int .i64 hi, .bool lz, .slice p2 n2 d2, .int .u8 kt, .slice pt1 nt1 dt1, .int .i64 lot, .int .i64 hit, .bool lzt, .slice pt2 nt2 dt2] 28)) := (Below.refl _ _).alloc (Nat.le_refl _) _
        have h := pt16_go hW hb
        have k := Kept.of_below hb (fun _ => False)
        exact ⟨h.1, h.2.1, fun _ => ⟨w.heap.size, rfl, pair_nd (x := x) (y := T) (k := 3) (by omega) (Blk.new _ _ _) (NdAt.go k (fun _ _ h => ⟨id, h⟩) hx2) (NdAt.go k (fun _ _ h => ⟨id, h⟩) hn), fun e => Bool.noConfusion (h7.symm.trans e)⟩, h.2.2.2⟩)
      rw [hu5] at hK' ⊢
      have HK := Lib.hid hK'
      clear hS hW hK hK' h5 h7 hu5 hn hx2
      go_wp2_with fail
      exact HK.out
    case' k => simp only [Act.put, List.setIfInBounds_toArray, List.set_cons_zero, List.set_cons_succ, Nat.reduceAdd]
    -- one after the other
    apply flowX_open rfl
    case h =>
      intro S w hS hW K hK
      have h6 := hS.deps 6 (by kernel_rfl)
      obtain ⟨p, hu6, hn, -⟩ := hW.2.2.1 h6
      have hK' := hK (.agg #[.int .u8 3, .slice none 0 0, .int .i64 0, .int .i64 0, .bool false, .slice (some ⟨p, 0, none⟩) 2 2]) w (by
        show pt16 W x T n l er (S 5) (S 6) true (S 9) (S 10) (S 11) (S 13) (u 5) (u 6) (.agg #[.int .u8 3, .slice none 0 0, .int .i64 0, .int .i64 0, .bool false, .slice (some ⟨p, 0, none⟩) 2 2]) (u 9) (u 10) (u 11) (u 13) w
        exact ⟨hW.1, hW.2.1, fun _ => ⟨p, hu6, hn, fun _ => rfl⟩, hW.2.2.2⟩)
      rw [hu6] at hK' ⊢
      have HK := Lib.hid hK'
      clear hS hW hK hK' h6 hu6 hn
      go_wp2_with fail
      exact HK.out
    case' k => simp only [Act.put, List.setIfInBounds_toArray, List.set_cons_zero, List.set_cons_succ, Nat.reduceAdd]
    apply flowX_read rfl
    case hs => exact fun _ _ _ h => h
    case h =>
      intro S w hS hW K hK
      clear hS hW
      go_wp2_with fail
      exact hK
    case' k => simp only [Act.put, List.setIfInBounds_toArray, List.set_cons_zero, List.set_cons_succ, Nat.reduceAdd]
    -- the ends
    apply flowX_open rfl
    case h =>
      intro S w hS hW K hK
      have h6 := hS.deps 6 (by kernel_rfl)
      have h7 := hS.deps 7 (by kernel_rfl)
      have l10 := hS.last 10 (by kernel_rfl)
      have l11 := hS.last 11 (by kernel_rfl)
      have l13 := hS.last 13 (by kernel_rfl)
      obtain ⟨p, hu6, hn, hu7⟩ := hW.2.2.1 h6
      have hu7 := hu7 h7
      have hC := HC.out w _ hW.1 hn
      have hK' := fun (o : Option Addr) (c : Nat) (w' : World) (hr : Row (fun _ => True) w' (.slice o n c) n 1 (intCs l)) (hb : Below w.heap.size w w') => hK (.tuple #[.slice o n c, .int .i64 er]) w' (by
        show pt16 W x T n l er (S 5) (S 6) (S 7) true (S 10) (S 11) (S 13) (u 5) (u 6) (u 7) (.tuple #[.slice o n c, .int .i64 er]) (u 10) (u 11) (u 13) w'
        have h := pt16_go hW hb
        exact ⟨h.1, h.2.1, h.2.2.1, fun _ => ⟨o, c, rfl, hr, fun e => Bool.noConfusion (l10.symm.trans e), fun e => Bool.noConfusion (l11.symm.trans e), fun e => Bool.noConfusion (l13.symm.trans e)⟩⟩)
      rw [hu7] at hK' ⊢
      have HK := Lib.hid hK'
      have HC' := Lib.hid hC
      clear hS hW hK hK' hC h6 h7 l10 l11 l13 hu6 hu7 hn
      go_wp2_with (go_at_call 10; go_loud (refine HC'.out.mono ?_; rintro ee w' ⟨o, c, rfl, hr, hb'⟩))
      exact HK.out o c _ (Row.mono (M := fun _ => True) hr (fun _ _ => trivial)) hb'
    case' k => simp only [Act.put, List.setIfInBounds_toArray, List.set_cons_zero, List.set_cons_succ, Nat.reduceAdd]
    -- the tuple
    apply flowX_open rfl
    case h =>
      intro S w hS hW K hK
      have h9 := hS.deps 9 (by kernel_rfl)
      have l11 := hS.last 11 (by kernel_rfl)
      have l13 := hS.last 13 (by kernel_rfl)
      obtain ⟨o, c, hu9, hr, -, -, -⟩ := hW.2.2.2 h9
      have hK' := hK (.tuple #[.slice o n c, .int .i64 er]) w (by
        show pt16 W x T n l er (S 5) (S 6) (S 7) (S 9) true (S 11) (S 13) (u 5) (u 6) (u 7) (u 9) (.tuple #[.slice o n c, .int .i64 er]) (u 11) (u 13) w
        exact ⟨hW.1, hW.2.1, hW.2.2.1, fun _ => ⟨o, c, hu9, hr, fun _ => rfl, fun e => Bool.noConfusion (l11.symm.trans e), fun e => Bool.noConfusion (l13.symm.trans e)⟩⟩)
      rw [hu9] at hK' ⊢
      have HK := Lib.hid hK'
      clear hS hW hK hK' h9 l11 l13 hu9 hr
      go_wp2_with fail
      exact HK.out
    case' k => simp only [Act.put, List.setIfInBounds_toArray, List.set_cons_zero, List.set_cons_succ, Nat.reduceAdd]
    -- the list
    apply flowX_open rfl
    case h =>
      intro S w hS hW K hK
      have h9 := hS.deps 9 (by kernel_rfl)
      have h10 := hS.deps 10 (by kernel_rfl)
      have l13 := hS.last 13 (by kernel_rfl)
      obtain ⟨o, c, hu9, hr, hu10, -, -⟩ := hW.2.2.2 h9
      have hu := hu10 h10
      have hK' := hK (.slice o n c) w (by
        show pt16 W x T n l er (S 5) (S 6) (S 7) (S 9) (S 10) true (S 13) (u 5) (u 6) (u 7) (u 9) (u 10) (.slice o n c) (u 13) w
        exact ⟨hW.1, hW.2.1, hW.2.2.1, fun _ => ⟨o, c, hu9, hr, hu10, fun _ => rfl, fun e => Bool.noConfusion (l13.symm.trans e)⟩⟩)
      rw [hu] at hK' ⊢
      have HK := Lib.hid hK'
      clear hS hW hK hK' h9 h10 l13 hu9 hu10 hu hr
      go_wp2_with fail
      exact HK.out
    case' k => simp only [Act.put, List.setIfInBounds_toArray, List.set_cons_zero, List.set_cons_succ, Nat.reduceAdd]
    -- the error
    apply flowX_read rfl
    case hs => exact fun _ _ _ h => h
    case h =>
      intro S w hS hW K hK
      have h9 := hS.deps 9 (by kernel_rfl)
      have h10 := hS.deps 10 (by kernel_rfl)
      obtain ⟨o, c, hu9, hr, hu10, -, -⟩ := hW.2.2.2 h9
      have hu := hu10 h10
      rw [hu] at hK ⊢
      have HK := Lib.hid hK
      clear hS hW hK h9 h10 hu9 hu10 hu hr
      go_wp2_with fail
      exact HK.out
    case' k => simp only [Act.put, List.setIfInBounds_toArray, List.set_cons_zero, List.set_cons_succ, Nat.reduceAdd]
    apply flowX_open rfl
    case h =>
      intro S w hS hW K hK
      have h9 := hS.deps 9 (by kernel_rfl)
      have h11 := hS.deps 11 (by kernel_rfl)
      obtain ⟨o, c, hu9, hr, hu10, hu11, -⟩ := hW.2.2.2 h9
      have hu := hu11 h11
      have hK' := hK (u 11) w (by
        show pt16 W x T n l er (S 5) (S 6) (S 7) (S 9) (S 10) (S 11) true (u 5) (u 6) (u 7) (u 9) (u 10) (u 11) (u 11) w
        exact ⟨hW.1, hW.2.1, hW.2.2.1, fun _ => ⟨o, c, hu9, hr, hu10, hu11, fun _ => hu⟩⟩)
      have HK := Lib.hid hK'
      clear hS hW hK hK' h9 h11 hu9 hu10 hu11 hu hr
      go_wp2_with fail
      exact HK.out
    case' k => simp only [Act.put, List.setIfInBounds_toArray, List.set_cons_zero, List.set_cons_succ, Nat.reduceAdd]
    apply flowX_read rfl
    case hs => exact fun _ _ _ h => h
    case h =>
      intro S w hS hW K hK
      clear hS hW
      go_wp2_with fail
      exact hK
    case' k => simp only [Act.put, List.setIfInBounds_toArray, List.set_cons_zero, List.set_cons_succ, Nat.reduceAdd]
    refine flowX_end ?_
    intro S w hS hW
    obtain ⟨o, c, -, hr, -, -, hu⟩ := hW.2.2.2 (hS 9 (by decide))
    have hu := hu (hS 13 (by decide))
    rw [hu]
    exact HJ.out _ w o c rfl ⟨rfl, rfl, rfl, rfl, rfl, rfl, rfl, trivial⟩ rfl rfl hr hW.1
set_option maxHeartbeats 8000000 in
set_option maxRecDepth 100000 in
theorem tm24 {xb : Nat} {k lo hi : Int} {lz : Bool} {p1 p2 : Option Addr} {n1 d1 n2 d2 : Nat} {W : World} {J : Act → World → Prop} {Q : Exit → Act → World → Prop} (e : Nat → Value) (hB : Blk W xb #[.int .u8 k, .slice p1 n1 d1, .int .i64 lo, .int .i64 hi, .bool lz, .slice p2 n2 d2] 28)
    (hJ : ∀ (m : List Value) (w' : World) (cs : List Value), m.length = 182 → (m[9]? = some (.pointer (some ⟨xb, 0, none⟩)) ∧ m[10]? = some (e 10) ∧ m[13]? = some (e 13) ∧ m[14]? = some (e 14) ∧ m[15]? = some (e 15) ∧ True) → Blk w' xb cs.toArray 28 → NdAt (fun _ => True) w' ltT cs → Kept (fun b => b = xb) W w' → J ⟨m.toArray, []⟩ w') :
    Code.wp Tryd.prog (tmC [1, 1, 1, 1, 1, 1, 1, 1, 1, 1, 1, 1, 1, 1, 1, 1, 1, 1, 0]) (Exit.then J Q) ⟨#[e 0, e 1, e 2, e 3, e 4, e 5, e 6, e 7, e 8, .pointer (some ⟨xb, 0, none⟩), e 10, e 11, e 12, e 13, e 14, e 15, e 16, e 17, e 18, e 19, e 20, e 21, e 22, e 23, e 24, e 25, e 26, e 27, e 28, e 29, e 30, e 31, e 32, e 33, e 34, e 35, e 36, e 37, e 38, e 39, e 40, e 41, e 42, e 43, e 44, e 45, e 46, e 47, e 48, e 49, e 50, e 51, e 52, e 53, e 54, e 55, e 56, e 57, e 58, e 59, e 60, e 61, e 62, e 63, e 64, e 65, e 66, e 67, e 68, e 69, e 70, e 71, e 72, e 73, e 74, e 75, e 76, e 77, e 78, e 79, e 80, e 81, e 82, e 83, e 84, e 85, e 86, e 87, e 88, e 89, e 90, e 91, e 92, e 93, e 94, e 95, e 96, e 97, e 98, e 99, e 100, e 101, e 102, e 103, e 104, e 105, e 106, e 107, e 108, e 109, e 110, e 111, e 112, e 113, e 114, e 115, e 116, e 117, e 118, e 119, e 120, e 121, e 122, e 123, e 124, e 125, e 126, e 127, e 128, e 129, e 130, e 131, e 132, e 133, e 134, e 135, e 136, e 137, e 138, e 139, e 140, e 141, e 142, e 143, e 144, e 145, e 146, e 147, e 148, e 149, e 150, e 151, e 152, e 153, e 154, e 155, e 156, e 157, e 158, e 159, e 160, e 161, e 162, e 163, e 164, e 165, e 166, e 167, e 168, e 169, e 170, e 171, e 172, e 173, e 174, e 175, e 176, e 177, e 178, e 179, e 180, e 181], []⟩ W := by
  have HB := Lib.hid hB
  have HJ := Lib.hid hJ
  have HC := Lib.hid (letters_any W)
  have hxz := hB.lt
  clear hB hJ
  conv => arg 2; whnf
  go_wp2_with (go_at_call 16; go_loud (refine HC.out.mono ?_; rintro ee w' ⟨q, rfl, hq, hl, hb'⟩; have HQ := Lib.hid hq; have HBE := Lib.hid hb'; have Bx := HB.out.below hb' HB.out.lt; have r0 := Bx.cell 0; have r1 := Bx.cell 1; have r2 := Bx.cell 2; have r3 := Bx.cell 3; have r4 := Bx.cell 4; have r5 := Bx.cell 5; have rf := Bx.frozen; have rz := Bx.lt; clear hq hb' Bx))
  have Bx := HB.out.below HBE.out HB.out.lt
  have kk := set6_kept (w := w') (b := xb) (.int .u8 2) (.slice (some ⟨q, 0, none⟩) 1 1) (.int .i64 0) (.int .i64 0) (.bool false) (.slice none 0 0)
  exact HJ.out _ _ [.int .u8 2, .slice (some ⟨q, 0, none⟩) 1 1, .int .i64 0, .int .i64 0, .bool false, .slice none 0 0] rfl ⟨rfl, rfl, rfl, rfl, rfl, trivial⟩ (set6_blk (cs := [.int .u8 k, .slice p1 n1 d1, .int .i64 lo, .int .i64 hi, .bool lz, .slice p2 n2 d2]) Bx rfl _ _ _ _ _ _) (nd_lt (HQ.out.kept kk (by omega)) trivial) ((Kept.of_below HBE.out (fun b => b = xb)).trans kk)
end Go.Proofs.YtnhjakdmbfadlaaDoor

/- WaysTimes: the end. -/
namespace Go.Proofs.YtnhjakdmbfadlaaDoor
open Go.RowKit Wy Mem Grow

set_option maxHeartbeats 8000000 in
set_option maxRecDepth 100000 in
theorem tm27 {B n cq : Nat} {oq : Option Addr} {l : List Nat} {W : World} {J : Act → World → Prop} {Q : Exit → Act → World → Prop} (e : Nat → Value) (hn : n = l.length) (hl : n ≤ 500)
    (hq : W.ownsRow B 3 1 (.slice oq n cq) n (intCs l))
    (hJ : ∀ (m : List Value) (w' : World), m.length = 182 → (m[17]? = some (e 17) ∧ m[18]? = some (e 18) ∧ m[19]? = some (.slice oq n cq) ∧ m[20]? = some (e 20) ∧ True) → w'.ownsRow B 3 1 (.slice oq n cq) n (intCs l.reverse) → Kept (fun q => (Value.slice oq n cq).ownBlock = some q) W w' → J ⟨m.toArray, []⟩ w') :
    Code.wp Tryd.prog (tmC [1, 1, 1, 1, 1, 1, 1, 1, 1, 1, 1, 1, 1, 1, 1, 1, 1, 1, 1, 1, 1, 0]) (Exit.then J Q) ⟨#[e 0, e 1, e 2, e 3, e 4, e 5, e 6, e 7, e 8, e 9, e 10, e 11, e 12, e 13, e 14, e 15, e 16, e 17, e 18, .slice oq n cq, e 20, e 21, e 22, e 23, e 24, e 25, e 26, e 27, e 28, e 29, e 30, e 31, e 32, e 33, e 34, e 35, e 36, e 37, e 38, e 39, e 40, e 41, e 42, e 43, e 44, e 45, e 46, e 47, e 48, e 49, e 50, e 51, e 52, e 53, e 54, e 55, e 56, e 57, e 58, e 59, e 60, e 61, e 62, e 63, e 64, e 65, e 66, e 67, e 68, e 69, e 70, e 71, e 72, e 73, e 74, e 75, e 76, e 77, e 78, e 79, e 80, e 81, e 82, e 83, e 84, e 85, e 86, e 87, e 88, e 89, e 90, e 91, e 92, e 93, e 94, e 95, e 96, e 97, e 98, e 99, e 100, e 101, e 102, e 103, e 104, e 105, e 106, e 107, e 108, e 109, e 110, e 111, e 112, e 113, e 114, e 115, e 116, e 117, e 118, e 119, e 120, e 121, e 122, e 123, e 124, e 125, e 126, e 127, e 128, e 129, e 130, e 131, e 132, e 133, e 134, e 135, e 136, e 137, e 138, e 139, e 140, e 141, e 142, e 143, e 144, e 145, e 146, e 147, e 148, e 149, e 150, e 151, e 152, e 153, e 154, e 155, e 156, e 157, e 158, e 159, e 160, e 161, e 162, e 163, e 164, e 165, e 166, e 167, e 168, e 169, e 170, e 171, e 172, e 173, e 174, e 175, e 176, e 177, e 178, e 179, e 180, e 181], []⟩ W := by
  have hc := reverse_any (B := B) (v := .slice oq n cq) (l := l) (by rw [← hn]; exact hq) (by omega)
  have HC := Lib.hid hc
  have HJ := Lib.hid hJ
  have HN := Lib.hid hn
  clear hc hJ hq hn
  conv => arg 2; whnf
  go_wp2_with (go_at_call 19; go_loud (refine HC.out.mono ?_; rintro ee w' ⟨rfl, ho, hk⟩; have HO := Lib.hid ho; have HK := Lib.hid hk; clear ho hk))
  exact HJ.out _ _ rfl ⟨rfl, rfl, rfl, rfl, trivial⟩ (by have := HO.out; rw [← HN.out] at this; exact this) HK.out
set_option maxHeartbeats 8000000 in
set_option maxRecDepth 100000 in
theorem tm28 {n cp cq : Nat} {op oq : Option Addr} {l : List Nat} {W : World} {Q : Exit → Act → World → Prop} (e : Nat → Value) (hn : n = l.length) (hl : n ≤ 500)
    (hp : Row (fun _ => True) W (.slice op n cp) n 1 (intCs l)) (hq : Row (fun _ => True) W (.slice oq n cq) n 1 (intCs l))
    (hRet : ∀ (m : List Value) (w' : World), m.length = 182 → m[8]? = some (.bool true) → Below W.heap.size W w' → Q .ret ⟨m.toArray, []⟩ w') :
    Code.wp Tryd.prog (tmC [1, 1, 1, 1, 1, 1, 1, 1, 1, 1, 1, 1, 1, 1, 1, 1, 1, 1, 1, 1, 1, 1]) Q ⟨#[e 0, e 1, e 2, e 3, e 4, e 5, e 6, e 7, e 8, e 9, e 10, e 11, e 12, e 13, e 14, e 15, e 16, .slice op n cp, .int .i64 0, .slice oq n cq, .int .i64 0, e 21, e 22, e 23, e 24, e 25, e 26, e 27, e 28, e 29, e 30, e 31, e 32, e 33, e 34, e 35, e 36, e 37, e 38, e 39, e 40, e 41, e 42, e 43, e 44, e 45, e 46, e 47, e 48, e 49, e 50, e 51, e 52, e 53, e 54, e 55, e 56, e 57, e 58, e 59, e 60, e 61, e 62, e 63, e 64, e 65, e 66, e 67, e 68, e 69, e 70, e 71, e 72, e 73, e 74, e 75, e 76, e 77, e 78, e 79, e 80, e 81, e 82, e 83, e 84, e 85, e 86, e 87, e 88, e 89, e 90, e 91, e 92, e 93, e 94, e 95, e 96, e 97, e 98, e 99, e 100, e 101, e 102, e 103, e 104, e 105, e 106, e 107, e 108, e 109, e 110, e 111, e 112, e 113, e 114, e 115, e 116, e 117, e 118, e 119, e 120, e 121, e 122, e 123, e 124, e 125, e 126, e 127, e 128, e 129, e 130, e 131, e 132, e 133, e 134, e 135, e 136, e 137, e 138, e 139, e 140, e 141, e 142, e 143, e 144, e 145, e 146, e 147, e 148, e 149, e 150, e 151, e 152, e 153, e 154, e 155, e 156, e 157, e 158, e 159, e 160, e 161, e 162, e 163, e 164, e 165, e 166, e 167, e 168, e 169, e 170, e 171, e 172, e 173, e 174, e 175, e 176, e 177, e 178, e 179, e 180, e 181], []⟩ W := by
  have he := equalI_any (l := l) (m := l) (by rw [← hn]; exact hp) (by rw [← hn]; exact hq) (by omega) (by omega)
  rw [decide_eq_true rfl] at he
  have HE := Lib.hid he
  have HR := Lib.hid hRet
  clear he hp hq hn hRet
  conv => arg 2; whnf
  go_wp2_with (go_at_call 12; go_loud (refine HE.out.mono ?_; rintro ee w2 ⟨rfl, hb⟩; have HB := Lib.hid hb; clear hb))
  exact HR.out _ _ rfl rfl HB.out
end Go.Proofs.YtnhjakdmbfadlaaDoor

/- WaysTimes: the condition on what may be left out. -/
namespace Go.Proofs.YtnhjakdmbfadlaaDoor
open Go.RowKit Wy Mem Grow

theorem own_zero (w : World) : (w.alloc (.cells #[.int .i64 0] 3)).ownsRow w.heap.size 3 1 (.slice (some ⟨w.heap.size, 0, none⟩) 1 1) 1 [.int .i64 0] :=
  ⟨by simp, .inr ⟨w.heap.size, 1, _, rfl, Nat.le_refl _, heap_alloc_new w _, Nat.le_refl _, by unfold maxLen; omega, by simp, by simp⟩⟩
set_option maxHeartbeats 8000000 in
set_option maxRecDepth 100000 in
theorem tm22 {n3 c3 n4 c4 n5 c5 : Nat} {o3 o4 o5 : Option Addr} {e3 e4 e5 : Int} {l3 l4 l5 : List Nat} {W : World} {J : Act → World → Prop} {Q : Exit → Act → World → Prop} (e : Nat → Value)
    (h3 : Row (fun _ => True) W (.slice o3 n3 c3) n3 1 (intCs l3)) (hn3 : n3 = l3.length) (h4 : Row (fun _ => True) W (.slice o4 n4 c4) n4 1 (intCs l4)) (hn4 : n4 = l4.length) (h5 : Row (fun _ => True) W (.slice o5 n5 c5) n5 1 (intCs l5)) (hn5 : n5 = l5.length) (hl : n3 ≤ 500) (he3 : e3 = 0 ∨ e3 = 5)
    (hlaw : e3 = 0 → n3 < 500 → e4 = 0 ∧ e5 = 0 ∧ l4 = l3 ++ [0] ∧ l5 = 0 :: l3)
    (hJ : ∀ (m : List Value) (w' : World), m.length = 182 → (m[9]? = some (e 9) ∧ m[10]? = some (e 10) ∧ m[13]? = some (e 13) ∧ m[14]? = some (e 14) ∧ m[15]? = some (e 15) ∧ True) → Below W.heap.size W w' → J ⟨m.toArray, []⟩ w') :
    Code.wp Tryd.prog (tmC [1, 1, 1, 1, 1, 1, 1, 1, 1, 1, 1, 1, 1, 1, 1, 1, 1, 0]) (Exit.then J Q) ⟨#[e 0, e 1, e 2, e 3, e 4, e 5, e 6, e 7, e 8, e 9, e 10, e 11, e 12, e 13, e 14, e 15, e 16, e 17, e 18, e 19, e 20, .slice o3 n3 c3, .int .i64 e3, .slice o4 n4 c4, .int .i64 e4, .slice o5 n5 c5, .int .i64 e5, e 27, e 28, e 29, e 30, e 31, e 32, e 33, e 34, e 35, e 36, e 37, e 38, e 39, e 40, e 41, e 42, e 43, e 44, e 45, e 46, e 47, e 48, e 49, e 50, e 51, e 52, e 53, e 54, e 55, e 56, e 57, e 58, e 59, e 60, e 61, e 62, e 63, e 64, e 65, e 66, e 67, e 68, e 69, e 70, e 71, e 72, e 73, e 74, e 75, e 76, e 77, e 78, e 79, e 80, e 81, e 82, e 83, e 84, e 85, e 86, e 87, e 88, e 89, e 90, e 91, e 92, e 93, e 94, e 95, e 96, e 97, e 98, e 99, e 100, e 101, e 102, e 103, e 104, e 105, e 106, e 107, e 108, e 109, e 110, e 111, e 112, e 113, e 114, e 115, e 116, e 117, e 118, e 119, e 120, e 121, e 122, e 123, e 124, e 125, e 126, e 127, e 128, e 129, e 130, e 131, e 132, e 133, e 134, e 135, e 136, e 137, e 138, e 139, e 140, e 141, e 142, e 143, e 144, e 145, e 146, e 147, e 148, e 149, e 150, e 151, e 152, e 153, e 154, e 155, e 156, e 157, e 158, e 159, e 160, e 161, e 162, e 163, e 164, e 165, e 166, e 167, e 168, e 169, e 170, e 171, e 172, e 173, e 174, e 175, e 176, e 177, e 178, e 179, e 180, e 181], []⟩ W := by
  have HJ := Lib.hid hJ
  clear hJ
  rcases he3 with rfl | rfl
  · by_cases hlt : n3 < 500
    · obtain ⟨rfl, rfl, hl4, hl5⟩ := hlaw rfl hlt
      have hltI : (n3 : Int) < 500 := by omega
      obtain ⟨i0, hi0, hz0, hz1, hz2⟩ := info_parts info3
      have hcl := cloneI_any h3 (by intro u hu; simp only [intCs, List.mem_map] at hu; obtain ⟨x, -, rfl⟩ := hu; rfl) (by omega)
      have HCL := Lib.hid hcl
      have heq1 : ∀ w' (v : Value) (b' : Nat), Below W.heap.size W w' → w'.ownsRow b' 3 1 v (n3 + 1) (intCs l3 ++ [.int .i64 0]) → Calls Tryd.prog 12 #[.slice o4 n4 c4, v] w' (Eqs true w') := fun w' v b' hb ho => by
        have hr := RowGo h4 (Kept.of_below hb (fun _ => False)) (M := fun _ => True) (fun _ _ h => ⟨id, h⟩)
        have hr2 : Row (fun _ => True) w' v (n3 + 1) 1 (intCs l3 ++ [.int .i64 0]) := rowOwn ho (fun _ _ => trivial)
        rw [show intCs l3 ++ [.int .i64 0] = intCs (l3 ++ [0]) by simp [intCs], show n3 + 1 = (l3 ++ [0]).length by simp; omega] at hr2
        rw [hl4] at hr
        have hlen : n4 = (l3 ++ [0]).length := by rw [hn4, hl4]
        have := equalI_any (l := l3 ++ [0]) (m := l3 ++ [0]) (by rw [← hlen]; exact hr) hr2 (by simp; omega) (by simp; omega)
        rwa [decide_eq_true rfl] at this
      have heq2 : ∀ w' (v : Value) (b' : Nat), Below W.heap.size W w' → w'.ownsRow b' 3 1 v (1 + n3) ([.int .i64 0] ++ intCs l3) → Calls Tryd.prog 12 #[.slice o5 n5 c5, v] w' (Eqs true w') := fun w' v b' hb ho => by
        have hr := RowGo h5 (Kept.of_below hb (fun _ => False)) (M := fun _ => True) (fun _ _ h => ⟨id, h⟩)
        have hr2 : Row (fun _ => True) w' v (1 + n3) 1 ([.int .i64 0] ++ intCs l3) := rowOwn ho (fun _ _ => trivial)
        rw [show [.int .i64 0] ++ intCs l3 = intCs (0 :: l3) by simp [intCs], show 1 + n3 = (0 :: l3).length by simp; omega] at hr2
        rw [hl5] at hr
        have hlen : n5 = (0 :: l3).length := by rw [hn5, hl5]
        have := equalI_any (l := 0 :: l3) (m := 0 :: l3) (by rw [← hlen]; exact hr) hr2 (by simp; omega) (by simp; omega)
        rwa [decide_eq_true rfl] at this
      have happ1 : ∀ w' (v : Value), Below W.heap.size W w' → w'.ownsRow W.heap.size 3 1 v n3 (intCs l3) → (w'.alloc (.cells #[.int .i64 0] 3)).ownsRow W.heap.size 3 1 v n3 (intCs l3) ∧ SrcAt (w'.alloc (.cells #[.int .i64 0] 3)) (.slice (some ⟨w'.heap.size, 0, none⟩) 1 1) 1 [.int .i64 0] ∧ W.heap.size ≤ (w'.alloc (.cells #[.int .i64 0] 3)).heap.size ∧ ∀ w4, (w'.alloc (.cells #[.int .i64 0] 3)).grownBy w4 v.ownBlock → Below W.heap.size W w4 := fun w' v hb ho =>
        ⟨ownsRow_go ho ((Kept.refl (fun _ => False) w').alloc _) (fun _ _ => id), src_int rfl, by have := hb.size; simp; omega, fun w4 hg => (hb.alloc hb.size _).grown hg (by have := hb.size; simp; omega) (fun q hq => (ho.lt q hq).1)⟩
      have happ2 : ∀ w', Below W.heap.size W w' → (w'.alloc (.cells #[.int .i64 0] 3)).ownsRow w'.heap.size 3 1 (.slice (some ⟨w'.heap.size, 0, none⟩) 1 1) 1 [.int .i64 0] ∧ SrcAt (w'.alloc (.cells #[.int .i64 0] 3)) (.slice o3 n3 c3) n3 (intCs l3) ∧ w'.heap.size ≤ (w'.alloc (.cells #[.int .i64 0] 3)).heap.size ∧ ∀ w4, (w'.alloc (.cells #[.int .i64 0] 3)).grownBy w4 (some w'.heap.size) → Below W.heap.size W w4 := fun w' hb =>
        ⟨own_zero w', src_row (RowGo (RowGo h3 (Kept.of_below hb (fun _ => False)) (M := fun _ => True) (fun _ _ h => ⟨id, h⟩)) ((Kept.refl (fun _ => False) w').alloc _) (M := fun _ => True) (fun _ _ h => ⟨id, h⟩)), by simp, fun w4 hg => (hb.alloc hb.size _).grown hg (by have := hb.size; simp; omega) (fun q hq => by simp only [Option.some.injEq] at hq; have := hb.size; omega)⟩
      have HE1 := Lib.hid heq1
      have HE2 := Lib.hid heq2
      have HA1 := Lib.hid happ1
      have HA2 := Lib.hid happ2
      have hl1 : (intCs l3).length = n3 * 1 := by simp [intCs]; omega
      have hone : ∀ u ∈ intCs l3, u.oneCell' = true := by intro u hu; simp only [intCs, List.mem_map] at hu; obtain ⟨x, -, rfl⟩ := hu; rfl
      have HONE := Lib.hid hone
      have HL1 := Lib.hid hl1
      have hmx : n3 + 1 ≤ maxLen := by unfold maxLen; omega
      have hby : (n3 + 1) * 8 ≤ 140737488355328 := by omega
      have hmx2 : 1 + n3 ≤ maxLen := by unfold maxLen; omega
      have hby2 : (1 + n3) * 8 ≤ 140737488355328 := by omega
      clear hcl h3 h4 h5 hn3 hn4 hn5 hl4 hl5 hlaw heq1 heq2 happ1 happ2 hone hl1
      conv => arg 2; whnf
      go_wp2_with (first
        | (at_builtin; go_loud (refine Go.BigFrame.wpList_want rfl fun K0 hK0 => wp_append_row _ _ 35 rfl Tryd.underlying35 hi0 hz0 hz1 hz2 rfl (.slice (some ⟨_, 0, none⟩) 1 1) 1 _ rfl (HA2.out _ HB4.out).1 _ n3 _ rfl (HA2.out _ HB4.out).2.1 HL1.out HONE.out hmx2 hby2 (HA2.out _ HB4.out).2.2.1 (fun v5 w5 hown' hgrow h3' h4' => hK0 _ _ ?_); clear hK0; obtain ⟨o7, c7, rfl⟩ := own_slice hown'; have HO5 := Lib.hid hown'; have HB5 := Lib.hid ((HA2.out _ HB4.out).2.2.2 w5 hgrow); clear hown' hgrow h3' h4'))
        | (at_builtin; go_loud (refine Go.BigFrame.wpList_want rfl fun K0 hK0 => wp_append_row _ _ 35 rfl Tryd.underlying35 hi0 hz0 hz1 hz2 rfl (.slice o2 n3 c2) n3 (intCs l3) rfl (HA1.out _ _ HB.out HO.out).1 _ 1 _ rfl (HA1.out _ _ HB.out HO.out).2.1 rfl (by simp [Value.oneCell']) hmx hby (HA1.out _ _ HB.out HO.out).2.2.1 (fun v3 w3 hown' hgrow h3' h4' => hK0 _ _ ?_); clear hK0; obtain ⟨o6, c6, rfl⟩ := own_slice hown'; have HO3 := Lib.hid hown'; have HB3 := Lib.hid ((HA1.out _ _ HB.out HO.out).2.2.2 w3 hgrow); clear hown' hgrow h3' h4'))
        | (go_at_call 12; (refine (HE2.out _ _ _ HB5.out HO5.out).mono ?_; rintro ee w6 ⟨rfl, hb⟩; have HB6 := Lib.hid (HB5.out.trans (hb.mono HB5.out.size)); clear hb))
        | (go_at_call 12; go_loud (refine (HE1.out _ _ _ HB3.out HO3.out).mono ?_; rintro ee w4 ⟨rfl, hb⟩; have HB4 := Lib.hid (HB3.out.trans (hb.mono HB3.out.size)); clear hb))
        | (go_at_call 18; go_loud (refine HCL.out.mono ?_; rintro ee w2 ⟨v2, rfl, ho, hb⟩; obtain ⟨o2, c2, rfl⟩ := own_slice ho; have HO := Lib.hid ho; have HB := Lib.hid hb; clear ho hb)))
      exact HJ.out _ _ rfl ⟨rfl, rfl, rfl, rfl, rfl, trivial⟩ HB6.out
    · have hltI : (500 : Int) ≤ n3 := by omega
      clear h3 h4 h5 hn3 hn4 hn5 hlaw
      conv => arg 2; whnf
      go_wp2_with fail
      exact HJ.out _ _ rfl ⟨rfl, rfl, rfl, rfl, rfl, trivial⟩ (Below.refl _ _)
  · clear h3 h4 h5 hn3 hn4 hn5 hlaw
    conv => arg 2; whnf
    go_wp2_with fail
    exact HJ.out _ _ rfl ⟨rfl, rfl, rfl, rfl, rfl, trivial⟩ (Below.refl _ _)
end Go.Proofs.YtnhjakdmbfadlaaDoor
