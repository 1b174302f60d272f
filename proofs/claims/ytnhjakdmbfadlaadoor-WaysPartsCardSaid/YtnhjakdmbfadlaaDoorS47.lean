/- Parts of the proof: Peb. Conditions: none. -/
import Derived.Test.YtnhjakdmbfadlaaDoorS46
import Derived.Test.YtnhjakdmbfadlaaDoorS41
import Derived.Test.YtnhjakdmbfadlaaDoorS40
import Derived.Test.YtnhjakdmbfadlaaDoorS04
set_option linter.all false
namespace Go.Proofs.YtnhjakdmbfadlaaDoor
open Go.RowKit Wy Mem Grow

def Off (s : Bool) (v : Value) (q : Nat) : Prop := s = true → v ≠ .pointer (some ⟨q, 0, none⟩)
theorem Off.ne {v : Value} {q b : Nat} {s : Bool} (h : Off s v q) (hs : s = true) (hv : v = .pointer (some ⟨b, 0, none⟩)) : q ≠ b := fun e => h hs (by rw [hv, e])
theorem off_ptr {q b : Nat} {s : Bool} (h : q ≠ b) : Off s (.pointer (some ⟨b, 0, none⟩)) q := fun _ e => by
  simp only [Value.pointer.injEq, Option.some.injEq, Addr.mk.injEq, and_true] at e
  exact h e.symm
/-- what holds in region 3: which operations have run -/
def pa3 (W : World) (x y : Nd) (s5 s11 s14 s15 s16 s17 : Bool) (u5 u11 u14 u15 : Value) (w' : World) : Prop :=
  Below W.heap.size W w' ∧
  (s5 = true → ∃ cs : List Value, u5 = .agg cs.toArray ∧ NdAt (fun q => Off s14 u14 q ∧ Off s15 u15 q) w' x cs) ∧
  (s11 = true → ∃ cs : List Value, u11 = .agg cs.toArray ∧ NdAt (fun q => Off s14 u14 q ∧ Off s15 u15 q) w' y cs) ∧
  (s14 = true → ∃ (b : Nat) (cs : List Value), u14 = .pointer (some ⟨b, 0, none⟩) ∧ W.heap.size ≤ b ∧ Blk w' b cs.toArray 28 ∧ cs.length = 6 ∧ (s16 = true → u5 = .agg cs.toArray) ∧ Off s15 u15 b) ∧
  (s15 = true → ∃ (b : Nat) (cs : List Value), u15 = .pointer (some ⟨b, 0, none⟩) ∧ W.heap.size ≤ b ∧ Blk w' b cs.toArray 28 ∧ cs.length = 6 ∧ (s17 = true → u11 = .agg cs.toArray) ∧ Off s14 u14 b)
variable {W : World} {x y : Nd} {s5 s11 s14 s15 s16 s17 : Bool} {u5 u11 u14 u15 : Value} {w w' : World} {cs : List Value}
theorem pa3_go (h : pa3 W x y s5 s11 s14 s15 s16 s17 u5 u11 u14 u15 w) (hb : Below w.heap.size w w') : pa3 W x y s5 s11 s14 s15 s16 s17 u5 u11 u14 u15 w' := by
  obtain ⟨h1, h2, h3, h4, h5⟩ := h
  have k := Kept.of_below hb (fun _ => False)
  refine ⟨h1.trans (hb.mono h1.size), fun e => ?_, fun e => ?_, fun e => ?_, fun e => ?_⟩
  · obtain ⟨cs, a, b⟩ := h2 e
    exact ⟨cs, a, NdAt.go k (fun _ _ h => ⟨id, h⟩) b⟩
  · obtain ⟨cs, a, b⟩ := h3 e
    exact ⟨cs, a, NdAt.go k (fun _ _ h => ⟨id, h⟩) b⟩
  · obtain ⟨b, cs, a1, a2, a3, a4⟩ := h4 e
    exact ⟨b, cs, a1, a2, a3.below hb a3.lt, a4⟩
  · obtain ⟨b, cs, a1, a2, a3, a4⟩ := h5 e
    exact ⟨b, cs, a1, a2, a3.below hb a3.lt, a4⟩
theorem pa3_off (h : pa3 W x y s5 s11 s14 s15 s16 s17 u5 u11 u14 u15 w) {q : Nat} (hq : w.heap.size ≤ q) : Off s14 u14 q ∧ Off s15 u15 q := by
  obtain ⟨h1, h2, h3, h4, h5⟩ := h
  refine ⟨fun e => ?_, fun e => ?_⟩
  · obtain ⟨b, cs, a1, a2, a3, a4⟩ := h4 e
    rw [a1]
    exact off_ptr (s := true) (by have := a3.lt; omega) rfl
  · obtain ⟨b, cs, a1, a2, a3, a4⟩ := h5 e
    rw [a1]
    exact off_ptr (s := true) (by have := a3.lt; omega) rfl
theorem pa3_x (h : pa3 W x y s5 s11 s14 s15 s16 s17 u5 u11 u14 u15 w) (hl : s16 = false) (hn : NdAt (fun q => w.heap.size ≤ q) w' x cs) (hb : Below w.heap.size w w') : pa3 W x y true s11 s14 s15 s16 s17 (.agg cs.toArray) u11 u14 u15 w' := by
  have ho := @pa3_off _ _ _ _ _ _ _ _ _ _ _ _ _ _ h
  obtain ⟨h1, -, h3, h4, h5⟩ := pa3_go h hb
  refine ⟨h1, fun _ => ⟨cs, rfl, NdAt.mono (fun q hq => ho hq) hn⟩, h3, fun e => ?_, h5⟩
  obtain ⟨b, cs, a1, a2, a3, a4, a5, a6⟩ := h4 e
  exact ⟨b, cs, a1, a2, a3, a4, fun e => Bool.noConfusion (hl.symm.trans e), a6⟩
theorem pa3_y (h : pa3 W x y s5 s11 s14 s15 s16 s17 u5 u11 u14 u15 w) (hl : s17 = false) (hn : NdAt (fun q => w.heap.size ≤ q) w' y cs) (hb : Below w.heap.size w w') : pa3 W x y s5 true s14 s15 s16 s17 u5 (.agg cs.toArray) u14 u15 w' := by
  have ho := @pa3_off _ _ _ _ _ _ _ _ _ _ _ _ _ _ h
  obtain ⟨h1, h2, -, h4, h5⟩ := pa3_go h hb
  refine ⟨h1, h2, fun _ => ⟨cs, rfl, NdAt.mono (fun q hq => ho hq) hn⟩, h4, fun e => ?_⟩
  obtain ⟨b, cs, a1, a2, a3, a4, a5, a6⟩ := h5 e
  exact ⟨b, cs, a1, a2, a3, a4, fun e => Bool.noConfusion (hl.symm.trans e), a6⟩
theorem pa3_a (h : pa3 W x y s5 s11 s14 s15 s16 s17 u5 u11 u14 u15 w) (hl : s16 = false) : pa3 W x y s5 s11 true s15 s16 s17 u5 u11 (.pointer (some ⟨w.heap.size, 0, none⟩)) u15 (w.alloc (.cells #[.int .u8 0, .slice none 0 0, .int .i64 0, .int .i64 0, .bool false, .slice none 0 0] 28)) := by
  have ho := (pa3_off h (Nat.le_refl _)).2
  obtain ⟨h1, h2, h3, h4, h5⟩ := h
  have k := (Kept.refl (fun _ => False) w).alloc (.cells #[.int .u8 0, .slice none 0 0, .int .i64 0, .int .i64 0, .bool false, .slice none 0 0] 28)
  refine ⟨h1.alloc h1.size _, fun e => ?_, fun e => ?_, fun _ => ⟨w.heap.size, [.int .u8 0, .slice none 0 0, .int .i64 0, .int .i64 0, .bool false, .slice none 0 0], rfl, h1.size, Blk.new _ _ _, rfl, fun e => Bool.noConfusion (hl.symm.trans e), ho⟩, fun e => ?_⟩
  · obtain ⟨cs, a, b⟩ := h2 e
    exact ⟨cs, a, NdAt.go k (fun q hq h => ⟨id, off_ptr (by omega), h.2⟩) b⟩
  · obtain ⟨cs, a, b⟩ := h3 e
    exact ⟨cs, a, NdAt.go k (fun q hq h => ⟨id, off_ptr (by omega), h.2⟩) b⟩
  · obtain ⟨b, cs, a1, a2, a3, a4, a5, a6⟩ := h5 e
    exact ⟨b, cs, a1, a2, a3.alloc _, a4, a5, off_ptr (by have := a3.lt; omega)⟩
theorem pa3_b (h : pa3 W x y s5 s11 s14 s15 s16 s17 u5 u11 u14 u15 w) (hl : s17 = false) : pa3 W x y s5 s11 s14 true s16 s17 u5 u11 u14 (.pointer (some ⟨w.heap.size, 0, none⟩)) (w.alloc (.cells #[.int .u8 0, .slice none 0 0, .int .i64 0, .int .i64 0, .bool false, .slice none 0 0] 28)) := by
  have ho := (pa3_off h (Nat.le_refl _)).1
  obtain ⟨h1, h2, h3, h4, h5⟩ := h
  have k := (Kept.refl (fun _ => False) w).alloc (.cells #[.int .u8 0, .slice none 0 0, .int .i64 0, .int .i64 0, .bool false, .slice none 0 0] 28)
  refine ⟨h1.alloc h1.size _, fun e => ?_, fun e => ?_, fun e => ?_, fun _ => ⟨w.heap.size, [.int .u8 0, .slice none 0 0, .int .i64 0, .int .i64 0, .bool false, .slice none 0 0], rfl, h1.size, Blk.new _ _ _, rfl, fun e => Bool.noConfusion (hl.symm.trans e), ho⟩⟩
  · obtain ⟨cs, a, b⟩ := h2 e
    exact ⟨cs, a, NdAt.go k (fun q hq h => ⟨id, h.1, off_ptr (by omega)⟩) b⟩
  · obtain ⟨cs, a, b⟩ := h3 e
    exact ⟨cs, a, NdAt.go k (fun q hq h => ⟨id, h.1, off_ptr (by omega)⟩) b⟩
  · obtain ⟨b, cs, a1, a2, a3, a4, a5, a6⟩ := h4 e
    exact ⟨b, cs, a1, a2, a3.alloc _, a4, a5, off_ptr (by have := a3.lt; omega)⟩
theorem blk6 {w : World} {b : Nat} {cs : List Value} {T : TypeId} (h : Blk w b cs.toArray T) (hl : cs.length = 6) : ∃ a0 a1 a2 a3 a4 a5 : Value, w.cell? ⟨b, 0, none⟩ = some a0 ∧ w.cell? ⟨b, 1, none⟩ = some a1 ∧ w.cell? ⟨b, 2, none⟩ = some a2 ∧ w.cell? ⟨b, 3, none⟩ = some a3 ∧ w.cell? ⟨b, 4, none⟩ = some a4 ∧ w.cell? ⟨b, 5, none⟩ = some a5 := by
  match cs, hl, h with
  | [a0, a1, a2, a3, a4, a5], _, h => exact ⟨a0, a1, a2, a3, a4, a5, h.cell 0, h.cell 1, h.cell 2, h.cell 3, h.cell 4, h.cell 5⟩
theorem pa3_s (h : pa3 W x y s5 s11 s14 s15 s16 s17 u5 u11 u14 u15 w) (e5 : s5 = true) (e14 : s14 = true) : ∃ (k lo hi : Int) (lz : Bool) (p1 p2 : Option Addr) (n1 d1 n2 d2 : Nat) (b : Nat), u5 = .agg #[.int .u8 k, .slice p1 n1 d1, .int .i64 lo, .int .i64 hi, .bool lz, .slice p2 n2 d2] ∧ u14 = .pointer (some ⟨b, 0, none⟩) ∧ b < w.heap.size ∧ (∀ i, w.frozen? ⟨b, i, none⟩ = false) ∧ (∃ a0 a1 a2 a3 a4 a5 : Value, w.cell? ⟨b, 0, none⟩ = some a0 ∧ w.cell? ⟨b, 1, none⟩ = some a1 ∧ w.cell? ⟨b, 2, none⟩ = some a2 ∧ w.cell? ⟨b, 3, none⟩ = some a3 ∧ w.cell? ⟨b, 4, none⟩ = some a4 ∧ w.cell? ⟨b, 5, none⟩ = some a5) ∧
    (s17 = false → pa3 W x y s5 s11 s14 s15 true s17 u5 u11 u14 u15 ((((((w.setCell ⟨b, 0, none⟩ (.int .u8 k)).setCell ⟨b, 1, none⟩ (.slice p1 n1 d1)).setCell ⟨b, 2, none⟩ (.int .i64 lo)).setCell ⟨b, 3, none⟩ (.int .i64 hi)).setCell ⟨b, 4, none⟩ (.bool lz)).setCell ⟨b, 5, none⟩ (.slice p2 n2 d2))) := by
  obtain ⟨h1, h2, h3, h4, h5⟩ := h
  obtain ⟨cs, hu5, hn⟩ := h2 e5
  obtain ⟨b, ds, hu14, hbW, hB, hd, -, hoff⟩ := h4 e14
  obtain ⟨k, lo, hi, lz, p1, p2, n1, d1, n2, d2, rfl⟩ := nd6k hn
  refine ⟨k, lo, hi, lz, p1, p2, n1, d1, n2, d2, b, hu5, hu14, hB.lt, hB.frozen, blk6 hB hd, fun _ => ?_⟩
  have kk := set6_kept (w := w) (b := b) (.int .u8 k) (.slice p1 n1 d1) (.int .i64 lo) (.int .i64 hi) (.bool lz) (.slice p2 n2 d2)
  refine ⟨((Kept.of_below h1 (fun q => q = b)).trans kk).below (fun i hi e => by omega), fun e => ?_, fun e => ?_, fun e => ?_, fun e => ?_⟩
  · obtain ⟨cs, a, c⟩ := h2 e
    exact ⟨cs, a, NdAt.go kk (fun q hq h => ⟨h.1.ne e14 hu14, h⟩) c⟩
  · obtain ⟨cs, a, c⟩ := h3 e
    exact ⟨cs, a, NdAt.go kk (fun q hq h => ⟨h.1.ne e14 hu14, h⟩) c⟩
  · exact ⟨b, _, hu14, hbW, set6_blk hB hd _ _ _ _ _ _, rfl, fun _ => hu5, hoff⟩
  · obtain ⟨b2, cs2, a1, a2, a3, a4, a5, a6⟩ := h5 e
    exact ⟨b2, cs2, a1, a2, a3.kept kk (a6.ne e14 hu14), a4, a5, a6⟩
theorem pa3_t (h : pa3 W x y s5 s11 s14 s15 s16 s17 u5 u11 u14 u15 w) (e5 : s11 = true) (e14 : s15 = true) : ∃ (k lo hi : Int) (lz : Bool) (p1 p2 : Option Addr) (n1 d1 n2 d2 : Nat) (b : Nat), u11 = .agg #[.int .u8 k, .slice p1 n1 d1, .int .i64 lo, .int .i64 hi, .bool lz, .slice p2 n2 d2] ∧ u15 = .pointer (some ⟨b, 0, none⟩) ∧ b < w.heap.size ∧ (∀ i, w.frozen? ⟨b, i, none⟩ = false) ∧ (∃ a0 a1 a2 a3 a4 a5 : Value, w.cell? ⟨b, 0, none⟩ = some a0 ∧ w.cell? ⟨b, 1, none⟩ = some a1 ∧ w.cell? ⟨b, 2, none⟩ = some a2 ∧ w.cell? ⟨b, 3, none⟩ = some a3 ∧ w.cell? ⟨b, 4, none⟩ = some a4 ∧ w.cell? ⟨b, 5, none⟩ = some a5) ∧
    pa3 W x y s5 s11 s14 s15 s16 true u5 u11 u14 u15 ((((((w.setCell ⟨b, 0, none⟩ (.int .u8 k)).setCell ⟨b, 1, none⟩ (.slice p1 n1 d1)).setCell ⟨b, 2, none⟩ (.int .i64 lo)).setCell ⟨b, 3, none⟩ (.int .i64 hi)).setCell ⟨b, 4, none⟩ (.bool lz)).setCell ⟨b, 5, none⟩ (.slice p2 n2 d2)) := by
  obtain ⟨h1, h2, h3, h4, h5⟩ := h
  obtain ⟨cs, hu5, hn⟩ := h3 e5
  obtain ⟨b, ds, hu14, hbW, hB, hd, -, hoff⟩ := h5 e14
  obtain ⟨k, lo, hi, lz, p1, p2, n1, d1, n2, d2, rfl⟩ := nd6k hn
  refine ⟨k, lo, hi, lz, p1, p2, n1, d1, n2, d2, b, hu5, hu14, hB.lt, hB.frozen, blk6 hB hd, ?_⟩
  have kk := set6_kept (w := w) (b := b) (.int .u8 k) (.slice p1 n1 d1) (.int .i64 lo) (.int .i64 hi) (.bool lz) (.slice p2 n2 d2)
  refine ⟨((Kept.of_below h1 (fun q => q = b)).trans kk).below (fun i hi e => by omega), fun e => ?_, fun e => ?_, fun e => ?_, fun e => ?_⟩
  · obtain ⟨cs, a, c⟩ := h2 e
    exact ⟨cs, a, NdAt.go kk (fun q hq h => ⟨h.2.ne e14 hu14, h⟩) c⟩
  · obtain ⟨cs, a, c⟩ := h3 e
    exact ⟨cs, a, NdAt.go kk (fun q hq h => ⟨h.2.ne e14 hu14, h⟩) c⟩
  · obtain ⟨b2, cs2, a1, a2, a3, a4, a5, a6⟩ := h4 e
    exact ⟨b2, cs2, a1, a2, a3.kept kk (a6.ne e14 hu14), a4, a5, a6⟩
  · exact ⟨b, _, hu14, hbW, set6_blk hB hd _ _ _ _ _ _, rfl, fun _ => hu5, hoff⟩
set_option maxHeartbeats 8000000 in
set_option maxRecDepth 100000 in
theorem pe3 {m1 c1 m2 c2 : Nat} {o1 o2 : Option Addr} {vb : Value} {s : ByteArray} {x y : Nd} {W : World} {J : Act → World → Prop} {Q : Exit → Act → World → Prop} (e : Nat → Value) (h1 : m1 ≤ c1) (h2 : m2 ≤ c2)
    (hmx : ∀ w', Below W.heap.size W w' → Calls Tryd.prog 7 #[.slice o1 (min (m1 : Int) 8).toNat c1] w' (Mdn x w'))
    (hmy : ∀ w', Below W.heap.size W w' → Calls Tryd.prog 7 #[.slice o2 (min (m2 : Int) 8).toNat c2] w' (Mdn y w'))
    (htx : ∀ w', Below W.heap.size W w' → Calls Tryd.prog 8 #[vb, .int .i64 6] w' (fun e w'' => e = .returned (.string s) ∧ Below w'.heap.size w' w''))
    (hJ : ∀ (m : List Value) (w' : World) (b7 b8 : Nat) (xs ys : List Value), m.length = 174 → m[7]? = some (.pointer (some ⟨b7, 0, none⟩)) → m[8]? = some (.pointer (some ⟨b8, 0, none⟩)) → m[9]? = some (.string s) → Blk w' b7 xs.toArray 28 → Blk w' b8 ys.toArray 28 → NdAt (fun _ => True) w' x xs → NdAt (fun _ => True) w' y ys → Below W.heap.size W w' → J ⟨m.toArray, []⟩ w') :
    Code.wp Tryd.prog (paC [1, 1, 0]) (Exit.then J Q) ⟨#[.slice o1 m1 c1, .slice o2 m2 c2, vb, e 3, e 4, e 5, e 6, e 7, e 8, e 9, e 10, e 11, e 12, e 13, e 14, e 15, e 16, e 17, e 18, e 19, e 20, e 21, e 22, e 23, e 24, e 25, e 26, e 27, e 28, e 29, e 30, e 31, e 32, e 33, e 34, e 35, e 36, e 37, e 38, e 39, e 40, e 41, e 42, e 43, e 44, e 45, e 46, e 47, e 48, e 49, e 50, e 51, e 52, e 53, e 54, e 55, e 56, e 57, e 58, e 59, e 60, e 61, e 62, e 63, e 64, e 65, e 66, e 67, e 68, e 69, e 70, e 71, e 72, e 73, e 74, e 75, e 76, e 77, e 78, e 79, e 80, e 81, e 82, e 83, e 84, e 85, e 86, e 87, e 88, e 89, e 90, e 91, e 92, e 93, e 94, e 95, e 96, e 97, e 98, e 99, e 100, e 101, e 102, e 103, e 104, e 105, e 106, e 107, e 108, e 109, e 110, e 111, e 112, e 113, e 114, e 115, e 116, e 117, e 118, e 119, e 120, e 121, e 122, e 123, e 124, e 125, e 126, e 127, e 128, e 129, e 130, e 131, e 132, e 133, e 134, e 135, e 136, e 137, e 138, e 139, e 140, e 141, e 142, e 143, e 144, e 145, e 146, e 147, e 148, e 149, e 150, e 151, e 152, e 153, e 154, e 155, e 156, e 157, e 158, e 159, e 160, e 161, e 162, e 163, e 164, e 165, e 166, e 167, e 168, e 169, e 170, e 171, e 172, e 173], []⟩ W := by
  have HX := Lib.hid hmx
  have HY := Lib.hid hmy
  have HT := Lib.hid htx
  have HJ := Lib.hid hJ
  have h1I : (m1 : Int) ≤ c1 := by omega
  have h2I : (m2 : Int) ≤ c2 := by omega
  have h1n : 0 ≤ min (m1 : Int) 8 := by omega
  have h2n : 0 ≤ min (m2 : Int) 8 := by omega
  have h1c : min (m1 : Int) 8 ≤ c1 := by omega
  have h2c : min (m2 : Int) 8 ≤ c2 := by omega
  clear hmx hmy htx hJ
  conv => arg 2; whnf
  apply wp_flowX ?hm ?hok [some _, some _, some _, some _, some _, none, some _, some _, some _, some _, some _, none, some _, some (.string s), none, none, some undef, some undef, some (.string s)] (fun S u w' => pa3 W x y (S 5) (S 11) (S 14) (S 15) (S 16) (S 17) (u 5) (u 11) (u 14) (u 15) w') ?hw ?h
  case hm => rfl
  case hok => kernel_rfl
  case hw => exact ⟨(Below.refl _ _).drew, fun e => (by cases e), fun e => (by cases e), fun e => (by cases e), fun e => (by cases e)⟩
  case h =>
    intro u
    iterate 5
      apply flowX_read rfl
      case hs => exact fun _ _ _ h => h
      case h =>
        intro S w hS hW K hK
        clear hS hW
        go_wp2_with fail
        exact hK
      case' k => simp only [Act.put, List.setIfInBounds_toArray, List.set_cons_zero, List.set_cons_succ, Nat.reduceAdd]
    apply flowX_open rfl
    case h =>
      intro S w hS hW K hK
      have hl := hS.last 16 (by kernel_rfl)
      have hC := HX.out w hW.1
      have hK' := fun k lo hi lz p1 p2 n1 d1 n2 d2 w' hn hb => hK (.agg #[.int .u8 k, .slice p1 n1 d1, .int .i64 lo, .int .i64 hi, .bool lz, .slice p2 n2 d2]) w' (by
        show pa3 W x y true (S 11) (S 14) (S 15) (S 16) (S 17) (.agg #[.int .u8 k, .slice p1 n1 d1, .int .i64 lo, .int .i64 hi, .bool lz, .slice p2 n2 d2]) (u 11) (u 14) (u 15) w'
        exact pa3_x hW hl (cs := [.int .u8 k, .slice p1 n1 d1, .int .i64 lo, .int .i64 hi, .bool lz, .slice p2 n2 d2]) hn hb)
      have HK := Lib.hid hK'
      have HC' := Lib.hid hC
      clear hS hW hK hK' hl hC
      go_wp2_with (go_at_call 7; go_loud (refine HC'.out.mono ?_; rintro ee w' ⟨k, lo, hi, lz, p1, p2, n1, d1, n2, d2, rfl, hn, hb'⟩))
      exact HK.out k lo hi lz p1 p2 n1 d1 n2 d2 _ hn hb'
    case' k => simp only [Act.put, List.setIfInBounds_toArray, List.set_cons_zero, List.set_cons_succ, Nat.reduceAdd]
    iterate 5
      apply flowX_read rfl
      case hs => exact fun _ _ _ h => h
      case h =>
        intro S w hS hW K hK
        clear hS hW
        go_wp2_with fail
        exact hK
      case' k => simp only [Act.put, List.setIfInBounds_toArray, List.set_cons_zero, List.set_cons_succ, Nat.reduceAdd]
    apply flowX_open rfl
    case h =>
      intro S w hS hW K hK
      have hl := hS.last 17 (by kernel_rfl)
      have hC := HY.out w hW.1
      have hK' := fun k lo hi lz p1 p2 n1 d1 n2 d2 w' hn hb => hK (.agg #[.int .u8 k, .slice p1 n1 d1, .int .i64 lo, .int .i64 hi, .bool lz, .slice p2 n2 d2]) w' (by
        show pa3 W x y (S 5) true (S 14) (S 15) (S 16) (S 17) (u 5) (.agg #[.int .u8 k, .slice p1 n1 d1, .int .i64 lo, .int .i64 hi, .bool lz, .slice p2 n2 d2]) (u 14) (u 15) w'
        exact pa3_y hW hl (cs := [.int .u8 k, .slice p1 n1 d1, .int .i64 lo, .int .i64 hi, .bool lz, .slice p2 n2 d2]) hn hb)
      have HK := Lib.hid hK'
      have HC' := Lib.hid hC
      clear hS hW hK hK' hl hC
      go_wp2_with (go_at_call 7; go_loud (refine HC'.out.mono ?_; rintro ee w' ⟨k, lo, hi, lz, p1, p2, n1, d1, n2, d2, rfl, hn, hb'⟩))
      exact HK.out k lo hi lz p1 p2 n1 d1 n2 d2 _ hn hb'
    case' k => simp only [Act.put, List.setIfInBounds_toArray, List.set_cons_zero, List.set_cons_succ, Nat.reduceAdd]
    apply flowX_read rfl
    case hs => exact fun _ _ _ h => h
    case h =>
      intro S w hS hW K hK
      clear hS hW
      go_wp2_with fail
      exact hK
    case' k => simp only [Act.put, List.setIfInBounds_toArray, List.set_cons_zero, List.set_cons_succ, Nat.reduceAdd]
    apply flowX_yes rfl
    case h =>
      intro S w hS hW K hK
      have hC := HT.out w hW.1
      have hK' := fun w' hb => hK w' (by
        show pa3 W x y (S 5) (S 11) (S 14) (S 15) (S 16) (S 17) (u 5) (u 11) (u 14) (u 15) w'
        exact pa3_go hW hb)
      have HK := Lib.hid hK'
      have HC' := Lib.hid hC
      clear hS hW hK hK' hC
      go_wp2_with (go_at_call 8; go_loud (refine HC'.out.mono ?_; rintro ee w' ⟨rfl, hb'⟩))
      exact HK.out _ hb'
    case' k => simp only [Act.put, List.setIfInBounds_toArray, List.set_cons_zero, List.set_cons_succ, Nat.reduceAdd]
    apply flowX_open rfl
    case h =>
      intro S w hS hW K hK
      have hl := hS.last 16 (by kernel_rfl)
      have hK' := hK (.pointer (some ⟨w.heap.size, 0, none⟩)) (w.alloc (.cells #[.int .u8 0, .slice none 0 0, .int .i64 0, .int .i64 0, .bool false, .slice none 0 0] 28)) (by
        show pa3 W x y (S 5) (S 11) true (S 15) (S 16) (S 17) (u 5) (u 11) (.pointer (some ⟨w.heap.size, 0, none⟩)) (u 15) _
        exact pa3_a hW hl)
      have HK := Lib.hid hK'
      clear hS hW hK hK' hl
      go_wp2_with fail
      exact HK.out
    case' k => simp only [Act.put, List.setIfInBounds_toArray, List.set_cons_zero, List.set_cons_succ, Nat.reduceAdd]
    apply flowX_open rfl
    case h =>
      intro S w hS hW K hK
      have hl := hS.last 17 (by kernel_rfl)
      have hK' := hK (.pointer (some ⟨w.heap.size, 0, none⟩)) (w.alloc (.cells #[.int .u8 0, .slice none 0 0, .int .i64 0, .int .i64 0, .bool false, .slice none 0 0] 28)) (by
        show pa3 W x y (S 5) (S 11) (S 14) true (S 16) (S 17) (u 5) (u 11) (u 14) (.pointer (some ⟨w.heap.size, 0, none⟩)) _
        exact pa3_b hW hl)
      have HK := Lib.hid hK'
      clear hS hW hK hK' hl
      go_wp2_with fail
      exact HK.out
    case' k => simp only [Act.put, List.setIfInBounds_toArray, List.set_cons_zero, List.set_cons_succ, Nat.reduceAdd]
    apply flowX_yes rfl
    case h =>
      intro S w hS hW K hK
      have h5 := hS.deps 5 (by kernel_rfl)
      have h14 := hS.deps 14 (by kernel_rfl)
      have hl := hS.last 17 (by kernel_rfl)
      obtain ⟨k, lo, hi, lz, p1, p2, n1, d1, n2, d2, b, hu5, hu14, hbz, hbf, ⟨a0, a1, a2, a3, a4, a5, r0, r1, r2, r3, r4, r5⟩, hfin⟩ := pa3_s hW h5 h14
      have hK' := hK _ (by
        show pa3 W x y (S 5) (S 11) (S 14) (S 15) true (S 17) (u 5) (u 11) (u 14) (u 15) _
        exact hfin hl)
      rw [hu5, hu14] at hK' ⊢
      have HK := Lib.hid hK'
      clear hS hW hK hK' hl h5 h14 hu5 hu14 hfin
      go_wp2_with fail
      exact HK.out
    case' k => simp only [Act.put, List.setIfInBounds_toArray, List.set_cons_zero, List.set_cons_succ, Nat.reduceAdd]
    apply flowX_yes rfl
    case h =>
      intro S w hS hW K hK
      have h5 := hS.deps 11 (by kernel_rfl)
      have h14 := hS.deps 15 (by kernel_rfl)
      obtain ⟨k, lo, hi, lz, p1, p2, n1, d1, n2, d2, b, hu5, hu14, hbz, hbf, ⟨a0, a1, a2, a3, a4, a5, r0, r1, r2, r3, r4, r5⟩, hfin⟩ := pa3_t hW h5 h14
      have hK' := hK _ (by
        show pa3 W x y (S 5) (S 11) (S 14) (S 15) (S 16) true (u 5) (u 11) (u 14) (u 15) _
        exact hfin)
      rw [hu5, hu14] at hK' ⊢
      have HK := Lib.hid hK'
      clear hS hW hK hK' h5 h14 hu5 hu14 hfin
      go_wp2_with fail
      exact HK.out
    case' k => simp only [Act.put, List.setIfInBounds_toArray, List.set_cons_zero, List.set_cons_succ, Nat.reduceAdd]
    apply flowX_read rfl
    case hs => exact fun _ _ _ h => h
    case h =>
      intro S w hS hW K hK
      clear hS hW
      go_wp2_with fail
      exact hK
    case' k => simp only [Act.put, List.setIfInBounds_toArray, List.set_cons_zero, List.set_cons_succ, Nat.reduceAdd]
    refine flowX_end ?_
    intro S w hS hW
    obtain ⟨h1, h2, h3, h4, h5⟩ := hW
    obtain ⟨xs, ux, hx⟩ := h2 (hS 5 (by decide))
    obtain ⟨ys, uy, hy⟩ := h3 (hS 11 (by decide))
    obtain ⟨b7, zs, v7, -, B7, -, e7, -⟩ := h4 (hS 14 (by decide))
    obtain ⟨b8, ws, v8, -, B8, -, e8, -⟩ := h5 (hS 15 (by decide))
    have e7 := e7 (hS 16 (by decide))
    have e8 := e8 (hS 17 (by decide))
    rw [ux] at e7
    rw [uy] at e8
    have e7 : xs = zs := by simpa using e7
    have e8 : ys = ws := by simpa using e8
    subst e7 e8
    rw [v7, v8]
    exact HJ.out _ w b7 b8 xs ys rfl rfl rfl rfl B7 B8 (NdAt.mono (fun _ _ => trivial) hx) (NdAt.mono (fun _ _ => trivial) hy) h1
end Go.Proofs.YtnhjakdmbfadlaaDoor
