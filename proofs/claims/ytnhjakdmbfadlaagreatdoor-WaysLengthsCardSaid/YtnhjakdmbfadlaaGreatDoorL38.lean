/- Parts of the proof: AwD, Lw. Conditions: none. -/
import Derived.Test.YtnhjakdmbfadlaaGreatDoorL37
import Derived.Test.YtnhjakdmbfadlaaGreatDoorL06
import Derived.Test.YtnhjakdmbfadlaaGreatDoorL08
import Derived.Test.YtnhjakdmbfadlaaGreatDoorL01
import Derived.Test.YtnhjakdmbfadlaaGreatDoorL04
set_option linter.all false
/- awake, whole. -/
namespace Go.Proofs.YtnhjakdmbfadlaaGreatDoor
open Go.RowKit Wy Mem Grow

set_option maxHeartbeats 8000000 in
set_option maxRecDepth 100000 in
theorem aw_mid {W : World} {Q : Exit → Act → World → Prop} (e : Nat → Value) (htab : Lib.Utf8Tabs 0 1 W) (hnone : NoneAt W)
    (hQ : ∀ (m : List Value) (w' : World), m.length = 143 → m[0]? = some (.bool true) → Below W.heap.size W w' → Q .ret ⟨m.toArray, []⟩ w') :
    Code.wp Tryz.prog (awC [1, 1]) Q ⟨#[e 0, e 1, e 2, e 3, e 4, e 5, e 6, e 7, e 8, e 9, e 10, e 11, e 12, e 13, e 14, e 15, e 16, e 17, e 18, e 19, e 20, e 21, e 22, e 23, e 24, e 25, e 26, e 27, e 28, e 29, e 30, e 31, e 32, e 33, e 34, e 35, e 36, e 37, e 38, e 39, e 40, e 41, e 42, e 43, e 44, e 45, e 46, e 47, e 48, e 49, e 50, e 51, e 52, e 53, e 54, e 55, e 56, e 57, e 58, e 59, e 60, e 61, e 62, e 63, e 64, e 65, e 66, e 67, e 68, e 69, e 70, e 71, e 72, e 73, e 74, e 75, e 76, e 77, e 78, e 79, e 80, e 81, e 82, e 83, e 84, e 85, e 86, e 87, e 88, e 89, e 90, e 91, e 92, e 93, e 94, e 95, e 96, e 97, e 98, e 99, e 100, e 101, e 102, e 103, e 104, e 105, e 106, e 107, e 108, e 109, e 110, e 111, e 112, e 113, e 114, e 115, e 116, e 117, e 118, e 119, e 120, e 121, e 122, e 123, e 124, e 125, e 126, e 127, e 128, e 129, e 130, e 131, e 132, e 133, e 134, e 135, e 136, e 137, e 138, e 139, e 140, e 141, e 142], []⟩ W := by
  have HQ := Lib.hid hQ
  have HT := Lib.hid htab
  have HN := Lib.hid hnone
  have HT2 := Lib.hid (ex2.tree W)
  clear hQ htab hnone
  conv => arg 2; whnf
  go_upto_region 9 with (first | (go_at_call 11; go_loud (refine HT2.out.mono ?_; rintro ee w1 ⟨cs1, rfl, hn1, hb1⟩; have HB1 := Lib.hid hb1; have HC1 := Lib.hid (ex2.all (NdAt.mono (fun _ _ => trivial) hn1) (tabs_below HT.out HN.out hb1) (HN.out.below hb1)); clear hn1 hb1)) | (go_at_call 13; go_loud (refine HC1.out.mono ?_; rintro ee w2 ⟨v2, rfl, hx2, hb2⟩; have HX2 := Lib.hid hx2; have HB2 := Lib.hid (HB1.out.trans (hb2.mono HB1.out.size)); clear hx2 hb2)))
  obtain ⟨g, off, cap, e1, -, -, -, hgz2, -⟩ := HX2.out.cells (by decide)
  have e2 : v2 = .slice (some ⟨g, off, none⟩) 6 cap := e1
  subst e2
  have HT4 := Lib.hid (ex4.tree w2)
  go_upto_region 10 with (first | (go_at_call 11; go_loud (refine HT4.out.mono ?_; rintro ee w3 ⟨cs3, rfl, hn3, hb3⟩; have HB3 := Lib.hid (HB2.out.trans (hb3.mono HB2.out.size)); have HB3' := Lib.hid hb3; have HC3 := Lib.hid (ex4.whole find4 (NdAt.mono (fun _ _ => trivial) hn3) (tabs_below HT.out HN.out (HB2.out.trans (hb3.mono HB2.out.size))) (HN.out.below (HB2.out.trans (hb3.mono HB2.out.size)))); clear hn3 hb3)) | (go_at_call 15; go_loud (refine HC3.out.mono ?_; rintro ee w4 ⟨v4, rfl, hx4, hb4⟩; have HX4 := Lib.hid hx4; have HB4 := Lib.hid (HB3.out.trans (hb4.mono HB3.out.size)); have HB24 := Lib.hid (HB3'.out.trans (hb4.mono HB3'.out.size)); clear hx4 hb4)))
  have HT6 := Lib.hid (ex6.tree w4)
  go_upto_region 11 with (first | (go_at_call 11; go_loud (refine HT6.out.mono ?_; rintro ee w5 ⟨cs5, rfl, hn5, hb5⟩; have HB5 := Lib.hid (HB4.out.trans (hb5.mono HB4.out.size)); have HB5' := Lib.hid hb5; have HC5 := Lib.hid (ex6.first find6 (NdAt.mono (fun _ _ => trivial) hn5) (tabs_below HT.out HN.out (HB4.out.trans (hb5.mono HB4.out.size))) (HN.out.below (HB4.out.trans (hb5.mono HB4.out.size)))); clear hn5 hb5)) | (go_at_call 14; go_loud (refine HC5.out.mono ?_; rintro ee w6 ⟨v6, rfl, hx6, hb6⟩; obtain ⟨o6, c6, rfl⟩ := hx6.row.slice; have HX6 := Lib.hid hx6; have HB6 := Lib.hid (HB5.out.trans (hb6.mono HB5.out.size)); have HB46 := Lib.hid (HB5'.out.trans (hb6.mono HB5'.out.size)); clear hx6 hb6)))
  have hBv : Blk (w6.alloc (.cells #[.int .i64 4, .slice o6 2 c6] 43)) w6.heap.size #[.int .i64 4, .slice o6 2 c6] 43 := Blk.new _ _ _
  have hb6a : Below w6.heap.size w6 (w6.alloc (.cells #[.int .i64 4, .slice o6 2 c6] 43)) := (Below.refl _ _).alloc (Nat.le_refl _) _
  have hx6' : SpsAt (fun _ => True) w6 (.slice o6 2 c6) [(1, 4), (4, 4)] := HX6.out
  have hV6 := SpsAt.go hx6' (Kept.of_below hb6a (fun _ => False)) (M := fun _ => True) (fun _ _ h => ⟨id, h⟩)
  have hV4 := SpsAt.go HX4.out (Kept.of_below (HB46.out.trans (hb6a.mono HB46.out.size)) (fun _ => False)) (M := fun _ => True) (fun _ _ h => ⟨id, h⟩)
  have hb26 : Below w2.heap.size w2 w6 := HB24.out.trans (HB46.out.mono HB24.out.size)
  have hV2 : WaysAt (fun _ => True) _ 2 2 (.slice (some ⟨g, off, none⟩) 6 cap) l2A := WaysAt.go HX2.out (Kept.of_below (hb26.trans (hb6a.mono hb26.size)) (fun _ => False)) (fun _ _ h => ⟨id, trivial⟩)
  have hbV : Below W.heap.size W _ := HB6.out.trans (hb6a.mono HB6.out.size)
  generalize (w6.alloc (.cells #[.int .i64 4, .slice o6 2 c6] 43)) = V at hBv hV6 hV4 hV2 hbV ⊢
  rename_i K1 hK1 K2 hK2
  have tail : ∀ (m : List Value) (w' : World), m.length = 143 → m[5]? = some (.slice (some ⟨g, off, none⟩) 6 cap) → Below V.heap.size V w' → K1 ⟨m.toArray, []⟩ w' := by
    intro m w' hm h5 hb
    refine hK1 _ _ ?_
    obtain ⟨e', rfl⟩ := frame143 hm
    have h5 := Option.some.inj h5
    rw [h5]
    exact aw_tail e' (WaysAt.go hV2 (Kept.of_below hb (fun _ => False)) (fun _ _ h => ⟨id, h⟩)) (fun m w'' k0 k1 k2 => HQ.out m w'' k0 k1 (hbV.trans ((hb.mono hbV.size).trans (k2.mono (Nat.le_trans hbV.size hb.size)))))
  have TAIL := Lib.hid tail
  have eq1 : Calls Tryz.prog 20 #[v4, .slice (some ⟨V.heap.size, 0, none⟩) 2 2] (V.alloc (.cells #[.int .i64 1, .int .i64 2, .int .i64 0, .int .i64 1] 57)) (Eqs true (V.alloc (.cells #[.int .i64 1, .int .i64 2, .int .i64 0, .int .i64 1] 57))) := by
    have k : Kept (fun _ => False) V (V.alloc (.cells #[.int .i64 1, .int .i64 2, .int .i64 0, .int .i64 1] 57)) := (Kept.refl _ _).alloc _
    have := equalS_any (SpsAt.go hV4 k (M := fun _ => True) (fun _ _ h => ⟨id, h⟩)) (SpsAt.lit2 (Blk.new V #[.int .i64 1, .int .i64 2, .int .i64 0, .int .i64 1] 57) ⟨by decide, by decide⟩ ⟨by decide, by decide⟩ ⟨by decide, by decide⟩ ⟨by decide, by decide⟩) (by simp) (by simp)
    rw [decide_eq_true rfl] at this
    exact this
  have eq2 : ∀ w', Below V.heap.size V w' → Calls Tryz.prog 20 #[.slice o6 2 c6, .slice (some ⟨w'.heap.size, 0, none⟩) 2 2] (w'.alloc (.cells #[.int .i64 1, .int .i64 4, .int .i64 4, .int .i64 4] 57)) (Eqs true (w'.alloc (.cells #[.int .i64 1, .int .i64 4, .int .i64 4, .int .i64 4] 57))) := by
    intro w' hb
    have k : Kept (fun _ => False) V (w'.alloc (.cells #[.int .i64 1, .int .i64 4, .int .i64 4, .int .i64 4] 57)) := (Kept.of_below hb _).alloc _
    have := equalS_any (SpsAt.go hV6 k (M := fun _ => True) (fun _ _ h => ⟨id, h⟩)) (SpsAt.lit2 (Blk.new w' #[.int .i64 1, .int .i64 4, .int .i64 4, .int .i64 4] 57) ⟨by decide, by decide⟩ ⟨by decide, by decide⟩ ⟨by decide, by decide⟩ ⟨by decide, by decide⟩) (by simp) (by simp)
    rw [decide_eq_true rfl] at this
    exact this
  have hbV1 : Below V.heap.size V (V.alloc (.cells #[.int .i64 1, .int .i64 2, .int .i64 0, .int .i64 1] 57)) := (Below.refl _ _).alloc (Nat.le_refl _) _
  have EQ1 := Lib.hid eq1
  have EQ2 := Lib.hid eq2
  have HBV := Lib.hid hBv
  have HBV1 := Lib.hid hbV1
  have b0 := hBv.cell 0
  have b1 := hBv.cell 1
  have bz := hBv.lt
  clear tail hK1 hV6 hV4 hV2 hbV hb26 hx6' hb6a hBv eq1 eq2 hbV1 HQ HT HN HT2 HT4 HT6 HC1 HC3 HC5 HB1 HB2 HB3 HB3' HB4 HB24 HB5 HB5' HB6 HB46 HX2 HX4 HX6 hgz2
  go_wp2_with (first | (go_at_call 20; (refine (EQ2.out _ HB7.out).mono ?_; rintro ee w8 ⟨rfl, hb8⟩; have HB8 := Lib.hid ((HB7.out.alloc HB7.out.size _).trans (hb8.mono (by have := HB7.out.size; simp; omega))); clear hb8)) | (go_at_call 20; go_loud (refine EQ1.out.mono ?_; rintro ee w7 ⟨rfl, hb7⟩; have HB7 := Lib.hid (HBV1.out.trans (hb7.mono HBV1.out.size)); have B := HBV.out.below HB7.out HBV.out.lt; have d0 := B.cell 0; have d1 := B.cell 1; have dz := B.lt; clear B hb7)))
  exact TAIL.out _ _ rfl rfl HB8.out
theorem rowInts {w : World} {b : Nat} {T : TypeId} {l : List Nat} (hB : Blk w b (intCs l).toArray T) (hl : l.length ≤ 1000) : Row (fun _ => True) w (.slice (some ⟨b, 0, none⟩) l.length l.length) l.length 1 (intCs l) := by
  refine ⟨intCs_len l, ?_⟩
  by_cases h0 : l.length = 0
  · exact .inl ⟨h0, _, _, by rw [h0]⟩
  · refine .inr ⟨b, 0, l.length, rfl, Nat.le_refl _, by unfold maxLen; omega, trivial, hB.lt, fun j hj => ?_⟩
    rw [Nat.zero_add, hB.cell]
    simp
theorem lenStop {l : List Wy.Way} {m : List Nat} (h : l.map Wy.Way.stop = m) : l.length = m.length := by rw [← h, List.length_map]
theorem rowInts' {w : World} {b : Nat} {T : TypeId} {l : List Wy.Way} {m : List Nat} (h : l.map Wy.Way.stop = m) (hB : Blk w b (intCs m).toArray T) (hl : m.length ≤ 1000) : Row (fun _ => True) w (.slice (some ⟨b, 0, none⟩) l.length l.length) l.length 1 (intCs (l.map Wy.Way.stop)) := by
  rw [lenStop h, h]
  exact rowInts hB hl
set_option maxHeartbeats 8000000 in
set_option maxRecDepth 100000 in
theorem aw_exit1 {T : Nat} {W : World} {J : Act → World → Prop} {Q : Exit → Act → World → Prop} (e : Nat → Value)
    (hJ : ∀ (m : List Value), m.length = 143 → Q (.exit 0) ⟨m.toArray, []⟩ W) :
    Code.wp Tryz.prog (awC [1, 0, 1, 0, 0]) (Exit.then J Q) ⟨#[e 0, e 1, e 2, e 3, e 4, e 5, e 6, e 7, e 8, e 9, e 10, e 11, e 12, e 13, e 14, e 15, e 16, e 17, e 18, e 19, e 20, e 21, e 22, e 23, e 24, .slice (some ⟨T, 0, none⟩) 5 5, .int .i64 5, .int .i64 5, e 28, e 29, e 30, e 31, e 32, e 33, e 34, e 35, e 36, e 37, e 38, e 39, e 40, e 41, e 42, e 43, e 44, e 45, e 46, e 47, e 48, e 49, e 50, e 51, e 52, e 53, e 54, e 55, e 56, e 57, e 58, e 59, e 60, e 61, e 62, e 63, e 64, e 65, e 66, e 67, e 68, e 69, e 70, e 71, e 72, e 73, e 74, e 75, e 76, e 77, e 78, e 79, e 80, e 81, e 82, e 83, e 84, e 85, e 86, e 87, e 88, e 89, e 90, e 91, e 92, e 93, e 94, e 95, e 96, e 97, e 98, e 99, e 100, e 101, e 102, e 103, e 104, e 105, e 106, e 107, e 108, e 109, e 110, e 111, e 112, e 113, e 114, e 115, e 116, e 117, e 118, e 119, e 120, e 121, e 122, e 123, e 124, e 125, e 126, e 127, e 128, e 129, e 130, e 131, e 132, e 133, e 134, e 135, e 136, e 137, e 138, e 139, e 140, e 141, e 142], []⟩ W := by
  have HJ := Lib.hid hJ
  clear hJ
  conv => arg 2; whnf
  go_wp2_with fail
  exact HJ.out _ rfl
def Aw1 (T : Nat) (W1 : World) (n : Nat) (a : Act) (w : World) : Prop := ∃ (m : List Value) (i : Nat), a = ⟨m.toArray, []⟩ ∧ m.length = 143 ∧ m[25]? = some (.slice (some ⟨T, 0, none⟩) 5 5) ∧ m[26]? = some (.int .i64 5) ∧ m[27]? = some (.int .i64 i) ∧ i ≤ 5 ∧ n = 5 - i ∧ Below W1.heap.size W1 w
theorem aw_loop1 {T n : Nat} {W1 w : World} {a : Act} {Q : Exit → Act → World → Prop} (hI : Aw1 T W1 n a w) (cz : T < W1.heap.size) (ht : Lib.Utf8Tabs 0 1 W1) (hn : NoneAt W1)
    (htab : ∀ i, i < 5 → ∃ (p s : ByteArray) (t : Nd) (l : List Wy.Way) (b : Nat), Ex p s t l ∧ W1.cell? ⟨T, i * 3, none⟩ = some (.string p) ∧ W1.cell? ⟨T, i * 3 + 1, none⟩ = some (.string s) ∧ W1.cell? ⟨T, i * 3 + 2, none⟩ = some (.slice (some ⟨b, 0, none⟩) l.length l.length) ∧ Row (fun _ => True) W1 (.slice (some ⟨b, 0, none⟩) l.length l.length) l.length 1 (intCs (l.map Wy.Way.stop)))
    (hQ : ∀ (m : List Value) (w' : World), m.length = 143 → Below W1.heap.size W1 w' → Q (.exit 0) ⟨m.toArray, []⟩ w') :
    Code.wp Tryz.prog (awC [1, 0, 1, 0, 0]) (Exit.then (fun a' w' => ∃ n', n' < n ∧ Aw1 T W1 n' a' w') Q) a w := by
  obtain ⟨m, i, rfl, hl, h25, h26, h27, hi, hnn, hb⟩ := hI
  obtain ⟨e, rfl⟩ := frame143 hl
  have h25 := Option.some.inj h25
  have h26 := Option.some.inj h26
  have h27 := Option.some.inj h27
  rw [h25, h26, h27]
  by_cases h5 : i < 5
  · obtain ⟨p, s, t, l, b, hex, c0, c1, c2, hr⟩ := htab i h5
    exact aw_round1 e h5 hex (tabs_below ht hn hb) (hn.below hb) ((hb.cell (p := ⟨T, i * 3, none⟩) cz).trans c0) ((hb.cell (p := ⟨T, i * 3 + 1, none⟩) cz).trans c1) ((hb.cell (p := ⟨T, i * 3 + 2, none⟩) cz).trans c2) (Nat.lt_of_lt_of_le cz hb.size) (RowGo hr (Kept.of_below hb (fun _ => False)) (fun _ _ h => ⟨id, h⟩))
      (fun m w' k0 k1 k2 k3 k4 => ⟨5 - (i + 1), by omega, m, i + 1, rfl, k0, k1, k2, k3, by omega, rfl, hb.trans (k4.mono hb.size)⟩)
  · obtain rfl : i = 5 := by omega
    exact aw_exit1 e (fun m k0 => hQ m w k0 hb)
set_option maxHeartbeats 8000000 in
set_option maxRecDepth 100000 in
theorem awake_any (w : World) (htab : Lib.Utf8Tabs 0 1 w) (hnone : NoneAt w) : Calls Tryz.prog 10 #[] w fun e w' => e = .returned (.bool true) ∧ Below w.heap.size w w' := by
  have hB0 : Blk ((((((w.alloc (.cells #[.int .i64 1, .int .i64 2] 3)).alloc (.cells #[.int .i64 2, .int .i64 2, .int .i64 1, .int .i64 2, .int .i64 1, .int .i64 0] 3)).alloc (.cells #[.int .i64 0, .int .i64 1, .int .i64 2] 3)).alloc (.cells #[.int .i64 2, .int .i64 1, .int .i64 0] 3)).alloc (.cells #[.int .i64 4, .int .i64 2] 3)).alloc (.cells #[.string ⟨#[97, 124, 97, 98]⟩, .string ⟨#[97, 98, 99]⟩, .slice (some ⟨w.heap.size, 0, none⟩) 2 2, .string ⟨#[40, 97, 42, 41, 40, 97, 42, 41]⟩, .string ⟨#[97, 97]⟩, .slice (some ⟨w.heap.size + 1, 0, none⟩) 6 6, .string ⟨#[97, 42, 63]⟩, .string ⟨#[97, 97]⟩, .slice (some ⟨w.heap.size + 1 + 1, 0, none⟩) 3 3, .string ⟨#[40, 97, 124, 40, 98, 41, 41, 42]⟩, .string ⟨#[98, 97]⟩, .slice (some ⟨w.heap.size + 1 + 1 + 1, 0, none⟩) 3 3, .string ⟨#[195, 169, 43]⟩, .string ⟨#[195, 169, 195, 169]⟩, .slice (some ⟨w.heap.size + 1 + 1 + 1 + 1, 0, none⟩) 2 2] 95)) (w.heap.size) #[.int .i64 1, .int .i64 2] 3 := ((((((Blk.new _ _ _).alloc _).alloc _).alloc _).alloc _).alloc _)
  have hB1 : Blk ((((((w.alloc (.cells #[.int .i64 1, .int .i64 2] 3)).alloc (.cells #[.int .i64 2, .int .i64 2, .int .i64 1, .int .i64 2, .int .i64 1, .int .i64 0] 3)).alloc (.cells #[.int .i64 0, .int .i64 1, .int .i64 2] 3)).alloc (.cells #[.int .i64 2, .int .i64 1, .int .i64 0] 3)).alloc (.cells #[.int .i64 4, .int .i64 2] 3)).alloc (.cells #[.string ⟨#[97, 124, 97, 98]⟩, .string ⟨#[97, 98, 99]⟩, .slice (some ⟨w.heap.size, 0, none⟩) 2 2, .string ⟨#[40, 97, 42, 41, 40, 97, 42, 41]⟩, .string ⟨#[97, 97]⟩, .slice (some ⟨w.heap.size + 1, 0, none⟩) 6 6, .string ⟨#[97, 42, 63]⟩, .string ⟨#[97, 97]⟩, .slice (some ⟨w.heap.size + 1 + 1, 0, none⟩) 3 3, .string ⟨#[40, 97, 124, 40, 98, 41, 41, 42]⟩, .string ⟨#[98, 97]⟩, .slice (some ⟨w.heap.size + 1 + 1 + 1, 0, none⟩) 3 3, .string ⟨#[195, 169, 43]⟩, .string ⟨#[195, 169, 195, 169]⟩, .slice (some ⟨w.heap.size + 1 + 1 + 1 + 1, 0, none⟩) 2 2] 95)) (w.heap.size + 1) #[.int .i64 2, .int .i64 2, .int .i64 1, .int .i64 2, .int .i64 1, .int .i64 0] 3 := (((((Blk.new' _ _ (by simp)).alloc _).alloc _).alloc _).alloc _)
  have hB2 : Blk ((((((w.alloc (.cells #[.int .i64 1, .int .i64 2] 3)).alloc (.cells #[.int .i64 2, .int .i64 2, .int .i64 1, .int .i64 2, .int .i64 1, .int .i64 0] 3)).alloc (.cells #[.int .i64 0, .int .i64 1, .int .i64 2] 3)).alloc (.cells #[.int .i64 2, .int .i64 1, .int .i64 0] 3)).alloc (.cells #[.int .i64 4, .int .i64 2] 3)).alloc (.cells #[.string ⟨#[97, 124, 97, 98]⟩, .string ⟨#[97, 98, 99]⟩, .slice (some ⟨w.heap.size, 0, none⟩) 2 2, .string ⟨#[40, 97, 42, 41, 40, 97, 42, 41]⟩, .string ⟨#[97, 97]⟩, .slice (some ⟨w.heap.size + 1, 0, none⟩) 6 6, .string ⟨#[97, 42, 63]⟩, .string ⟨#[97, 97]⟩, .slice (some ⟨w.heap.size + 1 + 1, 0, none⟩) 3 3, .string ⟨#[40, 97, 124, 40, 98, 41, 41, 42]⟩, .string ⟨#[98, 97]⟩, .slice (some ⟨w.heap.size + 1 + 1 + 1, 0, none⟩) 3 3, .string ⟨#[195, 169, 43]⟩, .string ⟨#[195, 169, 195, 169]⟩, .slice (some ⟨w.heap.size + 1 + 1 + 1 + 1, 0, none⟩) 2 2] 95)) (w.heap.size + 1 + 1) #[.int .i64 0, .int .i64 1, .int .i64 2] 3 := ((((Blk.new' _ _ (by simp)).alloc _).alloc _).alloc _)
  have hB3 : Blk ((((((w.alloc (.cells #[.int .i64 1, .int .i64 2] 3)).alloc (.cells #[.int .i64 2, .int .i64 2, .int .i64 1, .int .i64 2, .int .i64 1, .int .i64 0] 3)).alloc (.cells #[.int .i64 0, .int .i64 1, .int .i64 2] 3)).alloc (.cells #[.int .i64 2, .int .i64 1, .int .i64 0] 3)).alloc (.cells #[.int .i64 4, .int .i64 2] 3)).alloc (.cells #[.string ⟨#[97, 124, 97, 98]⟩, .string ⟨#[97, 98, 99]⟩, .slice (some ⟨w.heap.size, 0, none⟩) 2 2, .string ⟨#[40, 97, 42, 41, 40, 97, 42, 41]⟩, .string ⟨#[97, 97]⟩, .slice (some ⟨w.heap.size + 1, 0, none⟩) 6 6, .string ⟨#[97, 42, 63]⟩, .string ⟨#[97, 97]⟩, .slice (some ⟨w.heap.size + 1 + 1, 0, none⟩) 3 3, .string ⟨#[40, 97, 124, 40, 98, 41, 41, 42]⟩, .string ⟨#[98, 97]⟩, .slice (some ⟨w.heap.size + 1 + 1 + 1, 0, none⟩) 3 3, .string ⟨#[195, 169, 43]⟩, .string ⟨#[195, 169, 195, 169]⟩, .slice (some ⟨w.heap.size + 1 + 1 + 1 + 1, 0, none⟩) 2 2] 95)) (w.heap.size + 1 + 1 + 1) #[.int .i64 2, .int .i64 1, .int .i64 0] 3 := (((Blk.new' _ _ (by simp)).alloc _).alloc _)
  have hB4 : Blk ((((((w.alloc (.cells #[.int .i64 1, .int .i64 2] 3)).alloc (.cells #[.int .i64 2, .int .i64 2, .int .i64 1, .int .i64 2, .int .i64 1, .int .i64 0] 3)).alloc (.cells #[.int .i64 0, .int .i64 1, .int .i64 2] 3)).alloc (.cells #[.int .i64 2, .int .i64 1, .int .i64 0] 3)).alloc (.cells #[.int .i64 4, .int .i64 2] 3)).alloc (.cells #[.string ⟨#[97, 124, 97, 98]⟩, .string ⟨#[97, 98, 99]⟩, .slice (some ⟨w.heap.size, 0, none⟩) 2 2, .string ⟨#[40, 97, 42, 41, 40, 97, 42, 41]⟩, .string ⟨#[97, 97]⟩, .slice (some ⟨w.heap.size + 1, 0, none⟩) 6 6, .string ⟨#[97, 42, 63]⟩, .string ⟨#[97, 97]⟩, .slice (some ⟨w.heap.size + 1 + 1, 0, none⟩) 3 3, .string ⟨#[40, 97, 124, 40, 98, 41, 41, 42]⟩, .string ⟨#[98, 97]⟩, .slice (some ⟨w.heap.size + 1 + 1 + 1, 0, none⟩) 3 3, .string ⟨#[195, 169, 43]⟩, .string ⟨#[195, 169, 195, 169]⟩, .slice (some ⟨w.heap.size + 1 + 1 + 1 + 1, 0, none⟩) 2 2] 95)) (w.heap.size + 1 + 1 + 1 + 1) #[.int .i64 4, .int .i64 2] 3 := ((Blk.new' _ _ (by simp)).alloc _)
  have hB5 : Blk ((((((w.alloc (.cells #[.int .i64 1, .int .i64 2] 3)).alloc (.cells #[.int .i64 2, .int .i64 2, .int .i64 1, .int .i64 2, .int .i64 1, .int .i64 0] 3)).alloc (.cells #[.int .i64 0, .int .i64 1, .int .i64 2] 3)).alloc (.cells #[.int .i64 2, .int .i64 1, .int .i64 0] 3)).alloc (.cells #[.int .i64 4, .int .i64 2] 3)).alloc (.cells #[.string ⟨#[97, 124, 97, 98]⟩, .string ⟨#[97, 98, 99]⟩, .slice (some ⟨w.heap.size, 0, none⟩) 2 2, .string ⟨#[40, 97, 42, 41, 40, 97, 42, 41]⟩, .string ⟨#[97, 97]⟩, .slice (some ⟨w.heap.size + 1, 0, none⟩) 6 6, .string ⟨#[97, 42, 63]⟩, .string ⟨#[97, 97]⟩, .slice (some ⟨w.heap.size + 1 + 1, 0, none⟩) 3 3, .string ⟨#[40, 97, 124, 40, 98, 41, 41, 42]⟩, .string ⟨#[98, 97]⟩, .slice (some ⟨w.heap.size + 1 + 1 + 1, 0, none⟩) 3 3, .string ⟨#[195, 169, 43]⟩, .string ⟨#[195, 169, 195, 169]⟩, .slice (some ⟨w.heap.size + 1 + 1 + 1 + 1, 0, none⟩) 2 2] 95)) (w.heap.size + 1 + 1 + 1 + 1 + 1) #[.string ⟨#[97, 124, 97, 98]⟩, .string ⟨#[97, 98, 99]⟩, .slice (some ⟨w.heap.size, 0, none⟩) 2 2, .string ⟨#[40, 97, 42, 41, 40, 97, 42, 41]⟩, .string ⟨#[97, 97]⟩, .slice (some ⟨w.heap.size + 1, 0, none⟩) 6 6, .string ⟨#[97, 42, 63]⟩, .string ⟨#[97, 97]⟩, .slice (some ⟨w.heap.size + 1 + 1, 0, none⟩) 3 3, .string ⟨#[40, 97, 124, 40, 98, 41, 41, 42]⟩, .string ⟨#[98, 97]⟩, .slice (some ⟨w.heap.size + 1 + 1 + 1, 0, none⟩) 3 3, .string ⟨#[195, 169, 43]⟩, .string ⟨#[195, 169, 195, 169]⟩, .slice (some ⟨w.heap.size + 1 + 1 + 1 + 1, 0, none⟩) 2 2] 95 := Blk.new' _ _ (by simp)
  have hbV : Below w.heap.size w ((((((w.alloc (.cells #[.int .i64 1, .int .i64 2] 3)).alloc (.cells #[.int .i64 2, .int .i64 2, .int .i64 1, .int .i64 2, .int .i64 1, .int .i64 0] 3)).alloc (.cells #[.int .i64 0, .int .i64 1, .int .i64 2] 3)).alloc (.cells #[.int .i64 2, .int .i64 1, .int .i64 0] 3)).alloc (.cells #[.int .i64 4, .int .i64 2] 3)).alloc (.cells #[.string ⟨#[97, 124, 97, 98]⟩, .string ⟨#[97, 98, 99]⟩, .slice (some ⟨w.heap.size, 0, none⟩) 2 2, .string ⟨#[40, 97, 42, 41, 40, 97, 42, 41]⟩, .string ⟨#[97, 97]⟩, .slice (some ⟨w.heap.size + 1, 0, none⟩) 6 6, .string ⟨#[97, 42, 63]⟩, .string ⟨#[97, 97]⟩, .slice (some ⟨w.heap.size + 1 + 1, 0, none⟩) 3 3, .string ⟨#[40, 97, 124, 40, 98, 41, 41, 42]⟩, .string ⟨#[98, 97]⟩, .slice (some ⟨w.heap.size + 1 + 1 + 1, 0, none⟩) 3 3, .string ⟨#[195, 169, 43]⟩, .string ⟨#[195, 169, 195, 169]⟩, .slice (some ⟨w.heap.size + 1 + 1 + 1 + 1, 0, none⟩) 2 2] 95)) := (((((((Below.refl _ _).alloc (Nat.le_refl _) _).alloc (by simp) _).alloc (by simp; omega) _).alloc (by simp; omega) _).alloc (by simp; omega) _).alloc (by simp; omega) _)
  have HT := Lib.hid htab
  have HN := Lib.hid hnone
  obtain ⟨V, hV⟩ : ∃ V, V = ((((((w.alloc (.cells #[.int .i64 1, .int .i64 2] 3)).alloc (.cells #[.int .i64 2, .int .i64 2, .int .i64 1, .int .i64 2, .int .i64 1, .int .i64 0] 3)).alloc (.cells #[.int .i64 0, .int .i64 1, .int .i64 2] 3)).alloc (.cells #[.int .i64 2, .int .i64 1, .int .i64 0] 3)).alloc (.cells #[.int .i64 4, .int .i64 2] 3)).alloc (.cells #[.string ⟨#[97, 124, 97, 98]⟩, .string ⟨#[97, 98, 99]⟩, .slice (some ⟨w.heap.size, 0, none⟩) 2 2, .string ⟨#[40, 97, 42, 41, 40, 97, 42, 41]⟩, .string ⟨#[97, 97]⟩, .slice (some ⟨w.heap.size + 1, 0, none⟩) 6 6, .string ⟨#[97, 42, 63]⟩, .string ⟨#[97, 97]⟩, .slice (some ⟨w.heap.size + 1 + 1, 0, none⟩) 3 3, .string ⟨#[40, 97, 124, 40, 98, 41, 41, 42]⟩, .string ⟨#[98, 97]⟩, .slice (some ⟨w.heap.size + 1 + 1 + 1, 0, none⟩) 3 3, .string ⟨#[195, 169, 43]⟩, .string ⟨#[195, 169, 195, 169]⟩, .slice (some ⟨w.heap.size + 1 + 1 + 1 + 1, 0, none⟩) 2 2] 95)) := ⟨_, rfl⟩
  rw [← hV] at hB0 hB1 hB2 hB3 hB4 hB5 hbV
  have tab : ∀ i, i < 5 → ∃ (p s : ByteArray) (t : Nd) (l : List Wy.Way) (b : Nat), Ex p s t l ∧ V.cell? ⟨w.heap.size + 1 + 1 + 1 + 1 + 1, i * 3, none⟩ = some (.string p) ∧ V.cell? ⟨w.heap.size + 1 + 1 + 1 + 1 + 1, i * 3 + 1, none⟩ = some (.string s) ∧ V.cell? ⟨w.heap.size + 1 + 1 + 1 + 1 + 1, i * 3 + 2, none⟩ = some (.slice (some ⟨b, 0, none⟩) l.length l.length) ∧ Row (fun _ => True) V (.slice (some ⟨b, 0, none⟩) l.length l.length) l.length 1 (intCs (l.map Wy.Way.stop)) := by
    intro i hi
    match i, hi with
    | 0, _ => exact ⟨_, _, _, _, w.heap.size, ex1, hB5.cell 0, hB5.cell 1, (hB5.cell 2).trans (by rw [lenStop stops1]; rfl), rowInts' stops1 hB0 (by decide)⟩
    | 1, _ => exact ⟨_, _, _, _, w.heap.size + 1, ex2, hB5.cell 3, hB5.cell 4, (hB5.cell 5).trans (by rw [lenStop stops2]; rfl), rowInts' stops2 hB1 (by decide)⟩
    | 2, _ => exact ⟨_, _, _, _, w.heap.size + 1 + 1, ex3, hB5.cell 6, hB5.cell 7, (hB5.cell 8).trans (by rw [lenStop stops3]; rfl), rowInts' stops3 hB2 (by decide)⟩
    | 3, _ => exact ⟨_, _, _, _, w.heap.size + 1 + 1 + 1, ex4, hB5.cell 9, hB5.cell 10, (hB5.cell 11).trans (by rw [lenStop stops4]; rfl), rowInts' stops4 hB3 (by decide)⟩
    | 4, _ => exact ⟨_, _, _, _, w.heap.size + 1 + 1 + 1 + 1, ex5, hB5.cell 12, hB5.cell 13, (hB5.cell 14).trans (by rw [lenStop stops5]; rfl), rowInts' stops5 hB4 (by decide)⟩
  have TAB := Lib.hid tab
  have htV := tabs_below htab hnone hbV
  have hnV := hnone.below hbV
  have hz := hB5.lt
  have HTV := Lib.hid htV
  have HNV := Lib.hid hnV
  have HBV := Lib.hid hbV
  have HV := Lib.hid hV
  clear hB0 hB1 hB2 hB3 hB4 hB5 hbV tab htV hnV htab hnone hV
  go_enter Tryz.func10, Tryz.ntmps10
  go_wp2_with fail
  rw [← HV.out]
  rename_i K1 hK1
  refine wp_loop_ghost (Aw1 (w.heap.size + 1 + 1 + 1 + 1 + 1) V) 5 ?_ (fun n a w' hI => aw_loop1 hI hz HTV.out HNV.out TAB.out ?_)
  · exact ⟨_, 0, rfl, rfl, rfl, rfl, rfl, by omega, rfl, Below.refl _ _⟩
  · intro m w5 hm hb
    obtain ⟨e', rfl⟩ := frame143 hm
    refine hK1 _ _ (aw_mid e' (tabs_below HTV.out HNV.out hb) (HNV.out.below hb) ?_)
    intro m' w6 hm' h0 hb6
    obtain ⟨e6, rfl⟩ := frame143 hm'
    have h0 := Option.some.inj h0
    exact bodyPost_ret (v := .bool true) (by simp [results, Tryz.results10, go_sem, h0]) rfl ⟨rfl, HBV.out.trans ((hb.mono HBV.out.size).trans (hb6.mono (Nat.le_trans HBV.out.size hb.size)))⟩
end Go.Proofs.YtnhjakdmbfadlaaGreatDoor

/- What the laws' calls hand back, in one form whether there are too many ways or not. -/
namespace Go.Proofs.YtnhjakdmbfadlaaGreatDoor
open Go.RowKit Wy Mem Grow

theorem nodesL_drop_take (l : List Nd) (k : Nat) : nodesL (l.take k) + nodesL (l.drop k) = nodesL l := by
  rw [← nodesL_append, List.take_append_drop]
theorem nodes_last {l : List Nd} (h : l ≠ []) : nodesL l.dropLast + nodes (l.getLastD emptyT) = nodesL l := by
  have e := last_split h
  conv => rhs; rw [e]
  rw [nodesL_append, nodesL_one]
theorem nodes_step (l : List Nd) (x : Sm) : nodesL (Wy.stepT l x) ≤ nodesL l + 1 := by
  by_cases h0 : x.kind % 10 = 0
  · rw [stepT_A h0, nodesL_append, nodesL_one]
    simp [emptyT, nodes, nodesL]
  by_cases h1 : x.kind % 10 < 5 ∨ l = []
  · rw [stepT_B h0 h1, nodesL_append, nodesL_one]
    simp [leafT, nodes, nodesL]
  have hl : l ≠ [] := fun e => h1 (.inr e)
  have hnl := nodes_last hl
  by_cases h2 : x.kind % 10 = 5
  · rw [stepT_C hl h2, nodesL_append, nodesL_one]
    simp only [nodes, nodesL]
    omega
  by_cases h3 : x.kind % 10 < 8 ∨ l.length < 2
  · rw [stepT_D hl (by omega) h3, nodesL_append, nodesL_one]
    simp only [repT, nodes, nodesL]
    omega
  · rw [stepT_E (by omega) (by omega), nodesL_append, nodesL_one]
    have := nodesL_drop_take l (l.length - 2 - x.a % 2)
    simp only [nodes]
    omega
theorem nodes_fold : ∀ (L : List Sm) (l : List Nd), nodesL (L.foldl Wy.stepT l) ≤ nodesL l + L.length
  | [], l => by simp
  | x :: r, l => by
    have h1 := nodes_step l x
    have h2 := nodes_fold r (Wy.stepT l x)
    simp only [List.foldl_cons, List.length_cons]
    omega
theorem nodes_made (L : List Sm) : nodes (madeT L) ≤ 21 := by
  have h := nodes_fold (L.take 20) []
  have hl : (L.take 20).length ≤ 20 := by rw [List.length_take]; omega
  unfold madeT
  generalize (L.take 20).foldl Wy.stepT [] = l at h
  have h0 : nodesL ([] : List Nd) = 0 := rfl
  rcases l with _ | ⟨t, _ | ⟨t2, r⟩⟩
  · simp [oneT, emptyT, nodes, nodesL]
  · rw [nodesL_one] at h
    show nodes t ≤ 21
    omega
  · show nodes (.mk 3 [] 0 0 false (t :: t2 :: r)) ≤ 21
    simp only [nodes]
    omega
theorem take_le20 (L : List Sm) (k : Nat) : ((L.take k).take 20).length ≤ k := by rw [List.length_take, List.length_take]; omega
/-- the error's number -/
def erW (s : ByteArray) (t : Nd) : Int := if (Wy.ways (strS s) t).isSome then 0 else 5
def Alu (s : ByteArray) (t : Nd) (w : World) (e : Ending) (w' : World) : Prop := ∃ o c, e = .returned (.tuple #[.slice o (lA s t).length c, .int .i64 (erW s t)]) ∧ WaysAt (fun _ => True) w' (opened t) s.size (.slice o (lA s t).length c) (lA s t) ∧ Below w.heap.size w w'
theorem alu_any {w : World} {t : Nd} {cs : List Value} {s : ByteArray} (h : NdAt (fun _ => True) w t cs) (hr : right t = true) (hno : nodes t ≤ 1000000) (hs : s.size ≤ 32) (hv : Lib.validD s.data.toList = true) (htab : Lib.Utf8Tabs 0 1 w) (hnone : NoneAt w) :
    Calls Tryz.prog 13 #[.agg cs.toArray, .string s] w (Alu s t w) :=
  (all_any h hr hno hs hv htab hnone).mono fun e w' ⟨h1, h2⟩ => by
    unfold Alu lA erW
    cases ho : Wy.ways (strS s) t with
    | none =>
      rw [ho] at h2
      exact ⟨none, 0, h2, WaysAt.nil _ _ _ _ _ _, h1⟩
    | some l =>
      rw [ho] at h2
      obtain ⟨v, h3, h4⟩ := h2
      obtain ⟨o, c, rfl⟩ := h4.slice
      exact ⟨o, c, h3, h4.mono (fun _ _ => trivial), h1⟩
theorem lA_len (s : ByteArray) (t : Nd) : (lA s t).length ≤ 500 := by
  unfold lA
  cases ho : Wy.ways (strS s) t with
  | none => simp
  | some l =>
    unfold Wy.ways at ho
    exact wy_len ho
theorem text_size (l : List Nat) (m : Nat) (hm : m ≤ 8) : (strB (textL (l.take m))).size ≤ 24 := by
  rw [strB_size]
  have := textL_len (l.take m)
  have : (l.take m).length ≤ m := by rw [List.length_take]; omega
  omega
theorem text_valid (l : List Nat) : Lib.validD (strB (textL l)).data.toList = true := by
  have : (strB (textL l)).data.toList = textL l := by simp [strB]
  rw [this]
  exact textL_valid l
end Go.Proofs.YtnhjakdmbfadlaaGreatDoor
