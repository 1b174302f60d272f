/- Parts of the proof: Whh. Conditions: none. -/
import Derived.Test.YtnhjakdmbfadlaaGreatDoorY43
import Derived.Test.YtnhjakdmbfadlaaGreatDoorY44
import Derived.Test.YtnhjakdmbfadlaaGreatDoorY45
import Derived.Test.YtnhjakdmbfadlaaGreatDoorY46
set_option linter.all false
/- WaysWhole: the loop over the ways. -/
namespace Go.Proofs.YtnhjakdmbfadlaaGreatDoor
open Go.RowKit Wy Mem Grow

set_option maxHeartbeats 8000000 in
set_option maxRecDepth 100000 in
theorem wh20_out {n j : Nat} {W : World} {J : Act → World → Prop} {Q : Exit → Act → World → Prop} (e : Nat → Value) (hj : j = n) (hn : n ≤ 500) (hJ : ∀ (m : List Value), m.length = 291 → (m[6]? = some (e 6) ∧ m[7]? = some (e 7) ∧ m[9]? = some (e 9) ∧ m[11]? = some (e 11) ∧ m[12]? = some (e 12) ∧ m[14]? = some (e 14) ∧ m[15]? = some (e 15) ∧ m[17]? = some (e 17) ∧ m[19]? = some (e 19) ∧ m[20]? = some (e 20) ∧ m[21]? = some (e 21) ∧ m[139]? = some (e 139) ∧ m[140]? = some (.int .i64 n)) → m[23]? = some (e 23) → Q (.exit 2) ⟨m.toArray, []⟩ W) :
    Code.wp Tryz.prog (whC [1, 1, 1, 1, 1, 1, 1, 1, 1, 1, 1, 1, 1, 1, 0, 1, 0, 0]) (Exit.then J Q) ⟨#[e 0, e 1, e 2, e 3, e 4, e 5, e 6, e 7, e 8, e 9, e 10, e 11, e 12, e 13, e 14, e 15, e 16, e 17, e 18, e 19, e 20, e 21, e 22, e 23, e 24, e 25, e 26, e 27, e 28, e 29, e 30, e 31, e 32, e 33, e 34, e 35, e 36, e 37, e 38, e 39, e 40, e 41, e 42, e 43, e 44, e 45, e 46, e 47, e 48, e 49, e 50, e 51, e 52, e 53, e 54, e 55, e 56, e 57, e 58, e 59, e 60, e 61, e 62, e 63, e 64, e 65, e 66, e 67, e 68, e 69, e 70, e 71, e 72, e 73, e 74, e 75, e 76, e 77, e 78, e 79, e 80, e 81, e 82, e 83, e 84, e 85, e 86, e 87, e 88, e 89, e 90, e 91, e 92, e 93, e 94, e 95, e 96, e 97, e 98, e 99, e 100, e 101, e 102, e 103, e 104, e 105, e 106, e 107, e 108, e 109, e 110, e 111, e 112, e 113, e 114, e 115, e 116, e 117, e 118, e 119, e 120, e 121, e 122, e 123, e 124, e 125, e 126, e 127, e 128, e 129, e 130, e 131, e 132, e 133, e 134, e 135, e 136, e 137, e 138, e 139, .int .i64 n, .int .i64 j, e 142, e 143, e 144, e 145, e 146, e 147, e 148, e 149, e 150, e 151, e 152, e 153, e 154, e 155, e 156, e 157, e 158, e 159, e 160, e 161, e 162, e 163, e 164, e 165, e 166, e 167, e 168, e 169, e 170, e 171, e 172, e 173, e 174, e 175, e 176, e 177, e 178, e 179, e 180, e 181, e 182, e 183, e 184, e 185, e 186, e 187, e 188, e 189, e 190, e 191, e 192, e 193, e 194, e 195, e 196, e 197, e 198, e 199, e 200, e 201, e 202, e 203, e 204, e 205, e 206, e 207, e 208, e 209, e 210, e 211, e 212, e 213, e 214, e 215, e 216, e 217, e 218, e 219, e 220, e 221, e 222, e 223, e 224, e 225, e 226, e 227, e 228, e 229, e 230, e 231, e 232, e 233, e 234, e 235, e 236, e 237, e 238, e 239, e 240, e 241, e 242, e 243, e 244, e 245, e 246, e 247, e 248, e 249, e 250, e 251, e 252, e 253, e 254, e 255, e 256, e 257, e 258, e 259, e 260, e 261, e 262, e 263, e 264, e 265, e 266, e 267, e 268, e 269, e 270, e 271, e 272, e 273, e 274, e 275, e 276, e 277, e 278, e 279, e 280, e 281, e 282, e 283, e 284, e 285, e 286, e 287, e 288, e 289, e 290], []⟩ W := by
  have HJ := Lib.hid hJ
  subst hj
  clear hJ
  conv => arg 2; whnf
  go_wp2_with fail
  exact HJ.out _ rfl ⟨rfl, rfl, rfl, rfl, rfl, rfl, rfl, rfl, rfl, rfl, rfl, rfl, rfl⟩ rfl
/-- what the law knows where it goes through the ways -/
structure WhEnv (s : ByteArray) (P : List Nat) (zs : List Int) (l : List Wy.Way) (G L : Nat) (o7 o9 o11 o21 : Option Addr) (c7 c9 c11 n11 c21 b14 : Nat) (W : World) : Prop where
  ways : WaysAt (fun _ => True) W G L (.slice o7 l.length c7) l
  len : l.length ≤ 500
  size : s.size ≤ 32
  lim : L ≤ 64
  places : Row (fun _ => True) W (.slice o21 P.length c21) P.length 1 (intCs P)
  plen : P.length ≤ 33
  ends : Row (fun _ => True) W (.slice o9 zs.length c9) zs.length 1 (intZs zs)
  zlen : zs.length ≤ 500
  inP : ∀ x ∈ l, WIn (· ∈ P) G 0 x
  inZ : ∀ x ∈ l, (x.stop : Int) ∈ zs
  first : ∀ x, l.head? = some x → ∃ sv, Blk W b14 #[.int .i64 x.stop, sv] 43 ∧ SpsAt (fun _ => True) W sv x.spans
  whole : ∀ x, l.find? (wholeP s) = some x → SpsAt (fun _ => True) W (.slice o11 n11 c11) x.spans
theorem WhEnv.below {s : ByteArray} {P : List Nat} {zs : List Int} {l : List Wy.Way} {G L : Nat} {o7 o9 o11 o21 : Option Addr} {c7 c9 c11 n11 c21 b14 : Nat} {W w' : World} (h : WhEnv s P zs l G L o7 o9 o11 o21 c7 c9 c11 n11 c21 b14 W) (hb : Below W.heap.size W w') : WhEnv s P zs l G L o7 o9 o11 o21 c7 c9 c11 n11 c21 b14 w' :=
  have k := Kept.of_below hb (fun _ => False)
  ⟨h.ways.go k (fun _ _ h => ⟨id, h⟩), h.len, h.size, h.lim, RowGo h.places k (fun _ _ h => ⟨id, h⟩), h.plen, RowGo h.ends k (fun _ _ h => ⟨id, h⟩), h.zlen, h.inP, h.inZ,
    fun x hx => let ⟨sv, h1, h2⟩ := h.first x hx; ⟨sv, h1.below hb h1.lt, h2.kept k (fun _ _ _ => id)⟩, fun x hx => (h.whole x hx).kept k (fun _ _ _ => id)⟩
theorem find_cnt {s : ByteArray} {l : List Wy.Way} {j : Nat} (hj : j < l.length) (he : l[j].stop = s.size) (h0 : cntW s (l.take j) = 0) : l.find? (wholeP s) = some l[j] := by
  refine find_at hj (fun i hi => ?_) (by simp [wholeP, he])
  unfold cntW at h0
  rw [List.countP_eq_zero] at h0
  have := h0 (l[i]'(by omega)) (by rw [List.mem_iff_getElem]; exact ⟨i, by rw [List.length_take]; omega, by rw [List.getElem_take]⟩)
  simpa [wholeP] using this
/-- the loop over the ways: its round's invariant -/
def Wai (s : ByteArray) (l : List Wy.Way) (q : Nat → Value) (W1 : World) (n : Nat) (a : Act) (w : World) : Prop := ∃ (m : List Value) (j : Nat), a = ⟨m.toArray, []⟩ ∧ m.length = 291 ∧ (m[6]? = some (q 6) ∧ m[7]? = some (q 7) ∧ m[9]? = some (q 9) ∧ m[11]? = some (q 11) ∧ m[12]? = some (q 12) ∧ m[14]? = some (q 14) ∧ m[15]? = some (q 15) ∧ m[17]? = some (q 17) ∧ m[19]? = some (q 19) ∧ m[20]? = some (q 20) ∧ m[21]? = some (q 21) ∧ m[139]? = some (q 139) ∧ m[140]? = some (q 140)) ∧ m[23]? = some (.int .i64 (cntW s (l.take j))) ∧ m[141]? = some (.int .i64 j) ∧ j ≤ l.length ∧ n = l.length - j ∧ Below W1.heap.size W1 w
set_option maxHeartbeats 4000000 in
set_option maxRecDepth 100000 in
theorem wh20_loop {s : ByteArray} {P : List Nat} {zs : List Int} {l : List Wy.Way} {G L : Nat} {o7 o9 o11 o21 : Option Addr} {c7 c9 c11 n11 c21 b14 n : Nat} {q : Nat → Value} {W1 w : World} {a : Act} {Q : Exit → Act → World → Prop} (hI : Wai s l q W1 n a w)
    (hE : WhEnv s P zs l G L o7 o9 o11 o21 c7 c9 c11 n11 c21 b14 W1)
    (hq : q 6 = .string s ∧ q 9 = .slice o9 zs.length c9 ∧ q 11 = .slice o11 n11 c11 ∧ q 14 = .pointer (some ⟨b14, 0, none⟩) ∧ q 19 = .int .i64 G ∧ q 21 = .slice o21 P.length c21 ∧ q 139 = .slice o7 l.length c7 ∧ q 140 = .int .i64 l.length)
    (hQ : ∀ (m : List Value) (w' : World), m.length = 291 → (m[6]? = some (q 6) ∧ m[7]? = some (q 7) ∧ m[9]? = some (q 9) ∧ m[11]? = some (q 11) ∧ m[12]? = some (q 12) ∧ m[14]? = some (q 14) ∧ m[15]? = some (q 15) ∧ m[17]? = some (q 17) ∧ m[19]? = some (q 19) ∧ m[20]? = some (q 20) ∧ m[21]? = some (q 21) ∧ m[139]? = some (q 139) ∧ m[140]? = some (q 140)) → m[23]? = some (.int .i64 (cntW s l)) → Below W1.heap.size W1 w' → Q (.exit 2) ⟨m.toArray, []⟩ w') :
    Code.wp Tryz.prog (whC [1, 1, 1, 1, 1, 1, 1, 1, 1, 1, 1, 1, 1, 1, 0, 1, 0, 0]) (Exit.then (fun a' w' => ∃ n', n' < n ∧ Wai s l q W1 n' a' w') Q) a w := by
  obtain ⟨m, j, rfl, hm, hkq, h23, h141, hj, hn, hb⟩ := hI
  obtain ⟨e, rfl⟩ := frame291 hm
  obtain ⟨g6, g7, g9, g11, g12, g14, g15, g17, g19, g20, g21, g139, g140⟩ := hkq
  have g6 : e 6 = q 6 := Option.some.inj g6
  have g7 : e 7 = q 7 := Option.some.inj g7
  have g9 : e 9 = q 9 := Option.some.inj g9
  have g11 : e 11 = q 11 := Option.some.inj g11
  have g12 : e 12 = q 12 := Option.some.inj g12
  have g14 : e 14 = q 14 := Option.some.inj g14
  have g15 : e 15 = q 15 := Option.some.inj g15
  have g17 : e 17 = q 17 := Option.some.inj g17
  have g19 : e 19 = q 19 := Option.some.inj g19
  have g20 : e 20 = q 20 := Option.some.inj g20
  have g21 : e 21 = q 21 := Option.some.inj g21
  have g139 : e 139 = q 139 := Option.some.inj g139
  have g140 : e 140 = q 140 := Option.some.inj g140
  have h23 : e 23 = _ := Option.some.inj h23
  have h141 : e 141 = _ := Option.some.inj h141
  have hkk : ∀ {m : List Value}, (m[6]? = some (e 6) ∧ m[7]? = some (e 7) ∧ m[9]? = some (e 9) ∧ m[11]? = some (e 11) ∧ m[12]? = some (e 12) ∧ m[14]? = some (e 14) ∧ m[15]? = some (e 15) ∧ m[17]? = some (e 17) ∧ m[19]? = some (e 19) ∧ m[20]? = some (e 20) ∧ m[21]? = some (e 21) ∧ m[139]? = some (e 139) ∧ m[140]? = some (e 140)) → (m[6]? = some (q 6) ∧ m[7]? = some (q 7) ∧ m[9]? = some (q 9) ∧ m[11]? = some (q 11) ∧ m[12]? = some (q 12) ∧ m[14]? = some (q 14) ∧ m[15]? = some (q 15) ∧ m[17]? = some (q 17) ∧ m[19]? = some (q 19) ∧ m[20]? = some (q 20) ∧ m[21]? = some (q 21) ∧ m[139]? = some (q 139) ∧ m[140]? = some (q 140)) := fun h => by rw [g6, g7, g9, g11, g12, g14, g15, g17, g19, g20, g21, g139, g140] at h; exact h
  obtain ⟨q6, q9, q11, q14, q19, q21, q139, q140⟩ := hq
  have hEw := hE.below hb
  have hlen := hE.len
  have hcl := cnt_le s (l.take j)
  rw [List.length_take] at hcl
  by_cases hjl : ¬ j < l.length
  · have hje : j = l.length := by omega
    rw [h141, show e 140 = .int .i64 l.length from g140.trans q140]
    refine wh20_out e hje hE.len (fun m k0 k1 k2 => hQ m w k0 (hkk (by rw [show e 140 = .int .i64 l.length from g140.trans q140]; exact k1)) (k2.trans (congrArg some (h23.trans (by rw [hje, List.take_length])))) hb)
  · have hjl : j < l.length := by omega
    obtain ⟨wb, off, cap, hve, hc1, hc2, -, hbz, hcell⟩ := hEw.ways.cells (by omega)
    simp only [Value.slice.injEq, true_and] at hve
    obtain ⟨rfl, rfl⟩ := hve
    obtain ⟨sv, y0, y1, hS, hsL, hsG⟩ := hcell j hjl
    obtain ⟨so, sc, rfl⟩ := hS.row.slice
    have hmem : l[j] ∈ l := List.getElem_mem hjl
    have hxP := hE.inP _ hmem
    have hxZ := hE.inZ _ hmem
    have hct := cnt_take (s := s) hjl
    have hEQ : ∀ {v : Value}, SpsAt (fun _ => True) w v l[j].spans → ∀ w', Below w.heap.size w w' → Calls Tryz.prog 20 #[v, .slice so l[j].spans.length sc] w' fun e w'' => e = .returned (.bool true) ∧ Below w'.heap.size w' w'' := fun {v} hv w' h => by
      have k := Kept.of_below h (fun _ => False)
      have hsm := hv.small
      have := equalS_any (hv.kept k (fun _ _ _ => id)) (hS.kept k (fun _ _ _ => id)) (by omega) (by omega)
      rw [decide_eq_true rfl] at this
      exact this.mono fun e w'' h => h
    have hCP : ∀ w', Below w.heap.size w w' → Calls Tryz.prog 19 #[.slice o21 P.length c21, .int .i64 l[j].stop] w' fun e w'' => e = .returned (.bool true) ∧ w'' = w' := fun w' h => by
      have hr := RowGo hEw.places (Kept.of_below h (fun _ => False)) (M := fun _ => True) (fun _ _ h => ⟨id, h⟩)
      have hl : P.length = (P.map fun x : Nat => (x : Int)).length := by simp
      rw [intCs_zs, hl] at hr
      have := contI_any (x := (l[j].stop : Int)) hr (by have := hE.plen; simp; omega)
      rw [decide_eq_true (List.mem_map_of_mem hxP.1), ← hl] at this
      exact this
    have hCE : ∀ w', Below w.heap.size w w' → Calls Tryz.prog 19 #[.slice o9 zs.length c9, .int .i64 l[j].stop] w' fun e w'' => e = .returned (.bool true) ∧ w'' = w' := fun w' h => by
      have hr := RowGo hEw.ends (Kept.of_below h (fun _ => False)) (M := fun _ => True) (fun _ _ h => ⟨id, h⟩)
      have := contI_any (x := (l[j].stop : Int)) hr (by have := hE.zlen; omega)
      rw [decide_eq_true hxZ] at this
      exact this
    have hwhole : l[j].stop = s.size → cntW s (l.take j) = 0 → SpsAt (fun _ => True) w (.slice o11 n11 c11) l[j].spans := fun he h0 => hEw.whole _ (find_cnt hjl he h0)
    have hfirst : j = 0 → ∃ sv, Blk w b14 #[.int .i64 l[j].stop, sv] 43 ∧ SpsAt (fun _ => True) w sv l[j].spans := fun h0 => hEw.first _ (by subst h0; rw [List.head?_eq_getElem?, List.getElem?_eq_getElem hjl])
    have hst : l[j].stop ≤ 64 := by have := hE.lim; omega
    have e6 : e 6 = _ := g6.trans q6
    have e9 : e 9 = _ := g9.trans q9
    have e11 : e 11 = _ := g11.trans q11
    have e14 : e 14 = _ := g14.trans q14
    have e19 : e 19 = .int .i64 l[j].spans.length := (g19.trans q19).trans (by rw [hsG])
    have e21 : e 21 = _ := g21.trans q21
    have e139 : e 139 = _ := g139.trans q139
    have e140 : e 140 = _ := g140.trans q140
    have hJ : ∀ (z : Int), z = ((cntW s (l.take (j + 1)) : Nat) : Int) → ∀ (m : List Value) (w' : World), m.length = 291 → (m[6]? = some (.string s) ∧ m[7]? = some (e 7) ∧ m[9]? = some (.slice o9 zs.length c9) ∧ m[11]? = some (.slice o11 n11 c11) ∧ m[12]? = some (e 12) ∧ m[14]? = some (.pointer (some ⟨b14, 0, none⟩)) ∧ m[15]? = some (e 15) ∧ m[17]? = some (e 17) ∧ m[19]? = some (.int .i64 l[j].spans.length) ∧ m[20]? = some (e 20) ∧ m[21]? = some (.slice o21 P.length c21) ∧ m[139]? = some (.slice (some ⟨wb, off, none⟩) l.length c7) ∧ m[140]? = some (.int .i64 l.length)) → m[23]? = some (.int .i64 z) → m[141]? = some (.int .i64 (j + 1)) → Below w.heap.size w w' → ∃ n', n' < n ∧ Wai s l q W1 n' ⟨m.toArray, []⟩ w' := fun z hz m w' k0 k1 k2 k3 k4 =>
      ⟨l.length - (j + 1), by omega, m, j + 1, rfl, k0, hkk (by rw [e6, e9, e11, e14, e19, e21, e139, e140]; exact k1), by rw [k2, hz], k3, by omega, rfl, hb.trans (k4.mono hb.size)⟩
    rw [e6, e9, e11, e14, e19, e21, h23, e139, e140, h141]
    generalize hx : l[j] = x at *
    by_cases hj0 : j = 0
    · obtain ⟨sv14, hB14, hS14⟩ := hfirst hj0
      by_cases he : x.stop = s.size
      · have h0 : cntW s (l.take j) = 0 := by subst hj0; rfl
        rw [if_pos he] at hct
        exact wh20_a1 e hjl hE.len hc1 (by omega) hE.size hst y0 y1 hbz hS hEw.places rfl hE.plen ⟨_, _, hxP⟩ hCP hCE hj0 hB14 (hEQ hS14) he h0 (hEQ (hwhole he h0)) (hJ _ (by rw [hct]))
      · rw [if_neg he] at hct
        exact wh20_a0 e hjl hE.len hc1 (by omega) hE.size hst y0 y1 hbz hS hEw.places rfl hE.plen ⟨_, _, hxP⟩ hCP hCE hj0 hB14 (hEQ hS14) he (hJ _ (by rw [hct]; rfl))
    · by_cases he : x.stop = s.size
      · rw [if_pos he] at hct
        by_cases h0 : cntW s (l.take j) = 0
        · exact wh20_b1 (sv14 := .bool true) e hjl hE.len hc1 (by omega) hE.size hst y0 y1 hbz hS hEw.places rfl hE.plen ⟨_, _, hxP⟩ hCP hCE hj0 he h0 (hEQ (hwhole he h0)) (hJ _ (by rw [hct]))
        · exact wh20_b2 (sv14 := .bool true) e hjl hE.len hc1 (by omega) hE.size hst y0 y1 hbz hS hEw.places rfl hE.plen ⟨_, _, hxP⟩ hCP hCE hj0 he h0 (hJ _ (by rw [hct]))
      · rw [if_neg he] at hct
        exact wh20_b0 (sv14 := .bool true) e hjl hE.len hc1 (by omega) hE.size hst y0 y1 hbz hS hEw.places rfl hE.plen ⟨_, _, hxP⟩ hCP hCE hj0 he (hJ _ (by rw [hct]; rfl))
set_option maxHeartbeats 8000000 in
set_option maxRecDepth 100000 in
theorem wh20 {s : ByteArray} {P : List Nat} {zs : List Int} {l : List Wy.Way} {G L : Nat} {o7 o9 o11 o21 : Option Addr} {c7 c9 c11 n11 c21 b14 : Nat} {W : World} {J : Act → World → Prop} {Q : Exit → Act → World → Prop} (e : Nat → Value)
    (hE : WhEnv s P zs l G L o7 o9 o11 o21 c7 c9 c11 n11 c21 b14 W)
    (hJ : ∀ (m : List Value) (w' : World), m.length = 291 → (m[6]? = some (.string s) ∧ m[7]? = some (.slice o7 l.length c7) ∧ m[9]? = some (.slice o9 zs.length c9) ∧ m[11]? = some (.slice o11 n11 c11) ∧ m[12]? = some (e 12) ∧ m[14]? = some (.pointer (some ⟨b14, 0, none⟩)) ∧ m[15]? = some (e 15) ∧ m[17]? = some (e 17) ∧ m[19]? = some (.int .i64 G) ∧ m[20]? = some (e 20) ∧ m[21]? = some (.slice o21 P.length c21)) → m[23]? = some (.int .i64 (cntW s l)) → Below W.heap.size W w' → J ⟨m.toArray, []⟩ w') :
    Code.wp Tryz.prog (whC [1, 1, 1, 1, 1, 1, 1, 1, 1, 1, 1, 1, 1, 1, 0]) (Exit.then J Q) ⟨#[e 0, e 1, e 2, e 3, e 4, e 5, .string s, .slice o7 l.length c7, e 8, .slice o9 zs.length c9, e 10, .slice o11 n11 c11, e 12, e 13, .pointer (some ⟨b14, 0, none⟩), e 15, e 16, e 17, e 18, .int .i64 G, e 20, .slice o21 P.length c21, e 22, .int .i64 0, e 24, e 25, e 26, e 27, e 28, e 29, e 30, e 31, e 32, e 33, e 34, e 35, e 36, e 37, e 38, e 39, e 40, e 41, e 42, e 43, e 44, e 45, e 46, e 47, e 48, e 49, e 50, e 51, e 52, e 53, e 54, e 55, e 56, e 57, e 58, e 59, e 60, e 61, e 62, e 63, e 64, e 65, e 66, e 67, e 68, e 69, e 70, e 71, e 72, e 73, e 74, e 75, e 76, e 77, e 78, e 79, e 80, e 81, e 82, e 83, e 84, e 85, e 86, e 87, e 88, e 89, e 90, e 91, e 92, e 93, e 94, e 95, e 96, e 97, e 98, e 99, e 100, e 101, e 102, e 103, e 104, e 105, e 106, e 107, e 108, e 109, e 110, e 111, e 112, e 113, e 114, e 115, e 116, e 117, e 118, e 119, e 120, e 121, e 122, e 123, e 124, e 125, e 126, e 127, e 128, e 129, e 130, e 131, e 132, e 133, e 134, e 135, e 136, e 137, e 138, e 139, e 140, e 141, e 142, e 143, e 144, e 145, e 146, e 147, e 148, e 149, e 150, e 151, e 152, e 153, e 154, e 155, e 156, e 157, e 158, e 159, e 160, e 161, e 162, e 163, e 164, e 165, e 166, e 167, e 168, e 169, e 170, e 171, e 172, e 173, e 174, e 175, e 176, e 177, e 178, e 179, e 180, e 181, e 182, e 183, e 184, e 185, e 186, e 187, e 188, e 189, e 190, e 191, e 192, e 193, e 194, e 195, e 196, e 197, e 198, e 199, e 200, e 201, e 202, e 203, e 204, e 205, e 206, e 207, e 208, e 209, e 210, e 211, e 212, e 213, e 214, e 215, e 216, e 217, e 218, e 219, e 220, e 221, e 222, e 223, e 224, e 225, e 226, e 227, e 228, e 229, e 230, e 231, e 232, e 233, e 234, e 235, e 236, e 237, e 238, e 239, e 240, e 241, e 242, e 243, e 244, e 245, e 246, e 247, e 248, e 249, e 250, e 251, e 252, e 253, e 254, e 255, e 256, e 257, e 258, e 259, e 260, e 261, e 262, e 263, e 264, e 265, e 266, e 267, e 268, e 269, e 270, e 271, e 272, e 273, e 274, e 275, e 276, e 277, e 278, e 279, e 280, e 281, e 282, e 283, e 284, e 285, e 286, e 287, e 288, e 289, e 290], []⟩ W := by
  have HJ := Lib.hid hJ
  have HE := Lib.hid hE
  have hlI : (l.length : Int) ≤ 500 := by have := hE.len; omega
  clear hJ hE
  conv => arg 2; whnf
  go_wp2_with fail
  refine wp_loop_ghost (Wai s l (fun k => if k = 6 then .string s else if k = 7 then .slice o7 l.length c7 else if k = 9 then .slice o9 zs.length c9 else if k = 11 then .slice o11 n11 c11 else if k = 14 then .pointer (some ⟨b14, 0, none⟩) else if k = 19 then .int .i64 G else if k = 21 then .slice o21 P.length c21 else if k = 139 then .slice o7 l.length c7 else if k = 140 then .int .i64 l.length else e k) W) (l.length - 0) ?_ (fun z a w' hI => wh20_loop hI HE.out ⟨rfl, rfl, rfl, rfl, rfl, rfl, rfl, rfl⟩ ?_)
  · exact ⟨_, 0, rfl, rfl, ⟨rfl, rfl, rfl, rfl, rfl, rfl, rfl, rfl, rfl, rfl, rfl, rfl, rfl⟩, rfl, rfl, Nat.zero_le _, rfl, Below.refl _ _⟩
  · intro m w2 k0 k1 k2 k3
    exact HJ.out m w2 k0 ⟨k1.1, k1.2.1, k1.2.2.1, k1.2.2.2.1, k1.2.2.2.2.1, k1.2.2.2.2.2.1, k1.2.2.2.2.2.2.1, k1.2.2.2.2.2.2.2.1, k1.2.2.2.2.2.2.2.2.1, k1.2.2.2.2.2.2.2.2.2.1, k1.2.2.2.2.2.2.2.2.2.2.1⟩ k2 k3
end Go.Proofs.YtnhjakdmbfadlaaGreatDoor
