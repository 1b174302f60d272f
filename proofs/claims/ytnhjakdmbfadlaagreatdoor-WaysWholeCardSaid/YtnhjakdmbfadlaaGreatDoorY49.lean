/- Parts of the proof: Whk, Whl, Whm. Conditions: none. -/
import Derived.Test.YtnhjakdmbfadlaaGreatDoorY41
import Derived.Test.YtnhjakdmbfadlaaGreatDoorY48
set_option linter.all false
/- WaysWhole: the loop over the ends whole, and the end. -/
namespace Go.Proofs.YtnhjakdmbfadlaaGreatDoor
open Go.RowKit Wy Mem Grow

set_option maxHeartbeats 8000000 in
set_option maxRecDepth 100000 in
theorem wh44 {n7 c7 wh : Nat} {o7 : Option Addr} {v9 : Value} {is ok : Bool} {s : ByteArray} {W : World} {Q : Exit → Act → World → Prop} (e : Nat → Value) (hs : s.size ≤ 32) (hn : n7 ≤ 500) (hw : wh ≤ 500) (his : is = decide (0 < n7)) (hok : ok = decide (0 < wh))
    (hc : Calls Tryz.prog 19 #[v9, .int .i64 s.size] W fun e w'' => e = .returned (.bool ok) ∧ w'' = W)
    (hRet : ∀ (m : List Value), m.length = 291 → m[4]? = some (.bool true) → Q .ret ⟨m.toArray, []⟩ W) :
    Code.wp Tryz.prog (whC [1, 1, 1, 1, 1, 1, 1, 1, 1, 1, 1, 1, 1, 1, 1, 1]) Q ⟨#[e 0, e 1, e 2, e 3, e 4, e 5, .string s, .slice o7 n7 c7, e 8, v9, e 10, e 11, .bool ok, e 13, e 14, .bool is, e 16, .int .i64 wh, e 18, e 19, .int .i64 0, e 21, e 22, .int .i64 wh, e 24, e 25, e 26, e 27, e 28, e 29, e 30, e 31, e 32, e 33, e 34, e 35, e 36, e 37, e 38, e 39, e 40, e 41, e 42, e 43, e 44, e 45, e 46, e 47, e 48, e 49, e 50, e 51, e 52, e 53, e 54, e 55, e 56, e 57, e 58, e 59, e 60, e 61, e 62, e 63, e 64, e 65, e 66, e 67, e 68, e 69, e 70, e 71, e 72, e 73, e 74, e 75, e 76, e 77, e 78, e 79, e 80, e 81, e 82, e 83, e 84, e 85, e 86, e 87, e 88, e 89, e 90, e 91, e 92, e 93, e 94, e 95, e 96, e 97, e 98, e 99, e 100, e 101, e 102, e 103, e 104, e 105, e 106, e 107, e 108, e 109, e 110, e 111, e 112, e 113, e 114, e 115, e 116, e 117, e 118, e 119, e 120, e 121, e 122, e 123, e 124, e 125, e 126, e 127, e 128, e 129, e 130, e 131, e 132, e 133, e 134, e 135, e 136, e 137, e 138, e 139, e 140, e 141, e 142, e 143, e 144, e 145, e 146, e 147, e 148, e 149, e 150, e 151, e 152, e 153, e 154, e 155, e 156, e 157, e 158, e 159, e 160, e 161, e 162, e 163, e 164, e 165, e 166, e 167, e 168, e 169, e 170, e 171, e 172, e 173, e 174, e 175, e 176, e 177, e 178, e 179, e 180, e 181, e 182, e 183, e 184, e 185, e 186, e 187, e 188, e 189, e 190, e 191, e 192, e 193, e 194, e 195, e 196, e 197, e 198, e 199, e 200, e 201, e 202, e 203, e 204, e 205, e 206, e 207, e 208, e 209, e 210, e 211, e 212, e 213, e 214, e 215, e 216, e 217, e 218, e 219, e 220, e 221, e 222, e 223, e 224, e 225, e 226, e 227, e 228, e 229, e 230, e 231, e 232, e 233, e 234, e 235, e 236, e 237, e 238, e 239, e 240, e 241, e 242, e 243, e 244, e 245, e 246, e 247, e 248, e 249, e 250, e 251, e 252, e 253, e 254, e 255, e 256, e 257, e 258, e 259, e 260, e 261, e 262, e 263, e 264, e 265, e 266, e 267, e 268, e 269, e 270, e 271, e 272, e 273, e 274, e 275, e 276, e 277, e 278, e 279, e 280, e 281, e 282, e 283, e 284, e 285, e 286, e 287, e 288, e 289, e 290], []⟩ W := by
  have hnI : (n7 : Int) ≤ 500 := by omega
  have hwI : (wh : Int) ≤ 500 := by omega
  have hsI : (s.size : Int) ≤ 32 := by omega
  have HC := Lib.hid hc
  have HR := Lib.hid hRet
  clear hc hRet
  cases is
  · have h1 : n7 = 0 := by simpa using his
    cases ok
    · have h2 : wh = 0 := by simpa using hok
      subst h1 h2
      clear his hok
      conv => arg 2; whnf
      go_wp2_with (go_at_call 19; go_loud (refine HC.out.mono ?_; rintro ee w2 ⟨rfl, rfl⟩))
      exact HR.out _ rfl rfl
    · have h2 : 0 < wh := by simpa using hok
      have h2I : (0 : Int) < wh := by omega
      subst h1
      clear his hok
      conv => arg 2; whnf
      go_wp2_with (go_at_call 19; go_loud (refine HC.out.mono ?_; rintro ee w2 ⟨rfl, rfl⟩))
      exact HR.out _ rfl rfl
  · have h1 : 0 < n7 := by simpa using his
    have h1I : (0 : Int) < n7 := by omega
    cases ok
    · have h2 : wh = 0 := by simpa using hok
      subst h2
      clear his hok
      conv => arg 2; whnf
      go_wp2_with (go_at_call 19; go_loud (refine HC.out.mono ?_; rintro ee w2 ⟨rfl, rfl⟩))
      exact HR.out _ rfl rfl
    · have h2 : 0 < wh := by simpa using hok
      have h2I : (0 : Int) < wh := by omega
      clear his hok
      conv => arg 2; whnf
      go_wp2_with (go_at_call 19; go_loud (refine HC.out.mono ?_; rintro ee w2 ⟨rfl, rfl⟩))
      exact HR.out _ rfl rfl
end Go.Proofs.YtnhjakdmbfadlaaGreatDoor

/- WaysWhole: its pieces joined. -/
namespace Go.Proofs.YtnhjakdmbfadlaaGreatDoor
open Go.RowKit Wy Mem Grow

/-- what the pieces hand on of the results -/
def RAll (x : Nd) (s : ByteArray) (w : World) (o : Option Addr) (n c : Nat) : Prop := n = (lA s x).length ∧ WaysAt (fun _ => True) w (opened x) s.size (.slice o (lA s x).length c) (lA s x)
def REnd (x : Nd) (s : ByteArray) (w : World) (o : Option Addr) (n c : Nat) : Prop := n = (zsE s x).length ∧ Row (fun _ => True) w (.slice o (zsE s x).length c) (zsE s x).length 1 (intZs (zsE s x))
def RWho (x : Nd) (s : ByteArray) (w : World) (o : Option Addr) (n c : Nat) (bb : Bool) : Prop := bb = ((lA s x).find? (wholeP s)).isSome ∧ (bb = false → n = 0) ∧ ∀ y, (lA s x).find? (wholeP s) = some y → SpsAt (fun _ => True) w (.slice o n c) y.spans
def RFir (x : Nd) (s : ByteArray) (w : World) (st : Int) (o : Option Addr) (n c : Nat) (bb : Bool) : Prop := bb = decide (0 < (lA s x).length) ∧ (bb = false → st = 0 ∧ Value.slice o n c = .slice none 0 0) ∧ ∀ y, (lA s x).head? = some y → st = y.stop ∧ SpsAt (fun _ => True) w (.slice o n c) y.spans
theorem rall_ok {s : ByteArray} {x : Nd} {w : World} {e : Ending} {w' : World} (h : Alu s x w e w') : ∃ (o : Option Addr) (n c : Nat), e = .returned (.tuple #[.slice o n c, .int .i64 (erW s x)]) ∧ RAll x s w' o n c ∧ Below w.heap.size w w' := by
  obtain ⟨o, c, h1, h2, h3⟩ := h
  exact ⟨o, _, c, h1, ⟨rfl, h2⟩, h3⟩
theorem rend_ok {s : ByteArray} {x : Nd} {w : World} {e : Ending} {w' : World} (h : Edo s x w e w') : ∃ (o : Option Addr) (n c : Nat), e = .returned (.tuple #[.slice o n c, .int .i64 (erW s x)]) ∧ REnd x s w' o n c ∧ Below w.heap.size w w' := by
  obtain ⟨o, c, h1, h2, h3⟩ := h
  exact ⟨o, _, c, h1, ⟨rfl, h2.mono (fun _ _ => trivial)⟩, h3⟩
theorem fndv {p : Wy.Way → Bool} {s : ByteArray} {x : Nd} {w w' : World} {st : Int} {v : Value} {bb : Bool} {er : Int} (h : FndV p s x w w' st v bb er) : er = erW s x ∧ bb = ((lA s x).find? p).isSome ∧ ∃ o n c, v = .slice o n c ∧ (bb = false → st = 0 ∧ Value.slice o n c = .slice none 0 0) ∧ ∀ y, (lA s x).find? p = some y → st = y.stop ∧ SpsAt (fun _ => True) w' (.slice o n c) y.spans := by
  unfold FndV at h
  unfold erW lA
  cases hw : Wy.ways (strS s) x with
  | none =>
    rw [hw] at h
    obtain ⟨h1, rfl, rfl, h4⟩ := h
    exact ⟨h4, rfl, none, 0, 0, rfl, fun _ => ⟨h1, rfl⟩, fun y hy => by cases hy⟩
  | some l =>
    rw [hw] at h
    simp only [Option.getD_some] at h ⊢
    cases hf : l.find? p with
    | none =>
      rw [hf] at h
      obtain ⟨h1, rfl, rfl, h4⟩ := h
      exact ⟨h4, rfl, none, 0, 0, rfl, fun _ => ⟨h1, rfl⟩, fun y hy => by cases hy⟩
    | some z =>
      rw [hf] at h
      obtain ⟨h1, rfl, h3, h4⟩ := h
      obtain ⟨o, c, rfl⟩ := h4.row.slice
      refine ⟨h3, rfl, o, _, c, rfl, fun e => by (cases e), fun y hy => ?_⟩
      obtain rfl := Option.some.inj hy
      exact ⟨h1, h4.mono (fun _ _ => trivial)⟩
theorem rwho_ok {s : ByteArray} {x : Nd} {w : World} {e : Ending} {w' : World} (h : Whl s x w e w') : ∃ (o : Option Addr) (n c : Nat) (bb : Bool), e = .returned (.tuple #[.slice o n c, .bool bb, .int .i64 (erW s x)]) ∧ RWho x s w' o n c bb ∧ Below w.heap.size w w' := by
  obtain ⟨h1, st, v, bb, er, h2, h3⟩ := h
  obtain ⟨rfl, hb, o, n, c, rfl, h4, h5⟩ := fndv h3
  exact ⟨o, n, c, bb, h2, ⟨hb, fun e => by have := (h4 e).2; simp only [Value.slice.injEq] at this; exact this.2.1, fun y hy => (h5 y hy).2⟩, h1⟩
theorem find_head (l : List Wy.Way) : l.find? firstP = l.head? := by
  cases l with
  | nil => rfl
  | cons a r => rw [List.find?_cons_of_pos (by rfl)]; rfl
theorem rfir_ok {s : ByteArray} {x : Nd} {w : World} {e : Ending} {w' : World} (h : Fst s x w e w') : ∃ (st : Int) (o : Option Addr) (n c : Nat) (bb : Bool), e = .returned (.tuple #[.agg #[.int .i64 st, .slice o n c], .bool bb, .int .i64 (erW s x)]) ∧ RFir x s w' st o n c bb ∧ Below w.heap.size w w' := by
  obtain ⟨h1, st, v, bb, er, h2, h3⟩ := h
  obtain ⟨rfl, hb, o, n, c, rfl, h4, h5⟩ := fndv h3
  rw [find_head] at hb h5
  refine ⟨st, o, n, c, bb, h2, ⟨?_, h4, h5⟩, h1⟩
  rw [hb]
  cases lA s x <;> rfl
theorem cnt_ok {s : ByteArray} {x : Nd} {w : World} {e : Ending} {w' : World} (h : Cno s x w e w') : ∃ z : Int, e = .returned (.tuple #[.int .i64 z, .int .i64 (erW s x)]) ∧ z = (cntW s (lA s x) : Nat) ∧ Below w.heap.size w w' := ⟨_, h.1, rfl, h.2⟩
theorem cnt_pos (s : ByteArray) (l : List Wy.Way) : (l.find? (wholeP s)).isSome = decide (0 < cntW s l) := by
  unfold cntW
  rw [Bool.eq_iff_iff, decide_eq_true_eq, List.countP_pos_iff, List.find?_isSome]
  exact ⟨fun ⟨y, h1, h2⟩ => ⟨y, h1, by simpa [wholeP] using h2⟩, fun ⟨y, h1, h2⟩ => ⟨y, h1, by simpa [wholeP] using h2⟩⟩
theorem cnt_in (s : ByteArray) (x : Nd) : decide ((s.size : Int) ∈ zsE s x) = decide (0 < cntW s (lA s x)) := by
  rw [decide_eq_decide]
  unfold zsE cntW
  rw [endsI_mem, List.countP_pos_iff]
  constructor
  · rintro ⟨q, h1, h2⟩
    obtain ⟨y, h3, rfl⟩ := List.mem_map.1 h1
    exact ⟨y, h3, by simp; omega⟩
  · rintro ⟨y, h1, h2⟩
    exact ⟨y.stop, List.mem_map_of_mem h1, by simp at h2; omega⟩
theorem kk8 {p0 p1 p2 p3 p4 p5 p6 p7 p8 p9 : Prop} (h : p0 ∧ p1 ∧ p2 ∧ p3 ∧ p4 ∧ p5 ∧ p6 ∧ p7 ∧ p8 ∧ p9) : p0 ∧ p1 ∧ p2 ∧ p3 ∧ p4 ∧ p5 ∧ p6 ∧ p7 ∧ p8 ∧ p9 ∧ True := ⟨h.1, h.2.1, h.2.2.1, h.2.2.2.1, h.2.2.2.2.1, h.2.2.2.2.2.1, h.2.2.2.2.2.2.1, h.2.2.2.2.2.2.2.1, h.2.2.2.2.2.2.2.2.1, h.2.2.2.2.2.2.2.2.2, trivial⟩
theorem kk11 {p0 p1 p2 p3 p4 p5 p6 p7 p8 p9 p10 : Prop} (h : p0 ∧ p1 ∧ p2 ∧ p3 ∧ p4 ∧ p5 ∧ p6 ∧ p7 ∧ p8 ∧ p9 ∧ p10) : p0 ∧ p1 ∧ p2 ∧ p3 ∧ p4 ∧ p5 ∧ p6 ∧ p7 ∧ p8 ∧ p9 ∧ p10 ∧ True := ⟨h.1, h.2.1, h.2.2.1, h.2.2.2.1, h.2.2.2.2.1, h.2.2.2.2.2.1, h.2.2.2.2.2.2.1, h.2.2.2.2.2.2.2.1, h.2.2.2.2.2.2.2.2.1, h.2.2.2.2.2.2.2.2.2.1, h.2.2.2.2.2.2.2.2.2.2, trivial⟩
theorem kk8b {p0 p1 p2 p3 p4 p5 p6 p7 : Prop} (h : p0 ∧ p1 ∧ p2 ∧ p3 ∧ p4 ∧ p5 ∧ p6 ∧ p7) : p0 ∧ p1 ∧ p2 ∧ p3 ∧ p4 ∧ p5 ∧ p6 ∧ p7 ∧ True := ⟨h.1, h.2.1, h.2.2.1, h.2.2.2.1, h.2.2.2.2.1, h.2.2.2.2.2.1, h.2.2.2.2.2.2.1, h.2.2.2.2.2.2.2, trivial⟩
set_option maxHeartbeats 8000000 in
set_option maxRecDepth 100000 in
theorem wh_rest {xb : Nat} {s : ByteArray} {x : Nd} {k lo hi : Int} {lz : Bool} {p1 p2 : Option Addr} {n1 d1 n2 d2 : Nat} {W0 W : World} {Q : Exit → Act → World → Prop} (m : List Value) (hm : m.length = 291) (g5 : m[5]? = some (.pointer (some ⟨xb, 0, none⟩))) (g6 : m[6]? = some (.string s))
    (hB : Blk W xb #[.int .u8 k, .slice p1 n1 d1, .int .i64 lo, .int .i64 hi, .bool lz, .slice p2 n2 d2] 27) (hx : NdAt (fun _ => True) W x [.int .u8 k, .slice p1 n1 d1, .int .i64 lo, .int .i64 hi, .bool lz, .slice p2 n2 d2]) (gx : Wy.Good x 15 14) (nx : nodes x ≤ 21) (hss : s.size ≤ 24) (hv : Lib.validD s.data.toList = true) (htab : Lib.Utf8Tabs 0 1 W0) (hnone : NoneAt W0) (hb : Below W0.heap.size W0 W)
    (hRet : ∀ (m : List Value) (w' : World), m.length = 291 → m[4]? = some (.bool true) → Below W0.heap.size W0 w' → Q .ret ⟨m.toArray, []⟩ w') :
    Code.wp Tryz.prog (whC [1, 1, 1]) Q ⟨m.toArray, []⟩ W := by
  obtain ⟨e0, rfl⟩ := frame291 hm
  have h5_0 : e0 5 = .pointer (some ⟨xb, 0, none⟩) := Option.some.inj g5
  have h6_0 : e0 6 = .string s := Option.some.inj g6
  have rx : right x = true := gx.right (by omega) (by omega)
  have nx' : nodes x ≤ 1000000 := by omega
  have hs32 : s.size ≤ 32 := by omega
  have hlen := lA_len s x
  have hzle : (zsE s x).length ≤ 500 := by have := endsI_len ((lA s x).map Wy.Way.stop); rw [List.length_map] at this; unfold zsE; omega
  have go : ∀ {w w' : World} {t : Nd} {cs : List Value}, Below w.heap.size w w' → NdAt (fun _ => True) w t cs → NdAt (fun _ => True) w' t cs := fun hb hn => NdAt.go (Kept.of_below hb (fun _ => False)) (fun _ _ h => ⟨id, h⟩) hn
  have tb : ∀ {w}, Below W0.heap.size W0 w → Lib.Utf8Tabs 0 1 w := fun h => tabs_below htab hnone h
  have nb : ∀ {w}, Below W0.heap.size W0 w → NoneAt w := fun h => hnone.below h
  have hb00 := hb
  have B0 := hB
  have X0 := hx
  show Code.wp Tryz.prog (Code.seq (whC [1, 1, 1, 0]) (whC [1, 1, 1, 1])) Q _ _
  rw [h5_0, h6_0]
  refine wp_seq (wh4 (R := RAll x s) e0 B0 ((alu_any X0 rx nx' hs32 hv (tb hb00) (nb hb00)).mono fun _ _ h => rall_ok h) (fun m w1 o7 n7 c7 k0 kk k7 k8 r7 hb1 => ?_))
  obtain ⟨e1, rfl⟩ := frame291 k0
  obtain ⟨q5, q6, -⟩ := kk
  have h5_1 : e1 5 = .pointer (some ⟨xb, 0, none⟩) := (Option.some.inj q5)
  have h6_1 : e1 6 = .string s := (Option.some.inj q6)
  have h7_1 : e1 7 = .slice o7 n7 c7 := Option.some.inj k7
  have h8_1 : e1 8 = .int .i64 (erW s x) := Option.some.inj k8
  have hb01 := hb00.trans (hb1.mono hb00.size)
  have B1 := B0.below hb1 B0.lt
  have X1 := go hb1 X0
  show Code.wp Tryz.prog (Code.seq (whC [1, 1, 1, 1, 0]) (whC [1, 1, 1, 1, 1])) Q _ _
  rw [h5_1, h6_1]
  refine wp_seq (wh5 (R := REnd x s) e1 B1 ((ends_ok X1 rx nx' hs32 hv (tb hb01) (nb hb01)).mono fun _ _ h => rend_ok h) (fun m w2 o9 n9 c9 k0 kk k9 k10 r9 hb2 => ?_))
  obtain ⟨e2, rfl⟩ := frame291 k0
  obtain ⟨q5, q6, q7, q8, -⟩ := kk
  have h5_2 : e2 5 = .pointer (some ⟨xb, 0, none⟩) := (Option.some.inj q5)
  have h6_2 : e2 6 = .string s := (Option.some.inj q6)
  have h7_2 : e2 7 = .slice o7 n7 c7 := (Option.some.inj q7).trans h7_1
  have h8_2 : e2 8 = .int .i64 (erW s x) := (Option.some.inj q8).trans h8_1
  have h9_2 : e2 9 = .slice o9 n9 c9 := Option.some.inj k9
  have h10_2 : e2 10 = .int .i64 (erW s x) := Option.some.inj k10
  have hb02 := hb01.trans (hb2.mono hb01.size)
  have B2 := B1.below hb2 B1.lt
  have X2 := go hb2 X1
  show Code.wp Tryz.prog (Code.seq (whC [1, 1, 1, 1, 1, 0]) (whC [1, 1, 1, 1, 1, 1])) Q _ _
  rw [h5_2, h6_2]
  refine wp_seq (wh6 (R := RWho x s) e2 B2 ((whole_any X2 rx nx' hs32 hv (tb hb02) (nb hb02)).mono fun _ _ h => rwho_ok h) (fun m w3 o11 n11 c11 okb k0 kk k11 k12 k13 r11 hb3 => ?_))
  obtain ⟨e3, rfl⟩ := frame291 k0
  obtain ⟨q5, q6, q7, q8, q9, q10, -⟩ := kk
  have h5_3 : e3 5 = .pointer (some ⟨xb, 0, none⟩) := (Option.some.inj q5)
  have h6_3 : e3 6 = .string s := (Option.some.inj q6)
  have h7_3 : e3 7 = .slice o7 n7 c7 := (Option.some.inj q7).trans h7_2
  have h8_3 : e3 8 = .int .i64 (erW s x) := (Option.some.inj q8).trans h8_2
  have h9_3 : e3 9 = .slice o9 n9 c9 := (Option.some.inj q9).trans h9_2
  have h10_3 : e3 10 = .int .i64 (erW s x) := (Option.some.inj q10).trans h10_2
  have h11_3 : e3 11 = .slice o11 n11 c11 := Option.some.inj k11
  have h12_3 : e3 12 = .bool okb := Option.some.inj k12
  have h13_3 : e3 13 = .int .i64 (erW s x) := Option.some.inj k13
  have hb03 := hb02.trans (hb3.mono hb02.size)
  have B3 := B2.below hb3 B2.lt
  have X3 := go hb3 X2
  show Code.wp Tryz.prog (Code.seq (whC [1, 1, 1, 1, 1, 1, 0]) (whC [1, 1, 1, 1, 1, 1, 1])) Q _ _
  rw [h5_3, h6_3]
  refine wp_seq (wh7 (R := RFir x s) e3 B3 ((first_any X3 rx nx' hs32 hv (tb hb03) (nb hb03)).mono fun _ _ h => rfir_ok h) (fun m v4 w4 fst o14 n14 c14 isb k0 kk k14 k15 k16 r14 B14 hbv hb4 => ?_))
  obtain ⟨e4, rfl⟩ := frame291 k0
  obtain ⟨q5, q6, q7, q8, q9, q10, q11, q12, q13, -⟩ := kk
  have h5_4 : e4 5 = .pointer (some ⟨xb, 0, none⟩) := (Option.some.inj q5)
  have h6_4 : e4 6 = .string s := (Option.some.inj q6)
  have h7_4 : e4 7 = .slice o7 n7 c7 := (Option.some.inj q7).trans h7_3
  have h8_4 : e4 8 = .int .i64 (erW s x) := (Option.some.inj q8).trans h8_3
  have h9_4 : e4 9 = .slice o9 n9 c9 := (Option.some.inj q9).trans h9_3
  have h10_4 : e4 10 = .int .i64 (erW s x) := (Option.some.inj q10).trans h10_3
  have h11_4 : e4 11 = .slice o11 n11 c11 := (Option.some.inj q11).trans h11_3
  have h12_4 : e4 12 = .bool okb := (Option.some.inj q12).trans h12_3
  have h13_4 : e4 13 = .int .i64 (erW s x) := (Option.some.inj q13).trans h13_3
  have h14_4 : e4 14 = .pointer (some ⟨v4.heap.size, 0, none⟩) := Option.some.inj k14
  have h15_4 : e4 15 = .bool isb := Option.some.inj k15
  have h16_4 : e4 16 = .int .i64 (erW s x) := Option.some.inj k16
  have hb04 := hb03.trans (hb4.mono hb03.size)
  have B4 := B3.below hb4 B3.lt
  have X4 := go hb4 X3
  skip
  show Code.wp Tryz.prog (Code.seq (whC [1, 1, 1, 1, 1, 1, 1, 0]) (whC [1, 1, 1, 1, 1, 1, 1, 1])) Q _ _
  rw [h5_4, h6_4]
  refine wp_seq (wh8 (R := fun _ z => z = ((cntW s (lA s x) : Nat) : Int)) e4 B4 ((count_ok X4 rx nx' hs32 hv (tb hb04) (nb hb04)).mono fun _ _ h => cnt_ok h) (fun m w5 cz k0 kk k17 k18 rz hb5 => ?_))
  obtain ⟨e5, rfl⟩ := frame291 k0
  obtain ⟨q5, q6, q7, q8, q9, q10, q11, q12, q13, q14, q15, q16, -⟩ := kk
  have h5_5 : e5 5 = .pointer (some ⟨xb, 0, none⟩) := (Option.some.inj q5)
  have h6_5 : e5 6 = .string s := (Option.some.inj q6)
  have h7_5 : e5 7 = .slice o7 n7 c7 := (Option.some.inj q7).trans h7_4
  have h8_5 : e5 8 = .int .i64 (erW s x) := (Option.some.inj q8).trans h8_4
  have h9_5 : e5 9 = .slice o9 n9 c9 := (Option.some.inj q9).trans h9_4
  have h10_5 : e5 10 = .int .i64 (erW s x) := (Option.some.inj q10).trans h10_4
  have h11_5 : e5 11 = .slice o11 n11 c11 := (Option.some.inj q11).trans h11_4
  have h12_5 : e5 12 = .bool okb := (Option.some.inj q12).trans h12_4
  have h13_5 : e5 13 = .int .i64 (erW s x) := (Option.some.inj q13).trans h13_4
  have h14_5 : e5 14 = .pointer (some ⟨v4.heap.size, 0, none⟩) := (Option.some.inj q14).trans h14_4
  have h15_5 : e5 15 = .bool isb := (Option.some.inj q15).trans h15_4
  have h16_5 : e5 16 = .int .i64 (erW s x) := (Option.some.inj q16).trans h16_4
  have h17_5 : e5 17 = .int .i64 cz := Option.some.inj k17
  have h18_5 : e5 18 = .int .i64 (erW s x) := Option.some.inj k18
  have hb05 := hb04.trans (hb5.mono hb04.size)
  have B5 := B4.below hb5 B4.lt
  have X5 := go hb5 X4
  obtain ⟨rfl, r7⟩ := r7
  obtain ⟨rfl, r9⟩ := r9
  subst rz
  obtain ⟨hok, hok0, r11⟩ := r11
  obtain ⟨his, his0, r14⟩ := r14
  rw [cnt_pos] at hok
  show Code.wp Tryz.prog (Code.seq (whC [1, 1, 1, 1, 1, 1, 1, 1, 0]) (whC [1, 1, 1, 1, 1, 1, 1, 1, 1])) Q _ _
  rw [h8_5, h10_5, h13_5, h16_5, h18_5]
  refine wp_seq (wh9 e5 (fun m k0 kk => ?_))
  obtain ⟨e6, rfl⟩ := frame291 k0
  obtain ⟨q5, q6, q7, q9, q11, q12, q14, q15, q17, q8, -⟩ := kk
  have h5_6 : e6 5 = .pointer (some ⟨xb, 0, none⟩) := (Option.some.inj q5).trans h5_5
  have h6_6 : e6 6 = .string s := (Option.some.inj q6).trans h6_5
  have h7_6 : e6 7 = .slice o7 (lA s x).length c7 := (Option.some.inj q7).trans h7_5
  have h9_6 : e6 9 = .slice o9 (zsE s x).length c9 := (Option.some.inj q9).trans h9_5
  have h11_6 : e6 11 = .slice o11 n11 c11 := (Option.some.inj q11).trans h11_5
  have h12_6 : e6 12 = .bool okb := (Option.some.inj q12).trans h12_5
  have h14_6 : e6 14 = .pointer (some ⟨v4.heap.size, 0, none⟩) := (Option.some.inj q14).trans h14_5
  have h15_6 : e6 15 = .bool isb := (Option.some.inj q15).trans h15_5
  have h17_6 : e6 17 = .int .i64 ((cntW s (lA s x) : Nat) : Int) := (Option.some.inj q17).trans h17_5
  have h8_6 : e6 8 = .int .i64 (erW s x) := (Option.some.inj q8)
  have kr : ∀ {w w' : World} {v : Value} {n : Nat} {cs : List Value}, Below w.heap.size w w' → Row (fun _ => True) w v n 1 cs → Row (fun _ => True) w' v n 1 cs := fun hb hn => RowGo hn (Kept.of_below hb (fun _ => False)) (fun _ _ h => ⟨id, h⟩)
  have hb15 := hb2.trans ((hb3.trans ((hb4.trans (hb5.mono hb4.size)).mono hb3.size)).mono hb2.size)
  have hb25 := hb3.trans ((hb4.trans (hb5.mono hb4.size)).mono hb3.size)
  have hb35 := hb4.trans (hb5.mono hb4.size)
  have hbv5 := hbv.trans (hb5.mono hbv.size)
  rcases erW_or s x with her | ⟨her, hl0⟩
  · rw [her] at h8_6
    show Code.wp Tryz.prog (Code.seq (whC [1, 1, 1, 1, 1, 1, 1, 1, 1, 0]) (whC [1, 1, 1, 1, 1, 1, 1, 1, 1, 1])) Q _ _
    rw [h8_6]
    refine wp_seq (wh11 e6 (fun m k0 kk => ?_))
    obtain ⟨e7, rfl⟩ := frame291 k0
    obtain ⟨q5, q6, q7, q9, q11, q12, q14, q15, q17, -⟩ := kk
    have h5_7 : e7 5 = .pointer (some ⟨xb, 0, none⟩) := (Option.some.inj q5).trans h5_6
    have h6_7 : e7 6 = .string s := (Option.some.inj q6).trans h6_6
    have h7_7 : e7 7 = .slice o7 (lA s x).length c7 := (Option.some.inj q7).trans h7_6
    have h9_7 : e7 9 = .slice o9 (zsE s x).length c9 := (Option.some.inj q9).trans h9_6
    have h11_7 : e7 11 = .slice o11 n11 c11 := (Option.some.inj q11).trans h11_6
    have h12_7 : e7 12 = .bool okb := (Option.some.inj q12).trans h12_6
    have h14_7 : e7 14 = .pointer (some ⟨v4.heap.size, 0, none⟩) := (Option.some.inj q14).trans h14_6
    have h15_7 : e7 15 = .bool isb := (Option.some.inj q15).trans h15_6
    have h17_7 : e7 17 = .int .i64 ((cntW s (lA s x) : Nat) : Int) := (Option.some.inj q17).trans h17_6
    show Code.wp Tryz.prog (Code.seq (whC [1, 1, 1, 1, 1, 1, 1, 1, 1, 1, 0]) (whC [1, 1, 1, 1, 1, 1, 1, 1, 1, 1, 1])) Q _ _
    rw [h5_7]
    refine wp_seq (wh13 (G := opened x) e7 B5 (groups_any X5 nx' rx) (fun m w6 k0 kk k19 k20 hb6 => ?_))
    obtain ⟨e8, rfl⟩ := frame291 k0
    obtain ⟨q6, q7, q9, q11, q12, q14, q15, q17, -⟩ := kk
    have h6_8 : e8 6 = .string s := (Option.some.inj q6).trans h6_7
    have h7_8 : e8 7 = .slice o7 (lA s x).length c7 := (Option.some.inj q7).trans h7_7
    have h9_8 : e8 9 = .slice o9 (zsE s x).length c9 := (Option.some.inj q9).trans h9_7
    have h11_8 : e8 11 = .slice o11 n11 c11 := (Option.some.inj q11).trans h11_7
    have h12_8 : e8 12 = .bool okb := (Option.some.inj q12).trans h12_7
    have h14_8 : e8 14 = .pointer (some ⟨v4.heap.size, 0, none⟩) := (Option.some.inj q14).trans h14_7
    have h15_8 : e8 15 = .bool isb := (Option.some.inj q15).trans h15_7
    have h17_8 : e8 17 = .int .i64 ((cntW s (lA s x) : Nat) : Int) := (Option.some.inj q17).trans h17_7
    have h19_8 : e8 19 = .int .i64 (opened x) := Option.some.inj k19
    have h20_8 : e8 20 = .int .i64 0 := Option.some.inj k20
    have hb06 := hb05.trans (hb6.mono hb05.size)
    show Code.wp Tryz.prog (Code.seq (whC [1, 1, 1, 1, 1, 1, 1, 1, 1, 1, 1, 0]) (whC [1, 1, 1, 1, 1, 1, 1, 1, 1, 1, 1, 1])) Q _ _
    rw [h6_8]
    refine wp_seq (wh14 e8 hs32 (fun m k0 kk k21 => ?_))
    obtain ⟨e9, rfl⟩ := frame291 k0
    obtain ⟨q6, q7, q9, q11, q12, q14, q15, q17, q19, q20, -⟩ := kk
    have h6_9 : e9 6 = .string s := (Option.some.inj q6)
    have h7_9 : e9 7 = .slice o7 (lA s x).length c7 := (Option.some.inj q7).trans h7_8
    have h9_9 : e9 9 = .slice o9 (zsE s x).length c9 := (Option.some.inj q9).trans h9_8
    have h11_9 : e9 11 = .slice o11 n11 c11 := (Option.some.inj q11).trans h11_8
    have h12_9 : e9 12 = .bool okb := (Option.some.inj q12).trans h12_8
    have h14_9 : e9 14 = .pointer (some ⟨v4.heap.size, 0, none⟩) := (Option.some.inj q14).trans h14_8
    have h15_9 : e9 15 = .bool isb := (Option.some.inj q15).trans h15_8
    have h17_9 : e9 17 = .int .i64 ((cntW s (lA s x) : Nat) : Int) := (Option.some.inj q17).trans h17_8
    have h19_9 : e9 19 = .int .i64 (opened x) := (Option.some.inj q19).trans h19_8
    have h20_9 : e9 20 = .int .i64 0 := (Option.some.inj q20).trans h20_8
    have h21_9 : e9 21 = .slice (some ⟨w6.heap.size, 0, none⟩) 1 1 := Option.some.inj k21
    have hb7 : Below w6.heap.size w6 (w6.alloc (.cells #[.int .i64 s.size] 3)) := (Below.refl _ _).alloc (Nat.le_refl _) _
    have hown : (w6.alloc (.cells #[.int .i64 s.size] 3)).ownsRow w6.heap.size 3 1 (.slice (some ⟨w6.heap.size, 0, none⟩) 1 1) 1 (intCs [s.size]) := ⟨by simp [intCs], .inr ⟨w6.heap.size, 1, _, rfl, Nat.le_refl _, heap_alloc_new w6 _, Nat.le_refl _, by unfold maxLen; omega, by simp, by simp [intCs]⟩⟩
    generalize (w6.alloc (.cells #[.int .i64 s.size] 3)) = w7 at hb7 hown ⊢
    show Code.wp Tryz.prog (Code.seq (whC [1, 1, 1, 1, 1, 1, 1, 1, 1, 1, 1, 1, 0]) (whC [1, 1, 1, 1, 1, 1, 1, 1, 1, 1, 1, 1, 1])) Q _ _
    rw [h6_9, h21_9]
    refine wp_seq (wh15 (W0 := w6) e9 hs32 hown hb7 (fun m w8 o21 c21 P k0 kk k21 hown8 hpl hb8 => ?_))
    obtain ⟨e10, rfl⟩ := frame291 k0
    obtain ⟨q6, q7, q9, q11, q12, q14, q15, q17, q19, q20, -⟩ := kk8 kk
    have h6_10 : e10 6 = .string s := (Option.some.inj q6)
    have h7_10 : e10 7 = .slice o7 (lA s x).length c7 := (Option.some.inj q7).trans h7_9
    have h9_10 : e10 9 = .slice o9 (zsE s x).length c9 := (Option.some.inj q9).trans h9_9
    have h11_10 : e10 11 = .slice o11 n11 c11 := (Option.some.inj q11).trans h11_9
    have h12_10 : e10 12 = .bool okb := (Option.some.inj q12).trans h12_9
    have h14_10 : e10 14 = .pointer (some ⟨v4.heap.size, 0, none⟩) := (Option.some.inj q14).trans h14_9
    have h15_10 : e10 15 = .bool isb := (Option.some.inj q15).trans h15_9
    have h17_10 : e10 17 = .int .i64 ((cntW s (lA s x) : Nat) : Int) := (Option.some.inj q17).trans h17_9
    have h19_10 : e10 19 = .int .i64 (opened x) := (Option.some.inj q19).trans h19_9
    have h20_10 : e10 20 = .int .i64 0 := (Option.some.inj q20).trans h20_9
    have h21_10 : e10 21 = .slice o21 P.length c21 := Option.some.inj k21
    have hb08 := hb06.trans (hb8.mono hb06.size)
    obtain ⟨hp0, hpS, hpl33, hpn⟩ := hpl
    show Code.wp Tryz.prog (Code.seq (whC [1, 1, 1, 1, 1, 1, 1, 1, 1, 1, 1, 1, 1, 0]) (whC [1, 1, 1, 1, 1, 1, 1, 1, 1, 1, 1, 1, 1, 1])) Q _ _
    refine wp_seq (wh19 e10 (fun m k0 kk k23 => ?_))
    obtain ⟨e11, rfl⟩ := frame291 k0
    obtain ⟨q6, q7, q9, q11, q12, q14, q15, q17, q19, q20, q21, -⟩ := kk
    have h6_11 : e11 6 = .string s := (Option.some.inj q6).trans h6_10
    have h7_11 : e11 7 = .slice o7 (lA s x).length c7 := (Option.some.inj q7).trans h7_10
    have h9_11 : e11 9 = .slice o9 (zsE s x).length c9 := (Option.some.inj q9).trans h9_10
    have h11_11 : e11 11 = .slice o11 n11 c11 := (Option.some.inj q11).trans h11_10
    have h12_11 : e11 12 = .bool okb := (Option.some.inj q12).trans h12_10
    have h14_11 : e11 14 = .pointer (some ⟨v4.heap.size, 0, none⟩) := (Option.some.inj q14).trans h14_10
    have h15_11 : e11 15 = .bool isb := (Option.some.inj q15).trans h15_10
    have h17_11 : e11 17 = .int .i64 ((cntW s (lA s x) : Nat) : Int) := (Option.some.inj q17).trans h17_10
    have h19_11 : e11 19 = .int .i64 (opened x) := (Option.some.inj q19).trans h19_10
    have h20_11 : e11 20 = .int .i64 0 := (Option.some.inj q20).trans h20_10
    have h21_11 : e11 21 = .slice o21 P.length c21 := (Option.some.inj q21).trans h21_10
    have h23_11 : e11 23 = .int .i64 0 := Option.some.inj k23
    have hb58 := hb6.trans (hb8.mono hb6.size)
    have hb18 := hb15.trans (hb58.mono hb15.size)
    have hb28 := hb25.trans (hb58.mono hb25.size)
    have hb38 := hb35.trans (hb58.mono hb35.size)
    have hbv8 := hbv5.trans (hb58.mono hbv5.size)
    have hall8 : WaysAt (fun _ => True) w8 (opened x) s.size (.slice o7 (lA s x).length c7) (lA s x) := r7.go (Kept.of_below hb18 (fun _ => False)) (fun _ _ h => ⟨id, h⟩)
    have henv : WhEnv s P (zsE s x) (lA s x) (opened x) s.size o7 o9 o11 o21 c7 c9 c11 n11 c21 v4.heap.size w8 :=
      ⟨hall8, hlen, hs32, by omega, rowOwn hown8 (fun _ _ => trivial), hpl33, kr hb28 r9, hzle, ways_at hp0 hpn,
        fun y hy => by unfold zsE; rw [endsI_mem]; exact ⟨y.stop, List.mem_map_of_mem hy, rfl⟩,
        fun y hy => ⟨_, by have := B14.below (hb5.trans (hb58.mono hb5.size)) (Nat.lt_of_lt_of_le B14.lt (Nat.le_refl _)); rw [(r14 y hy).1] at this; exact this, (r14 y hy).2.kept (Kept.of_below hbv8 (fun _ => False)) (fun _ _ _ => id)⟩,
        fun y hy => (r11 y hy).kept (Kept.of_below hb38 (fun _ => False)) (fun _ _ _ => id)⟩
    show Code.wp Tryz.prog (Code.seq (whC [1, 1, 1, 1, 1, 1, 1, 1, 1, 1, 1, 1, 1, 1, 0]) (whC [1, 1, 1, 1, 1, 1, 1, 1, 1, 1, 1, 1, 1, 1, 1])) Q _ _
    rw [h6_11, h7_11, h9_11, h11_11, h14_11, h19_11, h21_11, h23_11]
    refine wp_seq (wh20 e11 henv (fun m w9 k0 kk k23 hb9 => ?_))
    obtain ⟨e12, rfl⟩ := frame291 k0
    obtain ⟨q6, q7, q9, q11, q12, q14, q15, q17, q19, q20, q21, -⟩ := kk11 kk
    have h6_12 : e12 6 = .string s := (Option.some.inj q6)
    have h7_12 : e12 7 = .slice o7 (lA s x).length c7 := (Option.some.inj q7)
    have h9_12 : e12 9 = .slice o9 (zsE s x).length c9 := (Option.some.inj q9)
    have h11_12 : e12 11 = .slice o11 n11 c11 := (Option.some.inj q11)
    have h12_12 : e12 12 = .bool okb := (Option.some.inj q12).trans h12_11
    have h14_12 : e12 14 = .pointer (some ⟨v4.heap.size, 0, none⟩) := (Option.some.inj q14)
    have h15_12 : e12 15 = .bool isb := (Option.some.inj q15).trans h15_11
    have h17_12 : e12 17 = .int .i64 ((cntW s (lA s x) : Nat) : Int) := (Option.some.inj q17).trans h17_11
    have h19_12 : e12 19 = .int .i64 (opened x) := (Option.some.inj q19)
    have h20_12 : e12 20 = .int .i64 0 := (Option.some.inj q20).trans h20_11
    have h21_12 : e12 21 = .slice o21 P.length c21 := (Option.some.inj q21)
    have h23_12 : e12 23 = .int .i64 (cntW s (lA s x)) := Option.some.inj k23
    have hb09 := hb08.trans (hb9.mono hb08.size)
    have henv9 := henv.below hb9
    have hstp : ∀ z ∈ zsE s x, I64 z ∧ ∃ y ∈ lA s x, (y.stop : Int) = z := fun z hz => by
      unfold zsE at hz
      rw [endsI_mem] at hz
      obtain ⟨q, h1, h2⟩ := hz
      obtain ⟨y, h3, rfl⟩ := List.mem_map.1 h1
      have hyl : y.stop ≤ s.size := by
        obtain ⟨b, off, cap, -, -, -, -, -, hcell⟩ := henv9.ways.cells (List.length_pos_of_mem h3)
        obtain ⟨i, hi, rfl⟩ := List.mem_iff_getElem.1 h3
        obtain ⟨sv, -, -, -, h5, -⟩ := hcell i hi
        exact h5
      exact ⟨⟨by omega, by omega⟩, y, h3, h2.symm⟩
    show Code.wp Tryz.prog (Code.seq (whC [1, 1, 1, 1, 1, 1, 1, 1, 1, 1, 1, 1, 1, 1, 1, 0]) (whC [1, 1, 1, 1, 1, 1, 1, 1, 1, 1, 1, 1, 1, 1, 1, 1])) Q _ _
    rw [h7_12, h9_12]
    refine wp_seq (wh38 e12 henv9.ways hlen henv9.ends hzle (endsI_lt _) hstp (fun m w10 k0 kk hb10 => ?_))
    obtain ⟨e13, rfl⟩ := frame291 k0
    obtain ⟨q6, q7, q9, q12, q15, q17, q20, q23, -⟩ := kk8b kk
    have h6_13 : e13 6 = .string s := (Option.some.inj q6).trans h6_12
    have h7_13 : e13 7 = .slice o7 (lA s x).length c7 := (Option.some.inj q7)
    have h9_13 : e13 9 = .slice o9 (zsE s x).length c9 := (Option.some.inj q9)
    have h12_13 : e13 12 = .bool okb := (Option.some.inj q12).trans h12_12
    have h15_13 : e13 15 = .bool isb := (Option.some.inj q15).trans h15_12
    have h17_13 : e13 17 = .int .i64 ((cntW s (lA s x) : Nat) : Int) := (Option.some.inj q17).trans h17_12
    have h20_13 : e13 20 = .int .i64 0 := (Option.some.inj q20).trans h20_12
    have h23_13 : e13 23 = .int .i64 (cntW s (lA s x)) := (Option.some.inj q23).trans h23_12
    have hb010 := hb09.trans (hb10.mono hb09.size)
    have hct : Calls Tryz.prog 19 #[.slice o9 (zsE s x).length c9, .int .i64 s.size] w10 fun e w'' => e = .returned (.bool okb) ∧ w'' = w10 := by
      have := contI_any (x := (s.size : Int)) (kr hb10 henv9.ends) (by omega)
      rw [cnt_in, ← hok] at this
      exact this
    show Code.wp Tryz.prog (whC [1, 1, 1, 1, 1, 1, 1, 1, 1, 1, 1, 1, 1, 1, 1, 1]) Q _ _
    rw [h6_13, h7_13, h9_13, h12_13, h15_13, h17_13, h20_13, h23_13]
    exact wh44 e13 hs32 hlen (Nat.le_trans (cnt_le s _) hlen) his hok hct (fun m k0 k4 => hRet m w10 k0 k4 hb010)
  · rw [her] at h8_6
    have hz0 : zsE s x = [] := by unfold zsE; rw [hl0]; exact endsI_nil
    have hc0 : cntW s (lA s x) = 0 := by rw [hl0]; rfl
    rw [hc0] at hok
    rw [hl0] at his
    have e12 : okb = false := hok
    have e15 : isb = false := his
    have e11 := hok0 e12
    have e14 := his0 e15
    subst e12 e15 e11
    rw [e14.1, e14.2] at B14
    rw [hl0] at h7_6
    rw [hz0] at h9_6
    rw [hc0] at h17_6
    show Code.wp Tryz.prog (Code.seq (whC [1, 1, 1, 1, 1, 1, 1, 1, 1, 0]) (whC [1, 1, 1, 1, 1, 1, 1, 1, 1, 1])) Q _ _
    rw [h7_6, h8_6, h9_6, h11_6, h12_6, h14_6, h15_6, h17_6]
    exact wp_seq (wh11b e6 (B14.below hb5 (Nat.lt_of_lt_of_le B14.lt (Nat.le_refl _))) (fun m k0 k4 => hRet m w5 k0 k4 hb05))
end Go.Proofs.YtnhjakdmbfadlaaGreatDoor

/- WaysWhole whole. -/
namespace Go.Proofs.YtnhjakdmbfadlaaGreatDoor
open Go.RowKit Wy Mem Grow

theorem min_take' {α : Type} (L : List α) (k : Nat) : L.take (min L.length k) = L.take k := by
  by_cases h : L.length ≤ k
  · rw [Nat.min_eq_left h, List.take_of_length_le (Nat.le_refl _), List.take_of_length_le h]
  · rw [Nat.min_eq_right (by omega)]
theorem sms_take14 {N : Nat → Prop} {w : World} {o : Option Addr} {c : Nat} {L : List Sm} (h : SmsAt N w (.slice o L.length c) L) : L.length ≤ c ∧ SmsAt N w (.slice o (min (L.length : Int) 14).toNat c) (L.take 14) := by
  refine ⟨?_, ?_⟩
  · rcases h.row.at_ with ⟨h0, _⟩ | ⟨b, off, cap, he, h1, _⟩
    · omega
    · simp only [Value.slice.injEq, true_and] at he
      omega
  · have := h.take (n := min L.length 14) rfl (by omega)
    rw [min_take'] at this
    rwa [show (min (L.length : Int) 14).toNat = min L.length 14 by omega]
set_option maxRecDepth 100000 in
theorem wh3m {m1 c1 : Nat} {o1 : Option Addr} {vb : Value} {s : ByteArray} {x : Nd} {W : World} {J : Act → World → Prop} {Q : Exit → Act → World → Prop} (m : List Value) (hm : m.length = 291) (g0 : m[0]? = some (.slice o1 m1 c1)) (g1 : m[1]? = some vb) (h1 : m1 ≤ c1)
    (hmx : Calls Tryz.prog 9 #[.slice o1 (min (m1 : Int) 14).toNat c1] W (Mdx x W))
    (htx : ∀ w', Below W.heap.size W w' → Calls Tryz.prog 12 #[vb, .int .i64 8] w' (fun e w'' => e = .returned (.string s) ∧ Below w'.heap.size w' w''))
    (hJ : ∀ (m : List Value) (w' : World) (b : Nat) (xs : List Value), m.length = 291 → m[5]? = some (.pointer (some ⟨b, 0, none⟩)) → m[6]? = some (.string s) → Blk w' b xs.toArray 27 → NdAt (fun _ => True) w' x xs → Below W.heap.size W w' → J ⟨m.toArray, []⟩ w') :
    Code.wp Tryz.prog (whC [1, 1, 0]) (Exit.then J Q) ⟨m.toArray, []⟩ W := by
  obtain ⟨e, rfl⟩ := frame291 hm
  have g0 : e 0 = .slice o1 m1 c1 := Option.some.inj g0
  have g1 : e 1 = vb := Option.some.inj g1
  rw [g0, g1]
  exact wh3 e h1 hmx htx hJ
set_option maxHeartbeats 8000000 in
set_option maxRecDepth 100000 in
theorem whole_law {N M : Nat → Prop} {w : World} {v1 v2 : Value} {L : List Sm} {B : List Nat} (h1 : SmsAt N w v1 L) (h2 : U8At M w v2 B) (hL : L.length ≤ 9223372036854775807) (hB : B.length ≤ 9223372036854775807) (htab : Lib.Utf8Tabs 0 1 w) (hnone : NoneAt w) :
    Calls Tryz.prog 6 #[v1, v2] w fun e w' => e = .returned (.bool true) ∧ Below w.heap.size w w' := by
  obtain ⟨o1, c1, rfl⟩ := h1.row.slice
  obtain ⟨hc1, hs1⟩ := sms_take14 h1
  have hmx : ∀ w', Below w.heap.size w w' → Calls Tryz.prog 9 #[.slice o1 (min (L.length : Int) 14).toNat c1] w' (Mdx (madeT (L.take 14)) w') := fun w' hb => (made_any (hs1.below hb) (by rw [List.length_take]; omega)).mono fun e w' ⟨cs, h1, h2, h3⟩ => by
    obtain ⟨k, lo, hi, lz, p1, p2, n1, d1, n2, d2, rfl⟩ := nd6k h2
    exact ⟨k, lo, hi, lz, p1, p2, n1, d1, n2, d2, h1, NdAt.mono (fun _ _ => trivial) h2, h3⟩
  have htx : ∀ w', Below w.heap.size w w' → Calls Tryz.prog 12 #[v2, .int .i64 8] w' fun e w'' => e = .returned (.string (strB (textL (B.take 8)))) ∧ Below w'.heap.size w' w'' := fun w' hb => text_any (m := 8) (h2.below hb) (by omega) hB
  have haw := awake_any w htab hnone
  have HMX := Lib.hid hmx
  have HTX := Lib.hid htx
  have HAW := Lib.hid haw
  have HT := Lib.hid htab
  have HN := Lib.hid hnone
  clear h1 h2 hs1 hmx htx haw htab hnone hL hB
  go_enter Tryz.func6, Tryz.ntmps6
  go_upto_region 3 with (go_at_call 10; go_loud (refine HAW.out.mono ?_; rintro ee w1 ⟨rfl, hb1⟩; have HB1 := Lib.hid hb1; clear hb1))
  rename_i K1 hK1
  have hss : (strB (textL (B.take 8))).size ≤ 24 := text_size B 8 (by omega)
  have hsv : Lib.validD (strB (textL (B.take 8))).data.toList = true := text_valid _
  have gx : Wy.Good (madeT (L.take 14)) 15 14 := made_good _ (take_le20 L 14)
  generalize strB (textL (B.take 8)) = s at HTX hss hsv
  have nx : nodes (madeT (L.take 14)) ≤ 21 := nodes_made _
  refine wh3m _ rfl rfl rfl hc1 (HMX.out _ HB1.out) (fun w' hb => HTX.out w' (HB1.out.trans (hb.mono HB1.out.size))) (fun m w2 b xs k0 k5 k6 B9 X hb2 => hK1 _ _ ?_)
  have hb12 := HB1.out.trans (hb2.mono HB1.out.size)
  obtain ⟨kx, lox, hix, lzx, px1, px2, nx1, dx1, nx2, dx2, rfl⟩ := nd6k X
  refine wh_rest (W0 := w) m k0 k5 k6 B9 X gx nx hss hsv HT.out HN.out hb12 (fun m w3 h0 h4 hb3 => ?_)
  obtain ⟨f, rfl⟩ := frame291 h0
  have h4 : f 4 = .bool true := Option.some.inj h4
  rw [h4]
  exact bodyPost_ret (v := .bool true) (by simp [results, Tryz.results6, go_sem]) rfl ⟨rfl, hb3⟩
end Go.Proofs.YtnhjakdmbfadlaaGreatDoor
