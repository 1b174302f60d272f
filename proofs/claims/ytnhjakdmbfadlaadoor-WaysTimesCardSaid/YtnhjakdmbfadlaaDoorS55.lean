/- Parts of the proof: Th, Ti. Conditions: none. -/
import Derived.Test.YtnhjakdmbfadlaaDoorS54
import Derived.Test.YtnhjakdmbfadlaaDoorS52
import Derived.Test.YtnhjakdmbfadlaaDoorS42
set_option linter.all false
/- WaysTimes: its pieces joined. -/
namespace Go.Proofs.YtnhjakdmbfadlaaDoor
open Go.RowKit Wy Mem Grow

set_option maxHeartbeats 8000000 in
set_option maxRecDepth 100000 in
theorem th_c {xb : Nat} {s : ByteArray} {k lo hi : Int} {lz : Bool} {p1 p2 : Option Addr} {n1 d1 n2 d2 : Nat} {a z : Int} {W0 W : World} {Q : Exit → Act → World → Prop} (m : List Value) (hm : m.length = 182) (g9 : m[9]? = some (.pointer (some ⟨xb, 0, none⟩))) (g10 : m[10]? = some (.string s)) (g13 : m[13]? = some (.func (.func 17) #[] #[.pointer (some ⟨xb, 0, none⟩)])) (g14 : m[14]? = some (.int .i64 a)) (g15 : m[15]? = some (.int .i64 z))
    (hB : Blk W xb #[.int .u8 k, .slice p1 n1 d1, .int .i64 lo, .int .i64 hi, .bool lz, .slice p2 n2 d2] 28) (ha0 : 1 ≤ a) (ha : a ≤ 3) (hz : z = -1 ∨ a ≤ z ∧ z ≤ 6) (hss : s.size ≤ 24) (hv : Lib.validD s.data.toList = true) (htab : Lib.Utf8Tabs 0 1 W0) (hnone : NoneAt W0) (hxb : W0.heap.size ≤ xb) (hb : Below W0.heap.size W0 W)
    (hRet : ∀ (m : List Value) (w' : World), m.length = 182 → m[8]? = some (.bool true) → Below W0.heap.size W0 w' → Q .ret ⟨m.toArray, []⟩ w') :
    Code.wp Tryd.prog (tmC [1, 1, 1, 1, 1, 1, 1, 1, 1, 1, 1, 1, 1, 1, 1, 1, 1, 1]) Q ⟨m.toArray, []⟩ W := by
  have go : ∀ {w w' : World} {t : Nd} {cs : List Value}, Below w.heap.size w w' → NdAt (fun _ => True) w t cs → NdAt (fun _ => True) w' t cs := fun hb hn => NdAt.go (Kept.of_below hb (fun _ => False)) (fun _ _ h => ⟨id, h⟩) hn
  have rgo : ∀ {w w' : World} {v : Value} {n : Nat} {cs : List Value}, Below w.heap.size w w' → Row (fun _ => True) w v n 1 cs → Row (fun _ => True) w' v n 1 cs := fun hb hn => RowGo hn (Kept.of_below hb (fun _ => False)) (fun _ _ h => ⟨id, h⟩)
  obtain ⟨e0, rfl⟩ := frame182 hm
  have h9_0 : e0 9 = .pointer (some ⟨xb, 0, none⟩) := Option.some.inj g9
  have h10_0 : e0 10 = .string s := Option.some.inj g10
  have h13_0 : e0 13 = .func (.func 17) #[] #[.pointer (some ⟨xb, 0, none⟩)] := Option.some.inj g13
  have h14_0 : e0 14 = .int .i64 a := Option.some.inj g14
  have h15_0 : e0 15 = .int .i64 z := Option.some.inj g15
  show Code.wp Tryd.prog (Code.seq (tmC [1, 1, 1, 1, 1, 1, 1, 1, 1, 1, 1, 1, 1, 1, 1, 1, 1, 1, 0]) (tmC [1, 1, 1, 1, 1, 1, 1, 1, 1, 1, 1, 1, 1, 1, 1, 1, 1, 1, 1])) Q _ _
  rw [h9_0]
  refine wp_seq (tm24 e0 hB (fun m w1 cs1 k0 kk B1 X1 hk => ?_))
  obtain ⟨e1, rfl⟩ := frame182 k0
  obtain ⟨q9, q10, q13, q14, q15, -⟩ := kk
  have h9_1 : e1 9 = .pointer (some ⟨xb, 0, none⟩) := (Option.some.inj q9)
  have h10_1 : e1 10 = .string s := (Option.some.inj q10).trans h10_0
  have h13_1 : e1 13 = .func (.func 17) #[] #[.pointer (some ⟨xb, 0, none⟩)] := (Option.some.inj q13).trans h13_0
  have h14_1 : e1 14 = .int .i64 a := (Option.some.inj q14).trans h14_0
  have h15_1 : e1 15 = .int .i64 z := (Option.some.inj q15).trans h15_0
  skip
  have hb1 : Below W0.heap.size W0 w1 := hb.trans (hk.belowOf hb.size (fun i hi he => by omega))
  have hset := set_eE (s := s) (by omega) (a - 1) z
  have r25 : right (rpT (a - 1) z false ltT) = true := (good_rep lt_good false (by omega) (by omega) (by omega) (fun h => absurd h (by rw [lt_null]; decide))).right (by omega) (by omega)
  have r26 : right (rpT (a - 1) z true ltT) = true := (good_rep lt_good true (by omega) (by omega) (by omega) (fun h => absurd h (by rw [lt_null]; decide))).right (by omega) (by omega)
  have n25 : nodes (rpT (a - 1) z false ltT) ≤ 1000000 := by simp only [rpT, ltT, nodes, nodesL]; omega
  have n26 : nodes (rpT (a - 1) z true ltT) ≤ 1000000 := by simp only [rpT, ltT, nodes, nodesL]; omega
  show Code.wp Tryd.prog (Code.seq (tmC [1, 1, 1, 1, 1, 1, 1, 1, 1, 1, 1, 1, 1, 1, 1, 1, 1, 1, 1, 0]) (tmC [1, 1, 1, 1, 1, 1, 1, 1, 1, 1, 1, 1, 1, 1, 1, 1, 1, 1, 1, 1])) Q _ _
  rw [h10_1, h13_1, h14_1, h15_1]
  refine wp_seq (tm25 e1 ha0 ha (trt_any (lo := a - 1) (hi := z) B1 X1 ⟨by omega, by omega⟩ ⟨by omega, by omega⟩ false) (fun w' cs hb' hn' => eoc_any hn' r25 n25 (by omega) hv (tabs_below htab hnone (hb1.trans (hb'.mono hb1.size))) (hnone.below (hb1.trans (hb'.mono hb1.size))) rfl rfl hset.1.symm) (fun m w2 op cp k0 kk k17 k18 hp hb2 => ?_))
  obtain ⟨e2, rfl⟩ := frame182 k0
  obtain ⟨q9, q10, q13, q14, q15, -⟩ := kk
  have h9_2 : e2 9 = .pointer (some ⟨xb, 0, none⟩) := (Option.some.inj q9).trans h9_1
  have h10_2 : e2 10 = .string s := (Option.some.inj q10)
  have h13_2 : e2 13 = .func (.func 17) #[] #[.pointer (some ⟨xb, 0, none⟩)] := (Option.some.inj q13)
  have h14_2 : e2 14 = .int .i64 a := (Option.some.inj q14)
  have h15_2 : e2 15 = .int .i64 z := (Option.some.inj q15)
  have h17_2 : e2 17 = .slice op (eE s (rpT (a - 1) z false ltT)).length cp := Option.some.inj k17
  have h18_2 : e2 18 = .int .i64 0 := Option.some.inj k18
  skip
  have hb12 := hb1.trans (hb2.mono hb1.size)
  have X2 := go hb2 X1
  have B2 := B1.below hb2 B1.lt
  show Code.wp Tryd.prog (Code.seq (tmC [1, 1, 1, 1, 1, 1, 1, 1, 1, 1, 1, 1, 1, 1, 1, 1, 1, 1, 1, 1, 0]) (tmC [1, 1, 1, 1, 1, 1, 1, 1, 1, 1, 1, 1, 1, 1, 1, 1, 1, 1, 1, 1, 1])) Q _ _
  rw [h10_2, h13_2, h14_2, h15_2]
  refine wp_seq (tm26 e2 ha0 ha (trt_any (lo := a - 1) (hi := z) B2 X2 ⟨by omega, by omega⟩ ⟨by omega, by omega⟩ true) (fun w' cs hb' hn' => eoo_any hn' r26 n26 (by omega) hv (tabs_below htab hnone (hb12.trans (hb'.mono hb12.size))) (hnone.below (hb12.trans (hb'.mono hb12.size))) hset.2.2.symm List.length_reverse.symm hset.2.1.symm) (fun m w3 oq cq Bq k0 kk k19 k20 hq hBq hb3 => ?_))
  obtain ⟨e3, rfl⟩ := frame182 k0
  obtain ⟨q17, q18, -⟩ := kk
  have h17_3 : e3 17 = .slice op (eE s (rpT (a - 1) z false ltT)).length cp := (Option.some.inj q17).trans h17_2
  have h18_3 : e3 18 = .int .i64 0 := (Option.some.inj q18).trans h18_2
  have h19_3 : e3 19 = .slice oq (eE s (rpT (a - 1) z false ltT)).length cq := Option.some.inj k19
  have h20_3 : e3 20 = .int .i64 0 := Option.some.inj k20
  skip
  have hlen : (eE s (rpT (a - 1) z false ltT)).length ≤ 500 := eE_len s _
  have hb13 := hb12.trans (hb3.mono hb12.size)
  generalize hL : eE s (rpT (a - 1) z false ltT) = L at *
  show Code.wp Tryd.prog (Code.seq (tmC [1, 1, 1, 1, 1, 1, 1, 1, 1, 1, 1, 1, 1, 1, 1, 1, 1, 1, 1, 1, 1, 0]) (tmC [1, 1, 1, 1, 1, 1, 1, 1, 1, 1, 1, 1, 1, 1, 1, 1, 1, 1, 1, 1, 1, 1])) Q _ _
  rw [h19_3]
  refine wp_seq (tm27 e3 List.length_reverse.symm hlen hq (fun m w4 k0 kk hq4 hk4 => ?_))
  obtain ⟨e4, rfl⟩ := frame182 k0
  obtain ⟨q17, q18, q19, q20, -⟩ := kk
  have h17_4 : e4 17 = .slice op L.length cp := (Option.some.inj q17).trans h17_3
  have h18_4 : e4 18 = .int .i64 0 := (Option.some.inj q18).trans h18_3
  have h19_4 : e4 19 = .slice oq L.length cq := (Option.some.inj q19)
  have h20_4 : e4 20 = .int .i64 0 := (Option.some.inj q20).trans h20_3
  skip
  rw [List.reverse_reverse] at hq4
  have hp4 : Row (fun _ => True) w4 (.slice op L.length cp) L.length 1 (intCs L) := RowGo (RowGo hp (Kept.of_below hb3 (fun _ => False)) (M := fun b => b < w2.heap.size) (fun b hlt _ => ⟨id, hlt⟩)) hk4 (fun b _ hlt => ⟨fun he => by have := (hq.lt b he).1; omega, trivial⟩)
  have hb4 : Below W0.heap.size W0 w4 := hb13.trans (hk4.belowOf hb13.size (fun i hi he => by have := (hq.lt i he).1; have := hb12.size; omega))
  show Code.wp Tryd.prog (tmC [1, 1, 1, 1, 1, 1, 1, 1, 1, 1, 1, 1, 1, 1, 1, 1, 1, 1, 1, 1, 1, 1]) Q _ _
  rw [h17_4, h18_4, h19_4, h20_4]
  exact tm28 e4 rfl hlen hp4 (rowOwn hq4 (fun _ _ => trivial)) (fun m w' k0 k8 hb' => hRet m w' k0 k8 (hb4.trans (hb'.mono hb4.size)))
set_option maxHeartbeats 8000000 in
set_option maxRecDepth 100000 in
theorem th_b {xb : Nat} {s : ByteArray} {x : Nd} {k lo hi : Int} {lz : Bool} {p1 p2 : Option Addr} {n1 d1 n2 d2 : Nat} {a z : Int} {W0 W : World} {Q : Exit → Act → World → Prop} (m : List Value) (hm : m.length = 182) (g9 : m[9]? = some (.pointer (some ⟨xb, 0, none⟩))) (g10 : m[10]? = some (.string s)) (g13 : m[13]? = some (.func (.func 17) #[] #[.pointer (some ⟨xb, 0, none⟩)])) (g14 : m[14]? = some (.int .i64 a)) (g15 : m[15]? = some (.int .i64 z))
    (hB : Blk W xb #[.int .u8 k, .slice p1 n1 d1, .int .i64 lo, .int .i64 hi, .bool lz, .slice p2 n2 d2] 28) (hx : NdAt (fun _ => True) W x [.int .u8 k, .slice p1 n1 d1, .int .i64 lo, .int .i64 hi, .bool lz, .slice p2 n2 d2]) (gx : Wy.Good x 8 6) (nx : nodes x ≤ 100) (hnl : (Wy.look x).nullable = false) (ha0 : 1 ≤ a) (ha : a ≤ 3) (hz : z = -1 ∨ a ≤ z ∧ z ≤ 6) (hss : s.size ≤ 24) (hv : Lib.validD s.data.toList = true) (htab : Lib.Utf8Tabs 0 1 W0) (hnone : NoneAt W0) (hxb : W0.heap.size ≤ xb) (hb : Below W0.heap.size W0 W)
    (hRet : ∀ (m : List Value) (w' : World), m.length = 182 → m[8]? = some (.bool true) → Below W0.heap.size W0 w' → Q .ret ⟨m.toArray, []⟩ w') :
    Code.wp Tryd.prog (tmC [1, 1, 1, 1, 1, 1, 1, 1, 1, 1, 1, 1, 1, 1]) Q ⟨m.toArray, []⟩ W := by
  have go : ∀ {w w' : World} {t : Nd} {cs : List Value}, Below w.heap.size w w' → NdAt (fun _ => True) w t cs → NdAt (fun _ => True) w' t cs := fun hb hn => NdAt.go (Kept.of_below hb (fun _ => False)) (fun _ _ h => ⟨id, h⟩) hn
  have rgo : ∀ {w w' : World} {v : Value} {n : Nat} {cs : List Value}, Below w.heap.size w w' → Row (fun _ => True) w v n 1 cs → Row (fun _ => True) w' v n 1 cs := fun hb hn => RowGo hn (Kept.of_below hb (fun _ => False)) (fun _ _ h => ⟨id, h⟩)
  obtain ⟨e0, rfl⟩ := frame182 hm
  have h9_0 : e0 9 = .pointer (some ⟨xb, 0, none⟩) := Option.some.inj g9
  have h10_0 : e0 10 = .string s := Option.some.inj g10
  have h13_0 : e0 13 = .func (.func 17) #[] #[.pointer (some ⟨xb, 0, none⟩)] := Option.some.inj g13
  have h14_0 : e0 14 = .int .i64 a := Option.some.inj g14
  have h15_0 : e0 15 = .int .i64 z := Option.some.inj g15
  have rx : right x = true := gx.right (by omega) (by omega)
  have nx' : nodes x ≤ 1000000 := by omega
  have rm : ∀ lz, right (rpT 0 1 lz x) = true := fun lz => (good_rep gx lz (by omega) (by omega) (by omega) (fun h => absurd h (by rw [hnl]; decide))).right (by omega) (by omega)
  have nm : ∀ lz, nodes (rpT 0 1 lz x) ≤ 1000000 := fun lz => by simp only [rpT, nodes, nodesL]; omega
  show Code.wp Tryd.prog (Code.seq (tmC [1, 1, 1, 1, 1, 1, 1, 1, 1, 1, 1, 1, 1, 1, 0]) (tmC [1, 1, 1, 1, 1, 1, 1, 1, 1, 1, 1, 1, 1, 1, 1])) Q _ _
  rw [h9_0, h10_0]
  refine wp_seq (tm19 e0 hB (eoc_any hx rx nx' (by omega) hv (tabs_below htab hnone hb) (hnone.below hb) rfl rfl rfl) (fun m w1 o3 c3 k0 kk k21 k22 r3 hb1 => ?_))
  obtain ⟨e1, rfl⟩ := frame182 k0
  obtain ⟨q9, q10, q13, q14, q15, -⟩ := kk
  have h9_1 : e1 9 = .pointer (some ⟨xb, 0, none⟩) := (Option.some.inj q9)
  have h10_1 : e1 10 = .string s := (Option.some.inj q10)
  have h13_1 : e1 13 = .func (.func 17) #[] #[.pointer (some ⟨xb, 0, none⟩)] := (Option.some.inj q13).trans h13_0
  have h14_1 : e1 14 = .int .i64 a := (Option.some.inj q14).trans h14_0
  have h15_1 : e1 15 = .int .i64 z := (Option.some.inj q15).trans h15_0
  have h21_1 : e1 21 = .slice o3 (eE s x).length c3 := Option.some.inj k21
  have h22_1 : e1 22 = .int .i64 (erW s x) := Option.some.inj k22
  skip
  have hb01 := hb.trans (hb1.mono hb.size)
  have B1 := hB.below hb1 hB.lt
  have X1 := go hb1 hx
  show Code.wp Tryd.prog (Code.seq (tmC [1, 1, 1, 1, 1, 1, 1, 1, 1, 1, 1, 1, 1, 1, 1, 0]) (tmC [1, 1, 1, 1, 1, 1, 1, 1, 1, 1, 1, 1, 1, 1, 1, 1])) Q _ _
  rw [h10_1, h13_1]
  refine wp_seq (tm20 e1 (trt_any (lo := 0) (hi := 1) B1 X1 ⟨by omega, by omega⟩ ⟨by omega, by omega⟩ false) (fun w' cs hb' hn' => eoc_any hn' (rm false) (nm false) (by omega) hv (tabs_below htab hnone (hb01.trans (hb'.mono hb01.size))) (hnone.below (hb01.trans (hb'.mono hb01.size))) rfl rfl rfl) (fun m w2 o4 c4 k0 kk k23 k24 r4 hb2 => ?_))
  obtain ⟨e2, rfl⟩ := frame182 k0
  obtain ⟨q9, q10, q13, q14, q15, q21, q22, -⟩ := kk
  have h9_2 : e2 9 = .pointer (some ⟨xb, 0, none⟩) := (Option.some.inj q9).trans h9_1
  have h10_2 : e2 10 = .string s := (Option.some.inj q10)
  have h13_2 : e2 13 = .func (.func 17) #[] #[.pointer (some ⟨xb, 0, none⟩)] := (Option.some.inj q13)
  have h14_2 : e2 14 = .int .i64 a := (Option.some.inj q14).trans h14_1
  have h15_2 : e2 15 = .int .i64 z := (Option.some.inj q15).trans h15_1
  have h21_2 : e2 21 = .slice o3 (eE s x).length c3 := (Option.some.inj q21).trans h21_1
  have h22_2 : e2 22 = .int .i64 (erW s x) := (Option.some.inj q22).trans h22_1
  have h23_2 : e2 23 = .slice o4 (eE s (rpT 0 1 false x)).length c4 := Option.some.inj k23
  have h24_2 : e2 24 = .int .i64 (erW s (rpT 0 1 false x)) := Option.some.inj k24
  skip
  have hb02 := hb01.trans (hb2.mono hb01.size)
  have B2 := B1.below hb2 B1.lt
  have X2 := go hb2 X1
  show Code.wp Tryd.prog (Code.seq (tmC [1, 1, 1, 1, 1, 1, 1, 1, 1, 1, 1, 1, 1, 1, 1, 1, 0]) (tmC [1, 1, 1, 1, 1, 1, 1, 1, 1, 1, 1, 1, 1, 1, 1, 1, 1])) Q _ _
  rw [h10_2, h13_2]
  refine wp_seq (tm21 e2 (trt_any (lo := 0) (hi := 1) B2 X2 ⟨by omega, by omega⟩ ⟨by omega, by omega⟩ true) (fun w' cs hb' hn' => eoc_any hn' (rm true) (nm true) (by omega) hv (tabs_below htab hnone (hb02.trans (hb'.mono hb02.size))) (hnone.below (hb02.trans (hb'.mono hb02.size))) rfl rfl rfl) (fun m w3 o5 c5 k0 kk k25 k26 r5 hb3 => ?_))
  obtain ⟨e3, rfl⟩ := frame182 k0
  obtain ⟨q9, q10, q13, q14, q15, q21, q22, q23, q24, -⟩ := kk
  have h9_3 : e3 9 = .pointer (some ⟨xb, 0, none⟩) := (Option.some.inj q9).trans h9_2
  have h10_3 : e3 10 = .string s := (Option.some.inj q10)
  have h13_3 : e3 13 = .func (.func 17) #[] #[.pointer (some ⟨xb, 0, none⟩)] := (Option.some.inj q13)
  have h14_3 : e3 14 = .int .i64 a := (Option.some.inj q14).trans h14_2
  have h15_3 : e3 15 = .int .i64 z := (Option.some.inj q15).trans h15_2
  have h21_3 : e3 21 = .slice o3 (eE s x).length c3 := (Option.some.inj q21).trans h21_2
  have h22_3 : e3 22 = .int .i64 (erW s x) := (Option.some.inj q22).trans h22_2
  have h23_3 : e3 23 = .slice o4 (eE s (rpT 0 1 false x)).length c4 := (Option.some.inj q23).trans h23_2
  have h24_3 : e3 24 = .int .i64 (erW s (rpT 0 1 false x)) := (Option.some.inj q24).trans h24_2
  have h25_3 : e3 25 = .slice o5 (eE s (rpT 0 1 true x)).length c5 := Option.some.inj k25
  have h26_3 : e3 26 = .int .i64 (erW s (rpT 0 1 true x)) := Option.some.inj k26
  skip
  have hb03 := hb02.trans (hb3.mono hb02.size)
  have B3 := B2.below hb3 B2.lt
  have e05 : erW s x = 0 ∨ erW s x = 5 := by unfold erW; split <;> simp
  have hlaw : erW s x = 0 → (eE s x).length < 500 → erW s (rpT 0 1 false x) = 0 ∧ erW s (rpT 0 1 true x) = 0 ∧ eE s (rpT 0 1 false x) = eE s x ++ [0] ∧ eE s (rpT 0 1 true x) = 0 :: eE s x := fun h0 hl => ⟨(maybe_eE h0 hl false).2, (maybe_eE h0 hl true).2, (maybe_eE h0 hl false).1, (maybe_eE h0 hl true).1⟩
  show Code.wp Tryd.prog (Code.seq (tmC [1, 1, 1, 1, 1, 1, 1, 1, 1, 1, 1, 1, 1, 1, 1, 1, 1, 0]) (tmC [1, 1, 1, 1, 1, 1, 1, 1, 1, 1, 1, 1, 1, 1, 1, 1, 1, 1])) Q _ _
  rw [h21_3, h22_3, h23_3, h24_3, h25_3, h26_3]
  refine wp_seq (tm22 e3 (rgo hb3 (rgo hb2 r3)) rfl (rgo hb3 r4) rfl r5 rfl (eE_len s x) e05 hlaw (fun m w4 k0 kk hb4 => ?_))
  obtain ⟨e4, rfl⟩ := frame182 k0
  obtain ⟨q9, q10, q13, q14, q15, -⟩ := kk
  have h9_4 : e4 9 = .pointer (some ⟨xb, 0, none⟩) := (Option.some.inj q9).trans h9_3
  have h10_4 : e4 10 = .string s := (Option.some.inj q10).trans h10_3
  have h13_4 : e4 13 = .func (.func 17) #[] #[.pointer (some ⟨xb, 0, none⟩)] := (Option.some.inj q13).trans h13_3
  have h14_4 : e4 14 = .int .i64 a := (Option.some.inj q14).trans h14_3
  have h15_4 : e4 15 = .int .i64 z := (Option.some.inj q15).trans h15_3
  skip
  have hb04 := hb03.trans (hb4.mono hb03.size)
  exact th_c _ k0 (congrArg some h9_4) (congrArg some h10_4) (congrArg some h13_4) (congrArg some h14_4) (congrArg some h15_4) (B3.below hb4 B3.lt) ha0 ha hz hss hv htab hnone hxb hb04 hRet
set_option maxHeartbeats 8000000 in
set_option maxRecDepth 100000 in
theorem th_a {xb : Nat} {s : ByteArray} {x : Nd} {k lo hi : Int} {lz : Bool} {p1 p2 : Option Addr} {n1 d1 n2 d2 : Nat} {a z less : Int} {W0 W : World} {Q : Exit → Act → World → Prop} (m : List Value) (hm : m.length = 182) (g9 : m[9]? = some (.pointer (some ⟨xb, 0, none⟩))) (g10 : m[10]? = some (.string s)) (g13 : m[13]? = some (.func (.func 17) #[] #[.pointer (some ⟨xb, 0, none⟩)])) (g14 : m[14]? = some (.int .i64 a)) (g15 : m[15]? = some (.int .i64 z)) (g16 : m[16]? = some (.int .i64 less))
    (hB : Blk W xb #[.int .u8 k, .slice p1 n1 d1, .int .i64 lo, .int .i64 hi, .bool lz, .slice p2 n2 d2] 28) (hx : NdAt (fun _ => True) W x [.int .u8 k, .slice p1 n1 d1, .int .i64 lo, .int .i64 hi, .bool lz, .slice p2 n2 d2]) (gx : Wy.Good x 8 6) (nx : nodes x ≤ 100) (hnl : (Wy.look x).nullable = false) (ha0 : 1 ≤ a) (ha : a ≤ 3) (hz : z = -1 ∨ a ≤ z ∧ z ≤ 6) (hh : z = -1 ∧ less = -1 ∨ z ≠ -1 ∧ less = z - 1 ∧ 0 ≤ less) (hss : s.size ≤ 24) (hv : Lib.validD s.data.toList = true) (htab : Lib.Utf8Tabs 0 1 W0) (hnone : NoneAt W0) (hxb : W0.heap.size ≤ xb) (hb : Below W0.heap.size W0 W)
    (hRet : ∀ (m : List Value) (w' : World), m.length = 182 → m[8]? = some (.bool true) → Below W0.heap.size W0 w' → Q .ret ⟨m.toArray, []⟩ w') :
    Code.wp Tryd.prog (tmC [1, 1, 1, 1, 1, 1, 1, 1, 1, 1, 1]) Q ⟨m.toArray, []⟩ W := by
  have go : ∀ {w w' : World} {t : Nd} {cs : List Value}, Below w.heap.size w w' → NdAt (fun _ => True) w t cs → NdAt (fun _ => True) w' t cs := fun hb hn => NdAt.go (Kept.of_below hb (fun _ => False)) (fun _ _ h => ⟨id, h⟩) hn
  have rgo : ∀ {w w' : World} {v : Value} {n : Nat} {cs : List Value}, Below w.heap.size w w' → Row (fun _ => True) w v n 1 cs → Row (fun _ => True) w' v n 1 cs := fun hb hn => RowGo hn (Kept.of_below hb (fun _ => False)) (fun _ _ h => ⟨id, h⟩)
  obtain ⟨e0, rfl⟩ := frame182 hm
  have h9_0 : e0 9 = .pointer (some ⟨xb, 0, none⟩) := Option.some.inj g9
  have h10_0 : e0 10 = .string s := Option.some.inj g10
  have h13_0 : e0 13 = .func (.func 17) #[] #[.pointer (some ⟨xb, 0, none⟩)] := Option.some.inj g13
  have h14_0 : e0 14 = .int .i64 a := Option.some.inj g14
  have h15_0 : e0 15 = .int .i64 z := Option.some.inj g15
  have h16_0 : e0 16 = .int .i64 less := Option.some.inj g16
  have g1 : Wy.Good (rpT a z false x) 9 6 := good_rep gx false (by omega) (by omega) (by omega) (fun h => absurd h (by rw [hnl]; decide))
  have g2 : Wy.Good (rpT (a - 1) less false x) 9 6 := good_rep gx false (by omega) (by omega) (by omega) (fun h => absurd h (by rw [hnl]; decide))
  have r1 : right (rpT a z false x) = true := g1.right (by omega) (by omega)
  have r2 : right (catT x (rpT (a - 1) less false x)) = true := pair_right (.inl rfl) (gx.mono (by omega) (Nat.le_refl _)) g2 (by omega) (by omega)
  have m1 : nodes (rpT a z false x) ≤ 1000000 := by simp only [rpT, nodes, nodesL]; omega
  have m2 : nodes (catT x (rpT (a - 1) less false x)) ≤ 1000000 := by simp only [catT, rpT, nodes, nodesL]; omega
  show Code.wp Tryd.prog (Code.seq (tmC [1, 1, 1, 1, 1, 1, 1, 1, 1, 1, 1, 0]) (tmC [1, 1, 1, 1, 1, 1, 1, 1, 1, 1, 1, 1])) Q _ _
  rw [h10_0, h13_0, h14_0, h15_0]
  refine wp_seq (tm15 e0 (trt_any (lo := a) (hi := z) hB hx ⟨by omega, by omega⟩ ⟨by omega, by omega⟩ false) (fun w' cs hb' hn' => eoc_any hn' r1 m1 (by omega) hv (tabs_below htab hnone (hb.trans (hb'.mono hb.size))) (hnone.below (hb.trans (hb'.mono hb.size))) rfl rfl rfl) (fun m w1 op cp k0 kk k17 k18 hp hb1 => ?_))
  obtain ⟨e1, rfl⟩ := frame182 k0
  obtain ⟨q9, q10, q13, q14, q15, q16, -⟩ := kk
  have h9_1 : e1 9 = .pointer (some ⟨xb, 0, none⟩) := (Option.some.inj q9).trans h9_0
  have h10_1 : e1 10 = .string s := (Option.some.inj q10)
  have h13_1 : e1 13 = .func (.func 17) #[] #[.pointer (some ⟨xb, 0, none⟩)] := (Option.some.inj q13)
  have h14_1 : e1 14 = .int .i64 a := (Option.some.inj q14)
  have h15_1 : e1 15 = .int .i64 z := (Option.some.inj q15)
  have h16_1 : e1 16 = .int .i64 less := (Option.some.inj q16).trans h16_0
  have h17_1 : e1 17 = .slice op (eE s (rpT a z false x)).length cp := Option.some.inj k17
  have h18_1 : e1 18 = .int .i64 (erW s (rpT a z false x)) := Option.some.inj k18
  skip
  have hb01 := hb.trans (hb1.mono hb.size)
  have B1 := hB.below hb1 hB.lt
  have X1 := go hb1 hx
  show Code.wp Tryd.prog (Code.seq (tmC [1, 1, 1, 1, 1, 1, 1, 1, 1, 1, 1, 1, 0]) (tmC [1, 1, 1, 1, 1, 1, 1, 1, 1, 1, 1, 1, 1])) Q _ _
  rw [h9_1, h10_1, h13_1, h14_1, h16_1]
  refine wp_seq (tm16 e1 ha0 ha B1 X1 (fun w' hb' => trt_any (lo := a - 1) (hi := less) (B1.below hb' B1.lt) (go hb' X1) ⟨by omega, by omega⟩ ⟨by omega, by omega⟩ false) (fun w' cs hb' hn' => eoc_any hn' r2 m2 (by omega) hv (tabs_below htab hnone (hb01.trans (hb'.mono hb01.size))) (hnone.below (hb01.trans (hb'.mono hb01.size))) rfl rfl rfl) (fun m w2 oq cq k0 kk k19 k20 hq hb2 => ?_))
  obtain ⟨e2, rfl⟩ := frame182 k0
  obtain ⟨q9, q10, q13, q14, q15, q17, q18, -⟩ := kk
  have h9_2 : e2 9 = .pointer (some ⟨xb, 0, none⟩) := (Option.some.inj q9)
  have h10_2 : e2 10 = .string s := (Option.some.inj q10)
  have h13_2 : e2 13 = .func (.func 17) #[] #[.pointer (some ⟨xb, 0, none⟩)] := (Option.some.inj q13)
  have h14_2 : e2 14 = .int .i64 a := (Option.some.inj q14)
  have h15_2 : e2 15 = .int .i64 z := (Option.some.inj q15).trans h15_1
  have h17_2 : e2 17 = .slice op (eE s (rpT a z false x)).length cp := (Option.some.inj q17).trans h17_1
  have h18_2 : e2 18 = .int .i64 (erW s (rpT a z false x)) := (Option.some.inj q18).trans h18_1
  have h19_2 : e2 19 = .slice oq (eE s (catT x (rpT (a - 1) less false x))).length cq := Option.some.inj k19
  have h20_2 : e2 20 = .int .i64 (erW s (catT x (rpT (a - 1) less false x))) := Option.some.inj k20
  skip
  have hb02 := hb01.trans (hb2.mono hb01.size)
  have B2 := B1.below hb2 B1.lt
  have X2 := go hb2 X1
  have e05 : ∀ t, erW s t = 0 ∨ erW s t = 5 := fun t => by unfold erW; split <;> simp
  show Code.wp Tryd.prog (Code.seq (tmC [1, 1, 1, 1, 1, 1, 1, 1, 1, 1, 1, 1, 1, 0]) (tmC [1, 1, 1, 1, 1, 1, 1, 1, 1, 1, 1, 1, 1, 1])) Q _ _
  rw [h17_2, h18_2, h19_2, h20_2]
  refine wp_seq (tm17 e2 (rgo hb2 hp) rfl hq rfl (eE_len s _) (eE_len s _) (e05 _) (e05 _) (fun h1 h2 => times_eE ha0 hh h1 h2) (fun m w3 k0 kk hb3 => ?_))
  obtain ⟨e3, rfl⟩ := frame182 k0
  obtain ⟨q9, q10, q13, q14, q15, -⟩ := kk
  have h9_3 : e3 9 = .pointer (some ⟨xb, 0, none⟩) := (Option.some.inj q9).trans h9_2
  have h10_3 : e3 10 = .string s := (Option.some.inj q10).trans h10_2
  have h13_3 : e3 13 = .func (.func 17) #[] #[.pointer (some ⟨xb, 0, none⟩)] := (Option.some.inj q13).trans h13_2
  have h14_3 : e3 14 = .int .i64 a := (Option.some.inj q14).trans h14_2
  have h15_3 : e3 15 = .int .i64 z := (Option.some.inj q15).trans h15_2
  skip
  have hb03 := hb02.trans (hb3.mono hb02.size)
  exact th_b _ k0 (congrArg some h9_3) (congrArg some h10_3) (congrArg some h13_3) (congrArg some h14_3) (congrArg some h15_3) (B2.below hb3 B2.lt) (go hb3 X2) gx nx hnl ha0 ha hz hss hv htab hnone hxb hb03 hRet
set_option maxHeartbeats 8000000 in
set_option maxRecDepth 100000 in
theorem th_d {xb : Nat} {s : ByteArray} {x : Nd} {k lo hi : Int} {lz : Bool} {p1 p2 : Option Addr} {n1 d1 n2 d2 : Nat} {low more : Nat} {W0 W : World} {Q : Exit → Act → World → Prop} (m : List Value) (hm : m.length = 182) (g2 : m[2]? = some (.int .u8 low)) (g3 : m[3]? = some (.int .u8 more)) (g9 : m[9]? = some (.pointer (some ⟨xb, 0, none⟩))) (g10 : m[10]? = some (.string s))
    (hB : Blk W xb #[.int .u8 k, .slice p1 n1 d1, .int .i64 lo, .int .i64 hi, .bool lz, .slice p2 n2 d2] 28) (hx : NdAt (fun _ => True) W x [.int .u8 k, .slice p1 n1 d1, .int .i64 lo, .int .i64 hi, .bool lz, .slice p2 n2 d2]) (gx : Wy.Good x 8 6) (nx : nodes x ≤ 100) (hnl : (Wy.look x).nullable = false) (hlo : low < 256) (hmo : more < 256) (hss : s.size ≤ 24) (hv : Lib.validD s.data.toList = true) (htab : Lib.Utf8Tabs 0 1 W0) (hnone : NoneAt W0) (hxb : W0.heap.size ≤ xb) (hb : Below W0.heap.size W0 W)
    (hRet : ∀ (m : List Value) (w' : World), m.length = 182 → m[8]? = some (.bool true) → Below W0.heap.size W0 w' → Q .ret ⟨m.toArray, []⟩ w') :
    Code.wp Tryd.prog (tmC [1, 1, 1, 1, 1, 1]) Q ⟨m.toArray, []⟩ W := by
  obtain ⟨e0, rfl⟩ := frame182 hm
  have h2_0 : e0 2 = .int .u8 low := Option.some.inj g2
  have h3_0 : e0 3 = .int .u8 more := Option.some.inj g3
  have h9_0 : e0 9 = .pointer (some ⟨xb, 0, none⟩) := Option.some.inj g9
  have h10_0 : e0 10 = .string s := Option.some.inj g10
  show Code.wp Tryd.prog (Code.seq (tmC [1, 1, 1, 1, 1, 1, 0]) (tmC [1, 1, 1, 1, 1, 1, 1])) Q _ _
  rw [h9_0]
  refine wp_seq (tm9 e0 (fun m k0 kk k13 => ?_))
  obtain ⟨e1, rfl⟩ := frame182 k0
  obtain ⟨q2, q3, q9, q10, -⟩ := kk
  have h2_1 : e1 2 = .int .u8 low := (Option.some.inj q2).trans h2_0
  have h3_1 : e1 3 = .int .u8 more := (Option.some.inj q3).trans h3_0
  have h9_1 : e1 9 = .pointer (some ⟨xb, 0, none⟩) := (Option.some.inj q9)
  have h10_1 : e1 10 = .string s := (Option.some.inj q10).trans h10_0
  have h13_1 : e1 13 = .func (.func 17) #[] #[.pointer (some ⟨xb, 0, none⟩)] := Option.some.inj k13
  skip
  show Code.wp Tryd.prog (Code.seq (tmC [1, 1, 1, 1, 1, 1, 1, 0]) (tmC [1, 1, 1, 1, 1, 1, 1, 1])) Q _ _
  rw [h2_1]
  refine wp_seq (tm10 e1 hlo (fun m k0 kk k14 => ?_))
  obtain ⟨e2, rfl⟩ := frame182 k0
  obtain ⟨q3, q9, q10, q13, -⟩ := kk
  have h3_2 : e2 3 = .int .u8 more := (Option.some.inj q3).trans h3_1
  have h9_2 : e2 9 = .pointer (some ⟨xb, 0, none⟩) := (Option.some.inj q9).trans h9_1
  have h10_2 : e2 10 = .string s := (Option.some.inj q10).trans h10_1
  have h13_2 : e2 13 = .func (.func 17) #[] #[.pointer (some ⟨xb, 0, none⟩)] := (Option.some.inj q13).trans h13_1
  have h14_2 : e2 14 = .int .i64 (1 + (low : Int) % 3) := Option.some.inj k14
  skip
  have ha0 : (1 : Int) ≤ 1 + (low : Int) % 3 := by omega
  have ha : 1 + (low : Int) % 3 ≤ 3 := by omega
  generalize (1 + (low : Int) % 3 : Int) = a at *
  show Code.wp Tryd.prog (Code.seq (tmC [1, 1, 1, 1, 1, 1, 1, 1, 0]) (tmC [1, 1, 1, 1, 1, 1, 1, 1, 1])) Q _ _
  rw [h3_2, h14_2]
  refine wp_seq (tm11 e2 hmo ha0 ha (fun m k0 kk k15 => ?_))
  obtain ⟨e3, rfl⟩ := frame182 k0
  obtain ⟨q3, q9, q10, q13, q14, -⟩ := kk
  have h3_3 : e3 3 = .int .u8 more := (Option.some.inj q3)
  have h9_3 : e3 9 = .pointer (some ⟨xb, 0, none⟩) := (Option.some.inj q9).trans h9_2
  have h10_3 : e3 10 = .string s := (Option.some.inj q10).trans h10_2
  have h13_3 : e3 13 = .func (.func 17) #[] #[.pointer (some ⟨xb, 0, none⟩)] := (Option.some.inj q13).trans h13_2
  have h14_3 : e3 14 = .int .i64 a := (Option.some.inj q14)
  have h15_3 : e3 15 = .int .i64 (a + (more : Int) % 4) := Option.some.inj k15
  skip
  have hz0 : a ≤ a + (more : Int) % 4 := by omega
  have hz1 : a + (more : Int) % 4 ≤ 6 := by omega
  generalize (a + (more : Int) % 4 : Int) = z at *
  show Code.wp Tryd.prog (Code.seq (tmC [1, 1, 1, 1, 1, 1, 1, 1, 1, 0]) (tmC [1, 1, 1, 1, 1, 1, 1, 1, 1, 1])) Q _ _
  rw [h15_3]
  refine wp_seq (tm12 e3 (by omega) hz1 (fun m k0 kk k16 => ?_))
  obtain ⟨e4, rfl⟩ := frame182 k0
  obtain ⟨q3, q9, q10, q13, q14, q15, -⟩ := kk
  have h3_4 : e4 3 = .int .u8 more := (Option.some.inj q3).trans h3_3
  have h9_4 : e4 9 = .pointer (some ⟨xb, 0, none⟩) := (Option.some.inj q9).trans h9_3
  have h10_4 : e4 10 = .string s := (Option.some.inj q10).trans h10_3
  have h13_4 : e4 13 = .func (.func 17) #[] #[.pointer (some ⟨xb, 0, none⟩)] := (Option.some.inj q13).trans h13_3
  have h14_4 : e4 14 = .int .i64 a := (Option.some.inj q14).trans h14_3
  have h15_4 : e4 15 = .int .i64 z := (Option.some.inj q15)
  have h16_4 : e4 16 = .int .i64 (z - 1) := Option.some.inj k16
  skip
  cases hc : ((more : Int) % 5 == 4)
  · show Code.wp Tryd.prog (Code.seq (tmC [1, 1, 1, 1, 1, 1, 1, 1, 1, 1, 0]) (tmC [1, 1, 1, 1, 1, 1, 1, 1, 1, 1, 1])) Q _ _
    rw [h3_4]
    refine wp_seq (tm13b e4 hmo hc (fun m k0 kk => ?_))
    obtain ⟨e5, rfl⟩ := frame182 k0
    obtain ⟨q9, q10, q13, q14, q15, q16, -⟩ := kk
    have h9_5 : e5 9 = .pointer (some ⟨xb, 0, none⟩) := (Option.some.inj q9).trans h9_4
    have h10_5 : e5 10 = .string s := (Option.some.inj q10).trans h10_4
    have h13_5 : e5 13 = .func (.func 17) #[] #[.pointer (some ⟨xb, 0, none⟩)] := (Option.some.inj q13).trans h13_4
    have h14_5 : e5 14 = .int .i64 a := (Option.some.inj q14).trans h14_4
    have h15_5 : e5 15 = .int .i64 z := (Option.some.inj q15).trans h15_4
    have h16_5 : e5 16 = .int .i64 (z - 1) := (Option.some.inj q16).trans h16_4
    skip
    exact th_a _ k0 (congrArg some h9_5) (congrArg some h10_5) (congrArg some h13_5) (congrArg some h14_5) (congrArg some h15_5) (congrArg some h16_5) hB hx gx nx hnl ha0 ha (.inr ⟨hz0, hz1⟩) (.inr ⟨by omega, rfl, by omega⟩) hss hv htab hnone hxb hb hRet
  · show Code.wp Tryd.prog (Code.seq (tmC [1, 1, 1, 1, 1, 1, 1, 1, 1, 1, 0]) (tmC [1, 1, 1, 1, 1, 1, 1, 1, 1, 1, 1])) Q _ _
    rw [h3_4]
    refine wp_seq (tm13a e4 hmo hc (fun m k0 kk k15 k16 => ?_))
    obtain ⟨e5, rfl⟩ := frame182 k0
    obtain ⟨q9, q10, q13, q14, -⟩ := kk
    have h9_5 : e5 9 = .pointer (some ⟨xb, 0, none⟩) := (Option.some.inj q9).trans h9_4
    have h10_5 : e5 10 = .string s := (Option.some.inj q10).trans h10_4
    have h13_5 : e5 13 = .func (.func 17) #[] #[.pointer (some ⟨xb, 0, none⟩)] := (Option.some.inj q13).trans h13_4
    have h14_5 : e5 14 = .int .i64 a := (Option.some.inj q14).trans h14_4
    have h15_5 : e5 15 = .int .i64 (-1) := Option.some.inj k15
    have h16_5 : e5 16 = .int .i64 (-1) := Option.some.inj k16
    skip
    exact th_a _ k0 (congrArg some h9_5) (congrArg some h10_5) (congrArg some h13_5) (congrArg some h14_5) (congrArg some h15_5) (congrArg some h16_5) hB hx gx nx hnl ha0 ha (.inl rfl) (.inl ⟨rfl, rfl⟩) hss hv htab hnone hxb hb hRet
set_option maxHeartbeats 8000000 in
set_option maxRecDepth 100000 in
theorem th_rest {xb : Nat} {s : ByteArray} {x : Nd} {k lo hi : Int} {lz : Bool} {p1 p2 : Option Addr} {n1 d1 n2 d2 : Nat} {low more : Nat} {W0 W : World} {Q : Exit → Act → World → Prop} (m : List Value) (hm : m.length = 182) (g2 : m[2]? = some (.int .u8 low)) (g3 : m[3]? = some (.int .u8 more)) (g9 : m[9]? = some (.pointer (some ⟨xb, 0, none⟩))) (g10 : m[10]? = some (.string s))
    (hB : Blk W xb #[.int .u8 k, .slice p1 n1 d1, .int .i64 lo, .int .i64 hi, .bool lz, .slice p2 n2 d2] 28) (hx : NdAt (fun q => q ≠ xb) W x [.int .u8 k, .slice p1 n1 d1, .int .i64 lo, .int .i64 hi, .bool lz, .slice p2 n2 d2]) (gx : Wy.Good x 7 6) (nx : nodes x ≤ 21) (hlo : low < 256) (hmo : more < 256) (hss : s.size ≤ 24) (hv : Lib.validD s.data.toList = true) (htab : Lib.Utf8Tabs 0 1 W0) (hnone : NoneAt W0) (hxb : W0.heap.size ≤ xb) (hb : Below W0.heap.size W0 W)
    (hRet : ∀ (m : List Value) (w' : World), m.length = 182 → m[8]? = some (.bool true) → Below W0.heap.size W0 w' → Q .ret ⟨m.toArray, []⟩ w') :
    Code.wp Tryd.prog (tmC [1, 1, 1]) Q ⟨m.toArray, []⟩ W := by
  obtain ⟨e0, rfl⟩ := frame182 hm
  have h2_0 : e0 2 = .int .u8 low := Option.some.inj g2
  have h3_0 : e0 3 = .int .u8 more := Option.some.inj g3
  have h9_0 : e0 9 = .pointer (some ⟨xb, 0, none⟩) := Option.some.inj g9
  have h10_0 : e0 10 = .string s := Option.some.inj g10
  have rx : right x = true := gx.right (by omega) (by omega)
  show Code.wp Tryd.prog (Code.seq (tmC [1, 1, 1, 0]) (tmC [1, 1, 1, 1])) Q _ _
  rw [h9_0]
  refine wp_seq (tm4 e0 hB (nullable_any hx (by omega) rx) (fun m w1 k0 kk k11 k12 hb1 => ?_))
  obtain ⟨e1, rfl⟩ := frame182 k0
  obtain ⟨q2, q3, q9, q10, -⟩ := kk
  have h2_1 : e1 2 = .int .u8 low := (Option.some.inj q2).trans h2_0
  have h3_1 : e1 3 = .int .u8 more := (Option.some.inj q3).trans h3_0
  have h9_1 : e1 9 = .pointer (some ⟨xb, 0, none⟩) := (Option.some.inj q9)
  have h10_1 : e1 10 = .string s := (Option.some.inj q10).trans h10_0
  have h11_1 : e1 11 = .bool (Wy.look x).nullable := Option.some.inj k11
  have h12_1 : e1 12 = .int .i64 0 := Option.some.inj k12
  skip
  have hb01 := hb.trans (hb1.mono hb.size)
  have B1 := hB.below hb1 hB.lt
  have X1 : NdAt (fun q => q ≠ xb) w1 x _ := NdAt.go (Kept.of_below hb1 (fun _ => False)) (fun _ _ h => ⟨id, h⟩) hx
  show Code.wp Tryd.prog (Code.seq (tmC [1, 1, 1, 1, 0]) (tmC [1, 1, 1, 1, 1])) Q _ _
  rw [h12_1]
  refine wp_seq (tm5 e1 (fun m k0 kk => ?_))
  obtain ⟨e2, rfl⟩ := frame182 k0
  obtain ⟨q2, q3, q9, q10, q11, -⟩ := kk
  have h2_2 : e2 2 = .int .u8 low := (Option.some.inj q2).trans h2_1
  have h3_2 : e2 3 = .int .u8 more := (Option.some.inj q3).trans h3_1
  have h9_2 : e2 9 = .pointer (some ⟨xb, 0, none⟩) := (Option.some.inj q9).trans h9_1
  have h10_2 : e2 10 = .string s := (Option.some.inj q10).trans h10_1
  have h11_2 : e2 11 = .bool (Wy.look x).nullable := (Option.some.inj q11).trans h11_1
  skip
  have gt := tm_good gx (by omega)
  have nt := tm_null x
  cases hc : (Wy.look x).nullable
  · rw [hc] at h11_2
    rw [show tmT x = x by unfold tmT; rw [hc]; rfl] at gt nt
    show Code.wp Tryd.prog (Code.seq (tmC [1, 1, 1, 1, 1, 0]) (tmC [1, 1, 1, 1, 1, 1])) Q _ _
    rw [h9_2, h11_2]
    refine wp_seq (tm7a e2 (fun m k0 kk => ?_))
    obtain ⟨e3, rfl⟩ := frame182 k0
    obtain ⟨q2, q3, q9, q10, -⟩ := kk
    have h2_3 : e3 2 = .int .u8 low := (Option.some.inj q2).trans h2_2
    have h3_3 : e3 3 = .int .u8 more := (Option.some.inj q3).trans h3_2
    have h9_3 : e3 9 = .pointer (some ⟨xb, 0, none⟩) := (Option.some.inj q9)
    have h10_3 : e3 10 = .string s := (Option.some.inj q10).trans h10_2
    skip
    exact th_d _ k0 (congrArg some h2_3) (congrArg some h3_3) (congrArg some h9_3) (congrArg some h10_3) B1 (NdAt.mono (fun _ _ => trivial) X1) gt (by omega) nt hlo hmo hss hv htab hnone hxb hb01 hRet
  · rw [hc] at h11_2
    rw [show tmT x = catT x ltT by unfold tmT; rw [hc]; rfl] at gt nt
    show Code.wp Tryd.prog (Code.seq (tmC [1, 1, 1, 1, 1, 0]) (tmC [1, 1, 1, 1, 1, 1])) Q _ _
    rw [h9_2, h11_2]
    refine wp_seq (tm7b (s := s) e2 B1 X1 (fun m w2 cs k0 kk B2 X2 hk => ?_))
    obtain ⟨e3, rfl⟩ := frame182 k0
    obtain ⟨q2, q3, q9, q10, -⟩ := kk
    have h2_3 : e3 2 = .int .u8 low := (Option.some.inj q2).trans h2_2
    have h3_3 : e3 3 = .int .u8 more := (Option.some.inj q3).trans h3_2
    have h9_3 : e3 9 = .pointer (some ⟨xb, 0, none⟩) := (Option.some.inj q9)
    have h10_3 : e3 10 = .string s := (Option.some.inj q10).trans h10_2
    skip
    obtain ⟨k', lo', hi', lz', p1', p2', n1', d1', n2', d2', rfl⟩ := nd6k X2
    exact th_d _ k0 (congrArg some h2_3) (congrArg some h3_3) (congrArg some h9_3) (congrArg some h10_3) B2 X2 gt (by simp only [catT, ltT, nodes, nodesL]; omega) nt hlo hmo hss hv htab hnone hxb (hb01.trans (hk.belowOf hb01.size (fun i hi he => by omega))) hRet
end Go.Proofs.YtnhjakdmbfadlaaDoor

/- WaysTimes whole. -/
namespace Go.Proofs.YtnhjakdmbfadlaaDoor
open Go.RowKit Wy Mem Grow

theorem sms_take6 {N : Nat → Prop} {w : World} {o : Option Addr} {c : Nat} {L : List Sm} (h : SmsAt N w (.slice o L.length c) L) : L.length ≤ c ∧ SmsAt N w (.slice o (min (L.length : Int) 6).toNat c) (L.take 6) := by
  refine ⟨(sms_take h).1, ?_⟩
  have := h.take (n := min L.length 6) rfl (by omega)
  rw [min_take'] at this
  rwa [show (min (L.length : Int) 6).toNat = min L.length 6 by omega]
set_option maxRecDepth 100000 in
theorem tm3m {m1 c1 : Nat} {o1 : Option Addr} {vb v2 v3 : Value} {s : ByteArray} {x : Nd} {W : World} {J : Act → World → Prop} {Q : Exit → Act → World → Prop} (m : List Value) (hm : m.length = 182) (g0 : m[0]? = some (.slice o1 m1 c1)) (g1 : m[1]? = some vb) (g2 : m[2]? = some v2) (g3 : m[3]? = some v3) (h1 : m1 ≤ c1)
    (hmx : Calls Tryd.prog 7 #[.slice o1 (min (m1 : Int) 6).toNat c1] W (Mdn x W))
    (htx : ∀ w', Below W.heap.size W w' → Calls Tryd.prog 8 #[vb, .int .i64 6] w' (fun e w'' => e = .returned (.string s) ∧ Below w'.heap.size w' w''))
    (hJ : ∀ (m : List Value) (w' : World) (b : Nat) (xs : List Value), m.length = 182 → m[2]? = some v2 → m[3]? = some v3 → m[9]? = some (.pointer (some ⟨b, 0, none⟩)) → m[10]? = some (.string s) → Blk w' b xs.toArray 28 → NdAt (fun q => q ≠ b) w' x xs → W.heap.size ≤ b → Below W.heap.size W w' → J ⟨m.toArray, []⟩ w') :
    Code.wp Tryd.prog (tmC [1, 1, 0]) (Exit.then J Q) ⟨m.toArray, []⟩ W := by
  obtain ⟨e, rfl⟩ := frame182 hm
  have g0 : e 0 = .slice o1 m1 c1 := Option.some.inj g0
  have g1 : e 1 = vb := Option.some.inj g1
  have g2 : e 2 = v2 := Option.some.inj g2
  have g3 : e 3 = v3 := Option.some.inj g3
  rw [g0, g1]
  exact tm3 e h1 hmx htx (fun m w' b xs k0 kk => hJ m w' b xs k0 (kk.1.trans (congrArg some g2)) (kk.2.trans (congrArg some g3)))
set_option maxHeartbeats 8000000 in
set_option maxRecDepth 100000 in
theorem times_any {N M : Nat → Prop} {w : World} {v1 v2 : Value} {L : List Sm} {B : List Nat} {low more : Nat} (h1 : SmsAt N w v1 L) (h2 : U8At M w v2 B) (hlo : low < 256) (hmo : more < 256) (hL : L.length ≤ 9223372036854775807) (hB : B.length ≤ 9223372036854775807) (htab : Lib.Utf8Tabs 0 1 w) (hnone : NoneAt w) :
    Calls Tryd.prog 4 #[v1, v2, .int .u8 low, .int .u8 more] w fun e w' => e = .returned (.bool true) ∧ Below w.heap.size w w' := by
  obtain ⟨o1, c1, rfl⟩ := h1.row.slice
  obtain ⟨hc1, hs1⟩ := sms_take6 h1
  have hmx : ∀ w', Below w.heap.size w w' → Calls Tryd.prog 7 #[.slice o1 (min (L.length : Int) 6).toNat c1] w' (Mdn (madeT (L.take 6)) w') := fun w' hb => made_mdn (hs1.below hb) (by rw [List.length_take]; omega)
  have htx : ∀ w', Below w.heap.size w w' → Calls Tryd.prog 8 #[v2, .int .i64 6] w' fun e w'' => e = .returned (.string (strB (textL (B.take 6)))) ∧ Below w'.heap.size w' w'' := fun w' hb => text_any (m := 6) (h2.below hb) (by omega) hB
  have haw := awake_any w htab hnone
  have HMX := Lib.hid hmx
  have HTX := Lib.hid htx
  have HAW := Lib.hid haw
  have HT := Lib.hid htab
  have HN := Lib.hid hnone
  have HLO := Lib.hid hlo
  have HMO := Lib.hid hmo
  clear h1 h2 hs1 hmx htx haw htab hnone hL hB hlo hmo
  go_enter Tryd.func4, Tryd.ntmps4
  go_upto_region 3 with (go_at_call 6; go_loud (refine HAW.out.mono ?_; rintro ee w1 ⟨rfl, hb1⟩; have HB1 := Lib.hid hb1; clear hb1))
  rename_i K1 hK1
  have hss : (strB (textL (B.take 6))).size ≤ 24 := text_size B 6 (by omega)
  have hsv : Lib.validD (strB (textL (B.take 6))).data.toList = true := text_valid _
  have gx : Wy.Good (madeT (L.take 6)) 7 6 := made_good _ (take_le20 L 6)
  generalize strB (textL (B.take 6)) = s at HTX hss hsv
  have nx : nodes (madeT (L.take 6)) ≤ 21 := nodes_made _
  refine tm3m _ rfl rfl rfl rfl rfl hc1 (HMX.out _ HB1.out) (fun w' hb => HTX.out w' (HB1.out.trans (hb.mono HB1.out.size))) (fun m w2 b xs k0 k2 k3 k9 k10 B9 X hbb hb2 => hK1 _ _ ?_)
  have hb12 := HB1.out.trans (hb2.mono HB1.out.size)
  obtain ⟨kx, lox, hix, lzx, px1, px2, nx1, dx1, nx2, dx2, rfl⟩ := nd6k X
  refine th_rest (W0 := w) m k0 k2 k3 k9 k10 B9 X gx nx HLO.out HMO.out hss hsv HT.out HN.out (Nat.le_trans HB1.out.size hbb) hb12 (fun m w3 h0 h8 hb3 => ?_)
  obtain ⟨f, rfl⟩ := frame182 h0
  have h8 : f 8 = .bool true := Option.some.inj h8
  rw [h8]
  exact bodyPost_ret (v := .bool true) (by simp [results, Tryd.results4, go_sem]) rfl ⟨rfl, hb3⟩
end Go.Proofs.YtnhjakdmbfadlaaDoor
