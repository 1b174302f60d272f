/- Parts of the proof: RdT. Conditions: none. -/
import Derived.Test.YtnhjakdmbfadlaaGreatDoorL23
import Derived.Test.YtnhjakdmbfadlaaGreatDoorL24
set_option linter.all false
/- The reader's tail: a quantifier, if there is one, and the node is put onto the items. -/
namespace Go.Proofs.YtnhjakdmbfadlaaGreatDoor
open Go.RowKit Wy Mem Grow

set_option maxHeartbeats 8000000 in
set_option maxRecDepth 100000 in
theorem rd_tail0 {B rb i g0 c0 m q : Nat} {s : ByteArray} {W0 W : World} {pre : List Wy.Op} {ys : List OpV} {o : Wy.Op} {x : OpV} {t : Nd} {k lo hi : Int} {lz : Bool} {o1 o2 : Option Addr} {n1 c1 n2 c2 : Nat} {J : Act → World → Prop} {Q : Exit → Act → World → Prop} {ql qh : Int} (e : Nat → Value) (his : i ≤ s.size) (hs : s.size ≤ 1024) (hst0 : StkAt 155 70 B W0 (Value.slice (some ⟨g0, 0, none⟩) (m + 1) c0) (pre ++ [o]) (ys ++ [x])) (hm : pre.length = m) (hml : m ≤ 1000000) (hB0 : B ≤ W0.heap.size) (hbw : Below W0.heap.size W0 W) (hq0 : W0.heap.size ≤ q)
    (hq : Blk W q #[.int .u8 k, .slice o1 n1 c1, .int .i64 lo, .int .i64 hi, .bool lz, .slice o2 n2 c2] 70)
    (hnd : NdAt (fun b => freeN B (Value.slice (some ⟨g0, 0, none⟩) (m + 1) c0) (ys ++ [x]) b ∧ b ≠ q) W t [.int .u8 k, .slice o1 n1 c1, .int .i64 lo, .int .i64 hi, .bool lz, .slice o2 n2 c2]) (hil : o.items.length ≤ 1000000)
    (hqm : quantM (restS s i) 0 = some (ql, qh, 0))
    (hJ : ∀ a' w', RdNext B rb s i (pre ++ [{ o with items := o.items ++ [t] }]) W0 a' w' → J a' w') :
    Code.wp Tryz.prog (rdC [1, 1, 1, 0, 0, 0, 1, 0, 1, 1, 1]) (Exit.then J Q) ⟨#[.string s, e 1, .pointer (some ⟨rb, 0, none⟩), e 3, .slice (some ⟨g0, 0, none⟩) (m + 1) c0, .int .i64 i, .int .i64 m, .pointer (some ⟨q, 0, none⟩), e 8, e 9, e 10, e 11, e 12, e 13, e 14, e 15, e 16, e 17, e 18, e 19, e 20, e 21, e 22, e 23, e 24, e 25, e 26, e 27, e 28, e 29, e 30, e 31, e 32, e 33, e 34, e 35, e 36, e 37, e 38, e 39, e 40, e 41, e 42, e 43, e 44, e 45, e 46, e 47, e 48, e 49, e 50, e 51, e 52, e 53, e 54, e 55, e 56, e 57, e 58, e 59, e 60, e 61, e 62, e 63, e 64, e 65, e 66, e 67, e 68, e 69, e 70, e 71, e 72, e 73, e 74, e 75, e 76, e 77, e 78, e 79, e 80, e 81, e 82, e 83, e 84, e 85, e 86, e 87, e 88, e 89, e 90, e 91, e 92, e 93, e 94, e 95, e 96, e 97, e 98, e 99, e 100, e 101, e 102, e 103, e 104, e 105, e 106, e 107, e 108, e 109, e 110, e 111, e 112, e 113, e 114, e 115, e 116, e 117, e 118, e 119, e 120, e 121, e 122, e 123, e 124, e 125, e 126, e 127, e 128, e 129, e 130, e 131, e 132, e 133, e 134, e 135, e 136, e 137, e 138, e 139, e 140, e 141, e 142, e 143, e 144, e 145, e 146, e 147, e 148, e 149, e 150, e 151, e 152, e 153, e 154, e 155, e 156, e 157, e 158, e 159, e 160, e 161, e 162, e 163, e 164, e 165, e 166, e 167, e 168, e 169, e 170, e 171, e 172, e 173, e 174, e 175, e 176], []⟩ W := by
  have hsI : (s.size : Int) ≤ 1024 := by omega
  have hiI : (i : Int) ≤ s.size := by omega
  have hsz := restS_size s i his
  have hcall := fun w => quant_any hqm (by rw [hsz]; omega) w
  have HC := Lib.hid hcall
  have key : ∀ l : List Value, l.length = 177 → l[0]? = some (.string s) → l[2]? = some (.pointer (some ⟨rb, 0, none⟩)) → l[4]? = some (Value.slice (some ⟨g0, 0, none⟩) (m + 1) c0) → l[5]? = some (.int .i64 i) → l[6]? = some (.int .i64 m) → l[7]? = some (.pointer (some ⟨q, 0, none⟩)) →
      ∀ (K : Act → World → Prop) (Q' : Exit → Act → World → Prop), (∀ a' w', J a' w' → K a' w') → Code.wp Tryz.prog (rdC [1, 1, 1, 0, 0, 0, 1, 0, 1, 1, 1, 1, 1, 1]) (Exit.then K Q') ⟨l.toArray, []⟩ W := by
    intro l hl h0 h2 h4 h5 h6 h7 K Q' hK
    exact rd_put' (t := t) hl h0 h2 h4 h5 h6 h7 (hst0.below hbw) hm hml hq (NdAt.mono (fun b hb => hb.1) hnd) (Nat.le_trans hB0 hbw.size) hil (fun a' w' hn => hK _ _ (hJ a' w' (by
      obtain ⟨l, v, xs, e1, e2, e3, e4, e5, e6, e7, e8⟩ := hn
      exact ⟨l, v, xs, e1, e2, e3, e4, e5, e6, e7, (hbw.mono hB0).trans e8⟩)))
  have KEY := Lib.hid key
  have hmI : (m : Int) ≤ 1000000 := by omega
  clear key hq hnd hst0 hm hml hil hJ hbw hq0 hB0 hcall hqm hsz
  conv => arg 2; whnf
  go_upto_region 41 with (go_at_call 86; go_loud (refine (HC.out _).mono ?_; rintro e w' ⟨rfl, rfl⟩))
  exact KEY.out _ rfl rfl rfl rfl rfl rfl rfl _ _ (fun _ _ h => h)
set_option maxHeartbeats 8000000 in
set_option maxRecDepth 100000 in
theorem rd_tail1 {B rb i g0 c0 m q : Nat} {s : ByteArray} {W0 W : World} {pre : List Wy.Op} {ys : List OpV} {o : Wy.Op} {x : OpV} {t : Nd} {k lo hi : Int} {lz : Bool} {o1 o2 : Option Addr} {n1 c1 n2 c2 : Nat} {J : Act → World → Prop} {Q : Exit → Act → World → Prop} {ql qh : Int} (e : Nat → Value) (his : i ≤ s.size) (hs : s.size ≤ 1024) (hst0 : StkAt 155 70 B W0 (Value.slice (some ⟨g0, 0, none⟩) (m + 1) c0) (pre ++ [o]) (ys ++ [x])) (hm : pre.length = m) (hml : m ≤ 1000000) (hB0 : B ≤ W0.heap.size) (hbw : Below W0.heap.size W0 W) (hq0 : W0.heap.size ≤ q)
    (hq : Blk W q #[.int .u8 k, .slice o1 n1 c1, .int .i64 lo, .int .i64 hi, .bool lz, .slice o2 n2 c2] 70)
    (hnd : NdAt (fun b => freeN B (Value.slice (some ⟨g0, 0, none⟩) (m + 1) c0) (ys ++ [x]) b ∧ b ≠ q) W t [.int .u8 k, .slice o1 n1 c1, .int .i64 lo, .int .i64 hi, .bool lz, .slice o2 n2 c2]) (hil : o.items.length ≤ 1000000)
    (hqm : quantM (restS s i) 0 = some (ql, qh, 1)) (hi1 : i + 1 < s.size) (hlz : byteAt s (i + 1) = 63) (hql : I64 ql) (hqh : I64 qh)
    (hJ : ∀ a' w', RdNext B rb s (i + 2) (pre ++ [{ o with items := o.items ++ [.mk 5 [] ql qh true [t]] }]) W0 a' w' → J a' w') :
    Code.wp Tryz.prog (rdC [1, 1, 1, 0, 0, 0, 1, 0, 1, 1, 1]) (Exit.then J Q) ⟨#[.string s, e 1, .pointer (some ⟨rb, 0, none⟩), e 3, .slice (some ⟨g0, 0, none⟩) (m + 1) c0, .int .i64 i, .int .i64 m, .pointer (some ⟨q, 0, none⟩), e 8, e 9, e 10, e 11, e 12, e 13, e 14, e 15, e 16, e 17, e 18, e 19, e 20, e 21, e 22, e 23, e 24, e 25, e 26, e 27, e 28, e 29, e 30, e 31, e 32, e 33, e 34, e 35, e 36, e 37, e 38, e 39, e 40, e 41, e 42, e 43, e 44, e 45, e 46, e 47, e 48, e 49, e 50, e 51, e 52, e 53, e 54, e 55, e 56, e 57, e 58, e 59, e 60, e 61, e 62, e 63, e 64, e 65, e 66, e 67, e 68, e 69, e 70, e 71, e 72, e 73, e 74, e 75, e 76, e 77, e 78, e 79, e 80, e 81, e 82, e 83, e 84, e 85, e 86, e 87, e 88, e 89, e 90, e 91, e 92, e 93, e 94, e 95, e 96, e 97, e 98, e 99, e 100, e 101, e 102, e 103, e 104, e 105, e 106, e 107, e 108, e 109, e 110, e 111, e 112, e 113, e 114, e 115, e 116, e 117, e 118, e 119, e 120, e 121, e 122, e 123, e 124, e 125, e 126, e 127, e 128, e 129, e 130, e 131, e 132, e 133, e 134, e 135, e 136, e 137, e 138, e 139, e 140, e 141, e 142, e 143, e 144, e 145, e 146, e 147, e 148, e 149, e 150, e 151, e 152, e 153, e 154, e 155, e 156, e 157, e 158, e 159, e 160, e 161, e 162, e 163, e 164, e 165, e 166, e 167, e 168, e 169, e 170, e 171, e 172, e 173, e 174, e 175, e 176], []⟩ W := by
  have hsI : (s.size : Int) ≤ 1024 := by omega
  have hiI : (i : Int) ≤ s.size := by omega
  have hsz := restS_size s i his
  have hcall := fun w => quant_any hqm (by rw [hsz]; omega) w
  have HC := Lib.hid hcall
  have hli : (i : Int) + 1 < s.size := by omega
  have hlb : (s[i + 1].toNat : Int) = 63 := by rw [get_at hi1, hlz]; rfl
  have hi1' : i + 1 < s.size := hi1
  have key : ∀ W', W' = (((((((W.setCell ⟨q, 0, none⟩ (.int .u8 5)).setCell ⟨q, 1, none⟩ (.slice none 0 0)).setCell ⟨q, 2, none⟩ (.int .i64 ql)).setCell ⟨q, 3, none⟩ (.int .i64 qh)).setCell ⟨q, 4, none⟩ (.bool true)).setCell ⟨q, 5, none⟩ (.slice (some ⟨W.heap.size, 0, none⟩) 1 1)).alloc (.cells #[.int .u8 k, .slice o1 n1 c1, .int .i64 lo, .int .i64 hi, .bool lz, .slice o2 n2 c2] 70)) →
      ∀ l : List Value, l.length = 177 → l[0]? = some (.string s) → l[2]? = some (.pointer (some ⟨rb, 0, none⟩)) → l[4]? = some (Value.slice (some ⟨g0, 0, none⟩) (m + 1) c0) → l[5]? = some (.int .i64 ((i + 2 : Nat) : Int)) → l[6]? = some (.int .i64 m) → l[7]? = some (.pointer (some ⟨q, 0, none⟩)) →
      ∀ (K : Act → World → Prop) (Q' : Exit → Act → World → Prop), (∀ a' w', J a' w' → K a' w') → Code.wp Tryz.prog (rdC [1, 1, 1, 0, 0, 0, 1, 0, 1, 1, 1, 1, 1, 1]) (Exit.then K Q') ⟨l.toArray, []⟩ W' := by
    intro W' hW' l hl h0 h2 h4 h5 h6 h7 K Q' hK
    have k0 := set6k (W := W) (b := q) (.int .u8 5) (.slice none 0 0) (.int .i64 ql) (.int .i64 qh) (.bool true) (.slice (some ⟨W.heap.size, 0, none⟩) 1 1)
    have k2 := k0.alloc (.cells #[.int .u8 k, .slice o1 n1 c1, .int .i64 lo, .int .i64 hi, .bool lz, .slice o2 n2 c2] 70)
    rw [← hW'] at k2
    have hqB := (set6blk hq (.int .u8 5) (.slice none 0 0) (.int .i64 ql) (.int .i64 qh) (.bool true) (.slice (some ⟨W.heap.size, 0, none⟩) 1 1)).alloc (.cells #[.int .u8 k, .slice o1 n1 c1, .int .i64 lo, .int .i64 hi, .bool lz, .slice o2 n2 c2] 70)
    rw [← hW'] at hqB
    have hqlt := hq.lt
    have hWW : W.heap.size ≤ W'.heap.size := k2.size
    have hnew : Blk W' W.heap.size #[.int .u8 k, .slice o1 n1 c1, .int .i64 lo, .int .i64 hi, .bool lz, .slice o2 n2 c2] 70 := by
      rw [hW']
      exact Blk.new' _ _ (by simp)
    have hbW' : Below W0.heap.size W0 W' := ((Kept.of_below hbw (fun b => b = q)).trans k2).below (fun b hb e => by omega)
    have hsz0 := hbw.size
    have hrow0 := hst0.lt
    have hv0 := hst0.row.lt g0 rfl
    have hfree : freeN B (Value.slice (some ⟨g0, 0, none⟩) (m + 1) c0) (ys ++ [x]) W.heap.size := ⟨by omega, fun e => by simp only [Value.ownBlock, Option.some.injEq] at e; omega, fun e => by have := hrow0 _ e; omega⟩
    have ht1 : NdAt (freeN B (Value.slice (some ⟨g0, 0, none⟩) (m + 1) c0) (ys ++ [x])) W' t [.int .u8 k, .slice o1 n1 c1, .int .i64 lo, .int .i64 hi, .bool lz, .slice o2 n2 c2] := NdAt.go k2 (fun b _ hb => ⟨hb.2, hb.1⟩) hnd
    exact rd_put' (t := .mk 5 [] ql qh true [t]) hl h0 h2 h4 h5 h6 h7 (hst0.below hbW') hm hml hqB (nd_oneT hnew hfree ht1 (by omega) hql hqh) (by omega) hil (fun a' w' hn => hK _ _ (hJ a' w' (by
      obtain ⟨l, v, xs, e1, e2, e3, e4, e5, e6, e7, e8⟩ := hn
      exact ⟨l, v, xs, e1, e2, e3, e4, e5, e6, e7, (hbW'.mono hB0).trans e8⟩)))
  have KEY := Lib.hid key
  have b0 := hq.cell 0
  have b1 := hq.cell 1
  have b2 := hq.cell 2
  have b3 := hq.cell 3
  have b4 := hq.cell 4
  have b5 := hq.cell 5
  have bz := hq.lt
  have bf : ∀ i, W.frozen? ⟨q, i, none⟩ = false := hq.frozen
  have hmI : (m : Int) ≤ 1000000 := by omega
  clear key hq hnd hst0 hm hml hil hJ hbw hq0 hB0 hcall hqm hql hqh hsz hlz
  conv => arg 2; whnf
  go_upto_region 41 with (go_at_call 86; go_loud (refine (HC.out _).mono ?_; rintro e w' ⟨rfl, rfl⟩))
  exact KEY.out _ rfl _ rfl rfl rfl rfl rfl rfl rfl _ _ (fun _ _ h => h)
set_option maxHeartbeats 8000000 in
set_option maxRecDepth 100000 in
theorem rd_tail2 {B rb i g0 c0 m q : Nat} {s : ByteArray} {W0 W : World} {pre : List Wy.Op} {ys : List OpV} {o : Wy.Op} {x : OpV} {t : Nd} {k lo hi : Int} {lz : Bool} {o1 o2 : Option Addr} {n1 c1 n2 c2 : Nat} {J : Act → World → Prop} {Q : Exit → Act → World → Prop} {ql qh : Int} (e : Nat → Value) (his : i ≤ s.size) (hs : s.size ≤ 1024) (hst0 : StkAt 155 70 B W0 (Value.slice (some ⟨g0, 0, none⟩) (m + 1) c0) (pre ++ [o]) (ys ++ [x])) (hm : pre.length = m) (hml : m ≤ 1000000) (hB0 : B ≤ W0.heap.size) (hbw : Below W0.heap.size W0 W) (hq0 : W0.heap.size ≤ q)
    (hq : Blk W q #[.int .u8 k, .slice o1 n1 c1, .int .i64 lo, .int .i64 hi, .bool lz, .slice o2 n2 c2] 70)
    (hnd : NdAt (fun b => freeN B (Value.slice (some ⟨g0, 0, none⟩) (m + 1) c0) (ys ++ [x]) b ∧ b ≠ q) W t [.int .u8 k, .slice o1 n1 c1, .int .i64 lo, .int .i64 hi, .bool lz, .slice o2 n2 c2]) (hil : o.items.length ≤ 1000000)
    (hqm : quantM (restS s i) 0 = some (ql, qh, 1)) (hi1 : i + 1 < s.size) (hlz : byteAt s (i + 1) ≠ 63) (hql : I64 ql) (hqh : I64 qh)
    (hJ : ∀ a' w', RdNext B rb s (i + 1) (pre ++ [{ o with items := o.items ++ [.mk 5 [] ql qh false [t]] }]) W0 a' w' → J a' w') :
    Code.wp Tryz.prog (rdC [1, 1, 1, 0, 0, 0, 1, 0, 1, 1, 1]) (Exit.then J Q) ⟨#[.string s, e 1, .pointer (some ⟨rb, 0, none⟩), e 3, .slice (some ⟨g0, 0, none⟩) (m + 1) c0, .int .i64 i, .int .i64 m, .pointer (some ⟨q, 0, none⟩), e 8, e 9, e 10, e 11, e 12, e 13, e 14, e 15, e 16, e 17, e 18, e 19, e 20, e 21, e 22, e 23, e 24, e 25, e 26, e 27, e 28, e 29, e 30, e 31, e 32, e 33, e 34, e 35, e 36, e 37, e 38, e 39, e 40, e 41, e 42, e 43, e 44, e 45, e 46, e 47, e 48, e 49, e 50, e 51, e 52, e 53, e 54, e 55, e 56, e 57, e 58, e 59, e 60, e 61, e 62, e 63, e 64, e 65, e 66, e 67, e 68, e 69, e 70, e 71, e 72, e 73, e 74, e 75, e 76, e 77, e 78, e 79, e 80, e 81, e 82, e 83, e 84, e 85, e 86, e 87, e 88, e 89, e 90, e 91, e 92, e 93, e 94, e 95, e 96, e 97, e 98, e 99, e 100, e 101, e 102, e 103, e 104, e 105, e 106, e 107, e 108, e 109, e 110, e 111, e 112, e 113, e 114, e 115, e 116, e 117, e 118, e 119, e 120, e 121, e 122, e 123, e 124, e 125, e 126, e 127, e 128, e 129, e 130, e 131, e 132, e 133, e 134, e 135, e 136, e 137, e 138, e 139, e 140, e 141, e 142, e 143, e 144, e 145, e 146, e 147, e 148, e 149, e 150, e 151, e 152, e 153, e 154, e 155, e 156, e 157, e 158, e 159, e 160, e 161, e 162, e 163, e 164, e 165, e 166, e 167, e 168, e 169, e 170, e 171, e 172, e 173, e 174, e 175, e 176], []⟩ W := by
  have hsI : (s.size : Int) ≤ 1024 := by omega
  have hiI : (i : Int) ≤ s.size := by omega
  have hsz := restS_size s i his
  have hcall := fun w => quant_any hqm (by rw [hsz]; omega) w
  have HC := Lib.hid hcall
  have hli : (i : Int) + 1 < s.size := by omega
  have hlb : ((s[i + 1].toNat : Int) == 63) = false := by rw [get_at hi1]; exact eqb_no hlz
  have key : ∀ W', W' = (((((((W.setCell ⟨q, 0, none⟩ (.int .u8 5)).setCell ⟨q, 1, none⟩ (.slice none 0 0)).setCell ⟨q, 2, none⟩ (.int .i64 ql)).setCell ⟨q, 3, none⟩ (.int .i64 qh)).setCell ⟨q, 4, none⟩ (.bool false)).setCell ⟨q, 5, none⟩ (.slice (some ⟨W.heap.size, 0, none⟩) 1 1)).alloc (.cells #[.int .u8 k, .slice o1 n1 c1, .int .i64 lo, .int .i64 hi, .bool lz, .slice o2 n2 c2] 70)) →
      ∀ l : List Value, l.length = 177 → l[0]? = some (.string s) → l[2]? = some (.pointer (some ⟨rb, 0, none⟩)) → l[4]? = some (Value.slice (some ⟨g0, 0, none⟩) (m + 1) c0) → l[5]? = some (.int .i64 ((i + 1 : Nat) : Int)) → l[6]? = some (.int .i64 m) → l[7]? = some (.pointer (some ⟨q, 0, none⟩)) →
      ∀ (K : Act → World → Prop) (Q' : Exit → Act → World → Prop), (∀ a' w', J a' w' → K a' w') → Code.wp Tryz.prog (rdC [1, 1, 1, 0, 0, 0, 1, 0, 1, 1, 1, 1, 1, 1]) (Exit.then K Q') ⟨l.toArray, []⟩ W' := by
    intro W' hW' l hl h0 h2 h4 h5 h6 h7 K Q' hK
    have k0 := set6k (W := W) (b := q) (.int .u8 5) (.slice none 0 0) (.int .i64 ql) (.int .i64 qh) (.bool false) (.slice (some ⟨W.heap.size, 0, none⟩) 1 1)
    have k2 := k0.alloc (.cells #[.int .u8 k, .slice o1 n1 c1, .int .i64 lo, .int .i64 hi, .bool lz, .slice o2 n2 c2] 70)
    rw [← hW'] at k2
    have hqB := (set6blk hq (.int .u8 5) (.slice none 0 0) (.int .i64 ql) (.int .i64 qh) (.bool false) (.slice (some ⟨W.heap.size, 0, none⟩) 1 1)).alloc (.cells #[.int .u8 k, .slice o1 n1 c1, .int .i64 lo, .int .i64 hi, .bool lz, .slice o2 n2 c2] 70)
    rw [← hW'] at hqB
    have hqlt := hq.lt
    have hWW : W.heap.size ≤ W'.heap.size := k2.size
    have hnew : Blk W' W.heap.size #[.int .u8 k, .slice o1 n1 c1, .int .i64 lo, .int .i64 hi, .bool lz, .slice o2 n2 c2] 70 := by
      rw [hW']
      exact Blk.new' _ _ (by simp)
    have hbW' : Below W0.heap.size W0 W' := ((Kept.of_below hbw (fun b => b = q)).trans k2).below (fun b hb e => by omega)
    have hsz0 := hbw.size
    have hrow0 := hst0.lt
    have hv0 := hst0.row.lt g0 rfl
    have hfree : freeN B (Value.slice (some ⟨g0, 0, none⟩) (m + 1) c0) (ys ++ [x]) W.heap.size := ⟨by omega, fun e => by simp only [Value.ownBlock, Option.some.injEq] at e; omega, fun e => by have := hrow0 _ e; omega⟩
    have ht1 : NdAt (freeN B (Value.slice (some ⟨g0, 0, none⟩) (m + 1) c0) (ys ++ [x])) W' t [.int .u8 k, .slice o1 n1 c1, .int .i64 lo, .int .i64 hi, .bool lz, .slice o2 n2 c2] := NdAt.go k2 (fun b _ hb => ⟨hb.2, hb.1⟩) hnd
    exact rd_put' (t := .mk 5 [] ql qh false [t]) hl h0 h2 h4 h5 h6 h7 (hst0.below hbW') hm hml hqB (nd_oneT hnew hfree ht1 (by omega) hql hqh) (by omega) hil (fun a' w' hn => hK _ _ (hJ a' w' (by
      obtain ⟨l, v, xs, e1, e2, e3, e4, e5, e6, e7, e8⟩ := hn
      exact ⟨l, v, xs, e1, e2, e3, e4, e5, e6, e7, (hbW'.mono hB0).trans e8⟩)))
  have KEY := Lib.hid key
  have b0 := hq.cell 0
  have b1 := hq.cell 1
  have b2 := hq.cell 2
  have b3 := hq.cell 3
  have b4 := hq.cell 4
  have b5 := hq.cell 5
  have bz := hq.lt
  have bf : ∀ i, W.frozen? ⟨q, i, none⟩ = false := hq.frozen
  have hmI : (m : Int) ≤ 1000000 := by omega
  clear key hq hnd hst0 hm hml hil hJ hbw hq0 hB0 hcall hqm hql hqh hsz hlz
  conv => arg 2; whnf
  go_upto_region 41 with (go_at_call 86; go_loud (refine (HC.out _).mono ?_; rintro e w' ⟨rfl, rfl⟩))
  exact KEY.out _ rfl _ rfl rfl rfl rfl rfl rfl rfl _ _ (fun _ _ h => h)
set_option maxHeartbeats 8000000 in
set_option maxRecDepth 100000 in
theorem rd_tail3 {B rb i g0 c0 m q : Nat} {s : ByteArray} {W0 W : World} {pre : List Wy.Op} {ys : List OpV} {o : Wy.Op} {x : OpV} {t : Nd} {k lo hi : Int} {lz : Bool} {o1 o2 : Option Addr} {n1 c1 n2 c2 : Nat} {J : Act → World → Prop} {Q : Exit → Act → World → Prop} {ql qh : Int} (e : Nat → Value) (his : i ≤ s.size) (hs : s.size ≤ 1024) (hst0 : StkAt 155 70 B W0 (Value.slice (some ⟨g0, 0, none⟩) (m + 1) c0) (pre ++ [o]) (ys ++ [x])) (hm : pre.length = m) (hml : m ≤ 1000000) (hB0 : B ≤ W0.heap.size) (hbw : Below W0.heap.size W0 W) (hq0 : W0.heap.size ≤ q)
    (hq : Blk W q #[.int .u8 k, .slice o1 n1 c1, .int .i64 lo, .int .i64 hi, .bool lz, .slice o2 n2 c2] 70)
    (hnd : NdAt (fun b => freeN B (Value.slice (some ⟨g0, 0, none⟩) (m + 1) c0) (ys ++ [x]) b ∧ b ≠ q) W t [.int .u8 k, .slice o1 n1 c1, .int .i64 lo, .int .i64 hi, .bool lz, .slice o2 n2 c2]) (hil : o.items.length ≤ 1000000)
    (hqm : quantM (restS s i) 0 = some (ql, qh, 1)) (hi1 : ¬ i + 1 < s.size) (hql : I64 ql) (hqh : I64 qh)
    (hJ : ∀ a' w', RdNext B rb s (i + 1) (pre ++ [{ o with items := o.items ++ [.mk 5 [] ql qh false [t]] }]) W0 a' w' → J a' w') :
    Code.wp Tryz.prog (rdC [1, 1, 1, 0, 0, 0, 1, 0, 1, 1, 1]) (Exit.then J Q) ⟨#[.string s, e 1, .pointer (some ⟨rb, 0, none⟩), e 3, .slice (some ⟨g0, 0, none⟩) (m + 1) c0, .int .i64 i, .int .i64 m, .pointer (some ⟨q, 0, none⟩), e 8, e 9, e 10, e 11, e 12, e 13, e 14, e 15, e 16, e 17, e 18, e 19, e 20, e 21, e 22, e 23, e 24, e 25, e 26, e 27, e 28, e 29, e 30, e 31, e 32, e 33, e 34, e 35, e 36, e 37, e 38, e 39, e 40, e 41, e 42, e 43, e 44, e 45, e 46, e 47, e 48, e 49, e 50, e 51, e 52, e 53, e 54, e 55, e 56, e 57, e 58, e 59, e 60, e 61, e 62, e 63, e 64, e 65, e 66, e 67, e 68, e 69, e 70, e 71, e 72, e 73, e 74, e 75, e 76, e 77, e 78, e 79, e 80, e 81, e 82, e 83, e 84, e 85, e 86, e 87, e 88, e 89, e 90, e 91, e 92, e 93, e 94, e 95, e 96, e 97, e 98, e 99, e 100, e 101, e 102, e 103, e 104, e 105, e 106, e 107, e 108, e 109, e 110, e 111, e 112, e 113, e 114, e 115, e 116, e 117, e 118, e 119, e 120, e 121, e 122, e 123, e 124, e 125, e 126, e 127, e 128, e 129, e 130, e 131, e 132, e 133, e 134, e 135, e 136, e 137, e 138, e 139, e 140, e 141, e 142, e 143, e 144, e 145, e 146, e 147, e 148, e 149, e 150, e 151, e 152, e 153, e 154, e 155, e 156, e 157, e 158, e 159, e 160, e 161, e 162, e 163, e 164, e 165, e 166, e 167, e 168, e 169, e 170, e 171, e 172, e 173, e 174, e 175, e 176], []⟩ W := by
  have hsI : (s.size : Int) ≤ 1024 := by omega
  have hiI : (i : Int) ≤ s.size := by omega
  have hsz := restS_size s i his
  have hcall := fun w => quant_any hqm (by rw [hsz]; omega) w
  have HC := Lib.hid hcall
  have hli : decide ((i : Int) + 1 < s.size) = false := decide_eq_false (by omega)
  have key : ∀ W', W' = (((((((W.setCell ⟨q, 0, none⟩ (.int .u8 5)).setCell ⟨q, 1, none⟩ (.slice none 0 0)).setCell ⟨q, 2, none⟩ (.int .i64 ql)).setCell ⟨q, 3, none⟩ (.int .i64 qh)).setCell ⟨q, 4, none⟩ (.bool false)).setCell ⟨q, 5, none⟩ (.slice (some ⟨W.heap.size, 0, none⟩) 1 1)).alloc (.cells #[.int .u8 k, .slice o1 n1 c1, .int .i64 lo, .int .i64 hi, .bool lz, .slice o2 n2 c2] 70)) →
      ∀ l : List Value, l.length = 177 → l[0]? = some (.string s) → l[2]? = some (.pointer (some ⟨rb, 0, none⟩)) → l[4]? = some (Value.slice (some ⟨g0, 0, none⟩) (m + 1) c0) → l[5]? = some (.int .i64 ((i + 1 : Nat) : Int)) → l[6]? = some (.int .i64 m) → l[7]? = some (.pointer (some ⟨q, 0, none⟩)) →
      ∀ (K : Act → World → Prop) (Q' : Exit → Act → World → Prop), (∀ a' w', J a' w' → K a' w') → Code.wp Tryz.prog (rdC [1, 1, 1, 0, 0, 0, 1, 0, 1, 1, 1, 1, 1, 1]) (Exit.then K Q') ⟨l.toArray, []⟩ W' := by
    intro W' hW' l hl h0 h2 h4 h5 h6 h7 K Q' hK
    have k0 := set6k (W := W) (b := q) (.int .u8 5) (.slice none 0 0) (.int .i64 ql) (.int .i64 qh) (.bool false) (.slice (some ⟨W.heap.size, 0, none⟩) 1 1)
    have k2 := k0.alloc (.cells #[.int .u8 k, .slice o1 n1 c1, .int .i64 lo, .int .i64 hi, .bool lz, .slice o2 n2 c2] 70)
    rw [← hW'] at k2
    have hqB := (set6blk hq (.int .u8 5) (.slice none 0 0) (.int .i64 ql) (.int .i64 qh) (.bool false) (.slice (some ⟨W.heap.size, 0, none⟩) 1 1)).alloc (.cells #[.int .u8 k, .slice o1 n1 c1, .int .i64 lo, .int .i64 hi, .bool lz, .slice o2 n2 c2] 70)
    rw [← hW'] at hqB
    have hqlt := hq.lt
    have hWW : W.heap.size ≤ W'.heap.size := k2.size
    have hnew : Blk W' W.heap.size #[.int .u8 k, .slice o1 n1 c1, .int .i64 lo, .int .i64 hi, .bool lz, .slice o2 n2 c2] 70 := by
      rw [hW']
      exact Blk.new' _ _ (by simp)
    have hbW' : Below W0.heap.size W0 W' := ((Kept.of_below hbw (fun b => b = q)).trans k2).below (fun b hb e => by omega)
    have hsz0 := hbw.size
    have hrow0 := hst0.lt
    have hv0 := hst0.row.lt g0 rfl
    have hfree : freeN B (Value.slice (some ⟨g0, 0, none⟩) (m + 1) c0) (ys ++ [x]) W.heap.size := ⟨by omega, fun e => by simp only [Value.ownBlock, Option.some.injEq] at e; omega, fun e => by have := hrow0 _ e; omega⟩
    have ht1 : NdAt (freeN B (Value.slice (some ⟨g0, 0, none⟩) (m + 1) c0) (ys ++ [x])) W' t [.int .u8 k, .slice o1 n1 c1, .int .i64 lo, .int .i64 hi, .bool lz, .slice o2 n2 c2] := NdAt.go k2 (fun b _ hb => ⟨hb.2, hb.1⟩) hnd
    exact rd_put' (t := .mk 5 [] ql qh false [t]) hl h0 h2 h4 h5 h6 h7 (hst0.below hbW') hm hml hqB (nd_oneT hnew hfree ht1 (by omega) hql hqh) (by omega) hil (fun a' w' hn => hK _ _ (hJ a' w' (by
      obtain ⟨l, v, xs, e1, e2, e3, e4, e5, e6, e7, e8⟩ := hn
      exact ⟨l, v, xs, e1, e2, e3, e4, e5, e6, e7, (hbW'.mono hB0).trans e8⟩)))
  have KEY := Lib.hid key
  have b0 := hq.cell 0
  have b1 := hq.cell 1
  have b2 := hq.cell 2
  have b3 := hq.cell 3
  have b4 := hq.cell 4
  have b5 := hq.cell 5
  have bz := hq.lt
  have bf : ∀ i, W.frozen? ⟨q, i, none⟩ = false := hq.frozen
  have hmI : (m : Int) ≤ 1000000 := by omega
  clear key hq hnd hst0 hm hml hil hJ hbw hq0 hB0 hcall hqm hql hqh hsz hi1
  conv => arg 2; whnf
  go_upto_region 41 with (go_at_call 86; go_loud (refine (HC.out _).mono ?_; rintro e w' ⟨rfl, rfl⟩))
  exact KEY.out _ rfl _ rfl rfl rfl rfl rfl rfl rfl _ _ (fun _ _ h => h)
end Go.Proofs.YtnhjakdmbfadlaaGreatDoor
