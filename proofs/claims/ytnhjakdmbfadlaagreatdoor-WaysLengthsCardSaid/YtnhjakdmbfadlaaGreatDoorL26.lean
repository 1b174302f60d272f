/- Parts of the proof: RdU, RdD. Conditions: none. -/
import Derived.Test.YtnhjakdmbfadlaaGreatDoorL25
import Derived.Deep.DeepCutAuto
set_option linter.all false
/- The reader's tail whole; the arm '('. -/
namespace Go.Proofs.YtnhjakdmbfadlaaGreatDoor
open Go.RowKit Wy Mem Grow

theorem pushM_concat (pre : List Wy.Op) (o : Wy.Op) (t : Nd) : pushM (pre ++ [o]) t = pre ++ [{ o with items := o.items ++ [t] }] := by
  unfold pushM topM
  simp
theorem quantM_i64 {s : ByteArray} {i : Nat} {lo hi : Int} {k : Nat} (h : quantM s i = some (lo, hi, k)) : I64 lo ∧ I64 hi := by
  unfold quantM at h
  unfold I64
  split at h
  · simp only [Option.some.injEq, Prod.mk.injEq] at h; omega
  · split at h
    · simp only [Option.some.injEq, Prod.mk.injEq] at h; omega
    · split at h
      · simp only [Option.some.injEq, Prod.mk.injEq] at h; omega
      · split at h
        · simp only [Option.some.injEq, Prod.mk.injEq] at h; omega
        · split at h
          · cases h
          · simp only [Option.some.injEq, Prod.mk.injEq] at h; omega
theorem rd_tail {B rb i g0 c0 m q j : Nat} {s : ByteArray} {W0 W : World} {pre st' : List Wy.Op} {ys : List OpV} {o : Wy.Op} {x : OpV} {t : Nd} {k lo hi : Int} {lz : Bool} {o1 o2 : Option Addr} {n1 c1 n2 c2 : Nat} {J : Act → World → Prop} {Q : Exit → Act → World → Prop} {l : List Value} (hl : l.length = 177)
    (h0 : l[0]? = some (.string s)) (h2 : l[2]? = some (.pointer (some ⟨rb, 0, none⟩))) (h4 : l[4]? = some (Value.slice (some ⟨g0, 0, none⟩) (m + 1) c0)) (h5 : l[5]? = some (.int .i64 i)) (h6 : l[6]? = some (.int .i64 m)) (h7 : l[7]? = some (.pointer (some ⟨q, 0, none⟩)))
    (his : i ≤ s.size) (hs : s.size ≤ 1024) (hst0 : StkAt 155 70 B W0 (Value.slice (some ⟨g0, 0, none⟩) (m + 1) c0) (pre ++ [o]) (ys ++ [x])) (hm : pre.length = m) (hml : m ≤ 1000000) (hB0 : B ≤ W0.heap.size) (hbw : Below W0.heap.size W0 W) (hq0 : W0.heap.size ≤ q)
    (hq : Blk W q #[.int .u8 k, .slice o1 n1 c1, .int .i64 lo, .int .i64 hi, .bool lz, .slice o2 n2 c2] 70)
    (hnd : NdAt (fun b => freeN B (Value.slice (some ⟨g0, 0, none⟩) (m + 1) c0) (ys ++ [x]) b ∧ b ≠ q) W t [.int .u8 k, .slice o1 n1 c1, .int .i64 lo, .int .i64 hi, .bool lz, .slice o2 n2 c2]) (hil : o.items.length ≤ 1000000)
    (hadd : addM s i (pre ++ [o]) t = some (j, st'))
    (hJ : ∀ a' w', RdNext B rb s j st' W0 a' w' → J a' w') :
    Code.wp Tryz.prog (rdC [1, 1, 1, 0, 0, 0, 1, 0, 1, 1, 1]) (Exit.then J Q) ⟨l.toArray, []⟩ W := by
  obtain ⟨e, rfl⟩ := frame177 hl
  have h0 := Option.some.inj h0
  have h2 := Option.some.inj h2
  have h4 := Option.some.inj h4
  have h5 := Option.some.inj h5
  have h6 := Option.some.inj h6
  have h7 := Option.some.inj h7
  rw [h0, h2, h4, h5, h6, h7]
  unfold addM at hadd
  cases hqm : quantM s i with
  | none => rw [hqm] at hadd; cases hadd
  | some p =>
    obtain ⟨ql, qh, kk⟩ := p
    rw [hqm] at hadd
    simp only at hadd
    have hk := quantM_k hqm
    have hi64 := quantM_i64 hqm
    by_cases k0 : kk = 0
    · subst k0
      rw [if_pos rfl, pushM_concat] at hadd
      simp only [Option.some.injEq, Prod.mk.injEq] at hadd
      obtain ⟨rfl, rfl⟩ := hadd
      exact rd_tail0 e his hs hst0 hm hml hB0 hbw hq0 hq hnd hil (by rw [quantM_rest s i his]; exact hqm) hJ
    · obtain rfl : kk = 1 := by omega
      rw [if_neg (by omega), pushM_concat] at hadd
      simp only [Option.some.injEq, Prod.mk.injEq] at hadd
      obtain ⟨rfl, rfl⟩ := hadd
      by_cases hi1 : i + 1 < s.size
      · by_cases hlz : byteAt s (i + 1) = 63
        · have hz : lazyM s (i + 1) = true := by unfold lazyM; simp [hi1, hlz]
          rw [hz] at hJ
          exact rd_tail1 e his hs hst0 hm hml hB0 hbw hq0 hq hnd hil (by rw [quantM_rest s i his]; exact hqm) hi1 hlz hi64.1 hi64.2 hJ
        · have hz : lazyM s (i + 1) = false := by unfold lazyM; simp [hlz]
          rw [hz] at hJ
          exact rd_tail2 e his hs hst0 hm hml hB0 hbw hq0 hq hnd hil (by rw [quantM_rest s i his]; exact hqm) hi1 hlz hi64.1 hi64.2 hJ
      · have hz : lazyM s (i + 1) = false := by unfold lazyM; simp [hi1]
        rw [hz] at hJ
        exact rd_tail3 e his hs hst0 hm hml hB0 hbw hq0 hq hnd hil (by rw [quantM_rest s i his]; exact hqm) hi1 hi64.1 hi64.2 hJ
theorem info126 : (Tryz.prog.info? 155).map (fun i => (i.zero, i.size, i.bytes)) = some (some (.agg #[.slice none 0 0, .slice none 0 0, .bool false]), 3, 56) := by kernel_rfl
theorem src3 {T : TypeId} {W : World} {c0 c1 c2 : Value} {b : Nat} (hb : b = W.heap.size) : SrcAt (W.alloc (.cells #[c0, c1, c2] T)) (.slice (some ⟨b, 0, none⟩) 1 1) 1 [c0, c1, c2] := by
  subst hb
  have hB := Blk.new W #[c0, c1, c2] T
  refine .inr ⟨_, _, rfl, fun j u hu => ?_⟩
  match j with
  | 0 => simp at hu; subst hu; simp [Addr.add, hB.cell]
  | 1 => simp at hu; subst hu; simp [Addr.add, hB.cell]
  | 2 => simp at hu; subst hu; simp [Addr.add, hB.cell]
  | j + 3 => simp at hu
set_option maxHeartbeats 8000000 in
set_option maxRecDepth 100000 in
theorem rd_open1 {B rb i g0 c0 m : Nat} {s : ByteArray} {W0 : World} {pre : List Wy.Op} {ys : List OpV} {o : Wy.Op} {x : OpV} {J : Act → World → Prop} {Q : Exit → Act → World → Prop} (e : Nat → Value)
    (his : i < s.size) (hs : s.size ≤ 1024) (hbar : byteAt s i = 40) (h2s : i + 2 < s.size) (hq1 : byteAt s (i + 1) = 63) (hq2 : byteAt s (i + 2) = 58)
    (hst0 : StkAt 155 70 B W0 (Value.slice (some ⟨g0, 0, none⟩) (m + 1) c0) (pre ++ [o]) (ys ++ [x])) (hm : pre.length = m) (hml : m ≤ 1000000) (hB0 : B ≤ W0.heap.size)
    (hJ : ∀ a' w', RdNext B rb s (i + 3) ((pre ++ [o]) ++ [⟨[], [], false⟩]) W0 a' w' → J a' w') :
    Code.wp Tryz.prog (rdC [1, 1, 1, 0, 0, 0]) (Exit.then J Q) ⟨#[.string s, e 1, .pointer (some ⟨rb, 0, none⟩), e 3, .slice (some ⟨g0, 0, none⟩) (m + 1) c0, .int .i64 i, e 6, e 7, e 8, e 9, e 10, e 11, e 12, e 13, e 14, e 15, e 16, e 17, e 18, e 19, e 20, e 21, e 22, e 23, e 24, e 25, e 26, e 27, e 28, e 29, e 30, e 31, e 32, e 33, e 34, e 35, e 36, e 37, e 38, e 39, e 40, e 41, e 42, e 43, e 44, e 45, e 46, e 47, e 48, e 49, e 50, e 51, e 52, e 53, e 54, e 55, e 56, e 57, e 58, e 59, e 60, e 61, e 62, e 63, e 64, e 65, e 66, e 67, e 68, e 69, e 70, e 71, e 72, e 73, e 74, e 75, e 76, e 77, e 78, e 79, e 80, e 81, e 82, e 83, e 84, e 85, e 86, e 87, e 88, e 89, e 90, e 91, e 92, e 93, e 94, e 95, e 96, e 97, e 98, e 99, e 100, e 101, e 102, e 103, e 104, e 105, e 106, e 107, e 108, e 109, e 110, e 111, e 112, e 113, e 114, e 115, e 116, e 117, e 118, e 119, e 120, e 121, e 122, e 123, e 124, e 125, e 126, e 127, e 128, e 129, e 130, e 131, e 132, e 133, e 134, e 135, e 136, e 137, e 138, e 139, e 140, e 141, e 142, e 143, e 144, e 145, e 146, e 147, e 148, e 149, e 150, e 151, e 152, e 153, e 154, e 155, e 156, e 157, e 158, e 159, e 160, e 161, e 162, e 163, e 164, e 165, e 166, e 167, e 168, e 169, e 170, e 171, e 172, e 173, e 174, e 175, e 176], []⟩ W0 := by
  have hb : (s[i].toNat : Int) = 40 := by rw [get_at his, hbar]; rfl
  have hsI : (s.size : Int) ≤ 1024 := by omega
  have hiI : (i : Int) < s.size := by omega
  have hmI : (m : Int) ≤ 1000000 := by omega
  have h2I : (i : Int) + 1 + 1 < s.size := by omega
  have hc1 : (s[i + 1].toNat : Int) = 63 := by rw [get_at (by omega), hq1]; rfl
  have hc2 : (s[i + 1 + 1].toNat : Int) = 58 := by rw [get_at (by omega), hq2]; rfl
  have h1s : i + 1 < s.size := by omega
  have h2s' : i + 1 + 1 < s.size := by omega
  obtain ⟨i0, hi0, hz0, hz1, hz2⟩ := info_parts info126
  have hb2 : Below W0.heap.size W0 ((W0.alloc (.cells #[.int .u8 2, .slice none 0 0, .int .i64 0, .int .i64 0, .bool false, .slice none 0 0] 70)).alloc (.cells #[.slice none 0 0, .slice none 0 0, .bool false] 155)) := ((Below.refl _ _).alloc (Nat.le_refl _) _).alloc (by simp) _
  have hst := hst0.below hb2
  have hrow := hst.row
  have hlen : (pre ++ [o]).length = m + 1 := by simp [hm]
  rw [hlen] at hrow
  have hbase : B ≤ ((W0.alloc (.cells #[.int .u8 2, .slice none 0 0, .int .i64 0, .int .i64 0, .bool false, .slice none 0 0] 70)).alloc (.cells #[.slice none 0 0, .slice none 0 0, .bool false] 155)).heap.size := Nat.le_trans hB0 hb2.size
  have key : ∀ v' w', w'.ownsRow B 155 3 v' (m + 1 + 1) (opCs (pre ++ [o]) (ys ++ [x]) ++ [.slice none 0 0, .slice none 0 0, .bool false]) → ((W0.alloc (.cells #[.int .u8 2, .slice none 0 0, .int .i64 0, .int .i64 0, .bool false, .slice none 0 0] 70)).alloc (.cells #[.slice none 0 0, .slice none 0 0, .bool false] 155)).grownBy w' (Value.slice (some ⟨g0, 0, none⟩) (m + 1) c0).ownBlock →
      (v'.ownBlock = (Value.slice (some ⟨g0, 0, none⟩) (m + 1) c0).ownBlock ∨ v'.ownBlock = some ((W0.alloc (.cells #[.int .u8 2, .slice none 0 0, .int .i64 0, .int .i64 0, .bool false, .slice none 0 0] 70)).alloc (.cells #[.slice none 0 0, .slice none 0 0, .bool false] 155)).heap.size) →
      ∀ l : List Value, l.length = 177 → l[0]? = some (.string s) → l[2]? = some (.pointer (some ⟨rb, 0, none⟩)) → l[4]? = some v' → l[5]? = some (.int .i64 ((i + 3 : Nat) : Int)) → J ⟨l.toArray, []⟩ w' := by
    intro v' w' h1 h2 h3 l hl k0 k2 k4 k5
    refine hJ _ _ ⟨l, v', _, rfl, hl, k0, k2, k4, k5, hst.push false (by rw [hlen]; exact h1) h2 h3, ?_⟩
    have hlt := (hst0.row.lt g0 rfl).1
    exact ((Kept.of_below hb2 (fun b => (Value.slice (some ⟨g0, 0, none⟩) (m + 1) c0).ownBlock = some b)).trans (grownK h2)).belowOf hB0 (fun b hb e => by simp only [Value.ownBlock, Option.some.injEq] at e; omega)
  have HROW := Lib.hid hrow
  have HBASE := Lib.hid hbase
  have KEY := Lib.hid key
  have hmx : m + 1 + 1 ≤ maxLen := by unfold maxLen; omega
  have hby : (m + 1 + 1) * 56 ≤ 140737488355328 := by omega
  have HSRC := Lib.hid (src3 (T := 155) (W := W0.alloc (.cells #[.int .u8 2, .slice none 0 0, .int .i64 0, .int .i64 0, .bool false, .slice none 0 0] 70)) (c0 := .slice none 0 0) (c1 := .slice none 0 0) (c2 := .bool false) (b := W0.heap.size + 1) (by simp))
  clear hJ hst0 hst hrow hbase key hB0 hm hbar hb2 hlen hq1 hq2
  conv => arg 2; whnf
  go_wp2_with (first | (at_builtin; refine wpList_append_row rfl _ _ 156 rfl Tryz.underlying156 hi0 hz0 hz1 hz2 rfl (Value.slice (some ⟨g0, 0, none⟩) (m + 1) c0) (m + 1) _ rfl HROW.out _ 1 _ rfl HSRC.out rfl (by simp [Value.oneCell']) hmx hby HBASE.out ?_; intro v' w4 hown' hgrow h3' h4'; have HK := Lib.hid (KEY.out v' w4 hown' hgrow h3'); clear hown' hgrow h3' h4'))
  exact HK.out _ rfl rfl rfl rfl rfl
set_option maxHeartbeats 8000000 in
set_option maxRecDepth 100000 in
theorem rd_open2 {B rb i g0 c0 m : Nat} {s : ByteArray} {W0 : World} {pre : List Wy.Op} {ys : List OpV} {o : Wy.Op} {x : OpV} {J : Act → World → Prop} {Q : Exit → Act → World → Prop} (e : Nat → Value)
    (his : i < s.size) (hs : s.size ≤ 1024) (hbar : byteAt s i = 40) (h2s : ¬ i + 2 < s.size)
    (hst0 : StkAt 155 70 B W0 (Value.slice (some ⟨g0, 0, none⟩) (m + 1) c0) (pre ++ [o]) (ys ++ [x])) (hm : pre.length = m) (hml : m ≤ 1000000) (hB0 : B ≤ W0.heap.size)
    (hJ : ∀ a' w', RdNext B rb s (i + 1) ((pre ++ [o]) ++ [⟨[], [], true⟩]) W0 a' w' → J a' w') :
    Code.wp Tryz.prog (rdC [1, 1, 1, 0, 0, 0]) (Exit.then J Q) ⟨#[.string s, e 1, .pointer (some ⟨rb, 0, none⟩), e 3, .slice (some ⟨g0, 0, none⟩) (m + 1) c0, .int .i64 i, e 6, e 7, e 8, e 9, e 10, e 11, e 12, e 13, e 14, e 15, e 16, e 17, e 18, e 19, e 20, e 21, e 22, e 23, e 24, e 25, e 26, e 27, e 28, e 29, e 30, e 31, e 32, e 33, e 34, e 35, e 36, e 37, e 38, e 39, e 40, e 41, e 42, e 43, e 44, e 45, e 46, e 47, e 48, e 49, e 50, e 51, e 52, e 53, e 54, e 55, e 56, e 57, e 58, e 59, e 60, e 61, e 62, e 63, e 64, e 65, e 66, e 67, e 68, e 69, e 70, e 71, e 72, e 73, e 74, e 75, e 76, e 77, e 78, e 79, e 80, e 81, e 82, e 83, e 84, e 85, e 86, e 87, e 88, e 89, e 90, e 91, e 92, e 93, e 94, e 95, e 96, e 97, e 98, e 99, e 100, e 101, e 102, e 103, e 104, e 105, e 106, e 107, e 108, e 109, e 110, e 111, e 112, e 113, e 114, e 115, e 116, e 117, e 118, e 119, e 120, e 121, e 122, e 123, e 124, e 125, e 126, e 127, e 128, e 129, e 130, e 131, e 132, e 133, e 134, e 135, e 136, e 137, e 138, e 139, e 140, e 141, e 142, e 143, e 144, e 145, e 146, e 147, e 148, e 149, e 150, e 151, e 152, e 153, e 154, e 155, e 156, e 157, e 158, e 159, e 160, e 161, e 162, e 163, e 164, e 165, e 166, e 167, e 168, e 169, e 170, e 171, e 172, e 173, e 174, e 175, e 176], []⟩ W0 := by
  have hb : (s[i].toNat : Int) = 40 := by rw [get_at his, hbar]; rfl
  have hsI : (s.size : Int) ≤ 1024 := by omega
  have hiI : (i : Int) < s.size := by omega
  have hmI : (m : Int) ≤ 1000000 := by omega
  have h2I : decide ((i : Int) + 1 + 1 < s.size) = false := decide_eq_false (by omega)
  obtain ⟨i0, hi0, hz0, hz1, hz2⟩ := info_parts info126
  have hb2 : Below W0.heap.size W0 ((W0.alloc (.cells #[.int .u8 2, .slice none 0 0, .int .i64 0, .int .i64 0, .bool false, .slice none 0 0] 70)).alloc (.cells #[.slice none 0 0, .slice none 0 0, .bool true] 155)) := ((Below.refl _ _).alloc (Nat.le_refl _) _).alloc (by simp) _
  have hst := hst0.below hb2
  have hrow := hst.row
  have hlen : (pre ++ [o]).length = m + 1 := by simp [hm]
  rw [hlen] at hrow
  have hbase : B ≤ ((W0.alloc (.cells #[.int .u8 2, .slice none 0 0, .int .i64 0, .int .i64 0, .bool false, .slice none 0 0] 70)).alloc (.cells #[.slice none 0 0, .slice none 0 0, .bool true] 155)).heap.size := Nat.le_trans hB0 hb2.size
  have key : ∀ v' w', w'.ownsRow B 155 3 v' (m + 1 + 1) (opCs (pre ++ [o]) (ys ++ [x]) ++ [.slice none 0 0, .slice none 0 0, .bool true]) → ((W0.alloc (.cells #[.int .u8 2, .slice none 0 0, .int .i64 0, .int .i64 0, .bool false, .slice none 0 0] 70)).alloc (.cells #[.slice none 0 0, .slice none 0 0, .bool true] 155)).grownBy w' (Value.slice (some ⟨g0, 0, none⟩) (m + 1) c0).ownBlock →
      (v'.ownBlock = (Value.slice (some ⟨g0, 0, none⟩) (m + 1) c0).ownBlock ∨ v'.ownBlock = some ((W0.alloc (.cells #[.int .u8 2, .slice none 0 0, .int .i64 0, .int .i64 0, .bool false, .slice none 0 0] 70)).alloc (.cells #[.slice none 0 0, .slice none 0 0, .bool true] 155)).heap.size) →
      ∀ l : List Value, l.length = 177 → l[0]? = some (.string s) → l[2]? = some (.pointer (some ⟨rb, 0, none⟩)) → l[4]? = some v' → l[5]? = some (.int .i64 ((i + 1 : Nat) : Int)) → J ⟨l.toArray, []⟩ w' := by
    intro v' w' h1 h2 h3 l hl k0 k2 k4 k5
    refine hJ _ _ ⟨l, v', _, rfl, hl, k0, k2, k4, k5, hst.push true (by rw [hlen]; exact h1) h2 h3, ?_⟩
    have hlt := (hst0.row.lt g0 rfl).1
    exact ((Kept.of_below hb2 (fun b => (Value.slice (some ⟨g0, 0, none⟩) (m + 1) c0).ownBlock = some b)).trans (grownK h2)).belowOf hB0 (fun b hb e => by simp only [Value.ownBlock, Option.some.injEq] at e; omega)
  have HROW := Lib.hid hrow
  have HBASE := Lib.hid hbase
  have KEY := Lib.hid key
  have hmx : m + 1 + 1 ≤ maxLen := by unfold maxLen; omega
  have hby : (m + 1 + 1) * 56 ≤ 140737488355328 := by omega
  have HSRC := Lib.hid (src3 (T := 155) (W := W0.alloc (.cells #[.int .u8 2, .slice none 0 0, .int .i64 0, .int .i64 0, .bool false, .slice none 0 0] 70)) (c0 := .slice none 0 0) (c1 := .slice none 0 0) (c2 := .bool true) (b := W0.heap.size + 1) (by simp))
  clear hJ hst0 hst hrow hbase key hB0 hm hbar hb2 hlen h2s
  conv => arg 2; whnf
  go_wp2_with (first | (at_builtin; refine wpList_append_row rfl _ _ 156 rfl Tryz.underlying156 hi0 hz0 hz1 hz2 rfl (Value.slice (some ⟨g0, 0, none⟩) (m + 1) c0) (m + 1) _ rfl HROW.out _ 1 _ rfl HSRC.out rfl (by simp [Value.oneCell']) hmx hby HBASE.out ?_; intro v' w4 hown' hgrow h3' h4'; have HK := Lib.hid (KEY.out v' w4 hown' hgrow h3'); clear hown' hgrow h3' h4'))
  exact HK.out _ rfl rfl rfl rfl rfl
set_option maxHeartbeats 8000000 in
set_option maxRecDepth 100000 in
theorem rd_open3 {B rb i g0 c0 m : Nat} {s : ByteArray} {W0 : World} {pre : List Wy.Op} {ys : List OpV} {o : Wy.Op} {x : OpV} {J : Act → World → Prop} {Q : Exit → Act → World → Prop} (e : Nat → Value)
    (his : i < s.size) (hs : s.size ≤ 1024) (hbar : byteAt s i = 40) (h2s : i + 2 < s.size) (hq1 : byteAt s (i + 1) ≠ 63)
    (hst0 : StkAt 155 70 B W0 (Value.slice (some ⟨g0, 0, none⟩) (m + 1) c0) (pre ++ [o]) (ys ++ [x])) (hm : pre.length = m) (hml : m ≤ 1000000) (hB0 : B ≤ W0.heap.size)
    (hJ : ∀ a' w', RdNext B rb s (i + 1) ((pre ++ [o]) ++ [⟨[], [], true⟩]) W0 a' w' → J a' w') :
    Code.wp Tryz.prog (rdC [1, 1, 1, 0, 0, 0]) (Exit.then J Q) ⟨#[.string s, e 1, .pointer (some ⟨rb, 0, none⟩), e 3, .slice (some ⟨g0, 0, none⟩) (m + 1) c0, .int .i64 i, e 6, e 7, e 8, e 9, e 10, e 11, e 12, e 13, e 14, e 15, e 16, e 17, e 18, e 19, e 20, e 21, e 22, e 23, e 24, e 25, e 26, e 27, e 28, e 29, e 30, e 31, e 32, e 33, e 34, e 35, e 36, e 37, e 38, e 39, e 40, e 41, e 42, e 43, e 44, e 45, e 46, e 47, e 48, e 49, e 50, e 51, e 52, e 53, e 54, e 55, e 56, e 57, e 58, e 59, e 60, e 61, e 62, e 63, e 64, e 65, e 66, e 67, e 68, e 69, e 70, e 71, e 72, e 73, e 74, e 75, e 76, e 77, e 78, e 79, e 80, e 81, e 82, e 83, e 84, e 85, e 86, e 87, e 88, e 89, e 90, e 91, e 92, e 93, e 94, e 95, e 96, e 97, e 98, e 99, e 100, e 101, e 102, e 103, e 104, e 105, e 106, e 107, e 108, e 109, e 110, e 111, e 112, e 113, e 114, e 115, e 116, e 117, e 118, e 119, e 120, e 121, e 122, e 123, e 124, e 125, e 126, e 127, e 128, e 129, e 130, e 131, e 132, e 133, e 134, e 135, e 136, e 137, e 138, e 139, e 140, e 141, e 142, e 143, e 144, e 145, e 146, e 147, e 148, e 149, e 150, e 151, e 152, e 153, e 154, e 155, e 156, e 157, e 158, e 159, e 160, e 161, e 162, e 163, e 164, e 165, e 166, e 167, e 168, e 169, e 170, e 171, e 172, e 173, e 174, e 175, e 176], []⟩ W0 := by
  have hb : (s[i].toNat : Int) = 40 := by rw [get_at his, hbar]; rfl
  have hsI : (s.size : Int) ≤ 1024 := by omega
  have hiI : (i : Int) < s.size := by omega
  have hmI : (m : Int) ≤ 1000000 := by omega
  have h2I : (i : Int) + 1 + 1 < s.size := by omega
  have h1s : i + 1 < s.size := by omega
  have hc1 : ((s[i + 1].toNat : Int) == 63) = false := by rw [get_at (by omega)]; exact eqb_no hq1
  obtain ⟨i0, hi0, hz0, hz1, hz2⟩ := info_parts info126
  have hb2 : Below W0.heap.size W0 ((W0.alloc (.cells #[.int .u8 2, .slice none 0 0, .int .i64 0, .int .i64 0, .bool false, .slice none 0 0] 70)).alloc (.cells #[.slice none 0 0, .slice none 0 0, .bool true] 155)) := ((Below.refl _ _).alloc (Nat.le_refl _) _).alloc (by simp) _
  have hst := hst0.below hb2
  have hrow := hst.row
  have hlen : (pre ++ [o]).length = m + 1 := by simp [hm]
  rw [hlen] at hrow
  have hbase : B ≤ ((W0.alloc (.cells #[.int .u8 2, .slice none 0 0, .int .i64 0, .int .i64 0, .bool false, .slice none 0 0] 70)).alloc (.cells #[.slice none 0 0, .slice none 0 0, .bool true] 155)).heap.size := Nat.le_trans hB0 hb2.size
  have key : ∀ v' w', w'.ownsRow B 155 3 v' (m + 1 + 1) (opCs (pre ++ [o]) (ys ++ [x]) ++ [.slice none 0 0, .slice none 0 0, .bool true]) → ((W0.alloc (.cells #[.int .u8 2, .slice none 0 0, .int .i64 0, .int .i64 0, .bool false, .slice none 0 0] 70)).alloc (.cells #[.slice none 0 0, .slice none 0 0, .bool true] 155)).grownBy w' (Value.slice (some ⟨g0, 0, none⟩) (m + 1) c0).ownBlock →
      (v'.ownBlock = (Value.slice (some ⟨g0, 0, none⟩) (m + 1) c0).ownBlock ∨ v'.ownBlock = some ((W0.alloc (.cells #[.int .u8 2, .slice none 0 0, .int .i64 0, .int .i64 0, .bool false, .slice none 0 0] 70)).alloc (.cells #[.slice none 0 0, .slice none 0 0, .bool true] 155)).heap.size) →
      ∀ l : List Value, l.length = 177 → l[0]? = some (.string s) → l[2]? = some (.pointer (some ⟨rb, 0, none⟩)) → l[4]? = some v' → l[5]? = some (.int .i64 ((i + 1 : Nat) : Int)) → J ⟨l.toArray, []⟩ w' := by
    intro v' w' h1 h2 h3 l hl k0 k2 k4 k5
    refine hJ _ _ ⟨l, v', _, rfl, hl, k0, k2, k4, k5, hst.push true (by rw [hlen]; exact h1) h2 h3, ?_⟩
    have hlt := (hst0.row.lt g0 rfl).1
    exact ((Kept.of_below hb2 (fun b => (Value.slice (some ⟨g0, 0, none⟩) (m + 1) c0).ownBlock = some b)).trans (grownK h2)).belowOf hB0 (fun b hb e => by simp only [Value.ownBlock, Option.some.injEq] at e; omega)
  have HROW := Lib.hid hrow
  have HBASE := Lib.hid hbase
  have KEY := Lib.hid key
  have hmx : m + 1 + 1 ≤ maxLen := by unfold maxLen; omega
  have hby : (m + 1 + 1) * 56 ≤ 140737488355328 := by omega
  have HSRC := Lib.hid (src3 (T := 155) (W := W0.alloc (.cells #[.int .u8 2, .slice none 0 0, .int .i64 0, .int .i64 0, .bool false, .slice none 0 0] 70)) (c0 := .slice none 0 0) (c1 := .slice none 0 0) (c2 := .bool true) (b := W0.heap.size + 1) (by simp))
  clear hJ hst0 hst hrow hbase key hB0 hm hbar hb2 hlen hq1
  conv => arg 2; whnf
  go_wp2_with (first | (at_builtin; refine wpList_append_row rfl _ _ 156 rfl Tryz.underlying156 hi0 hz0 hz1 hz2 rfl (Value.slice (some ⟨g0, 0, none⟩) (m + 1) c0) (m + 1) _ rfl HROW.out _ 1 _ rfl HSRC.out rfl (by simp [Value.oneCell']) hmx hby HBASE.out ?_; intro v' w4 hown' hgrow h3' h4'; have HK := Lib.hid (KEY.out v' w4 hown' hgrow h3'); clear hown' hgrow h3' h4'))
  exact HK.out _ rfl rfl rfl rfl rfl
set_option maxHeartbeats 8000000 in
set_option maxRecDepth 100000 in
theorem rd_open4 {B rb i g0 c0 m : Nat} {s : ByteArray} {W0 : World} {pre : List Wy.Op} {ys : List OpV} {o : Wy.Op} {x : OpV} {J : Act → World → Prop} {Q : Exit → Act → World → Prop} (e : Nat → Value)
    (his : i < s.size) (hs : s.size ≤ 1024) (hbar : byteAt s i = 40) (h2s : i + 2 < s.size) (hq1 : byteAt s (i + 1) = 63) (hq2 : byteAt s (i + 2) ≠ 58)
    (hst0 : StkAt 155 70 B W0 (Value.slice (some ⟨g0, 0, none⟩) (m + 1) c0) (pre ++ [o]) (ys ++ [x])) (hm : pre.length = m) (hml : m ≤ 1000000) (hB0 : B ≤ W0.heap.size)
    (hJ : ∀ a' w', RdNext B rb s (i + 1) ((pre ++ [o]) ++ [⟨[], [], true⟩]) W0 a' w' → J a' w') :
    Code.wp Tryz.prog (rdC [1, 1, 1, 0, 0, 0]) (Exit.then J Q) ⟨#[.string s, e 1, .pointer (some ⟨rb, 0, none⟩), e 3, .slice (some ⟨g0, 0, none⟩) (m + 1) c0, .int .i64 i, e 6, e 7, e 8, e 9, e 10, e 11, e 12, e 13, e 14, e 15, e 16, e 17, e 18, e 19, e 20, e 21, e 22, e 23, e 24, e 25, e 26, e 27, e 28, e 29, e 30, e 31, e 32, e 33, e 34, e 35, e 36, e 37, e 38, e 39, e 40, e 41, e 42, e 43, e 44, e 45, e 46, e 47, e 48, e 49, e 50, e 51, e 52, e 53, e 54, e 55, e 56, e 57, e 58, e 59, e 60, e 61, e 62, e 63, e 64, e 65, e 66, e 67, e 68, e 69, e 70, e 71, e 72, e 73, e 74, e 75, e 76, e 77, e 78, e 79, e 80, e 81, e 82, e 83, e 84, e 85, e 86, e 87, e 88, e 89, e 90, e 91, e 92, e 93, e 94, e 95, e 96, e 97, e 98, e 99, e 100, e 101, e 102, e 103, e 104, e 105, e 106, e 107, e 108, e 109, e 110, e 111, e 112, e 113, e 114, e 115, e 116, e 117, e 118, e 119, e 120, e 121, e 122, e 123, e 124, e 125, e 126, e 127, e 128, e 129, e 130, e 131, e 132, e 133, e 134, e 135, e 136, e 137, e 138, e 139, e 140, e 141, e 142, e 143, e 144, e 145, e 146, e 147, e 148, e 149, e 150, e 151, e 152, e 153, e 154, e 155, e 156, e 157, e 158, e 159, e 160, e 161, e 162, e 163, e 164, e 165, e 166, e 167, e 168, e 169, e 170, e 171, e 172, e 173, e 174, e 175, e 176], []⟩ W0 := by
  have hb : (s[i].toNat : Int) = 40 := by rw [get_at his, hbar]; rfl
  have hsI : (s.size : Int) ≤ 1024 := by omega
  have hiI : (i : Int) < s.size := by omega
  have hmI : (m : Int) ≤ 1000000 := by omega
  have h2I : (i : Int) + 1 + 1 < s.size := by omega
  have h1s : i + 1 < s.size := by omega
  have h2s' : i + 1 + 1 < s.size := by omega
  have hc1 : (s[i + 1].toNat : Int) = 63 := by rw [get_at (by omega), hq1]; rfl
  have hc2 : ((s[i + 1 + 1].toNat : Int) == 58) = false := by rw [get_at (by omega)]; exact eqb_no hq2
  obtain ⟨i0, hi0, hz0, hz1, hz2⟩ := info_parts info126
  have hb2 : Below W0.heap.size W0 ((W0.alloc (.cells #[.int .u8 2, .slice none 0 0, .int .i64 0, .int .i64 0, .bool false, .slice none 0 0] 70)).alloc (.cells #[.slice none 0 0, .slice none 0 0, .bool true] 155)) := ((Below.refl _ _).alloc (Nat.le_refl _) _).alloc (by simp) _
  have hst := hst0.below hb2
  have hrow := hst.row
  have hlen : (pre ++ [o]).length = m + 1 := by simp [hm]
  rw [hlen] at hrow
  have hbase : B ≤ ((W0.alloc (.cells #[.int .u8 2, .slice none 0 0, .int .i64 0, .int .i64 0, .bool false, .slice none 0 0] 70)).alloc (.cells #[.slice none 0 0, .slice none 0 0, .bool true] 155)).heap.size := Nat.le_trans hB0 hb2.size
  have key : ∀ v' w', w'.ownsRow B 155 3 v' (m + 1 + 1) (opCs (pre ++ [o]) (ys ++ [x]) ++ [.slice none 0 0, .slice none 0 0, .bool true]) → ((W0.alloc (.cells #[.int .u8 2, .slice none 0 0, .int .i64 0, .int .i64 0, .bool false, .slice none 0 0] 70)).alloc (.cells #[.slice none 0 0, .slice none 0 0, .bool true] 155)).grownBy w' (Value.slice (some ⟨g0, 0, none⟩) (m + 1) c0).ownBlock →
      (v'.ownBlock = (Value.slice (some ⟨g0, 0, none⟩) (m + 1) c0).ownBlock ∨ v'.ownBlock = some ((W0.alloc (.cells #[.int .u8 2, .slice none 0 0, .int .i64 0, .int .i64 0, .bool false, .slice none 0 0] 70)).alloc (.cells #[.slice none 0 0, .slice none 0 0, .bool true] 155)).heap.size) →
      ∀ l : List Value, l.length = 177 → l[0]? = some (.string s) → l[2]? = some (.pointer (some ⟨rb, 0, none⟩)) → l[4]? = some v' → l[5]? = some (.int .i64 ((i + 1 : Nat) : Int)) → J ⟨l.toArray, []⟩ w' := by
    intro v' w' h1 h2 h3 l hl k0 k2 k4 k5
    refine hJ _ _ ⟨l, v', _, rfl, hl, k0, k2, k4, k5, hst.push true (by rw [hlen]; exact h1) h2 h3, ?_⟩
    have hlt := (hst0.row.lt g0 rfl).1
    exact ((Kept.of_below hb2 (fun b => (Value.slice (some ⟨g0, 0, none⟩) (m + 1) c0).ownBlock = some b)).trans (grownK h2)).belowOf hB0 (fun b hb e => by simp only [Value.ownBlock, Option.some.injEq] at e; omega)
  have HROW := Lib.hid hrow
  have HBASE := Lib.hid hbase
  have KEY := Lib.hid key
  have hmx : m + 1 + 1 ≤ maxLen := by unfold maxLen; omega
  have hby : (m + 1 + 1) * 56 ≤ 140737488355328 := by omega
  have HSRC := Lib.hid (src3 (T := 155) (W := W0.alloc (.cells #[.int .u8 2, .slice none 0 0, .int .i64 0, .int .i64 0, .bool false, .slice none 0 0] 70)) (c0 := .slice none 0 0) (c1 := .slice none 0 0) (c2 := .bool true) (b := W0.heap.size + 1) (by simp))
  clear hJ hst0 hst hrow hbase key hB0 hm hbar hb2 hlen hq1 hq2
  conv => arg 2; whnf
  go_wp2_with (first | (at_builtin; refine wpList_append_row rfl _ _ 156 rfl Tryz.underlying156 hi0 hz0 hz1 hz2 rfl (Value.slice (some ⟨g0, 0, none⟩) (m + 1) c0) (m + 1) _ rfl HROW.out _ 1 _ rfl HSRC.out rfl (by simp [Value.oneCell']) hmx hby HBASE.out ?_; intro v' w4 hown' hgrow h3' h4'; have HK := Lib.hid (KEY.out v' w4 hown' hgrow h3'); clear hown' hgrow h3' h4'))
  exact HK.out _ rfl rfl rfl rfl rfl
end Go.Proofs.YtnhjakdmbfadlaaGreatDoor

/- The reader's arm of a character. -/
namespace Go.Proofs.YtnhjakdmbfadlaaGreatDoor
open Go.RowKit Wy Mem Grow

theorem nd_chr {N : Nat → Prop} {W : World} {p c : Nat} {T : TypeId} (hB : Blk W p #[.int .i64 c, .int .i64 c] T) (hN : N p) (hc : c < 2048) :
    NdAt N W (.mk 2 [⟨c, c⟩] 0 0 false []) [.int .u8 2, .slice (some ⟨p, 0, none⟩) 1 1, .int .i64 0, .int .i64 0, .bool false, .slice none 0 0] := by
  rw [NdAt]
  refine ⟨_, _, [], rfl, ⟨by omega, by omega, by simp⟩, ⟨by decide, by decide⟩, ⟨by decide, by decide⟩, ⟨⟨rfl, .inr ⟨p, 0, 1, rfl, Nat.le_refl _, by unfold maxLen; omega, hN, hB.lt, fun j hj => ?_⟩⟩, ?_, by simp⟩, ⟨rfl, .inl ⟨rfl, _, _, rfl⟩⟩, by rw [NdsAt]⟩
  · rw [Nat.zero_add, hB.cell]
    simp [rgCs]
  · intro r hr
    simp only [List.mem_singleton] at hr
    subst hr
    unfold I64
    simp only
    omega
set_option maxHeartbeats 8000000 in
set_option maxRecDepth 100000 in
theorem rd_char {B rb i g0 c0 m j cc nn : Nat} {s : ByteArray} {W0 : World} {pre st' : List Wy.Op} {ys : List OpV} {op : Wy.Op} {xp : OpV} {J : Act → World → Prop} {Q : Exit → Act → World → Prop} (e : Nat → Value)
    (his : i < s.size) (hs : s.size ≤ 1024) (hb1 : byteAt s i ≠ 124) (hb2 : byteAt s i ≠ 40) (hb3 : byteAt s i ≠ 41) (hpt : pointM s i = some (cc, nn)) (hmt : cc ∉ metas)
    (hst0 : StkAt 155 70 B W0 (Value.slice (some ⟨g0, 0, none⟩) (m + 1) c0) (pre ++ [op]) (ys ++ [xp])) (hm : pre.length = m) (hml : m ≤ 1000000) (hB0 : B ≤ W0.heap.size) (hil : op.items.length ≤ 1000000)
    (hadd : addM s (i + nn) (pre ++ [op]) (.mk 2 [⟨cc, cc⟩] 0 0 false []) = some (j, st'))
    (hJ : ∀ a' w', RdNext B rb s j st' W0 a' w' → J a' w') :
    Code.wp Tryz.prog (rdC [1, 1, 1, 0, 0, 0]) (Exit.then J Q) ⟨#[.string s, e 1, .pointer (some ⟨rb, 0, none⟩), e 3, .slice (some ⟨g0, 0, none⟩) (m + 1) c0, .int .i64 i, e 6, e 7, e 8, e 9, e 10, e 11, e 12, e 13, e 14, e 15, e 16, e 17, e 18, e 19, e 20, e 21, e 22, e 23, e 24, e 25, e 26, e 27, e 28, e 29, e 30, e 31, e 32, e 33, e 34, e 35, e 36, e 37, e 38, e 39, e 40, e 41, e 42, e 43, e 44, e 45, e 46, e 47, e 48, e 49, e 50, e 51, e 52, e 53, e 54, e 55, e 56, e 57, e 58, e 59, e 60, e 61, e 62, e 63, e 64, e 65, e 66, e 67, e 68, e 69, e 70, e 71, e 72, e 73, e 74, e 75, e 76, e 77, e 78, e 79, e 80, e 81, e 82, e 83, e 84, e 85, e 86, e 87, e 88, e 89, e 90, e 91, e 92, e 93, e 94, e 95, e 96, e 97, e 98, e 99, e 100, e 101, e 102, e 103, e 104, e 105, e 106, e 107, e 108, e 109, e 110, e 111, e 112, e 113, e 114, e 115, e 116, e 117, e 118, e 119, e 120, e 121, e 122, e 123, e 124, e 125, e 126, e 127, e 128, e 129, e 130, e 131, e 132, e 133, e 134, e 135, e 136, e 137, e 138, e 139, e 140, e 141, e 142, e 143, e 144, e 145, e 146, e 147, e 148, e 149, e 150, e 151, e 152, e 153, e 154, e 155, e 156, e 157, e 158, e 159, e 160, e 161, e 162, e 163, e 164, e 165, e 166, e 167, e 168, e 169, e 170, e 171, e 172, e 173, e 174, e 175, e 176], []⟩ W0 := by
  have hb1 : ((s[i].toNat : Int) == 124) = false := by rw [get_at his]; exact eqb_no hb1
  have hb2 : ((s[i].toNat : Int) == 40) = false := by rw [get_at his]; exact eqb_no hb2
  have hb3 : ((s[i].toNat : Int) == 41) = false := by rw [get_at his]; exact eqb_no hb3
  have hsI : (s.size : Int) ≤ 1024 := by omega
  have hiI : (i : Int) < s.size := by omega
  have hmI : (m : Int) ≤ 1000000 := by omega
  have hnn := pointM_n hpt his
  have hcc := (point_byte hpt hmt).2.1
  have hn0 : ((nn : Int) == 0) = false := by rw [beq_eq_false_iff_ne]; omega
  have hnI : (nn : Int) ≤ 1024 := by omega
  have hb2' : Below W0.heap.size W0 (W0.alloc (.cells #[.int .u8 2, .slice none 0 0, .int .i64 0, .int .i64 0, .bool false, .slice none 0 0] 70)) := (Below.refl _ _).alloc (Nat.le_refl _) _
  have hbq : Blk (W0.alloc (.cells #[.int .u8 2, .slice none 0 0, .int .i64 0, .int .i64 0, .bool false, .slice none 0 0] 70)) W0.heap.size #[.int .u8 2, .slice none 0 0, .int .i64 0, .int .i64 0, .bool false, .slice none 0 0] 70 := Blk.new _ _ _
  have hzW : (W0.alloc (.cells #[.int .u8 2, .slice none 0 0, .int .i64 0, .int .i64 0, .bool false, .slice none 0 0] 70)).heap.size = W0.heap.size + 1 := by simp
  have hsz := restS_size s i (Nat.le_of_lt his)
  have hcall := set_any (x := restS s i) (by rw [pointM_rest s i (Nat.le_of_lt his)]; exact hpt) hmt (by rw [hsz]; omega) (by rw [hsz]; omega) (W0.alloc (.cells #[.int .u8 2, .slice none 0 0, .int .i64 0, .int .i64 0, .bool false, .slice none 0 0] 70))
  have hv0 := hst0.row.lt g0 rfl
  have HC := Lib.hid hcall
  have HB2 := Lib.hid hb2'
  have HBQ := Lib.hid hbq
  have HST := Lib.hid hst0
  have HV0 := Lib.hid hv0
  have HJ := Lib.hid hJ
  have HADD := Lib.hid hadd
  have HM := Lib.hid hm
  have HNN := Lib.hid hnn
  have HCC := Lib.hid hcc
  have HZW := Lib.hid hzW
  have hq : W0.heap.size < (W0.alloc (.cells #[.int .u8 2, .slice none 0 0, .int .i64 0, .int .i64 0, .bool false, .slice none 0 0] 70)).heap.size := by omega
  clear hcall hb2' hbq hst0 hJ hadd hm hnn hcc hzW hsz hpt hmt hv0
  conv => arg 2; whnf
  go_upto_region 7 with fail
  generalize (W0.alloc (.cells #[.int .u8 2, .slice none 0 0, .int .i64 0, .int .i64 0, .bool false, .slice none 0 0] 70)) = W at HC HB2 HBQ HZW hq ⊢
  rename_i K1 hK1 K2 hK2
  have tail : ∀ (W' : World) (l : List Value), l.length = 177 → l[0]? = some (.string s) → l[2]? = some (.pointer (some ⟨rb, 0, none⟩)) → l[4]? = some (Value.slice (some ⟨g0, 0, none⟩) (m + 1) c0) → l[5]? = some (.int .i64 ((i + nn : Nat) : Int)) → l[6]? = some (.int .i64 m) → l[7]? = some (.pointer (some ⟨W0.heap.size, 0, none⟩)) →
      ∀ {k lo hi : Int} {lz : Bool} {o1 o2 : Option Addr} {n1 c1 n2 c2 : Nat}, Below W0.heap.size W0 W' → Blk W' W0.heap.size #[.int .u8 k, .slice o1 n1 c1, .int .i64 lo, .int .i64 hi, .bool lz, .slice o2 n2 c2] 70 → NdAt (fun b => freeN B (Value.slice (some ⟨g0, 0, none⟩) (m + 1) c0) (ys ++ [xp]) b ∧ b ≠ W0.heap.size) W' (.mk 2 [⟨cc, cc⟩] 0 0 false []) [.int .u8 k, .slice o1 n1 c1, .int .i64 lo, .int .i64 hi, .bool lz, .slice o2 n2 c2] → K1 ⟨l.toArray, []⟩ W' := by
    intro W' l hl h0 h2 h4 h5 h6 h7 k lo hi lz o1 o2 n1 c1 n2 c2 hb hq hn
    exact hK1 _ _ (Code.wp_mono (fun e a w q => by cases e <;> exact q) (rd_tail (Q := Exit.inBlock 1 (Exit.then J Q)) hl h0 h2 h4 h5 h6 h7 HNN.out.2 hs HST.out HM.out (by omega) hB0 hb (Nat.le_refl _) hq hn hil HADD.out HJ.out))
  have TAIL := Lib.hid tail
  clear tail hK1
  go_upto_region 10 with (go_at_call 85; go_loud (refine HC.out.mono ?_; rintro ee w5 ⟨p, rfl, hp, hpz, hb5⟩; have HP := Lib.hid hp; have HPZ := Lib.hid hpz; have HB5 := Lib.hid hb5; have B5 := HBQ.out.below hb5 hq; have r0 := B5.cell 0; have r1 := B5.cell 1; have r2 := B5.cell 2; have r3 := B5.cell 3; have r4 := B5.cell 4; have r5 := B5.cell 5; have rz := B5.lt; have rf : ∀ i, w5.frozen? ⟨W0.heap.size, i, none⟩ = false := B5.frozen; clear B5 hp hpz hb5))
  have fin : ∀ (l : List Value), l.length = 177 → l[0]? = some (.string s) → l[2]? = some (.pointer (some ⟨rb, 0, none⟩)) → l[4]? = some (Value.slice (some ⟨g0, 0, none⟩) (m + 1) c0) → l[5]? = some (.int .i64 ((i + nn : Nat) : Int)) → l[6]? = some (.int .i64 m) → l[7]? = some (.pointer (some ⟨W0.heap.size, 0, none⟩)) → K1 ⟨l.toArray, []⟩ (w5.setCell ⟨W0.heap.size, 1, none⟩ (.slice (some ⟨p, 0, none⟩) 1 1)) := by
    intro l h1 h2 h3 h4 h5 h6 h7
    have k6 : Kept (fun b => b = W0.heap.size) w5 (w5.setCell ⟨W0.heap.size, 1, none⟩ (.slice (some ⟨p, 0, none⟩) 1 1)) := (Kept.refl (fun b => b = W0.heap.size) w5).setCell (p := ⟨W0.heap.size, 1, none⟩) (fun _ => rfl) _
    have hB6 := (HBQ.out.below HB5.out hq).set 1 (.slice (some ⟨p, 0, none⟩) 1 1)
    have hpz := HPZ.out
    have hzw := HZW.out
    have hp := HP.out.kept k6 (by omega)
    have hb6 : Below W0.heap.size W0 _ := ((Kept.of_below (HB2.out.trans (HB5.out.mono HB2.out.size)) (fun b => b = W0.heap.size)).trans k6).below (fun b hb e => by omega)
    have hv := HV0.out
    have hlt := HST.out.lt
    exact TAIL.out _ l h1 h2 h3 h4 h5 h6 h7 hb6 hB6 (nd_chr hp ⟨⟨by omega, fun e => by simp only [Value.ownBlock, Option.some.injEq] at e; omega, fun e => by have := hlt _ e; omega⟩, by omega⟩ HCC.out)
  have HFIN := Lib.hid fin
  clear fin TAIL HP HPZ HB5 HC HB2 HBQ HST HV0 HJ HADD HM HNN HCC HZW hml hB0 hil
  go_wp2_with fail
  exact HFIN.out _ rfl rfl rfl rfl rfl rfl rfl
end Go.Proofs.YtnhjakdmbfadlaaGreatDoor
