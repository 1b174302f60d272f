/- Parts of the proof: RdC. Conditions: none. -/
import Derived.Test.YtnhjakdmbfadlaaGreatDoorL26
set_option linter.all false
/- The reader's arm ')'. -/
namespace Go.Proofs.YtnhjakdmbfadlaaGreatDoor
open Go.RowKit Wy Mem Grow

theorem ownCap {W : World} {B : Nat} {T : TypeId} {sz g n c : Nat} {xs : List Value} (h : W.ownsRow B T sz (.slice (some ⟨g, 0, none⟩) n c) n xs) : n ≤ c := by
  rcases h.2 with ⟨h', _⟩ | ⟨g', cap', cur, h', _, _, hnc, _⟩
  · simp at h'
  · simp only [Value.slice.injEq, true_and] at h'
    omega
set_option maxHeartbeats 8000000 in
set_option maxRecDepth 100000 in
theorem rd_close0 {B rb i g0 c0 m j : Nat} {s : ByteArray} {W0 : World} {pre st' : List Wy.Op} {ys : List OpV} {op o : Wy.Op} {xp x : OpV} {J : Act → World → Prop} {Q : Exit → Act → World → Prop} (e : Nat → Value)
    (his : i < s.size) (hs : s.size ≤ 1024) (hbar : byteAt s i = 41) (hgr : o.group = false)
    (hst0 : StkAt 155 70 B W0 (Value.slice (some ⟨g0, 0, none⟩) (m + 1 + 1) c0) ((pre ++ [op]) ++ [o]) ((ys ++ [xp]) ++ [x])) (hm : pre.length = m) (hml : m ≤ 1000000) (hB0 : B ≤ W0.heap.size) (hil : op.items.length ≤ 1000000) (hl1 : o.seqs.length ≤ 1000000) (hl2 : o.items.length ≤ 1000000)
    (hadd : addM s (i + 1) (pre ++ [op]) (wholeM o) = some (j, st'))
    (hJ : ∀ a' w', RdNext B rb s j st' W0 a' w' → J a' w') :
    Code.wp Tryz.prog (rdC [1, 1, 1, 0, 0, 0]) (Exit.then J Q) ⟨#[.string s, e 1, .pointer (some ⟨rb, 0, none⟩), e 3, .slice (some ⟨g0, 0, none⟩) (m + 1 + 1) c0, .int .i64 i, e 6, e 7, e 8, e 9, e 10, e 11, e 12, e 13, e 14, e 15, e 16, e 17, e 18, e 19, e 20, e 21, e 22, e 23, e 24, e 25, e 26, e 27, e 28, e 29, e 30, e 31, e 32, e 33, e 34, e 35, e 36, e 37, e 38, e 39, e 40, e 41, e 42, e 43, e 44, e 45, e 46, e 47, e 48, e 49, e 50, e 51, e 52, e 53, e 54, e 55, e 56, e 57, e 58, e 59, e 60, e 61, e 62, e 63, e 64, e 65, e 66, e 67, e 68, e 69, e 70, e 71, e 72, e 73, e 74, e 75, e 76, e 77, e 78, e 79, e 80, e 81, e 82, e 83, e 84, e 85, e 86, e 87, e 88, e 89, e 90, e 91, e 92, e 93, e 94, e 95, e 96, e 97, e 98, e 99, e 100, e 101, e 102, e 103, e 104, e 105, e 106, e 107, e 108, e 109, e 110, e 111, e 112, e 113, e 114, e 115, e 116, e 117, e 118, e 119, e 120, e 121, e 122, e 123, e 124, e 125, e 126, e 127, e 128, e 129, e 130, e 131, e 132, e 133, e 134, e 135, e 136, e 137, e 138, e 139, e 140, e 141, e 142, e 143, e 144, e 145, e 146, e 147, e 148, e 149, e 150, e 151, e 152, e 153, e 154, e 155, e 156, e 157, e 158, e 159, e 160, e 161, e 162, e 163, e 164, e 165, e 166, e 167, e 168, e 169, e 170, e 171, e 172, e 173, e 174, e 175, e 176], []⟩ W0 := by
  have hb : (s[i].toNat : Int) = 41 := by rw [get_at his, hbar]; rfl
  have hsI : (s.size : Int) ≤ 1024 := by omega
  have hiI : (i : Int) < s.size := by omega
  have hmI : (m : Int) ≤ 1000000 := by omega
  have hm0 : (((m : Int) + 1) == 0) = false := by rw [beq_eq_false_iff_ne]; omega
  have hb2 : Below W0.heap.size W0 (W0.alloc (.cells #[.int .u8 2, .slice none 0 0, .int .i64 0, .int .i64 0, .bool false, .slice none 0 0] 70)) := (Below.refl _ _).alloc (Nat.le_refl _) _
  obtain ⟨sv, iv⟩ := x
  obtain ⟨so, sc, hsv⟩ := hst0.last.1.slice
  obtain ⟨io, ic, hiv⟩ := hst0.last.2.slice
  simp only at hsv hiv
  obtain ⟨ns, hns⟩ : ∃ n, n = o.seqs.length := ⟨_, rfl⟩
  obtain ⟨ni, hni⟩ : ∃ n, n = o.items.length := ⟨_, rfl⟩
  rw [← hns] at hsv
  rw [← hni] at hiv
  subst hsv hiv
  have hlow : (ys ++ [xp]).length = (pre ++ [op]).length := hst0.low
  have hlen : (pre ++ [op]).length = m + 1 := by simp [hm]
  have hlen2 : ((pre ++ [op]) ++ [o]).length = m + 1 + 1 := by simp [hm]
  have hpop := StkAt.pop (g := g0) (c := c0) (by rw [hlen2]; exact hst0)
  rw [hlen] at hpop
  obtain ⟨hst1, ⟨scs, hsr, hsn⟩, ⟨ics, hir, hin⟩⟩ := hpop
  simp only at hsr hir
  have hrow := hst0.row
  rw [hlen2, opCs_append _ _ _ _ hlow] at hrow
  have hrow' : W0.ownsRow B 155 3 (Value.slice (some ⟨g0, 0, none⟩) (m + 1 + 1) c0) (m + 1 + 1) (opCs (pre ++ [op]) (ys ++ [xp]) ++ [.slice so ns sc, .slice io ni ic, .bool o.group]) := hrow
  have hbl : (opCs (pre ++ [op]) (ys ++ [xp])).length = (m + 1) * 3 := by rw [opCs_len _ _ hlow, hlen]
  obtain ⟨t0, t1, t2, tf, tz⟩ := last3 hrow' hbl
  have hcap := ownCap hrow'
  have hcapI : (m : Int) + 1 ≤ c0 := by omega
  rw [hgr] at t2
  have HT2 := Lib.hid (And.intro t2 tz)
  have kb := Kept.of_below hb2 (fun _ => False)
  have u0 := ((bcell hb2).1 _ _ tz).trans t0
  have u1 := ((bcell hb2).1 _ _ tz).trans t1
  have u2 := ((bcell hb2).1 _ _ tz).trans t2
  have hbq : Blk (W0.alloc (.cells #[.int .u8 2, .slice none 0 0, .int .i64 0, .int .i64 0, .bool false, .slice none 0 0] 70)) W0.heap.size #[.int .u8 2, .slice none 0 0, .int .i64 0, .int .i64 0, .bool false, .slice none 0 0] 70 := Blk.new _ _ _
  have hzW : (W0.alloc (.cells #[.int .u8 2, .slice none 0 0, .int .i64 0, .int .i64 0, .bool false, .slice none 0 0] 70)).heap.size = W0.heap.size + 1 := by simp
  have hcall := whole7_any (N := fun b => freeN B (Value.slice (some ⟨g0, 0, none⟩) (m + 1) c0) (ys ++ [xp]) b ∧ b < W0.heap.size) (o := o) (RowGo hsr kb (fun b hb h => ⟨id, h, hb⟩)) (NdsAt.go kb (fun b hb h => ⟨id, h, hb⟩) hsn) (RowGo hir kb (fun b hb h => ⟨id, h, hb⟩)) (NdsAt.go kb (fun b hb h => ⟨id, h, hb⟩) hin) hl1 hl2
  rw [hgr] at hcall
  have HC := Lib.hid hcall
  have HB2 := Lib.hid hb2
  have HBQ := Lib.hid hbq
  have U0 := Lib.hid u0
  have U1 := Lib.hid u1
  have U2 := Lib.hid u2
  have hq : W0.heap.size < (W0.alloc (.cells #[.int .u8 2, .slice none 0 0, .int .i64 0, .int .i64 0, .bool false, .slice none 0 0] 70)).heap.size := by omega
  have uz : g0 < (W0.alloc (.cells #[.int .u8 2, .slice none 0 0, .int .i64 0, .int .i64 0, .bool false, .slice none 0 0] 70)).heap.size := by omega
  have HST1 := Lib.hid hst1
  have HJ := Lib.hid hJ
  have HADD := Lib.hid hadd
  have HM := Lib.hid hm
  have HLOW := Lib.hid hst1.lt
  clear hcall hb2 hbq hst1 hJ hadd hm hst0 hrow hrow' hsr hsn hir hin hbl hlow hlen hlen2 kb t0 t1 t2 tf tz hgr hbar hns hni u0 u1 u2 hcap
  conv => arg 2; whnf
  go_upto_region 26 with fail
  generalize (W0.alloc (.cells #[.int .u8 2, .slice none 0 0, .int .i64 0, .int .i64 0, .bool false, .slice none 0 0] 70)) = W at HC HB2 HBQ U0 U1 U2 hq uz hzW ⊢
  rename_i K1 hK1 K2 hK2
  have tail : ∀ (W' : World) (l : List Value), l.length = 177 → l[0]? = some (.string s) → l[2]? = some (.pointer (some ⟨rb, 0, none⟩)) → l[4]? = some (Value.slice (some ⟨g0, 0, none⟩) (m + 1) c0) → l[5]? = some (.int .i64 ((i + 1 : Nat) : Int)) → l[6]? = some (.int .i64 m) → l[7]? = some (.pointer (some ⟨W0.heap.size, 0, none⟩)) →
      ∀ {k lo hi : Int} {lz : Bool} {o1 o2 : Option Addr} {n1 c1 n2 c2 : Nat}, Below W0.heap.size W0 W' → Blk W' W0.heap.size #[.int .u8 k, .slice o1 n1 c1, .int .i64 lo, .int .i64 hi, .bool lz, .slice o2 n2 c2] 70 → NdAt (fun b => freeN B (Value.slice (some ⟨g0, 0, none⟩) (m + 1) c0) (ys ++ [xp]) b ∧ b ≠ W0.heap.size) W' (wholeM o) [.int .u8 k, .slice o1 n1 c1, .int .i64 lo, .int .i64 hi, .bool lz, .slice o2 n2 c2] → K1 ⟨l.toArray, []⟩ W' := by
    intro W' l hl h0 h2 h4 h5 h6 h7 k lo hi lz o1 o2 n1 c1 n2 c2 hb hq hn
    exact hK1 _ _ (Code.wp_mono (fun e a w q => by cases e <;> exact q) (rd_tail (Q := Exit.inBlock 1 (Exit.then J Q)) hl h0 h2 h4 h5 h6 h7 (by omega) hs HST1.out HM.out (by omega) hB0 hb (Nat.le_refl _) hq hn hil HADD.out HJ.out))
  have TAIL := Lib.hid tail
  clear tail hK1
  have u0 := U0.out
  have u1 := U1.out
  have u2 := U2.out
  go_upto_region 27 with (go_at_call 84; go_loud (refine HC.out.mono ?_; rintro ee w5 ⟨cs5, rfl, hn5, hb5⟩; obtain ⟨k5, lo5, hi5, lz5, o15, o25, n15, c15, n25, c25, rfl⟩ := nd6k hn5; have HN5 := Lib.hid hn5; have HB5 := Lib.hid hb5; have B5 := HBQ.out.below hb5 hq; have r0 := B5.cell 0; have r1 := B5.cell 1; have r2 := B5.cell 2; have r3 := B5.cell 3; have r4 := B5.cell 4; have r5 := B5.cell 5; have rz := B5.lt; have rf : ∀ i, w5.frozen? ⟨W0.heap.size, i, none⟩ = false := B5.frozen; clear B5 hn5 hb5))
  have hB6 := set6blk (HBQ.out.below HB5.out hq) (.int .u8 k5) (.slice o15 n15 c15) (.int .i64 lo5) (.int .i64 hi5) (.bool lz5) (.slice o25 n25 c25)
  have k6 := set6k (W := w5) (b := W0.heap.size) (.int .u8 k5) (.slice o15 n15 c15) (.int .i64 lo5) (.int .i64 hi5) (.bool lz5) (.slice o25 n25 c25)
  have hb6 : Below W0.heap.size W0 _ := ((Kept.of_below (HB2.out.trans (HB5.out.mono HB2.out.size)) (fun b => b = W0.heap.size)).trans k6).below (fun b hb e => by omega)
  have hn6 : NdAt (fun b => freeN B (Value.slice (some ⟨g0, 0, none⟩) (m + 1) c0) (ys ++ [xp]) b ∧ b ≠ W0.heap.size) _ (wholeM o) _ := NdAt.go k6 (fun b hb hn => by
    rcases hn with hn | hn
    · exact ⟨by omega, hn.1, by omega⟩
    · exact ⟨by omega, ⟨by omega, fun e => by simp only [Value.ownBlock, Option.some.injEq] at e; have := HT2.out.2; omega, fun e => by have := HLOW.out b e; omega⟩, by omega⟩) HN5.out
  generalize ((((((w5.setCell ⟨W0.heap.size, 0, none⟩ (.int .u8 k5)).setCell ⟨W0.heap.size, 1, none⟩ (.slice o15 n15 c15)).setCell ⟨W0.heap.size, 2, none⟩ (.int .i64 lo5)).setCell ⟨W0.heap.size, 3, none⟩ (.int .i64 hi5)).setCell ⟨W0.heap.size, 4, none⟩ (.bool lz5)).setCell ⟨W0.heap.size, 5, none⟩ (.slice o25 n25 c25)) = W6 at hB6 k6 hb6 hn6 ⊢
  have v2 := ((bcell hb6).1 _ _ HT2.out.2).trans HT2.out.1
  have vz : g0 < W6.heap.size := Nat.lt_of_lt_of_le HT2.out.2 hb6.size
  have r0 := hB6.cell 0
  have r1 := hB6.cell 1
  have r2 := hB6.cell 2
  have r3 := hB6.cell 3
  have r4 := hB6.cell 4
  have r5 := hB6.cell 5
  have rz := hB6.lt
  have rf : ∀ i, W6.frozen? ⟨W0.heap.size, i, none⟩ = false := hB6.frozen
  have HFIN := Lib.hid (fun (l : List Value) h1 h2 h3 h4 h5 h6 h7 => TAIL.out W6 l h1 h2 h3 h4 h5 h6 h7 hb6 hB6 hn6)
  clear hB6 k6 hb6 hn6 u0 u1 u2 HN5 HB5 HC HB2 HBQ U0 U1 U2 HT2 HST1 HJ HADD HM HLOW TAIL hml hB0 hil hl1 hl2
  go_wp2_with fail
  exact HFIN.out _ rfl rfl rfl rfl rfl rfl rfl
set_option maxHeartbeats 8000000 in
set_option maxRecDepth 100000 in
theorem rd_close1 {B rb i g0 c0 m j : Nat} {s : ByteArray} {W0 : World} {pre st' : List Wy.Op} {ys : List OpV} {op o : Wy.Op} {xp x : OpV} {J : Act → World → Prop} {Q : Exit → Act → World → Prop} (e : Nat → Value)
    (his : i < s.size) (hs : s.size ≤ 1024) (hbar : byteAt s i = 41) (hgr : o.group = true)
    (hst0 : StkAt 155 70 B W0 (Value.slice (some ⟨g0, 0, none⟩) (m + 1 + 1) c0) ((pre ++ [op]) ++ [o]) ((ys ++ [xp]) ++ [x])) (hm : pre.length = m) (hml : m ≤ 1000000) (hB0 : B ≤ W0.heap.size) (hil : op.items.length ≤ 1000000) (hl1 : o.seqs.length ≤ 1000000) (hl2 : o.items.length ≤ 1000000)
    (hadd : addM s (i + 1) (pre ++ [op]) (.mk 6 [] 0 0 false [wholeM o]) = some (j, st'))
    (hJ : ∀ a' w', RdNext B rb s j st' W0 a' w' → J a' w') :
    Code.wp Tryz.prog (rdC [1, 1, 1, 0, 0, 0]) (Exit.then J Q) ⟨#[.string s, e 1, .pointer (some ⟨rb, 0, none⟩), e 3, .slice (some ⟨g0, 0, none⟩) (m + 1 + 1) c0, .int .i64 i, e 6, e 7, e 8, e 9, e 10, e 11, e 12, e 13, e 14, e 15, e 16, e 17, e 18, e 19, e 20, e 21, e 22, e 23, e 24, e 25, e 26, e 27, e 28, e 29, e 30, e 31, e 32, e 33, e 34, e 35, e 36, e 37, e 38, e 39, e 40, e 41, e 42, e 43, e 44, e 45, e 46, e 47, e 48, e 49, e 50, e 51, e 52, e 53, e 54, e 55, e 56, e 57, e 58, e 59, e 60, e 61, e 62, e 63, e 64, e 65, e 66, e 67, e 68, e 69, e 70, e 71, e 72, e 73, e 74, e 75, e 76, e 77, e 78, e 79, e 80, e 81, e 82, e 83, e 84, e 85, e 86, e 87, e 88, e 89, e 90, e 91, e 92, e 93, e 94, e 95, e 96, e 97, e 98, e 99, e 100, e 101, e 102, e 103, e 104, e 105, e 106, e 107, e 108, e 109, e 110, e 111, e 112, e 113, e 114, e 115, e 116, e 117, e 118, e 119, e 120, e 121, e 122, e 123, e 124, e 125, e 126, e 127, e 128, e 129, e 130, e 131, e 132, e 133, e 134, e 135, e 136, e 137, e 138, e 139, e 140, e 141, e 142, e 143, e 144, e 145, e 146, e 147, e 148, e 149, e 150, e 151, e 152, e 153, e 154, e 155, e 156, e 157, e 158, e 159, e 160, e 161, e 162, e 163, e 164, e 165, e 166, e 167, e 168, e 169, e 170, e 171, e 172, e 173, e 174, e 175, e 176], []⟩ W0 := by
  have hb : (s[i].toNat : Int) = 41 := by rw [get_at his, hbar]; rfl
  have hsI : (s.size : Int) ≤ 1024 := by omega
  have hiI : (i : Int) < s.size := by omega
  have hmI : (m : Int) ≤ 1000000 := by omega
  have hm0 : (((m : Int) + 1) == 0) = false := by rw [beq_eq_false_iff_ne]; omega
  have hb2 : Below W0.heap.size W0 (W0.alloc (.cells #[.int .u8 2, .slice none 0 0, .int .i64 0, .int .i64 0, .bool false, .slice none 0 0] 70)) := (Below.refl _ _).alloc (Nat.le_refl _) _
  obtain ⟨sv, iv⟩ := x
  obtain ⟨so, sc, hsv⟩ := hst0.last.1.slice
  obtain ⟨io, ic, hiv⟩ := hst0.last.2.slice
  simp only at hsv hiv
  obtain ⟨ns, hns⟩ : ∃ n, n = o.seqs.length := ⟨_, rfl⟩
  obtain ⟨ni, hni⟩ : ∃ n, n = o.items.length := ⟨_, rfl⟩
  rw [← hns] at hsv
  rw [← hni] at hiv
  subst hsv hiv
  have hlow : (ys ++ [xp]).length = (pre ++ [op]).length := hst0.low
  have hlen : (pre ++ [op]).length = m + 1 := by simp [hm]
  have hlen2 : ((pre ++ [op]) ++ [o]).length = m + 1 + 1 := by simp [hm]
  have hpop := StkAt.pop (g := g0) (c := c0) (by rw [hlen2]; exact hst0)
  rw [hlen] at hpop
  obtain ⟨hst1, ⟨scs, hsr, hsn⟩, ⟨ics, hir, hin⟩⟩ := hpop
  simp only at hsr hir
  have hrow := hst0.row
  rw [hlen2, opCs_append _ _ _ _ hlow] at hrow
  have hrow' : W0.ownsRow B 155 3 (Value.slice (some ⟨g0, 0, none⟩) (m + 1 + 1) c0) (m + 1 + 1) (opCs (pre ++ [op]) (ys ++ [xp]) ++ [.slice so ns sc, .slice io ni ic, .bool o.group]) := hrow
  have hbl : (opCs (pre ++ [op]) (ys ++ [xp])).length = (m + 1) * 3 := by rw [opCs_len _ _ hlow, hlen]
  obtain ⟨t0, t1, t2, tf, tz⟩ := last3 hrow' hbl
  have hcap := ownCap hrow'
  have hcapI : (m : Int) + 1 ≤ c0 := by omega
  rw [hgr] at t2
  have HT2 := Lib.hid (And.intro t2 tz)
  have kb := Kept.of_below hb2 (fun _ => False)
  have u0 := ((bcell hb2).1 _ _ tz).trans t0
  have u1 := ((bcell hb2).1 _ _ tz).trans t1
  have u2 := ((bcell hb2).1 _ _ tz).trans t2
  have hbq : Blk (W0.alloc (.cells #[.int .u8 2, .slice none 0 0, .int .i64 0, .int .i64 0, .bool false, .slice none 0 0] 70)) W0.heap.size #[.int .u8 2, .slice none 0 0, .int .i64 0, .int .i64 0, .bool false, .slice none 0 0] 70 := Blk.new _ _ _
  have hzW : (W0.alloc (.cells #[.int .u8 2, .slice none 0 0, .int .i64 0, .int .i64 0, .bool false, .slice none 0 0] 70)).heap.size = W0.heap.size + 1 := by simp
  have hcall := whole7_any (N := fun b => freeN B (Value.slice (some ⟨g0, 0, none⟩) (m + 1) c0) (ys ++ [xp]) b ∧ b < W0.heap.size) (o := o) (RowGo hsr kb (fun b hb h => ⟨id, h, hb⟩)) (NdsAt.go kb (fun b hb h => ⟨id, h, hb⟩) hsn) (RowGo hir kb (fun b hb h => ⟨id, h, hb⟩)) (NdsAt.go kb (fun b hb h => ⟨id, h, hb⟩) hin) hl1 hl2
  rw [hgr] at hcall
  have HC := Lib.hid hcall
  have HB2 := Lib.hid hb2
  have HBQ := Lib.hid hbq
  have U0 := Lib.hid u0
  have U1 := Lib.hid u1
  have U2 := Lib.hid u2
  have hq : W0.heap.size < (W0.alloc (.cells #[.int .u8 2, .slice none 0 0, .int .i64 0, .int .i64 0, .bool false, .slice none 0 0] 70)).heap.size := by omega
  have uz : g0 < (W0.alloc (.cells #[.int .u8 2, .slice none 0 0, .int .i64 0, .int .i64 0, .bool false, .slice none 0 0] 70)).heap.size := by omega
  have HST1 := Lib.hid hst1
  have HJ := Lib.hid hJ
  have HADD := Lib.hid hadd
  have HM := Lib.hid hm
  have HLOW := Lib.hid hst1.lt
  clear hcall hb2 hbq hst1 hJ hadd hm hst0 hrow hrow' hsr hsn hir hin hbl hlow hlen hlen2 kb t0 t1 t2 tf tz hgr hbar hns hni u0 u1 u2 hcap
  conv => arg 2; whnf
  go_upto_region 26 with fail
  generalize (W0.alloc (.cells #[.int .u8 2, .slice none 0 0, .int .i64 0, .int .i64 0, .bool false, .slice none 0 0] 70)) = W at HC HB2 HBQ U0 U1 U2 hq uz hzW ⊢
  rename_i K1 hK1 K2 hK2
  have tail : ∀ (W' : World) (l : List Value), l.length = 177 → l[0]? = some (.string s) → l[2]? = some (.pointer (some ⟨rb, 0, none⟩)) → l[4]? = some (Value.slice (some ⟨g0, 0, none⟩) (m + 1) c0) → l[5]? = some (.int .i64 ((i + 1 : Nat) : Int)) → l[6]? = some (.int .i64 m) → l[7]? = some (.pointer (some ⟨W0.heap.size, 0, none⟩)) →
      ∀ {k lo hi : Int} {lz : Bool} {o1 o2 : Option Addr} {n1 c1 n2 c2 : Nat}, Below W0.heap.size W0 W' → Blk W' W0.heap.size #[.int .u8 k, .slice o1 n1 c1, .int .i64 lo, .int .i64 hi, .bool lz, .slice o2 n2 c2] 70 → NdAt (fun b => freeN B (Value.slice (some ⟨g0, 0, none⟩) (m + 1) c0) (ys ++ [xp]) b ∧ b ≠ W0.heap.size) W' (.mk 6 [] 0 0 false [wholeM o]) [.int .u8 k, .slice o1 n1 c1, .int .i64 lo, .int .i64 hi, .bool lz, .slice o2 n2 c2] → K1 ⟨l.toArray, []⟩ W' := by
    intro W' l hl h0 h2 h4 h5 h6 h7 k lo hi lz o1 o2 n1 c1 n2 c2 hb hq hn
    exact hK1 _ _ (Code.wp_mono (fun e a w q => by cases e <;> exact q) (rd_tail (Q := Exit.inBlock 1 (Exit.then J Q)) hl h0 h2 h4 h5 h6 h7 (by omega) hs HST1.out HM.out (by omega) hB0 hb (Nat.le_refl _) hq hn hil HADD.out HJ.out))
  have TAIL := Lib.hid tail
  clear tail hK1
  have u0 := U0.out
  have u1 := U1.out
  have u2 := U2.out
  go_upto_region 27 with (go_at_call 84; go_loud (refine HC.out.mono ?_; rintro ee w5 ⟨cs5, rfl, hn5, hb5⟩; obtain ⟨k5, lo5, hi5, lz5, o15, o25, n15, c15, n25, c25, rfl⟩ := nd6k hn5; have HN5 := Lib.hid hn5; have HB5 := Lib.hid hb5; have B5 := HBQ.out.below hb5 hq; have r0 := B5.cell 0; have r1 := B5.cell 1; have r2 := B5.cell 2; have r3 := B5.cell 3; have r4 := B5.cell 4; have r5 := B5.cell 5; have rz := B5.lt; have rf : ∀ i, w5.frozen? ⟨W0.heap.size, i, none⟩ = false := B5.frozen; clear B5 hn5 hb5))
  have hB6 := set6blk (HBQ.out.below HB5.out hq) (.int .u8 k5) (.slice o15 n15 c15) (.int .i64 lo5) (.int .i64 hi5) (.bool lz5) (.slice o25 n25 c25)
  have k6 := set6k (W := w5) (b := W0.heap.size) (.int .u8 k5) (.slice o15 n15 c15) (.int .i64 lo5) (.int .i64 hi5) (.bool lz5) (.slice o25 n25 c25)
  have hb6 : Below W0.heap.size W0 _ := ((Kept.of_below (HB2.out.trans (HB5.out.mono HB2.out.size)) (fun b => b = W0.heap.size)).trans k6).below (fun b hb e => by omega)
  have hn6 : NdAt (fun b => freeN B (Value.slice (some ⟨g0, 0, none⟩) (m + 1) c0) (ys ++ [xp]) b ∧ b ≠ W0.heap.size) _ (wholeM o) _ := NdAt.go k6 (fun b hb hn => by
    rcases hn with hn | hn
    · exact ⟨by omega, hn.1, by omega⟩
    · exact ⟨by omega, ⟨by omega, fun e => by simp only [Value.ownBlock, Option.some.injEq] at e; have := HT2.out.2; omega, fun e => by have := HLOW.out b e; omega⟩, by omega⟩) HN5.out
  generalize ((((((w5.setCell ⟨W0.heap.size, 0, none⟩ (.int .u8 k5)).setCell ⟨W0.heap.size, 1, none⟩ (.slice o15 n15 c15)).setCell ⟨W0.heap.size, 2, none⟩ (.int .i64 lo5)).setCell ⟨W0.heap.size, 3, none⟩ (.int .i64 hi5)).setCell ⟨W0.heap.size, 4, none⟩ (.bool lz5)).setCell ⟨W0.heap.size, 5, none⟩ (.slice o25 n25 c25)) = W6 at hB6 k6 hb6 hn6 ⊢
  have v2 := ((bcell hb6).1 _ _ HT2.out.2).trans HT2.out.1
  have vz : g0 < W6.heap.size := Nat.lt_of_lt_of_le HT2.out.2 hb6.size
  have r0 := hB6.cell 0
  have r1 := hB6.cell 1
  have r2 := hB6.cell 2
  have r3 := hB6.cell 3
  have r4 := hB6.cell 4
  have r5 := hB6.cell 5
  have rz := hB6.lt
  have rf : ∀ i, W6.frozen? ⟨W0.heap.size, i, none⟩ = false := hB6.frozen
  have fin : ∀ W', W' = ((((((W6.setCell ⟨W0.heap.size, 0, none⟩ (.int .u8 6)).setCell ⟨W0.heap.size, 1, none⟩ (.slice none 0 0)).setCell ⟨W0.heap.size, 2, none⟩ (.int .i64 0)).setCell ⟨W0.heap.size, 3, none⟩ (.int .i64 0)).setCell ⟨W0.heap.size, 4, none⟩ (.bool false)).setCell ⟨W0.heap.size, 5, none⟩ (.slice (some ⟨W6.heap.size, 0, none⟩) 1 1)).alloc (.cells #[.int .u8 k5, .slice o15 n15 c15, .int .i64 lo5, .int .i64 hi5, .bool lz5, .slice o25 n25 c25] 70) →
      ∀ (l : List Value), l.length = 177 → l[0]? = some (.string s) → l[2]? = some (.pointer (some ⟨rb, 0, none⟩)) → l[4]? = some (Value.slice (some ⟨g0, 0, none⟩) (m + 1) c0) → l[5]? = some (.int .i64 ((i + 1 : Nat) : Int)) → l[6]? = some (.int .i64 m) → l[7]? = some (.pointer (some ⟨W0.heap.size, 0, none⟩)) → K1 ⟨l.toArray, []⟩ W' := by
    intro W' hW' l h1 h2 h3 h4 h5 h6 h7
    have k7 := (set6k (W := W6) (b := W0.heap.size) (.int .u8 6) (.slice none 0 0) (.int .i64 0) (.int .i64 0) (.bool false) (.slice (some ⟨W6.heap.size, 0, none⟩) 1 1)).alloc (.cells #[.int .u8 k5, .slice o15 n15 c15, .int .i64 lo5, .int .i64 hi5, .bool lz5, .slice o25 n25 c25] 70)
    rw [← hW'] at k7
    have hB7 := (set6blk hB6 (.int .u8 6) (.slice none 0 0) (.int .i64 0) (.int .i64 0) (.bool false) (.slice (some ⟨W6.heap.size, 0, none⟩) 1 1)).alloc (.cells #[.int .u8 k5, .slice o15 n15 c15, .int .i64 lo5, .int .i64 hi5, .bool lz5, .slice o25 n25 c25] 70)
    rw [← hW'] at hB7
    have hnew : Blk W' W6.heap.size #[.int .u8 k5, .slice o15 n15 c15, .int .i64 lo5, .int .i64 hi5, .bool lz5, .slice o25 n25 c25] 70 := by
      rw [hW']
      exact Blk.new' _ _ (by simp)
    have hb7 : Below W0.heap.size W0 W' := ((Kept.of_below hb6 (fun b => b = W0.heap.size)).trans k7).below (fun b hb e => by omega)
    have hz6 := hb6.size
    have hfree : freeN B (Value.slice (some ⟨g0, 0, none⟩) (m + 1) c0) (ys ++ [xp]) W6.heap.size ∧ W6.heap.size ≠ W0.heap.size := ⟨⟨by omega, fun e => by simp only [Value.ownBlock, Option.some.injEq] at e; omega, fun e => by have := HLOW.out _ e; omega⟩, by omega⟩
    exact TAIL.out W' l h1 h2 h3 h4 h5 h6 h7 hb7 hB7 (nd_oneT hnew hfree (NdAt.go k7 (fun b _ hb => ⟨hb.2, hb⟩) hn6) (by omega) ⟨by decide, by decide⟩ ⟨by decide, by decide⟩)
  have HFIN := Lib.hid fin
  clear fin hB6 k6 hb6 hn6 u0 u1 u2 HN5 HB5 HC HB2 HBQ U0 U1 U2 HT2 HST1 HJ HADD HM HLOW TAIL hml hB0 hil hl1 hl2
  go_wp2_with fail
  exact HFIN.out _ rfl _ rfl rfl rfl rfl rfl rfl rfl
end Go.Proofs.YtnhjakdmbfadlaaGreatDoor
