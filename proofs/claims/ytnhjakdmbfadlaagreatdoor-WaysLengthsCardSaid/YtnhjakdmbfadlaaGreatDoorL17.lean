/- Parts of the proof: Wx. Conditions: none. -/
import Derived.Test.YtnhjakdmbfadlaaGreatDoorL15
import Derived.Test.YtnhjakdmbfadlaaGreatDoorL11
import Derived.Test.YtnhjakdmbfadlaaGreatDoorL16
import Derived.Test.YtnhjakdmbfadlaaGreatDoorL09
import Derived.Deep.CutBlock
import Derived.Shelf.Unicode.DecodeLastEight
import Derived.Lib.TrimU
set_option linter.all false
/- Ways of a part. -/
namespace Go.Proofs.YtnhjakdmbfadlaaGreatDoor
open Go.RowKit Wy Mem Grow

theorem one_still {C : Cx} {N : Nat → Prop} {w w1 : World} (hC : C.Ok) (h : At C N w) {p : Nat} (hp : p ≤ C.s.size) {ob : Option Addr} {c : Nat} (hown : w1.ownsRow w.heap.size 57 2 (.slice ob C.G c) C.G ((List.replicate C.G (-1, -1)).flatMap spCs)) (hb : Below w.heap.size w w1) :
    WaysAt N (w1.alloc (.cells #[.int .i64 p, .slice ob C.G c] 43)) C.G C.s.size (.slice (some ⟨w1.heap.size, 0, none⟩) 1 1) [(wayA C.G).still p] ∧ Below w.heap.size w (w1.alloc (.cells #[.int .i64 p, .slice ob C.G c] 43)) := by
  refine ⟨?_, hb.alloc hb.size _⟩
  have hB := Blk.new w1 #[.int .i64 p, .slice ob C.G c] 43
  refine ⟨[.int .i64 p, .slice ob C.G c], ⟨rfl, .inr ⟨w1.heap.size, 0, 1, rfl, Nat.le_refl _, by decide, h.new _ hb.size, by simp, fun j hj => ?_⟩⟩, WysAt.one (x := (wayA C.G).still p) (SpsAt.still (ownsRow_go hown ((Kept.refl (fun _ => False) w1).alloc _) (fun _ _ => id)) (fun q hq _ => h.new q hq) (by have := hC.G; omega)) hp (by rw [still_eq]; simp)⟩
  rw [hB.cell, Nat.zero_add]
  simp
theorem wysnil_none {C : Cx} {N N' : Nat → Prop} {w w' : World} {o : Option (List Wy.Way)} (hA : At C N w) (hg : Goes (C.r w.heap.size) N w N' w') (hA' : At C N' w') (hs : ∀ b, N' b → N b) (ho : o = none) :
    WysNil C N w o (.returned (.tuple #[.slice none 0 0, .bool false])) w' := by
  subst ho
  exact ⟨hg.kept, hA'.mono hs hA.not, _, rfl, fun _ => rfl, fun l hl => by cases hl⟩
theorem World.ownsRow.uniq {w : World} {b b' : Nat} {e e' : TypeId} {sz : Nat} {v : Value} {n : Nat} {xs ys : List Value} (h : w.ownsRow b e sz v n xs) (k : w.ownsRow b' e' sz v n ys) : xs = ys := by
  rcases h.2 with ⟨rfl, rfl⟩ | ⟨g, c, cur, rfl, -, hg, -, -, -, h1⟩
  · have a := h.1
    have b := k.1
    simp at a b
    rw [a, b]
  · rcases k.2 with ⟨h2, -⟩ | ⟨g', c', cur', h2, -, hg', -, -, -, k1⟩
    · cases h2
    · simp only [Value.slice.injEq, Option.some.injEq, Addr.mk.injEq] at h2
      obtain ⟨⟨rfl, -⟩, -⟩ := h2
      rw [hg] at hg'
      simp only [Option.some.injEq, Obj.cells.injEq] at hg'
      rw [← h1, ← k1, hg'.1]
theorem WysAt.set {N : Nat → Prop} {w : World} {G L : Nat} {nv : Value} {sp : List (Int × Int)} (hs : SpsAt N w nv sp) (hG : sp.length = G) : ∀ {l : List Wy.Way} {cs : List Value} (j : Nat) (hj : j < l.length), WysAt N w G L l cs → WysAt N w G L (l.set j ⟨l[j].stop, sp⟩) (cs.set (j * 2 + 1) nv)
  | [], cs, j, hj, h => absurd hj (by simp)
  | x :: r, cs, 0, hj, h => by
    obtain ⟨v, q, rfl, h2, h3, h4⟩ := h
    exact ⟨nv, q, rfl, hs, ⟨h3.1, hG⟩, h4⟩
  | x :: r, cs, j + 1, hj, h => by
    obtain ⟨v, q, rfl, h2, h3, h4⟩ := h
    have hj' : j < r.length := by simpa using hj
    rw [show (j + 1) * 2 + 1 = j * 2 + 1 + 1 + 1 by omega]
    exact ⟨v, q.set (j * 2 + 1) nv, rfl, h2, h3, h4.set hs hG j hj'⟩
theorem GrAt.marked {C : Cx} {B : Nat} {N0 N : Nat → Prop} {w w7 : World} {g n c : Nat} {L : List Wy.Way} (h : GrAt C B N0 N w (.slice (some ⟨g, 0, none⟩) n c) L) {j : Nat} (hj : j < L.length) {nv : Value} {sp : List (Int × Int)} (k : Kept (fun b => b = g) w w7)
    (hr : ∀ cs, w.ownsRow B 43 2 (.slice (some ⟨g, 0, none⟩) n c) L.length cs → w7.ownsRow B 43 2 (.slice (some ⟨g, 0, none⟩) n c) L.length (cs.set (j * 2 + 1) nv)) (hs : SpsAt N w7 nv sp) (hG : sp.length = C.G) :
    GrAt C B N0 N w7 (.slice (some ⟨g, 0, none⟩) n c) (L.set j ⟨L[j].stop, sp⟩) ∧ Goes (C.r B) N w N w7 := by
  have hd : ∀ b, b < w.heap.size → N b → ¬ (b = g) ∧ N b := fun b _ hb => ⟨fun e => h.rowN g rfl (e ▸ hb), hb⟩
  have hgB := h.rowB g rfl
  have hA : At C N w7 := h.at_.go k hd ⟨by have := h.mbB; omega, h.at_.not⟩ (fun b hb => h.at_.new b (Nat.le_trans k.size hb))
  obtain ⟨cs, h1, h2⟩ := h.row
  refine ⟨⟨hA, h.sub, h.mbB, Nat.le_trans h.size k.size, ⟨cs.set (j * 2 + 1) nv, by rw [List.length_set]; exact hr cs h1, (h2.go k hd).set hs hG j hj⟩, h.rowN⟩, k.mono fun i _ e => .inr ⟨by have : B ≤ g := hgB.1; show B ≤ i; omega, fun hn => h.rowN g rfl (e ▸ hn)⟩, fun _ _ hn => hn⟩
/-- a copy of one's own -/
theorem GrAt.of_own {C : Cx} {B : Nat} {N0 N : Nat → Prop} {w w' : World} {v : Value} {l : List Wy.Way} {cs : List Value} (h : At C N w) (hs : ∀ b, N b → N0 b) (hmb : C.mb < B) (hB : B ≤ w.heap.size) (k : Below w.heap.size w w') (hr : w'.ownsRow w.heap.size 43 2 v l.length cs) (hw : WysAt N w C.G C.s.size l cs) :
    GrAt C B N0 (fun b => N b ∧ v.ownBlock ≠ some b) w' v l ∧ Goes (C.r B) N w (fun b => N b ∧ v.ownBlock ≠ some b) w' := by
  have hd : ∀ b, b < w.heap.size → N b → ¬ False ∧ (N b ∧ v.ownBlock ≠ some b) := fun b hb hn => ⟨id, hn, fun e => by have := (hr.lt b e).1; omega⟩
  have hA : At C (fun b => N b ∧ v.ownBlock ≠ some b) w' := h.go (Kept.of_below k (fun _ => False)) hd ⟨id, fun e => h.not e.1⟩ (fun b hb => ⟨h.new b (Nat.le_trans k.size hb), fun e => by have := (hr.lt b e).2; omega⟩)
  exact ⟨⟨hA, fun b hb => hs b hb.1, hmb, Nat.le_trans hB k.size, ⟨cs, own_weak hr hB, hw.go (Kept.of_below k (fun _ => False)) hd⟩, fun g hg e => e.2 hg⟩, Kept.of_below k _, fun b hb hn => (hd b hb hn).2⟩
def markTo (G g p : Nat) (l : List Wy.Way) (j : Nat) : List Wy.Way := (l.take j).map ((wayA G).mark g p) ++ l.drop j
theorem markTo_length (G g p : Nat) (l : List Wy.Way) (j : Nat) (hj : j ≤ l.length) : (markTo G g p l j).length = l.length := by
  unfold markTo; rw [List.length_append, List.length_map, List.length_take, List.length_drop]; omega
theorem markTo_get (G g p : Nat) {l : List Wy.Way} {j : Nat} (hj : j < l.length) : (markTo G g p l j)[j]? = some l[j] := by
  unfold markTo
  rw [List.getElem?_append_right (by simp; omega), List.length_map, List.length_take, Nat.min_eq_left (by omega), Nat.sub_self, List.getElem?_drop, Nat.add_zero, List.getElem?_eq_getElem hj]
theorem markTo_succ (G g p : Nat) {l : List Wy.Way} {j : Nat} (hj : j < l.length) : markTo G g p l (j + 1) = (markTo G g p l j).set j ((wayA G).mark g p l[j]) := by
  unfold markTo
  rw [List.take_succ_eq_append_getElem hj, List.map_append, List.set_append_right _ _ (by simp; omega), List.length_map, List.length_take, Nat.min_eq_left (by omega), Nat.sub_self, List.drop_eq_getElem_cons hj, List.set_cons_zero, List.append_assoc]
  rfl
/-- what the switch leaves -/
def Sw (C : Cx) (N : Nat → Prop) (B : Nat) (w : World) (o : Option (List Wy.Way)) (s11 s12 : Value) (wx : World) : Prop :=
  ∃ (N' : Nat → Prop) (ok : Bool) (a : Option Addr) (n c : Nat), s11 = .slice a n c ∧ s12 = .bool ok ∧ At C N' wx ∧ (∀ q, N' q → N q) ∧ Goes (C.r B) N w N' wx ∧
    (ok = true → ∃ l, l.length = n ∧ WaysAt N' wx C.G C.s.size (.slice a n c) l ∧ o = most (some l)) ∧ (ok = false → o = none)
theorem Sw.of_wys {C : Cx} {N : Nat → Prop} {B : Nat} {w W W' : World} {o : Option (List Wy.Way)} {v : Value} {fine : Bool} (hg : Goes (C.r B) N w N W) (h : Wys C N W o (.returned (.tuple #[v, .bool fine])) W') : Sw C N B w (most o) v (.bool fine) W' := by
  obtain ⟨h1, h2, v', h3, ⟨a, n, c, rfl⟩, h5⟩ := h
  simp only [Ending.returned.injEq, Value.tuple.injEq, Array.mk.injEq, List.cons.injEq, Value.bool.injEq, and_true] at h3
  obtain ⟨rfl, rfl⟩ := h3
  refine ⟨N, o.isSome, a, n, c, rfl, rfl, h2, fun _ hq => hq, hg.trans (Goes.memo h1), fun ho => ?_, fun ho => ?_⟩
  · obtain ⟨l, rfl⟩ := Option.isSome_iff_exists.1 ho
    have hw := h5 l rfl
    obtain ⟨a', c', e⟩ := hw.slice
    simp only [Value.slice.injEq] at e
    exact ⟨l, e.2.1.symm, hw, rfl⟩
  · cases o with
    | none => rfl
    | some l => cases ho
theorem Wys.pair {C : Cx} {N : Nat → Prop} {w w' : World} {o : Option (List Wy.Way)} {e : Ending} (h : Wys C N w o e w') : ∃ (a : Option Addr) (n c : Nat) (fine : Bool), e = .returned (.tuple #[.slice a n c, .bool fine]) := by
  obtain ⟨h1, h2, v', h3, ⟨a, n, c, rfl⟩, h5⟩ := h
  exact ⟨a, n, c, _, h3⟩
theorem wy_mk (C : Cx) (k : Int) (set : List Rg) (lo hi : Int) (lazy : Bool) (subs : List Nd) (g p : Nat) : C.wy (.mk k set lo hi lazy subs) g p = most (
    if k = 1 then some [(wayA C.G).still p]
    else if k = 2 then (if 0 < ((strS C.s).dec p).2 ∧ hasRg set ((strS C.s).dec p).1 = true then some [(wayA C.G).still (p + ((strS C.s).dec p).2)] else some [])
    else if k = 3 then wyCat (wayA C.G) (strS C.s) subs g [(wayA C.G).still p]
    else if k = 5 then wyRep (wayA C.G) (strS C.s) lo hi lazy subs g p
    else if k = 6 then (wyAlt (wayA C.G) (strS C.s) subs (g + 1) p).map fun l => l.map ((wayA C.G).mark g p)
    else wyAlt (wayA C.G) (strS C.s) subs g p) := by
  unfold Cx.wy
  rw [Wy.wy]

set_option maxHeartbeats 16000000 in
set_option maxRecDepth 100000 in
theorem ways_step {C : Cx} (hC : C.Ok) {k : Int} {set : List Rg} {lo hi : Int} {lazy : Bool} {subs : List Nd} (hf : Fit (.mk k set lo hi lazy subs)) (ih : ∀ s ∈ subs, WaysSpec C s) : WaysSpec C (.mk k set lo hi lazy subs) := by
  intro N w num grp b place h hp ht hg hpl
  obtain ⟨sv, uv, pv, ps, B0, hNb, hk, hu, hlo, hhi, hset, hrow, hparts⟩ := part_open hp
  obtain ⟨b6, b0⟩ : w.cell? ⟨b, 6, none⟩ = some (.int .i64 num) ∧ w.cell? ⟨b, 0, none⟩ = some (.int .u8 k) := ⟨B0.cell 6, B0.cell 0⟩
  have hbz := B0.lt
  have HA := Lib.hid h
  have HP := Lib.hid hp
  have HB0 := Lib.hid B0
  clear h hp B0
  go_enter Tryz.func43, Tryz.ntmps43
  go_upto_region 2 with fail
  have hb2 : Below w.heap.size w (w.alloc (.cells #[.int .i64 num, .int .i64 place] 142)) := (Below.refl _ _).alloc (Nat.le_refl _) _
  have hB8 : Blk (w.alloc (.cells #[.int .i64 num, .int .i64 place] 142)) w.heap.size #[.int .i64 num, .int .i64 place] 142 := Blk.new _ _ _
  generalize (w.alloc (.cells #[.int .i64 num, .int .i64 place] 142)) = W2 at hb2 hB8 ⊢
  have hA2 : At C N W2.drew := (HA.out.below hb2).below ((Below.refl _ _).drew)
  have hself := ht.self
  have hn : num ≤ 1000000000 := hC.T num _ hself
  have hgo2 : Goes (C.r w.heap.size) N w N W2.drew := Goes.below hb2.drew
  have HGO2 := Lib.hid hgo2
  have HB8 := Lib.hid hB8
  have HA2 := Lib.hid hA2
  have HSELF := Lib.hid hself
  obtain ⟨q0, q1, -, -⟩ := (show Blk W2.drew w.heap.size _ _ from hB8).two
  have qz := (show Blk W2.drew w.heap.size _ _ from hB8).lt
  have m3 : W2.drew.cell? ⟨C.m, 3, none⟩ = some (.map (some C.mb)) := hA2.maker.cell 3
  have mz := hA2.maker.lt
  have hlook := look_known hC hA2 (n := num) (p := place) hn (by have := hC.len; omega)
  clear hb2 hgo2 hB8 hA2 hself b6 hbz
  rcases hlook with hlk | ⟨v, t, g, l, hlk, hT, hwy, hwa⟩
  · apply wp_flowL ?hm ?hok [0, 1, 2, 3, 4, 5, 6, 7, 8, 9, 10] [] [0, 1, 2, 3, 4, 5, 6, 7, 8, 9, 10] ?hord (fun _ => True) (fun L w' => L = [] ∧ w' = W2.drew)
    case hm => rfl
    case hok => kernel_rfl
    case hord => kernel_rfl
    case hb => exact fun _ _ _ _ => trivial
    case hw => exact ⟨rfl, rfl⟩
    case h =>
      iterate 11
        apply flowL_pin _ rfl rfl rfl rfl
        case h =>
          intro W1 hW K hK
          (obtain ⟨-, rfl⟩ := hW)
          go_wp2_with fail
          exact hK
        simp only [Act.put, List.setIfInBounds_toArray, List.set_cons_zero, List.set_cons_succ, Nat.reduceAdd]
      refine flowL_end fun W3 h3 => ?_
      obtain ⟨-, rfl⟩ := h3
      have w0 : W2.drew.cell? ⟨b, 0, none⟩ = some (.int .u8 k) := (HGO2.out.cell HA.out HP.out.lt.1 HP.out.lt.2 0).trans b0
      go_upto_block 0 with fail
      go_cut [11, 12] (fun s11 s12 wx => Sw C N w.heap.size W2.drew (C.wy (.mk k set lo hi lazy subs) grp place) s11 s12 wx)
      case first =>
        clear hlk m3 mz q0 q1 qz
        rcases hf.kind with rfl | ⟨rfl, hrg, rfl⟩ | rfl | rfl | ⟨rfl, s, rfl, hlo1, hlo2, hhi2, hnul⟩ | ⟨rfl, s, hs6⟩
        · have hst := still_any (place := place) HA2.out.maker HA2.out.none (by have := hC.G; omega)
          have HST := Lib.hid hst
          clear hst
          go_wp2_with (go_at_call 66; refine HST.out.mono ?_; rintro e w1 ⟨v', rfl, hown, hb1⟩; obtain ⟨ob, c, rfl⟩ := own_slice hown)
          go_meet
          obtain ⟨hw1, hb2⟩ := one_still hC HA2.out hpl hown hb1
          refine ⟨N, true, _, _, _, rfl, rfl, HA2.out.below hb2, fun _ hq => hq, Goes.below hb2, fun _ => ⟨_, rfl, hw1, ?_⟩, fun e => by cases e⟩
          rw [wy_mk, if_pos rfl]
        · have hdec := Tryz.utf8_DecodeRuneInString (C.s.extract place C.s.size) W2.drew HA2.out.tabs
          obtain ⟨cp, hcp⟩ : ∃ cp, cp = (Lib.decodeGo (C.s.extract place C.s.size)).1 := ⟨_, rfl⟩
          obtain ⟨nb, hnb⟩ : ∃ nb, nb = (Lib.decodeGo (C.s.extract place C.s.size)).2 := ⟨_, rfl⟩
          rw [← hcp, ← hnb] at hdec
          have hd : (strS C.s).dec place = ((cp : Int), nb) := by rw [hcp, hnb]; rfl
          have hnbz : place + nb ≤ C.s.size := by
            have := Lib.decodeGo_le_size (C.s.extract place C.s.size)
            rw [← hnb, ByteArray.size_extract] at this
            omega
          have hcp1 : (cp : Int) ≤ 1114111 := by
            have : cp ≤ 1114111 := by
              rw [hcp]
              unfold Lib.decodeGo
              split
              · decide
              · exact Lib.rune_le _ _
            omega
          have hcp0 : (0 : Int) ≤ cp := by omega
          have hlen := hC.len
          have hnbI : (place : Int) + nb ≤ 32 := by omega
          have hplI : (place : Int) ≤ C.s.size := by omega
          obtain ⟨os, cs, rfl⟩ := hset.row.slice
          have hs2 : RgsAt N W2.drew (.slice os set.length cs) set := RgsAt.go hset HGO2.out.own (HGO2.out.hd HA.out)
          have s1 : W2.drew.cell? ⟨b, 1, none⟩ = some (.slice os set.length cs) := (HGO2.out.blk HA.out HB0.out hNb).cell 1
          have sbz : b < W2.drew.heap.size := (HGO2.out.blk HA.out HB0.out hNb).lt
          have s0 : W2.drew.cell? ⟨C.m, 0, none⟩ = some (.string C.s) := HA2.out.maker.cell 0
          have sz : C.m < W2.drew.heap.size := HA2.out.maker.lt
          have HDEC := Lib.hid hdec
          have HD := Lib.hid hd
          have HS2 := Lib.hid hs2
          clear hdec hd hs2 hcp hnb
          by_cases hnb0 : nb = 0
          · subst hnb0
            go_wp2_with (go_at_call 67; refine HDEC.out.mono ?_; rintro e w1 ⟨rfl, hb1⟩; have HB1 := Lib.hid hb1; clear hb1)
            go_meet
            refine ⟨N, true, none, 0, 0, rfl, rfl, HA2.out.below HB1.out, fun _ hq => hq, Goes.below HB1.out, fun _ => ⟨[], rfl, WaysAt.nil _ _ _ _ _ _, ?_⟩, fun e => by cases e⟩
            rw [wy_mk, if_neg (by omega), if_pos rfl, HD.out, if_neg (by simp)]
          · have hnbp : (0 : Int) < nb := by omega
            have hhas : ∀ w1, Below W2.drew.heap.size W2.drew w1 → Calls Tryz.prog 68 #[.slice os set.length cs, .int .i64 cp] w1 fun e w' => e = .returned (.bool (hasRg set cp)) ∧ Below w1.heap.size w1 w' := fun w1 hb1 => has_any (RgsAt.go HS2.out (Goes.below (R := C.r w.heap.size) (N := N) hb1).own ((Goes.below (R := C.r w.heap.size) (N := N) hb1).hd HA2.out)) hrg cp
            have HHAS := Lib.hid hhas
            clear hhas
            cases hh : hasRg set cp with
            | false =>
              go_wp2_with (first | (go_at_call 67; refine HDEC.out.mono ?_; rintro e w1 ⟨rfl, hb1⟩; have HB1 := Lib.hid hb1; have s2 := (hb1.cell (p := ⟨b, 1, none⟩) (by omega)).trans s1; clear hb1) | (go_at_call 68; refine (HHAS.out _ HB1.out).mono ?_; rintro e w2 ⟨rfl, hb2⟩; have HB2 := Lib.hid (HB1.out.trans (hb2.mono HB1.out.size)); clear hb2; rw [hh]))
              go_meet
              refine ⟨N, true, none, 0, 0, rfl, rfl, HA2.out.below HB2.out, fun _ hq => hq, Goes.below HB2.out, fun _ => ⟨[], rfl, WaysAt.nil _ _ _ _ _ _, ?_⟩, fun e => by cases e⟩
              rw [wy_mk, if_neg (by omega), if_pos rfl, HD.out, if_neg (by simp [hh])]
            | true =>
              have hst : ∀ w1, Below W2.drew.heap.size W2.drew w1 → Calls Tryz.prog 66 #[.pointer (some ⟨C.m, 0, none⟩), .int .i64 ((place : Int) + nb)] w1 (Stl ((place : Int) + nb) C.G w1) := fun w1 hb1 => still_any (HA2.out.below hb1).maker (HA2.out.below hb1).none (by have := hC.G; omega)
              have HST := Lib.hid hst
              clear hst
              go_wp2_with (first | (go_at_call 67; refine HDEC.out.mono ?_; rintro e w1 ⟨rfl, hb1⟩; have HB1 := Lib.hid hb1; have s2 := (hb1.cell (p := ⟨b, 1, none⟩) (by omega)).trans s1; clear hb1) | (go_at_call 68; refine (HHAS.out _ HB1.out).mono ?_; rintro e w2 ⟨rfl, hb2⟩; have HB2 := Lib.hid (HB1.out.trans (hb2.mono HB1.out.size)); clear hb2; rw [hh]) | (go_at_call 66; refine (HST.out _ HB2.out).mono ?_; rintro e w3 ⟨v', rfl, hown, hb3⟩; obtain ⟨ob, c, rfl⟩ := own_slice hown))
              go_meet
              rw [show (place : Int) + nb = ((place + nb : Nat) : Int) by omega]
              obtain ⟨hw1, hb4⟩ := one_still hC (HA2.out.below HB2.out) hnbz hown hb3
              have hb5 := HB2.out.trans (hb4.mono HB2.out.size)
              refine ⟨N, true, _, _, _, rfl, rfl, HA2.out.below hb5, fun _ hq => hq, Goes.below hb5, fun _ => ⟨_, rfl, hw1, ?_⟩, fun e => by cases e⟩
              rw [wy_mk, if_neg (by omega), if_pos rfl, HD.out, if_pos ⟨by omega, hh⟩]
        · have hcat := cat_any hC HA2.out (HGO2.out.part HA.out HP.out) ht (by rw [opened] at hg; simpa using hg) hpl (by
            have := hf.shape
            simp only [shapedN] at this
            simp at this
            omega) ih
          have HCAT := Lib.hid hcat
          clear hcat
          go_wp2_with (go_at_call 69; refine HCAT.out.mono ?_; intro e w1 hw1; obtain ⟨a, n, c, fine, rfl⟩ := hw1.pair; have HWY := Lib.hid hw1; clear hw1)
          go_meet
          rw [wy_mk, if_neg (by omega), if_neg (by omega), if_pos rfl]
          exact Sw.of_wys (Goes.refl _ _ _) HWY.out
        · have htab := tabd_subs ht
          simp only [show ¬ ((4 : Int) = 6) by omega, if_false, Nat.add_zero] at htab hparts
          have hne : 0 < subs.length := by have := hf.shape; simp only [shapedN] at this; simp at this; omega
          have hog : grp + openedL subs ≤ C.G := by rw [opened] at hg; simpa using hg
          obtain ⟨pb, po, pc, rfl, hpc1, hpc2, hNpb, hpbz, hcell⟩ := parts_cells hrow hparts hne
          have HC := Lib.hid hcell
          have HIH := Lib.hid ih
          have HTAB := Lib.hid htab
          have HOGG := Lib.hid hog
          have s8 : W2.drew.cell? ⟨b, 8, none⟩ = some (.slice (some ⟨pb, po, none⟩) subs.length pc) := (HGO2.out.blk HA.out HB0.out hNb).cell 8
          have sbz : b < W2.drew.heap.size := (HGO2.out.blk HA.out HB0.out hNb).lt
          have hslI : (subs.length : Int) ≤ 1048576 := by have := hk.2.2; omega
          have hpcI : (subs.length : Int) ≤ pc := by omega
          obtain ⟨i0, hi0, hz0, hz1, hz2⟩ := info_parts info43
          clear hcell htab hog hparts hrow hset
          go_wp2_with fail
          go_loopw [48, 11, 12] (fun s48 s11 s12 wx => ∃ (i : Nat) (N1 : Nat → Prop) (l : List Wy.Way) (ok : Bool), i ≤ subs.length ∧ s48 = .int .i64 i ∧ GrAt C w.heap.size N N1 wx s11 l ∧ s12 = .bool ok ∧ l.length ≤ 500 * i ∧ Goes (C.r w.heap.size) N W2.drew N1 wx ∧ Hid (wyAlt (wayA C.G) (strS C.s) (subs.take i) grp place = if ok then some l else none) ∧ Hid (i = 1 → ok = false → l = [])) (fun s48 _ _ _ => subs.length - (intOf s48).toNat)
          case atStart => exact ⟨0, N, [], true, by omega, rfl, GrAt.nil HA2.out (fun _ hq => hq) HA.out.mbLt HGO2.out.own.size, rfl, by simp, Goes.refl _ _ _, Lib.hid rfl, Lib.hid (fun e => by omega)⟩
          case round =>
            rename World => Wa
            obtain ⟨i, N1, l, ok, hi, rfl, hgr, rfl, hll, hgo, halt, hone⟩ := hrel
            obtain ⟨ol, cl, rfl⟩ := hgr.slice
            have HGR := Lib.hid hgr
            have HGO := Lib.hid hgo
            have hllI : (l.length : Int) ≤ 1000000000 := by omega
            clear hgr hgo
            by_cases hil : i < subs.length
            · obtain ⟨sb, hsb, hspt⟩ := HC.out i hil
              have c1 : Wa.cell? ⟨pb, po + i, none⟩ = some (.pointer (some ⟨sb, 0, none⟩)) := ((HGO2.out.trans HGO.out).cell HA.out hpbz hNpb _).trans hsb
              have hcall := (HIH.out subs[i] (List.getElem_mem hil)).any HGR.out.at_ ((HGO2.out.trans HGO.out).part HA.out hspt) (TabdL.get HTAB.out i hil) (by have := openedL_at hil; have := HOGG.out; omega) hpl
              obtain ⟨o, ho⟩ : ∃ o, o = C.wy subs[i] (grp + openedL (subs.take i)) place := ⟨_, rfl⟩
              rw [← ho] at hcall
              obtain ⟨more, hmore⟩ : ∃ more, more = o.getD [] := ⟨_, rfl⟩
              obtain ⟨fine, hfine⟩ : ∃ fine, fine = o.isSome := ⟨_, rfl⟩
              rw [← hmore, ← hfine] at hcall
              have HCALL := Lib.hid hcall
              have hml : more.length ≤ 500 := by
                rw [hmore]
                cases e : o with
                | none => simp
                | some l => exact wy_len (ho.symm.trans e)
              have hnext : wyAlt (wayA C.G) (strS C.s) (subs.take (i + 1)) grp place = if (ok && fine) then some (l ++ more) else none := by
                have hw : wy (wayA C.G) (strS C.s) subs[i] (grp + openedL (subs.take i)) place = o := ho.symm
                rw [wyAlt_take _ _ hil, halt.out, hw, hmore, hfine]
                cases ok <;> cases o <;> simp
              have hone' : i + 1 = 1 → (ok && fine) = false → l ++ more = [] := by
                intro e hof
                obtain rfl : i = 0 := by omega
                have hl0 : l = [] := List.eq_nil_of_length_eq_zero (by omega)
                subst hl0
                have hok : ok = true := by
                  have := halt.out
                  cases ok with
                  | true => rfl
                  | false => simp [wyAlt] at this
                rw [hok, Bool.true_and] at hof
                rw [hmore]
                cases o with
                | none => rfl
                | some _ => rw [hfine] at hof; cases hof
              have HNEXT := Lib.hid hnext
              have HONE := Lib.hid hone'
              have hilI : (i : Int) < subs.length := by omega
              have hmx1 : l.length + more.length ≤ maxLen := by unfold maxLen; omega
              have hmx2 : (l.length + more.length) * 32 ≤ 140737488355328 := by omega
              obtain ⟨cs, hr1, hr2⟩ := HGR.out.row
              have HR1 := Lib.hid hr1
              have HR2 := Lib.hid hr2
              clear hcall ho hmore hfine hspt hsb hnext hone' hr1 hr2
              cases ok <;>
              (go_wp2_with (first | (go_at_call 43; refine HCALL.out.mono ?_; rintro e w3 ⟨am, cm, rfl, hk3, hA3, hW3⟩; obtain ⟨ns, hn1, hn2⟩ := hW3; have HN1 := Lib.hid hn1; have HN2 := Lib.hid hn2; have HK3 := Lib.hid hk3; have HG3 := Lib.hid (HGR.out.memo hk3 hA3); have HR3 := Lib.hid (ownsRow_go HR1.out hk3 (fun q hq e => by have := HGR.out.rowB q hq; have := HGR.out.mbB; omega)); have HSRC := Lib.hid (src_row hn1); have HONE1 := Lib.hid hn2.oneCell; have HL3 := Lib.hid hn1.len; clear hk3 hA3 hn1 hn2) | (at_builtin; refine wpList_append_row rfl _ _ 38 rfl Tryz.underlying38 hi0 hz0 hz1 hz2 rfl (.slice ol l.length cl) l.length cs rfl HR3.out _ more.length ns rfl HSRC.out HL3.out HONE1.out hmx1 hmx2 HG3.out.size ?_; intro v7 w7 hown7 hgrow7 h37 h47; obtain ⟨ov7, cv7, rfl⟩ := own_slice hown7))
               obtain ⟨hgr7, hgo7⟩ := HG3.out.more (HR2.out.go HK3.out (fun q _ hq => ⟨fun e => HGR.out.at_.not (e ▸ hq), hq⟩)) HN2.out hown7 hgrow7 h37
               go_roundw
               case rel =>
                 refine ⟨i + 1, _, l ++ more, _, by omega, by go_num, hgr7, rfl, by rw [List.length_append]; omega, HGO.out.trans ((Goes.memo HK3.out).trans hgo7), HNEXT, HONE⟩
               case measure => simp [intOf]; omega)
            · obtain rfl : i = subs.length := by omega
              have w0' : Wa.cell? ⟨b, 0, none⟩ = some (.int .u8 4) := (HGO.out.cell HA2.out sbz (HGO2.out.keep b HP.out.lt.1 hNb) 0).trans w0
              have sbz' : b < Wa.heap.size := HGO.out.own.lt sbz
              go_wp2_with fail
              go_meet
              obtain ⟨N', hA', hN', hgo', hW'⟩ := HGR.out.done (fun q hq => HA.out.new q hq)
              have ha := halt.out
              rw [List.take_length] at ha
              refine ⟨N', ok, _, _, _, rfl, rfl, hA', hN', HGO.out.trans hgo', fun hok => ⟨l, rfl, hW', ?_⟩, fun hok => ?_⟩
              · rw [wy_mk, if_neg (by omega), if_neg (by omega), if_neg (by omega), if_neg (by omega), if_neg (by omega), ha, hok, if_pos rfl]
              · rw [wy_mk, if_neg (by omega), if_neg (by omega), if_neg (by omega), if_neg (by omega), if_neg (by omega), ha, hok]
                rfl
        · have hrp := rpt_any hC HA2.out (HGO2.out.part HA.out HP.out) ht (by rw [opened, openedL, openedL] at hg; simpa using hg) hpl hf (ih s (by simp))
          have HRP := Lib.hid hrp
          clear hrp
          go_wp2_with (go_at_call 70; refine HRP.out.mono ?_; intro e w1 hw1; obtain ⟨a, n, c, fine, rfl⟩ := hw1.pair; have HWY := Lib.hid hw1; clear hw1)
          go_meet
          rw [wy_mk, if_neg (by omega), if_neg (by omega), if_neg (by omega), if_pos rfl]
          exact Sw.of_wys (Goes.refl _ _ _) HWY.out
        · have htab := tabd_subs ht
          simp only [show ((6 : Int) = 6) by omega, if_true] at htab hparts
          have hne : 0 < subs.length := by rw [hs6]; simp
          have hog : (grp + 1) + openedL subs ≤ C.G := by rw [opened] at hg; simp only [if_true] at hg; omega
          obtain ⟨pb, po, pc, rfl, hpc1, hpc2, hNpb, hpbz, hcell⟩ := parts_cells hrow hparts hne
          have HC := Lib.hid hcell
          have HIH := Lib.hid ih
          have HTAB := Lib.hid htab
          have HOGG := Lib.hid hog
          have s8 : W2.drew.cell? ⟨b, 8, none⟩ = some (.slice (some ⟨pb, po, none⟩) subs.length pc) := (HGO2.out.blk HA.out HB0.out hNb).cell 8
          have sbz : b < W2.drew.heap.size := (HGO2.out.blk HA.out HB0.out hNb).lt
          have hslI : (subs.length : Int) ≤ 1048576 := by have := hk.2.2; omega
          have hpcI : (subs.length : Int) ≤ pc := by omega
          obtain ⟨i0, hi0, hz0, hz1, hz2⟩ := info_parts info43
          have HS6 := Lib.hid hs6
          clear hs6
          clear hcell htab hog hparts hrow hset
          go_wp2_with fail
          go_loopw [48, 11, 12] (fun s48 s11 s12 wx => ∃ (i : Nat) (N1 : Nat → Prop) (l : List Wy.Way) (ok : Bool), i ≤ subs.length ∧ s48 = .int .i64 i ∧ GrAt C w.heap.size N N1 wx s11 l ∧ s12 = .bool ok ∧ l.length ≤ 500 * i ∧ Goes (C.r w.heap.size) N W2.drew N1 wx ∧ Hid (wyAlt (wayA C.G) (strS C.s) (subs.take i) (grp + 1) place = if ok then some l else none) ∧ Hid (i = 1 → ok = false → l = [])) (fun s48 _ _ _ => subs.length - (intOf s48).toNat)
          case atStart => exact ⟨0, N, [], true, by omega, rfl, GrAt.nil HA2.out (fun _ hq => hq) HA.out.mbLt HGO2.out.own.size, rfl, by simp, Goes.refl _ _ _, Lib.hid rfl, Lib.hid (fun e => by omega)⟩
          case round =>
            rename World => Wa
            obtain ⟨i, N1, l, ok, hi, rfl, hgr, rfl, hll, hgo, halt, hone⟩ := hrel
            obtain ⟨ol, cl, rfl⟩ := hgr.slice
            have HGR := Lib.hid hgr
            have HGO := Lib.hid hgo
            have hllI : (l.length : Int) ≤ 1000000000 := by omega
            clear hgr hgo
            by_cases hil : i < subs.length
            · obtain ⟨sb, hsb, hspt⟩ := HC.out i hil
              have c1 : Wa.cell? ⟨pb, po + i, none⟩ = some (.pointer (some ⟨sb, 0, none⟩)) := ((HGO2.out.trans HGO.out).cell HA.out hpbz hNpb _).trans hsb
              have hcall := (HIH.out subs[i] (List.getElem_mem hil)).any HGR.out.at_ ((HGO2.out.trans HGO.out).part HA.out hspt) (TabdL.get HTAB.out i hil) (by have := openedL_at hil; have := HOGG.out; omega) hpl
              obtain ⟨o, ho⟩ : ∃ o, o = C.wy subs[i] ((grp + 1) + openedL (subs.take i)) place := ⟨_, rfl⟩
              rw [← ho] at hcall
              obtain ⟨more, hmore⟩ : ∃ more, more = o.getD [] := ⟨_, rfl⟩
              obtain ⟨fine, hfine⟩ : ∃ fine, fine = o.isSome := ⟨_, rfl⟩
              rw [← hmore, ← hfine] at hcall
              have HCALL := Lib.hid hcall
              have hml : more.length ≤ 500 := by
                rw [hmore]
                cases e : o with
                | none => simp
                | some l => exact wy_len (ho.symm.trans e)
              have hnext : wyAlt (wayA C.G) (strS C.s) (subs.take (i + 1)) (grp + 1) place = if (ok && fine) then some (l ++ more) else none := by
                have hw : wy (wayA C.G) (strS C.s) subs[i] ((grp + 1) + openedL (subs.take i)) place = o := ho.symm
                rw [wyAlt_take _ _ hil, halt.out, hw, hmore, hfine]
                cases ok <;> cases o <;> simp
              have hone' : i + 1 = 1 → (ok && fine) = false → l ++ more = [] := by
                intro e hof
                obtain rfl : i = 0 := by omega
                have hl0 : l = [] := List.eq_nil_of_length_eq_zero (by omega)
                subst hl0
                have hok : ok = true := by
                  have := halt.out
                  cases ok with
                  | true => rfl
                  | false => simp [wyAlt] at this
                rw [hok, Bool.true_and] at hof
                rw [hmore]
                cases o with
                | none => rfl
                | some _ => rw [hfine] at hof; cases hof
              have HNEXT := Lib.hid hnext
              have HONE := Lib.hid hone'
              have hilI : (i : Int) < subs.length := by omega
              have hmx1 : l.length + more.length ≤ maxLen := by unfold maxLen; omega
              have hmx2 : (l.length + more.length) * 32 ≤ 140737488355328 := by omega
              obtain ⟨cs, hr1, hr2⟩ := HGR.out.row
              have HR1 := Lib.hid hr1
              have HR2 := Lib.hid hr2
              clear hcall ho hmore hfine hspt hsb hnext hone' hr1 hr2
              cases ok <;>
              (go_wp2_with (first | (go_at_call 43; refine HCALL.out.mono ?_; rintro e w3 ⟨am, cm, rfl, hk3, hA3, hW3⟩; obtain ⟨ns, hn1, hn2⟩ := hW3; have HN1 := Lib.hid hn1; have HN2 := Lib.hid hn2; have HK3 := Lib.hid hk3; have HG3 := Lib.hid (HGR.out.memo hk3 hA3); have HR3 := Lib.hid (ownsRow_go HR1.out hk3 (fun q hq e => by have := HGR.out.rowB q hq; have := HGR.out.mbB; omega)); have HSRC := Lib.hid (src_row hn1); have HONE1 := Lib.hid hn2.oneCell; have HL3 := Lib.hid hn1.len; clear hk3 hA3 hn1 hn2) | (at_builtin; refine wpList_append_row rfl _ _ 38 rfl Tryz.underlying38 hi0 hz0 hz1 hz2 rfl (.slice ol l.length cl) l.length cs rfl HR3.out _ more.length ns rfl HSRC.out HL3.out HONE1.out hmx1 hmx2 HG3.out.size ?_; intro v7 w7 hown7 hgrow7 h37 h47; obtain ⟨ov7, cv7, rfl⟩ := own_slice hown7))
               obtain ⟨hgr7, hgo7⟩ := HG3.out.more (HR2.out.go HK3.out (fun q _ hq => ⟨fun e => HGR.out.at_.not (e ▸ hq), hq⟩)) HN2.out hown7 hgrow7 h37
               go_roundw
               case rel =>
                 refine ⟨i + 1, _, l ++ more, _, by omega, by go_num, hgr7, rfl, by rw [List.length_append]; omega, HGO.out.trans ((Goes.memo HK3.out).trans hgo7), HNEXT, HONE⟩
               case measure => simp [intOf]; omega)
            · obtain rfl : i = subs.length := by omega
              have w0' : Wa.cell? ⟨b, 0, none⟩ = some (.int .u8 6) := (HGO.out.cell HA2.out sbz (HGO2.out.keep b HP.out.lt.1 hNb) 0).trans w0
              have sbz' : b < Wa.heap.size := HGO.out.own.lt sbz
              obtain ⟨N', hA', hN', hgo', hW'⟩ := HGR.out.done (fun q hq => HA.out.new q hq)
              obtain ⟨cs, hr1, hr2⟩ := hW'
              have hl1 : l.length ≤ 500 := by rw [HS6.out] at hll; simp at hll; omega
              have hcl := cloneW_any hr1 hr2.oneCell (by omega)
              have HCL := Lib.hid hcl
              have HA' := Lib.hid hA'
              have HN' := Lib.hid hN'
              have HGO' := Lib.hid hgo'
              have HR2' := Lib.hid hr2
              clear hA' hN' hgo' hr1 hr2 hcl
              go_wp2_with (go_at_call 71; refine HCL.out.mono ?_; rintro e w7 ⟨v7, rfl, hown7, hb7⟩; obtain ⟨o7, c7, rfl⟩ := own_slice hown7; have HO7 := Lib.hid hown7; have HB7 := Lib.hid hb7; clear hown7 hb7)
              obtain ⟨hgr7, hgo7⟩ := GrAt.of_own (N0 := N) (B := w.heap.size) HA'.out HN'.out HA.out.mbLt HGR.out.size HB7.out HO7.out HR2'.out
              have HGR7 := Lib.hid hgr7
              have HGO7 := Lib.hid (HGO.out.trans (HGO'.out.trans hgo7))
              generalize (fun b => N' b ∧ (Value.slice o7 l.length c7).ownBlock ≠ some b) = N7 at HGR7 HGO7
              have HNb7 : N7 b := HGO7.out.keep b sbz (HGO2.out.keep b HP.out.lt.1 hNb)
              clear hgr7 hgo7
              have hgrpG : grp + 1 ≤ C.G := by have := HOGG.out; omega
              have hgI : (grp : Int) ≤ 30 := by have := hC.G; omega
              have hgG : (grp : Int) < C.G := by omega
              go_loopw [77] (fun s77 wx => ∃ j : Nat, j ≤ l.length ∧ s77 = .int .i64 j ∧ GrAt C w.heap.size N N7 wx (.slice o7 l.length c7) (markTo C.G grp place l j) ∧ Goes (C.r w.heap.size) N7 w7 N7 wx) (fun s77 _ => l.length - (intOf s77).toNat)
              case atStart => exact ⟨0, by omega, rfl, by have := HGR7.out; simpa [markTo] using this, Goes.refl _ _ _⟩
              case round =>
                rename World => Wb
                obtain ⟨j, hj, rfl, hgr8, hgo8⟩ := hrel
                have HGR8 := Lib.hid hgr8
                have HGO8 := Lib.hid hgo8
                clear hgr8 hgo8
                by_cases hjl : j < l.length
                · obtain ⟨cs8, hr8, hw8⟩ := HGR8.out.row
                  rw [markTo_length C.G grp place l j hj] at hr8
                  obtain ⟨g, c8, he8, hg1, hg2, hnc⟩ := own_some hr8 (by omega)
                  simp only [Value.slice.injEq, true_and] at he8
                  obtain ⟨rfl, rfl⟩ := he8
                  have hjm : j < (markTo C.G grp place l j).length := by rw [markTo_length _ _ _ _ _ hj]; exact hjl
                  obtain ⟨sv8, ec0, ec1, es8, ex8, eG8⟩ := hw8.get j hjm
                  have hgx : (markTo C.G grp place l j)[j] = l[j] := by
                    have := markTo_get C.G grp place hjl
                    rw [List.getElem?_eq_getElem hjm] at this
                    simpa using this
                  obtain ⟨x, hx⟩ : ∃ x, x = l[j] := ⟨_, rfl⟩
                  rw [hgx, ← hx] at ec0 es8 ex8 eG8
                  obtain ⟨sx, sxc, rfl⟩ := es8.row.slice
                  have hcl8 := hr8.1
                  have y0 : Wb.cell? ⟨g, j * 2, none⟩ = some (.int .i64 x.stop) := by rw [hr8.cellAt (j * 2) (by omega)]; exact ec0
                  have y1 : Wb.cell? ⟨g, j * 2 + 1, none⟩ = some (.slice sx x.spans.length sxc) := by rw [hr8.cellAt (j * 2 + 1) (by omega)]; exact ec1
                  have hjlI : (j : Int) < l.length := by omega
                  have hlcI : (l.length : Int) ≤ c7 := by omega
                  have HX := Lib.hid hx
                  have HS8 := Lib.hid es8
                  have HXG := Lib.hid eG8
                  have HR8 := Lib.hid hr8
                  have hcs := cloneS_any (w := Wb.alloc (.cells #[.int .i64 x.stop, .slice sx x.spans.length sxc] 43)) (SpsAt.row ((Goes.below (R := C.r w.heap.size) (N := N7) ((Below.refl _ _).alloc (Nat.le_refl _) _)).spans HGR8.out.at_ es8)) (spCs_one _) (by have := es8.small; omega)
                  have HCS := Lib.hid hcs
                  have yb7 : Wb.cell? ⟨b, 7, none⟩ = some (.int .i64 grp) := (HGO8.out.blk HGR7.out.at_ (HGO7.out.blk HA2.out (HGO2.out.blk HA.out HB0.out hNb) (HGO2.out.keep b HP.out.lt.1 hNb)) HNb7).cell 7
                  have HNb8 : N7 b := HGO8.out.keep b (HGO7.out.own.lt sbz) HNb7
                  have ybz : b < Wb.heap.size := HGO8.out.own.lt (HGO7.out.own.lt sbz)
                  clear hcs hx es8 eG8 hr8 hw8 ec0 ec1 hgx hcl8
                  go_upto_region 20 with (first | (go_at_call 72; refine HCS.out.mono ?_; rintro e w5 ⟨nv, rfl, hown5, hb5⟩; obtain ⟨o5, c5, rfl⟩ := own_slice hown5; have HO5 := Lib.hid hown5; have HB5 := Lib.hid hb5; have HR5 := Lib.hid (ownsRow_go HR8.out (Kept.of_below (((Below.refl _ _).alloc (Nat.le_refl _) _).trans (hb5.mono (by simp))) (fun _ => False)) (fun _ _ => id)); have y15 : w5.cell? ⟨g, j * 2 + 1, none⟩ = some (.slice sx x.spans.length sxc) := ((((Below.refl Wb.heap.size Wb).alloc (Nat.le_refl _) _).trans (hb5.mono (by simp))).cell (p := ⟨g, j * 2 + 1, none⟩) hg2).trans y1; have f15 : w5.frozen? ⟨g, j * 2 + 1, none⟩ = false := HR5.out.frozenAt _; have y15x := Lib.hid y15; clear hown5 hb5))
                  have hbA : Below Wb.heap.size Wb w5 := ((Below.refl _ _).alloc (Nat.le_refl _) _).trans (HB5.out.mono (by simp))
                  have hB20 : Blk w5 Wb.heap.size #[.int .i64 x.stop, .slice sx x.spans.length sxc] 43 := (Blk.new _ _ _).below HB5.out (by simp)
                  obtain ⟨sg, sgc, hsg, hsgb, hsgz, hsgn⟩ := own_some HO5.out (by rw [HXG.out]; omega)
                  simp only [Value.slice.injEq, true_and] at hsg
                  obtain ⟨rfl, rfl⟩ := hsg
                  have hsgb' : Wb.heap.size < sg := by simp at hsgb; omega
                  have hO6 : (w5.setCell ⟨g, j * 2 + 1, none⟩ (.slice (some ⟨sg, 0, none⟩) x.spans.length c5)).ownsRow (Wb.heap.size + 1) 57 2 (.slice (some ⟨sg, 0, none⟩) x.spans.length c5) x.spans.length (x.spans.flatMap spCs) :=
                    ownsRow_setCell_other (own_weak HO5.out (by simp)) (by simp [Value.ownBlock]; omega) _
                  have hR6 := (HR5.out.stored (j * 2 + 1) (.slice (some ⟨sg, 0, none⟩) x.spans.length c5)).1
                  have k6 : Kept (fun q => q = g) Wb (w5.setCell ⟨g, j * 2 + 1, none⟩ (.slice (some ⟨sg, 0, none⟩) x.spans.length c5)) := (Kept.of_below hbA (fun q => q = g)).setCell (p := ⟨g, j * 2 + 1, none⟩) (fun _ => rfl) _
                  have v1 : (w5.setCell ⟨g, j * 2 + 1, none⟩ (.slice (some ⟨sg, 0, none⟩) x.spans.length c5)).cell? ⟨g, j * 2 + 1, none⟩ = some (.slice (some ⟨sg, 0, none⟩) x.spans.length c5) := World.cell?_setCell_same' _ _ _ (by rw [y15x.out]; rfl)
                  have v7 : (w5.setCell ⟨g, j * 2 + 1, none⟩ (.slice (some ⟨sg, 0, none⟩) x.spans.length c5)).cell? ⟨b, 7, none⟩ = some (.int .i64 grp) := (World.cell?_of_block (k6.block b ybz (fun e => HGR8.out.rowN g rfl (e ▸ HNb8)))).trans yb7
                  have hB206 := hB20.setOther (p := ⟨g, j * 2 + 1, none⟩) (by show Wb.heap.size ≠ g; omega) (.slice (some ⟨sg, 0, none⟩) x.spans.length c5)
                  have vz : sg < (w5.setCell ⟨g, j * 2 + 1, none⟩ (.slice (some ⟨sg, 0, none⟩) x.spans.length c5)).heap.size := by simpa [World.setCell] using hsgz
                  have vbz : b < (w5.setCell ⟨g, j * 2 + 1, none⟩ (.slice (some ⟨sg, 0, none⟩) x.spans.length c5)).heap.size := k6.lt ybz
                  have vgz : g < (w5.setCell ⟨g, j * 2 + 1, none⟩ (.slice (some ⟨sg, 0, none⟩) x.spans.length c5)).heap.size := k6.lt hg2
                  generalize (w5.setCell ⟨g, j * 2 + 1, none⟩ (.slice (some ⟨sg, 0, none⟩) x.spans.length c5)) = W6 at hO6 hR6 k6 v1 v7 hB206 vz vbz vgz ⊢
                  obtain ⟨v20, -, -, -⟩ := hB206.two
                  have v20z := hB206.lt
                  have hgx : grp < x.spans.length := by rw [HXG.out]; omega
                  have hgxI : (grp : Int) < x.spans.length := by omega
                  have hxnI : (x.spans.length : Int) ≤ c5 := by omega
                  have hxc2 : grp * 2 + 1 < (x.spans.flatMap spCs).length := by rw [hO6.1]; omega
                  obtain ⟨d0, hd0⟩ : ∃ u, W6.cell? ⟨sg, grp * 2, none⟩ = some u := ⟨_, by rw [hO6.cellAt (grp * 2) (by omega), List.getElem?_eq_getElem (by omega)]⟩
                  obtain ⟨d1, hd1⟩ : ∃ u, W6.cell? ⟨sg, grp * 2 + 1, none⟩ = some u := ⟨_, by rw [hO6.cellAt (grp * 2 + 1) (by omega), List.getElem?_eq_getElem hxc2]⟩
                  have fd0 := hO6.frozenAt (grp * 2)
                  have fd1 := hO6.frozenAt (grp * 2 + 1)
                  have hO7 := ((hO6.stored (grp * 2) (.int .i64 place)).1.stored (grp * 2 + 1) (.int .i64 x.stop)).1
                  rw [flat_set2 x.spans grp ((place : Int), (x.stop : Int)) hgx] at hO7
                  have hR7 := ownsRow_setCell_other (a := ⟨sg, grp * 2 + 1, none⟩) (ownsRow_setCell_other (a := ⟨sg, grp * 2, none⟩) hR6 (by simp [Value.ownBlock]; omega) (.int .i64 place)) (by simp [Value.ownBlock]; omega) (.int .i64 x.stop)
                  have k7 : Kept (fun q => q = g) Wb ((W6.setCell ⟨sg, grp * 2, none⟩ (.int .i64 place)).setCell ⟨sg, grp * 2 + 1, none⟩ (.int .i64 x.stop)) := (k6.setCell (p := ⟨sg, grp * 2, none⟩) (fun h => by have : sg < Wb.heap.size := h; omega) _).setCell (p := ⟨sg, grp * 2 + 1, none⟩) (fun h => by have : sg < Wb.heap.size := h; omega) _
                  have hsp7 : SpsAt N7 ((W6.setCell ⟨sg, grp * 2, none⟩ (.int .i64 place)).setCell ⟨sg, grp * 2 + 1, none⟩ (.int .i64 x.stop)) (.slice (some ⟨sg, 0, none⟩) x.spans.length c5) (x.spans.set grp ((place : Int), (x.stop : Int))) := by
                    refine ⟨?_, fun q hq => ?_, by rw [List.length_set]; exact HS8.out.small⟩
                    · rw [List.length_set]
                      exact Row.of_own hO7 (fun q hq _ => HGR8.out.at_.new q (by omega))
                    · rcases List.mem_or_eq_of_mem_set hq with hq | rfl
                      · exact HS8.out.ok q hq
                      · have := hC.len
                        refine ⟨⟨?_, ?_⟩, ⟨?_, ?_⟩⟩ <;> (show _ ≤ _) <;> omega
                  have hjm : j < (markTo C.G grp place l j).length := by rw [markTo_length _ _ _ _ _ hj]; exact hjl
                  have hmark := HGR8.out.marked hjm k7 (fun cs' h' => by
                    rw [markTo_length _ _ _ _ _ hj] at h' ⊢
                    have e : cs' = cs8 := World.ownsRow.uniq h' HR8.out
                    rw [e]
                    exact hR7) hsp7 (by rw [List.length_set]; exact HXG.out)
                  obtain ⟨hm1, hm2⟩ := hmark
                  have hgx2 : (markTo C.G grp place l j)[j] = l[j] := by
                    have := markTo_get C.G grp place hjl
                    rw [List.getElem?_eq_getElem hjm] at this
                    simpa using this
                  have hms : (markTo C.G grp place l j).set j ⟨(markTo C.G grp place l j)[j].stop, x.spans.set grp ((place : Int), (x.stop : Int))⟩ = markTo C.G grp place l (j + 1) := by
                    rw [markTo_succ C.G grp place hjl, hgx2, HX.out]
                    rfl
                  rw [hms] at hm1
                  have hdr7 : Below ((W6.setCell ⟨sg, grp * 2, none⟩ (.int .i64 place)).setCell ⟨sg, grp * 2 + 1, none⟩ (.int .i64 x.stop)).heap.size ((W6.setCell ⟨sg, grp * 2, none⟩ (.int .i64 place)).setCell ⟨sg, grp * 2 + 1, none⟩ (.int .i64 x.stop)) ((W6.setCell ⟨sg, grp * 2, none⟩ (.int .i64 place)).setCell ⟨sg, grp * 2 + 1, none⟩ (.int .i64 x.stop)).drew := (Below.refl _ _).drew
                  have HM1 := Lib.hid (hm1.below hdr7)
                  have HM2 := Lib.hid (HGO8.out.trans (hm2.trans (Goes.below hdr7)))
                  clear hm1 hm2 hdr7 hms hgx2 hsp7 k7 hR7 hO7 hR6 k6 hO6 hB206 hbA hB20 hxc2 y0 y1 y15x y15 f15
                  apply wp_flowL ?hm ?hok [0, 1, 2, 3, 4, 5, 6, 7, 8, 9, 10, 11, 12, 13, 14] [14] [] ?hord (fun w' => w' = W6.drew) (fun L w' => match L with | [] => w' = W6.drew | _ => w' = ((W6.setCell ⟨sg, grp * 2, none⟩ (.int .i64 place)).setCell ⟨sg, grp * 2 + 1, none⟩ (.int .i64 x.stop)).drew)
                  case hm => rfl
                  case hok => kernel_rfl
                  case hord => kernel_rfl
                  case hb =>
                    intro L w' h hl
                    match L with
                    | [] => exact h
                    | _ :: _ =>
                      exfalso
                      rw [show (List.filter (fun j => [14].contains j) [0, 1, 2, 3, 4, 5, 6, 7, 8, 9, 10, 11, 12, 13, 14]).length = 1 by decide] at hl
                      simp only [List.length_cons] at hl
                      omega
                  case hw => rfl
                  case h =>
                    iterate 14
                      apply flowL_read _ rfl rfl rfl rfl
                      case h =>
                        intro W1 hW K hK
                        (obtain rfl := hW)
                        go_wp2_with fail
                        exact hK
                      simp only [Act.put, List.setIfInBounds_toArray, List.set_cons_zero, List.set_cons_succ, Nat.reduceAdd]
                    apply flowL_act rfl rfl rfl
                    case h =>
                      intro W10 hW K hK
                      obtain rfl : W10 = W6.drew := hW
                      go_wp2_with fail
                      exact hK undef _ rfl
                    intro v10 hv10
                    simp only [Act.put, List.setIfInBounds_toArray, List.set_cons_zero, List.set_cons_succ, Nat.reduceAdd]
                    refine flowL_end fun W11 h11 => ?_
                    obtain rfl : W11 = ((W6.setCell ⟨sg, grp * 2, none⟩ (.int .i64 place)).setCell ⟨sg, grp * 2 + 1, none⟩ (.int .i64 x.stop)).drew := h11
                    go_wp2_with fail
                    go_roundw
                    case rel => exact ⟨j + 1, by omega, by go_num, HM1.out, HM2.out⟩
                    case measure => simp [intOf]; omega
                · obtain rfl : j = l.length := by omega
                  go_wp2_with fail
                  go_meet
                  obtain ⟨N9, hA9, hN9, hgo9, hW9⟩ := HGR8.out.done (fun q hq => HA.out.new q hq)
                  have ha := halt.out
                  rw [List.take_length] at ha
                  have hmk : markTo C.G grp place l l.length = l.map ((wayA C.G).mark grp place) := by simp [markTo]
                  rw [hmk] at hW9
                  refine ⟨N9, ok, _, _, _, rfl, rfl, hA9, hN9, HGO7.out.trans (HGO8.out.trans hgo9), fun hok => ⟨_, by simp, hW9, ?_⟩, fun hok => ?_⟩
                  · rw [wy_mk, if_neg (by omega), if_neg (by omega), if_neg (by omega), if_neg (by omega), if_pos rfl, ha, hok, if_pos rfl]
                    rfl
                  · rw [wy_mk, if_neg (by omega), if_neg (by omega), if_neg (by omega), if_neg (by omega), if_pos rfl, ha, hok]
                    rfl
      case rest =>
        rename World => W5
        obtain ⟨N', ok, a, n, c, rfl, rfl, hA5, hN5, hg5, h1, h2⟩ := hcut
        have HA5 := Lib.hid hA5
        have HN5 := Lib.hid hN5
        have HG5 := Lib.hid (HGO2.out.trans hg5)
        have HB5 := Lib.hid (hg5.blk HA2.out (show Blk W2.drew w.heap.size _ _ from HB8.out) (HA.out.new _ (Nat.le_refl _)))
        have HH1 := Lib.hid h1
        have HH2 := Lib.hid h2
        clear hA5 hN5 hg5 h1 h2
        cases ok with
        | false =>
          have ho := HH2.out rfl
          clear HH1 HH2
          go_wp2_with fail
          exact bodyPost_ret (v := .tuple #[.slice none 0 0, .bool false]) (by simp [results, Tryz.results43, go_sem]) rfl (wysnil_none HA.out HG5.out HA5.out HN5.out ho)
        | true =>
          obtain ⟨l, rfl, hw, ho⟩ := HH1.out rfl
          clear HH1 HH2
          have HW := Lib.hid hw
          have HO := Lib.hid ho
          have hlm : l.length ≤ maxLen := by obtain ⟨cs, h1, -⟩ := hw; exact h1.len_le
          have hlmI : (l.length : Int) ≤ 9223372036854775807 := by unfold maxLen at hlm; omega
          clear hw ho
          by_cases hl : l.length ≤ 500
          · have hlI : (l.length : Int) ≤ 500 := by omega
            have ho : C.wy (.mk k set lo hi lazy subs) grp place = some l := by rw [HO.out]; exact most_some hl
            have hdr : Below W5.heap.size W5 W5.drew := (Below.refl _ _).drew
            obtain ⟨W6, hrun, hk6, hz6, hA6⟩ := store_known hC (HA5.out.below hdr) (n := num) (p := place) (g := grp) (by have := hC.len; omega) HSELF.out ho ((Goes.below (R := C.r w.heap.size) (N := N') hdr).ways HA5.out HW.out)
            obtain ⟨x0, x1, -, -⟩ := (show Blk W5.drew w.heap.size _ _ from HB5.out).two
            have xz := (show Blk W5.drew w.heap.size _ _ from HB5.out).lt
            have x3 : W5.drew.cell? ⟨C.m, 3, none⟩ = some (.map (some C.mb)) := HA5.out.maker.cell 3
            have x3z : C.m < W5.drew.heap.size := HA5.out.maker.lt
            have HO6 := Lib.hid ho
            have hend : WysNil C N w (some l) (.returned (.tuple #[.slice a l.length c, .bool true])) W6 := by
              refine ⟨(HG5.out.trans ((Goes.below hdr).trans (Goes.memo hk6))).kept, hA6.mono HN5.out HA.out.not, _, rfl, (fun e => by cases e), fun l' hl' => ?_⟩
              simp only [Option.some.injEq] at hl'
              subst hl'
              exact (((Goes.below (R := C.r w.heap.size) (N := N') hdr).trans (Goes.memo hk6)).ways HA5.out HW.out).mono HN5.out
            have HEND := Lib.hid hend
            have HRUN := Lib.hid hrun
            clear hend ho hk6 hz6 hA6 hrun
            go_upto_region 34 with fail
            apply wp_flowL ?hm ?hok [0, 1, 2, 3, 4, 5, 6] [6] [] ?hord (fun w' => w' = W5.drew) (fun L w' => match L with | [] => w' = W5.drew | _ => w' = W6)
            case hm => rfl
            case hok => kernel_rfl
            case hord => kernel_rfl
            case hb =>
              intro L w' h hl
              match L with
              | [] => exact h
              | _ :: _ =>
                exfalso
                rw [show (List.filter (fun j => [6].contains j) [0, 1, 2, 3, 4, 5, 6]).length = 1 by decide] at hl
                simp only [List.length_cons] at hl
                omega
            case hw => rfl
            case h =>
              iterate 6
                apply flowL_read _ rfl rfl rfl rfl
                case h =>
                  intro W1 hW K hK
                  (obtain rfl := hW)
                  go_wp2_with fail
                  exact hK
                simp only [Act.put, List.setIfInBounds_toArray, List.set_cons_zero, List.set_cons_succ, Nat.reduceAdd]
              apply flowL_act rfl rfl rfl
              case h =>
                intro W10 hW K hK
                obtain rfl : W10 = W5.drew := hW
                have hrun := HRUN.out
                go_wp2_with fail
                exact hK undef _ rfl
              intro v10 hv10
              simp only [Act.put, List.setIfInBounds_toArray, List.set_cons_zero, List.set_cons_succ, Nat.reduceAdd]
              refine flowL_end fun W11 h11 => ?_
              obtain rfl : W11 = W6 := h11
              go_wp2_with fail
              refine bodyPost_ret (v := .tuple #[.slice a l.length c, .bool true]) (by simp [results, Tryz.results43, go_sem]) rfl ?_
              rw [HO6.out]
              exact HEND.out
          · have hlI : (500 : Int) < l.length := by omega
            have ho : C.wy (.mk k set lo hi lazy subs) grp place = none := by rw [HO.out]; simp [most, hl]
            go_wp2_with fail
            exact bodyPost_ret (v := .tuple #[.slice none 0 0, .bool false]) (by simp [results, Tryz.results43, go_sem]) rfl (wysnil_none HA.out HG5.out HA5.out HN5.out ho)
  · obtain ⟨vo, vcap, rfl⟩ := hwa.slice
    apply wp_flowL ?hm ?hok [0, 1, 2, 3, 4, 5, 6, 7, 8, 9, 10] [] [0, 1, 2, 3, 4, 5, 6, 7, 8, 9, 10] ?hord (fun _ => True) (fun L w' => L = [] ∧ w' = W2.drew)
    case hm => rfl
    case hok => kernel_rfl
    case hord => kernel_rfl
    case hb => exact fun _ _ _ _ => trivial
    case hw => exact ⟨rfl, rfl⟩
    case h =>
      have HW := Lib.hid hwa
      iterate 11
        apply flowL_pin _ rfl rfl rfl rfl
        case h =>
          intro W1 hW K hK
          (obtain ⟨-, rfl⟩ := hW)
          go_wp2_with fail
          exact hK
        simp only [Act.put, List.setIfInBounds_toArray, List.set_cons_zero, List.set_cons_succ, Nat.reduceAdd]
      refine flowL_end fun W3 h3 => ?_
      obtain ⟨-, rfl⟩ := h3
      go_wp2_with fail
      refine bodyPost_ret (v := .tuple #[.slice vo l.length vcap, .bool true]) (by simp [results, Tryz.results43, go_sem]) rfl ?_
      rw [HSELF.out] at hT
      simp only [Option.some.injEq, Prod.mk.injEq] at hT
      obtain ⟨rfl, rfl⟩ := hT
      rw [hwy]
      refine ⟨HGO2.out.kept, HA2.out, _, rfl, (fun e => by cases e), (fun l' hl' => ?_)⟩
      simp only [Option.some.injEq] at hl'
      subst hl'
      exact HW.out

/-- ways, at every part that fits -/
theorem ways_all {C : Cx} (hC : C.Ok) : ∀ t : Nd, Fit t → WaysSpec C t
  | .mk k set lo hi lazy subs, hf => ways_step hC hf (fun s hs => ways_all hC s (hf.subs s hs))
termination_by t => SizeOf.sizeOf t
decreasing_by
  have := List.sizeOf_lt_of_mem hs
  simp
  omega
end Go.Proofs.YtnhjakdmbfadlaaGreatDoor
