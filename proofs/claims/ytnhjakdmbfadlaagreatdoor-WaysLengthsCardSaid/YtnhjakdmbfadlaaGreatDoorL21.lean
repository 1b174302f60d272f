/- Parts of the proof: Who, RdA, Br. Conditions: none. -/
import Derived.Test.YtnhjakdmbfadlaaGreatDoorL07
import Derived.Deep.DeepCutAuto
import Derived.Deep.CutRange
import Derived.Test.YtnhjakdmbfadlaaGreatDoorL04
set_option linter.all false
/- gaugerref07.whole. -/
namespace Go.Proofs.YtnhjakdmbfadlaaGreatDoor
open Go.RowKit Wy Mem Grow

theorem info90 : (Tryz.prog.info? 70).map (fun i => (i.zero, i.size, i.bytes)) = some (some (.agg #[.int .u8 0, .slice none 0 0, .int .i64 0, .int .i64 0, .bool false, .slice none 0 0]), 6, 80) := by kernel_rfl
theorem srcN {T : TypeId} {W : World} {c0 c1 c2 c3 c4 c5 : Value} {b : Nat} (hb : b = W.heap.size) : SrcAt (W.alloc (.cells #[c0, c1, c2, c3, c4, c5] T)) (.slice (some ⟨b, 0, none⟩) 1 1) 1 [c0, c1, c2, c3, c4, c5] := by
  subst hb
  have hB := Blk.new W #[c0, c1, c2, c3, c4, c5] T
  refine .inr ⟨_, _, rfl, fun j u hu => ?_⟩
  match j with
  | 0 => simp at hu; subst hu; simp [Addr.add, hB.cell]
  | 1 => simp at hu; subst hu; simp [Addr.add, hB.cell]
  | 2 => simp at hu; subst hu; simp [Addr.add, hB.cell]
  | 3 => simp at hu; subst hu; simp [Addr.add, hB.cell]
  | 4 => simp at hu; subst hu; simp [Addr.add, hB.cell]
  | 5 => simp at hu; subst hu; simp [Addr.add, hB.cell]
  | j + 6 => simp at hu
theorem ndsOne {N : Nat → Prop} {w : World} : ∀ {l : List Nd} {cs : List Value}, NdsAt N w l cs → ∀ u ∈ cs, u.oneCell' = true
  | [], cs, h, u, hu => by rw [NdsAt] at h; subst h; simp at hu
  | s :: r, cs, h, u, hu => by
    rw [NdsAt] at h
    obtain ⟨a, b, rfl, h2, h3⟩ := h
    rcases List.mem_append.1 hu with hu | hu
    · obtain ⟨k, lo, hi, lz, o1, o2, n1, c1, n2, c2, rfl⟩ := nd6k h2
      simp only [List.mem_cons, List.not_mem_nil, or_false] at hu
      rcases hu with rfl | rfl | rfl | rfl | rfl | rfl <;> rfl
    · exact ndsOne h3 u hu
/-- explicit cells -/
def six (k lo hi : Int) (lz : Bool) (o1 o2 : Option Addr) (n1 c1 n2 c2 : Nat) : List Value := [.int .u8 k, .slice o1 n1 c1, .int .i64 lo, .int .i64 hi, .bool lz, .slice o2 n2 c2]
def whW (N : Nat → Prop) (W : World) (n : Nat) (scs : List Value) (l : List Nd) (t3 t4 : Nd) : List Value → World → Prop
  | [] => fun w' => w' = W.drew
  | [v0] => fun w' => v0 = .slice (some ⟨W.heap.size, 0, none⟩) 0 0 ∧ w' = W.drew.alloc (.cells #[] 70)
  | [_, v3] => fun w' => ∃ o c, v3 = .slice o n c ∧ w'.ownsRow W.heap.size 70 6 (.slice o n c) n scs ∧ Below W.heap.size W w'
  | [_, v3, v6] => fun w' => ∃ (k lo hi : Int) (lz : Bool) (o1 o2 : Option Addr) (n1 c1 n2 c2 : Nat), v6 = .agg (six k lo hi lz o1 o2 n1 c1 n2 c2).toArray ∧ NdAt (fun q => N q ∧ q < W.heap.size) w' t3 (six k lo hi lz o1 o2 n1 c1 n2 c2) ∧ w'.ownsRow W.heap.size 70 6 v3 n scs ∧ Below W.heap.size W w'
  | [_, v3, v6, v7] => fun w' => ∃ (k lo hi : Int) (lz : Bool) (o1 o2 : Option Addr) (n1 c1 n2 c2 q : Nat), v6 = .agg (six k lo hi lz o1 o2 n1 c1 n2 c2).toArray ∧ v7 = .slice (some ⟨q, 0, none⟩) 1 1 ∧ SrcAt w' (.slice (some ⟨q, 0, none⟩) 1 1) 1 (six k lo hi lz o1 o2 n1 c1 n2 c2) ∧ NdAt (fun q => N q ∧ q < W.heap.size) w' t3 (six k lo hi lz o1 o2 n1 c1 n2 c2) ∧ w'.ownsRow W.heap.size 70 6 v3 n scs ∧ Below W.heap.size W w'
  | [_, _, _, _, v8] => fun w' => ∃ (o : Option Addr) (c : Nat) (cs : List Value), v8 = .slice o (n + 1) c ∧ w'.ownsRow W.heap.size 70 6 (.slice o (n + 1) c) (n + 1) cs ∧ NdsAt (fun q => N q ∧ q < W.heap.size) w' l cs ∧ Below W.heap.size W w'
  | [_, _, _, _, _, v9] => fun w' => ∃ (k lo hi : Int) (lz : Bool) (o1 o2 : Option Addr) (n1 c1 n2 c2 : Nat), v9 = .agg (six k lo hi lz o1 o2 n1 c1 n2 c2).toArray ∧ NdAt (fun q => (N q ∧ q < W.heap.size) ∨ W.heap.size ≤ q) w' t4 (six k lo hi lz o1 o2 n1 c1 n2 c2) ∧ Below W.heap.size W w'
  | [_, _, _, _, _, v9, _] => fun w' => ∃ (w2 : World) (k lo hi : Int) (lz : Bool) (o1 o2 : Option Addr) (n1 c1 n2 c2 : Nat), v9 = .agg (six k lo hi lz o1 o2 n1 c1 n2 c2).toArray ∧ NdAt (fun q => (N q ∧ q < W.heap.size) ∨ W.heap.size ≤ q) w2 t4 (six k lo hi lz o1 o2 n1 c1 n2 c2) ∧ Below W.heap.size W w2 ∧
      w' = (((((w2.setCell ⟨W.heap.size - 1, 0, none⟩ (.int .u8 k)).setCell ⟨W.heap.size - 1, 1, none⟩ (.slice o1 n1 c1)).setCell ⟨W.heap.size - 1, 2, none⟩ (.int .i64 lo)).setCell ⟨W.heap.size - 1, 3, none⟩ (.int .i64 hi)).setCell ⟨W.heap.size - 1, 4, none⟩ (.bool lz)).setCell ⟨W.heap.size - 1, 5, none⟩ (.slice o2 n2 c2)
  | _ => fun _ => False
set_option maxHeartbeats 8000000 in
set_option maxRecDepth 100000 in
theorem whole7_any {N : Nat → Prop} {w : World} {o : Wy.Op} {sv iv : Value} {scs ics : List Value} (hs : Row N w sv o.seqs.length 6 scs) (hsn : NdsAt N w o.seqs scs) (hi : Row N w iv o.items.length 6 ics) (hin : NdsAt N w o.items ics) (hl1 : o.seqs.length ≤ 1000000) (hl2 : o.items.length ≤ 1000000) :
    Calls Tryz.prog 84 #[.agg #[sv, iv, .bool o.group]] w (Trd (fun q => N q ∨ w.heap.size ≤ q) (wholeM o) w) := by
  obtain ⟨so, sc, rfl⟩ := hs.slice
  obtain ⟨io, ic, rfl⟩ := hi.slice
  have HS := Lib.hid hs
  have HSN := Lib.hid hsn
  have HI := Lib.hid hi
  have HIN := Lib.hid hin
  clear hs hsn hi hin
  obtain ⟨i0, hi0, hz0, hz1, hz2⟩ := info_parts info90
  go_enter Tryz.func84, Tryz.ntmps84
  go_upto_region 1 with fail
  have hBo : Blk ((w.alloc (.cells #[.slice so o.seqs.length sc, .slice io o.items.length ic, .bool o.group] 155)).alloc (.cells #[.int .u8 0, .slice none 0 0, .int .i64 0, .int .i64 0, .bool false, .slice none 0 0] 70)) w.heap.size #[.slice so o.seqs.length sc, .slice io o.items.length ic, .bool o.group] 155 := (Blk.new _ _ _).alloc _
  have hBr : Blk ((w.alloc (.cells #[.slice so o.seqs.length sc, .slice io o.items.length ic, .bool o.group] 155)).alloc (.cells #[.int .u8 0, .slice none 0 0, .int .i64 0, .int .i64 0, .bool false, .slice none 0 0] 70)) (w.heap.size + 1) #[.int .u8 0, .slice none 0 0, .int .i64 0, .int .i64 0, .bool false, .slice none 0 0] 70 := Blk.new' _ _ (by simp)
  have hbW : Below w.heap.size w ((w.alloc (.cells #[.slice so o.seqs.length sc, .slice io o.items.length ic, .bool o.group] 155)).alloc (.cells #[.int .u8 0, .slice none 0 0, .int .i64 0, .int .i64 0, .bool false, .slice none 0 0] 70)) := ((Below.refl _ _).alloc (Nat.le_refl _) _).alloc (by simp) _
  have hzW : ((w.alloc (.cells #[.slice so o.seqs.length sc, .slice io o.items.length ic, .bool o.group] 155)).alloc (.cells #[.int .u8 0, .slice none 0 0, .int .i64 0, .int .i64 0, .bool false, .slice none 0 0] 70)).heap.size = w.heap.size + 2 := by simp
  generalize ((w.alloc (.cells #[.slice so o.seqs.length sc, .slice io o.items.length ic, .bool o.group] 155)).alloc (.cells #[.int .u8 0, .slice none 0 0, .int .i64 0, .int .i64 0, .bool false, .slice none 0 0] 70)) = W at hBo hBr hbW hzW ⊢
  have HBO := Lib.hid hBo
  have HBR := Lib.hid hBr
  have HBW := Lib.hid hbW
  have HZW := Lib.hid hzW
  have rowS : ∀ w', Below W.heap.size W w' → Row (fun q => (N q ∧ q < w.heap.size) ∧ q < W.heap.size) w' (.slice so o.seqs.length sc) o.seqs.length 6 scs ∧ NdsAt (fun q => (N q ∧ q < w.heap.size) ∧ q < W.heap.size) w' o.seqs scs := fun w' hb =>
    have k := Kept.of_below (HBW.out.trans (hb.mono HBW.out.size)) (fun _ => False)
    ⟨RowGo HS.out k (fun q hq hn => ⟨id, ⟨hn, hq⟩, by have := HBW.out.size; omega⟩), NdsAt.go k (fun q hq hn => ⟨id, ⟨hn, hq⟩, by have := HBW.out.size; omega⟩) HSN.out⟩
  have rowI : ∀ w', Below W.heap.size W w' → Row (fun q => (N q ∧ q < w.heap.size) ∧ q < W.heap.size) w' (.slice io o.items.length ic) o.items.length 6 ics ∧ NdsAt (fun q => (N q ∧ q < w.heap.size) ∧ q < W.heap.size) w' o.items ics := fun w' hb =>
    have k := Kept.of_below (HBW.out.trans (hb.mono HBW.out.size)) (fun _ => False)
    ⟨RowGo HI.out k (fun q hq hn => ⟨id, ⟨hn, hq⟩, by have := HBW.out.size; omega⟩), NdsAt.go k (fun q hq hn => ⟨id, ⟨hn, hq⟩, by have := HBW.out.size; omega⟩) HIN.out⟩
  have ROWS := Lib.hid rowS
  have ROWI := Lib.hid rowI
  have bd : Below W.heap.size W W.drew := (Below.refl _ _).drew
  have BD := Lib.hid bd
  clear hBo hBr hbW hzW rowS rowI bd
  apply wp_flowL ?hm ?hok [1, 2, 4, 5, 0, 3, 6, 7, 8, 9, 10] [0, 3, 6, 7, 8, 9, 10] [] ?hord (fun w' => Below W.heap.size W w') (whW (fun q => N q ∧ q < w.heap.size) W o.seqs.length scs (o.seqs ++ [closedM 3 o.items]) (closedM 3 o.items) (wholeM o))
  case hm => rfl
  case hok => kernel_rfl
  case hord => kernel_rfl
  case hb =>
    intro L w' h hl
    match L with
    | [] => obtain rfl : w' = W.drew := h; exact BD.out
    | [_] => obtain ⟨-, rfl⟩ : _ ∧ w' = _ := h; exact BD.out.alloc (Nat.le_refl _) _
    | [_, _] => obtain ⟨_, _, _, _, h⟩ := h; exact h
    | [_, _, _] => obtain ⟨_, _, _, _, _, _, _, _, _, _, _, _, _, h⟩ := h; exact h
    | [_, _, _, _] => obtain ⟨_, _, _, _, _, _, _, _, _, _, _, _, _, _, _, _, h⟩ := h; exact h
    | [_, _, _, _, _] => obtain ⟨_, _, _, _, _, _, h⟩ := h; exact h
    | [_, _, _, _, _, _] => obtain ⟨_, _, _, _, _, _, _, _, _, _, _, _, h⟩ := h; exact h
    | _ :: _ :: _ :: _ :: _ :: _ :: _ :: _ =>
      exfalso
      rw [show (List.filter (fun j => [0, 3, 6, 7, 8, 9, 10].contains j) [1, 2, 4, 5, 0, 3, 6, 7, 8, 9, 10]).length = 7 by decide] at hl
      simp only [List.length_cons] at hl
      omega
  case hw => rfl
  case h =>
    iterate 4
      apply flowL_read _ rfl rfl rfl rfl
      case h =>
        intro W1 hW K hK
        (have B := HBO.out.below hW HBO.out.lt; have b0 := B.cell 0; have b1 := B.cell 1; have bz := B.lt; clear B hW)
        go_wp2_with fail
        exact hK
      simp only [Act.put, List.setIfInBounds_toArray, List.set_cons_zero, List.set_cons_succ, Nat.reduceAdd]
    apply flowL_act rfl rfl rfl
    case h =>
      intro W1 hW K hK
      obtain rfl : W1 = W.drew := hW
      go_wp2_with fail
      exact ⟨rfl, rfl⟩
    intro v0 hv0
    obtain ⟨_, rfl, -⟩ := hv0
    simp only [Act.put, List.setIfInBounds_toArray, List.set_cons_zero, List.set_cons_succ, Nat.reduceAdd]
    apply flowL_act rfl rfl rfl
    case h =>
      intro W1 hW K hK
      obtain ⟨-, rfl⟩ := hW
      have hb1 : Below W.heap.size W (W.drew.alloc (.cells #[] 70)) := BD.out.alloc (Nat.le_refl _) _
      have hrs := ROWS.out _ hb1
      refine wp_append_row _ _ 68 rfl Tryz.underlying68 hi0 hz0 hz1 hz2 rfl (.slice (some ⟨W.heap.size, 0, none⟩) 0 0) 0 [] rfl (own_empty W.drew 70 6) _ o.seqs.length scs rfl (src_row hrs.1) hrs.1.len (ndsOne hrs.2) (by unfold maxLen; omega) (by omega) (by simp) ?_
      intro v' w' h1 h2 h3 h4
      rw [Nat.zero_add, List.nil_append] at h1
      obtain ⟨ov, cv, rfl⟩ := ownSlice h1
      exact hK _ _ ⟨ov, cv, rfl, h1, hb1.grown h2 (by simp) (fun q hq' => by have e : W.heap.size = q := (by simpa [Value.ownBlock] using hq'); omega)⟩
    intro v3 hv3
    obtain ⟨_, ov3, cv3, rfl, -⟩ := hv3
    simp only [Act.put, List.setIfInBounds_toArray, List.set_cons_zero, List.set_cons_succ, Nat.reduceAdd]
    apply flowL_act rfl rfl rfl
    case h =>
      intro W1 hW K hK
      obtain ⟨o', c', he, hr, hb⟩ := hW
      simp only [Value.slice.injEq, true_and] at he
      obtain ⟨rfl, rfl⟩ := he
      have hri := ROWI.out _ hb
      have hcall := closed_any (k := 3) hri.1 hri.2 (by omega) (by omega)
      have HC := Lib.hid hcall
      have HR := Lib.hid hr
      have HB := Lib.hid hb
      clear hcall hri hr hb
      go_wp2_with (go_at_call 83; go_loud (refine HC.out.mono ?_; rintro e w' ⟨cs, rfl, hn, hb'⟩))
      obtain ⟨k, lo, hi, lz, o1, o2, n1, c1, n2, c2, rfl⟩ := nd6k hn
      exact ⟨k, lo, hi, lz, o1, o2, n1, c1, n2, c2, rfl, hn, ownGo HR.out (Kept.of_below hb' (fun _ => False)) (fun _ _ => id), HB.out.trans (hb'.mono HB.out.size)⟩
    intro v6 hv6
    obtain ⟨_, k6, lo6, hi6, lz6, o61, o62, n61, c61, n62, c62, rfl, -⟩ := hv6
    simp only [six]
    simp only [Act.put, List.setIfInBounds_toArray, List.set_cons_zero, List.set_cons_succ, Nat.reduceAdd]
    apply flowL_act rfl rfl rfl
    case h =>
      intro W1 hW K hK
      obtain ⟨k, lo, hi, lz, o1, o2, n1, c1, n2, c2, he, hn, hr, hb⟩ := hW
      have HE := Lib.hid he
      have HN := Lib.hid hn
      have HR := Lib.hid hr
      have HB := Lib.hid hb
      clear he hn hr hb
      go_wp2_with fail
      have he := HE.out
      simp only [six, Value.agg.injEq, List.toArray_eq_toArray_eq, List.toArray_inj, List.cons.injEq, Value.int.injEq, Value.slice.injEq, Value.bool.injEq, true_and, and_true] at he
      obtain ⟨rfl, ⟨rfl, rfl, rfl⟩, rfl, rfl, rfl, rfl, rfl, rfl⟩ := he
      have k1 : Kept (fun _ => False) W1 (W1.alloc (.cells #[.int .u8 k6, .slice o61 n61 c61, .int .i64 lo6, .int .i64 hi6, .bool lz6, .slice o62 n62 c62] 70)) := (Kept.refl _ _).alloc _
      exact ⟨k6, lo6, hi6, lz6, o61, o62, n61, c61, n62, c62, W1.heap.size, rfl, rfl, srcN rfl, NdAt.go k1 (fun q _ hq => ⟨id, hq⟩) HN.out, ownGo HR.out k1 (fun _ _ => id), HB.out.alloc HB.out.size _⟩
    intro v7 hv7
    obtain ⟨_, _, _, _, _, _, _, _, _, _, _, q7, -, rfl, -⟩ := hv7
    simp only [Act.put, List.setIfInBounds_toArray, List.set_cons_zero, List.set_cons_succ, Nat.reduceAdd]
    apply flowL_act rfl rfl rfl
    case h =>
      intro W1 hW K hK
      obtain ⟨k, lo, hi, lz, o1, o2, n1, c1, n2, c2, q, he, hq, hsr, hn, hr, hb⟩ := hW
      simp only [Value.slice.injEq, Option.some.injEq, Addr.mk.injEq, true_and, and_true] at hq
      subst hq
      refine wp_append_row _ _ 68 rfl Tryz.underlying68 hi0 hz0 hz1 hz2 rfl (.slice ov3 o.seqs.length cv3) o.seqs.length scs rfl hr _ 1 _ rfl hsr rfl (by simp [six, Value.oneCell']) (by unfold maxLen; omega) (by omega) hb.size ?_
      intro v' w' h1 h2 h3 h4
      obtain ⟨ov, cv, rfl⟩ := ownSlice h1
      have kg : Kept (fun p => (Value.slice ov3 o.seqs.length cv3).ownBlock = some p) W1 w' := grownK h2
      have hlt := hr.lt
      have hb' : Below W.heap.size W w' := ((Kept.of_below hb (fun p => (Value.slice ov3 o.seqs.length cv3).ownBlock = some p)).trans kg).below (fun p hp e => by have := (hlt p e).1; omega)
      refine hK _ _ ⟨ov, cv, _, rfl, h1, ?_, hb'⟩
      refine NdsAt.append (ROWS.out _ hb').2 (NdsAt.one (NdAt.go kg (fun p _ hp => ⟨fun e => by have := (hlt p e).1; omega, hp⟩) hn))
    intro v8 hv8
    obtain ⟨_, ov8, cv8, cs8, rfl, -⟩ := hv8
    simp only [Act.put, List.setIfInBounds_toArray, List.set_cons_zero, List.set_cons_succ, Nat.reduceAdd]
    apply flowL_act rfl rfl rfl
    case h =>
      intro W1 hW K hK
      obtain ⟨o', c', cs, he, hr, hn, hb⟩ := hW
      simp only [Value.slice.injEq, true_and] at he
      obtain ⟨rfl, rfl⟩ := he
      have hlen : (o.seqs ++ [closedM 3 o.items]).length = o.seqs.length + 1 := by simp
      have hrow : Row (fun q => ((N q ∧ q < w.heap.size) ∧ q < W.heap.size) ∨ W.heap.size ≤ q) W1 (.slice ov8 (o.seqs.length + 1) cv8) (o.seqs ++ [closedM 3 o.items]).length 6 cs := by rw [hlen]; exact rowOwn hr (fun p hp => .inr (hr.lt p hp).1)
      have hcall := closed_any (k := 4) hrow (NdsAt.mono (fun p hp => .inl hp) hn) (by omega) (by rw [hlen]; omega)
      have HC := Lib.hid hcall
      have HB := Lib.hid hb
      clear hcall hrow hr hb hn
      go_wp2_with (go_at_call 83; go_loud (refine HC.out.mono ?_; rintro e w' ⟨cs, rfl, hn, hb'⟩))
      obtain ⟨k, lo, hi, lz, o1, o2, n1, c1, n2, c2, rfl⟩ := nd6k hn
      exact ⟨k, lo, hi, lz, o1, o2, n1, c1, n2, c2, rfl, hn, HB.out.trans (hb'.mono HB.out.size)⟩
    intro v9 hv9
    obtain ⟨_, k9, lo9, hi9, lz9, o91, o92, n91, c91, n92, c92, rfl, -⟩ := hv9
    simp only [six]
    simp only [Act.put, List.setIfInBounds_toArray, List.set_cons_zero, List.set_cons_succ, Nat.reduceAdd]
    apply flowL_act rfl rfl rfl
    case h =>
      intro W1 hW K hK
      obtain ⟨k, lo, hi, lz, o1, o2, n1, c1, n2, c2, he, hn, hb⟩ := hW
      simp only [six, Value.agg.injEq, List.toArray_eq_toArray_eq, List.toArray_inj, List.cons.injEq, Value.int.injEq, Value.slice.injEq, Value.bool.injEq, true_and, and_true] at he
      obtain ⟨rfl, ⟨rfl, rfl, rfl⟩, rfl, rfl, rfl, rfl, rfl, rfl⟩ := he
      have hend : whW (fun q => N q ∧ q < w.heap.size) W o.seqs.length scs (o.seqs ++ [closedM 3 o.items]) (closedM 3 o.items) (wholeM o) [undef, undef, undef, undef, undef, .agg (six k9 lo9 hi9 lz9 o91 o92 n91 c91 n92 c92).toArray, undef] ((((((W1.setCell ⟨W.heap.size - 1, 0, none⟩ (.int .u8 k9)).setCell ⟨W.heap.size - 1, 1, none⟩ (.slice o91 n91 c91)).setCell ⟨W.heap.size - 1, 2, none⟩ (.int .i64 lo9)).setCell ⟨W.heap.size - 1, 3, none⟩ (.int .i64 hi9)).setCell ⟨W.heap.size - 1, 4, none⟩ (.bool lz9)).setCell ⟨W.heap.size - 1, 5, none⟩ (.slice o92 n92 c92)) :=
        ⟨W1, k9, lo9, hi9, lz9, o91, o92, n91, c91, n92, c92, rfl, hn, hb, rfl⟩
      have B := HBR.out.below hb HBR.out.lt
      have e1 : W.heap.size - 1 = w.heap.size + 1 := by have := HZW.out; omega
      rw [e1] at hend
      have r0 := B.cell 0; have r1 := B.cell 1; have r2 := B.cell 2; have r3 := B.cell 3; have r4 := B.cell 4; have r5 := B.cell 5; have rz := B.lt; have rf : ∀ i, W1.frozen? ⟨w.heap.size + 1, i, none⟩ = false := B.frozen
      have HEND := Lib.hid hend
      clear hend B hn hb e1
      go_wp2_with fail
      exact hK undef _ HEND.out
    intro v10 hv10
    simp only [Act.put, List.setIfInBounds_toArray, List.set_cons_zero, List.set_cons_succ, Nat.reduceAdd]
    refine flowL_end fun W11 h11 => ?_
    obtain ⟨w2, k, lo, hi, lz, o1, o2, n1, c1, n2, c2, he, hn, hb, rfl⟩ := h11
    have e1 : W.heap.size - 1 = w.heap.size + 1 := by have := HZW.out; omega
    rw [e1]
    have hR := set6blk (HBR.out.below hb HBR.out.lt) (.int .u8 k) (.slice o1 n1 c1) (.int .i64 lo) (.int .i64 hi) (.bool lz) (.slice o2 n2 c2)
    have hK6 := set6k (W := w2) (b := w.heap.size + 1) (.int .u8 k) (.slice o1 n1 c1) (.int .i64 lo) (.int .i64 hi) (.bool lz) (.slice o2 n2 c2)
    have hfin : Trd (fun q => N q ∨ w.heap.size ≤ q) (wholeM o) w (.returned (.agg #[.int .u8 k, .slice o1 n1 c1, .int .i64 lo, .int .i64 hi, .bool lz, .slice o2 n2 c2])) _ := ⟨_, rfl, NdAt.go hK6 (fun q _ hq => ⟨fun e => by have := HZW.out; omega, by have := HZW.out; rcases hq with hq | hq; exact .inl hq.1.1; exact .inr (by omega)⟩) hn, ((Kept.of_below (HBW.out.trans (hb.mono HBW.out.size)) (fun q => q = w.heap.size + 1)).trans hK6).below (fun q hq e => by omega)⟩
    · have HR := Lib.hid hR
      have HFIN := Lib.hid hfin
      clear hR hK6 hfin hn hb he
      go_wp2_with fail
      have hR := HR.out
      exact bodyPost_ret (v := .agg #[.int .u8 k, .slice o1 n1 c1, .int .i64 lo, .int .i64 hi, .bool lz, .slice o2 n2 c2]) (by simp [results, Tryz.results84, go_sem, hR.cell]) rfl HFIN.out
end Go.Proofs.YtnhjakdmbfadlaaGreatDoor

/- Pieces of the reference's reader, and its frame. -/
namespace Go.Proofs.YtnhjakdmbfadlaaGreatDoor
open Go.RowKit Wy Mem Grow

/-- a piece of a code, by the way to it -/
def pieceC : List Bool → Code → Code
  | [], c => c
  | b :: p, .seq x y => pieceC p (if b then y else x)
  | b :: p, .cond _ x y => pieceC p (if b then y else x)
  | _ :: p, .block _ x => pieceC p x
  | _ :: p, .loop x => pieceC p x
  | _ :: p, .scope x => pieceC p x
  | _, _ => .skip
def way (n : List Nat) : List Bool := n.map fun x => decide (x = 1)
noncomputable def rdC (p : List Nat) : Code := pieceC (way p) (Tryz.f62.body.getD .skip)
theorem frame177 {l : List Value} (h : l.length = 177) : ∃ e : Nat → Value, l = [e 0, e 1, e 2, e 3, e 4, e 5, e 6, e 7, e 8, e 9, e 10, e 11, e 12, e 13, e 14, e 15, e 16, e 17, e 18, e 19, e 20, e 21, e 22, e 23, e 24, e 25, e 26, e 27, e 28, e 29, e 30, e 31, e 32, e 33, e 34, e 35, e 36, e 37, e 38, e 39, e 40, e 41, e 42, e 43, e 44, e 45, e 46, e 47, e 48, e 49, e 50, e 51, e 52, e 53, e 54, e 55, e 56, e 57, e 58, e 59, e 60, e 61, e 62, e 63, e 64, e 65, e 66, e 67, e 68, e 69, e 70, e 71, e 72, e 73, e 74, e 75, e 76, e 77, e 78, e 79, e 80, e 81, e 82, e 83, e 84, e 85, e 86, e 87, e 88, e 89, e 90, e 91, e 92, e 93, e 94, e 95, e 96, e 97, e 98, e 99, e 100, e 101, e 102, e 103, e 104, e 105, e 106, e 107, e 108, e 109, e 110, e 111, e 112, e 113, e 114, e 115, e 116, e 117, e 118, e 119, e 120, e 121, e 122, e 123, e 124, e 125, e 126, e 127, e 128, e 129, e 130, e 131, e 132, e 133, e 134, e 135, e 136, e 137, e 138, e 139, e 140, e 141, e 142, e 143, e 144, e 145, e 146, e 147, e 148, e 149, e 150, e 151, e 152, e 153, e 154, e 155, e 156, e 157, e 158, e 159, e 160, e 161, e 162, e 163, e 164, e 165, e 166, e 167, e 168, e 169, e 170, e 171, e 172, e 173, e 174, e 175, e 176] := by
  refine ⟨fun k => l.getD k undef, ?_⟩
  have h2 : l = (List.range 177).map fun k => l.getD k undef := by
    apply List.ext_getElem
    · simp [h]
    · intro i h1 h2
      simp [List.getD_eq_getElem?_getD, h1]
  exact h2
theorem set6rowR {W : World} {B : Nat} {T : TypeId} {g m c : Nat} {cs : List Value} {a0 a1 a2 a3 a4 a5 : Value} (h : W.ownsRow B T 6 (.slice (some ⟨g, 0, none⟩) (m + 1) c) (m + 1) (cs ++ [a0, a1, a2, a3, a4, a5])) (hl : cs.length = m * 6) (b0 b1 b2 b3 b4 b5 : Value) :
    ((((((W.setCell ⟨g, m * 6, none⟩ b0).setCell ⟨g, m * 6 + 1, none⟩ b1).setCell ⟨g, m * 6 + 2, none⟩ b2).setCell ⟨g, m * 6 + 3, none⟩ b3).setCell ⟨g, m * 6 + 4, none⟩ b4).setCell ⟨g, m * 6 + 5, none⟩ b5).ownsRow B T 6 (.slice (some ⟨g, 0, none⟩) (m + 1) c) (m + 1) (cs ++ [b0, b1, b2, b3, b4, b5]) := by
  have := ((((((h.stored (m * 6) b0).1.stored (m * 6 + 1) b1).1.stored (m * 6 + 2) b2).1.stored (m * 6 + 3) b3).1.stored (m * 6 + 4) b4).1.stored (m * 6 + 5) b5).1
  rw [set6_last _ _ _ _ _ _ _ _ _ _ _ _ _ hl] at this
  exact this
theorem set6keptR {X : Nat → Prop} {W W' : World} {g m : Nat} (k : Kept X W W') (hg : g < W.heap.size → X g) (b0 b1 b2 b3 b4 b5 : Value) : Kept X W ((((((W'.setCell ⟨g, m * 6, none⟩ b0).setCell ⟨g, m * 6 + 1, none⟩ b1).setCell ⟨g, m * 6 + 2, none⟩ b2).setCell ⟨g, m * 6 + 3, none⟩ b3).setCell ⟨g, m * 6 + 4, none⟩ b4).setCell ⟨g, m * 6 + 5, none⟩ b5) :=
  (((((k.setCell (p := ⟨g, m * 6, none⟩) hg b0).setCell (p := ⟨g, m * 6 + 1, none⟩) hg b1).setCell (p := ⟨g, m * 6 + 2, none⟩) hg b2).setCell (p := ⟨g, m * 6 + 3, none⟩) hg b3).setCell (p := ⟨g, m * 6 + 4, none⟩) hg b4).setCell (p := ⟨g, m * 6 + 5, none⟩) hg b5
/-- the cells of the last one of a row -/
theorem last6 {W : World} {B : Nat} {T : TypeId} {g m c : Nat} {cs : List Value} {a0 a1 a2 a3 a4 a5 : Value} (h : W.ownsRow B T 6 (.slice (some ⟨g, 0, none⟩) (m + 1) c) (m + 1) (cs ++ [a0, a1, a2, a3, a4, a5])) (hl : cs.length = m * 6) :
    W.cell? ⟨g, m * 6, none⟩ = some a0 ∧ W.cell? ⟨g, m * 6 + 1, none⟩ = some a1 ∧ W.cell? ⟨g, m * 6 + 2, none⟩ = some a2 ∧ W.cell? ⟨g, m * 6 + 3, none⟩ = some a3 ∧ W.cell? ⟨g, m * 6 + 4, none⟩ = some a4 ∧ W.cell? ⟨g, m * 6 + 5, none⟩ = some a5 ∧ (∀ i, W.frozen? ⟨g, i, none⟩ = false) ∧ g < W.heap.size := by
  refine ⟨?_, ?_, ?_, ?_, ?_, ?_, fun i => h.frozenAt i, (h.lt g rfl).2⟩
  · rw [h.cellAt (m * 6) (by omega), List.getElem?_append_right (by omega), hl, Nat.sub_self]; rfl
  · rw [h.cellAt (m * 6 + 1) (by omega), List.getElem?_append_right (by omega), hl, Nat.add_sub_cancel_left]; rfl
  · rw [h.cellAt (m * 6 + 2) (by omega), List.getElem?_append_right (by omega), hl, Nat.add_sub_cancel_left]; rfl
  · rw [h.cellAt (m * 6 + 3) (by omega), List.getElem?_append_right (by omega), hl, Nat.add_sub_cancel_left]; rfl
  · rw [h.cellAt (m * 6 + 4) (by omega), List.getElem?_append_right (by omega), hl, Nat.add_sub_cancel_left]; rfl
  · rw [h.cellAt (m * 6 + 5) (by omega), List.getElem?_append_right (by omega), hl, Nat.add_sub_cancel_left]; rfl
/-- the cells of the last one that is open -/
theorem last3 {W : World} {B : Nat} {T : TypeId} {g m c : Nat} {cs : List Value} {a0 a1 a2 : Value} (h : W.ownsRow B T 3 (.slice (some ⟨g, 0, none⟩) (m + 1) c) (m + 1) (cs ++ [a0, a1, a2])) (hl : cs.length = m * 3) :
    W.cell? ⟨g, m * 3, none⟩ = some a0 ∧ W.cell? ⟨g, m * 3 + 1, none⟩ = some a1 ∧ W.cell? ⟨g, m * 3 + 2, none⟩ = some a2 ∧ (∀ i, W.frozen? ⟨g, i, none⟩ = false) ∧ g < W.heap.size := by
  refine ⟨?_, ?_, ?_, fun i => h.frozenAt i, (h.lt g rfl).2⟩
  · rw [h.cellAt (m * 3) (by omega), List.getElem?_append_right (by omega), hl, Nat.sub_self]; rfl
  · rw [h.cellAt (m * 3 + 1) (by omega), List.getElem?_append_right (by omega), hl, Nat.add_sub_cancel_left]; rfl
  · rw [h.cellAt (m * 3 + 2) (by omega), List.getElem?_append_right (by omega), hl, Nat.add_sub_cancel_left]; rfl
theorem set3row {W : World} {B : Nat} {T : TypeId} {g m c : Nat} {cs : List Value} {a0 a1 a2 : Value} (h : W.ownsRow B T 3 (.slice (some ⟨g, 0, none⟩) (m + 1) c) (m + 1) (cs ++ [a0, a1, a2])) (hl : cs.length = m * 3) (b : Value) :
    (W.setCell ⟨g, m * 3, none⟩ b).ownsRow B T 3 (.slice (some ⟨g, 0, none⟩) (m + 1) c) (m + 1) (cs ++ [b, a1, a2]) ∧ (W.setCell ⟨g, m * 3 + 1, none⟩ b).ownsRow B T 3 (.slice (some ⟨g, 0, none⟩) (m + 1) c) (m + 1) (cs ++ [a0, b, a2]) := by
  have h1 := (h.stored (m * 3) b).1
  have h2 := (h.stored (m * 3 + 1) b).1
  rw [← hl] at h1 h2
  rw [List.set_append_right _ _ (by omega)] at h1 h2
  simp only [Nat.sub_self, Nat.add_sub_cancel_left, List.set_cons_zero, List.set_cons_succ, hl] at h1 h2
  exact ⟨h1, h2⟩
def zero6 : List Value := [.int .u8 0, .slice none 0 0, .int .i64 0, .int .i64 0, .bool false, .slice none 0 0]
/-- what a round hands on -/
def RdNext (B rb : Nat) (s : ByteArray) (i : Nat) (st : List Wy.Op) (W : World) (a' : Act) (w' : World) : Prop := ∃ (l : List Value) (v : Value) (xs : List OpV), a' = ⟨l.toArray, []⟩ ∧ l.length = 177 ∧ l[0]? = some (.string s) ∧ l[2]? = some (.pointer (some ⟨rb, 0, none⟩)) ∧ l[4]? = some v ∧ l[5]? = some (.int .i64 i) ∧
  StkAt 155 70 B w' v st xs ∧ Below B W w'
end Go.Proofs.YtnhjakdmbfadlaaGreatDoor

/- A tree that is built part after part in a field of a node of one's own (bare, Turned). -/
namespace Go.Proofs.YtnhjakdmbfadlaaGreatDoor
open Go.RowKit Wy Mem Grow

/-- the parts made so far; p is the node's block -/
structure BrAt (w0 : World) (M : Nat → Prop) (B p : Nat) (k lo hi : Int) (lazy : Bool) (sv : Value) (w : World) (l : List Nd) (pv : Value) : Prop where
  node : Blk w p #[.int .u8 k, sv, .int .i64 lo, .int .i64 hi, .bool lazy, pv] 27
  row : ∃ cs, w.ownsRow B 27 6 pv l.length cs ∧ NdsAt (fun q => M q ∧ q ≠ p ∧ pv.ownBlock ≠ some q) w l cs
  pB : p < B
  pz : w0.heap.size ≤ p
  below : Below w0.heap.size w0 w
section
variable {w0 w w' : World} {M : Nat → Prop} {B p : Nat} {k lo hi : Int} {lazy : Bool} {sv pv : Value} {l : List Nd}
theorem BrAt.go (h : BrAt w0 M B p k lo hi lazy sv w l pv) (kb : Below w.heap.size w w') : BrAt w0 M B p k lo hi lazy sv w' l pv := by
  obtain ⟨cs, h1, h2⟩ := h.row
  exact ⟨h.node.below kb h.node.lt, ⟨cs, ownGo h1 (Kept.of_below kb (fun _ => False)) (fun _ _ => id), NdsAt.go (Kept.of_below kb (fun _ => False)) (fun q _ hq => ⟨id, hq⟩) h2⟩, h.pB, h.pz, h.below.trans (kb.mono h.below.size)⟩
/-- one more: it was made, appended and stored -/
theorem BrAt.more (h : BrAt w0 M B p k lo hi lazy sv w l pv) {t : Nd} {cs xs : List Value} {pv' : Value} (hr : w.ownsRow B 27 6 pv l.length cs) (hn : NdsAt (fun q => M q ∧ q ≠ p ∧ pv.ownBlock ≠ some q) w l cs) (hx : NdAt (fun q => M q ∧ q ≠ p ∧ pv.ownBlock ≠ some q) w t xs)
    (ho : w'.ownsRow B 27 6 pv' (l.length + 1) (cs ++ xs)) (hg : w.grownBy w' pv.ownBlock) (hv : pv'.ownBlock = pv.ownBlock ∨ pv'.ownBlock = some w.heap.size) :
    BrAt w0 M B p k lo hi lazy sv (w'.setCell ⟨p, 5, none⟩ pv') (l ++ [t]) pv' := by
  have hlt := hr.lt
  have hpz := h.node.lt
  have hpB := h.pB
  have k1 : Kept (fun q => pv.ownBlock = some q) w w' := grownK hg
  have hpp : ¬ (pv.ownBlock = some p) := fun e => by have := hlt p e; omega
  have k2 : Kept (fun q => pv.ownBlock = some q ∨ q = p) w (w'.setCell ⟨p, 5, none⟩ pv') := (k1.mono (fun _ _ e => .inl e)).setCell (p := ⟨p, 5, none⟩) (fun _ => .inr rfl) _
  have hd : ∀ q, q < w.heap.size → (M q ∧ q ≠ p ∧ pv.ownBlock ≠ some q) → ¬ (pv.ownBlock = some q ∨ q = p) ∧ (M q ∧ q ≠ p ∧ pv'.ownBlock ≠ some q) := fun q hq hn =>
    ⟨fun e => e.elim hn.2.2 hn.2.1, hn.1, hn.2.1, fun e => by
      rcases hv with hv | hv
      · exact hn.2.2 (hv ▸ e)
      · rw [hv] at e; simp only [Option.some.injEq] at e; omega⟩
  refine ⟨(h.node.kept k1 hpp).set 5 pv', ⟨cs ++ xs, ?_, NdsAt.append (NdsAt.go k2 hd hn) (NdsAt.one (NdAt.go k2 hd hx))⟩, h.pB, h.pz, ?_⟩
  · rw [List.length_append, List.length_singleton]
    exact ownGo ho ((Kept.refl (fun q => q = p) w').setCell (p := ⟨p, 5, none⟩) (fun _ => rfl) _) (fun g hg e => by have := (ho.lt g hg).1; omega)
  · exact ((Kept.of_below h.below (fun q => pv.ownBlock = some q ∨ q = p)).trans k2).below (fun q hq e => by
      rcases e with e | e
      · have := (hlt q e).1; have := h.pz; omega
      · have := h.pz; omega)
/-- what a region of it holds -/
def brW (w0 : World) (M : Nat → Prop) (B p : Nat) (k lo hi : Int) (lazy : Bool) (sv : Value) (W : World) (l : List Nd) (t : Nd) (pv : Value) : List Value → World → Prop
  | [] => fun w' => w' = W.drew
  | [v3] => fun w' => ∃ (k lo hi : Int) (lz : Bool) (o1 o2 : Option Addr) (n1 c1 n2 c2 : Nat), v3 = .agg (six k lo hi lz o1 o2 n1 c1 n2 c2).toArray ∧ NdAt (fun q => M q ∧ q ≠ p ∧ pv.ownBlock ≠ some q) w' t (six k lo hi lz o1 o2 n1 c1 n2 c2) ∧ Below W.heap.size W w'
  | [v3, v4] => fun w' => ∃ (k lo hi : Int) (lz : Bool) (o1 o2 : Option Addr) (n1 c1 n2 c2 q : Nat), v3 = .agg (six k lo hi lz o1 o2 n1 c1 n2 c2).toArray ∧ v4 = .slice (some ⟨q, 0, none⟩) 1 1 ∧ SrcAt w' (.slice (some ⟨q, 0, none⟩) 1 1) 1 (six k lo hi lz o1 o2 n1 c1 n2 c2) ∧ NdAt (fun q => M q ∧ q ≠ p ∧ pv.ownBlock ≠ some q) w' t (six k lo hi lz o1 o2 n1 c1 n2 c2) ∧ Below W.heap.size W w'
  | [_, _, v5] => fun w' => ∃ o c, v5 = .slice o (l.length + 1) c ∧ BrAt w0 M B p k lo hi lazy sv (w'.setCell ⟨p, 5, none⟩ (.slice o (l.length + 1) c)) (l ++ [t]) (.slice o (l.length + 1) c) ∧ Kept (fun q => pv.ownBlock = some q) W w'
  | [_, _, _, _] => fun w' => ∃ o c, BrAt w0 M B p k lo hi lazy sv w' (l ++ [t]) (.slice o (l.length + 1) c) ∧ Kept (fun q => pv.ownBlock = some q ∨ q = p) W w'
  | _ => fun _ => False
end
end Go.Proofs.YtnhjakdmbfadlaaGreatDoor
