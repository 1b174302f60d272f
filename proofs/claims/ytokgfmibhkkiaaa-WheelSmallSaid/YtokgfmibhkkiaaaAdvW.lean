/- (*Wheel).Advance -/
import Derived.Test.YtokgfmibhkkiaaaList
import Derived.Deep.RegionHeld3
import Derived.Deep.DeepCutAuto
namespace Go.Proofs.Ytokgfmibhkkiaaa
open Go.RowKit Wh Mem Go.Maps

def advM (a b : Int) (m : Mb) : Mb := setP m (adv m.plan m.phase a b).1
def repM (a b : Int) (m : Mb) : Report := (adv m.plan m.phase a b).2
/-- the moves of members, in their order -/
def moves (a b : Int) (l : List Mb) : List (Int × Report) := (l.filter fun m => decide (Loud (repM a b m))).map fun m => (m.id, repM a b m)
def mvCells (x : Int × Report) : List Value := [.int .i64 x.1, .int .i64 x.2.begun, .int .i64 x.2.failed, .int .i64 x.2.skipped]
theorem moves_snoc (a b : Int) (l : List Mb) (k : Nat) (h : k < l.length) : moves a b (l.take (k + 1)) = moves a b (l.take k) ++ if Loud (repM a b l[k]) then [(l[k].id, repM a b l[k])] else [] := by
  unfold moves
  rw [List.take_succ_eq_append_getElem h, List.filter_append, List.map_append]
  congr 1
  simp only [List.filter_cons, List.filter_nil, decide_eq_true_eq]
  split <;> rfl
theorem moves_le (a b : Int) (l : List Mb) : (moves a b l).length ≤ l.length := by
  unfold moves; rw [List.length_map]; exact List.length_filter_le _ _
theorem sel_all (l : List Mb) : sel tAll l = l.map (·.id) := by
  unfold sel tAll
  rw [List.filter_eq_self.2 (fun _ _ => rfl)]

theorem info45 : (Try.prog.info? 45).map (fun i => (i.zero, i.size, i.bytes)) = some (some (.agg #[.int .i64 0, .int .i64 0, .int .i64 0, .int .i64 0]), 4, 32) := by kernel_rfl

/-- what is not right is rejected -/
theorem advW_arg {w : World} {pb mb : Nat} {now : Int} {l : List Mb} (h : WheelAt w pb mb now l) (tt : Int) (ht : tt < 0 ∨ 281474976710656 < tt) :
    Calls Try.prog 14 #[.pointer (some ⟨pb, 0, none⟩), .int .i64 tt] w fun e w' => e = .returned (.tuple #[.slice none 0 0, .int .i64 2]) ∧ w = w' := by
  have hi := isw_yes h.head
  have HI := Lib.hid hi
  clear hi h
  rcases ht with ht | ht
  all_goals
    go_enter Try.func14, Try.ntmps14
    go_wp2_with (first | (go_at_call 36; refine (HI.out).mono ?_; rintro e w1 ⟨rfl, rfl⟩))
    go_ret2
    exact ⟨rfl, rfl⟩
theorem advW_back {w : World} {pb mb : Nat} {now : Int} {l : List Mb} (h : WheelAt w pb mb now l) (tt : Int) (h0 : 0 ≤ tt) (h1 : tt ≤ 281474976710656) (ht : tt < now) :
    Calls Try.prog 14 #[.pointer (some ⟨pb, 0, none⟩), .int .i64 tt] w fun e w' => e = .returned (.tuple #[.slice none 0 0, .int .i64 292]) ∧ w = w' := by
  obtain ⟨g0, g1, g2, _⟩ := h.head.three
  have hi := isw_yes h.head
  have HI := Lib.hid hi
  clear hi h
  go_enter Try.func14, Try.ntmps14
  go_wp2_with (first | (go_at_call 36; refine (HI.out).mono ?_; rintro e w1 ⟨rfl, rfl⟩))
  go_ret2
  exact ⟨rfl, rfl⟩

theorem bcellA {W w1 : World} (hb : Below W.heap.size W w1) : (∀ O b o, b < W.heap.size → (w1.alloc O).cell? ⟨b, o, none⟩ = W.cell? ⟨b, o, none⟩) ∧ (∀ O b o, b < W.heap.size → (w1.alloc O).frozen? ⟨b, o, none⟩ = W.frozen? ⟨b, o, none⟩) :=
  ⟨fun O b o h => (hb.alloc hb.size O).cell (p := ⟨b, o, none⟩) h, fun O b o h => (hb.alloc hb.size O).frozen (p := ⟨b, o, none⟩) h⟩
theorem cut5 {wr W : World} {b1 b2 : Nat} {u0 u1 v0 v1 v2 x0 x1 y0 y1 y2 : Value} (h1 : Blk W b1 #[u0, u1] 59) (h2 : Blk W b2 #[v0, v1, v2] 43) (ne : b1 ≠ b2)
    (hB : Below wr.heap.size wr (((((W.setCell ⟨b1, 0, none⟩ x0).setCell ⟨b1, 1, none⟩ x1).setCell ⟨b2, 0, none⟩ y0).setCell ⟨b2, 1, none⟩ y1).setCell ⟨b2, 2, none⟩ y2)) (s1 : wr.heap.size ≤ b1) (s2 : wr.heap.size ≤ b2) :
    (((((W.setCell ⟨b1, 0, none⟩ x0).setCell ⟨b1, 1, none⟩ x1).setCell ⟨b2, 0, none⟩ y0).setCell ⟨b2, 1, none⟩ y1).setCell ⟨b2, 2, none⟩ y2).cell? ⟨b1, 0, none⟩ = some x0 ∧
    (((((W.setCell ⟨b1, 0, none⟩ x0).setCell ⟨b1, 1, none⟩ x1).setCell ⟨b2, 0, none⟩ y0).setCell ⟨b2, 1, none⟩ y1).setCell ⟨b2, 2, none⟩ y2).cell? ⟨b1, 1, none⟩ = some x1 ∧
    (((((W.setCell ⟨b1, 0, none⟩ x0).setCell ⟨b1, 1, none⟩ x1).setCell ⟨b2, 0, none⟩ y0).setCell ⟨b2, 1, none⟩ y1).setCell ⟨b2, 2, none⟩ y2).cell? ⟨b2, 0, none⟩ = some y0 ∧
    (((((W.setCell ⟨b1, 0, none⟩ x0).setCell ⟨b1, 1, none⟩ x1).setCell ⟨b2, 0, none⟩ y0).setCell ⟨b2, 1, none⟩ y1).setCell ⟨b2, 2, none⟩ y2).cell? ⟨b2, 1, none⟩ = some y1 ∧
    (((((W.setCell ⟨b1, 0, none⟩ x0).setCell ⟨b1, 1, none⟩ x1).setCell ⟨b2, 0, none⟩ y0).setCell ⟨b2, 1, none⟩ y1).setCell ⟨b2, 2, none⟩ y2).cell? ⟨b2, 2, none⟩ = some y2 ∧
    Below wr.heap.size wr (((((W.setCell ⟨b1, 0, none⟩ x0).setCell ⟨b1, 1, none⟩ x1).setCell ⟨b2, 0, none⟩ y0).setCell ⟨b2, 1, none⟩ y1).setCell ⟨b2, 2, none⟩ y2) ∧ wr.heap.size ≤ b1 ∧ wr.heap.size ≤ b2 := by
  have k1 := (((((h1.set 0 x0).set 1 x1).setOther (p := ⟨b2, 0, none⟩) ne y0).setOther (p := ⟨b2, 1, none⟩) ne y1).setOther (p := ⟨b2, 2, none⟩) ne y2).two
  have k2 := (((((h2.setOther (p := ⟨b1, 0, none⟩) ne.symm x0).setOther (p := ⟨b1, 1, none⟩) ne.symm x1).set 0 y0).set 1 y1).set 2 y2).three
  exact ⟨k1.1, k1.2.1, k2.1, k2.2.1, k2.2.2.1, hB, s1, s2⟩
theorem cut3 {wr W : World} {b1 b2 : Nat} {x0 x1 v0 v1 v2 y0 y1 y2 : Value} (h1 : Blk W b1 #[x0, x1] 59) (h2 : Blk W b2 #[v0, v1, v2] 43) (ne : b1 ≠ b2)
    (hB : Below wr.heap.size wr (((W.setCell ⟨b2, 0, none⟩ y0).setCell ⟨b2, 1, none⟩ y1).setCell ⟨b2, 2, none⟩ y2)) (s1 : wr.heap.size ≤ b1) (s2 : wr.heap.size ≤ b2) :
    (((W.setCell ⟨b2, 0, none⟩ y0).setCell ⟨b2, 1, none⟩ y1).setCell ⟨b2, 2, none⟩ y2).cell? ⟨b1, 0, none⟩ = some x0 ∧
    (((W.setCell ⟨b2, 0, none⟩ y0).setCell ⟨b2, 1, none⟩ y1).setCell ⟨b2, 2, none⟩ y2).cell? ⟨b1, 1, none⟩ = some x1 ∧
    (((W.setCell ⟨b2, 0, none⟩ y0).setCell ⟨b2, 1, none⟩ y1).setCell ⟨b2, 2, none⟩ y2).cell? ⟨b2, 0, none⟩ = some y0 ∧
    (((W.setCell ⟨b2, 0, none⟩ y0).setCell ⟨b2, 1, none⟩ y1).setCell ⟨b2, 2, none⟩ y2).cell? ⟨b2, 1, none⟩ = some y1 ∧
    (((W.setCell ⟨b2, 0, none⟩ y0).setCell ⟨b2, 1, none⟩ y1).setCell ⟨b2, 2, none⟩ y2).cell? ⟨b2, 2, none⟩ = some y2 ∧
    Below wr.heap.size wr (((W.setCell ⟨b2, 0, none⟩ y0).setCell ⟨b2, 1, none⟩ y1).setCell ⟨b2, 2, none⟩ y2) ∧ wr.heap.size ≤ b1 ∧ wr.heap.size ≤ b2 := by
  have k1 := (((h1.setOther (p := ⟨b2, 0, none⟩) ne y0).setOther (p := ⟨b2, 1, none⟩) ne y1).setOther (p := ⟨b2, 2, none⟩) ne y2).two
  have k2 := (((h2.set 0 y0).set 1 y1).set 2 y2).three
  exact ⟨k1.1, k1.2.1, k2.1, k2.2.1, k2.2.2.1, hB, s1, s2⟩
theorem kept_then {X : Nat → Prop} {a b c : World} (h : Kept X a b) (k : Below a.heap.size b c) : Kept X a c :=
  ⟨k.os.trans h.os, k.tape.trans h.tape, k.output.trans h.output, Nat.le_trans h.size k.size, fun i hi hx => (k.block i hi).trans (h.block i hi hx)⟩
theorem kept_to {B : Nat} {a b : World} (h : Below B a b) : Kept (fun i => B ≤ i) a b := ⟨h.os, h.tape, h.output, h.size, fun i _ hx => h.block i (Nat.lt_of_not_le hx)⟩
theorem own_at {w w' : World} {base : Nat} {e : TypeId} {size : Nat} {v : Value} {n : Nat} {xs : List Value} (h : w.ownsRow base e size v n xs) (hk : ∀ g, base ≤ g → g < w.heap.size → w'.heap[g]? = w.heap[g]?) : w'.ownsRow base e size v n xs := by
  refine ⟨h.1, ?_⟩
  rcases h.2 with hn | ⟨g, cap, cur, rfl, hb, hg, rest⟩
  · exact .inl hn
  · exact .inr ⟨g, cap, cur, rfl, hb, (hk g hb (Array.getElem?_eq_some_iff.1 hg).1).trans hg, rest⟩
/-- how far the walk has come -/
structure AdvR (w2 : World) (now tt : Int) (l : List Mb) (k : Nat) (v : Value) (wr : World) : Prop where
  own : wr.ownsRow w2.heap.size 45 4 v (moves now tt (l.take k)).length ((moves now tt (l.take k)).flatMap mvCells)
  kept : Kept (fun b => ∃ m ∈ l, m.blk = b) w2 wr
  done : ∀ j (hj : j < l.length), j < k → Blk wr l[j].blk (mcells (advM now tt l[j])) 83
  left : ∀ j (hj : j < l.length), k ≤ j → Blk wr l[j].blk (mcells l[j]) 83
theorem ap_ne {l : List Mb} (ap : l.Pairwise (fun a b => a.blk ≠ b.blk)) {i j : Nat} (hi : i < l.length) (hj : j < l.length) (h : i ≠ j) : l[i].blk ≠ l[j].blk := by
  rw [List.pairwise_iff_getElem] at ap
  rcases Nat.lt_or_gt_of_ne h with h | h
  · exact ap i j hi hj h
  · exact (ap j i hj hi h).symm
theorem AdvR.put {w2 : World} {now tt : Int} {l : List Mb} {k : Nat} {v : Value} {wr wx : World} (h : AdvR w2 now tt l k v wr) (hml : ∀ m ∈ l, m.blk < w2.heap.size) (hlt : k < l.length) (ap : l.Pairwise (fun a b => a.blk ≠ b.blk))
    {m : Mb} (hm : m = l[k]) {ph : Phase} (hph : advM now tt m = setP m ph) (hbx : Below wr.heap.size wr wx) :
    ((wx.setCell ⟨m.blk, 3, none⟩ (.int .u8 ph.state)).setCell ⟨m.blk, 4, none⟩ (.int .i64 ph.since)).ownsRow w2.heap.size 45 4 v (moves now tt (l.take k)).length ((moves now tt (l.take k)).flatMap mvCells) ∧
    Kept (fun b => ∃ m ∈ l, m.blk = b) w2 ((wx.setCell ⟨m.blk, 3, none⟩ (.int .u8 ph.state)).setCell ⟨m.blk, 4, none⟩ (.int .i64 ph.since)) ∧
    (∀ j (hj : j < l.length), j < k + 1 → Blk ((wx.setCell ⟨m.blk, 3, none⟩ (.int .u8 ph.state)).setCell ⟨m.blk, 4, none⟩ (.int .i64 ph.since)) l[j].blk (mcells (advM now tt l[j])) 83) ∧
    (∀ j (hj : j < l.length), k + 1 ≤ j → Blk ((wx.setCell ⟨m.blk, 3, none⟩ (.int .u8 ph.state)).setCell ⟨m.blk, 4, none⟩ (.int .i64 ph.since)) l[j].blk (mcells l[j]) 83) := by
  subst hm
  have hl := hml _ (List.getElem_mem hlt)
  have hz := h.kept.size
  refine ⟨own_at h.own fun g h1 h2 => ?_, ?_, fun j hj hjk => ?_, fun j hj hjk => ?_⟩
  · rw [Below.heap_setCell _ _ _ _ (show g ≠ l[k].blk by omega), Below.heap_setCell _ _ _ _ (show g ≠ l[k].blk by omega)]
    exact hbx.block g h2
  · exact ((kept_then h.kept (hbx.mono hz)).setCell (fun _ => ⟨_, List.getElem_mem hlt, rfl⟩) _).setCell (fun _ => ⟨_, List.getElem_mem hlt, rfl⟩) _
  · by_cases e : j = k
    · subst e
      have := (((h.left j hj (Nat.le_refl _)).below hbx (h.left j hj (Nat.le_refl _)).lt).set 3 (.int .u8 ph.state)).set 4 (.int .i64 ph.since)
      rw [hph]
      exact this
    · have := (h.done j hj (by omega)).below hbx (h.done j hj (by omega)).lt
      exact (this.setOther (ap_ne ap hj hlt e) _).setOther (ap_ne ap hj hlt e) _
  · have := (h.left j hj (by omega)).below hbx (h.left j hj (by omega)).lt
    exact (this.setOther (ap_ne ap hj hlt (by omega)) _).setOther (ap_ne ap hj hlt (by omega)) _
theorem AdvR.more {w2 W w4 : World} {now tt : Int} {l : List Mb} {k n : Nat} {v v' : Value} {xs : List Value} {O : Obj} (hml : ∀ m ∈ l, m.blk < w2.heap.size)
    (ho : W.ownsRow w2.heap.size 45 4 v n xs) (hs : w2.heap.size ≤ W.heap.size) (hk : Kept (fun b => ∃ m ∈ l, m.blk = b) w2 W)
    (hd : ∀ j (hj : j < l.length), j < k + 1 → Blk W l[j].blk (mcells (advM now tt l[j])) 83) (hl : ∀ j (hj : j < l.length), k + 1 ≤ j → Blk W l[j].blk (mcells l[j]) 83)
    (hg : (W.alloc O).grownBy w4 v.ownBlock) (ho' : w4.ownsRow w2.heap.size 45 4 v' (moves now tt (l.take (k + 1))).length ((moves now tt (l.take (k + 1))).flatMap mvCells)) : AdvR w2 now tt l (k + 1) v' w4 := by
  have hb : Below w2.heap.size W w4 := ((Below.refl _ _).alloc hs _).grown hg (by simp; omega) (fun q hq => (ho.lt q hq).1)
  refine ⟨ho', hk.trans' (kept_to hb) (fun i hi h => absurd hi (Nat.not_lt.2 h)), fun j hj h => (hd j hj h).below hb (hml _ (List.getElem_mem hj)), fun j hj h => (hl j hj h).below hb (hml _ (List.getElem_mem hj))⟩
theorem AdvR.end_ {w w2 : World} {pb mb : Nat} {now tt : Int} {l : List Mb} (h : WheelAt w pb mb now l) (hb2 : Below w.heap.size w w2) {v : Value} {wr : World} (r : AdvR w2 now tt l l.length v wr) (h0 : 0 ≤ tt) (h1 : tt ≤ 281474976710656) (ht : now ≤ tt) :
    (wr.setCell ⟨pb, 1, none⟩ (.int .i64 tt)).ownsRow w.heap.size 45 4 v (moves now tt l).length ((moves now tt l).flatMap mvCells) ∧ WheelAt (wr.setCell ⟨pb, 1, none⟩ (.int .i64 tt)) pb mb tt (l.map (advM now tt)) ∧ Kept (fun k => k = pb ∨ ∃ m ∈ l, m.blk = k) w (wr.setCell ⟨pb, 1, none⟩ (.int .i64 tt)) := by
  have hpb := h.head.lt
  have hpbx : ¬ ∃ m ∈ l, m.blk = pb := fun ⟨m, hm, e⟩ => (h.mem_ne hm).1 e
  have hmbx : ¬ ∃ m ∈ l, m.blk = mb := fun ⟨m, hm, e⟩ => (h.mem_ne hm).2 e
  have hz := hb2.size
  have hH := h.below hb2
  refine ⟨?_, ⟨(hH.head.kept r.kept hpbx).set 1 _, ?_, ?_, ?_, ?_, ?_, ?_⟩, ?_⟩
  · have := r.own
    rw [List.take_length] at this
    exact ownsRow_base_a (own_at this fun g h2 h3 => by rw [Below.heap_setCell _ _ _ _ (show g ≠ pb by omega)]) hz
  · have := map_kept (hH.map) r.kept hmbx
    have e : memD (l.map (advM now tt)) = memD l := by unfold memD; rw [List.map_map]; rfl
    rw [e, List.length_map]
    exact map_kept this (Kept.setCell (X := fun k => k = pb) (Kept.refl _ _) (fun _ => rfl) _) h.pb_ne_mb.symm
  · intro m hm
    obtain ⟨x, hx, rfl⟩ := List.mem_map.1 hm
    obtain ⟨j, hj, rfl⟩ := List.getElem_of_mem hx
    exact (r.done j hj hj).setOther (p := ⟨pb, 1, none⟩) (h.mem_ne hx).1 _
  · have := h.ids
    unfold Ids at this ⊢
    rw [List.pairwise_map]
    exact this
  · intro m hm
    obtain ⟨x, hx, rfl⟩ := List.mem_map.1 hm
    exact h.range x hx
  · intro m hm
    obtain ⟨x, hx, rfl⟩ := List.mem_map.1 hm
    exact adv_fits (h.fits x hx) ht ⟨h0, h1⟩
  · rw [List.pairwise_map]
    exact h.apart
  · exact ((Kept.of_below hb2 _).trans' (r.kept) (fun i _ hi => .inr hi)).setCell (fun _ => .inl rfl) _
theorem keepS {wr w' : World} (h : Below wr.heap.size wr w') : Below wr.heap.size wr w' ∧ wr.heap.size ≤ w'.heap.size ∧ (∀ b o, b < wr.heap.size → w'.cell? ⟨b, o, none⟩ = wr.cell? ⟨b, o, none⟩) := ⟨h, h.size, (bcell h).1⟩
set_option maxHeartbeats 4000000 in
set_option maxRecDepth 100000 in
theorem advW_ok {w : World} {pb mb : Nat} {now : Int} {l : List Mb} (h : WheelAt w pb mb now l) (tt : Int) (h0 : 0 ≤ tt) (h1 : tt ≤ 281474976710656) (ht : now ≤ tt) (hlen : l.length ≤ 1000000) :
    Calls Try.prog 14 #[.pointer (some ⟨pb, 0, none⟩), .int .i64 tt] w fun e w' => ∃ v, e = .returned (.tuple #[v, .int .i64 0]) ∧
      w'.ownsRow w.heap.size 45 4 v (moves now tt l).length ((moves now tt l).flatMap mvCells) ∧ WheelAt w' pb mb tt (l.map (advM now tt)) ∧ Kept (fun k => k = pb ∨ ∃ m ∈ l, m.blk = k) w w' := by
  obtain ⟨g0, g1, g2, _⟩ := h.head.three
  have hi := isw_yes h.head
  have hall := all_any h hlen
  have HI := Lib.hid hi
  have HA := Lib.hid hall
  have H := Lib.hid h
  have hpb := h.head.lt
  obtain ⟨i0, hi0, hz0, hz1, hz2⟩ := info_parts info45
  clear hi hall h
  go_enter Try.func14, Try.ntmps14
  go_wp2_with fail
  refine (HI.out).mono ?_
  rintro e w1 ⟨rfl, rfl⟩
  go_wp2_with fail
  refine (HA.out).mono ?_
  rintro e w2 ⟨v, rfl, hrow, hb2⟩
  rw [sel_all, List.length_map] at hrow
  have H2 := H.out.below hb2
  obtain ⟨q0, q1, q2, q3, q4, q5⟩ := H2.head.three
  have HX := Lib.hid H2
  clear H2
  rcases slice_form hrow with ⟨rfl, hl0, -⟩ | ⟨gb, cap, rfl, hgb, hgl⟩
  · obtain rfl : l = [] := List.eq_nil_of_length_eq_zero hl0
    go_wp2
    go_rounds 1
    all_goals go_wp2
    go_ret2
    refine ⟨_, rfl, World.ownsRow_nil _ _ _ _, ⟨HX.out.head.set 1 _, ?_, by simp, by simp [Ids], by simp, by simp, by simp⟩, ?_⟩
    · exact map_kept HX.out.map (Kept.setCell (X := fun k => k = pb) (Kept.refl _ _) (fun _ => rfl) _) HX.out.pb_ne_mb.symm
    · exact (Kept.of_below hb2 _).setCell (fun _ => .inl rfl) _
  · have hcell : ∀ j (hj : j < l.length), w2.cell? ⟨gb, j, none⟩ = some (.int .i64 l[j].id) := by
      intro j hj
      rw [hrow.cellAt j (by omega)]
      simp [hj]
    have HC := Lib.hid hcell
    have hmlt : ∀ m ∈ l, m.blk < w.heap.size := fun m hm => (H.out.mem m hm).lt
    have HL := Lib.hid hmlt
    have hsz2 := hb2.size
    clear hcell hrow hmlt
    go_wp2
    go_loopw [6, 34] (fun v i wr => ∃ k : Nat, k ≤ l.length ∧ i = .int .i64 k ∧ AdvR w2 now tt l k v wr) (fun _ i _ => l.length - (intOf i).toNat)
    case atStart => exact ⟨0, Nat.zero_le _, rfl, by simpa [moves] using World.ownsRow_nil _ _ _ _, Kept.refl _ _, fun j hj hlt => by omega, fun j hj _ => HX.out.mem _ (List.getElem_mem hj)⟩
    case round =>
      obtain ⟨k, hk, rfl, har⟩ := hrel
      obtain ⟨hown, hkr, hdone, hleft⟩ := id har
      have HAR := Lib.hid har
      clear har
      have HD := Lib.hid hdone
      have HLf := Lib.hid hleft
      clear hdone hleft
      have hzr := hkr.size
      have hpbx : ¬ ∃ m ∈ l, m.blk = pb := fun ⟨m, hm, e⟩ => (H.out.mem_ne hm).1 e
      have hmbx : ¬ ∃ m ∈ l, m.blk = mb := fun ⟨m, hm, e⟩ => (H.out.mem_ne hm).2 e
      have hhead := HX.out.head.kept hkr hpbx
      by_cases hlt : k < l.length
      · have hmapr := map_kept HX.out.map hkr hmbx
        have hcx : wr.cell? ⟨gb, k, none⟩ = some (.int .i64 l[k].id) := by
          rw [← HC.out k hlt]
          exact World.cell?_of_block (hkr.block gb hgl (fun ⟨m, hm, e⟩ => by have := HL.out m hm; omega))
        have hml : l[k] ∈ l := List.getElem_mem hlt
        have hlook := look_some hmapr (wf_id (H.out.range _ hml)) (findM_at H.out.ids hml)
        have hsn := moves_snoc now tt l k hlt
        have hle := moves_le now tt (l.take k)
        rw [List.length_take] at hle
        have hmb := HLf.out k hlt (Nat.le_refl _)
        have ca := fun W => adv_any l[k].plan l[k].phase now tt W (H.out.fits _ hml) ⟨h0, h1⟩ ht
        have hph : advM now tt l[k] = setP l[k] (adv l[k].plan l[k].phase now tt).1 := rfl
        have hre : repM now tt l[k] = (adv l[k].plan l[k].phase now tt).2 := rfl
        have hlk := HL.out _ hml
        generalize (adv l[k].plan l[k].phase now tt).1 = ph at ca hph
        generalize (adv l[k].plan l[k].phase now tt).2 = re at ca hre
        rw [hre] at hsn
        obtain ⟨m, hm⟩ : ∃ m, m = l[k] := ⟨_, rfl⟩
        rw [← hm] at ca hph hsn hmb hlook hcx hml hlk
        have HM := Lib.hid hm
        have HPH := Lib.hid hph
        have HSN := Lib.hid hsn
        have HB := Lib.hid hmb
        have HMAP := Lib.hid hmapr
        have HHead := Lib.hid hhead
        have CA := Lib.hid ca
        obtain ⟨c0, c1, c2, c3, c4, f0, f1, f2, f3, f4⟩ := hmb.five
        obtain ⟨p0, p1, p2, p3, p4, p5⟩ := hhead.three
        have hmr := hmb.lt
        have hpr := hhead.lt
        have n1 := Nat.ne_of_gt hmr
        have n2 := Nat.ne_of_gt hpr
        clear hm hph hsn hmapr ca hre hpbx hmbx hmb hhead
        go_upto_region 12 with (fail)
        go_cut [10, 11, 12] (fun s10 s11 s12 wx => ∃ b1 b2 : Nat, s10 = .pointer (some ⟨b1, 0, none⟩) ∧ s11 = .pointer (some ⟨b2, 0, none⟩) ∧ s12 = .int .i64 0 ∧ wx.cell? ⟨b1, 0, none⟩ = some (.int .u8 ph.state) ∧ wx.cell? ⟨b1, 1, none⟩ = some (.int .i64 ph.since) ∧ wx.cell? ⟨b2, 0, none⟩ = some (.int .i64 re.begun) ∧ wx.cell? ⟨b2, 1, none⟩ = some (.int .i64 re.failed) ∧ wx.cell? ⟨b2, 2, none⟩ = some (.int .i64 re.skipped) ∧ Below wr.heap.size wr wx ∧ wr.heap.size ≤ b1 ∧ wr.heap.size ≤ b2)
        case first =>
          go_region_held3 (fun w' => Below wr.heap.size wr w' ∧ wr.heap.size ≤ w'.heap.size ∧ (∀ b o, b < wr.heap.size → w'.cell? ⟨b, o, none⟩ = wr.cell? ⟨b, o, none⟩))
            ((refine keepS ?_; go_grown; done))
            (first | (go_at_call 38; refine (CA.out _).mono ?_; rintro e w' ⟨rfl, hb⟩; have hbw : Below wr.heap.size wr w' := Below.trans (b := _) (by go_grown) (Below.mono hb (by go_size)); have hzw := hbw.size; obtain ⟨hcX, hfX⟩ := bcell hb; obtain ⟨hcA, hfA⟩ := bcellA hb; try have hne : wr.heap.size ≠ w'.heap.size := by (have := hb.size; simp at this; omega)))
          all_goals
            go_wp2_with fail
            go_meet
          · refine ⟨_, _, rfl, rfl, rfl, ?_, ?_, ?_, ?_, ?_, ?_, ?_, ?_⟩ <;> first | (simp [*]; done) | (go_grown; done) | omega
          · refine ⟨_, _, rfl, rfl, rfl, ?_, ?_, ?_, ?_, ?_, ?_, ?_, ?_⟩ <;> first | (simp [*]; done) | (go_grown; done) | omega
          · have H1 := (Blk.below (Blk.new wr #[.int .u8 0, .int .i64 0] 59).drew hb (by simp)).alloc (.cells #[.int .i64 0, .int .i64 0, .int .i64 0] 43)
            have H2 := Blk.new w' #[.int .i64 0, .int .i64 0, .int .i64 0] 43
            exact ⟨_, _, rfl, rfl, rfl, cut5 H1 H2 (hne) (by go_grown) (by omega) (by omega)⟩
          · have H1 := Blk.below ((Blk.new wr #[.int .u8 0, .int .i64 0] 59).alloc (.cells #[.int .i64 0, .int .i64 0, .int .i64 0] 43)).drew hb (by simp; omega)
            have H2 := Blk.below (Blk.new' (w := wr.alloc (.cells #[.int .u8 0, .int .i64 0] 59)) (b := wr.heap.size + 1) #[.int .i64 0, .int .i64 0, .int .i64 0] 43 (by simp)).drew hb (by simp)
            exact ⟨_, _, rfl, rfl, rfl, cut5 H1 H2 (by omega) (by go_grown) (by omega) (by omega)⟩
          · have H2 := (Blk.below (Blk.new wr #[.int .i64 0, .int .i64 0, .int .i64 0] 43).drew hb (by simp)).alloc (.cells #[.int .u8 ph.state, .int .i64 ph.since] 59)
            have H1 := Blk.new w' #[.int .u8 ph.state, .int .i64 ph.since] 59
            exact ⟨_, _, rfl, rfl, rfl, cut3 H1 H2 hne.symm (by go_grown) (by omega) (by omega)⟩
          · have H2 := Blk.below ((Blk.new wr #[.int .i64 0, .int .i64 0, .int .i64 0] 43).alloc (.cells #[.int .u8 0, .int .i64 0] 59)).drew hb (by simp; omega)
            have H1 := Blk.below (Blk.new' (w := wr.alloc (.cells #[.int .i64 0, .int .i64 0, .int .i64 0] 43)) (b := wr.heap.size + 1) #[.int .u8 0, .int .i64 0] 59 (by simp)).drew hb (by simp)
            exact ⟨_, _, rfl, rfl, rfl, cut5 H1 H2 (by omega) (by go_grown) (by omega) (by omega)⟩
        case rest =>
          obtain ⟨b1, b2, rfl, rfl, rfl, x0, x1, y0, y1, y2, hbx, hs1, hs2⟩ := hcut
          have hbk := HB.out.below hbx hmr
          obtain ⟨c0, c1, c2, c3, c4, f0, f1, f2, f3, f4⟩ := hbk.five
          have hmlb : ∀ m ∈ l, m.blk < w2.heap.size := fun m hm => by have := HL.out m hm; omega
          have hput := HAR.out.put hmlb hlt H.out.apart HM.out HPH.out hbx
          have HP := Lib.hid hput
          have n3 : m.blk ≠ b2 := by omega
          have n4 : m.blk ≠ b1 := by omega
          have n5 := n3.symm
          have n6 := n4.symm
          have hmx := hbk.lt
          clear hput hbk hmlb
          by_cases hld : Loud re
          · have hsn := HSN.out
            rw [if_pos hld] at hsn
            have HSN := Lib.hid hsn
            clear hsn
            have l0 : 0 ≤ re.begun ∨ ¬ 0 ≤ re.begun ∧ 0 ≤ re.failed ∨ ¬ 0 ≤ re.begun ∧ ¬ 0 ≤ re.failed ∧ 0 < re.skipped := by
              unfold Loud at hld; omega
            have hnews : ∀ j u, (mvCells (m.id, re))[j]? = some u → (((wc.setCell ⟨m.blk, 3, none⟩ (.int .u8 ph.state)).setCell ⟨m.blk, 4, none⟩ (.int .i64 ph.since)).alloc (.cells #[.int .i64 m.id, .int .i64 re.begun, .int .i64 re.failed, .int .i64 re.skipped] 45)).cell? ((⟨wc.heap.size, 0, none⟩ : Addr).add j) = some u :=
              World.news_of_block (Blk.new' (w := (wc.setCell ⟨m.blk, 3, none⟩ (.int .u8 ph.state)).setCell ⟨m.blk, 4, none⟩ (.int .i64 ph.since)) #[.int .i64 m.id, .int .i64 re.begun, .int .i64 re.failed, .int .i64 re.skipped] 45 (by simp))
            have hone : ∀ u ∈ mvCells (m.id, re), u.oneCell' = true := by simp [mvCells, Value.oneCell']
            have hmax : (moves now tt (l.take k)).length + 1 ≤ maxLen := by unfold maxLen; omega
            have hbyt : ((moves now tt (l.take k)).length + 1) * 32 ≤ 140737488355328 := by omega
            have hbase : w2.heap.size ≤ (((wc.setCell ⟨m.blk, 3, none⟩ (.int .u8 ph.state)).setCell ⟨m.blk, 4, none⟩ (.int .i64 ph.since)).alloc (.cells #[.int .i64 m.id, .int .i64 re.begun, .int .i64 re.failed, .int .i64 re.skipped] 45)).heap.size := by
              have := hbx.size; simp; omega
            rcases l0 with l0 | ⟨l0, l1⟩ | ⟨l0, l1, l2⟩
            all_goals
              go_wp2_with (first
                | (at_builtin; refine wpList_append_own _ rfl _ _ 32 rfl w2.heap.size 45 i0 (.agg #[.int .i64 0, .int .i64 0, .int .i64 0, .int .i64 0]) 4 32 Try.underlying32 hi0 hz0 hz1 hz2 rfl (by decide) _ _ _ rfl (HP.out.1.alloc _) _ 1 1 (mvCells (m.id, re)) rfl rfl hnews hone hmax hbyt hbase ?_; intro v' w4 hown' hgrow _))
              go_roundw
              case rel => exact ⟨k + 1, by omega, by go_num, AdvR.more (fun m hm => by have := HL.out m hm; omega) HP.out.1 (by have := hbx.size; simp; omega) HP.out.2.1 HP.out.2.2.1 HP.out.2.2.2 hgrow (by rw [HSN.out]; simpa using hown')⟩
              case measure => simp [intOf]; omega
          · have hsn := HSN.out
            rw [if_neg hld, List.append_nil] at hsn
            have HSN := Lib.hid hsn
            clear hsn
            have l0 : ¬ 0 ≤ re.begun := fun h => hld (.inl h)
            have l1 : ¬ 0 ≤ re.failed := fun h => hld (.inr (.inl h))
            have l2 : ¬ 0 < re.skipped := fun h => hld (.inr (.inr h))
            go_wp2
            go_roundw
            case rel => exact ⟨k + 1, by omega, by go_num, ⟨by rw [HSN.out]; exact HP.out.1, HP.out.2.1, HP.out.2.2.1, HP.out.2.2.2⟩⟩
            case measure => simp [intOf]; omega
      · obtain rfl : k = l.length := by omega
        obtain ⟨p0, p1, p2, p3, p4, p5⟩ := hhead.three
        have hpr := hhead.lt
        go_wp2
        go_ret2
        exact ⟨_, rfl, AdvR.end_ H.out hb2 HAR.out h0 h1 ht⟩
end Go.Proofs.Ytokgfmibhkkiaaa
