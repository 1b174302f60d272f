/- Parts of the proof: Lk, Rg. Conditions: none. -/
import Derived.Test.YtnhjakdmbfadlaaGreatDoorL10
import Derived.Test.YtnhjakdmbfadlaaGreatDoorL03
import Derived.Test.YtnhjakdmbfadlaaGreatDoorL02
import Derived.Test.YtnhjakdmbfadlaaGreatDoorL12
import Derived.Deep.DeepCutAuto
import Derived.Deep.CutRange
import Derived.Laws.EntriesVeiled
import Derived.Test.YtnhjakdmbfadlaaGreatDoorL04
set_option linter.all false
/- What a tree says of itself. -/
namespace Go.Proofs.YtnhjakdmbfadlaaGreatDoor
open Go.RowKit Wy Mem Grow

def stepL (k : Int) (f g : Facts) : Facts := ⟨max f.depth g.depth, f.groups + g.groups, if k = 3 then f.nullable && g.nullable else f.nullable || g.nullable, f.shaped && g.shaped, f.firm && g.firm⟩
theorem lookL_snoc (k : Int) (s : Nd) : ∀ (l : List Nd) (f : Facts), lookL k f (l ++ [s]) = stepL k (lookL k f l) (Wy.look s)
  | [], f => by simp only [List.nil_append, lookL]; rfl
  | a :: r, f => by rw [List.cons_append, lookL, lookL_snoc k s r, lookL]
mutual
theorem look_bound : ∀ t : Nd, 0 ≤ (Wy.look t).depth ∧ (Wy.look t).depth ≤ nodes t ∧ 0 ≤ (Wy.look t).groups ∧ (Wy.look t).groups ≤ nodes t
  | .mk k set lo hi lazy subs => by
    have h := lookL_bound k subs ⟨0, 0, decide (k = 1) || decide (k = 3), shapedN (.mk k set lo hi lazy subs), true⟩ (Int.le_refl _) (Int.le_refl _)
    rw [Wy.look, nodes]
    simp only at h ⊢
    split <;> omega
theorem lookL_bound (k : Int) : ∀ (l : List Nd) (f : Facts), 0 ≤ f.depth → 0 ≤ f.groups → 0 ≤ (lookL k f l).depth ∧ (lookL k f l).depth ≤ max f.depth (nodesL l) ∧ 0 ≤ (lookL k f l).groups ∧ (lookL k f l).groups ≤ f.groups + nodesL l
  | [], f, h1, h2 => by rw [lookL, nodesL]; omega
  | s :: r, f, h1, h2 => by
    have hs := look_bound s
    have h := lookL_bound k r ⟨max f.depth (Wy.look s).depth, f.groups + (Wy.look s).groups, if k = 3 then f.nullable && (Wy.look s).nullable else f.nullable || (Wy.look s).nullable, f.shaped && (Wy.look s).shaped, f.firm && (Wy.look s).firm⟩ (by simp only; omega) (by simp only; omega)
    rw [lookL, nodesL]
    simp only at h ⊢
    omega
end
def factsC (f : Facts) : Array Value := #[.int .i64 f.depth, .int .i64 f.groups, .bool f.nullable, .bool f.shaped, .bool f.firm]
theorem lk_put {W8 : World} {q : Nat} {k : Int} {f gg : Facts} {d1 d2 : Int} (hB : Blk W8 q #[.int .i64 d1, .int .i64 d2, .bool f.nullable, .bool (f.shaped && gg.shaped), .bool (f.firm && gg.firm)] 115) (h1 : d1 = max f.depth gg.depth) (h2 : d2 = f.groups + gg.groups) {v : Bool} (hv : v = (stepL k f gg).nullable) :
    Blk (W8.setCell ⟨q, 2, none⟩ (.bool v)) q (factsC (stepL k f gg)) 115 := by
  have h := hB.set 2 (.bool v)
  subst hv h1 h2
  exact h
def visV (vb : Nat) : Value := .func (.func 75) #[] #[.pointer (some ⟨vb, 0, none⟩)]
def VisSpec (t : Nd) : Prop := ∀ (N : Nat → Prop) (w : World) (vb : Nat) (cs : List Value), NdAt N w t cs → w.cell? ⟨vb, 0, none⟩ = some (visV vb) → vb < w.heap.size → nodes t ≤ 1000000 →
  Calls Tryz.prog 75 #[.agg cs.toArray, .pointer (some ⟨vb, 0, none⟩)] w fun e w' => e = .returned (.agg (factsC (Wy.look t))) ∧ Below w.heap.size w w'
set_option maxHeartbeats 8000000 in
set_option maxRecDepth 100000 in
theorem vis_step {k : Int} {set : List Rg} {lo hi : Int} {lazy : Bool} {subs : List Nd} (ih : ∀ s ∈ subs, VisSpec s) : VisSpec (.mk k set lo hi lazy subs) := by
  intro N w vb cs hnd hvb hvz hno
  have HND := Lib.hid hnd
  rw [NdAt] at hnd
  obtain ⟨sv, uv, ucs, rfl, hk, hlo, hhi, hset, hrow, hsubs⟩ := hnd
  obtain ⟨os, cs, rfl⟩ := hset.row.slice
  obtain ⟨ou, cu, rfl⟩ := hrow.slice
  have HIH := Lib.hid ih
  have HROW := Lib.hid hrow
  have HSUBS := Lib.hid hsubs
  clear ih hset hrow hsubs
  go_enter Tryz.func75, Tryz.ntmps75
  go_upto_region 1 with fail
  have hB2 : Blk ((w.alloc (.cells #[.int .u8 k, .slice os set.length cs, .int .i64 lo, .int .i64 hi, .bool lazy, .slice ou subs.length cu] 27)).alloc (.cells #[.int .i64 0, .int .i64 0, .bool false, .bool false, .bool false] 115)) w.heap.size #[.int .u8 k, .slice os set.length cs, .int .i64 lo, .int .i64 hi, .bool lazy, .slice ou subs.length cu] 27 := (Blk.new _ _ _).alloc _
  have hB3 : Blk ((w.alloc (.cells #[.int .u8 k, .slice os set.length cs, .int .i64 lo, .int .i64 hi, .bool lazy, .slice ou subs.length cu] 27)).alloc (.cells #[.int .i64 0, .int .i64 0, .bool false, .bool false, .bool false] 115)) (w.heap.size + 1) #[.int .i64 0, .int .i64 0, .bool false, .bool false, .bool false] 115 := Blk.new' _ _ (by simp)
  have hbW : Below w.heap.size w ((w.alloc (.cells #[.int .u8 k, .slice os set.length cs, .int .i64 lo, .int .i64 hi, .bool lazy, .slice ou subs.length cu] 27)).alloc (.cells #[.int .i64 0, .int .i64 0, .bool false, .bool false, .bool false] 115)) := ((Below.refl _ _).alloc (Nat.le_refl _) _).alloc (by simp) _
  have hzW : ((w.alloc (.cells #[.int .u8 k, .slice os set.length cs, .int .i64 lo, .int .i64 hi, .bool lazy, .slice ou subs.length cu] 27)).alloc (.cells #[.int .i64 0, .int .i64 0, .bool false, .bool false, .bool false] 115)).heap.size = w.heap.size + 2 := by simp
  generalize ((w.alloc (.cells #[.int .u8 k, .slice os set.length cs, .int .i64 lo, .int .i64 hi, .bool lazy, .slice ou subs.length cu] 27)).alloc (.cells #[.int .i64 0, .int .i64 0, .bool false, .bool false, .bool false] 115)) = W at hB2 hB3 hbW hzW ⊢
  have hsh : ∀ W', Below W.heap.size W W' → Calls Tryz.prog 76 #[.agg #[.int .u8 k, .slice os set.length cs, .int .i64 lo, .int .i64 hi, .bool lazy, .slice ou subs.length cu]] W' fun e w' => e = .returned (.bool (shapedN (.mk k set lo hi lazy subs))) ∧ Below W'.heap.size W' w' := fun W' hb =>
    shaped_any (N := N) (NdAt.go (Kept.of_below (hbW.trans (hb.mono (by omega))) (fun _ => False)) (fun q _ hn => ⟨id, hn⟩) HND.out)
  obtain ⟨shp, hshp⟩ : ∃ b, b = shapedN (.mk k set lo hi lazy subs) := ⟨_, rfl⟩
  rw [← hshp] at hsh
  obtain ⟨d0, d1, d2, d3, d4, d5⟩ : W.cell? ⟨w.heap.size, 0, none⟩ = some (.int .u8 k) ∧ W.cell? ⟨w.heap.size, 1, none⟩ = some (.slice os set.length cs) ∧ W.cell? ⟨w.heap.size, 2, none⟩ = some (.int .i64 lo) ∧ W.cell? ⟨w.heap.size, 3, none⟩ = some (.int .i64 hi) ∧ W.cell? ⟨w.heap.size, 4, none⟩ = some (.bool lazy) ∧ W.cell? ⟨w.heap.size, 5, none⟩ = some (.slice ou subs.length cu) :=
    ⟨hB2.cell 0, hB2.cell 1, hB2.cell 2, hB2.cell 3, hB2.cell 4, hB2.cell 5⟩
  have dz := hB2.lt
  have HSH := Lib.hid hsh
  have HB2 := Lib.hid hB2
  have HB3 := Lib.hid hB3
  have HBW := Lib.hid hbW
  have HZW := Lib.hid hzW
  have HSHP := Lib.hid hshp
  clear hsh hB2 hB3 hbW hzW hshp
  go_cut [4] (fun s4 wx => ∃ q, s4 = .pointer (some ⟨q, 0, none⟩) ∧ W.heap.size ≤ q ∧ Below W.heap.size W wx ∧ Blk wx q (factsC ⟨0, 0, decide (k = 1) || decide (k = 3), shp, true⟩) 115)
  case first =>
    rcases (show k = 1 ∨ (k = 3 ∧ (k == 1) = false) ∨ ((k == 1) = false ∧ (k == 3) = false) by
      by_cases h1 : k = 1
      · exact .inl h1
      · by_cases h3 : k = 3
        · exact .inr (.inl ⟨h3, by simpa using h1⟩)
        · exact .inr (.inr ⟨by simpa using h1, by simpa using h3⟩)) with rfl | ⟨rfl, -⟩ | ⟨k1, k3⟩
    · apply wp_flowM2 ?hm ?hok ?hlast [some _, some _, some _, some _, some _, some _, some undef, some undef, some undef, some _, some _, none] [11] [] (fun i v w' => i = 11 → ∃ q, v = .pointer (some ⟨q, 0, none⟩) ∧ W.heap.size ≤ q ∧ Blk w' q (factsC ⟨0, 0, false, false, false⟩) 115) ?hokN ?hnd ?hnl ?hV _ rfl ?h
      case hm => rfl
      case hok => kernel_rfl
      case hlast => kernel_rfl
      case hokN => kernel_rfl
      case hnd => simp
      case hnl => simp
      case hV => exact fun i v w1 w2 h hb e => by obtain ⟨q, h1, h2, h3⟩ := h e; exact ⟨q, h1, h2, h3.below hb h3.lt⟩
      case h =>
        intro u
        simp only [List.dropLast]
        apply flowN_yes rfl
        case h =>
          intro W1 hW K hK
          have d := HB2.out.below hW HB2.out.lt
          have e0 := d.cell 0; have e1 := d.cell 1; have e2 := d.cell 2; have e3 := d.cell 3; have e4 := d.cell 4; have e5 := d.cell 5; have ez := d.lt
          clear d
          go_wp2_with fail
          first | exact Below.refl _ _ | exact hK _ (Below.refl _ _)
        simp only [Act.put, List.setIfInBounds_toArray, List.set_cons_zero, List.set_cons_succ, Nat.reduceAdd]
        apply flowN_yes rfl
        case h =>
          intro W1 hW K hK
          go_wp2_with (go_at_call 76; refine (HSH.out _ hW).mono ?_; rintro e w' ⟨rfl, hb⟩)
          try (first | exact hb | exact hK _ hb)
        simp only [Act.put, List.setIfInBounds_toArray, List.set_cons_zero, List.set_cons_succ, Nat.reduceAdd]
        apply flowN_yes rfl
        case h =>
          intro W1 hW K hK
          have d := HB2.out.below hW HB2.out.lt
          have e0 := d.cell 0; have e1 := d.cell 1; have e2 := d.cell 2; have e3 := d.cell 3; have e4 := d.cell 4; have e5 := d.cell 5; have ez := d.lt
          clear d
          go_wp2_with fail
          first | exact Below.refl _ _ | exact hK _ (Below.refl _ _)
        simp only [Act.put, List.setIfInBounds_toArray, List.set_cons_zero, List.set_cons_succ, Nat.reduceAdd]
        apply flowN_yes rfl
        case h =>
          intro W1 hW K hK
          have d := HB2.out.below hW HB2.out.lt
          have e0 := d.cell 0; have e1 := d.cell 1; have e2 := d.cell 2; have e3 := d.cell 3; have e4 := d.cell 4; have e5 := d.cell 5; have ez := d.lt
          clear d
          go_wp2_with fail
          first | exact Below.refl _ _ | exact hK _ (Below.refl _ _)
        simp only [Act.put, List.setIfInBounds_toArray, List.set_cons_zero, List.set_cons_succ, Nat.reduceAdd]
        apply flowN_yes rfl
        case h =>
          intro W1 hW K hK
          have d := HB2.out.below hW HB2.out.lt
          have e0 := d.cell 0; have e1 := d.cell 1; have e2 := d.cell 2; have e3 := d.cell 3; have e4 := d.cell 4; have e5 := d.cell 5; have ez := d.lt
          clear d
          go_wp2_with fail
          first | exact Below.refl _ _ | exact hK _ (Below.refl _ _)
        simp only [Act.put, List.setIfInBounds_toArray, List.set_cons_zero, List.set_cons_succ, Nat.reduceAdd]
        apply flowN_yes rfl
        case h =>
          intro W1 hW K hK
          have d := HB2.out.below hW HB2.out.lt
          have e0 := d.cell 0; have e1 := d.cell 1; have e2 := d.cell 2; have e3 := d.cell 3; have e4 := d.cell 4; have e5 := d.cell 5; have ez := d.lt
          clear d
          go_wp2_with fail
          first | exact Below.refl _ _ | exact hK _ (Below.refl _ _)
        simp only [Act.put, List.setIfInBounds_toArray, List.set_cons_zero, List.set_cons_succ, Nat.reduceAdd]
        apply flowN_no rfl
        simp only [Act.put, List.setIfInBounds_toArray, List.set_cons_zero, List.set_cons_succ, Nat.reduceAdd]
        apply flowN_no rfl
        simp only [Act.put, List.setIfInBounds_toArray, List.set_cons_zero, List.set_cons_succ, Nat.reduceAdd]
        apply flowN_no rfl
        simp only [Act.put, List.setIfInBounds_toArray, List.set_cons_zero, List.set_cons_succ, Nat.reduceAdd]
        apply flowN_yes rfl
        case h =>
          intro W1 hW K hK
          have d := HB2.out.below hW HB2.out.lt
          have e0 := d.cell 0; have e1 := d.cell 1; have e2 := d.cell 2; have e3 := d.cell 3; have e4 := d.cell 4; have e5 := d.cell 5; have ez := d.lt
          clear d
          go_wp2_with fail
          first | exact Below.refl _ _ | exact hK _ (Below.refl _ _)
        simp only [Act.put, List.setIfInBounds_toArray, List.set_cons_zero, List.set_cons_succ, Nat.reduceAdd]
        apply flowN_yes rfl
        case h =>
          intro W1 hW K hK
          have d := HB2.out.below hW HB2.out.lt
          have e0 := d.cell 0; have e1 := d.cell 1; have e2 := d.cell 2; have e3 := d.cell 3; have e4 := d.cell 4; have e5 := d.cell 5; have ez := d.lt
          clear d
          go_wp2_with fail
          first | exact Below.refl _ _ | exact hK _ (Below.refl _ _)
        simp only [Act.put, List.setIfInBounds_toArray, List.set_cons_zero, List.set_cons_succ, Nat.reduceAdd]
        apply flowN_open rfl
        case h =>
          intro W1 hW hF K hK
          go_wp2_with fail
          exact hK _ _ ((Below.refl _ _).alloc (Nat.le_refl _) _) (fun _ => ⟨_, rfl, hW.size, Blk.new _ _ _⟩)
        simp only [Act.put, List.setIfInBounds_toArray, List.set_cons_zero, List.set_cons_succ, Nat.reduceAdd]
        refine flowN_end fun W7 hb7 hV7 => ?_
        obtain ⟨q, hu, hq, hB⟩ := hV7 11 (by simp) rfl
        refine ⟨rfl, ?_⟩
        rw [hu]
        obtain ⟨z0, z1, z2, z3, z4, y0, y1, y2, y3, y4⟩ := hB.five
        have hqz := hB.lt
        have HBQ := Lib.hid hB
        clear hB hV7 hu
        go_wp2_with fail
        go_meet
        refine ⟨q, rfl, hq, ?_, ?_⟩
        · exact ((((hb7.setCell hq _).setCell hq _).setCell hq _).setCell hq _).setCell hq _
        · exact ((((HBQ.out.set 0 _).set 1 _).set 2 _).set 3 _).set 4 _
    · apply wp_flowM2 ?hm ?hok ?hlast [some _, some _, some _, some _, some _, some _, some _, some _, some _, some _, some _, none] [11] [] (fun i v w' => i = 11 → ∃ q, v = .pointer (some ⟨q, 0, none⟩) ∧ W.heap.size ≤ q ∧ Blk w' q (factsC ⟨0, 0, false, false, false⟩) 115) ?hokN ?hnd ?hnl ?hV _ rfl ?h
      case hm => rfl
      case hok => kernel_rfl
      case hlast => kernel_rfl
      case hokN => kernel_rfl
      case hnd => simp
      case hnl => simp
      case hV => exact fun i v w1 w2 h hb e => by obtain ⟨q, h1, h2, h3⟩ := h e; exact ⟨q, h1, h2, h3.below hb h3.lt⟩
      case h =>
        intro u
        simp only [List.dropLast]
        apply flowN_yes rfl
        case h =>
          intro W1 hW K hK
          have d := HB2.out.below hW HB2.out.lt
          have e0 := d.cell 0; have e1 := d.cell 1; have e2 := d.cell 2; have e3 := d.cell 3; have e4 := d.cell 4; have e5 := d.cell 5; have ez := d.lt
          clear d
          go_wp2_with fail
          first | exact Below.refl _ _ | exact hK _ (Below.refl _ _)
        simp only [Act.put, List.setIfInBounds_toArray, List.set_cons_zero, List.set_cons_succ, Nat.reduceAdd]
        apply flowN_yes rfl
        case h =>
          intro W1 hW K hK
          go_wp2_with (go_at_call 76; refine (HSH.out _ hW).mono ?_; rintro e w' ⟨rfl, hb⟩)
          try (first | exact hb | exact hK _ hb)
        simp only [Act.put, List.setIfInBounds_toArray, List.set_cons_zero, List.set_cons_succ, Nat.reduceAdd]
        apply flowN_yes rfl
        case h =>
          intro W1 hW K hK
          have d := HB2.out.below hW HB2.out.lt
          have e0 := d.cell 0; have e1 := d.cell 1; have e2 := d.cell 2; have e3 := d.cell 3; have e4 := d.cell 4; have e5 := d.cell 5; have ez := d.lt
          clear d
          go_wp2_with fail
          first | exact Below.refl _ _ | exact hK _ (Below.refl _ _)
        simp only [Act.put, List.setIfInBounds_toArray, List.set_cons_zero, List.set_cons_succ, Nat.reduceAdd]
        apply flowN_yes rfl
        case h =>
          intro W1 hW K hK
          have d := HB2.out.below hW HB2.out.lt
          have e0 := d.cell 0; have e1 := d.cell 1; have e2 := d.cell 2; have e3 := d.cell 3; have e4 := d.cell 4; have e5 := d.cell 5; have ez := d.lt
          clear d
          go_wp2_with fail
          first | exact Below.refl _ _ | exact hK _ (Below.refl _ _)
        simp only [Act.put, List.setIfInBounds_toArray, List.set_cons_zero, List.set_cons_succ, Nat.reduceAdd]
        apply flowN_yes rfl
        case h =>
          intro W1 hW K hK
          have d := HB2.out.below hW HB2.out.lt
          have e0 := d.cell 0; have e1 := d.cell 1; have e2 := d.cell 2; have e3 := d.cell 3; have e4 := d.cell 4; have e5 := d.cell 5; have ez := d.lt
          clear d
          go_wp2_with fail
          first | exact Below.refl _ _ | exact hK _ (Below.refl _ _)
        simp only [Act.put, List.setIfInBounds_toArray, List.set_cons_zero, List.set_cons_succ, Nat.reduceAdd]
        apply flowN_yes rfl
        case h =>
          intro W1 hW K hK
          have d := HB2.out.below hW HB2.out.lt
          have e0 := d.cell 0; have e1 := d.cell 1; have e2 := d.cell 2; have e3 := d.cell 3; have e4 := d.cell 4; have e5 := d.cell 5; have ez := d.lt
          clear d
          go_wp2_with fail
          first | exact Below.refl _ _ | exact hK _ (Below.refl _ _)
        simp only [Act.put, List.setIfInBounds_toArray, List.set_cons_zero, List.set_cons_succ, Nat.reduceAdd]
        apply flowN_yes rfl
        case h =>
          intro W1 hW K hK
          have d := HB2.out.below hW HB2.out.lt
          have e0 := d.cell 0; have e1 := d.cell 1; have e2 := d.cell 2; have e3 := d.cell 3; have e4 := d.cell 4; have e5 := d.cell 5; have ez := d.lt
          clear d
          go_wp2_with fail
          first | exact Below.refl _ _ | exact hK _ (Below.refl _ _)
        simp only [Act.put, List.setIfInBounds_toArray, List.set_cons_zero, List.set_cons_succ, Nat.reduceAdd]
        apply flowN_yes rfl
        case h =>
          intro W1 hW K hK
          have d := HB2.out.below hW HB2.out.lt
          have e0 := d.cell 0; have e1 := d.cell 1; have e2 := d.cell 2; have e3 := d.cell 3; have e4 := d.cell 4; have e5 := d.cell 5; have ez := d.lt
          clear d
          go_wp2_with fail
          first | exact Below.refl _ _ | exact hK _ (Below.refl _ _)
        simp only [Act.put, List.setIfInBounds_toArray, List.set_cons_zero, List.set_cons_succ, Nat.reduceAdd]
        apply flowN_yes rfl
        case h =>
          intro W1 hW K hK
          have d := HB2.out.below hW HB2.out.lt
          have e0 := d.cell 0; have e1 := d.cell 1; have e2 := d.cell 2; have e3 := d.cell 3; have e4 := d.cell 4; have e5 := d.cell 5; have ez := d.lt
          clear d
          go_wp2_with fail
          first | exact Below.refl _ _ | exact hK _ (Below.refl _ _)
        simp only [Act.put, List.setIfInBounds_toArray, List.set_cons_zero, List.set_cons_succ, Nat.reduceAdd]
        apply flowN_yes rfl
        case h =>
          intro W1 hW K hK
          have d := HB2.out.below hW HB2.out.lt
          have e0 := d.cell 0; have e1 := d.cell 1; have e2 := d.cell 2; have e3 := d.cell 3; have e4 := d.cell 4; have e5 := d.cell 5; have ez := d.lt
          clear d
          go_wp2_with fail
          first | exact Below.refl _ _ | exact hK _ (Below.refl _ _)
        simp only [Act.put, List.setIfInBounds_toArray, List.set_cons_zero, List.set_cons_succ, Nat.reduceAdd]
        apply flowN_yes rfl
        case h =>
          intro W1 hW K hK
          have d := HB2.out.below hW HB2.out.lt
          have e0 := d.cell 0; have e1 := d.cell 1; have e2 := d.cell 2; have e3 := d.cell 3; have e4 := d.cell 4; have e5 := d.cell 5; have ez := d.lt
          clear d
          go_wp2_with fail
          first | exact Below.refl _ _ | exact hK _ (Below.refl _ _)
        simp only [Act.put, List.setIfInBounds_toArray, List.set_cons_zero, List.set_cons_succ, Nat.reduceAdd]
        apply flowN_open rfl
        case h =>
          intro W1 hW hF K hK
          go_wp2_with fail
          exact hK _ _ ((Below.refl _ _).alloc (Nat.le_refl _) _) (fun _ => ⟨_, rfl, hW.size, Blk.new _ _ _⟩)
        simp only [Act.put, List.setIfInBounds_toArray, List.set_cons_zero, List.set_cons_succ, Nat.reduceAdd]
        refine flowN_end fun W7 hb7 hV7 => ?_
        obtain ⟨q, hu, hq, hB⟩ := hV7 11 (by simp) rfl
        refine ⟨rfl, ?_⟩
        rw [hu]
        obtain ⟨z0, z1, z2, z3, z4, y0, y1, y2, y3, y4⟩ := hB.five
        have hqz := hB.lt
        have HBQ := Lib.hid hB
        clear hB hV7 hu
        go_wp2_with fail
        go_meet
        refine ⟨q, rfl, hq, ?_, ?_⟩
        · exact ((((hb7.setCell hq _).setCell hq _).setCell hq _).setCell hq _).setCell hq _
        · exact ((((HBQ.out.set 0 _).set 1 _).set 2 _).set 3 _).set 4 _
    · apply wp_flowM2 ?hm ?hok ?hlast [some _, some _, some _, some _, some _, some _, some _, some _, some _, some _, some _, none] [11] [] (fun i v w' => i = 11 → ∃ q, v = .pointer (some ⟨q, 0, none⟩) ∧ W.heap.size ≤ q ∧ Blk w' q (factsC ⟨0, 0, false, false, false⟩) 115) ?hokN ?hnd ?hnl ?hV _ rfl ?h
      case hm => rfl
      case hok => kernel_rfl
      case hlast => kernel_rfl
      case hokN => kernel_rfl
      case hnd => simp
      case hnl => simp
      case hV => exact fun i v w1 w2 h hb e => by obtain ⟨q, h1, h2, h3⟩ := h e; exact ⟨q, h1, h2, h3.below hb h3.lt⟩
      case h =>
        intro u
        simp only [List.dropLast]
        apply flowN_yes rfl
        case h =>
          intro W1 hW K hK
          have d := HB2.out.below hW HB2.out.lt
          have e0 := d.cell 0; have e1 := d.cell 1; have e2 := d.cell 2; have e3 := d.cell 3; have e4 := d.cell 4; have e5 := d.cell 5; have ez := d.lt
          clear d
          go_wp2_with fail
          first | exact Below.refl _ _ | exact hK _ (Below.refl _ _)
        simp only [Act.put, List.setIfInBounds_toArray, List.set_cons_zero, List.set_cons_succ, Nat.reduceAdd]
        apply flowN_yes rfl
        case h =>
          intro W1 hW K hK
          go_wp2_with (go_at_call 76; refine (HSH.out _ hW).mono ?_; rintro e w' ⟨rfl, hb⟩)
          try (first | exact hb | exact hK _ hb)
        simp only [Act.put, List.setIfInBounds_toArray, List.set_cons_zero, List.set_cons_succ, Nat.reduceAdd]
        apply flowN_yes rfl
        case h =>
          intro W1 hW K hK
          have d := HB2.out.below hW HB2.out.lt
          have e0 := d.cell 0; have e1 := d.cell 1; have e2 := d.cell 2; have e3 := d.cell 3; have e4 := d.cell 4; have e5 := d.cell 5; have ez := d.lt
          clear d
          go_wp2_with fail
          first | exact Below.refl _ _ | exact hK _ (Below.refl _ _)
        simp only [Act.put, List.setIfInBounds_toArray, List.set_cons_zero, List.set_cons_succ, Nat.reduceAdd]
        apply flowN_yes rfl
        case h =>
          intro W1 hW K hK
          have d := HB2.out.below hW HB2.out.lt
          have e0 := d.cell 0; have e1 := d.cell 1; have e2 := d.cell 2; have e3 := d.cell 3; have e4 := d.cell 4; have e5 := d.cell 5; have ez := d.lt
          clear d
          go_wp2_with fail
          first | exact Below.refl _ _ | exact hK _ (Below.refl _ _)
        simp only [Act.put, List.setIfInBounds_toArray, List.set_cons_zero, List.set_cons_succ, Nat.reduceAdd]
        apply flowN_yes rfl
        case h =>
          intro W1 hW K hK
          have d := HB2.out.below hW HB2.out.lt
          have e0 := d.cell 0; have e1 := d.cell 1; have e2 := d.cell 2; have e3 := d.cell 3; have e4 := d.cell 4; have e5 := d.cell 5; have ez := d.lt
          clear d
          go_wp2_with fail
          first | exact Below.refl _ _ | exact hK _ (Below.refl _ _)
        simp only [Act.put, List.setIfInBounds_toArray, List.set_cons_zero, List.set_cons_succ, Nat.reduceAdd]
        apply flowN_yes rfl
        case h =>
          intro W1 hW K hK
          have d := HB2.out.below hW HB2.out.lt
          have e0 := d.cell 0; have e1 := d.cell 1; have e2 := d.cell 2; have e3 := d.cell 3; have e4 := d.cell 4; have e5 := d.cell 5; have ez := d.lt
          clear d
          go_wp2_with fail
          first | exact Below.refl _ _ | exact hK _ (Below.refl _ _)
        simp only [Act.put, List.setIfInBounds_toArray, List.set_cons_zero, List.set_cons_succ, Nat.reduceAdd]
        apply flowN_yes rfl
        case h =>
          intro W1 hW K hK
          have d := HB2.out.below hW HB2.out.lt
          have e0 := d.cell 0; have e1 := d.cell 1; have e2 := d.cell 2; have e3 := d.cell 3; have e4 := d.cell 4; have e5 := d.cell 5; have ez := d.lt
          clear d
          go_wp2_with fail
          first | exact Below.refl _ _ | exact hK _ (Below.refl _ _)
        simp only [Act.put, List.setIfInBounds_toArray, List.set_cons_zero, List.set_cons_succ, Nat.reduceAdd]
        apply flowN_yes rfl
        case h =>
          intro W1 hW K hK
          have d := HB2.out.below hW HB2.out.lt
          have e0 := d.cell 0; have e1 := d.cell 1; have e2 := d.cell 2; have e3 := d.cell 3; have e4 := d.cell 4; have e5 := d.cell 5; have ez := d.lt
          clear d
          go_wp2_with fail
          first | exact Below.refl _ _ | exact hK _ (Below.refl _ _)
        simp only [Act.put, List.setIfInBounds_toArray, List.set_cons_zero, List.set_cons_succ, Nat.reduceAdd]
        apply flowN_yes rfl
        case h =>
          intro W1 hW K hK
          have d := HB2.out.below hW HB2.out.lt
          have e0 := d.cell 0; have e1 := d.cell 1; have e2 := d.cell 2; have e3 := d.cell 3; have e4 := d.cell 4; have e5 := d.cell 5; have ez := d.lt
          clear d
          go_wp2_with fail
          first | exact Below.refl _ _ | exact hK _ (Below.refl _ _)
        simp only [Act.put, List.setIfInBounds_toArray, List.set_cons_zero, List.set_cons_succ, Nat.reduceAdd]
        apply flowN_yes rfl
        case h =>
          intro W1 hW K hK
          have d := HB2.out.below hW HB2.out.lt
          have e0 := d.cell 0; have e1 := d.cell 1; have e2 := d.cell 2; have e3 := d.cell 3; have e4 := d.cell 4; have e5 := d.cell 5; have ez := d.lt
          clear d
          go_wp2_with fail
          first | exact Below.refl _ _ | exact hK _ (Below.refl _ _)
        simp only [Act.put, List.setIfInBounds_toArray, List.set_cons_zero, List.set_cons_succ, Nat.reduceAdd]
        apply flowN_yes rfl
        case h =>
          intro W1 hW K hK
          have d := HB2.out.below hW HB2.out.lt
          have e0 := d.cell 0; have e1 := d.cell 1; have e2 := d.cell 2; have e3 := d.cell 3; have e4 := d.cell 4; have e5 := d.cell 5; have ez := d.lt
          clear d
          go_wp2_with fail
          first | exact Below.refl _ _ | exact hK _ (Below.refl _ _)
        simp only [Act.put, List.setIfInBounds_toArray, List.set_cons_zero, List.set_cons_succ, Nat.reduceAdd]
        apply flowN_open rfl
        case h =>
          intro W1 hW hF K hK
          go_wp2_with fail
          exact hK _ _ ((Below.refl _ _).alloc (Nat.le_refl _) _) (fun _ => ⟨_, rfl, hW.size, Blk.new _ _ _⟩)
        simp only [Act.put, List.setIfInBounds_toArray, List.set_cons_zero, List.set_cons_succ, Nat.reduceAdd]
        refine flowN_end fun W7 hb7 hV7 => ?_
        obtain ⟨q, hu, hq, hB⟩ := hV7 11 (by simp) rfl
        refine ⟨rfl, ?_⟩
        rw [hu]
        obtain ⟨z0, z1, z2, z3, z4, y0, y1, y2, y3, y4⟩ := hB.five
        have hqz := hB.lt
        have HBQ := Lib.hid hB
        clear hB hV7 hu
        go_wp2_with fail
        go_meet
        refine ⟨q, rfl, hq, ?_, ?_⟩
        · exact ((((hb7.setCell hq _).setCell hq _).setCell hq _).setCell hq _).setCell hq _
        · rw [show (decide (k = 1) || decide (k = 3)) = false by simp at k1 k3; simp [k1, k3]]
          exact ((((HBQ.out.set 0 _).set 1 _).set 2 _).set 3 _).set 4 _
  case rest =>
    rename World => Wc
    obtain ⟨q, rfl, hqW, hbc, hBq⟩ := hcut
    obtain ⟨f0, hf0⟩ : ∃ f0 : Facts, f0 = ⟨0, 0, decide (k = 1) || decide (k = 3), shp, true⟩ := ⟨_, rfl⟩
    rw [← hf0] at hBq
    have hlook : lookL k f0 subs = lookL k ⟨0, 0, decide (k = 1) || decide (k = 3), shapedN (.mk k set lo hi lazy subs), true⟩ subs := by rw [hf0, HSHP.out]
    have HLOOK := Lib.hid hlook
    have HBQ := Lib.hid hBq
    have HBC := Lib.hid hbc
    have HF0 := Lib.hid hf0
    have hqW2 : w.heap.size + 2 ≤ q := by have := HZW.out; omega
    have c5 : Wc.cell? ⟨w.heap.size, 5, none⟩ = some (.slice ou subs.length cu) := (HB2.out.below hbc HB2.out.lt).cell 5
    have c5z : w.heap.size < Wc.heap.size := (HB2.out.below hbc HB2.out.lt).lt
    have hwc : Below w.heap.size w Wc := HBW.out.trans (hbc.mono (by have := HBW.out.size; omega))
    have HWC := Lib.hid hwc
    have hsl : (subs.length : Int) ≤ 1048576 := by omega
    have hnoN : nodesL subs ≤ 1000000 := by rw [nodes] at hno; omega
    have HNO := Lib.hid hnoN
    clear hlook hBq hbc hf0 hwc d0 d1 d2 d3 d4 d5 dz hnoN hno hqW
    go_wp2_with fail
    go_loopw [22] (fun s22 wx => ∃ i : Nat, i ≤ subs.length ∧ s22 = .int .i64 i ∧ Blk wx q (factsC (lookL k f0 (subs.take i))) 115 ∧ Kept (fun x => x = q) Wc wx) (fun s22 _ => subs.length - (intOf s22).toNat)
    case atStart => exact ⟨0, by omega, rfl, HBQ.out, Kept.refl _ _⟩
    case round =>
      rename World => Wa
      obtain ⟨i, hi', rfl, hBa, hka⟩ := hrel
      have hkw : Below w.heap.size w Wa := HWC.out.trans (hka.belowOf (by have := HWC.out.size; omega) (fun x hx e => by omega))
      by_cases hil : ¬ i < subs.length
      · obtain rfl : i = subs.length := by omega
        rw [List.take_length] at hBa
        obtain ⟨r, hr⟩ : ∃ r, r = lookL k f0 subs := ⟨_, rfl⟩
        rw [← hr] at hBa
        have hrb := lookL_bound k subs f0 (by rw [HF0.out]; exact Int.le_refl _) (by rw [HF0.out]; exact Int.le_refl _)
        rw [← hr] at hrb
        have hf0d : f0.depth = 0 ∧ f0.groups = 0 := by rw [HF0.out]; exact ⟨rfl, rfl⟩
        have hno' := HNO.out
        have b1 : r.depth ≤ 1000000 := by omega
        have b1' : 0 ≤ r.depth := by omega
        have b2 : r.groups ≤ 1000000 := by omega
        have b2' : 0 ≤ r.groups := by omega
        have hres : Wy.look (.mk k set lo hi lazy subs) = ⟨r.depth + 1, if k = 6 then r.groups + 1 else r.groups, if k = 5 then r.nullable || decide (lo = 0) else r.nullable, r.shaped, if k = 5 then r.firm && !(r.nullable && (decide (hi = -1) || decide (1 < hi))) else r.firm⟩ := by
          rw [Wy.look, ← HLOOK.out, ← hr]
        have HRES := Lib.hid hres
        have hn3 : Blk Wa w.heap.size _ _ := (HB2.out.below HBC.out HB2.out.lt).kept hka (by omega)
        have hq3 : Blk Wa (w.heap.size + 1) _ _ := (HB3.out.below HBC.out HB3.out.lt).kept hka (by omega)
        obtain ⟨k0, k2, k3⟩ : Wa.cell? ⟨w.heap.size, 0, none⟩ = some (.int .u8 k) ∧ Wa.cell? ⟨w.heap.size, 2, none⟩ = some (.int .i64 lo) ∧ Wa.cell? ⟨w.heap.size, 3, none⟩ = some (.int .i64 hi) := ⟨hn3.cell 0, hn3.cell 2, hn3.cell 3⟩
        have kz := hn3.lt
        obtain ⟨x0, x1, x2, x3, x4, y0, y1, y2, y3, y4⟩ := (show Blk Wa q #[.int .i64 r.depth, .int .i64 r.groups, .bool r.nullable, .bool r.shaped, .bool r.firm] 115 from hBa).five
        have xz := hBa.lt
        obtain ⟨v0, v1, v2, v3, v4, w0, w1, w2, w3, w4⟩ := hq3.five
        have vz := hq3.lt
        have HBA := Lib.hid hBa
        have HQ3 := Lib.hid hq3
        have HKW := Lib.hid hkw
        have hne1 : q ≠ w.heap.size := by omega
        have hne2 : q ≠ w.heap.size + 1 := by omega
        clear hr hrb hf0d hno' hres hn3 hq3 hBa hka hkw
        by_cases k6 : k = 6
        · subst k6
          go_wp2_with fail
          have hfin := (((((((HQ3.out.setOther (p := ⟨q, 0, none⟩) (Ne.symm hne2) (.int .i64 (r.depth + 1))).setOther (p := ⟨q, 1, none⟩) (Ne.symm hne2) (.int .i64 (r.groups + 1))).set 0 (.int .i64 (r.depth + 1))).set 1 (.int .i64 (r.groups + 1))).set 2 (.bool r.nullable)).set 3 (.bool r.shaped)).set 4 (.bool r.firm))
          obtain ⟨c0, c1, c2, c3, c4, -⟩ := hfin.five
          refine bodyPost_ret (v := .agg #[.int .i64 (r.depth + 1), .int .i64 (r.groups + 1), .bool r.nullable, .bool r.shaped, .bool r.firm]) (by simp [results, Tryz.results75, go_sem, c0, c1, c2, c3, c4]) rfl ⟨?_, ?_⟩
          · rw [HRES.out]
            simp [factsC]
          · exact (((((((HKW.out.setCell (by show w.heap.size ≤ q; omega) _).setCell (by show w.heap.size ≤ q; omega) _).setCell (by show w.heap.size ≤ w.heap.size + 1; omega) _).setCell (by show w.heap.size ≤ w.heap.size + 1; omega) _).setCell (by show w.heap.size ≤ w.heap.size + 1; omega) _).setCell (by show w.heap.size ≤ w.heap.size + 1; omega) _).setCell (by show w.heap.size ≤ w.heap.size + 1; omega) _)
        · have k6b : (k == 6) = false := by simpa using k6
          by_cases k5 : k = 5
          · subst k5
            cases hrf : r.firm <;> rw [hrf] at x4 <;> cases hrn : r.nullable <;> rw [hrn] at x2
            · by_cases hl0 : lo = 0
              · subst hl0
                go_wp2_with fail
                have hfin := ((((((((HQ3.out.setOther (p := ⟨q, 0, none⟩) (Ne.symm hne2) (.int .i64 (r.depth + 1))).setOther (p := ⟨q, 4, none⟩) (Ne.symm hne2) (.bool false)).setOther (p := ⟨q, 2, none⟩) (Ne.symm hne2) (.bool true)).set 0 (.int .i64 (r.depth + 1))).set 1 (.int .i64 (r.groups))).set 2 (.bool true)).set 3 (.bool r.shaped)).set 4 (.bool false))
                obtain ⟨c0, c1, c2, c3, c4, -⟩ := hfin.five
                refine bodyPost_ret (v := .agg #[.int .i64 (r.depth + 1), .int .i64 (r.groups), .bool true, .bool r.shaped, .bool false]) (by simp [results, Tryz.results75, go_sem, c0, c1, c2, c3, c4]) rfl ⟨?_, ?_⟩
                · rw [HRES.out]
                  simp [factsC, hrf, hrn]
                · exact ((((((((HKW.out.setCell (by show w.heap.size ≤ q; omega) _).setCell (by show w.heap.size ≤ q; omega) _).setCell (by show w.heap.size ≤ q; omega) _).setCell (by show w.heap.size ≤ w.heap.size + 1; omega) _).setCell (by show w.heap.size ≤ w.heap.size + 1; omega) _).setCell (by show w.heap.size ≤ w.heap.size + 1; omega) _).setCell (by show w.heap.size ≤ w.heap.size + 1; omega) _).setCell (by show w.heap.size ≤ w.heap.size + 1; omega) _)
              · have hl0b : (lo == 0) = false := by simpa using hl0
                go_wp2_with fail
                have hfin := ((((((((HQ3.out.setOther (p := ⟨q, 0, none⟩) (Ne.symm hne2) (.int .i64 (r.depth + 1))).setOther (p := ⟨q, 4, none⟩) (Ne.symm hne2) (.bool false)).setOther (p := ⟨q, 2, none⟩) (Ne.symm hne2) (.bool false)).set 0 (.int .i64 (r.depth + 1))).set 1 (.int .i64 (r.groups))).set 2 (.bool false)).set 3 (.bool r.shaped)).set 4 (.bool false))
                obtain ⟨c0, c1, c2, c3, c4, -⟩ := hfin.five
                refine bodyPost_ret (v := .agg #[.int .i64 (r.depth + 1), .int .i64 (r.groups), .bool false, .bool r.shaped, .bool false]) (by simp [results, Tryz.results75, go_sem, c0, c1, c2, c3, c4]) rfl ⟨?_, ?_⟩
                · rw [HRES.out]
                  simp [factsC, hrf, hrn, hl0]
                · exact ((((((((HKW.out.setCell (by show w.heap.size ≤ q; omega) _).setCell (by show w.heap.size ≤ q; omega) _).setCell (by show w.heap.size ≤ q; omega) _).setCell (by show w.heap.size ≤ w.heap.size + 1; omega) _).setCell (by show w.heap.size ≤ w.heap.size + 1; omega) _).setCell (by show w.heap.size ≤ w.heap.size + 1; omega) _).setCell (by show w.heap.size ≤ w.heap.size + 1; omega) _).setCell (by show w.heap.size ≤ w.heap.size + 1; omega) _)
            · skip
              go_wp2_with fail
              have hfin := ((((((((HQ3.out.setOther (p := ⟨q, 0, none⟩) (Ne.symm hne2) (.int .i64 (r.depth + 1))).setOther (p := ⟨q, 4, none⟩) (Ne.symm hne2) (.bool false)).setOther (p := ⟨q, 2, none⟩) (Ne.symm hne2) (.bool true)).set 0 (.int .i64 (r.depth + 1))).set 1 (.int .i64 (r.groups))).set 2 (.bool true)).set 3 (.bool r.shaped)).set 4 (.bool false))
              obtain ⟨c0, c1, c2, c3, c4, -⟩ := hfin.five
              refine bodyPost_ret (v := .agg #[.int .i64 (r.depth + 1), .int .i64 (r.groups), .bool true, .bool r.shaped, .bool false]) (by simp [results, Tryz.results75, go_sem, c0, c1, c2, c3, c4]) rfl ⟨?_, ?_⟩
              · rw [HRES.out]
                simp [factsC, hrf, hrn]
              · exact ((((((((HKW.out.setCell (by show w.heap.size ≤ q; omega) _).setCell (by show w.heap.size ≤ q; omega) _).setCell (by show w.heap.size ≤ q; omega) _).setCell (by show w.heap.size ≤ w.heap.size + 1; omega) _).setCell (by show w.heap.size ≤ w.heap.size + 1; omega) _).setCell (by show w.heap.size ≤ w.heap.size + 1; omega) _).setCell (by show w.heap.size ≤ w.heap.size + 1; omega) _).setCell (by show w.heap.size ≤ w.heap.size + 1; omega) _)
            · by_cases hl0 : lo = 0
              · subst hl0
                go_wp2_with fail
                have hfin := ((((((((HQ3.out.setOther (p := ⟨q, 0, none⟩) (Ne.symm hne2) (.int .i64 (r.depth + 1))).setOther (p := ⟨q, 4, none⟩) (Ne.symm hne2) (.bool true)).setOther (p := ⟨q, 2, none⟩) (Ne.symm hne2) (.bool true)).set 0 (.int .i64 (r.depth + 1))).set 1 (.int .i64 (r.groups))).set 2 (.bool true)).set 3 (.bool r.shaped)).set 4 (.bool true))
                obtain ⟨c0, c1, c2, c3, c4, -⟩ := hfin.five
                refine bodyPost_ret (v := .agg #[.int .i64 (r.depth + 1), .int .i64 (r.groups), .bool true, .bool r.shaped, .bool true]) (by simp [results, Tryz.results75, go_sem, c0, c1, c2, c3, c4]) rfl ⟨?_, ?_⟩
                · rw [HRES.out]
                  simp [factsC, hrf, hrn]
                · exact ((((((((HKW.out.setCell (by show w.heap.size ≤ q; omega) _).setCell (by show w.heap.size ≤ q; omega) _).setCell (by show w.heap.size ≤ q; omega) _).setCell (by show w.heap.size ≤ w.heap.size + 1; omega) _).setCell (by show w.heap.size ≤ w.heap.size + 1; omega) _).setCell (by show w.heap.size ≤ w.heap.size + 1; omega) _).setCell (by show w.heap.size ≤ w.heap.size + 1; omega) _).setCell (by show w.heap.size ≤ w.heap.size + 1; omega) _)
              · have hl0b : (lo == 0) = false := by simpa using hl0
                go_wp2_with fail
                have hfin := ((((((((HQ3.out.setOther (p := ⟨q, 0, none⟩) (Ne.symm hne2) (.int .i64 (r.depth + 1))).setOther (p := ⟨q, 4, none⟩) (Ne.symm hne2) (.bool true)).setOther (p := ⟨q, 2, none⟩) (Ne.symm hne2) (.bool false)).set 0 (.int .i64 (r.depth + 1))).set 1 (.int .i64 (r.groups))).set 2 (.bool false)).set 3 (.bool r.shaped)).set 4 (.bool true))
                obtain ⟨c0, c1, c2, c3, c4, -⟩ := hfin.five
                refine bodyPost_ret (v := .agg #[.int .i64 (r.depth + 1), .int .i64 (r.groups), .bool false, .bool r.shaped, .bool true]) (by simp [results, Tryz.results75, go_sem, c0, c1, c2, c3, c4]) rfl ⟨?_, ?_⟩
                · rw [HRES.out]
                  simp [factsC, hrf, hrn, hl0]
                · exact ((((((((HKW.out.setCell (by show w.heap.size ≤ q; omega) _).setCell (by show w.heap.size ≤ q; omega) _).setCell (by show w.heap.size ≤ q; omega) _).setCell (by show w.heap.size ≤ w.heap.size + 1; omega) _).setCell (by show w.heap.size ≤ w.heap.size + 1; omega) _).setCell (by show w.heap.size ≤ w.heap.size + 1; omega) _).setCell (by show w.heap.size ≤ w.heap.size + 1; omega) _).setCell (by show w.heap.size ≤ w.heap.size + 1; omega) _)
            · by_cases h1 : hi = -1
              · subst h1
                go_wp2_with fail
                have hfin := ((((((((HQ3.out.setOther (p := ⟨q, 0, none⟩) (Ne.symm hne2) (.int .i64 (r.depth + 1))).setOther (p := ⟨q, 4, none⟩) (Ne.symm hne2) (.bool false)).setOther (p := ⟨q, 2, none⟩) (Ne.symm hne2) (.bool true)).set 0 (.int .i64 (r.depth + 1))).set 1 (.int .i64 (r.groups))).set 2 (.bool true)).set 3 (.bool r.shaped)).set 4 (.bool false))
                obtain ⟨c0, c1, c2, c3, c4, -⟩ := hfin.five
                refine bodyPost_ret (v := .agg #[.int .i64 (r.depth + 1), .int .i64 (r.groups), .bool true, .bool r.shaped, .bool false]) (by simp [results, Tryz.results75, go_sem, c0, c1, c2, c3, c4]) rfl ⟨?_, ?_⟩
                · rw [HRES.out]
                  simp [factsC, hrf, hrn]
                · exact ((((((((HKW.out.setCell (by show w.heap.size ≤ q; omega) _).setCell (by show w.heap.size ≤ q; omega) _).setCell (by show w.heap.size ≤ q; omega) _).setCell (by show w.heap.size ≤ w.heap.size + 1; omega) _).setCell (by show w.heap.size ≤ w.heap.size + 1; omega) _).setCell (by show w.heap.size ≤ w.heap.size + 1; omega) _).setCell (by show w.heap.size ≤ w.heap.size + 1; omega) _).setCell (by show w.heap.size ≤ w.heap.size + 1; omega) _)
              · have h1b : (hi == -1) = false := by simpa using h1
                by_cases h2 : 1 < hi
                · skip
                  go_wp2_with fail
                  have hfin := ((((((((HQ3.out.setOther (p := ⟨q, 0, none⟩) (Ne.symm hne2) (.int .i64 (r.depth + 1))).setOther (p := ⟨q, 4, none⟩) (Ne.symm hne2) (.bool false)).setOther (p := ⟨q, 2, none⟩) (Ne.symm hne2) (.bool true)).set 0 (.int .i64 (r.depth + 1))).set 1 (.int .i64 (r.groups))).set 2 (.bool true)).set 3 (.bool r.shaped)).set 4 (.bool false))
                  obtain ⟨c0, c1, c2, c3, c4, -⟩ := hfin.five
                  refine bodyPost_ret (v := .agg #[.int .i64 (r.depth + 1), .int .i64 (r.groups), .bool true, .bool r.shaped, .bool false]) (by simp [results, Tryz.results75, go_sem, c0, c1, c2, c3, c4]) rfl ⟨?_, ?_⟩
                  · rw [HRES.out]
                    simp [factsC, hrf, hrn, h1, h2]
                  · exact ((((((((HKW.out.setCell (by show w.heap.size ≤ q; omega) _).setCell (by show w.heap.size ≤ q; omega) _).setCell (by show w.heap.size ≤ q; omega) _).setCell (by show w.heap.size ≤ w.heap.size + 1; omega) _).setCell (by show w.heap.size ≤ w.heap.size + 1; omega) _).setCell (by show w.heap.size ≤ w.heap.size + 1; omega) _).setCell (by show w.heap.size ≤ w.heap.size + 1; omega) _).setCell (by show w.heap.size ≤ w.heap.size + 1; omega) _)
                · have h2b : decide (1 < hi) = false := by simpa using h2
                  go_wp2_with fail
                  have hfin := ((((((((HQ3.out.setOther (p := ⟨q, 0, none⟩) (Ne.symm hne2) (.int .i64 (r.depth + 1))).setOther (p := ⟨q, 4, none⟩) (Ne.symm hne2) (.bool true)).setOther (p := ⟨q, 2, none⟩) (Ne.symm hne2) (.bool true)).set 0 (.int .i64 (r.depth + 1))).set 1 (.int .i64 (r.groups))).set 2 (.bool true)).set 3 (.bool r.shaped)).set 4 (.bool true))
                  obtain ⟨c0, c1, c2, c3, c4, -⟩ := hfin.five
                  refine bodyPost_ret (v := .agg #[.int .i64 (r.depth + 1), .int .i64 (r.groups), .bool true, .bool r.shaped, .bool true]) (by simp [results, Tryz.results75, go_sem, c0, c1, c2, c3, c4]) rfl ⟨?_, ?_⟩
                  · rw [HRES.out]
                    simp [factsC, hrf, hrn, h1, h2]
                  · exact ((((((((HKW.out.setCell (by show w.heap.size ≤ q; omega) _).setCell (by show w.heap.size ≤ q; omega) _).setCell (by show w.heap.size ≤ q; omega) _).setCell (by show w.heap.size ≤ w.heap.size + 1; omega) _).setCell (by show w.heap.size ≤ w.heap.size + 1; omega) _).setCell (by show w.heap.size ≤ w.heap.size + 1; omega) _).setCell (by show w.heap.size ≤ w.heap.size + 1; omega) _).setCell (by show w.heap.size ≤ w.heap.size + 1; omega) _)
          · have k5b : (k == 5) = false := by simpa using k5
            go_wp2_with fail
            have hfin := ((((((HQ3.out.setOther (p := ⟨q, 0, none⟩) (Ne.symm hne2) (.int .i64 (r.depth + 1))).set 0 (.int .i64 (r.depth + 1))).set 1 (.int .i64 (r.groups))).set 2 (.bool r.nullable)).set 3 (.bool r.shaped)).set 4 (.bool r.firm))
            obtain ⟨c0, c1, c2, c3, c4, -⟩ := hfin.five
            refine bodyPost_ret (v := .agg #[.int .i64 (r.depth + 1), .int .i64 (r.groups), .bool r.nullable, .bool r.shaped, .bool r.firm]) (by simp [results, Tryz.results75, go_sem, c0, c1, c2, c3, c4]) rfl ⟨?_, ?_⟩
            · rw [HRES.out, if_neg k6, if_neg k5, if_neg k5]
              rfl
            · exact ((((((HKW.out.setCell (by show w.heap.size ≤ q; omega) _).setCell (by show w.heap.size ≤ w.heap.size + 1; omega) _).setCell (by show w.heap.size ≤ w.heap.size + 1; omega) _).setCell (by show w.heap.size ≤ w.heap.size + 1; omega) _).setCell (by show w.heap.size ≤ w.heap.size + 1; omega) _).setCell (by show w.heap.size ≤ w.heap.size + 1; omega) _)
      · have hil := Decidable.not_not.1 hil
        obtain ⟨ub, uo, uc, hue, huc, hum, hNub, hubz, hucell⟩ := HROW.out.parts HSUBS.out (by omega)
        simp only [Value.slice.injEq, true_and] at hue
        obtain ⟨rfl, rfl⟩ := hue
        obtain ⟨tsv, tuv, hnt, t0, t1, t2, t3, t4, t5⟩ := hucell i hil
        obtain ⟨ts, hts⟩ : ∃ ts, ts = subs[i] := ⟨_, rfl⟩
        rw [← hts] at t0 t2 t3 t4 hnt
        have hsl1 : (∃ o n c, tsv = .slice o n c) ∧ ∃ o n c, tuv = .slice o n c := by
          have hnt' := hnt
          cases ts
          rw [NdAt] at hnt'
          obtain ⟨sv', uv', ucs', h1, -, -, -, h5, h6, -⟩ := hnt'
          simp only [List.cons.injEq] at h1
          obtain ⟨o, c, e⟩ := h5.row.slice
          obtain ⟨o', c', e'⟩ := h6.slice
          exact ⟨⟨_, _, _, by rw [h1.2.1]; exact e⟩, ⟨_, _, _, by rw [h1.2.2.2.2.2.1]; exact e'⟩⟩
        obtain ⟨⟨to1, tn1, tc1, rfl⟩, to2, tn2, tc2, rfl⟩ := hsl1
        have hub : Wa.heap[ub]? = w.heap[ub]? := hkw.block ub hubz
        have g0 := (World.cell?_of_block (a := ⟨ub, uo + i * 6, none⟩) hub).trans t0
        have g1 := (World.cell?_of_block (a := ⟨ub, uo + i * 6 + 1, none⟩) hub).trans t1
        have g2 := (World.cell?_of_block (a := ⟨ub, uo + i * 6 + 2, none⟩) hub).trans t2
        have g3 := (World.cell?_of_block (a := ⟨ub, uo + i * 6 + 3, none⟩) hub).trans t3
        have g4 := (World.cell?_of_block (a := ⟨ub, uo + i * 6 + 4, none⟩) hub).trans t4
        have g5 := (World.cell?_of_block (a := ⟨ub, uo + i * 6 + 5, none⟩) hub).trans t5
        have hubza : ub < Wa.heap.size := Nat.lt_of_lt_of_le hubz hkw.size
        have hva : Wa.cell? ⟨vb, 0, none⟩ = some (visV vb) := (hkw.cell (p := ⟨vb, 0, none⟩) hvz).trans hvb
        have hvaz : vb < Wa.heap.size := Nat.lt_of_lt_of_le hvz hkw.size
        unfold visV at hva
        have hilI : (i : Int) < subs.length := by omega
        have hucI : (subs.length : Int) ≤ cu := by omega
        have hbA : Below Wa.heap.size Wa (Wa.alloc (.cells #[.int .u8 ts.kind, .slice to1 tn1 tc1, .int .i64 ts.lo, .int .i64 ts.hi, .bool ts.lazy, .slice to2 tn2 tc2] 27)) := (Below.refl _ _).alloc (Nat.le_refl _) _
        have hcall := HIH.out ts (by rw [hts]; exact List.getElem_mem hil) N (Wa.alloc (.cells #[.int .u8 ts.kind, .slice to1 tn1 tc1, .int .i64 ts.lo, .int .i64 ts.hi, .bool ts.lazy, .slice to2 tn2 tc2] 27)) vb _ (NdAt.go (Kept.of_below (hkw.trans (hbA.mono (hkw.size))) (fun _ => False)) (fun x _ hn => ⟨id, hn⟩) hnt) ((hbA.cell (p := ⟨vb, 0, none⟩) hvaz).trans hva) (Nat.lt_of_lt_of_le hvaz hbA.size) (by have := nodesL_at hil; rw [← hts] at this; have := HNO.out; omega)
        obtain ⟨gg, hgg⟩ : ∃ gg, gg = Wy.look ts := ⟨_, rfl⟩
        rw [← hgg] at hcall
        simp only [factsC] at hcall
        have HCALL := Lib.hid hcall
        have HGG := Lib.hid hgg
        have HBA := Lib.hid hBa
        have HKA := Lib.hid hka
        have HTS := Lib.hid hts
        have hqz := hBa.lt
        clear hucell hnt hts hub t0 t1 t2 t3 t4 t5 hcall hbA hBa hka hkw hgg
        go_upto_region 6 with (first | (go_at_call 75; refine HCALL.out.mono ?_; rintro e w5 ⟨rfl, hb5⟩; have HB5 := Lib.hid hb5; clear hb5))
        obtain ⟨f, hf⟩ : ∃ f, f = lookL k f0 (subs.take i) := ⟨_, rfl⟩
        have hbB : Below Wa.heap.size Wa (w5.alloc (.cells #[.int .i64 gg.depth, .int .i64 gg.groups, .bool gg.nullable, .bool gg.shaped, .bool gg.firm] 115)) :=
          (((Below.refl _ _).alloc (Nat.le_refl _) _).trans (HB5.out.mono (by simp))).alloc (by have := HB5.out.size; simp at this; omega) _
        have hBf : Blk (w5.alloc (.cells #[.int .i64 gg.depth, .int .i64 gg.groups, .bool gg.nullable, .bool gg.shaped, .bool gg.firm] 115)) q (factsC f) 115 := by rw [hf]; exact HBA.out.below hbB hqz
        have hBg : Blk (w5.alloc (.cells #[.int .i64 gg.depth, .int .i64 gg.groups, .bool gg.nullable, .bool gg.shaped, .bool gg.firm] 115)) w5.heap.size (factsC gg) 115 := Blk.new _ _ _
        have hqg : q < w5.heap.size := by have := HB5.out.size; simp at this; omega
        obtain ⟨pg, hpg⟩ : ∃ pg, pg = w5.heap.size := ⟨_, rfl⟩
        rw [← hpg] at hBg hqg ⊢
        generalize (w5.alloc (.cells #[.int .i64 gg.depth, .int .i64 gg.groups, .bool gg.nullable, .bool gg.shaped, .bool gg.firm] 115)) = W6 at hbB hBf hBg ⊢
        have hgb := look_bound ts
        rw [← HGG.out] at hgb
        have hfb := lookL_bound k (subs.take i) f0 (by rw [HF0.out]; exact Int.le_refl _) (by rw [HF0.out]; exact Int.le_refl _)
        rw [← hf] at hfb
        have hf0d : f0.depth = 0 ∧ f0.groups = 0 := by rw [HF0.out]; exact ⟨rfl, rfl⟩
        have hnt1 := nodesL_at hil
        rw [← HTS.out] at hnt1
        have hno' := HNO.out
        have hb1 : f.depth ≤ 1000000 ∧ 0 ≤ f.depth := by omega
        have hb2 : f.groups ≤ 1000000 ∧ 0 ≤ f.groups := by omega
        have hb3 : gg.depth ≤ 1000000 ∧ 0 ≤ gg.depth := by omega
        have hb4 : gg.groups ≤ 1000000 ∧ 0 ≤ gg.groups := by omega
        obtain ⟨b1, b1'⟩ := hb1
        obtain ⟨b2, b2'⟩ := hb2
        obtain ⟨b3, b3'⟩ := hb3
        obtain ⟨b4, b4'⟩ := hb4
        have hstep : lookL k f0 (subs.take (i + 1)) = stepL k f gg := by
          rw [List.take_succ_eq_append_getElem hil, lookL_snoc, ← hf, HGG.out, HTS.out]
        have HSTEP := Lib.hid hstep
        have HBB := Lib.hid hbB
        have HBF := Lib.hid hBf
        have HBG := Lib.hid hBg
        have HPG := Lib.hid hpg
        have HFF := Lib.hid hf
        clear hstep hbB hf hgb hfb hf0d hnt1 hno' hpg
        obtain ⟨x0, x1, x2, x3, x4, y0, y1, y2, y3, y4⟩ := (show Blk W6 q #[.int .i64 f.depth, .int .i64 f.groups, .bool f.nullable, .bool f.shaped, .bool f.firm] 115 from hBf).five
        obtain ⟨u0, u1, u2, u3, u4, -⟩ := (show Blk W6 pg #[.int .i64 gg.depth, .int .i64 gg.groups, .bool gg.nullable, .bool gg.shaped, .bool gg.firm] 115 from hBg).five
        have xz := hBf.lt
        have uz := hBg.lt
        clear hBf hBg
        go_cut [] (fun wx => ∃ d1 d2 : Int, d1 = max f.depth gg.depth ∧ d2 = f.groups + gg.groups ∧ wx = (W6.drew.setCell ⟨q, 0, none⟩ (.int .i64 d1)).setCell ⟨q, 1, none⟩ (.int .i64 d2))
        case first =>
          apply wp_flowL ?hm ?hok [0, 1, 2, 3, 4, 5, 6, 7, 8, 9, 10, 11, 12, 13] [11, 13] [0, 1, 2, 3, 4, 5, 6, 10] ?hord (fun w' => w'.cell? ⟨pg, 1, none⟩ = some (.int .i64 gg.groups) ∧ pg < w'.heap.size) (fun L w' => match L with | [] => w' = W6.drew | [_] => w' = W6.drew.setCell ⟨q, 0, none⟩ (.int .i64 (max f.depth gg.depth)) | _ => w' = (W6.drew.setCell ⟨q, 0, none⟩ (.int .i64 (max f.depth gg.depth))).setCell ⟨q, 1, none⟩ (.int .i64 (f.groups + gg.groups)))
          case hm => rfl
          case hok => kernel_rfl
          case hord => kernel_rfl
          case hb =>
            intro L w' h hl
            match L with
            | [] => obtain rfl : w' = W6.drew := h; exact ⟨u1, uz⟩
            | [_] =>
              obtain rfl : w' = W6.drew.setCell ⟨q, 0, none⟩ (.int .i64 (max f.depth gg.depth)) := h
              have hB : Blk W6.drew pg (factsC gg) 115 := HBG.out
              exact ⟨(hB.setOther (p := ⟨q, 0, none⟩) (by show pg ≠ q; omega) _).cell 1, (hB.setOther (p := ⟨q, 0, none⟩) (by show pg ≠ q; omega) (.int .i64 (max f.depth gg.depth))).lt⟩
            | _ :: _ :: _ =>
              exfalso
              rw [show (List.filter (fun j => [11, 13].contains j) [0, 1, 2, 3, 4, 5, 6, 7, 8, 9, 10, 11, 12, 13]).length = 2 by decide] at hl
              simp only [List.length_cons] at hl
              omega
          case hw => rfl
          case h =>
            iterate 7
              apply flowL_pin _ rfl rfl rfl rfl
              case h =>
                intro W1 hW K hK
                (obtain rfl : W1 = W6.drew := hW)
                go_wp2_with fail
                exact hK
              simp only [Act.put, List.setIfInBounds_toArray, List.set_cons_zero, List.set_cons_succ, Nat.reduceAdd]
            iterate 3
              apply flowL_read _ rfl rfl rfl rfl
              case h =>
                intro W1 hW K hK
                (obtain ⟨v1, vz⟩ := hW)
                go_wp2_with fail
                exact hK
              simp only [Act.put, List.setIfInBounds_toArray, List.set_cons_zero, List.set_cons_succ, Nat.reduceAdd]
            iterate 1
              apply flowL_pin _ rfl rfl rfl rfl
              case h =>
                intro W1 hW K hK
                (obtain rfl : W1 = W6.drew := hW)
                go_wp2_with fail
                exact hK
              simp only [Act.put, List.setIfInBounds_toArray, List.set_cons_zero, List.set_cons_succ, Nat.reduceAdd]
            apply flowL_act rfl rfl rfl
            case h =>
              intro W10 hW K hK
              obtain rfl : W10 = W6.drew := hW
              go_wp2_with fail
              exact hK undef _ rfl
            intro v1 hv1
            simp only [Act.put, List.setIfInBounds_toArray, List.set_cons_zero, List.set_cons_succ, Nat.reduceAdd]
            apply flowL_read _ rfl rfl rfl rfl
            case h =>
              intro W1 hW K hK
              (skip)
              go_wp2_with fail
              exact hK
            simp only [Act.put, List.setIfInBounds_toArray, List.set_cons_zero, List.set_cons_succ, Nat.reduceAdd]
            apply flowL_act rfl rfl rfl
            case h =>
              intro W10 hW K hK
              obtain rfl : W10 = W6.drew.setCell ⟨q, 0, none⟩ (.int .i64 (max f.depth gg.depth)) := hW
              go_wp2_with fail
              exact hK undef _ rfl
            intro v2 hv2
            simp only [Act.put, List.setIfInBounds_toArray, List.set_cons_zero, List.set_cons_succ, Nat.reduceAdd]
            refine flowL_end fun W11 h11 => ?_
            go_wp2_with fail
            go_meet
            exact ⟨_, _, rfl, rfl, h11⟩
        case rest =>
          rename World => W7
          obtain ⟨d1, d2, hd1, hd2, rfl⟩ := hcut
          have hB7 : Blk ((W6.drew.setCell ⟨q, 0, none⟩ (.int .i64 d1)).setCell ⟨q, 1, none⟩ (.int .i64 d2)) q #[.int .i64 d1, .int .i64 d2, .bool f.nullable, .bool f.shaped, .bool f.firm] 115 := ((show Blk W6.drew q _ _ from HBF.out).set 0 (.int .i64 d1)).set 1 (.int .i64 d2)
          have hG7 : Blk ((W6.drew.setCell ⟨q, 0, none⟩ (.int .i64 d1)).setCell ⟨q, 1, none⟩ (.int .i64 d2)) pg (factsC gg) 115 := ((show Blk W6.drew pg _ _ from HBG.out).setOther (p := ⟨q, 0, none⟩) (by show pg ≠ q; omega) _).setOther (p := ⟨q, 1, none⟩) (by show pg ≠ q; omega) _
          have hK7 : Kept (fun x => x = q) Wa ((W6.drew.setCell ⟨q, 0, none⟩ (.int .i64 d1)).setCell ⟨q, 1, none⟩ (.int .i64 d2)) := ((Kept.of_below HBB.out (fun x => x = q)).drew.setCell (p := ⟨q, 0, none⟩) (fun _ => rfl) _).setCell (p := ⟨q, 1, none⟩) (fun _ => rfl) _
          generalize ((W6.drew.setCell ⟨q, 0, none⟩ (.int .i64 d1)).setCell ⟨q, 1, none⟩ (.int .i64 d2)) = W7 at hB7 hG7 hK7 ⊢
          have HB7 := Lib.hid hB7
          have HG7 := Lib.hid hG7
          have HK7 := Lib.hid hK7
          clear x0 x1 x2 x3 x4 y0 y1 y2 y3 y4 u0 u1 u2 u3 u4 xz uz
          obtain ⟨x0, x1, x2, x3, x4, y0, y1, y2, y3, y4⟩ := hB7.five
          obtain ⟨u0, u1, u2, u3, u4, -⟩ := (show Blk W7 pg #[.int .i64 gg.depth, .int .i64 gg.groups, .bool gg.nullable, .bool gg.shaped, .bool gg.firm] 115 from hG7).five
          have xz := hB7.lt
          have uz := hG7.lt
          clear hB7 hG7 hK7
          go_upto_region 7 with fail
          go_cut [] (fun wx => wx = (W7.drew.setCell ⟨q, 3, none⟩ (.bool (f.shaped && gg.shaped))).setCell ⟨q, 4, none⟩ (.bool (f.firm && gg.firm)))
          case first =>
            cases hfs : f.shaped <;> cases hff : f.firm <;> rw [hfs] at x3 <;> rw [hff] at x4
            · apply wp_flowL ?hm ?hok [0, 1, 2, 3, 4, 5, 6, 7, 8, 9, 10, 11, 12, 13, 14, 15] [13, 15] [0, 1, 2, 3, 4, 5, 6, 7, 8, 12] ?hord (fun w' => w'.cell? ⟨pg, 4, none⟩ = some (.bool gg.firm) ∧ pg < w'.heap.size) (fun L w' => match L with | [] => w' = W7.drew | [_] => w' = W7.drew.setCell ⟨q, 3, none⟩ (.bool false) | _ => w' = (W7.drew.setCell ⟨q, 3, none⟩ (.bool false)).setCell ⟨q, 4, none⟩ (.bool false))
              case hm => rfl
              case hok => kernel_rfl
              case hord => kernel_rfl
              case hb =>
                intro L w' h hl
                match L with
                | [] => obtain rfl : w' = W7.drew := h; exact ⟨u4, uz⟩
                | [_] =>
                  obtain rfl : w' = W7.drew.setCell ⟨q, 3, none⟩ (.bool false) := h
                  have hB : Blk W7.drew pg (factsC gg) 115 := HG7.out
                  exact ⟨(hB.setOther (p := ⟨q, 3, none⟩) (by show pg ≠ q; omega) _).cell 4, (hB.setOther (p := ⟨q, 3, none⟩) (by show pg ≠ q; omega) (.bool false)).lt⟩
                | _ :: _ :: _ =>
                  exfalso
                  rw [show (List.filter (fun j => [13, 15].contains j) [0, 1, 2, 3, 4, 5, 6, 7, 8, 9, 10, 11, 12, 13, 14, 15]).length = 2 by decide] at hl
                  simp only [List.length_cons] at hl
                  omega
              case hw => rfl
              case h =>
                iterate 3
                  apply flowL_pin _ rfl rfl rfl rfl
                  case h =>
                    intro W1 hW K hK
                    (obtain rfl : W1 = W7.drew := hW)
                    go_wp2_with fail
                    exact hK
                  simp only [Act.put, List.setIfInBounds_toArray, List.set_cons_zero, List.set_cons_succ, Nat.reduceAdd]
                iterate 2 (apply flowL_no rfl rfl rfl; simp only [Act.put, List.setIfInBounds_toArray, List.set_cons_zero, List.set_cons_succ, Nat.reduceAdd])
                iterate 4
                  apply flowL_pin _ rfl rfl rfl rfl
                  case h =>
                    intro W1 hW K hK
                    (obtain rfl : W1 = W7.drew := hW)
                    go_wp2_with fail
                    exact hK
                  simp only [Act.put, List.setIfInBounds_toArray, List.set_cons_zero, List.set_cons_succ, Nat.reduceAdd]
                iterate 2 (apply flowL_no rfl rfl rfl; simp only [Act.put, List.setIfInBounds_toArray, List.set_cons_zero, List.set_cons_succ, Nat.reduceAdd])
                iterate 1
                  apply flowL_read _ rfl rfl rfl rfl
                  case h =>
                    intro W1 hW K hK
                    (obtain ⟨v1, vz⟩ := hW)
                    go_wp2_with fail
                    exact hK
                  simp only [Act.put, List.setIfInBounds_toArray, List.set_cons_zero, List.set_cons_succ, Nat.reduceAdd]
                iterate 1
                  apply flowL_pin _ rfl rfl rfl rfl
                  case h =>
                    intro W1 hW K hK
                    (obtain rfl : W1 = W7.drew := hW)
                    go_wp2_with fail
                    exact hK
                  simp only [Act.put, List.setIfInBounds_toArray, List.set_cons_zero, List.set_cons_succ, Nat.reduceAdd]
                apply flowL_act rfl rfl rfl
                case h =>
                  intro W10 hW K hK
                  obtain rfl : W10 = W7.drew := hW
                  go_wp2_with fail
                  exact hK undef _ rfl
                intro v1 hv1
                simp only [Act.put, List.setIfInBounds_toArray, List.set_cons_zero, List.set_cons_succ, Nat.reduceAdd]
                apply flowL_read _ rfl rfl rfl rfl
                case h =>
                  intro W1 hW K hK
                  (skip)
                  go_wp2_with fail
                  exact hK
                simp only [Act.put, List.setIfInBounds_toArray, List.set_cons_zero, List.set_cons_succ, Nat.reduceAdd]
                apply flowL_act rfl rfl rfl
                case h =>
                  intro W10 hW K hK
                  obtain rfl : W10 = W7.drew.setCell ⟨q, 3, none⟩ (.bool false) := hW
                  go_wp2_with fail
                  exact hK undef _ rfl
                intro v2 hv2
                simp only [Act.put, List.setIfInBounds_toArray, List.set_cons_zero, List.set_cons_succ, Nat.reduceAdd]
                refine flowL_end fun W11 h11 => ?_
                go_wp2_with fail
                go_meet
                rw [hfs, hff]
                exact h11
            · apply wp_flowL ?hm ?hok [0, 1, 2, 3, 4, 5, 6, 7, 8, 9, 10, 11, 12, 13, 14, 15] [13, 15] [0, 1, 2, 3, 4, 5, 6, 7, 8, 12] ?hord (fun w' => w'.cell? ⟨pg, 4, none⟩ = some (.bool gg.firm) ∧ pg < w'.heap.size) (fun L w' => match L with | [] => w' = W7.drew | [_] => w' = W7.drew.setCell ⟨q, 3, none⟩ (.bool false) | _ => w' = (W7.drew.setCell ⟨q, 3, none⟩ (.bool false)).setCell ⟨q, 4, none⟩ (.bool gg.firm))
              case hm => rfl
              case hok => kernel_rfl
              case hord => kernel_rfl
              case hb =>
                intro L w' h hl
                match L with
                | [] => obtain rfl : w' = W7.drew := h; exact ⟨u4, uz⟩
                | [_] =>
                  obtain rfl : w' = W7.drew.setCell ⟨q, 3, none⟩ (.bool false) := h
                  have hB : Blk W7.drew pg (factsC gg) 115 := HG7.out
                  exact ⟨(hB.setOther (p := ⟨q, 3, none⟩) (by show pg ≠ q; omega) _).cell 4, (hB.setOther (p := ⟨q, 3, none⟩) (by show pg ≠ q; omega) (.bool false)).lt⟩
                | _ :: _ :: _ =>
                  exfalso
                  rw [show (List.filter (fun j => [13, 15].contains j) [0, 1, 2, 3, 4, 5, 6, 7, 8, 9, 10, 11, 12, 13, 14, 15]).length = 2 by decide] at hl
                  simp only [List.length_cons] at hl
                  omega
              case hw => rfl
              case h =>
                iterate 3
                  apply flowL_pin _ rfl rfl rfl rfl
                  case h =>
                    intro W1 hW K hK
                    (obtain rfl : W1 = W7.drew := hW)
                    go_wp2_with fail
                    exact hK
                  simp only [Act.put, List.setIfInBounds_toArray, List.set_cons_zero, List.set_cons_succ, Nat.reduceAdd]
                iterate 2 (apply flowL_no rfl rfl rfl; simp only [Act.put, List.setIfInBounds_toArray, List.set_cons_zero, List.set_cons_succ, Nat.reduceAdd])
                iterate 4
                  apply flowL_pin _ rfl rfl rfl rfl
                  case h =>
                    intro W1 hW K hK
                    (obtain rfl : W1 = W7.drew := hW)
                    go_wp2_with fail
                    exact hK
                  simp only [Act.put, List.setIfInBounds_toArray, List.set_cons_zero, List.set_cons_succ, Nat.reduceAdd]
                iterate 2
                  apply flowL_read _ rfl rfl rfl rfl
                  case h =>
                    intro W1 hW K hK
                    (obtain ⟨v1, vz⟩ := hW)
                    go_wp2_with fail
                    exact hK
                  simp only [Act.put, List.setIfInBounds_toArray, List.set_cons_zero, List.set_cons_succ, Nat.reduceAdd]
                iterate 1
                  apply flowL_read _ rfl rfl rfl rfl
                  case h =>
                    intro W1 hW K hK
                    (obtain ⟨v1, vz⟩ := hW)
                    go_wp2_with fail
                    exact hK
                  simp only [Act.put, List.setIfInBounds_toArray, List.set_cons_zero, List.set_cons_succ, Nat.reduceAdd]
                iterate 1
                  apply flowL_pin _ rfl rfl rfl rfl
                  case h =>
                    intro W1 hW K hK
                    (obtain rfl : W1 = W7.drew := hW)
                    go_wp2_with fail
                    exact hK
                  simp only [Act.put, List.setIfInBounds_toArray, List.set_cons_zero, List.set_cons_succ, Nat.reduceAdd]
                apply flowL_act rfl rfl rfl
                case h =>
                  intro W10 hW K hK
                  obtain rfl : W10 = W7.drew := hW
                  go_wp2_with fail
                  exact hK undef _ rfl
                intro v1 hv1
                simp only [Act.put, List.setIfInBounds_toArray, List.set_cons_zero, List.set_cons_succ, Nat.reduceAdd]
                apply flowL_read _ rfl rfl rfl rfl
                case h =>
                  intro W1 hW K hK
                  (skip)
                  go_wp2_with fail
                  exact hK
                simp only [Act.put, List.setIfInBounds_toArray, List.set_cons_zero, List.set_cons_succ, Nat.reduceAdd]
                apply flowL_act rfl rfl rfl
                case h =>
                  intro W10 hW K hK
                  obtain rfl : W10 = W7.drew.setCell ⟨q, 3, none⟩ (.bool false) := hW
                  go_wp2_with fail
                  exact hK undef _ rfl
                intro v2 hv2
                simp only [Act.put, List.setIfInBounds_toArray, List.set_cons_zero, List.set_cons_succ, Nat.reduceAdd]
                refine flowL_end fun W11 h11 => ?_
                go_wp2_with fail
                go_meet
                rw [hfs, hff]
                exact h11
            · apply wp_flowL ?hm ?hok [0, 1, 2, 3, 4, 5, 6, 7, 8, 9, 10, 11, 12, 13, 14, 15] [13, 15] [0, 1, 2, 3, 4, 5, 6, 7, 8, 12] ?hord (fun w' => w'.cell? ⟨pg, 4, none⟩ = some (.bool gg.firm) ∧ pg < w'.heap.size) (fun L w' => match L with | [] => w' = W7.drew | [_] => w' = W7.drew.setCell ⟨q, 3, none⟩ (.bool gg.shaped) | _ => w' = (W7.drew.setCell ⟨q, 3, none⟩ (.bool gg.shaped)).setCell ⟨q, 4, none⟩ (.bool false))
              case hm => rfl
              case hok => kernel_rfl
              case hord => kernel_rfl
              case hb =>
                intro L w' h hl
                match L with
                | [] => obtain rfl : w' = W7.drew := h; exact ⟨u4, uz⟩
                | [_] =>
                  obtain rfl : w' = W7.drew.setCell ⟨q, 3, none⟩ (.bool gg.shaped) := h
                  have hB : Blk W7.drew pg (factsC gg) 115 := HG7.out
                  exact ⟨(hB.setOther (p := ⟨q, 3, none⟩) (by show pg ≠ q; omega) _).cell 4, (hB.setOther (p := ⟨q, 3, none⟩) (by show pg ≠ q; omega) (.bool gg.shaped)).lt⟩
                | _ :: _ :: _ =>
                  exfalso
                  rw [show (List.filter (fun j => [13, 15].contains j) [0, 1, 2, 3, 4, 5, 6, 7, 8, 9, 10, 11, 12, 13, 14, 15]).length = 2 by decide] at hl
                  simp only [List.length_cons] at hl
                  omega
              case hw => rfl
              case h =>
                iterate 3
                  apply flowL_pin _ rfl rfl rfl rfl
                  case h =>
                    intro W1 hW K hK
                    (obtain rfl : W1 = W7.drew := hW)
                    go_wp2_with fail
                    exact hK
                  simp only [Act.put, List.setIfInBounds_toArray, List.set_cons_zero, List.set_cons_succ, Nat.reduceAdd]
                iterate 2
                  apply flowL_pin _ rfl rfl rfl rfl
                  case h =>
                    intro W1 hW K hK
                    (obtain rfl : W1 = W7.drew := hW)
                    go_wp2_with fail
                    exact hK
                  simp only [Act.put, List.setIfInBounds_toArray, List.set_cons_zero, List.set_cons_succ, Nat.reduceAdd]
                iterate 4
                  apply flowL_pin _ rfl rfl rfl rfl
                  case h =>
                    intro W1 hW K hK
                    (obtain rfl : W1 = W7.drew := hW)
                    go_wp2_with fail
                    exact hK
                  simp only [Act.put, List.setIfInBounds_toArray, List.set_cons_zero, List.set_cons_succ, Nat.reduceAdd]
                iterate 2 (apply flowL_no rfl rfl rfl; simp only [Act.put, List.setIfInBounds_toArray, List.set_cons_zero, List.set_cons_succ, Nat.reduceAdd])
                iterate 1
                  apply flowL_read _ rfl rfl rfl rfl
                  case h =>
                    intro W1 hW K hK
                    (obtain ⟨v1, vz⟩ := hW)
                    go_wp2_with fail
                    exact hK
                  simp only [Act.put, List.setIfInBounds_toArray, List.set_cons_zero, List.set_cons_succ, Nat.reduceAdd]
                iterate 1
                  apply flowL_pin _ rfl rfl rfl rfl
                  case h =>
                    intro W1 hW K hK
                    (obtain rfl : W1 = W7.drew := hW)
                    go_wp2_with fail
                    exact hK
                  simp only [Act.put, List.setIfInBounds_toArray, List.set_cons_zero, List.set_cons_succ, Nat.reduceAdd]
                apply flowL_act rfl rfl rfl
                case h =>
                  intro W10 hW K hK
                  obtain rfl : W10 = W7.drew := hW
                  go_wp2_with fail
                  exact hK undef _ rfl
                intro v1 hv1
                simp only [Act.put, List.setIfInBounds_toArray, List.set_cons_zero, List.set_cons_succ, Nat.reduceAdd]
                apply flowL_read _ rfl rfl rfl rfl
                case h =>
                  intro W1 hW K hK
                  (skip)
                  go_wp2_with fail
                  exact hK
                simp only [Act.put, List.setIfInBounds_toArray, List.set_cons_zero, List.set_cons_succ, Nat.reduceAdd]
                apply flowL_act rfl rfl rfl
                case h =>
                  intro W10 hW K hK
                  obtain rfl : W10 = W7.drew.setCell ⟨q, 3, none⟩ (.bool gg.shaped) := hW
                  go_wp2_with fail
                  exact hK undef _ rfl
                intro v2 hv2
                simp only [Act.put, List.setIfInBounds_toArray, List.set_cons_zero, List.set_cons_succ, Nat.reduceAdd]
                refine flowL_end fun W11 h11 => ?_
                go_wp2_with fail
                go_meet
                rw [hfs, hff]
                exact h11
            · apply wp_flowL ?hm ?hok [0, 1, 2, 3, 4, 5, 6, 7, 8, 9, 10, 11, 12, 13, 14, 15] [13, 15] [0, 1, 2, 3, 4, 5, 6, 7, 8, 12] ?hord (fun w' => w'.cell? ⟨pg, 4, none⟩ = some (.bool gg.firm) ∧ pg < w'.heap.size) (fun L w' => match L with | [] => w' = W7.drew | [_] => w' = W7.drew.setCell ⟨q, 3, none⟩ (.bool gg.shaped) | _ => w' = (W7.drew.setCell ⟨q, 3, none⟩ (.bool gg.shaped)).setCell ⟨q, 4, none⟩ (.bool gg.firm))
              case hm => rfl
              case hok => kernel_rfl
              case hord => kernel_rfl
              case hb =>
                intro L w' h hl
                match L with
                | [] => obtain rfl : w' = W7.drew := h; exact ⟨u4, uz⟩
                | [_] =>
                  obtain rfl : w' = W7.drew.setCell ⟨q, 3, none⟩ (.bool gg.shaped) := h
                  have hB : Blk W7.drew pg (factsC gg) 115 := HG7.out
                  exact ⟨(hB.setOther (p := ⟨q, 3, none⟩) (by show pg ≠ q; omega) _).cell 4, (hB.setOther (p := ⟨q, 3, none⟩) (by show pg ≠ q; omega) (.bool gg.shaped)).lt⟩
                | _ :: _ :: _ =>
                  exfalso
                  rw [show (List.filter (fun j => [13, 15].contains j) [0, 1, 2, 3, 4, 5, 6, 7, 8, 9, 10, 11, 12, 13, 14, 15]).length = 2 by decide] at hl
                  simp only [List.length_cons] at hl
                  omega
              case hw => rfl
              case h =>
                iterate 3
                  apply flowL_pin _ rfl rfl rfl rfl
                  case h =>
                    intro W1 hW K hK
                    (obtain rfl : W1 = W7.drew := hW)
                    go_wp2_with fail
                    exact hK
                  simp only [Act.put, List.setIfInBounds_toArray, List.set_cons_zero, List.set_cons_succ, Nat.reduceAdd]
                iterate 2
                  apply flowL_pin _ rfl rfl rfl rfl
                  case h =>
                    intro W1 hW K hK
                    (obtain rfl : W1 = W7.drew := hW)
                    go_wp2_with fail
                    exact hK
                  simp only [Act.put, List.setIfInBounds_toArray, List.set_cons_zero, List.set_cons_succ, Nat.reduceAdd]
                iterate 4
                  apply flowL_pin _ rfl rfl rfl rfl
                  case h =>
                    intro W1 hW K hK
                    (obtain rfl : W1 = W7.drew := hW)
                    go_wp2_with fail
                    exact hK
                  simp only [Act.put, List.setIfInBounds_toArray, List.set_cons_zero, List.set_cons_succ, Nat.reduceAdd]
                iterate 2
                  apply flowL_read _ rfl rfl rfl rfl
                  case h =>
                    intro W1 hW K hK
                    (obtain ⟨v1, vz⟩ := hW)
                    go_wp2_with fail
                    exact hK
                  simp only [Act.put, List.setIfInBounds_toArray, List.set_cons_zero, List.set_cons_succ, Nat.reduceAdd]
                iterate 1
                  apply flowL_read _ rfl rfl rfl rfl
                  case h =>
                    intro W1 hW K hK
                    (obtain ⟨v1, vz⟩ := hW)
                    go_wp2_with fail
                    exact hK
                  simp only [Act.put, List.setIfInBounds_toArray, List.set_cons_zero, List.set_cons_succ, Nat.reduceAdd]
                iterate 1
                  apply flowL_pin _ rfl rfl rfl rfl
                  case h =>
                    intro W1 hW K hK
                    (obtain rfl : W1 = W7.drew := hW)
                    go_wp2_with fail
                    exact hK
                  simp only [Act.put, List.setIfInBounds_toArray, List.set_cons_zero, List.set_cons_succ, Nat.reduceAdd]
                apply flowL_act rfl rfl rfl
                case h =>
                  intro W10 hW K hK
                  obtain rfl : W10 = W7.drew := hW
                  go_wp2_with fail
                  exact hK undef _ rfl
                intro v1 hv1
                simp only [Act.put, List.setIfInBounds_toArray, List.set_cons_zero, List.set_cons_succ, Nat.reduceAdd]
                apply flowL_read _ rfl rfl rfl rfl
                case h =>
                  intro W1 hW K hK
                  (skip)
                  go_wp2_with fail
                  exact hK
                simp only [Act.put, List.setIfInBounds_toArray, List.set_cons_zero, List.set_cons_succ, Nat.reduceAdd]
                apply flowL_act rfl rfl rfl
                case h =>
                  intro W10 hW K hK
                  obtain rfl : W10 = W7.drew.setCell ⟨q, 3, none⟩ (.bool gg.shaped) := hW
                  go_wp2_with fail
                  exact hK undef _ rfl
                intro v2 hv2
                simp only [Act.put, List.setIfInBounds_toArray, List.set_cons_zero, List.set_cons_succ, Nat.reduceAdd]
                refine flowL_end fun W11 h11 => ?_
                go_wp2_with fail
                go_meet
                rw [hfs, hff]
                exact h11
          case rest =>
            rename World => W8
            obtain rfl := hcut
            have hB8 := ((show Blk W7.drew q _ _ from HB7.out).set 3 (.bool (f.shaped && gg.shaped))).set 4 (.bool (f.firm && gg.firm))
            have hG8 := ((show Blk W7.drew pg (factsC gg) 115 from HG7.out).setOther (p := ⟨q, 3, none⟩) (by show pg ≠ q; omega) (.bool (f.shaped && gg.shaped))).setOther (p := ⟨q, 4, none⟩) (by show pg ≠ q; omega) (.bool (f.firm && gg.firm))
            have hK8 : Kept (fun x => x = q) Wa ((W7.drew.setCell ⟨q, 3, none⟩ (.bool (f.shaped && gg.shaped))).setCell ⟨q, 4, none⟩ (.bool (f.firm && gg.firm))) := (HK7.out.drew.setCell (p := ⟨q, 3, none⟩) (fun _ => rfl) _).setCell (p := ⟨q, 4, none⟩) (fun _ => rfl) _
            have hB8' : Blk ((W7.drew.setCell ⟨q, 3, none⟩ (.bool (f.shaped && gg.shaped))).setCell ⟨q, 4, none⟩ (.bool (f.firm && gg.firm))) q #[.int .i64 d1, .int .i64 d2, .bool f.nullable, .bool (f.shaped && gg.shaped), .bool (f.firm && gg.firm)] 115 := hB8
            generalize ((W7.drew.setCell ⟨q, 3, none⟩ (.bool (f.shaped && gg.shaped))).setCell ⟨q, 4, none⟩ (.bool (f.firm && gg.firm))) = W8 at hB8' hG8 hK8 ⊢
            have HB8 := Lib.hid hB8'
            have HK8 := Lib.hid hK8
            have a2 : W8.cell? ⟨q, 2, none⟩ = some (.bool f.nullable) := hB8'.cell 2
            have a2f := hB8'.frozen 2
            have az := hB8'.lt
            have e2 : W8.cell? ⟨pg, 2, none⟩ = some (.bool gg.nullable) := hG8.cell 2
            have ez := hG8.lt
            have hkN : W8.cell? ⟨w.heap.size, 0, none⟩ = some (.int .u8 k) ∧ w.heap.size < W8.heap.size := by
              have h1 := ((HB2.out.below HBC.out HB2.out.lt).kept HKA.out (by omega)).kept hK8 (by omega)
              exact ⟨h1.cell 0, h1.lt⟩
            obtain ⟨k0, kz⟩ := hkN
            have HD1 := Lib.hid hd1
            have HD2 := Lib.hid hd2
            clear hB8 hB8' hG8 hK8 x0 x1 x2 x3 x4 y0 y1 y2 y3 y4 u0 u1 u2 u3 u4 xz uz hd1 hd2
            by_cases k3 : k = 3
            · subst k3
              cases hfn : f.nullable <;> rw [hfn] at a2
              · go_wp2_with fail
                go_roundw
                case rel => exact ⟨i + 1, by omega, by go_num, by rw [HSTEP.out]; exact lk_put HB8.out HD1.out HD2.out (v := false) (by simp [stepL, hfn]), HKA.out.trans (HK8.out.setCell (p := ⟨q, 2, none⟩) (fun _ => rfl) _)⟩
                case measure => simp [intOf]; omega
              · go_wp2_with fail
                go_roundw
                case rel => exact ⟨i + 1, by omega, by go_num, by rw [HSTEP.out]; exact lk_put HB8.out HD1.out HD2.out (v := gg.nullable) (by simp [stepL, hfn]), HKA.out.trans (HK8.out.setCell (p := ⟨q, 2, none⟩) (fun _ => rfl) _)⟩
                case measure => simp [intOf]; omega
            · have k3b : (k == 3) = false := by simpa using k3
              cases hfn : f.nullable <;> rw [hfn] at a2
              · go_wp2_with fail
                go_roundw
                case rel => exact ⟨i + 1, by omega, by go_num, by rw [HSTEP.out]; exact lk_put HB8.out HD1.out HD2.out (v := gg.nullable) (by simp [stepL, hfn, k3]), HKA.out.trans (HK8.out.setCell (p := ⟨q, 2, none⟩) (fun _ => rfl) _)⟩
                case measure => simp [intOf]; omega
              · go_wp2_with fail
                go_roundw
                case rel => exact ⟨i + 1, by omega, by go_num, by rw [HSTEP.out]; exact lk_put HB8.out HD1.out HD2.out (v := true) (by simp [stepL, hfn, k3]), HKA.out.trans (HK8.out.setCell (p := ⟨q, 2, none⟩) (fun _ => rfl) _)⟩
                case measure => simp [intOf]; omega
end Go.Proofs.YtnhjakdmbfadlaaGreatDoor

/- Right trees. -/
namespace Go.Proofs.YtnhjakdmbfadlaaGreatDoor
open Go.RowKit Wy Mem Grow

theorem vis_all : ∀ t : Nd, VisSpec t
  | .mk k set lo hi lazy subs => vis_step (fun s hs => vis_all s)
termination_by t => SizeOf.sizeOf t
decreasing_by
  have := List.sizeOf_lt_of_mem hs
  simp
  omega
set_option maxHeartbeats 2000000 in
theorem factsR_any (f : Facts) (w : World) : Calls Tryz.prog 51 #[.agg (factsC f)] w fun e w' => e = .returned (.bool (rightF f)) ∧ Below w.heap.size w w' := by
  obtain ⟨d, g, nl, sh, fi⟩ := f
  unfold factsC rightF
  simp only
  cases sh <;> cases fi
  · go_enter Tryz.func51, Tryz.ntmps51
    go_wp2
    go_ret
    exact ⟨rfl, (Below.refl _ _).alloc (Nat.le_refl _) _⟩
  · go_enter Tryz.func51, Tryz.ntmps51
    go_wp2
    go_ret
    exact ⟨rfl, (Below.refl _ _).alloc (Nat.le_refl _) _⟩
  · go_enter Tryz.func51, Tryz.ntmps51
    go_wp2
    go_ret
    exact ⟨rfl, (Below.refl _ _).alloc (Nat.le_refl _) _⟩
  · by_cases hg : g ≤ 30
    · by_cases hd : d ≤ 40
      · go_enter Tryz.func51, Tryz.ntmps51
        go_wp2
        go_ret
        exact ⟨by simp [hg, hd], (Below.refl _ _).alloc (Nat.le_refl _) _⟩
      · have hd' : decide (d ≤ 40) = false := by simpa using hd
        go_enter Tryz.func51, Tryz.ntmps51
        go_wp2
        go_ret
        exact ⟨by simp [hg, hd], (Below.refl _ _).alloc (Nat.le_refl _) _⟩
    · have hg' : decide (g ≤ 30) = false := by simpa using hg
      go_enter Tryz.func51, Tryz.ntmps51
      go_wp2
      go_ret
      exact ⟨by simp [hg], (Below.refl _ _).alloc (Nat.le_refl _) _⟩
set_option maxHeartbeats 2000000 in
theorem look_any {N : Nat → Prop} {w : World} {t : Nd} {cs : List Value} (h : NdAt N w t cs) (hno : nodes t ≤ 1000000) : Calls Tryz.prog 50 #[.agg cs.toArray] w fun e w' => e = .returned (.agg (factsC (Wy.look t))) ∧ Below w.heap.size w w' := by
  have HN := Lib.hid h
  obtain ⟨k, set, lo, hi, lazy, subs⟩ := t
  rw [NdAt] at h
  obtain ⟨sv, uv, ucs, rfl, hk, hlo, hhi, hset, hrow, hsubs⟩ := h
  obtain ⟨os, cs, rfl⟩ := hset.row.slice
  obtain ⟨ou, cu, rfl⟩ := hrow.slice
  clear hset hrow hsubs hk hlo hhi
  go_enter Tryz.func50, Tryz.ntmps50
  go_upto_region 3 with fail
  have B1 : Blk (((w.alloc (.cells #[.int .u8 k, .slice os set.length cs, .int .i64 lo, .int .i64 hi, .bool lazy, .slice ou subs.length cu] 27)).alloc (.cells #[.int .i64 0, .int .i64 0, .bool false, .bool false, .bool false] 115)).alloc (.cells #[.func (.func 75) #[] #[.pointer (some ⟨w.heap.size + 1 + 1, 0, none⟩)]] 116)) w.heap.size #[.int .u8 k, .slice os set.length cs, .int .i64 lo, .int .i64 hi, .bool lazy, .slice ou subs.length cu] 27 := ((Blk.new _ _ _).alloc _).alloc _
  have B2 : Blk (((w.alloc (.cells #[.int .u8 k, .slice os set.length cs, .int .i64 lo, .int .i64 hi, .bool lazy, .slice ou subs.length cu] 27)).alloc (.cells #[.int .i64 0, .int .i64 0, .bool false, .bool false, .bool false] 115)).alloc (.cells #[.func (.func 75) #[] #[.pointer (some ⟨w.heap.size + 1 + 1, 0, none⟩)]] 116)) (w.heap.size + 1) #[.int .i64 0, .int .i64 0, .bool false, .bool false, .bool false] 115 := (Blk.new' _ _ (by simp)).alloc _
  have B3 : Blk (((w.alloc (.cells #[.int .u8 k, .slice os set.length cs, .int .i64 lo, .int .i64 hi, .bool lazy, .slice ou subs.length cu] 27)).alloc (.cells #[.int .i64 0, .int .i64 0, .bool false, .bool false, .bool false] 115)).alloc (.cells #[.func (.func 75) #[] #[.pointer (some ⟨w.heap.size + 1 + 1, 0, none⟩)]] 116)) (w.heap.size + 1 + 1) #[visV (w.heap.size + 1 + 1)] 116 := Blk.new' _ _ (by simp)
  have hbW : Below w.heap.size w (((w.alloc (.cells #[.int .u8 k, .slice os set.length cs, .int .i64 lo, .int .i64 hi, .bool lazy, .slice ou subs.length cu] 27)).alloc (.cells #[.int .i64 0, .int .i64 0, .bool false, .bool false, .bool false] 115)).alloc (.cells #[.func (.func 75) #[] #[.pointer (some ⟨w.heap.size + 1 + 1, 0, none⟩)]] 116)) := (((Below.refl _ _).alloc (Nat.le_refl _) _).alloc (by simp) _).alloc (by simp; omega) _
  generalize (((w.alloc (.cells #[.int .u8 k, .slice os set.length cs, .int .i64 lo, .int .i64 hi, .bool lazy, .slice ou subs.length cu] 27)).alloc (.cells #[.int .i64 0, .int .i64 0, .bool false, .bool false, .bool false] 115)).alloc (.cells #[.func (.func 75) #[] #[.pointer (some ⟨w.heap.size + 1 + 1, 0, none⟩)]] 116)) = W at B1 B2 B3 hbW ⊢
  have hcall := vis_all (.mk k set lo hi lazy subs) N W (w.heap.size + 1 + 1) _ (NdAt.go (Kept.of_below hbW (fun _ => False)) (fun q _ hn => ⟨id, hn⟩) HN.out) (B3.cell 0) B3.lt hno
  obtain ⟨f, hf⟩ : ∃ f, f = Wy.look (.mk k set lo hi lazy subs) := ⟨_, rfl⟩
  rw [← hf] at hcall
  have HF := Lib.hid hf
  have s3 : W.cell? ⟨w.heap.size + 1 + 1, 0, none⟩ = some (.func (.func 75) #[] #[.pointer (some ⟨w.heap.size + 1 + 1, 0, none⟩)]) := B3.cell 0
  have z3 := B3.lt
  obtain ⟨n0, n1, n2, n3, n4, n5⟩ : W.cell? ⟨w.heap.size, 0, none⟩ = some (.int .u8 k) ∧ W.cell? ⟨w.heap.size, 1, none⟩ = some (.slice os set.length cs) ∧ W.cell? ⟨w.heap.size, 2, none⟩ = some (.int .i64 lo) ∧ W.cell? ⟨w.heap.size, 3, none⟩ = some (.int .i64 hi) ∧ W.cell? ⟨w.heap.size, 4, none⟩ = some (.bool lazy) ∧ W.cell? ⟨w.heap.size, 5, none⟩ = some (.slice ou subs.length cu) := ⟨B1.cell 0, B1.cell 1, B1.cell 2, B1.cell 3, B1.cell 4, B1.cell 5⟩
  have z1 := B1.lt
  have z2 := B2.lt
  simp only [factsC] at hcall
  have HCALL := Lib.hid hcall
  have HB2 := Lib.hid B2
  have HBW := Lib.hid hbW
  clear hcall B1 B2 B3 hbW hf
  go_wp2_with (first | (go_at_call 75; refine HCALL.out.mono ?_; rintro e w5 ⟨rfl, hb5⟩; have HB5 := Lib.hid hb5; have B5 := HB2.out.below hb5 z2; obtain ⟨c0, c1, c2, c3, c4, f0, f1, f2, f3, f4⟩ := B5.five; have z5 := B5.lt; have HB25 := Lib.hid B5; clear hb5 B5))
  have hfin := ((((HB25.out.set 0 (.int .i64 f.depth)).set 1 (.int .i64 f.groups)).set 2 (.bool f.nullable)).set 3 (.bool f.shaped)).set 4 (.bool f.firm)
  obtain ⟨d0, d1, d2, d3, d4, -⟩ := hfin.five
  have hbl : Below w.heap.size w w5 := HBW.out.trans (HB5.out.mono HBW.out.size)
  refine bodyPost_ret (v := .agg #[.int .i64 f.depth, .int .i64 f.groups, .bool f.nullable, .bool f.shaped, .bool f.firm]) (by simp [results, Tryz.results50, go_sem, d0, d1, d2, d3, d4]) rfl ⟨by rw [← HF.out]; rfl, ?_⟩
  exact ((((hbl.setCell (by show w.heap.size ≤ w.heap.size + 1; omega) _).setCell (by show w.heap.size ≤ w.heap.size + 1; omega) _).setCell (by show w.heap.size ≤ w.heap.size + 1; omega) _).setCell (by show w.heap.size ≤ w.heap.size + 1; omega) _).setCell (by show w.heap.size ≤ w.heap.size + 1; omega) _
set_option maxHeartbeats 2000000 in
theorem sRight_any {N : Nat → Prop} {w : World} {t : Nd} {cs : List Value} (h : NdAt N w t cs) (hno : nodes t ≤ 1000000) : Calls Tryz.prog 40 #[.agg cs.toArray] w fun e w' => e = .returned (.bool (right t)) ∧ Below w.heap.size w w' := by
  have hl : ∀ w', Below w.heap.size w w' → Calls Tryz.prog 50 #[.agg cs.toArray] w' fun e w'' => e = .returned (.agg (factsC (Wy.look t))) ∧ Below w'.heap.size w' w'' := fun w' hb => look_any (NdAt.go (Kept.of_below hb (fun _ => False)) (fun q _ hn => ⟨id, hn⟩) h) hno
  obtain ⟨k, set, lo, hi, lazy, subs⟩ := t
  rw [NdAt] at h
  obtain ⟨sv, uv, ucs, rfl, hk, hlo, hhi, hset, hrow, hsubs⟩ := h
  obtain ⟨os, cs, rfl⟩ := hset.row.slice
  obtain ⟨ou, cu, rfl⟩ := hrow.slice
  have HL := Lib.hid hl
  obtain ⟨f, hf⟩ : ∃ f, f = Wy.look (.mk k set lo hi lazy subs) := ⟨_, rfl⟩
  unfold right
  rw [← hf]
  rw [← hf] at HL
  have hr := fun w => factsR_any f w
  have HR := Lib.hid hr
  clear hset hrow hsubs hk hlo hhi hl hr hf
  go_enter Tryz.func40, Tryz.ntmps40
  go_wp2_with (first | (go_at_call 50; refine (HL.out _ ((Below.refl _ _).alloc (Nat.le_refl _) _)).mono ?_; rintro e w1 ⟨rfl, hb1⟩; have hbA : Below w.heap.size w w1 := ((Below.refl _ _).alloc (Nat.le_refl _) _).trans (hb1.mono (by simp))) | (go_at_call 51; refine (HR.out _).mono ?_; rintro e w2 ⟨rfl, hb2⟩; have hbB : Below w.heap.size w w2 := hbA.trans (hb2.mono hbA.size)))
  go_ret
  exact ⟨rfl, hbB⟩
end Go.Proofs.YtnhjakdmbfadlaaGreatDoor
