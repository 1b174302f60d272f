/- (*Wheel).Wake: the least tick at which anything happens, whatever the order of the map. -/
import Derived.Test.YtokgfmibhkkiaaaOps
import Derived.Maps.RangeWalk
namespace Go.Proofs.Ytokgfmibhkkiaaa
open Go.RowKit Wh Mem Go.Maps

/-- the best of those that have been -/
def Best (l : List Mb) (now : Int) (done : Mb → Prop) (b : Int) : Prop :=
  (b = -1 ∧ ∀ m ∈ l, done m → wakeOf m.plan m.phase now = none) ∨
  (0 ≤ b ∧ (∃ m ∈ l, done m ∧ wakeOf m.plan m.phase now = some b) ∧ ∀ m ∈ l, done m → ∀ t, wakeOf m.plan m.phase now = some t → b ≤ t)

theorem best_start (l : List Mb) (now : Int) {done : Mb → Prop} (h : ∀ m ∈ l, ¬ done m) : Best l now done (-1) := .inl ⟨rfl, fun m hm hd => absurd hd (h m hm)⟩
theorem best_none {l : List Mb} {now b : Int} {done done' : Mb → Prop} (h : Best l now done b) {x : Mb} (hd : ∀ m ∈ l, done' m ↔ done m ∨ m = x) (hx : wakeOf x.plan x.phase now = none) : Best l now done' b := by
  rcases h with ⟨h1, h2⟩ | ⟨h1, ⟨y, hy, hyd, hyw⟩, h3⟩
  · refine .inl ⟨h1, fun m hm hm' => ?_⟩
    rcases (hd m hm).1 hm' with g | rfl
    · exact h2 m hm g
    · exact hx
  · refine .inr ⟨h1, ⟨y, hy, (hd y hy).2 (.inl hyd), hyw⟩, fun m hm hm' t ht => ?_⟩
    rcases (hd m hm).1 hm' with g | rfl
    · exact h3 m hm g t ht
    · rw [hx] at ht; cases ht
theorem best_keep {l : List Mb} {now b t : Int} {done done' : Mb → Prop} (h : Best l now done b) {x : Mb} (hd : ∀ m ∈ l, done' m ↔ done m ∨ m = x) (hx : wakeOf x.plan x.phase now = some t) (hb : 0 ≤ b) (hbt : b ≤ t) : Best l now done' b := by
  rcases h with ⟨h1, h2⟩ | ⟨h1, ⟨y, hy, hyd, hyw⟩, h3⟩
  · omega
  · refine .inr ⟨h1, ⟨y, hy, (hd y hy).2 (.inl hyd), hyw⟩, fun m hm hm' u hu => ?_⟩
    rcases (hd m hm).1 hm' with g | rfl
    · exact h3 m hm g u hu
    · rw [hx] at hu; cases hu; exact hbt
theorem best_new {l : List Mb} {now b t : Int} {done done' : Mb → Prop} (h : Best l now done b) {x : Mb} (hxl : x ∈ l) (hd : ∀ m ∈ l, done' m ↔ done m ∨ m = x) (hx : wakeOf x.plan x.phase now = some t) (ht : 0 ≤ t) (hb : b < 0 ∨ t < b) : Best l now done' t := by
  refine .inr ⟨ht, ⟨x, hxl, (hd x hxl).2 (.inr rfl), hx⟩, fun m hm hm' u hu => ?_⟩
  rcases (hd m hm).1 hm' with g | rfl
  · rcases h with ⟨h1, h2⟩ | ⟨h1, _, h3⟩
    · rw [h2 m hm g] at hu; cases hu
    · have := h3 m hm g u hu; omega
  · rw [hx] at hu; cases hu; exact Int.le_refl _

/-- what Wake returns: none, or the least tick -/
def IsWake (l : List Mb) (now : Int) : Option Int → Prop
  | none => ∀ m ∈ l, wakeOf m.plan m.phase now = none
  | some t => (∃ m ∈ l, wakeOf m.plan m.phase now = some t) ∧ ∀ m ∈ l, ∀ u, wakeOf m.plan m.phase now = some u → t ≤ u
def wakeRes6 (r : Option Int) : Array Value := match r with
  | some t => #[.int .i64 t, .int .i64 0]
  | none => #[.int .i64 0, .int .i64 6]

theorem memD_atKey_inv {l : List Mb} {x : Int} {y : DataW Unit} (h : ∀ zd, (memD l).atKey (.int .i64 x) zd = y) : ∃ m, findM l x = some m ∧ y = .lit (.int .i64 m.blk) := by
  cases hf : findM l x with
  | some m => have := h .nil; rw [memD_atKey, hf] at this; exact ⟨m, rfl, this.symm⟩
  | none =>
    have h1 := h .nil
    have h2 := h (.lit (.int .i64 0))
    rw [memD_atKey, hf] at h1 h2
    simp only at h1 h2
    rw [← h2] at h1; cases h1

def ptrV : Option Nat → Value
  | none => .pointer none
  | some b => .pointer (some ⟨b, 0, none⟩)
theorem Rp_inv (v : Value) (y : DataW Unit × List MemPlace) (h : Rp v = some y) : ∃ c, v = ptrV c := by
  unfold Rp at h
  split at h
  · exact ⟨none, rfl⟩
  · exact ⟨some _, rfl⟩
  · cases h
theorem keyInv3 (key : Value) (kl : Lit) (h : keyOf Try.prog 3 key = some kl) : ∃ x, key = .int .i64 x := by
  obtain ⟨x, h1, _⟩ := Maps.keyOf_int_inv under3 h; exact ⟨x, h1⟩

theorem ranges_below {w w' : World} {mb r n cnt : Nat} {D : DataW Unit} {left : Lit → Bool} (h : w.ranges Try.prog 3 Rp mb r n D left cnt) (k : Below w.heap.size w w') : w'.ranges Try.prog 3 Rp mb r n D left cnt :=
  h.kept (row := none) ⟨k.os, k.tape, k.output, k.size, fun i hi _ => k.block i hi⟩ (by simp) (by simp)

set_option maxHeartbeats 2000000 in
set_option maxRecDepth 100000 in
theorem wakeW_any {w : World} {pb mb : Nat} {now : Int} {l : List Mb} (h : WheelAt w pb mb now l) :
    Calls Try.prog 12 #[.pointer (some ⟨pb, 0, none⟩)] w fun e w' => ∃ r, e = .returned (.tuple (wakeRes6 r)) ∧ IsWake l now r ∧ Below w.heap.size w w' := by
  obtain ⟨g0, g1, g2, _⟩ := h.head.three
  have hi := isw_yes h.head
  have HI := Lib.hid hi
  have H := Lib.hid h
  have hpb := h.head.lt
  have hmap := h.map
  have HM := Lib.hid hmap
  clear hi h hmap
  go_enter Try.func12, Try.ntmps12
  go_wp2_with (first
    | (go_at_call 36; refine (HI.out).mono ?_; rintro e w1 ⟨rfl, rfl⟩)
    | (at_range; refine wpList_range_own _ rfl _ 77 rfl 3 80 keyed3 under77 Rp mb l.length (memD l) rfl HM.out ?_; intro w0 hrg0 hg0 hs0))
  go_frame
  have hb0 : Below w.heap.size w w0 := ⟨hg0.os, hg0.tape, hg0.output, hg0.size, fun k hk => hg0.block k hk (by simp)⟩
  clear hg0
  go_loopw [4] (fun v wr => ∃ (left : Lit → Bool) (cnt : Nat) (b : Int), v = .int .i64 b ∧ wr.ranges Try.prog 3 Rp mb w.heap.size l.length (memD l) left cnt ∧ Below w.heap.size w wr ∧ w.heap.size < wr.heap.size ∧ Best l now (fun m => left (.int .i64 m.id) = false) b) (fun _ wr => wr.rangeLeft mb w.heap.size)
  case atStart =>
    refine ⟨_, _, -1, rfl, hrg0, hb0, by omega, best_start _ _ fun m hm => ?_⟩
    have : Maps.has (memD l) (.int .i64 m.id) = true := by
      unfold memD
      rw [Maps.has_eq, List.any_map, List.any_eq_true]
      exact ⟨m, hm, by simp [Lit.sameKey]⟩
    rw [this]; simp
  case round =>
    obtain ⟨left, cnt, b, rfl, hrg, hbr, hzr, hbest⟩ := hrel
    have HBest := Lib.hid hbest
    clear hbest
    go_wp2_with (first
      | (at_next; refine wpList_next_ranges _ rfl _ rfl 3 keyed3 Rp (Value.int .i64) ptrV keyInv3 Rp_inv mb w.heap.size l.length _ left cnt rfl hrg ?_ ?_))
    · intro _ hl0
      have hbest := HBest.out
      rcases hbest with ⟨hb1, hb2⟩ | ⟨hb1, hb2, hb3⟩
      · subst hb1
        go_wp2
        go_ret2
        exact ⟨none, rfl, fun m hm => hb2 m hm (hl0 _), hbr⟩
      · have HX : IsWake l now (some b) := ⟨by obtain ⟨m, hm, _, hw⟩ := hb2; exact ⟨m, hm, hw⟩, fun m hm => hb3 m hm (hl0 _)⟩
        have HXX := Lib.hid HX
        clear HX hb2 hb3
        go_wp2
        go_ret2
        exact ⟨some b, rfl, HXX.out, hbr⟩
    · intro x c kl y1 y2 w1 cnt1 hkx hlx hRc hat hrg1 hlt hg1 hs1 hen
      obtain ⟨x', e1, rfl, hwx⟩ := Maps.keyOf_int_inv under3 hkx
      simp only [Value.int.injEq, true_and] at e1
      subst e1
      obtain ⟨m, hfm, hy⟩ := memD_atKey_inv hat
      have hc : ptrV c = .pointer (some ⟨m.blk, 0, none⟩) := Rp_blk (b := m.blk) (ps := y2) (by rw [hRc, ← hy])
      rw [hc] at hen ⊢
      obtain ⟨hml, hid⟩ := findM_some hfm
      have hb1 : Below w.heap.size w w1 := hbr.grown hg1 hbr.size (fun k hk => by cases hk; exact Nat.le_refl _)
      have hz1 : w.heap.size < w1.heap.size := by omega
      have hd : ∀ m' ∈ l, (left (.int .i64 m'.id) && !(Lit.int .i64 m'.id).sameKey (.int .i64 x)) = false ↔ left (.int .i64 m'.id) = false ∨ m' = m := by
        intro m' hm'
        simp only [Lit.sameKey, true_and, Bool.and_eq_false_iff, Bool.not_eq_eq_eq_not, Bool.not_false, decide_eq_true_eq]
        refine or_congr Iff.rfl ⟨fun e => ids_eq H.out.ids hm' hml (by rw [e, hid]), fun e => by rw [e, hid]⟩
      have hfit := H.out.fits m hml
      have hblk := (H.out.mem m hml).below hb1 (H.out.mem m hml).lt
      have hhead := H.out.head.below hb1 hpb
      have cw := fun W => wake_any m.plan m.phase now W hfit
      have CW := Lib.hid cw
      have HD := Lib.hid hd
      obtain ⟨c0, c1, c2, c3, c4, _⟩ := hblk.five
      obtain ⟨q0, q1, q2, _⟩ := hhead.three
      have hlt2 := hblk.lt
      have hlt3 := hhead.lt
      clear hd hat hRc hkx hlx hc hy hfm hs1 hs0 hid
      cases hwo : wakeOf m.plan m.phase now with
      | none =>
        rw [hwo] at cw
        have CW := Lib.hid cw
        have HW := Lib.hid hwo
        clear cw hwo
        simp only [wakeRes] at CW
        go_wp2_with fail
        refine wp_flow_below rfl (by kernel_rfl) ?_
        repeat (first
          | (apply flow_yes
             · rfl
             · intro W1 hW K hK
               obtain ⟨hc, hf⟩ := bcell hW
               go_wp2_with (go_at_call 37; with_reducible refine (CW.out _).mono ?_; rintro e w' ⟨rfl, hb⟩)
               first | exact hW | exact hW.trans (hb.mono hW.size)
             simp only [Act.put, List.setIfInBounds_toArray, List.set_cons_zero, List.set_cons_succ]))
        refine flow_nil fun W1 hW => ?_
        have hb2 : Below w.heap.size w W1 := hb1.trans (hW.mono hb1.size)
        have hz2 := Nat.lt_of_lt_of_le hz1 hW.size
        have hr2 := ranges_below hrg1 hW
        go_wp2
        · go_roundw
          case rel => exact ⟨_, cnt1, _, rfl, hr2, hb2, hz2, best_none HBest.out HD.out HW.out⟩
          case measure => rw [hr2.left_eq, hrg.left_eq]; exact hlt
      | some t =>
        rw [hwo] at cw
        have CW := Lib.hid cw
        have HW := Lib.hid hwo
        have ht0 : 0 ≤ t := by have := (wake_gt hfit hwo).1; have := hfit.2.1.1; omega
        clear cw hwo
        simp only [wakeRes] at CW
        by_cases hbb : b < 0
        · go_wp2_with fail
          refine wp_flow_below rfl (by kernel_rfl) ?_
          repeat (first
            | (apply flow_yes
               · rfl
               · intro W1 hW K hK
                 obtain ⟨hc, hf⟩ := bcell hW
                 go_wp2_with (go_at_call 37; with_reducible refine (CW.out _).mono ?_; rintro e w' ⟨rfl, hb⟩)
                 first | exact hW | exact hW.trans (hb.mono hW.size)
               simp only [Act.put, List.setIfInBounds_toArray, List.set_cons_zero, List.set_cons_succ]))
          refine flow_nil fun W1 hW => ?_
          have hb2 : Below w.heap.size w W1 := hb1.trans (hW.mono hb1.size)
          have hz2 := Nat.lt_of_lt_of_le hz1 hW.size
          have hr2 := ranges_below hrg1 hW
          go_wp2
          go_roundw
          case rel => exact ⟨_, cnt1, _, rfl, hr2, hb2, hz2, best_new HBest.out hml HD.out HW.out ht0 (.inl hbb)⟩
          case measure => rw [hr2.left_eq, hrg.left_eq]; exact hlt
        · by_cases hbt : t < b
          · go_wp2_with fail
            refine wp_flow_below rfl (by kernel_rfl) ?_
            repeat (first
              | (apply flow_yes
                 · rfl
                 · intro W1 hW K hK
                   obtain ⟨hc, hf⟩ := bcell hW
                   go_wp2_with (go_at_call 37; with_reducible refine (CW.out _).mono ?_; rintro e w' ⟨rfl, hb⟩)
                   first | exact hW | exact hW.trans (hb.mono hW.size)
                 simp only [Act.put, List.setIfInBounds_toArray, List.set_cons_zero, List.set_cons_succ]))
            refine flow_nil fun W1 hW => ?_
            have hb2 : Below w.heap.size w W1 := hb1.trans (hW.mono hb1.size)
            have hz2 := Nat.lt_of_lt_of_le hz1 hW.size
            have hr2 := ranges_below hrg1 hW
            go_wp2
            go_roundw
            case rel => exact ⟨_, cnt1, _, rfl, hr2, hb2, hz2, best_new HBest.out hml HD.out HW.out ht0 (.inr hbt)⟩
            case measure => rw [hr2.left_eq, hrg.left_eq]; exact hlt
          · go_wp2_with fail
            refine wp_flow_below rfl (by kernel_rfl) ?_
            repeat (first
              | (apply flow_yes
                 · rfl
                 · intro W1 hW K hK
                   obtain ⟨hc, hf⟩ := bcell hW
                   go_wp2_with (go_at_call 37; with_reducible refine (CW.out _).mono ?_; rintro e w' ⟨rfl, hb⟩)
                   first | exact hW | exact hW.trans (hb.mono hW.size)
                 simp only [Act.put, List.setIfInBounds_toArray, List.set_cons_zero, List.set_cons_succ]))
            refine flow_nil fun W1 hW => ?_
            have hb2 : Below w.heap.size w W1 := hb1.trans (hW.mono hb1.size)
            have hz2 := Nat.lt_of_lt_of_le hz1 hW.size
            have hr2 := ranges_below hrg1 hW
            go_wp2
            go_roundw
            case rel => exact ⟨_, cnt1, _, rfl, hr2, hb2, hz2, best_keep HBest.out HD.out HW.out (by omega) (by omega)⟩
            case measure => rw [hr2.left_eq, hrg.left_eq]; exact hlt

end Go.Proofs.Ytokgfmibhkkiaaa
