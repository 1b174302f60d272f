/- Parts of the proof: Rpt. Conditions: none. -/
import Derived.Test.YtnhjakdmbfadlaaGreatDoorL14
import Derived.Laws.EntriesVeiled
set_option linter.all false
/- Repetitions. -/
namespace Go.Proofs.YtnhjakdmbfadlaaGreatDoor
open Go.RowKit Wy Mem Grow

theorem fol_all {R : Rc} (hC : R.C.Ok) {set : List Rg} {s : Nd} {num grp : Nat} (hsp : WaysSpec R.C s) (hfit : Fit s) (ht : Tabd R.C.T s (num + 1) grp) (hg : grp + opened s ≤ R.C.G) (hlo : 0 ≤ R.lo ∧ R.lo ≤ 1000) (hhi : -1 ≤ R.hi ∧ R.hi ≤ 1000) (hnul : (Wy.look s).nullable = true → 0 ≤ R.hi ∧ R.hi ≤ 1) :
    ∀ k, FolSpec R s grp (fun N w => PartAt N w (.mk 5 set R.lo R.hi R.lazy [s]) num grp R.b) k
  | 0 => by
    intro N w vo vc sv σ x t htk hR hP hS hxG hxl hok hF hfu
    exfalso
    have := hC.len
    omega
  | k + 1 => fol_step hC hsp hfit ht hg hlo hhi hnul k (fol_all hC hsp hfit ht hg hlo hhi hnul k)

def boxW (R : Rc) (w : World) : World :=
  ((((((w.alloc (.cells #[.pointer (some ⟨R.C.m, 0, none⟩)] 102)).alloc (.cells #[.pointer (some ⟨R.b, 0, none⟩)] 106)).alloc (.cells #[.int .u8 5, R.sv, .int .i64 R.lo, .int .i64 R.hi, .bool R.lazy, R.uv] 27)).alloc
    (.cells #[.slice none 0 0] 38)).alloc (.cells #[.slice none 0 0] 48)).alloc (.cells #[.bool true] 4)).alloc (.cells #[.func (.func 92) #[] R.caps] 168)
theorem boxW_size (R : Rc) (w : World) : (boxW R w).heap.size = w.heap.size + 7 := by unfold boxW; simp
theorem boxW_below (R : Rc) (w : World) : Below w.heap.size w (boxW R w) := by
  unfold boxW
  have h0 := Below.refl w.heap.size w
  exact ((((((h0.alloc (Nat.le_refl _) _).alloc (by simp) _).alloc (by simp; omega) _).alloc (by simp; omega) _).alloc (by simp; omega) _).alloc (by simp; omega) _).alloc (by simp; omega) _
theorem boxW_at {R : Rc} {N : Nat → Prop} {w : World} (h : At R.C N w) (hB : R.B = w.heap.size) (hN : ∀ b, N b → R.N0 b) :
    RpAt R (fun q => N q ∧ ¬ (q = R.B + 3 ∨ q = R.B + 4 ∨ q = R.B + 5)) (boxW R w) (.slice none 0 0) (.slice none 0 0) ⟨[], [], true⟩ := by
  have hA : At R.C (fun q => N q ∧ ¬ (q = R.B + 3 ∨ q = R.B + 4 ∨ q = R.B + 5)) (boxW R w) := h.less (boxW_below R w) (fun q => q = R.B + 3 ∨ q = R.B + 4 ∨ q = R.B + 5) (fun q hq => by rw [boxW_size]; omega)
  have nn : ∀ i, N (R.B + i) := fun i => h.new _ (by omega)
  refine ⟨hA, fun q hq => hN q hq.1, by rw [hB]; exact h.mbLt, by rw [boxW_size]; omega, fun e => e.2 (.inl rfl), fun e => e.2 (.inr (.inl rfl)), fun e => e.2 (.inr (.inr rfl)), ⟨⟨nn 0, by omega⟩, ⟨nn 1, by omega⟩, ⟨nn 2, by omega⟩, ⟨nn 6, by omega⟩⟩,
    ?_, ?_, ?_, ?_, ?_, ?_, ?_, ⟨[], World.ownsRow_nil _ _ _ _, rfl⟩, fun g hg => by simp [Value.ownBlock] at hg, World.ownsRow_nil _ _ _ _, fun g hg => by simp [Value.ownBlock] at hg⟩ <;> unfold boxW
  · exact ((((((Blk.new' _ _ (by omega)).alloc _).alloc _).alloc _).alloc _).alloc _).alloc _
  · exact (((((Blk.new' _ _ (by simp; omega)).alloc _).alloc _).alloc _).alloc _).alloc _
  · exact ((((Blk.new' _ _ (by simp; omega)).alloc _).alloc _).alloc _).alloc _
  · exact (((Blk.new' _ _ (by simp; omega)).alloc _).alloc _).alloc _
  · exact ((Blk.new' _ _ (by simp; omega)).alloc _).alloc _
  · exact (Blk.new' _ _ (by simp; omega)).alloc _
  · exact Blk.new' _ _ (by simp; omega)

def rptW (R : Rc) (N7 : Nat → Prop) (W7 : World) (place : Int) (G : Nat) (σ : Fs Wy.Way) : List Value → World → Prop
  | [] => fun w' => w' = W7.drew
  | [v] => fun w' => Below W7.heap.size W7 w' ∧ ∃ o c, v = .agg #[.int .i64 place, .slice o G c] ∧ SpsAt N7 w' (.slice o G c) (List.replicate G (-1, -1))
  | [_, _] => fun w' => ∃ N' vo vc, RpAt R N' w' vo vc σ ∧ Goes R N7 W7 N' w'
  | _ => fun _ => False

set_option maxHeartbeats 4000000 in
set_option maxRecDepth 100000 in
theorem rpt_any {C : Cx} (hC : C.Ok) {set : List Rg} {lo hi : Int} {lazy : Bool} {s : Nd} {num grp b place : Nat} {N : Nat → Prop} {w : World} (h : At C N w) (hp : PartAt N w (.mk 5 set lo hi lazy [s]) num grp b)
    (ht : Tabd C.T (.mk 5 set lo hi lazy [s]) num grp) (hg : grp + opened s ≤ C.G) (hpl : place ≤ C.s.size) (hfit : Fit (.mk 5 set lo hi lazy [s])) (ih : WaysSpec C s) :
    Calls Tryz.prog 70 #[.pointer (some ⟨C.m, 0, none⟩), .pointer (some ⟨b, 0, none⟩), .int .i64 place] w (Wys C N w (wyRep (wayA C.G) (strS C.s) lo hi lazy [s] grp place)) := by
  obtain ⟨sv, uv, pv, ps, B0, hNb, hk, hu, hlo, hhi, hset, hrow, hparts⟩ := part_open hp
  obtain ⟨os, cs, rfl⟩ := hset.row.slice
  obtain ⟨ua, un, uc, rfl⟩ := hu
  obtain ⟨b0, b1, b2, b3, b4, b5⟩ : w.cell? ⟨b, 0, none⟩ = some (.int .u8 5) ∧ w.cell? ⟨b, 1, none⟩ = some (.slice os set.length cs) ∧ w.cell? ⟨b, 2, none⟩ = some (.int .i64 lo) ∧ w.cell? ⟨b, 3, none⟩ = some (.int .i64 hi) ∧ w.cell? ⟨b, 4, none⟩ = some (.bool lazy) ∧ w.cell? ⟨b, 5, none⟩ = some (.slice ua un uc) :=
    ⟨B0.cell 0, B0.cell 1, B0.cell 2, B0.cell 3, B0.cell 4, B0.cell 5⟩
  have hbz := B0.lt
  have htab := tabd_subs ht
  simp only [show ¬ ((5 : Int) = 6) by omega, if_false, Nat.add_zero] at htab
  rw [TabdL] at htab
  have htab := htab.1
  have hsf := hfit.subs s (by simp)
  have hkd := hfit.kind
  obtain ⟨hlo2, hhi2, hnul⟩ : (0 ≤ lo ∧ lo ≤ 1000) ∧ (-1 ≤ hi ∧ hi ≤ 1000) ∧ ((Wy.look s).nullable = true → 0 ≤ hi ∧ hi ≤ 1) := by
    rcases hkd with h | h | h | h | ⟨-, s', hs', h1, h2, h3, h4⟩ | h
    · omega
    · omega
    · omega
    · omega
    · simp only [List.cons.injEq, and_true] at hs'
      subst hs'
      exact ⟨⟨h1, h2⟩, ⟨by omega, by omega⟩, h4⟩
    · omega
  have HP := Lib.hid hp
  have HA := Lib.hid h
  clear hkd h hp hrow hparts hset B0
  go_enter Tryz.func70, Tryz.ntmps70
  obtain ⟨R, hR⟩ : ∃ R : Rc, R = ⟨C, w.heap.size, N, b, .slice os set.length cs, .slice ua un uc, lo, hi, lazy⟩ := ⟨_, rfl⟩
  have hw7 : boxW R w = ((((((w.alloc (.cells #[.pointer (some ⟨C.m, 0, none⟩)] 102)).alloc (.cells #[.pointer (some ⟨b, 0, none⟩)] 106)).alloc (.cells #[.int .u8 5, .slice os set.length cs, .int .i64 lo, .int .i64 hi, .bool lazy, .slice ua un uc] 27)).alloc
    (.cells #[.slice none 0 0] 38)).alloc (.cells #[.slice none 0 0] 48)).alloc (.cells #[.bool true] 4)).alloc (.cells #[.func (.func 92) #[] #[.pointer (some ⟨w.heap.size + 1 + 1 + 1 + 1, 0, none⟩), .pointer (some ⟨w.heap.size + 1 + 1 + 1 + 1 + 1, 0, none⟩), .pointer (some ⟨w.heap.size + 1 + 1, 0, none⟩), .pointer (some ⟨w.heap.size + 1 + 1 + 1, 0, none⟩), .pointer (some ⟨w.heap.size, 0, none⟩), .pointer (some ⟨w.heap.size + 1, 0, none⟩), .pointer (some ⟨w.heap.size + 1 + 1 + 1 + 1 + 1 + 1, 0, none⟩)]] 168) := by rw [hR]; rfl
  have HW7 := Lib.hid hw7
  clear hw7
  go_upto_region 7 with fail
  rw [← HW7.out]
  simp only [Nat.add_assoc, Nat.reduceAdd]
  have hAR : At R.C N w := by rw [hR]; exact HA.out
  have hr7 := boxW_at hAR (by rw [hR]) (fun q hq => by rw [hR]; exact hq)
  have hRB : R.B = w.heap.size := by rw [hR]
  have hgo7 : Goes R N w (fun q => N q ∧ ¬ (q = R.B + 3 ∨ q = R.B + 4 ∨ q = R.B + 5)) (boxW R w) := ⟨Kept.of_below (boxW_below R w) _, fun q hq hn => ⟨hn, fun e => by omega⟩⟩
  have hpart7 := hgo7.part hAR HP.out
  generalize hN7 : (fun q => N q ∧ ¬ (q = R.B + 3 ∨ q = R.B + 4 ∨ q = R.B + 5)) = N7 at hr7 hgo7 hpart7
  generalize boxW R w = W7 at hr7 hgo7 hpart7 ⊢
  have hst := still_any (place := place) (hr7.at_.below (Below.refl _ _).drew).maker (hr7.at_.below (Below.refl _ _).drew).none (by rw [hR]; have := hC.G; show C.G ≤ 64; omega)
  have hfol := fol_all (R := R) (set := set) (s := s) (num := num) (grp := grp) (by rw [hR]; exact hC) (by rw [hR]; exact ih) hsf (by rw [hR]; exact htab) (by rw [hR]; exact hg) (by rw [hR]; exact hlo2) (by rw [hR]; exact hhi2) (by rw [hR]; exact hnul) 36
  have hpart : ∀ w5, Below W7.heap.size W7 w5 → PartAt N7 w5 (.mk 5 set R.lo R.hi R.lazy [s]) num grp R.b := fun w5 h5 => by
    have := (Goes.below (R := R) (N := N7) h5).part hr7.at_ hpart7
    rw [hR]; exact this
  have hrec : ∀ (w5 : World) (sv5 : Value), Below W7.heap.size W7 w5 → SpsAt N7 w5 sv5 (List.replicate C.G (-1, -1)) → Calls Tryz.prog 92 #[.agg #[.int .i64 place, sv5], .int .i64 0, .pointer (some ⟨w.heap.size + 4, 0, none⟩), .pointer (some ⟨w.heap.size + 5, 0, none⟩), .pointer (some ⟨w.heap.size + 2, 0, none⟩), .pointer (some ⟨w.heap.size + 3, 0, none⟩), .pointer (some ⟨w.heap.size, 0, none⟩), .pointer (some ⟨w.heap.size + 1, 0, none⟩), .pointer (some ⟨w.heap.size + 6, 0, none⟩)] w5
      (Flw R N7 w5 (Wy.follow (wayA C.G) (fun q => C.wy s grp q) lo hi lazy 36 ((wayA C.G).still place) 0 ⟨[], [], true⟩)) := by
    intro w5 sv5 hb5 hs5
    have := hfol N7 w5 (.slice none 0 0) (.slice none 0 0) sv5 ⟨[], [], true⟩ ((wayA C.G).still place) 0 rfl (hr7.below hb5) (hpart w5 hb5) hs5 (by rw [hR]; simp [still_eq]) (by rw [hR]; exact hpl) rfl ⟨by simp, by simp, by simp, by simp, by simp⟩ (by
      rw [hR]
      by_cases hn : (Wy.look s).nullable = true
      · exact .inr ⟨(hnul hn).1, (hnul hn).2, by omega⟩
      · refine .inl ⟨?_, by omega⟩
        unfold dN
        rw [if_neg hn])
    subst hR
    exact this
  obtain ⟨σf, hσf⟩ : ∃ σf, σf = Wy.follow (wayA C.G) (fun q => C.wy s grp q) lo hi lazy 36 ((wayA C.G).still place) 0 ⟨[], [], true⟩ := ⟨_, rfl⟩
  rw [← hσf] at hrec
  have hrep : wyRep (wayA C.G) (strS C.s) lo hi lazy [s] grp place = if σf.ok && decide (σf.out.length ≤ 500) then some σf.out else none := by
    rw [wyRep, rep, hσf]
    rfl
  obtain ⟨c6, c0⟩ : (∀ w5, Below W7.heap.size W7 w5 → w5.cell? ⟨w.heap.size + 6, 0, none⟩ = some (.func (.func 92) #[] #[.pointer (some ⟨w.heap.size + 4, 0, none⟩), .pointer (some ⟨w.heap.size + 5, 0, none⟩), .pointer (some ⟨w.heap.size + 2, 0, none⟩), .pointer (some ⟨w.heap.size + 3, 0, none⟩), .pointer (some ⟨w.heap.size, 0, none⟩), .pointer (some ⟨w.heap.size + 1, 0, none⟩), .pointer (some ⟨w.heap.size + 6, 0, none⟩)]) ∧ w.heap.size + 6 < w5.heap.size) ∧
      (∀ w5, Below W7.heap.size W7 w5 → w5.cell? ⟨w.heap.size, 0, none⟩ = some (.pointer (some ⟨C.m, 0, none⟩)) ∧ w.heap.size < w5.heap.size) := by
    subst hR
    exact ⟨fun w5 h5 => ⟨(hr7.b6.below h5 hr7.b6.lt).cell 0, (hr7.b6.below h5 hr7.b6.lt).lt⟩, fun w5 h5 => ⟨(hr7.b0.below h5 hr7.b0.lt).cell 0, (hr7.b0.below h5 hr7.b0.lt).lt⟩⟩
  have hst : Calls Tryz.prog 66 #[.pointer (some ⟨C.m, 0, none⟩), .int .i64 place] W7.drew (Stl place C.G W7.drew) := by
    subst hR
    exact hst
  have HR7 := Lib.hid hr7
  have HGO7 := Lib.hid hgo7
  have HST := Lib.hid hst
  have HREC := Lib.hid hrec
  have HREP := Lib.hid hrep
  have HC6 := Lib.hid c6
  have HC0 := Lib.hid c0
  have HRR := Lib.hid hR
  have HN7 := Lib.hid hN7
  clear hr7 hgo7 hpart7 hst hfol hpart hrec hrep c6 c0 hσf hR hRB hAR hN7
  apply wp_flowL ?hm ?hok [0, 1, 2, 3, 4] [3, 4] [] ?hord (fun w' => Below W7.heap.size W7 w') (rptW R N7 W7 place C.G σf)
  case hm => rfl
  case hok => kernel_rfl
  case hord => kernel_rfl
  case hb =>
    intro L w' h hl
    match L with
    | [] => obtain rfl : w' = W7.drew := h; exact (Below.refl _ _).drew
    | [_] => exact h.1
    | _ :: _ :: _ =>
      exfalso
      rw [show (List.filter (fun j => [3, 4].contains j) [0, 1, 2, 3, 4]).length = 2 by decide] at hl
      simp only [List.length_cons] at hl
      omega
  case hw => rfl
  case h =>
    apply flowL_read _ rfl rfl rfl rfl
    case h =>
      intro W1 hW K hK
      (obtain ⟨q6, z6⟩ := HC6.out _ hW)
      go_wp2_with fail
      exact hK
    simp only [Act.put, List.setIfInBounds_toArray, List.set_cons_zero, List.set_cons_succ, Nat.reduceAdd]
    apply flowL_read _ rfl rfl rfl rfl
    case h =>
      intro W1 hW K hK
      (obtain ⟨q0, z0⟩ := HC0.out _ hW)
      go_wp2_with fail
      exact hK
    simp only [Act.put, List.setIfInBounds_toArray, List.set_cons_zero, List.set_cons_succ, Nat.reduceAdd]
    apply flowL_read _ rfl rfl rfl rfl
    case h =>
      intro W1 hW K hK
      (skip)
      go_wp2_with fail
      exact hK
    simp only [Act.put, List.setIfInBounds_toArray, List.set_cons_zero, List.set_cons_succ, Nat.reduceAdd]
    apply flowL_act rfl rfl rfl
    case h =>
      intro W10 hW K hK
      obtain rfl : W10 = W7.drew := hW
      go_wp2_with (go_at_call 66; refine (HST.out).mono ?_; rintro e w' ⟨v', rfl, hown, hb⟩; obtain ⟨ov, cv, rfl⟩ := own_slice hown)
      exact ⟨((Below.refl _ _).drew).trans hb, ov, cv, rfl, SpsAt.still hown (fun q hq _ => HR7.out.at_.new q hq) (by have := hC.G; omega)⟩
    intro v10 hv10
    obtain ⟨_, -, ov, cv, rfl, -⟩ : ∃ w', Below W7.heap.size W7 w' ∧ ∃ o c, v10 = .agg #[.int .i64 place, .slice o C.G c] ∧ SpsAt N7 w' (.slice o C.G c) (List.replicate C.G (-1, -1)) := hv10
    simp only [Act.put, List.setIfInBounds_toArray, List.set_cons_zero, List.set_cons_succ, Nat.reduceAdd]
    apply flowL_act rfl rfl rfl
    case h =>
      intro W10 hW K hK
      obtain ⟨hb10, ov', cv', he, hs10⟩ := hW
      simp only [Value.agg.injEq, Array.mk.injEq, List.cons.injEq, Value.slice.injEq, true_and, and_true] at he
      obtain ⟨rfl, rfl⟩ := he
      have HCR := Lib.hid (HREC.out W10 _ hb10 hs10)
      clear hs10
      go_wp2_with (go_at_call 92; refine (HCR.out).mono ?_; rintro e w' ⟨rfl, N', vo', vc', hr', hg'⟩)
      exact ⟨N', vo', vc', hr', (Goes.below hb10).trans hg'⟩
    intro v11 hv11
    simp only [Act.put, List.setIfInBounds_toArray, List.set_cons_zero, List.set_cons_succ, Nat.reduceAdd]
    refine flowL_end fun W11 h11 => ?_
    obtain ⟨N8, vo8, vc8, hr8, hg8⟩ := h11
    have hdr : Below W11.heap.size W11 W11.drew := (Below.refl _ _).drew
    have hend : ∀ (o : Option (List Wy.Way)), (∀ l, o = some l → l = σf.out) → Wys C N w o (.returned (.tuple #[vo8, .bool o.isSome])) W11.drew := by
      intro o ho
      have hR := HRR.out
      have hg := HGO7.out.trans (hg8.trans (Goes.below hdr))
      have hr9 := hr8.below hdr
      obtain ⟨cs, hown, hw⟩ := hr9.out
      have hsub := hr9.sub
      have hat := hr9.at_
      subst hR
      refine ⟨hg.own.mono fun i hi e => e.elim id fun e => by have : w.heap.size ≤ i := e.1; omega, hat.mono hsub HA.out.not, _, rfl, ?_, fun l hl => ?_⟩
      · obtain ⟨a, c, rfl⟩ := own_slice hown
        exact ⟨_, _, _, rfl⟩
      · rw [ho l hl]
        exact WaysAt.of_own hown (hw.mono hsub) (fun q hq _ => HA.out.new q (by have : w.heap.size + 7 ≤ q := hq; omega))
    obtain ⟨cso, hown8, -⟩ := hr8.out
    obtain ⟨oo, co, rfl⟩ := own_slice hown8
    have hlo8 : σf.out.length ≤ maxLen := by
      rcases hown8.2 with ⟨-, h0⟩ | ⟨g, cap, cur, -, -, -, h1, h2, -⟩ <;> omega
    have hlo8I : (σf.out.length : Int) ≤ 9223372036854775807 := by unfold maxLen at hlo8; omega
    obtain ⟨q3, q5⟩ : W11.drew.cell? ⟨w.heap.size + 3, 0, none⟩ = some (.slice oo σf.out.length co) ∧ W11.drew.cell? ⟨w.heap.size + 5, 0, none⟩ = some (.bool σf.ok) := by
      have hR := HRR.out
      subst hR
      exact ⟨hr8.b3.cell 0, hr8.b5.cell 0⟩
    obtain ⟨z3, z5⟩ : w.heap.size + 3 < W11.drew.heap.size ∧ w.heap.size + 5 < W11.drew.heap.size := by
      have hR := HRR.out
      subst hR
      exact ⟨hr8.b3.lt, hr8.b5.lt⟩
    have HEND := Lib.hid hend
    have HQ3 := Lib.hid q3
    have HQ5 := Lib.hid q5
    clear hr8 hg8 hdr hend hown8 hlo8 q3 q5
    have hwc : W11.drew.cell? = W11.cell? := rfl
    go_upto_region 8 with fail
    apply wp_flowL ?hm ?hok [0, 1, 2, 3, 4, 5, 6, 7, 8] [] [0, 1, 2, 3, 4, 5, 6, 7, 8] ?hord (fun _ => True) (fun L w' => L = [] ∧ w' = W11.drew)
    case hm => rfl
    case hok => kernel_rfl
    case hord => kernel_rfl
    case hb => exact fun _ _ _ _ => trivial
    case hw => exact ⟨rfl, rfl⟩
    case h =>
      cases hok : σf.ok with
      | false =>
        have ho : wyRep (wayA C.G) (strS C.s) lo hi lazy [s] grp place = none := by rw [HREP.out, hok]; rfl
        have q5 := HQ5.out
        rw [hok] at q5
        have q3 := HQ3.out
        iterate 3
          apply flowL_pin _ rfl rfl rfl rfl
          case h =>
            intro W1 hW K hK
            (obtain ⟨-, rfl⟩ := hW)
            go_wp2_with fail
            exact hK
          simp only [Act.put, List.setIfInBounds_toArray, List.set_cons_zero, List.set_cons_succ, Nat.reduceAdd]
        iterate 3 (apply flowL_no rfl rfl rfl; simp only [Act.put, List.setIfInBounds_toArray, List.set_cons_zero, List.set_cons_succ, Nat.reduceAdd])
        iterate 3
          apply flowL_pin _ rfl rfl rfl rfl
          case h =>
            intro W1 hW K hK
            (obtain ⟨-, rfl⟩ := hW)
            go_wp2_with fail
            exact hK
          simp only [Act.put, List.setIfInBounds_toArray, List.set_cons_zero, List.set_cons_succ, Nat.reduceAdd]
        refine flowL_end fun W12 h12 => ?_
        obtain ⟨-, rfl⟩ := h12
        go_wp2_with fail
        refine bodyPost_ret (v := .tuple #[.slice oo σf.out.length co, .bool false]) (by simp [results, Tryz.results70, go_sem]) rfl ?_
        rw [ho]
        exact HEND.out none (fun l hl => by cases hl)
      | true =>
        have q5 := HQ5.out
        rw [hok] at q5
        have q3 := HQ3.out
        by_cases hl : σf.out.length ≤ 500
        · have ho : wyRep (wayA C.G) (strS C.s) lo hi lazy [s] grp place = some σf.out := by rw [HREP.out, hok]; simp [hl]
          have hlI : (σf.out.length : Int) ≤ 500 := by omega
          iterate 9
            apply flowL_pin _ rfl rfl rfl rfl
            case h =>
              intro W1 hW K hK
              (obtain ⟨-, rfl⟩ := hW)
              go_wp2_with fail
              exact hK
            simp only [Act.put, List.setIfInBounds_toArray, List.set_cons_zero, List.set_cons_succ, Nat.reduceAdd]
          refine flowL_end fun W12 h12 => ?_
          obtain ⟨-, rfl⟩ := h12
          go_wp2_with fail
          refine bodyPost_ret (v := .tuple #[.slice oo σf.out.length co, .bool true]) (by simp [results, Tryz.results70, go_sem]) rfl ?_
          rw [ho]
          exact HEND.out (some σf.out) (fun l hl => by cases hl; rfl)
        · have ho : wyRep (wayA C.G) (strS C.s) lo hi lazy [s] grp place = none := by rw [HREP.out, hok]; simp [hl]
          have hlI : decide ((σf.out.length : Int) ≤ 500) = false := by simp; omega
          iterate 9
            apply flowL_pin _ rfl rfl rfl rfl
            case h =>
              intro W1 hW K hK
              (obtain ⟨-, rfl⟩ := hW)
              go_wp2_with fail
              exact hK
            simp only [Act.put, List.setIfInBounds_toArray, List.set_cons_zero, List.set_cons_succ, Nat.reduceAdd]
          refine flowL_end fun W12 h12 => ?_
          obtain ⟨-, rfl⟩ := h12
          go_wp2_with fail
          refine bodyPost_ret (v := .tuple #[.slice oo σf.out.length co, .bool false]) (by simp [results, Tryz.results70, go_sem]) rfl ?_
          rw [ho]
          exact HEND.out none (fun l hl => by cases hl)
end Go.Proofs.YtnhjakdmbfadlaaGreatDoor
