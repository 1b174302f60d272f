/- Parts of the proof: Class, Nul, Leaf, Clone, Ways, Then. Conditions: none. -/
import Derived.Test.YtnhjakdmbfadlaaGreatDoorProg
import Derived.Test.YtnhjakdmbfadlaaGreatDoorL00
import Derived.Test.YtnhjakdmbfadlaaGreatDoorL01
import Derived.WalkKit
import Derived.Handy
import Derived.LoopTactic
import Derived.Outline
import Derived.Test.YtnhjakdmbfadlaaGreatDoorL02
import Derived.Deep.DeepCutAuto
import Derived.Deep.CutRange
import Derived.WalkSpells
import Derived.Deep.OwnRows
import Derived.Laws.OwnMore
import Derived.OneCell
set_option linter.all false
/- Package class, as far as ways use it. -/
namespace Go.Proofs.YtnhjakdmbfadlaaGreatDoor
open Go.RowKit Wy Mem

theorem ret_bool {a b : Bool} (h : a = b) : Ending.returned (.bool a) = .returned (.bool b) := by rw [h]
theorem bcell {W w1 : World} (hb : Below W.heap.size W w1) : (∀ b o, b < W.heap.size → w1.cell? ⟨b, o, none⟩ = W.cell? ⟨b, o, none⟩) ∧ (∀ b o, b < W.heap.size → w1.frozen? ⟨b, o, none⟩ = W.frozen? ⟨b, o, none⟩) :=
  ⟨fun b o h => hb.cell (p := ⟨b, o, none⟩) h, fun b o h => hb.frozen (p := ⟨b, o, none⟩) h⟩

theorem point_any (c : Int) (w : World) : Calls Tryz.prog 121 #[.int .i64 c] w fun e w' => e = .returned (.bool (point c)) ∧ w = w' := by
  have h : c < 0 ∨ (0 ≤ c ∧ c ≤ 55295) ∨ (0 ≤ c ∧ 55295 < c ∧ c < 57344) ∨ (0 ≤ c ∧ 55295 < c ∧ 57344 ≤ c ∧ c ≤ 1114111) ∨ (0 ≤ c ∧ 55295 < c ∧ 57344 ≤ c ∧ 1114111 < c) := by omega
  rcases h with h1 | ⟨h1, h2⟩ | ⟨h1, h2, h3⟩ | ⟨h1, h2, h3, h4⟩ | ⟨h1, h2, h3, h4⟩
  all_goals
    go_enter Tryz.func121, Tryz.ntmps121
    go_wp2
    go_ret
    exact ⟨ret_bool (by rw [Bool.eq_iff_iff]; simp only [point, Bool.or_eq_true, Bool.and_eq_true, decide_eq_true_eq, Bool.false_eq_true, false_iff, true_iff]; omega), rfl⟩
theorem point_is {c : Int} {b : Bool} (h : point c = b) (w : World) : Calls Tryz.prog 121 #[.int .i64 c] w fun e w' => e = .returned (.bool b) ∧ w = w' := by
  rw [← h]; exact point_any c w

def okAt (l : List Rg) (j : Nat) : Bool := match l[j]? with
  | some r => rgOk r && (match j with | 0 => true | i + 1 => match l[i]? with | some q => !decide (r.lo ≤ q.hi + 1) | none => true)
  | none => true
theorem rgsOk_all : ∀ l : List Rg, rgsOk l = true ↔ ∀ j, j < l.length → okAt l j = true
  | [] => by simp [rgsOk]
  | [r] => by
    simp only [rgsOk, List.length_cons, List.length_nil]
    constructor
    · intro h j hj
      obtain rfl : j = 0 := by omega
      simp [okAt, h]
    · intro h
      have := h 0 (by omega)
      simpa [okAt] using this
  | r :: q :: l => by
    have ih := rgsOk_all (q :: l)
    simp only [rgsOk, Bool.and_eq_true, ih]
    constructor
    · rintro ⟨⟨h1, h2⟩, h3⟩ j hj
      match j with
      | 0 => simp [okAt, h1]
      | 1 =>
        have := h3 0 (by simp)
        simp only [okAt, List.getElem?_cons_zero, List.getElem?_cons_succ, Bool.and_true] at this ⊢
        rw [this]
        simpa using h2
      | i + 2 =>
        have := h3 (i + 1) (by simpa using hj)
        simpa [okAt] using this
    · intro h
      have h0 := h 0 (by simp)
      have h1 := h 1 (by simp)
      simp only [okAt, List.getElem?_cons_zero, List.getElem?_cons_succ, Bool.and_true, Bool.and_eq_true] at h0 h1
      refine ⟨⟨h0, by simpa using h1.2⟩, fun j hj => ?_⟩
      have := h (j + 1) (by simpa using hj)
      cases j with
      | zero => simp [okAt, h1.1]
      | succ i => simpa [okAt] using this
theorem okAt_first {l : List Rg} (h : 0 < l.length) : okAt l 0 = rgOk l[0] := by simp [okAt, h]
theorem okAt_next {l : List Rg} {k : Nat} (h : k < l.length) (hk : 0 < k) : okAt l k = (rgOk l[k] && !decide (l[k].lo ≤ l[k - 1].hi + 1)) := by
  obtain ⟨i, rfl⟩ : ∃ i, k = i + 1 := ⟨k - 1, by omega⟩
  have h2 : i < l.length := by omega
  simp [okAt, h, h2]

theorem rg_cases (r : Rg) : point r.lo = false ∨ (point r.lo = true ∧ point r.hi = false) ∨ (point r.lo = true ∧ point r.hi = true ∧ r.hi < r.lo) ∨
    (point r.lo = true ∧ point r.hi = true ∧ r.lo ≤ r.hi ∧ r.lo ≤ 55295 ∧ 55295 < r.hi) ∨ (point r.lo = true ∧ point r.hi = true ∧ r.lo ≤ r.hi ∧ (55295 < r.lo ∨ (r.lo ≤ 55295 ∧ r.hi ≤ 55295)) ∧ rgOk r = true) := by
  cases h1 : point r.lo
  · exact .inl rfl
  right
  cases h2 : point r.hi
  · exact .inl ⟨rfl, rfl⟩
  right
  by_cases h3 : r.hi < r.lo
  · exact .inl ⟨rfl, rfl, h3⟩
  right
  by_cases h4 : r.lo ≤ 55295 ∧ 55295 < r.hi
  · exact .inl ⟨rfl, rfl, by omega, h4.1, h4.2⟩
  right
  refine ⟨rfl, rfl, by omega, by omega, ?_⟩
  simp only [rgOk, h1, h2, Bool.true_and, Bool.and_eq_true, Bool.not_eq_true', Bool.and_eq_false_iff, decide_eq_false_iff_not]
  omega
theorem rg_bad {r : Rg} (h : point r.lo = false ∨ point r.hi = false ∨ r.hi < r.lo ∨ (r.lo ≤ 55295 ∧ 55295 < r.hi)) : rgOk r = false := by
  simp only [rgOk, Bool.and_eq_false_iff, Bool.not_eq_false', Bool.and_eq_true, decide_eq_true_eq]
  rcases h with h | h | h | h <;> simp [h]
theorem okAt_bad {l : List Rg} {k : Nat} (h : k < l.length) (hb : rgOk l[k] = false) : okAt l k = false := by simp [okAt, h, hb]
theorem okAt_hi {l : List Rg} {j : Nat} (h : j < l.length) (hb : okAt l j = true) : 0 ≤ l[j].hi ∧ l[j].hi ≤ 1114111 := by
  simp only [okAt, List.getElem?_eq_getElem h, rgOk, Bool.and_eq_true] at hb
  have := hb.1.1.1.2
  simp only [point, Bool.or_eq_true, Bool.and_eq_true, decide_eq_true_eq] at this
  omega
def Rgt (l : List Rg) (w : World) (e : Ending) (w' : World) : Prop := e = .returned (.bool (rgsOk l)) ∧ Below w.heap.size w w'
theorem rgt_no {l : List Rg} {w w' : World} {k : Nat} (hk : k < l.length) (h : okAt l k = false) (hb : Below w.heap.size w w') : Rgt l w (.returned (.bool false)) w' := by
  refine ⟨ret_bool ?_, hb⟩
  cases e : rgsOk l
  · rfl
  · have := (rgsOk_all l).1 e k hk
    rw [h] at this
    cases this
set_option maxHeartbeats 4000000 in
set_option maxRecDepth 100000 in
theorem right_any {N : Nat → Prop} {w : World} {v : Value} {l : List Rg} (h : RgsAt N w v l) : Calls Tryz.prog 95 #[v] w (Rgt l w) := by
  by_cases hne : 0 < l.length
  · obtain ⟨b, off, cap, rfl, hcap, hmax, -, hlt, hc⟩ := h.cells hne
    have HC := Lib.hid hc
    have hmx : (l.length : Int) ≤ 9223372036854775807 := by unfold maxLen at hmax; omega
    have hci : (l.length : Int) ≤ cap := by omega
    clear hc h
    go_enter Tryz.func95, Tryz.ntmps95
    go_wp2_with fail
    go_loopw [7] (fun i wr => ∃ k : Nat, k ≤ l.length ∧ i = .int .i64 k ∧ Below w.heap.size w wr ∧ Hid (∀ j, j < k → okAt l j = true)) (fun i _ => l.length - (intOf i).toNat)
    case atStart => exact ⟨0, by omega, rfl, Below.refl _ _, Lib.hid (fun j hj => by omega)⟩
    case round =>
      obtain ⟨k, hk, rfl, hbr, HQ⟩ := hrel
      have hzr := hbr.size
      by_cases hkl : k < l.length
      · obtain ⟨⟨hl1, hl2⟩, ⟨hh1, hh2⟩, c0, c1⟩ := HC.out k hkl
        have d0 := (hbr.cell (p := ⟨b, off + k * 2, none⟩) hlt).trans c0
        have d1 := (hbr.cell (p := ⟨b, off + k * 2 + 1, none⟩) hlt).trans c1
        have hbn := hbr.alloc hzr (.cells #[.int .i64 l[k].lo, .int .i64 l[k].hi] 122)
        have HBN := Lib.hid hbn
        have hkI : (k : Int) < l.length := by omega
        clear c0 c1 hbn
        rcases rg_cases l[k] with p | ⟨p, q⟩ | ⟨p, q, r⟩ | ⟨p, q, r, s, t⟩ | ⟨p, q, r, s, hok⟩
        · have hbad := rg_bad (.inl p)
          have P := Lib.hid p
          have Q := P
          have HB := Lib.hid hbad
          clear p hbad
          go_wp2_with fail
          refine wp_flow_below rfl (by kernel_rfl) ?_
          repeat (first
            | (apply flow_yes
               · rfl
               · intro W1 hW K hK
                 obtain ⟨hc, hf⟩ := bcell hW
                 go_wp2_with (first | (go_at_call 121; with_reducible refine (point_is P.out _).mono ?_; rintro e w' ⟨rfl, rfl⟩) | (go_at_call 121; with_reducible refine (point_is Q.out _).mono ?_; rintro e w' ⟨rfl, rfl⟩))
                 exact hW
               simp only [Act.put, List.setIfInBounds_toArray, List.set_cons_zero, List.set_cons_succ])
            | (apply flow_no
               · rfl
               simp only [Act.put, List.setIfInBounds_toArray, List.set_cons_zero, List.set_cons_succ]))
          refine flow_nil fun W1 hW => ?_
          obtain ⟨hc, hf⟩ := bcell hW
          go_wp2
          go_ret
          exact rgt_no hkl (okAt_bad hkl HB.out) (HBN.out.trans (hW.mono HBN.out.size))
        · have hbad := rg_bad (.inr (.inl q))
          have P := Lib.hid p
          have Q := Lib.hid q
          have HB := Lib.hid hbad
          clear p q hbad
          go_wp2_with fail
          refine wp_flow_below rfl (by kernel_rfl) ?_
          repeat (first
            | (apply flow_yes
               · rfl
               · intro W1 hW K hK
                 obtain ⟨hc, hf⟩ := bcell hW
                 go_wp2_with (first | (go_at_call 121; with_reducible refine (point_is P.out _).mono ?_; rintro e w' ⟨rfl, rfl⟩) | (go_at_call 121; with_reducible refine (point_is Q.out _).mono ?_; rintro e w' ⟨rfl, rfl⟩))
                 exact hW
               simp only [Act.put, List.setIfInBounds_toArray, List.set_cons_zero, List.set_cons_succ])
            | (apply flow_no
               · rfl
               simp only [Act.put, List.setIfInBounds_toArray, List.set_cons_zero, List.set_cons_succ]))
          refine flow_nil fun W1 hW => ?_
          obtain ⟨hc, hf⟩ := bcell hW
          go_wp2
          go_ret
          exact rgt_no hkl (okAt_bad hkl HB.out) (HBN.out.trans (hW.mono HBN.out.size))
        · have hbad := rg_bad (.inr (.inr (.inl r)))
          have P := Lib.hid p
          have Q := Lib.hid q
          have HB := Lib.hid hbad
          clear p q hbad
          go_wp2_with fail
          refine wp_flow_below rfl (by kernel_rfl) ?_
          repeat (first
            | (apply flow_yes
               · rfl
               · intro W1 hW K hK
                 obtain ⟨hc, hf⟩ := bcell hW
                 go_wp2_with (first | (go_at_call 121; with_reducible refine (point_is P.out _).mono ?_; rintro e w' ⟨rfl, rfl⟩) | (go_at_call 121; with_reducible refine (point_is Q.out _).mono ?_; rintro e w' ⟨rfl, rfl⟩))
                 exact hW
               simp only [Act.put, List.setIfInBounds_toArray, List.set_cons_zero, List.set_cons_succ])
            | (apply flow_no
               · rfl
               simp only [Act.put, List.setIfInBounds_toArray, List.set_cons_zero, List.set_cons_succ]))
          refine flow_nil fun W1 hW => ?_
          obtain ⟨hc, hf⟩ := bcell hW
          go_wp2
          go_ret
          exact rgt_no hkl (okAt_bad hkl HB.out) (HBN.out.trans (hW.mono HBN.out.size))
        · have hbad := rg_bad (.inr (.inr (.inr ⟨s, t⟩)))
          have r' : decide (l[k].hi < l[k].lo) = false := by simpa using r
          have P := Lib.hid p
          have Q := Lib.hid q
          have HB := Lib.hid hbad
          clear p q hbad
          go_wp2_with fail
          refine wp_flow_below rfl (by kernel_rfl) ?_
          repeat (first
            | (apply flow_yes
               · rfl
               · intro W1 hW K hK
                 obtain ⟨hc, hf⟩ := bcell hW
                 go_wp2_with (first | (go_at_call 121; with_reducible refine (point_is P.out _).mono ?_; rintro e w' ⟨rfl, rfl⟩) | (go_at_call 121; with_reducible refine (point_is Q.out _).mono ?_; rintro e w' ⟨rfl, rfl⟩))
                 exact hW
               simp only [Act.put, List.setIfInBounds_toArray, List.set_cons_zero, List.set_cons_succ])
            | (apply flow_no
               · rfl
               simp only [Act.put, List.setIfInBounds_toArray, List.set_cons_zero, List.set_cons_succ]))
          refine flow_nil fun W1 hW => ?_
          obtain ⟨hc, hf⟩ := bcell hW
          go_wp2
          go_ret
          exact rgt_no hkl (okAt_bad hkl HB.out) (HBN.out.trans (hW.mono HBN.out.size))
        · have P := Lib.hid p
          have Q := Lib.hid q
          have HK := Lib.hid hok
          clear p q hok
          have r' : decide (l[k].hi < l[k].lo) = false := by simpa using r
          have HS : (decide (l[k].lo ≤ 55295) = false) ∨ (l[k].lo ≤ 55295 ∧ decide (55295 < l[k].hi) = false) := by
            rcases s with s | ⟨s, s'⟩
            · left; simpa using s
            · right; exact ⟨s, by simpa using s'⟩
          clear s
          by_cases hk0 : 0 < k
          · obtain ⟨⟨hm1, hm2⟩, ⟨hn1, hn2⟩, c2, c3⟩ := HC.out (k - 1) (by omega)
            have d3 := (hbr.cell (p := ⟨b, off + (k - 1) * 2 + 1, none⟩) hlt).trans c3
            have hk1 : ((k : Int) - 1).toNat = k - 1 := by omega
            have hk0I : (0 : Int) < k := by omega
            have hk0J : (1 : Int) ≤ k := by omega
            have hk0K : (0 : Int) ≤ (k : Int) - 1 := by omega
            have hk0L : (k : Int) - 1 < l.length := by omega
            have hbw : b < wr.heap.size := by omega
            have hbw1 : b < wr.heap.size + 1 := by omega
            have hokn := okAt_next hkl hk0
            rw [HK.out, Bool.true_and] at hokn
            obtain ⟨hp1, hp2⟩ := okAt_hi (show k - 1 < l.length by omega) (HQ.out (k - 1) (by omega))
            obtain ⟨y, hy⟩ : ∃ y, y = l[k - 1].hi := ⟨_, rfl⟩
            rw [← hy] at d3 hn1 hn2 hokn hp1 hp2
            have HON := Lib.hid hokn
            clear c2 c3 hm1 hm2 hokn hy
            by_cases hov : l[k].lo ≤ y + 1
            · rcases HS with s | ⟨s, s'⟩
              all_goals
                go_wp2_with fail
                refine wp_flow_below rfl (by kernel_rfl) ?_
                repeat (first
                  | (apply flow_yes
                     · rfl
                     · intro W1 hW K hK
                       obtain ⟨hc, hf⟩ := bcell hW
                       go_wp2_with (first | (go_at_call 121; with_reducible refine (point_is P.out _).mono ?_; rintro e w' ⟨rfl, rfl⟩) | (go_at_call 121; with_reducible refine (point_is Q.out _).mono ?_; rintro e w' ⟨rfl, rfl⟩))
                       exact hW
                     simp only [Act.put, List.setIfInBounds_toArray, List.set_cons_zero, List.set_cons_succ])
                  | (apply flow_no
                     · rfl
                     simp only [Act.put, List.setIfInBounds_toArray, List.set_cons_zero, List.set_cons_succ]))
                refine flow_nil fun W1 hW => ?_
                obtain ⟨hc, hf⟩ := bcell hW
                go_wp2
                go_ret
                exact rgt_no hkl (HON.out.trans (by simp [hov])) (HBN.out.trans (hW.mono HBN.out.size))
            · have hov' : decide (l[k].lo ≤ y + 1) = false := by simpa using hov
              have HQ' : Hid (∀ j, j < k + 1 → okAt l j = true) := Lib.hid (fun j hj => by
                by_cases e : j < k
                · exact HQ.out j e
                · obtain rfl : j = k := by omega
                  exact HON.out.trans (by simp [hov]))
              rcases HS with s | ⟨s, s'⟩
              all_goals
                go_wp2_with fail
                refine wp_flow_below rfl (by kernel_rfl) ?_
                repeat (first
                  | (apply flow_yes
                     · rfl
                     · intro W1 hW K hK
                       obtain ⟨hc, hf⟩ := bcell hW
                       go_wp2_with (first | (go_at_call 121; with_reducible refine (point_is P.out _).mono ?_; rintro e w' ⟨rfl, rfl⟩) | (go_at_call 121; with_reducible refine (point_is Q.out _).mono ?_; rintro e w' ⟨rfl, rfl⟩))
                       exact hW
                     simp only [Act.put, List.setIfInBounds_toArray, List.set_cons_zero, List.set_cons_succ])
                  | (apply flow_no
                     · rfl
                     simp only [Act.put, List.setIfInBounds_toArray, List.set_cons_zero, List.set_cons_succ]))
                refine flow_nil fun W1 hW => ?_
                obtain ⟨hc, hf⟩ := bcell hW
                go_wp2_with fail
                go_roundw
                case rel => exact ⟨k + 1, by omega, by go_num, HBN.out.trans (hW.mono HBN.out.size), HQ'⟩
                case measure => simp [intOf]; omega
          · have hk0I : decide (0 < k) = false := by simp; omega
            have HQ' : Hid (∀ j, j < k + 1 → okAt l j = true) := Lib.hid (fun j hj => by
              obtain rfl : j = 0 := by omega
              have e : k = 0 := by omega
              have e2 := HK.out
              subst e
              rw [okAt_first hkl]; exact e2)
            clear hk0
            rcases HS with s | ⟨s, s'⟩
            all_goals
              go_wp2_with fail
              refine wp_flow_below rfl (by kernel_rfl) ?_
              repeat (first
                | (apply flow_yes
                   · rfl
                   · intro W1 hW K hK
                     obtain ⟨hc, hf⟩ := bcell hW
                     go_wp2_with (first | (go_at_call 121; with_reducible refine (point_is P.out _).mono ?_; rintro e w' ⟨rfl, rfl⟩) | (go_at_call 121; with_reducible refine (point_is Q.out _).mono ?_; rintro e w' ⟨rfl, rfl⟩))
                     exact hW
                   simp only [Act.put, List.setIfInBounds_toArray, List.set_cons_zero, List.set_cons_succ])
                | (apply flow_no
                   · rfl
                   simp only [Act.put, List.setIfInBounds_toArray, List.set_cons_zero, List.set_cons_succ]))
              refine flow_nil fun W1 hW => ?_
              obtain ⟨hc, hf⟩ := bcell hW
              go_wp2_with fail
              go_roundw
              case rel => exact ⟨k + 1, by omega, by go_num, HBN.out.trans (hW.mono HBN.out.size), HQ'⟩
              case measure => simp [intOf]; omega
      · obtain rfl : k = l.length := by omega
        go_wp2
        go_ret
        exact ⟨ret_bool ((rgsOk_all l).2 HQ.out).symm, hbr⟩
  · obtain rfl : l = [] := List.eq_nil_of_length_eq_zero (by omega)
    obtain ⟨o, c, rfl⟩ := h.row.slice
    clear h hne
    simp only [List.length_nil]
    go_enter Tryz.func95, Tryz.ntmps95
    go_wp2
    go_rounds 1
    all_goals go_wp2
    go_ret
    exact ⟨rfl, Below.refl _ _⟩
end Go.Proofs.YtnhjakdmbfadlaaGreatDoor

/- gaugerlaw07.nullable. -/
namespace Go.Proofs.YtnhjakdmbfadlaaGreatDoor
open Go.RowKit Wy Mem Grow

def NulSpec (t : Nd) : Prop := ∀ (N : Nat → Prop) (w : World) (cs : List Value), NdAt N w t cs →
  Calls Tryz.prog 37 #[.agg cs.toArray] w fun e w' => e = .returned (.bool (Wy.look t).nullable) ∧ Below w.heap.size w w'
def anyN (l : List Nd) : Bool := l.any fun s => (Wy.look s).nullable
def allN (l : List Nd) : Bool := l.all fun s => (Wy.look s).nullable
theorem anyN_take {l : List Nd} {i : Nat} (hi : i < l.length) : anyN (l.take (i + 1)) = (anyN (l.take i) || (Wy.look l[i]).nullable) := by
  unfold anyN
  rw [List.take_succ_eq_append_getElem hi, List.any_append]
  simp
theorem allN_take {l : List Nd} {i : Nat} (hi : i < l.length) : allN (l.take (i + 1)) = (allN (l.take i) && (Wy.look l[i]).nullable) := by
  unfold allN
  rw [List.take_succ_eq_append_getElem hi, List.all_append]
  simp
set_option maxHeartbeats 4000000 in
set_option maxRecDepth 100000 in
theorem nul_step {k : Int} {set : List Rg} {lo hi : Int} {lazy : Bool} {subs : List Nd} (ih : ∀ s ∈ subs, NulSpec s) : NulSpec (.mk k set lo hi lazy subs) := by
  intro N w cs hnd
  rw [NdAt] at hnd
  obtain ⟨sv, uv, ucs, rfl, hk, hlo, hhi, hset, hrow, hsubs⟩ := hnd
  obtain ⟨os, cs, rfl⟩ := hset.row.slice
  obtain ⟨ou, cu, rfl⟩ := hrow.slice
  have HIH := Lib.hid ih
  have HROW := Lib.hid hrow
  have HSUBS := Lib.hid hsubs
  have hsl : (subs.length : Int) ≤ 1048576 := by omega
  clear ih hset hrow hsubs
  go_enter Tryz.func37, Tryz.ntmps37
  go_upto_region 1 with fail
  have hB : Blk (w.alloc (.cells #[.int .u8 k, .slice os set.length cs, .int .i64 lo, .int .i64 hi, .bool lazy, .slice ou subs.length cu] 27)) w.heap.size #[.int .u8 k, .slice os set.length cs, .int .i64 lo, .int .i64 hi, .bool lazy, .slice ou subs.length cu] 27 := Blk.new _ _ _
  have hbW : Below w.heap.size w (w.alloc (.cells #[.int .u8 k, .slice os set.length cs, .int .i64 lo, .int .i64 hi, .bool lazy, .slice ou subs.length cu] 27)) := (Below.refl _ _).alloc (Nat.le_refl _) _
  generalize (w.alloc (.cells #[.int .u8 k, .slice os set.length cs, .int .i64 lo, .int .i64 hi, .bool lazy, .slice ou subs.length cu] 27)) = W at hB hbW ⊢
  obtain ⟨d0, d1, d2, d3, d4, d5⟩ : W.cell? ⟨w.heap.size, 0, none⟩ = some (.int .u8 k) ∧ W.cell? ⟨w.heap.size, 1, none⟩ = some (.slice os set.length cs) ∧ W.cell? ⟨w.heap.size, 2, none⟩ = some (.int .i64 lo) ∧ W.cell? ⟨w.heap.size, 3, none⟩ = some (.int .i64 hi) ∧ W.cell? ⟨w.heap.size, 4, none⟩ = some (.bool lazy) ∧ W.cell? ⟨w.heap.size, 5, none⟩ = some (.slice ou subs.length cu) :=
    ⟨hB.cell 0, hB.cell 1, hB.cell 2, hB.cell 3, hB.cell 4, hB.cell 5⟩
  have dz := hB.lt
  have HB := Lib.hid hB
  have HBW := Lib.hid hbW
  clear hB hbW
  go_wp2_with fail
  go_loopw [3, 4, 11] (fun s3 s4 s11 wx => ∃ i : Nat, i ≤ subs.length ∧ s11 = .int .i64 i ∧ s3 = .bool (anyN (subs.take i)) ∧ s4 = .bool (allN (subs.take i)) ∧ Below W.heap.size W wx) (fun _ _ s11 _ => subs.length - (intOf s11).toNat)
  case atStart => exact ⟨0, by omega, rfl, rfl, rfl, Below.refl _ _⟩
  case round =>
    rename World => Wa
    obtain ⟨i, hi', rfl, rfl, rfl, hba⟩ := hrel
    have HBA := Lib.hid hba
    by_cases hil : i < subs.length
    · obtain ⟨ub, uo, uc, hue, huc, hum, hNub, hubz, hucell⟩ := HROW.out.parts HSUBS.out (by omega)
      simp only [Value.slice.injEq, true_and] at hue
      obtain ⟨rfl, rfl⟩ := hue
      obtain ⟨tsv, tuv, hnt, t0, t1, t2, t3, t4, t5⟩ := hucell i hil
      have hub : Wa.heap[ub]? = w.heap[ub]? := (hba.block ub (by have := HBW.out.size; omega)).trans (HBW.out.block ub hubz)
      have hnta := NdAt.go (M := N) (Kept.of_below (HBW.out.trans (hba.mono HBW.out.size)) (fun _ => False)) (fun q _ hn => ⟨id, hn⟩) hnt
      have hsl1 : ∃ o n c, tsv = .slice o n c := by
        generalize subs[i] = t at hnt
        cases t
        rw [NdAt] at hnt
        obtain ⟨sv', uv', ucs', h1, -, -, -, h5, h6, -⟩ := hnt
        simp only [List.cons.injEq] at h1
        rw [h1.2.1]
        obtain ⟨o, c, e⟩ := h5.row.slice
        exact ⟨_, _, _, e⟩
      have hsl2 : ∃ o n c, tuv = .slice o n c := by
        generalize subs[i] = t at hnt
        cases t
        rw [NdAt] at hnt
        obtain ⟨sv', uv', ucs', h1, -, -, -, h5, h6, -⟩ := hnt
        simp only [List.cons.injEq] at h1
        rw [h1.2.2.2.2.2.1]
        obtain ⟨o, c, e⟩ := h6.slice
        exact ⟨_, _, _, e⟩
      obtain ⟨to1, tn1, tc1, rfl⟩ := hsl1
      obtain ⟨to2, tn2, tc2, rfl⟩ := hsl2
      have g0 := (World.cell?_of_block (a := ⟨ub, uo + i * 6, none⟩) hub).trans t0
      have g1 := (World.cell?_of_block (a := ⟨ub, uo + i * 6 + 1, none⟩) hub).trans t1
      have g2 := (World.cell?_of_block (a := ⟨ub, uo + i * 6 + 2, none⟩) hub).trans t2
      have g3 := (World.cell?_of_block (a := ⟨ub, uo + i * 6 + 3, none⟩) hub).trans t3
      have g4 := (World.cell?_of_block (a := ⟨ub, uo + i * 6 + 4, none⟩) hub).trans t4
      have g5 := (World.cell?_of_block (a := ⟨ub, uo + i * 6 + 5, none⟩) hub).trans t5
      have hubza : ub < Wa.heap.size := by have := HBW.out.size; have := hba.size; omega
      have hilI : (i : Int) < subs.length := by omega
      have hucI : (subs.length : Int) ≤ cu := by omega
      obtain ⟨ts, hts⟩ : ∃ ts, ts = subs[i] := ⟨_, rfl⟩
      have hcall := HIH.out subs[i] (List.getElem_mem hil) N (Wa.alloc (.cells #[.int .u8 subs[i].kind, .slice to1 tn1 tc1, .int .i64 subs[i].lo, .int .i64 subs[i].hi, .bool subs[i].lazy, .slice to2 tn2 tc2] 27)) _ (NdAt.go ((Kept.refl (fun _ => False) Wa).alloc _) (fun q _ hn => ⟨id, hn⟩) hnta)
      have ha := anyN_take hil
      have hb := allN_take hil
      rw [← hts] at g0 g2 g3 g4 hcall ha hb
      obtain ⟨nt, hn⟩ : ∃ nt, nt = (Wy.look ts).nullable := ⟨_, rfl⟩
      rw [← hn] at hcall ha hb
      have HCALL := Lib.hid hcall
      have HA := Lib.hid ha
      have HB' := Lib.hid hb
      clear hucell hnt hnta hub t0 t1 t2 t3 t4 t5 hts hn hcall ha hb hba
      generalize anyN (subs.take i) = an at HA ⊢
      generalize allN (subs.take i) = al at HB' ⊢
      have fin : ∀ w5, Below (Wa.heap.size + 1) (Wa.alloc (.cells #[.int .u8 ts.kind, .slice to1 tn1 tc1, .int .i64 ts.lo, .int .i64 ts.hi, .bool ts.lazy, .slice to2 tn2 tc2] 27)) w5 → Below W.heap.size W w5 := fun w5 h5 =>
        (HBA.out.alloc HBA.out.size _).trans (h5.mono (by have := HBA.out.size; omega))
      have FIN := Lib.hid fin
      clear fin
      cases an <;> cases al
      all_goals
        go_wp2_with (first | (go_at_call 37; refine HCALL.out.mono ?_; rintro e w5 ⟨rfl, hb5⟩; have HB5 := Lib.hid (FIN.out w5 (by simpa using hb5)); clear hb5))
        go_roundw
        case rel => exact ⟨i + 1, by omega, by go_num, by rw [HA.out]; simp, by rw [HB'.out]; simp, HB5.out⟩
        case measure => simp [intOf]; omega
    · obtain rfl : i = subs.length := by omega
      have y0 : Wa.cell? ⟨w.heap.size, 0, none⟩ = some (.int .u8 k) := (hba.cell (p := ⟨w.heap.size, 0, none⟩) dz).trans d0
      have y2 : Wa.cell? ⟨w.heap.size, 2, none⟩ = some (.int .i64 lo) := (hba.cell (p := ⟨w.heap.size, 2, none⟩) dz).trans d2
      have yz : w.heap.size < Wa.heap.size := by have := hba.size; omega
      have hfin : Below w.heap.size w Wa := HBW.out.trans (hba.mono HBW.out.size)
      have hl := look_nullable k set lo hi lazy subs
      rw [List.take_length]
      change _ = if k = 1 then true else if k = 3 then allN subs else if k = 5 then anyN subs || decide (lo = 0) else anyN subs at hl
      have HFIN := Lib.hid hfin
      have HL := Lib.hid hl
      generalize anyN subs = an at HL ⊢
      generalize allN subs = al at HL ⊢
      clear hfin hl hba
      by_cases k1 : k = 1
      · subst k1
        go_wp2_with fail
        go_ret
        exact ⟨by rw [HL.out]; rfl, HFIN.out⟩
      have k1b : (k == 1) = false := by simpa using k1
      by_cases k3 : k = 3
      · subst k3
        go_wp2_with fail
        go_ret
        exact ⟨by rw [HL.out]; rfl, HFIN.out⟩
      have k3b : (k == 3) = false := by simpa using k3
      by_cases k5 : k = 5
      · subst k5
        cases an
        · by_cases hl0 : lo = 0
          · subst hl0
            go_wp2_with fail
            go_ret
            exact ⟨by rw [HL.out]; simp, HFIN.out⟩
          · have hlb : (lo == 0) = false := by simpa using hl0
            go_wp2_with fail
            go_ret
            exact ⟨by rw [HL.out]; simp [hl0], HFIN.out⟩
        · go_wp2_with fail
          go_ret
          exact ⟨by rw [HL.out]; simp, HFIN.out⟩
      have k5b : (k == 5) = false := by simpa using k5
      go_wp2_with fail
      go_ret
      exact ⟨by rw [HL.out]; simp [k1, k3, k5], HFIN.out⟩
theorem nul_all : ∀ t : Nd, NulSpec t
  | .mk k set lo hi lazy subs => nul_step (fun s hs => nul_all s)
termination_by t => SizeOf.sizeOf t
decreasing_by
  have := List.sizeOf_lt_of_mem hs
  simp
  omega
end Go.Proofs.YtnhjakdmbfadlaaGreatDoor

/- gaugerlaw07.leaf. -/
namespace Go.Proofs.YtnhjakdmbfadlaaGreatDoor
open Go.RowKit Wy Mem Grow

def Lef (a b : Nat) (w : World) (e : Ending) (w' : World) : Prop := ∃ cs, e = .returned (.agg cs.toArray) ∧ NdAt (fun q => w.heap.size ≤ q) w' (leafT a b) cs ∧ Below w.heap.size w w'
theorem leaf_end {w : World} {l : List Rg} {o1 o2 : Obj} {a b : Nat} (hl : leafS a b = l) (hs : l.length ≤ 2) (hok : ∀ r ∈ l, I64 r.lo ∧ I64 r.hi) :
    Lef a b w (.returned (.agg #[.int .u8 2, .slice (some ⟨w.heap.size + 1 + 1, 0, none⟩) l.length l.length, .int .i64 0, .int .i64 0, .bool false, .slice none 0 0])) (((w.alloc o1).alloc o2).alloc (.cells (l.flatMap rgCs).toArray 122)) := by
  have hB : Blk (((w.alloc o1).alloc o2).alloc (.cells (l.flatMap rgCs).toArray 122)) (w.heap.size + 1 + 1) (l.flatMap rgCs).toArray 122 := Blk.new' _ _ (by simp)
  refine ⟨[.int .u8 2, .slice (some ⟨w.heap.size + 1 + 1, 0, none⟩) l.length l.length, .int .i64 0, .int .i64 0, .bool false, .slice none 0 0], rfl, ?_, (((Below.refl _ _).alloc (Nat.le_refl _) _).alloc (by simp) _).alloc (by simp; omega) _⟩
  unfold leafT
  rw [NdAt, hl]
  refine ⟨_, _, [], rfl, ⟨by omega, by omega, by simp⟩, ⟨by decide, by decide⟩, ⟨by decide, by decide⟩, ⟨⟨flat_len (f := rgCs) (n := 2) (fun _ => rfl) l, .inr ⟨_, 0, _, rfl, Nat.le_refl _, by unfold maxLen; omega, by show w.heap.size ≤ _; omega, hB.lt, fun j _ => ?_⟩⟩, hok, by omega⟩, ⟨rfl, .inl ⟨rfl, _, _, rfl⟩⟩, by rw [NdsAt]⟩
  rw [Nat.zero_add, hB.cell]
  simp
theorem ok_one {x y : Int} (hx : 0 ≤ x ∧ x ≤ 1114111) (hy : 0 ≤ y ∧ y ≤ 1114111) : ∀ r ∈ [(⟨x, y⟩ : Rg)], I64 r.lo ∧ I64 r.hi := by
  intro r hr
  rw [List.mem_singleton] at hr
  subst hr
  unfold I64
  simp only
  omega
theorem ok_two {x y x' y' : Int} (hx : 0 ≤ x ∧ x ≤ 1114111) (hy : 0 ≤ y ∧ y ≤ 1114111) (hx' : 0 ≤ x' ∧ x' ≤ 1114111) (hy' : 0 ≤ y' ∧ y' ≤ 1114111) : ∀ r ∈ [(⟨x, y⟩ : Rg), ⟨x', y'⟩], I64 r.lo ∧ I64 r.hi := by
  intro r hr
  rcases List.mem_cons.1 hr with rfl | hr
  · unfold I64; simp only; omega
  · exact ok_one hx' hy' r hr
theorem sign_at : ∀ (i : Nat) (hi : i < 6), wrap64 (((⟨#[42, 46, 124, 92, 45, 93]⟩ : ByteArray)[i]'hi).toNat : Int) = signs.getD i 0 := by unfold wrap64; decide
theorem sign_ok : ∀ (i : Nat), i < 6 → 0 ≤ signs.getD i 0 ∧ signs.getD i 0 ≤ 1114111 := by decide
set_option maxHeartbeats 4000000 in
set_option maxRecDepth 100000 in
theorem leaf_any (a b : Nat) (ha : a < 256) (hb : b < 256) (w : World) : Calls Tryz.prog 36 #[.int .u8 a, .int .u8 b] w (Lef a b w) := by
  have hc : a % 8 = 0 ∨ a % 8 = 1 ∨ a % 8 = 2 ∨ a % 8 = 3 ∨ a % 8 = 4 ∨ 4 < a % 8 := by omega
  have hb6 : b % 6 < 6 := Nat.mod_lt _ (by omega)
  rcases hc with h | h | h | h | h | h
  · have e0 : ((a : Int) % 8 == 0) = true := by simp; omega
    go_enter Tryz.func36, Tryz.ntmps36
    go_wp2_with fail
    exact bodyPost_ret (by simp [results, Tryz.results36, go_sem]; done) rfl (leaf_end (l := [⟨0, 55295⟩, ⟨57344, 1114111⟩]) (by unfold leafS; rw [if_pos h]) (by decide) (ok_two (by omega) (by omega) (by omega) (by omega)))
  · have e0 : ((a : Int) % 8 == 0) = false := by simp; omega
    have e1 : ((a : Int) % 8 == 1) = true := by simp; omega
    go_enter Tryz.func36, Tryz.ntmps36
    go_wp2_with fail
    exact bodyPost_ret (by simp [results, Tryz.results36, go_sem]; done) rfl (leaf_end (l := [⟨97, 99⟩]) (by unfold leafS; rw [if_neg (by omega), if_pos h]) (by decide) (ok_one (by omega) (by omega)))
  · have e0 : ((a : Int) % 8 == 0) = false := by simp; omega
    have e1 : ((a : Int) % 8 == 1) = false := by simp; omega
    have e2 : ((a : Int) % 8 == 2) = true := by simp; omega
    go_enter Tryz.func36, Tryz.ntmps36
    go_wp2_with fail
    exact bodyPost_ret (by simp [results, Tryz.results36, go_sem]; done) rfl (leaf_end (l := [⟨48, 57⟩, ⟨97, 98⟩]) (by unfold leafS; rw [if_neg (by omega), if_neg (by omega), if_pos h]) (by decide) (ok_two (by omega) (by omega) (by omega) (by omega)))
  · have e0 : ((a : Int) % 8 == 0) = false := by simp; omega
    have e1 : ((a : Int) % 8 == 1) = false := by simp; omega
    have e2 : ((a : Int) % 8 == 2) = false := by simp; omega
    have e3 : ((a : Int) % 8 == 3) = true := by simp; omega
    go_enter Tryz.func36, Tryz.ntmps36
    go_wp2_with fail
    exact bodyPost_ret (by simp [results, Tryz.results36, go_sem]; done) rfl (leaf_end (l := [⟨8364, 8364⟩]) (by unfold leafS; rw [if_neg (by omega), if_neg (by omega), if_neg (by omega), if_pos h]) (by simp) (ok_one (by omega) (by omega)))
  · have e0 : ((a : Int) % 8 == 0) = false := by simp; omega
    have e1 : ((a : Int) % 8 == 1) = false := by simp; omega
    have e2 : ((a : Int) % 8 == 2) = false := by simp; omega
    have e3 : ((a : Int) % 8 == 3) = false := by simp; omega
    have e4 : ((a : Int) % 8 == 4) = true := by simp; omega
    go_enter Tryz.func36, Tryz.ntmps36
    go_wp2_with fail
    rw [sign_at _ hb6]
    exact bodyPost_ret (by simp [results, Tryz.results36, go_sem]; done) rfl (leaf_end (l := [⟨signs.getD (b % 6) 0, signs.getD (b % 6) 0⟩]) (by unfold leafS; rw [if_neg (by omega), if_neg (by omega), if_neg (by omega), if_neg (by omega), if_pos h]) (by simp) (ok_one (sign_ok _ hb6) (sign_ok _ hb6)))
  · have e0 : ((a : Int) % 8 == 0) = false := by simp; omega
    have e1 : ((a : Int) % 8 == 1) = false := by simp; omega
    have e2 : ((a : Int) % 8 == 2) = false := by simp; omega
    have e3 : ((a : Int) % 8 == 3) = false := by simp; omega
    have e4 : ((a : Int) % 8 == 4) = false := by simp; omega
    go_enter Tryz.func36, Tryz.ntmps36
    go_wp2_with fail
    exact bodyPost_ret (by simp [results, Tryz.results36, go_sem]; done) rfl (leaf_end (l := [⟨97 + (b : Int) % 4, 97 + (b : Int) % 4⟩]) (by unfold leafS; rw [if_neg (by omega), if_neg (by omega), if_neg (by omega), if_neg (by omega), if_neg (by omega)]; rfl) (by simp) (ok_one (by omega) (by omega)))
end Go.Proofs.YtnhjakdmbfadlaaGreatDoor

/- slices.Clone, at spans and at ways. -/
namespace Go.Proofs.YtnhjakdmbfadlaaGreatDoor
open Go.RowKit Wy Mem Grow

theorem info45 : (Tryz.prog.info? 57).map (fun i => (i.zero, i.size, i.bytes)) = some (some (.agg #[.int .i64 0, .int .i64 0]), 2, 16) := by kernel_rfl
theorem info43 : (Tryz.prog.info? 43).map (fun i => (i.zero, i.size, i.bytes)) = some (some (.agg #[.int .i64 0, .slice none 0 0]), 2, 32) := by kernel_rfl
/-- a row that was just built, and is empty -/
theorem own_empty (w : World) (e : TypeId) (sz : Nat) : (w.alloc (.cells #[] e)).ownsRow w.heap.size e sz (.slice (some ⟨w.heap.size, 0, none⟩) 0 0) 0 [] :=
  ⟨by simp, .inr ⟨w.heap.size, 0, _, rfl, Nat.le_refl _, heap_alloc_new w _, Nat.le_refl _, by unfold maxLen; omega, by simp, by simp⟩⟩
theorem src_row {N : Nat → Prop} {w : World} {v : Value} {n sz : Nat} {cs : List Value} (h : Row N w v n sz cs) : SrcAt w v n cs := by
  rcases h.at_ with ⟨rfl, o, c, rfl⟩ | ⟨b, off, cap, rfl, -, -, -, -, h5⟩
  · have : cs = [] := List.eq_nil_of_length_eq_zero (by simpa using h.len)
    subst this
    cases o with
    | none => exact .inl ⟨c, rfl, rfl, rfl⟩
    | some a => exact .inr ⟨a, c, rfl, fun j u hu => by simp at hu⟩
  · refine .inr ⟨_, _, rfl, fun j u hu => ?_⟩
    have hj : j < cs.length := by
      by_cases e : j < cs.length
      · exact e
      · rw [List.getElem?_eq_none (by omega)] at hu; cases hu
    have := h5 j hj
    rw [hu] at this
    by_cases e : j = 0
    · subst e; simpa [Addr.add] using this
    · simpa [Addr.add, e] using this
def Clo (T : TypeId) (n : Nat) (cs : List Value) (w : World) (e : Ending) (w' : World) : Prop := ∃ v', e = .returned v' ∧ w'.ownsRow w.heap.size T 2 v' n cs ∧ Below w.heap.size w w'
set_option maxHeartbeats 1000000 in
set_option maxRecDepth 100000 in
theorem cloneS_any {N : Nat → Prop} {w : World} {v : Value} {n : Nat} {cs : List Value} (h : Row N w v n 2 cs) (h1 : ∀ u ∈ cs, u.oneCell' = true) (hn : n ≤ 1048576) :
    Calls Tryz.prog 72 #[v] w (Clo 57 n cs w) := by
  obtain ⟨o, c, rfl⟩ := h.slice
  have hsrc := src_row (h.kept ((Kept.refl (fun _ => False) w).alloc (.cells #[] 57)) (fun _ _ _ => id))
  have hl := h.len
  obtain ⟨i0, hi, hz0, hz1, hz2⟩ := info_parts info45
  have HS := Lib.hid hsrc
  have HL := Lib.hid hl
  have HH := Lib.hid h
  have H1 := Lib.hid h1
  have hown := Lib.hid (own_empty w 57 2)
  have hq := fun w => Lib.run_eql_slice_nil (P := Tryz.prog) w 41 57 o n c 0 0 Tryz.underlying41
  have hbs : w.heap.size ≤ (w.alloc (.cells #[] 57)).heap.size := by simp
  have HBS := Lib.hid hbs
  clear hsrc hl h h1 hbs
  cases o with
  | none =>
    go_enter Tryz.func72, Tryz.ntmps72
    go_wp2
    go_ret
    have hn0 : n = 0 := by
      rcases HH.out.at_ with ⟨h0, _⟩ | ⟨b, off, cap, he, _⟩
      · exact h0
      · cases he
    refine ⟨_, rfl, ⟨HL.out, .inl ⟨rfl, hn0⟩⟩, Below.refl _ _⟩
  | some a =>
    go_enter Tryz.func72, Tryz.ntmps72
    go_wp2_with (first | (at_builtin; refine wpList_append_row rfl _ _ 41 rfl Tryz.underlying41 hi hz0 hz1 hz2 rfl (.slice (some ⟨w.heap.size, 0, none⟩) 0 0) 0 [] rfl hown.out _ n cs rfl HS.out HL.out H1.out (by unfold maxLen; omega) (by omega) HBS.out ?_; intro v' w4 hown' hgrow h3' h4'))
    go_ret
    rw [Nat.zero_add, List.nil_append] at hown'
    exact ⟨_, rfl, hown', ((Below.refl _ _).alloc (Nat.le_refl _) _).grown hgrow (by simp) (fun q hq' => by have e : w.heap.size = q := (by simpa [Value.ownBlock] using hq'); omega)⟩
set_option maxHeartbeats 1000000 in
set_option maxRecDepth 100000 in
theorem cloneW_any {N : Nat → Prop} {w : World} {v : Value} {n : Nat} {cs : List Value} (h : Row N w v n 2 cs) (h1 : ∀ u ∈ cs, u.oneCell' = true) (hn : n ≤ 1048576) :
    Calls Tryz.prog 71 #[v] w (Clo 43 n cs w) := by
  obtain ⟨o, c, rfl⟩ := h.slice
  have hsrc := src_row (h.kept ((Kept.refl (fun _ => False) w).alloc (.cells #[] 43)) (fun _ _ _ => id))
  have hl := h.len
  obtain ⟨i0, hi, hz0, hz1, hz2⟩ := info_parts info43
  have HS := Lib.hid hsrc
  have HL := Lib.hid hl
  have HH := Lib.hid h
  have H1 := Lib.hid h1
  have hown := Lib.hid (own_empty w 43 2)
  have hq := fun w => Lib.run_eql_slice_nil (P := Tryz.prog) w 38 43 o n c 0 0 Tryz.underlying38
  have hbs : w.heap.size ≤ (w.alloc (.cells #[] 43)).heap.size := by simp
  have HBS := Lib.hid hbs
  clear hsrc hl h h1 hbs
  cases o with
  | none =>
    go_enter Tryz.func71, Tryz.ntmps71
    go_wp2
    go_ret
    have hn0 : n = 0 := by
      rcases HH.out.at_ with ⟨h0, _⟩ | ⟨b, off, cap, he, _⟩
      · exact h0
      · cases he
    refine ⟨_, rfl, ⟨HL.out, .inl ⟨rfl, hn0⟩⟩, Below.refl _ _⟩
  | some a =>
    go_enter Tryz.func71, Tryz.ntmps71
    go_wp2_with (first | (at_builtin; refine wpList_append_row rfl _ _ 38 rfl Tryz.underlying38 hi hz0 hz1 hz2 rfl (.slice (some ⟨w.heap.size, 0, none⟩) 0 0) 0 [] rfl hown.out _ n cs rfl HS.out HL.out H1.out (by unfold maxLen; omega) (by omega) HBS.out ?_; intro v' w4 hown' hgrow h3' h4'))
    go_ret
    rw [Nat.zero_add, List.nil_append] at hown'
    exact ⟨_, rfl, hown', ((Below.refl _ _).alloc (Nat.le_refl _) _).grown hgrow (by simp) (fun q hq' => by have e : w.heap.size = q := (by simpa [Value.ownBlock] using hq'); omega)⟩
end Go.Proofs.YtnhjakdmbfadlaaGreatDoor

/- Ways as they lie in memory. -/
namespace Go.Proofs.YtnhjakdmbfadlaaGreatDoor
open Go.RowKit Wy Mem Grow

def spCs (s : Int × Int) : List Value := [.int .i64 s.1, .int .i64 s.2]
theorem spCs_one (l : List (Int × Int)) : ∀ u ∈ l.flatMap spCs, u.oneCell' = true := by
  intro u hu
  obtain ⟨a, -, ha⟩ := List.mem_flatMap.1 hu
  simp only [spCs, List.mem_cons, List.not_mem_nil, or_false] at ha
  rcases ha with rfl | rfl <;> rfl
/-- spans -/
structure SpsAt (N : Nat → Prop) (w : World) (v : Value) (l : List (Int × Int)) : Prop where
  row : Row N w v l.length 2 (l.flatMap spCs)
  ok : ∀ s ∈ l, I64 s.1 ∧ I64 s.2
  small : l.length ≤ 64
theorem SpsAt.kept {N X : Nat → Prop} {w w' : World} {v : Value} {l : List (Int × Int)} (h : SpsAt N w v l) (k : Kept X w w') (hd : ∀ b, b < w.heap.size → N b → ¬ X b) : SpsAt N w' v l := ⟨h.row.kept k hd, h.ok, h.small⟩
theorem SpsAt.mono {N M : Nat → Prop} {w : World} {v : Value} {l : List (Int × Int)} (h : SpsAt N w v l) (hm : ∀ b, N b → M b) : SpsAt M w v l := ⟨h.row.mono hm, h.ok, h.small⟩
/-- the variable none -/
def NoneAt (w : World) : Prop := 2 < w.heap.size ∧ w.cell? ⟨2, 0, none⟩ = some (.int .i64 (-1)) ∧ w.cell? ⟨2, 1, none⟩ = some (.int .i64 (-1))
theorem NoneAt.kept {X : Nat → Prop} {w w' : World} (h : NoneAt w) (k : Kept X w w') (hx : ¬ X 2) : NoneAt w' :=
  ⟨k.lt h.1, (World.cell?_of_block (k.block _ h.1 hx)).trans h.2.1, (World.cell?_of_block (k.block _ h.1 hx)).trans h.2.2⟩
theorem NoneAt.below {w w' : World} (h : NoneAt w) (hb : Below w.heap.size w w') : NoneAt w' := h.kept (Kept.of_below hb (fun _ => False)) id
/-- what goes on -/
def thenS (a b : List (Int × Int)) : List (Int × Int) := List.zipWith (fun p q => if q.1 = -1 ∧ q.2 = -1 then p else q) a b
def thenK (a b : List (Int × Int)) (k : Nat) : List (Int × Int) := thenS (a.take k) (b.take k) ++ b.drop k
theorem thenK_zero (a b : List (Int × Int)) : thenK a b 0 = b := by simp [thenK, thenS]
theorem thenK_all {a b : List (Int × Int)} (h : a.length = b.length) : thenK a b b.length = thenS a b := by
  unfold thenK
  rw [List.take_of_length_le (by omega), List.take_of_length_le (by omega), List.drop_eq_nil_of_le (by omega), List.append_nil]
theorem thenK_length {a b : List (Int × Int)} (h : a.length = b.length) (k : Nat) (hk : k ≤ b.length) : (thenK a b k).length = b.length := by
  unfold thenK thenS
  rw [List.length_append, List.length_zipWith, List.length_take, List.length_take, List.length_drop]
  omega
theorem thenK_get {a b : List (Int × Int)} (h : a.length = b.length) {k : Nat} (hk : k < b.length) : (thenK a b k)[k]? = some b[k] := by
  have hl : (thenS (a.take k) (b.take k)).length = k := by
    unfold thenS
    rw [List.length_zipWith, List.length_take, List.length_take]; omega
  unfold thenK
  rw [List.getElem?_append_right (by omega), hl, Nat.sub_self, List.getElem?_drop, Nat.add_zero, List.getElem?_eq_getElem hk]
theorem thenK_succ {a b : List (Int × Int)} (h : a.length = b.length) {k : Nat} (hk : k < b.length) :
    thenK a b (k + 1) = (thenK a b k).set k (if b[k].1 = -1 ∧ b[k].2 = -1 then a[k]'(by omega) else b[k]) := by
  have hl : (thenS (a.take k) (b.take k)).length = k := by
    unfold thenS
    rw [List.length_zipWith, List.length_take, List.length_take]; omega
  have e1 : thenS (a.take (k + 1)) (b.take (k + 1)) = thenS (a.take k) (b.take k) ++ [if b[k].1 = -1 ∧ b[k].2 = -1 then a[k]'(by omega) else b[k]] := by
    unfold thenS
    rw [List.take_succ_eq_append_getElem (by omega), List.take_succ_eq_append_getElem hk, List.zipWith_append (by rw [List.length_take, List.length_take]; omega)]
    rfl
  unfold thenK
  rw [e1, List.set_append_right _ _ (by omega), hl, Nat.sub_self, List.append_assoc]
  congr 1
  rw [List.drop_eq_getElem_cons hk]
  rfl
theorem flat_set2 : ∀ (l : List (Int × Int)) (k : Nat) (c : Int × Int), k < l.length → ((l.flatMap spCs).set (k * 2) (.int .i64 c.1)).set (k * 2 + 1) (.int .i64 c.2) = (l.set k c).flatMap spCs
  | [], k, c, hk => by simp at hk
  | x :: r, 0, c, _ => by simp [spCs]
  | x :: r, k + 1, c, hk => by
    have ih := flat_set2 r k c (by simpa using hk)
    have e3 : (k + 1) * 2 + 1 = k * 2 + 1 + 1 + 1 := by omega
    have e4 : (k + 1) * 2 = k * 2 + 1 + 1 := by omega
    rw [List.flatMap_cons, List.set_cons_succ, List.flatMap_cons, ← ih, e3, e4]
    simp [spCs]
end Go.Proofs.YtnhjakdmbfadlaaGreatDoor

/- A way that goes on with another one. -/
namespace Go.Proofs.YtnhjakdmbfadlaaGreatDoor
open Go.RowKit Wy Mem Grow

theorem own_weak {w : World} {b b' : Nat} {e : TypeId} {s : Nat} {v : Value} {n : Nat} {xs : List Value} (h : w.ownsRow b e s v n xs) (hb : b' ≤ b) : w.ownsRow b' e s v n xs := by
  refine ⟨h.1, ?_⟩
  rcases h.2 with h0 | ⟨g, cap, cur, rfl, hg, rest⟩
  · exact .inl h0
  · exact .inr ⟨g, cap, cur, rfl, by omega, rest⟩
def Thn (ve : Int) (l : List (Int × Int)) (w : World) (e : Ending) (w' : World) : Prop :=
  ∃ v', e = .returned (.agg #[.int .i64 ve, v']) ∧ w'.ownsRow w.heap.size 57 2 v' l.length (l.flatMap spCs) ∧ Below w.heap.size w w'
theorem own_some {w : World} {base : Nat} {e : TypeId} {sz : Nat} {v : Value} {n : Nat} {xs : List Value} (h : w.ownsRow base e sz v n xs) (hn : 0 < n) : ∃ g c, v = .slice (some ⟨g, 0, none⟩) n c ∧ base ≤ g ∧ g < w.heap.size ∧ n ≤ c := by
  rcases h.2 with ⟨rfl, h0⟩ | ⟨g, cap, cur, rfl, hb, hg, hnc, -⟩
  · omega
  · exact ⟨g, cap, rfl, hb, (Array.getElem?_eq_some_iff.1 hg).1, hnc⟩
set_option maxHeartbeats 4000000 in
set_option maxRecDepth 100000 in
theorem then_any {N : Nat → Prop} {w : World} {we ve : Int} {ws vs : Value} {a b : List (Int × Int)} (ha : SpsAt N w ws a) (hb : SpsAt N w vs b) (hab : a.length = b.length) (hno : NoneAt w) :
    Calls Tryz.prog 91 #[.agg #[.int .i64 we, ws], .agg #[.int .i64 ve, vs]] w (Thn ve (thenS a b) w) := by
  have hcl : ∀ w', Below w.heap.size w w' → Calls Tryz.prog 72 #[vs] w' (Clo 57 b.length (b.flatMap spCs) w') := fun w' hw =>
    cloneS_any (hb.row.kept (Kept.of_below hw (fun _ => False)) (fun _ _ _ => id)) (spCs_one b) (by have := hb.small; omega)
  have HCL := Lib.hid hcl
  have HA := Lib.hid ha
  have HB := Lib.hid hb
  have HAB := Lib.hid hab
  have HNO := Lib.hid hno
  have hsm : (b.length : Int) ≤ 64 := by have := hb.small; omega
  clear hcl ha hb hab hno
  go_enter Tryz.func91, Tryz.ntmps91
  go_wp2_with fail
  refine (HCL.out _ (((((Below.refl _ _).alloc (Nat.le_refl _) _).alloc (by simp) _).alloc (by simp; omega) _))).mono ?_
  rintro e w1 ⟨v', rfl, hown, hb1⟩
  have B2 : Blk w1 w.heap.size #[.int .i64 we, ws] 43 := (((Blk.new w #[.int .i64 we, ws] 43).alloc _).alloc _).below hb1 (by simp; omega)
  have B3 : Blk w1 (w.heap.size + 1) #[.int .i64 ve, vs] 43 := ((Blk.new' (w := w.alloc _) #[.int .i64 ve, vs] 43 (by simp)).alloc _).below hb1 (by simp)
  have B4 : Blk w1 (w.heap.size + 1 + 1) #[.int .i64 0, .slice none 0 0] 43 := (Blk.new' (w := (w.alloc _).alloc _) #[.int .i64 0, .slice none 0 0] 43 (by simp)).below hb1 (by simp)
  have hbw : Below w.heap.size w w1 := ((((Below.refl _ _).alloc (Nat.le_refl _) _).alloc (by simp) _).alloc (by simp; omega) _).trans (hb1.mono (by simp; omega))
  have hz1 : w.heap.size + 3 ≤ w1.heap.size := by have := hb1.size; simp at this; omega
  have HB2 := Lib.hid B2
  have HB3 := Lib.hid B3
  have HB4 := Lib.hid B4
  have HOWN := Lib.hid hown
  have hnp : 0 ≤ (b.length : Int) := by omega
  clear B2 B3 B4 hb1
  by_cases hn : 0 < b.length
  · obtain ⟨g, c, rfl, hg1, hg2, hnc⟩ := own_some hown hn
    simp only [World.size_alloc] at hg1 HOWN
    clear hown
    go_wp2_with fail
    go_loopw [13] (fun i wr => ∃ k : Nat, k ≤ b.length ∧ i = .int .i64 k ∧ wr.ownsRow w.heap.size 57 2 (.slice (some ⟨g, 0, none⟩) b.length c) b.length ((thenK a b k).flatMap spCs) ∧ Kept (fun i => i = g) w1 wr) (fun i _ => b.length - (intOf i).toNat)
    case atStart => exact ⟨0, by omega, rfl, by rw [thenK_zero]; exact own_weak HOWN.out (by omega), Kept.refl _ _⟩
    case round =>
      obtain ⟨k, hk, rfl, hrow, hkr⟩ := hrel
      have HR := Lib.hid hrow
      have hrc : ∀ (hkl : k < b.length), wr.cell? ⟨g, k * 2, none⟩ = some (.int .i64 b[k].1) ∧ wr.cell? ⟨g, k * 2 + 1, none⟩ = some (.int .i64 b[k].2) := fun hkl => by
        have hlen := thenK_length HAB.out k hk
        have e := thenK_get HAB.out hkl
        have hk2 : k < (thenK a b k).length := by omega
        rw [List.getElem?_eq_getElem hk2] at e
        simp only [Option.some.injEq] at e
        have key : ∀ i, i < 2 → wr.cell? ⟨g, k * 2 + i, none⟩ = (spCs b[k])[i]? := fun i hi => by
          rw [hrow.cellAt (k * 2 + i) (by omega), flat_at (f := spCs) (n := 2) (fun _ => rfl) (thenK a b k) k i hk2 hi, e]
        exact ⟨key 0 (by omega), key 1 (by omega)⟩
      have HRC := Lib.hid hrc
      have hfz : ∀ j, wr.frozen? ⟨g, j, none⟩ = false := fun j => hrow.frozenAt j
      clear hrc
      have hsz := hkr.size
      have C2 := HB2.out.kept hkr (by omega)
      have C3 := HB3.out.kept hkr (by omega)
      have C4 := HB4.out.kept hkr (by omega)
      have hbr : Below w.heap.size w wr := hbw.trans (hkr.belowOf (by omega) (fun i hi e => by omega))
      clear hrow
      by_cases hkl : k < b.length
      · obtain ⟨r0, r1⟩ := HRC.out hkl
        have hok := HB.out.ok b[k] (List.getElem_mem hkl)
        obtain ⟨x, hx⟩ : ∃ x, x = b[k].1 := ⟨_, rfl⟩
        obtain ⟨y, hy⟩ : ∃ y, y = b[k].2 := ⟨_, rfl⟩
        rw [← hx] at r0
        rw [← hy] at r1
        obtain ⟨n0, n1, n2⟩ := HNO.out.below hbr
        have HX := Lib.hid hx
        have HY := Lib.hid hy
        clear hok hx hy
        have hgz : g < wr.heap.size := by omega
        have hwz : w.heap.size < wr.heap.size := by omega
        obtain ⟨-, e21, -, -⟩ := C2.two
        have hsucc := thenK_succ HAB.out hkl
        rw [← HX.out, ← HY.out] at hsucc
        have HSU := Lib.hid hsucc
        clear hsucc
        by_cases hxy : x = -1 ∧ y = -1
        · obtain ⟨rfl, rfl⟩ := hxy
          have ha0 : 0 < a.length := by have := HAB.out; omega
          obtain ⟨sb, so, sc, rfl, hsc, hsm2, -, hsb, hcc⟩ := HA.out.row.cells (f := spCs) (fun _ => rfl) ha0
          have hka : k < a.length := by have := HAB.out; omega
          have hkaI : (k : Int) < a.length := by omega
          have hbl : wr.heap[sb]? = w.heap[sb]? := hbr.block _ hsb
          have q0 : wr.cell? ⟨sb, so + k * 2, none⟩ = some (.int .i64 a[k].1) := (World.cell?_of_block hbl).trans (hcc k hka 0 (by omega))
          have q1 : wr.cell? ⟨sb, so + k * 2 + 1, none⟩ = some (.int .i64 a[k].2) := (World.cell?_of_block hbl).trans (hcc k hka 1 (by omega))
          have hsbz : sb < wr.heap.size := by omega
          have hsbg : sb ≠ g := by omega
          clear hcc hbl
          go_wp2_with fail
          go_roundw
          case rel =>
            refine ⟨k + 1, by omega, by go_num, ?_, ((hkr.setCell (p := ⟨g, k * 2, none⟩) (fun _ => rfl) _).setCell (p := ⟨g, k * 2 + 1, none⟩) (fun _ => rfl) _).alloc _⟩
            have e := ((HR.out.stored (k * 2) (.int .i64 a[k].1)).1.stored (k * 2 + 1) (.int .i64 a[k].2)).1
            rw [flat_set2 _ k a[k] (by rw [thenK_length HAB.out k hk]; exact hkl)] at e
            rw [HSU.out, if_pos ⟨rfl, rfl⟩]
            exact e.alloc _
          case measure => simp [intOf]; omega
        · have hne : (x == -1) = false ∨ (x = -1 ∧ (y == -1) = false) := by
            by_cases h1 : x = -1
            · right; exact ⟨h1, by simp; omega⟩
            · left; simpa using h1
          have hst : (thenK a b (k + 1)).flatMap spCs = (thenK a b k).flatMap spCs := by
            rw [HSU.out, if_neg hxy]
            congr 1
            have e := thenK_get HAB.out hkl
            refine List.ext_getElem? fun i => ?_
            by_cases hik : k = i
            · subst hik
              rw [List.getElem?_set_self (by rw [thenK_length HAB.out k hk]; exact hkl), e]
            · rw [List.getElem?_set_ne hik]
          have HST := Lib.hid hst
          clear hst
          rcases hne with h1 | ⟨rfl, h1⟩
          all_goals
            go_wp2_with fail
            go_roundw
            case rel => exact ⟨k + 1, by omega, by go_num, by rw [HST.out]; exact HR.out.alloc _, hkr.alloc _⟩
            case measure => simp [intOf]; omega
      · obtain rfl : k = b.length := by omega
        obtain ⟨e30, -, -, -⟩ := C3.two
        obtain ⟨e40, e41, f40, f41⟩ := C4.two
        have hal := thenK_all HAB.out
        have hle : (thenS a b).length = b.length := by rw [← hal, thenK_length HAB.out b.length (Nat.le_refl _)]
        have HAL := Lib.hid hal
        have HLE := Lib.hid hle
        have hgz : g < wr.heap.size := by omega
        clear hal hle
        have D4 : Blk ((wr.setCell ⟨w.heap.size + 1 + 1, 0, none⟩ (.int .i64 ve)).setCell ⟨w.heap.size + 1 + 1, 1, none⟩ (.slice (some ⟨g, 0, none⟩) b.length c)) (w.heap.size + 1 + 1) #[.int .i64 ve, .slice (some ⟨g, 0, none⟩) b.length c] 43 := (C4.set 0 (.int .i64 ve)).set 1 (.slice (some ⟨g, 0, none⟩) b.length c)
        obtain ⟨d0, d1, -, -⟩ := D4.two
        have hend : Thn ve (thenS a b) w (.returned (.agg #[.int .i64 ve, .slice (some ⟨g, 0, none⟩) b.length c])) ((wr.setCell ⟨w.heap.size + 1 + 1, 0, none⟩ (.int .i64 ve)).setCell ⟨w.heap.size + 1 + 1, 1, none⟩ (.slice (some ⟨g, 0, none⟩) b.length c)) := by
          have e := HR.out
          rw [HAL.out] at e
          refine ⟨_, rfl, ?_, (hbr.setCell (by show w.heap.size ≤ w.heap.size + 1 + 1; omega) _).setCell (by show w.heap.size ≤ w.heap.size + 1 + 1; omega) _⟩
          rw [HLE.out]
          exact ownsRow_setCell_other (ownsRow_setCell_other e (by simp [Value.ownBlock]; omega) _) (by simp [Value.ownBlock]; omega) _
        have HEND := Lib.hid hend
        clear D4 hend
        go_wp2_with fail
        exact bodyPost_ret (v := .agg #[.int .i64 ve, .slice (some ⟨g, 0, none⟩) b.length c]) (by simp [results, Tryz.results91, go_sem, d0, d1]) rfl HEND.out
  · have hb0 : b = [] := List.eq_nil_of_length_eq_zero (by omega)
    subst hb0
    obtain ⟨hl0, hv⟩ := hown
    have hsl : ∃ ob c, v' = .slice ob 0 c := by
      rcases hv with ⟨rfl, -⟩ | ⟨g, cap, cur, rfl, -⟩ <;> exact ⟨_, _, rfl⟩
    obtain ⟨ob, c, rfl⟩ := hsl
    have D4 : Blk ((w1.setCell ⟨w.heap.size + 1 + 1, 0, none⟩ (.int .i64 ve)).setCell ⟨w.heap.size + 1 + 1, 1, none⟩ (.slice ob 0 c)) (w.heap.size + 1 + 1) #[.int .i64 ve, .slice ob 0 c] 43 := (HB4.out.set 0 (.int .i64 ve)).set 1 (.slice ob 0 c)
    obtain ⟨d0, d1, -, -⟩ := D4.two
    obtain ⟨e30, -, -, -⟩ := HB3.out.two
    obtain ⟨e40, e41, f40, f41⟩ := HB4.out.two
    have hend : Thn ve (thenS a []) w (.returned (.agg #[.int .i64 ve, .slice ob 0 c])) ((w1.setCell ⟨w.heap.size + 1 + 1, 0, none⟩ (.int .i64 ve)).setCell ⟨w.heap.size + 1 + 1, 1, none⟩ (.slice ob 0 c)) := by
      have e : thenS a [] = [] := by unfold thenS; simp
      have hx := own_weak HOWN.out (b' := w.heap.size) (by simp; omega)
      rw [e]
      refine ⟨_, rfl, ?_, (hbw.setCell (by show w.heap.size ≤ w.heap.size + 1 + 1; omega) _).setCell (by show w.heap.size ≤ w.heap.size + 1 + 1; omega) _⟩
      have hne : (Value.slice ob 0 c).ownBlock ≠ some (w.heap.size + 1 + 1) := fun h => by
        have := (HOWN.out.lt _ h).1
        simp at this
        omega
      exact ownsRow_setCell_other (ownsRow_setCell_other hx hne _) hne _
    have HEND := Lib.hid hend
    clear D4 hend hl0 hv
    simp only [List.length_nil] at hnp hsm ⊢
    go_wp2_with fail
    go_rounds 1
    all_goals go_wp2_with fail
    exact bodyPost_ret (v := .agg #[.int .i64 ve, .slice ob 0 c]) (by simp [results, Tryz.results91, go_sem, d0, d1]) rfl HEND.out
end Go.Proofs.YtnhjakdmbfadlaaGreatDoor
