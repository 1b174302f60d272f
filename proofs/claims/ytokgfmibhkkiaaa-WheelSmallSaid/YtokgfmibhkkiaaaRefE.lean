/- The reference's Wake, of all members. -/
import Derived.Test.YtokgfmibhkkiaaaRefD
import Derived.Test.YtokgfmibhkkiaaaMade
namespace Go.Proofs.Ytokgfmibhkkiaaa
open Go.RowKit Wh Tw Mem

/-- the least tick at which one of the first k wakes: -1 for none -/
def BestK (l : List Mb) (now : Int) (k : Nat) (b : Int) : Prop :=
  (b = -1 ∧ ∀ (j : Nat) (hj : j < l.length), j < k → wakeOf l[j].plan l[j].phase now = none) ∨
  (0 ≤ b ∧ (∃ (j : Nat) (hj : j < l.length), j < k ∧ wakeOf l[j].plan l[j].phase now = some b) ∧ ∀ (j : Nat) (hj : j < l.length), j < k → ∀ u, wakeOf l[j].plan l[j].phase now = some u → b ≤ u)
theorem bestK_none {l : List Mb} {now : Int} {k : Nat} {b : Int} (h : BestK l now k b) (hk : k < l.length) (hw : wakeOf l[k].plan l[k].phase now = none) : BestK l now (k + 1) b := by
  rcases h with ⟨h1, h2⟩ | ⟨h1, ⟨j, hj, hjk, h2⟩, h3⟩
  · refine .inl ⟨h1, fun j hj hlt => ?_⟩
    by_cases e : j = k
    · subst e; exact hw
    · exact h2 j hj (by omega)
  · refine .inr ⟨h1, ⟨j, hj, by omega, h2⟩, fun i hi hlt u hu => ?_⟩
    by_cases e : i = k
    · subst e; rw [hw] at hu; cases hu
    · exact h3 i hi (by omega) u hu
theorem bestK_less {l : List Mb} {now : Int} {k : Nat} {b t : Int} (h : BestK l now k b) (hk : k < l.length) (hw : wakeOf l[k].plan l[k].phase now = some t) (h0 : 0 ≤ t) (hb : b < 0 ∨ t < b) : BestK l now (k + 1) t := by
  refine .inr ⟨h0, ⟨k, hk, by omega, hw⟩, fun i hi hlt u hu => ?_⟩
  by_cases e : i = k
  · subst e; rw [hw] at hu; cases hu; omega
  · rcases h with ⟨h1, h2⟩ | ⟨h1, -, h3⟩
    · rw [h2 i hi (by omega)] at hu; cases hu
    · have := h3 i hi (by omega) u hu
      omega
theorem bestK_more {l : List Mb} {now : Int} {k : Nat} {b t : Int} (h : BestK l now k b) (hk : k < l.length) (hw : wakeOf l[k].plan l[k].phase now = some t) (hb : 0 ≤ b) (hbt : b ≤ t) : BestK l now (k + 1) b := by
  rcases h with ⟨h1, -⟩ | ⟨h1, ⟨j, hj, hjk, h2⟩, h3⟩
  · omega
  · refine .inr ⟨h1, ⟨j, hj, by omega, h2⟩, fun i hi hlt u hu => ?_⟩
    by_cases e : i = k
    · subst e; rw [hw] at hu; cases hu; omega
    · exact h3 i hi (by omega) u hu
theorem bestK_is {l : List Mb} {now b : Int} (h : BestK l now l.length b) : (b = -1 ∧ IsWake l now none) ∨ (0 ≤ b ∧ IsWake l now (some b)) := by
  rcases h with ⟨h1, h2⟩ | ⟨h1, ⟨j, hj, -, h2⟩, h3⟩
  · refine .inl ⟨h1, fun m hm => ?_⟩
    obtain ⟨j, hj, rfl⟩ := List.getElem_of_mem hm
    exact h2 j hj hj
  · refine .inr ⟨h1, ⟨l[j], List.getElem_mem hj, h2⟩, fun m hm u hu => ?_⟩
    obtain ⟨i, hi, rfl⟩ := List.getElem_of_mem hm
    exact h3 i hi hi u hu

set_option maxHeartbeats 8000000 in
set_option maxRecDepth 100000 in
theorem rwakes_any {w : World} {ob : Option Addr} {l : List Mb} (h : MembAt w ob (l.map core)) (now : Int) (cap : Nat) (hf : ∀ m ∈ l, Fits m.plan m.phase now) (h60 : ∀ m ∈ l, m.plan.every ≤ 60) (hlen : l.length ≤ 1000000) :
    Calls Try.prog 63 #[.agg #[.int .i64 now, .slice ob l.length cap], .int .i64 61] w fun e w' => (∃ b c : Int, e = .returned (.tuple #[.int .i64 b, .int .i64 c]) ∧ ((b = 0 ∧ c = 6 ∧ IsWake l now none) ∨ (c = 0 ∧ IsWake l now (some b)))) ∧ Below w.heap.size w w' := by
  have hb0 : Below w.heap.size w (w.alloc (.cells #[.int .i64 now, .slice ob l.length cap] 92)) := (Below.refl _ _).alloc (Nat.le_refl _) _
  have HM := Lib.hid (h.below hb0)
  have HB := Lib.hid (Blk.new w #[.int .i64 now, .slice ob l.length cap] 92)
  have HF := Lib.hid hf
  have H60 := Lib.hid h60
  clear h hf h60
  go_enter Try.func63, Try.ntmps63
  go_wp2_with fail
  generalize (w.alloc (.cells #[.int .i64 now, .slice ob l.length cap] 92)) = W0 at HM HB hb0 ⊢
  have hl := HB.out.lt
  go_loopw [6, 7] (fun v i wr => ∃ (k : Nat) (b : Int), k ≤ l.length ∧ i = .int .i64 k ∧ v = .int .i64 b ∧ Hid (BestK l now k b) ∧ Below W0.heap.size W0 wr) (fun _ i _ => l.length - (intOf i).toNat)
  case atStart => exact ⟨0, -1, Nat.zero_le _, rfl, rfl, Lib.hid (.inl ⟨rfl, fun j hj h => absurd h (by omega)⟩), Below.refl _ _⟩
  case round =>
    obtain ⟨k, b, hk, rfl, rfl, HBE, hbr⟩ := hrel
    have hbw : Below w.heap.size w wr := hb0.trans (hbr.mono hb0.size)
    have hsr := hbr.size
    by_cases hlt : k < l.length
    · obtain ⟨g, rfl, hg, c0, c1, c2, c3, c4, c5⟩ := HM.out k (by simpa using hlt)
      simp only [List.getElem_map, core] at c0 c1 c2 c3 c4 c5
      obtain ⟨m, hm⟩ : ∃ m, m = l[k] := ⟨_, rfl⟩
      rw [← hm] at c1 c2 c3 c4 c5
      have hmem : m ∈ l := by rw [hm]; exact List.getElem_mem hlt
      have hfk := HF.out _ hmem
      have h6k := H60.out _ hmem
      have hcall := fun W => rwake_any m.plan m.phase now hfk h6k W
      obtain ⟨x, hx⟩ : ∃ x, x = wakeOf m.plan m.phase now := ⟨_, rfl⟩
      have hx0 : ∀ t, x = some t → 0 ≤ t := fun t e => by
        have h1 := wake_gt hfk (hx.symm.trans e)
        have h2 := hfk.2.1.1
        omega
      rw [← hx] at hcall
      simp only [aggP, aggS] at hcall
      have HC := Lib.hid hcall
      rw [hm] at hx
      have HX := Lib.hid hx
      clear hcall hx hm hmem hfk h6k c0
      obtain ⟨b0, b1, _⟩ := (HB.out.below hbr hl).two
      go_upto_region 5 with (fail)
      go_cut [8] (fun s8 wx => s8 = .int .i64 (x.getD (-1)) ∧ Below W0.heap.size W0 wx)
      case first =>
        refine wp_flow_below rfl (by kernel_rfl) ?_
        repeat (first
          | (apply flow_yes
             · rfl
             · intro W1 hW K hK
               have hb1 : Below W0.heap.size W0 W1 := hbr.trans (hW.mono hsr)
               obtain ⟨b0, b1, _⟩ := (HB.out.below hb1 hl).two
               have key : ∀ o, W1.cell? ⟨g, o, none⟩ = W0.cell? ⟨g, o, none⟩ := fun o => hb1.cell (p := ⟨g, o, none⟩) hg
               have d1 := (key _).trans c1
               have d2 := (key _).trans c2
               have d3 := (key _).trans c3
               have d4 := (key _).trans c4
               have d5 := (key _).trans c5
               clear key
               go_wp2_with (first | (go_at_call 70; refine (HC.out _).mono ?_; rintro e w' ⟨rfl, hb⟩))
               first | exact hW | exact hW.trans (hb.mono hW.size)
             simp only [Act.put, List.setIfInBounds_toArray, List.set_cons_zero, List.set_cons_succ]))
        refine flow_nil fun W1 hW => ?_
        go_wp2
        go_meet
        exact ⟨rfl, hbr.trans (hW.mono hsr)⟩
      case rest =>
        obtain ⟨rfl, hbc⟩ := hcut
        have hx0' := hx0
        clear hx0 b0 b1
        cases x with
        | none =>
          have hbe := bestK_none HBE.out hlt HX.out.symm
          have HBE2 := Lib.hid hbe
          clear hbe hx0'
          simp only [Option.getD_none]
          go_wp2_with fail
          go_roundw
          case rel => exact ⟨k + 1, b, by omega, by go_num, rfl, HBE2, hbc⟩
          case measure => simp [intOf]; omega
        | some t =>
          have ht0 := hx0' t rfl
          clear hx0'
          simp only [Option.getD_some]
          by_cases hb : b < 0
          · have HBE2 := Lib.hid (bestK_less HBE.out hlt HX.out.symm ht0 (.inl hb))
            go_wp2_with fail
            go_roundw
            case rel => exact ⟨k + 1, t, by omega, by go_num, rfl, HBE2, hbc⟩
            case measure => simp [intOf]; omega
          · by_cases htb : t < b
            · have HBE2 := Lib.hid (bestK_less HBE.out hlt HX.out.symm ht0 (.inr htb))
              go_wp2_with fail
              go_roundw
              case rel => exact ⟨k + 1, t, by omega, by go_num, rfl, HBE2, hbc⟩
              case measure => simp [intOf]; omega
            · have HBE2 := Lib.hid (bestK_more HBE.out hlt HX.out.symm (by omega) (by omega))
              go_wp2_with fail
              go_roundw
              case rel => exact ⟨k + 1, b, by omega, by go_num, rfl, HBE2, hbc⟩
              case measure => simp [intOf]; omega
    · obtain rfl : k = l.length := by omega
      obtain ⟨b0, b1, _⟩ := (HB.out.below hbr hl).two
      rcases bestK_is HBE.out with ⟨rfl, hw⟩ | ⟨h0, hw⟩
      · have HW := Lib.hid hw
        clear hw
        go_wp2_with fail
        go_ret2
        exact ⟨⟨0, 6, rfl, .inl ⟨rfl, rfl, HW.out⟩⟩, hbw⟩
      · have HW := Lib.hid hw
        clear hw
        go_wp2_with fail
        go_ret2
        exact ⟨⟨b, 0, rfl, .inr ⟨rfl, HW.out⟩⟩, hbw⟩
end Go.Proofs.Ytokgfmibhkkiaaa
