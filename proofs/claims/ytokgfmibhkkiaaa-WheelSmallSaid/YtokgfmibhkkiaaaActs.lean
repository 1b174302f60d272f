/- The acts of a law, as they lie; few. -/
import Derived.Test.YtokgfmibhkkiaaaTells
namespace Go.Proofs.Ytokgfmibhkkiaaa
open Go.RowKit Wh Tw Mem Grow Flat

/-- an act -/
structure Ac where
  kind : Int
  id : Int
  n : Int
  plan : Plan
def I64 (x : Int) : Prop := -9223372036854775808 ≤ x ∧ x ≤ 9223372036854775807
def Ac.Ok (a : Ac) : Prop := (0 ≤ a.kind ∧ a.kind ≤ 255) ∧ I64 a.id ∧ I64 a.n ∧ I64 a.plan.every ∧ I64 a.plan.offset ∧ I64 a.plan.timeout
def ActsAt (w : World) (base : Nat) (v : Value) (T : List Ac) : Prop :=
  (T = [] ∧ ∃ oa cap, v = .slice oa 0 cap) ∨ ∃ b off cap : Nat, v = .slice (some ⟨b, off, none⟩) T.length cap ∧ T.length ≤ cap ∧ cap ≤ maxLen ∧ b < base ∧
    ∀ (i : Nat) (hi : i < T.length), T[i].Ok ∧ w.cell? ⟨b, off + i * 6, none⟩ = some (.int .u8 T[i].kind) ∧ w.cell? ⟨b, off + i * 6 + 1, none⟩ = some (.int .i64 T[i].id) ∧ w.cell? ⟨b, off + i * 6 + 2, none⟩ = some (.int .i64 T[i].n) ∧
      w.cell? ⟨b, off + i * 6 + 3, none⟩ = some (.int .i64 T[i].plan.every) ∧ w.cell? ⟨b, off + i * 6 + 4, none⟩ = some (.int .i64 T[i].plan.offset) ∧ w.cell? ⟨b, off + i * 6 + 5, none⟩ = some (.int .i64 T[i].plan.timeout)
/-- what few says of acts that are few -/
def Few (T : List Ac) : Prop := (∀ a ∈ T, Right a.plan → a.plan.every ≤ 60) ∧ T.length ≤ 60

set_option maxHeartbeats 8000000 in
set_option maxRecDepth 100000 in
theorem few_any {w : World} {base : Nat} {v : Value} {T : List Ac} (hT : ActsAt w base v T) (hbase : base ≤ w.heap.size) (now : Int) :
    Calls Try.prog 41 #[.int .i64 now, v] w fun e w' => ∃ b : Bool, e = .returned (.bool b) ∧ (b = true → Few T) ∧ Below w.heap.size w w' := by
  rcases hT with ⟨rfl, oa, cap, rfl⟩ | ⟨b, off, cap, rfl, hcap, hmax, hab, hcells⟩
  · go_enter Try.func41, Try.ntmps41
    go_wp2
    go_rounds 1
    all_goals go_wp2
    go_ret
    exact ⟨true, rfl, fun _ => ⟨fun a ha => (by cases ha), Nat.zero_le _⟩, Below.refl _ _⟩
  · have HC := Lib.hid hcells
    have hci : (T.length : Int) ≤ cap := by omega
    clear hcells
    go_enter Try.func41, Try.ntmps41
    go_wp2_with fail
    go_loopw [5, 6, 13] (fun s5 s6 s13 wx => ∃ (k : Nat) (x y : Int), k ≤ T.length ∧ s13 = .int .i64 k ∧ s5 = .int .i64 x ∧ s6 = .int .i64 y ∧ Below w.heap.size w wx ∧ Hid (∀ (j : Nat) (hj : j < T.length), j < k → Right T[j].plan → T[j].plan.every ≤ 60)) (fun _ _ s13 _ => T.length - (intOf s13).toNat)
    case atStart => exact ⟨0, _, _, Nat.zero_le _, rfl, rfl, rfl, Below.refl _ _, Lib.hid (fun j hj h => absurd h (by omega))⟩
    case round =>
      obtain ⟨k, x, y, hk, rfl, rfl, rfl, hbr, HQ⟩ := hrel
      have hzr := hbr.size
      by_cases hlt : k < T.length
      · have hltI : (k : Int) < T.length := by omega
        obtain ⟨hok, c0, c1, c2, c3, c4, c5⟩ := HC.out k hlt
        have hal : b < w.heap.size := Nat.lt_of_lt_of_le hab hbase
        obtain ⟨t, ht⟩ : ∃ t, t = T[k] := ⟨_, rfl⟩
        rw [← ht] at hok c0 c1 c2 c3 c4 c5
        have HT := Lib.hid ht
        clear ht
        have key : ∀ o, wr.cell? ⟨b, o, none⟩ = w.cell? ⟨b, o, none⟩ := fun o => hbr.cell (p := ⟨b, o, none⟩) hal
        have d0 := (key _).trans c0
        have d1 := (key _).trans c1
        have d2 := (key _).trans c2
        have d3 := (key _).trans c3
        have d4 := (key _).trans c4
        have d5 := (key _).trans c5
        clear key c0 c1 c2 c3 c4 c5
        have hkm : (T.length : Int) ≤ 9223372036854775807 := by unfold maxLen at hmax; omega
        have hbn := hbr.alloc hzr (.cells #[.int .u8 t.kind, .int .i64 t.id, .int .i64 t.n, .int .i64 t.plan.every, .int .i64 t.plan.offset, .int .i64 t.plan.timeout] 66)
        have HBN := Lib.hid hbn
        have HZN := Lib.hid hbn.size
        have HBX := Lib.hid (Blk.new wr #[.int .u8 t.kind, .int .i64 t.id, .int .i64 t.n, .int .i64 t.plan.every, .int .i64 t.plan.offset, .int .i64 t.plan.timeout] 66)
        clear hbn hok
        have step : (Right t.plan → t.plan.every ≤ 60) → Hid (∀ (j : Nat) (hj : j < T.length), j < k + 1 → Right T[j].plan → T[j].plan.every ≤ 60) := fun h => Lib.hid fun j hj hlt' hr => by
          by_cases e : j = k
          · subst e; rw [← HT.out] at hr ⊢; exact h hr
          · exact HQ.out j hj (by omega) hr
        have STEP := Lib.hid step
        clear step
        by_cases hev : t.plan.every ≤ 60
        · go_wp2_with fail
          all_goals first
            | (go_ret; first | exact .inl ⟨rfl, HBN.out⟩ | exact ⟨false, rfl, fun h => (by cases h), HBN.out⟩)
            | (go_roundw
               case rel => exact ⟨k + 1, _, _, by omega, by go_num, rfl, rfl, HBN.out, STEP.out (fun _ => hev)⟩
               case measure => simp [intOf]; omega)
        · have hev2 : 60 < t.plan.every := by omega
          by_cases hr : Right t.plan
          · have HC58 := Lib.hid (fun W => rright_yes t.plan.every t.plan.offset t.plan.timeout hr W)
            clear hr
            go_wp2_with (first | (go_at_call 58; refine (HC58.out _).mono ?_; rintro e w9 ⟨rfl, hb9⟩))
            go_ret
            first | exact .inl ⟨rfl, HBN.out.trans (hb9.mono HZN.out)⟩ | exact ⟨false, rfl, fun h => (by cases h), HBN.out.trans (hb9.mono HZN.out)⟩
          · have HC58 := Lib.hid (fun W => rright_no t.plan.every t.plan.offset t.plan.timeout hr W)
            have HR := Lib.hid hr
            clear hr
            go_wp2_with (first | (go_at_call 58; refine (HC58.out _).mono ?_; rintro e w9 ⟨rfl, hb9⟩; have HB9 := Lib.hid (HBX.out.below hb9 HBX.out.lt); have y0 : w9.cell? ⟨wr.heap.size, 0, none⟩ = some (.int .u8 t.kind) := (by rw [HB9.out.cell]; rfl); have y2 : w9.cell? ⟨wr.heap.size, 2, none⟩ = some (.int .i64 t.n) := (by rw [HB9.out.cell]; rfl); have HBN9 := Lib.hid (HBN.out.trans (hb9.mono HZN.out))))
            all_goals first
              | (go_ret; first | exact .inl ⟨rfl, HBN9.out⟩ | exact ⟨false, rfl, fun h => (by cases h), HBN9.out⟩)
              | (go_roundw
                 case rel => exact ⟨k + 1, _, _, by omega, by go_num, rfl, rfl, HBN9.out, STEP.out (fun h => absurd h HR.out)⟩
                 case measure => simp [intOf]; omega)
      · have hkk : T.length = k := by omega
        have HKK := Lib.hid hkk
        have hge : T.length ≤ k := by omega
        clear hkk
        by_cases h60 : T.length ≤ 60
        · go_wp2
          go_ret
          have hq : Few T := ⟨fun a ha hr => (by
            obtain ⟨j, hj, rfl⟩ := List.getElem_of_mem ha
            exact HQ.out j hj (by omega) hr), h60⟩
          first | exact .inr ⟨rfl, hq, hbr⟩ | exact ⟨true, rfl, fun _ => hq, hbr⟩ | exact ⟨_, rfl, fun _ => hq, hbr⟩
        · go_wp2
          go_ret
          first | exact .inl ⟨rfl, hbr⟩ | exact ⟨false, rfl, fun h => (by cases h), hbr⟩ | (refine ⟨_, rfl, fun h => ?_, hbr⟩; simp at h; omega)
end Go.Proofs.Ytokgfmibhkkiaaa
