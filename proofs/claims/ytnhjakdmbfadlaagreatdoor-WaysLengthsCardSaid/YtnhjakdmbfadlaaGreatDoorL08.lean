/- Parts of the proof: Text. Conditions: none. -/
import Derived.Test.YtnhjakdmbfadlaaGreatDoorL03
import Derived.Test.YtnhjakdmbfadlaaGreatDoorL02
import Derived.Test.YtnhjakdmbfadlaaGreatDoorL07
import Derived.Deep.DeepCutAuto
import Derived.Deep.CutRange
import Derived.Outline
set_option linter.all false
/- gaugerlaw08.Text. -/
namespace Go.Proofs.YtnhjakdmbfadlaaGreatDoor
open Go.RowKit Wy Mem Grow

def u8Cs (l : List Nat) : List Value := l.map fun x : Nat => .int .u8 x
structure U8At (N : Nat → Prop) (w : World) (v : Value) (L : List Nat) : Prop where
  row : Row N w v L.length 1 (u8Cs L)
  ok : ∀ x ∈ L, x < 256
theorem U8At.below {N : Nat → Prop} {w w' : World} {v : Value} {L : List Nat} (h : U8At N w v L) (k : Below w.heap.size w w') : U8At N w' v L :=
  ⟨h.row.kept (Kept.of_below k (fun _ => False)) (fun _ _ _ => id), h.ok⟩
theorem U8At.at_ {N : Nat → Prop} {w : World} {v : Value} {L : List Nat} (h : U8At N w v L) (hne : 0 < L.length) :
    ∃ b off cap : Nat, v = .slice (some ⟨b, off, none⟩) L.length cap ∧ L.length ≤ cap ∧ b < w.heap.size ∧ ∀ i (hi : i < L.length), w.cell? ⟨b, off + i, none⟩ = some (.int .u8 L[i]) := by
  rcases h.row.at_ with ⟨h0, _⟩ | ⟨b, off, cap, rfl, k1, k2, k3, k4, k5⟩
  · omega
  · refine ⟨b, off, cap, rfl, k1, k4, fun i hi => ?_⟩
    rw [k5 i (by simpa [u8Cs] using hi)]
    simp [u8Cs, hi]
def strB (l : List UInt8) : ByteArray := ⟨l.toArray⟩
theorem strB_app (a b : List UInt8) : strB a ++ strB b = strB (a ++ b) := by
  unfold strB
  apply ByteArray.ext
  simp
theorem strB_size (a : List UInt8) : (strB a).size = a.length := by simp [strB, ByteArray.size]
theorem textL_snoc (l : List Nat) (b : Nat) : textL (l ++ [b]) = textL l ++ symL b := by simp [textL]
set_option maxHeartbeats 4000000 in
set_option maxRecDepth 100000 in
theorem text_any {N : Nat → Prop} {w : World} {v : Value} {L : List Nat} {m : Nat} (h : U8At N w v L) (hm : m ≤ 8) (hL : L.length ≤ 9223372036854775807) : Calls Tryz.prog 12 #[v, .int .i64 m] w fun e w' => e = .returned (.string (strB (textL (L.take m)))) ∧ Below w.heap.size w w' := by
  obtain ⟨o, c, rfl⟩ := h.row.slice
  have hcap : L.length ≤ c := by
    rcases h.row.at_ with ⟨h0, _⟩ | ⟨b, off, cap, he, h1, _⟩
    · omega
    · simp only [Value.slice.injEq, true_and] at he
      omega
  have H := Lib.hid h
  obtain ⟨n, hn⟩ : ∃ n, n = min L.length m := ⟨_, rfl⟩
  have HN := Lib.hid hn
  clear h hn
  go_enter Tryz.func12, Tryz.ntmps12
  go_upto_region 2 with fail
  go_cut [8, 9, 10, 11, 12, 13, 14, 15] (fun _ _ _ _ _ s13 s14 s15 wx => s13 = .slice o n c ∧ s14 = .int .i64 n ∧ s15 = .int .i64 0 ∧ wx = w)
  case first =>
    have hn := HN.out
    by_cases h20 : L.length ≤ m
    · obtain rfl : n = L.length := by omega
      have e20 : (L.length : Int) ≤ m := by omega
      clear hn
      go_wp2_with fail
      go_meet
      exact ⟨by first | rfl | (congr 1 <;> omega), by first | rfl | (congr 1 <;> omega), by first | rfl | (congr 1 <;> omega), rfl⟩
    · obtain rfl : n = m := by omega
      have e20 : (n : Int) < L.length := by omega
      clear hn
      go_wp2_with fail
      go_meet
      exact ⟨by first | rfl | (congr 1 <;> omega), by first | rfl | (congr 1 <;> omega), by first | rfl | (congr 1 <;> omega), rfl⟩
  case rest =>
    obtain ⟨rfl, rfl, rfl, rfl⟩ := hcut
    rename World => w
    have hnl : n ≤ L.length := by have := HN.out; omega
    have hn8 : n ≤ 8 := by have := HN.out; omega
    have htk : L.take m = L.take n := by
      have := HN.out
      by_cases h : L.length ≤ m
      · rw [List.take_of_length_le h, List.take_of_length_le (by omega)]
      · rw [show n = m by omega]
    have HTK := Lib.hid htk
    clear htk
    go_wp2_with fail
    go_loopw [5, 15] (fun s5 s15 wx => ∃ j : Nat, j ≤ n ∧ s15 = .int .i64 j ∧ s5 = .string (strB (textL (L.take j))) ∧ Below w.heap.size w wx) (fun _ s15 _ => n - (intOf s15).toNat)
    case atStart => exact ⟨0, by omega, rfl, rfl, Below.refl _ _⟩
    case round =>
      rename World => Wa
      obtain ⟨j, hj, rfl, rfl, hbw⟩ := hrel
      have HBW := Lib.hid hbw
      by_cases hjn : j < n
      · have hjL : j < L.length := by omega
        obtain ⟨b, off, cap, hve, hc1, hbz, hcell⟩ := H.out.at_ (by omega)
        simp only [Value.slice.injEq, true_and] at hve
        obtain ⟨rfl, rfl⟩ := hve
        obtain ⟨x, hx⟩ : ∃ x, x = L[j] := ⟨_, rfl⟩
        have hx256 : x < 256 := by rw [hx]; exact H.out.ok _ (List.getElem_mem hjL)
        have y0 : Wa.cell? ⟨b, off + j, none⟩ = some (.int .u8 x) := by rw [hx]; exact (hbw.cell (p := ⟨b, off + j, none⟩) hbz).trans (hcell j hjL)
        have hbza : b < Wa.heap.size := by have := hbw.size; omega
        have hjI : (j : Int) < n := by omega
        have hcI : (n : Int) ≤ c := by omega
        have hstep : textL (L.take (j + 1)) = textL (L.take j) ++ symL x := by rw [List.take_succ_eq_append_getElem hjL, textL_snoc, ← hx]
        have hsz : (strB (textL (L.take j))).size ≤ 24 := by
          rw [strB_size]
          have := textL_len (L.take j)
          rw [List.length_take] at this
          omega
        have HST := Lib.hid hstep
        obtain ⟨S, hS⟩ : ∃ S, S = strB (textL (L.take j)) := ⟨_, rfl⟩
        rw [← hS] at hsz ⊢
        have HS := Lib.hid hS
        have hszI : (S.size : Int) ≤ 24 := by omega
        clear hcell hstep hS hbw hx
        have h8 : x % 8 = 0 ∨ x % 8 = 1 ∨ x % 8 = 2 ∨ x % 8 = 3 ∨ x % 8 = 4 ∨ x % 8 = 5 ∨ x % 8 = 6 ∨ x % 8 = 7 := by omega
        rcases h8 with h8 | h8 | h8 | h8 | h8 | h8 | h8 | h8
        · have e8 : (x : Int) % 8 = 0 := by omega
          go_wp2_with fail
          go_roundw
          case rel =>
            have hsym : symL x = [97] := by unfold symL; simp [h8]
            exact ⟨j + 1, by omega, by go_num, by rw [HS.out, HST.out, hsym, ← strB_app]; rfl, HBW.out.alloc HBW.out.size _⟩
          case measure => simp [intOf]; omega
        · have e8 : (x : Int) % 8 = 1 := by omega
          go_wp2_with fail
          go_roundw
          case rel =>
            have hsym : symL x = [98] := by unfold symL; simp [h8]
            exact ⟨j + 1, by omega, by go_num, by rw [HS.out, HST.out, hsym, ← strB_app]; rfl, HBW.out.alloc HBW.out.size _⟩
          case measure => simp [intOf]; omega
        · have e8 : (x : Int) % 8 = 2 := by omega
          go_wp2_with fail
          go_roundw
          case rel =>
            have hsym : symL x = [99] := by unfold symL; simp [h8]
            exact ⟨j + 1, by omega, by go_num, by rw [HS.out, HST.out, hsym, ← strB_app]; rfl, HBW.out.alloc HBW.out.size _⟩
          case measure => simp [intOf]; omega
        · have e8 : (x : Int) % 8 = 3 := by omega
          go_wp2_with fail
          go_roundw
          case rel =>
            have hsym : symL x = [100] := by unfold symL; simp [h8]
            exact ⟨j + 1, by omega, by go_num, by rw [HS.out, HST.out, hsym, ← strB_app]; rfl, HBW.out.alloc HBW.out.size _⟩
          case measure => simp [intOf]; omega
        · have e8 : (x : Int) % 8 = 4 := by omega
          go_wp2_with fail
          go_roundw
          case rel =>
            have hsym : symL x = [97] := by unfold symL; simp [h8]
            exact ⟨j + 1, by omega, by go_num, by rw [HS.out, HST.out, hsym, ← strB_app]; rfl, HBW.out.alloc HBW.out.size _⟩
          case measure => simp [intOf]; omega
        · have e8 : (x : Int) % 8 = 5 := by omega
          go_wp2_with fail
          go_roundw
          case rel =>
            have hsym : symL x = [226, 130, 172] := by unfold symL; simp [h8]
            exact ⟨j + 1, by omega, by go_num, by rw [HS.out, HST.out, hsym, ← strB_app]; rfl, HBW.out.alloc HBW.out.size _⟩
          case measure => simp [intOf]; omega
        · have e8 : (x : Int) % 8 = 6 := by omega
          go_wp2_with fail
          go_roundw
          case rel =>
            have hsym : symL x = [42] := by unfold symL; simp [h8]
            exact ⟨j + 1, by omega, by go_num, by rw [HS.out, HST.out, hsym, ← strB_app]; rfl, HBW.out.alloc HBW.out.size _⟩
          case measure => simp [intOf]; omega
        · have e8 : (x : Int) % 8 = 7 := by omega
          go_wp2_with fail
          go_roundw
          case rel =>
            have hsym : symL x = [48] := by unfold symL; simp [h8]
            exact ⟨j + 1, by omega, by go_num, by rw [HS.out, HST.out, hsym, ← strB_app]; rfl, HBW.out.alloc HBW.out.size _⟩
          case measure => simp [intOf]; omega
      · obtain rfl : j = n := by omega
        clear hbw
        go_wp2_with fail
        go_ret
        exact ⟨by rw [HTK.out]; rfl, HBW.out⟩
end Go.Proofs.YtnhjakdmbfadlaaGreatDoor
