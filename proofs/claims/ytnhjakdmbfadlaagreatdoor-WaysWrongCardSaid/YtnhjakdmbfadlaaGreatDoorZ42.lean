/- Parts of the proof: Wp. Conditions: none. -/
import Derived.Test.YtnhjakdmbfadlaaGreatDoorZ03
import Derived.Test.YtnhjakdmbfadlaaGreatDoorZ00
set_option linter.all false
/- WaysWrong: the strings that are not valid, and the tree that is not right. -/
namespace Go.Proofs.Wy
open Go Go.Lib

theorem textL_app : ∀ (l : List Nat) (t : List UInt8), validD (textL l ++ t) = validD t
  | [], t => rfl
  | b :: r, t => by
    have := textL_app r t
    unfold textL at this ⊢
    rw [List.flatMap_cons, List.append_assoc, valid_sym]
    exact this
theorem bad_end (l : List Nat) : validD (textL l ++ [255]) = false := by
  rw [textL_app, validD_step _ (by simp), decodeL_N]
  simp [decodeN]
theorem bad_lead {b : UInt8} (t : List UInt8) (hb : b.toNat / 64 ≠ 2) : validD (195 :: b :: t) = false := by
  rw [validD_step _ (by simp), decodeL_N]
  have e : decodeN (195 :: b :: t).length (((195 : UInt8) :: b :: t).getD 0 0).toNat (((195 : UInt8) :: b :: t).getD 1 0).toNat (((195 : UInt8) :: b :: t).getD 2 0).toNat (((195 : UInt8) :: b :: t).getD 3 0).toNat = (65533, 1) := by
    have h1 : (((195 : UInt8) :: b :: t).getD 1 0) = b := rfl
    have h0 : (((195 : UInt8) :: b :: t).getD 0 0).toNat = 195 := rfl
    rw [h0, h1]
    unfold decodeN
    rw [if_neg (by omega), if_neg (fun h => hb h.2.2), if_neg (by omega), if_neg (by omega)]
  rw [e]
  simp
theorem bad_start : ∀ l : List Nat, validD (195 :: textL l) = false
  | [] => by
    show validD [195] = false
    rw [validD_step _ (by simp), decodeL_N]
    simp [decodeN]
  | b :: r => by
    unfold textL
    rw [List.flatMap_cons]
    unfold symL
    repeat' split
    all_goals exact bad_lead _ (by decide)
theorem bad_tree (x : Nd) {lo : Int} (h : 2 ≤ lo) : right (.mk 5 [] lo 1 false [x]) = false := by
  have hs : shapedN (.mk 5 [] lo 1 false [x]) = false := by
    unfold shapedN
    have h1 : ¬ (1 : Int) = -1 := by decide
    have h2 : ¬ lo ≤ 1 := by omega
    simp [h1, h2]
  unfold right
  rw [look]
  simp only [lookL, hs]
  unfold rightF
  simp
end Go.Proofs.Wy
