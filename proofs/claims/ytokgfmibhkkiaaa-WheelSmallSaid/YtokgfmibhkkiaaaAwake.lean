/- awake: the closed example -/
import Derived.Test.YtokgfmibhkkiaaaWakes
namespace Go.Proofs.Ytokgfmibhkkiaaa
open Go.RowKit Wh Mem Go.Maps

/-- a row that a call made stays, whatever is written below its base -/
theorem own_kept {X : Nat → Prop} {w w' : World} {base : Nat} {e : TypeId} {size : Nat} {v : Value} {n : Nat} {xs : List Value} (h : w.ownsRow base e size v n xs) (k : Kept X w w') (hX : ∀ i, X i → i < base) : w'.ownsRow base e size v n xs :=
  own_at h fun g h1 h2 => k.block g h2 (fun hx => by have := hX g hx; omega)

def exL (b1 b2 : Nat) (p1 p2 : Phase) : List Mb := [⟨1, b1, ⟨10, 7, 4⟩, p1⟩, ⟨2, b2, ⟨5, 0, 5⟩, p2⟩]
theorem ex_wake0 {b1 b2 : Nat} {r : Option Int} (h : IsWake (exL b1 b2 ⟨0, 0⟩ ⟨0, 0⟩) 0 r) : r = some 5 := by
  have e1 : wakeOf ⟨10, 7, 4⟩ ⟨0, 0⟩ 0 = some 7 := by decide
  have e2 : wakeOf ⟨5, 0, 5⟩ ⟨0, 0⟩ 0 = some 5 := by decide
  cases r with
  | none => have := h ⟨2, b2, ⟨5, 0, 5⟩, ⟨0, 0⟩⟩ (by simp [exL]); rw [e2] at this; cases this
  | some t =>
    obtain ⟨⟨m, hm, hw⟩, hle⟩ := h
    have k := hle ⟨2, b2, ⟨5, 0, 5⟩, ⟨0, 0⟩⟩ (by simp [exL]) 5 e2
    simp only [exL, List.mem_cons, List.not_mem_nil, or_false] at hm
    rcases hm with rfl | rfl
    · simp only [e1] at hw; cases hw; omega
    · simp only [e2] at hw; exact congrArg some (by injection hw with h; exact h.symm)
theorem ex_adv1 (b1 b2 : Nat) : (exL b1 b2 ⟨0, 0⟩ ⟨0, 0⟩).map (advM 0 7) = exL b1 b2 ⟨1, 7⟩ ⟨1, 5⟩ ∧ moves 0 7 (exL b1 b2 ⟨0, 0⟩ ⟨0, 0⟩) = [(1, ⟨7, -1, 0⟩), (2, ⟨5, -1, 0⟩)] := by
  constructor <;> rfl
theorem ex_adv2 (b1 b2 : Nat) : (exL b1 b2 ⟨1, 7⟩ ⟨0, 0⟩).map (advM 7 11) = exL b1 b2 ⟨2, 7⟩ ⟨1, 10⟩ ∧ moves 7 11 (exL b1 b2 ⟨1, 7⟩ ⟨0, 0⟩) = [(1, ⟨-1, 7, 0⟩), (2, ⟨10, -1, 0⟩)] := by
  constructor <;> rfl
theorem ex_adv3 (b1 b2 : Nat) : (exL b1 b2 ⟨2, 7⟩ ⟨1, 10⟩).map (advM 11 15) = exL b1 b2 ⟨2, 7⟩ ⟨2, 10⟩ ∧ moves 11 15 (exL b1 b2 ⟨2, 7⟩ ⟨1, 10⟩) = [(2, ⟨-1, 10, 1⟩)] := by
  constructor <;> rfl
theorem ex_wake2 {b1 b2 : Nat} {r : Option Int} (h : IsWake (exL b1 b2 ⟨2, 7⟩ ⟨1, 10⟩) 11 r) : r = some 15 := by
  have e1 : wakeOf ⟨10, 7, 4⟩ ⟨2, 7⟩ 11 = some 17 := by decide
  have e2 : wakeOf ⟨5, 0, 5⟩ ⟨1, 10⟩ 11 = some 15 := by decide
  cases r with
  | none => have := h ⟨2, b2, ⟨5, 0, 5⟩, ⟨1, 10⟩⟩ (by simp [exL]); rw [e2] at this; cases this
  | some t =>
    obtain ⟨⟨m, hm, hw⟩, hle⟩ := h
    have k := hle ⟨2, b2, ⟨5, 0, 5⟩, ⟨1, 10⟩⟩ (by simp [exL]) 15 e2
    simp only [exL, List.mem_cons, List.not_mem_nil, or_false] at hm
    rcases hm with rfl | rfl
    · simp only [e1] at hw; cases hw; omega
    · simp only [e2] at hw; exact congrArg some (by injection hw with h; exact h.symm)
theorem ex_ins (b1 b2 : Nat) : ins ⟨2, b2, ⟨5, 0, 5⟩, ⟨0, 0⟩⟩ (ins ⟨1, b1, ⟨10, 7, 4⟩, ⟨0, 0⟩⟩ []) = exL b1 b2 ⟨0, 0⟩ ⟨0, 0⟩ := rfl
theorem ex_find2 (b1 b2 : Nat) (p q : Phase) : findM (exL b1 b2 p q) 2 = some ⟨2, b2, ⟨5, 0, 5⟩, q⟩ := rfl
theorem ex_set2 (b1 b2 : Nat) (p q r : Phase) : setM (exL b1 b2 p q) 2 r = exL b1 b2 p r := rfl
theorem ex_sel (b1 b2 : Nat) : sel tOpen (exL b1 b2 ⟨2, 7⟩ ⟨1, 10⟩) = [2] ∧ sel tWait (exL b1 b2 ⟨2, 7⟩ ⟨1, 10⟩) = [1] := ⟨rfl, rfl⟩
end Go.Proofs.Ytokgfmibhkkiaaa
