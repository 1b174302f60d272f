/- Parts of the proof: Tp. Conditions: none. -/
import Derived.Test.YtnhjakdmbfadlaaDoorS40
import Derived.Test.YtnhjakdmbfadlaaDoorS01
import Derived.Test.YtnhjakdmbfadlaaDoorS04
set_option linter.all false
/- The plain facts of WaysTimes. -/
namespace Go.Proofs.YtnhjakdmbfadlaaDoor
open Go.RowKit Wy Mem

def rpT (lo hi : Int) (lz : Bool) (x : Nd) : Nd := .mk 5 [] lo hi lz [x]
def ltT : Nd := .mk 2 [⟨97, 98⟩] 0 0 false []
/-- the tree that WaysTimes repeats -/
def tmT (x : Nd) : Nd := if (Wy.look x).nullable then catT x ltT else x
theorem lt_good : Wy.Good ltT 1 0 := good_set (by decide)
theorem lt_null : (Wy.look ltT).nullable = false := by unfold ltT; rw [look_nullable]; decide
theorem tm_good {x : Nd} {d g : Nat} (h : Wy.Good x d g) (hd : 1 ≤ d) : Wy.Good (tmT x) (d + 1) g := by
  unfold tmT
  split
  · refine good_many (.inl rfl) (by simp) (fun s hs => ?_) ?_
    · simp only [List.mem_cons, List.not_mem_nil, or_false] at hs
      rcases hs with rfl | rfl
      · exact ⟨g, h⟩
      · exact ⟨0, lt_good.mono hd (Nat.le_refl _)⟩
    · have := h.groups
      have h2 := lt_good.groups
      simp only [openedL]
      omega
  · exact h.mono (by omega) (Nat.le_refl _)
theorem tm_null (x : Nd) : (Wy.look (tmT x)).nullable = false := by
  unfold tmT
  split
  · unfold catT
    rw [look_nullable]
    simp [lt_null]
  · next h => simpa using h
theorem times_eE {s : ByteArray} {x : Nd} {a hi hi' : Int} (ha : 1 ≤ a) (hh : hi = -1 ∧ hi' = -1 ∨ hi ≠ -1 ∧ hi' = hi - 1 ∧ 0 ≤ hi') (h1 : erW s (rpT a hi false x) = 0) (h2 : erW s (catT x (rpT (a - 1) hi' false x)) = 0) : eE s (rpT a hi false x) = eE s (catT x (rpT (a - 1) hi' false x)) :=
  times_law ha hh (some_of h1) (some_of h2)
theorem maybe_eE {s : ByteArray} {x : Nd} (h : erW s x = 0) (hm : (eE s x).length < 500) (lz : Bool) : eE s (rpT 0 1 lz x) = (if lz then 0 :: eE s x else eE s x ++ [0]) ∧ erW s (rpT 0 1 lz x) = 0 :=
  eE_of (maybe_law (some_of h) hm lz)
theorem dec_le (s : ByteArray) (p : Nat) (hw : 0 < ((strS s).dec p).2) : p + ((strS s).dec p).2 ≤ s.size := by
  by_cases hp : p < s.size
  · have hl : (s.data.toList.drop p).length = s.size - p := by rw [List.length_drop, Array.length_toList]; rfl
    have hne : s.data.toList.drop p ≠ [] := by intro e; rw [e] at hl; simp at hl; omega
    rw [dec_drop s p hp]
    have hle := Lib.decodeL_le _ hne
    simp only
    omega
  · exfalso
    have hsz : (s.extract p s.size).size = 0 := by simp; omega
    revert hw
    show ¬ 0 < (Lib.decodeGo (s.extract p s.size)).2
    unfold Lib.decodeGo
    rw [if_pos hsz]
    simp
theorem set_eE {s : ByteArray} (hs : s.size ≤ 32) (lo hi : Int) : erW s (rpT lo hi false ltT) = 0 ∧ erW s (rpT lo hi true ltT) = 0 ∧ eE s (rpT lo hi true ltT) = (eE s (rpT lo hi false ltT)).reverse := by
  obtain ⟨m, h1, h2⟩ := set_law (S := strS s) (dec_le s) hs [⟨97, 98⟩] lo hi
  obtain ⟨a1, a2⟩ := eE_of (t := rpT lo hi false ltT) h1
  obtain ⟨b1, b2⟩ := eE_of (t := rpT lo hi true ltT) h2
  exact ⟨a2, b2, by rw [a1, b1]⟩
end Go.Proofs.YtnhjakdmbfadlaaDoor
