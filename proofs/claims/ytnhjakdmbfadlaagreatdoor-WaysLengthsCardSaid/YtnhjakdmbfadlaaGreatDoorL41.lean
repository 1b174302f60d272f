/- Parts of the proof: Ins, Plc. Conditions: none. -/
import Derived.Test.YtnhjakdmbfadlaaGreatDoorL02
import Derived.Test.YtnhjakdmbfadlaaGreatDoorL40
import Derived.Laws.RangeAny
set_option linter.all false
/- What holds of each way: its end and its spans are places, and the spans lie in the way. -/
namespace Go.Proofs.Wy

/-- what holds of a way from a place, however it was made -/
structure Inv {W : Type} (A : Alg W) (S : Str) (Q : Nat → Prop) (I : Nat → W → Prop) : Prop where
  stop : ∀ p w, I p w → Q (A.stop w)
  still : ∀ p, Q p → I p (A.still p)
  set : ∀ p, Q p → 0 < (S.dec p).2 → I p (A.still (p + (S.dec p).2))
  thn : ∀ p w v, I p w → I (A.stop w) v → I p (A.thn w v)
  mark : ∀ g p w, Q p → I p w → I p (A.mark g p w)
end Go.Proofs.Wy

/- The places of a string: where its code points begin, and its end. -/
namespace Go.Proofs.YtnhjakdmbfadlaaGreatDoor
open Go.RowKit Wy Mem Grow

theorem dec_utf8 (s : ByteArray) (p : Nat) : Utf8.decode s p = Lib.decodeL (s.data.toList.drop p) := by
  rw [Lib.decode_N, Lib.decodeL_N]
  simp only [List.length_drop, List.getD_eq_getElem?_getD, List.getElem?_drop, Nat.add_zero]
theorem rest_list (s : ByteArray) (p : Nat) : restS s p = ⟨(s.data.toList.drop p).toArray⟩ := by
  unfold restS
  apply ByteArray.ext
  apply Array.ext'
  rw [ByteArray.data_extract, Array.toList_extract, List.extract_eq_take_drop]
  have e : s.size = s.data.toList.length := by rw [Array.length_toList]; rfl
  rw [e]
  apply List.take_of_length_le
  rw [List.length_drop]
  exact Nat.le_refl _
theorem dec_drop (s : ByteArray) (p : Nat) (hp : p < s.size) : (strS s).dec p = (((Lib.decodeL (s.data.toList.drop p)).1 : Int), (Lib.decodeL (s.data.toList.drop p)).2) := by
  have e : s.extract p s.size = ⟨(s.data.toList.drop p).toArray⟩ := rest_list s p
  have hsz : (s.extract p s.size).size ≠ 0 := by simp; omega
  show (((Lib.decodeGo (s.extract p s.size)).1 : Int), (Lib.decodeGo (s.extract p s.size)).2) = _
  unfold Lib.decodeGo Lib.decodeL
  rw [if_neg hsz, e]
theorem dec_strS (s : ByteArray) (p : Nat) (hp : p < s.size) : ((strS s).dec p).2 = (Utf8.decode s p).2 := by
  rw [dec_drop s p hp, dec_utf8]
theorem dec_past (s : ByteArray) (p : Nat) (hp : ¬ p < s.size) : ((strS s).dec p).2 = 0 := by
  have hsz : (s.extract p s.size).size = 0 := by simp; omega
  show (Lib.decodeGo (s.extract p s.size)).2 = 0
  unfold Lib.decodeGo
  rw [if_pos hsz]
theorem dec_width (s : ByteArray) (p : Nat) (hp : p < s.size) : 1 ≤ (Utf8.decode s p).2 ∧ p + (Utf8.decode s p).2 ≤ s.size := by
  have hl : (s.data.toList.drop p).length = s.size - p := by rw [List.length_drop, Array.length_toList]; rfl
  have hne : s.data.toList.drop p ≠ [] := by intro e; rw [e] at hl; simp at hl; omega
  have hle := Lib.decodeL_le _ hne
  rw [dec_utf8]
  refine ⟨?_, by omega⟩
  rw [← dec_utf8]
  by_cases ha : (s[p]'hp).toNat < 128
  · rw [decode_ascii s p hp ha]
    exact Nat.le_refl _
  · exact (decode_high s p hp (by omega)).2
/-- the places that a range over the string has found, up to one -/
structure Pla (s : ByteArray) (pos : Nat) (P : List Nat) : Prop where
  last : s.size ∈ P
  first : pos = 0 ∨ 0 ∈ P
  next : ∀ p ∈ P, p = s.size ∨ p < s.size ∧ (p + (Utf8.decode s p).2 = pos ∨ p + (Utf8.decode s p).2 ∈ P)
  le : pos ≤ s.size
  len : P.length ≤ pos + 1
theorem Pla.more {s : ByteArray} {pos : Nat} {P : List Nat} (h : Pla s pos P) (hp : pos < s.size) : Pla s (pos + (Utf8.decode s pos).2) (P ++ [pos]) := by
  obtain ⟨hw, hl⟩ := dec_width s pos hp
  refine ⟨List.mem_append_left _ h.last, .inr ?_, fun p hm => ?_, hl, by have := h.len; rw [List.length_append]; simp; omega⟩
  · rcases h.first with e | e
    · rw [e]; simp
    · exact List.mem_append_left _ e
  · rcases List.mem_append.1 hm with hm | hm
    · rcases h.next p hm with e | ⟨e1, e2 | e2⟩
      · exact .inl e
      · exact .inr ⟨e1, .inr (by rw [e2]; simp)⟩
      · exact .inr ⟨e1, .inr (List.mem_append_left _ e2)⟩
    · obtain rfl : p = pos := by simpa using hm
      exact .inr ⟨hp, .inl rfl⟩
theorem Pla.done {s : ByteArray} {pos : Nat} {P : List Nat} (h : Pla s pos P) (hp : ¬ pos < s.size) : 0 ∈ P ∧ ∀ p, p ∈ P → 0 < ((strS s).dec p).2 → p + ((strS s).dec p).2 ∈ P := by
  have hps : pos = s.size := by have := h.le; omega
  refine ⟨?_, fun p hm hw => ?_⟩
  · rcases h.first with e | e
    · have := h.last
      rwa [← hps, e] at this
    · exact e
  · rcases h.next p hm with e | ⟨e1, e2⟩
    · rw [dec_past s p (by omega)] at hw
      omega
    · rw [dec_strS s p e1]
      rcases e2 with e2 | e2
      · rw [e2, hps]; exact h.last
      · exact e2
end Go.Proofs.YtnhjakdmbfadlaaGreatDoor
