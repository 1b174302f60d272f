/- Parts of the proof: Pp, Pa, Pb, Pc, Pd. Conditions: none. -/
import Derived.Test.YtnhjakdmbfadlaaDoorS05
import Derived.Test.YtnhjakdmbfadlaaDoorS38
import Derived.Test.YtnhjakdmbfadlaaDoorS08
import Derived.Lib.ValidLaws
import Derived.Lib.MapLaws
import Derived.Test.YtnhjakdmbfadlaaDoorS35
set_option linter.all false
/- The plain facts of WaysParts: two alternatives, one after the other, the rest of a string at a place that ways reach. -/
namespace Go.Proofs.YtnhjakdmbfadlaaDoor
open Go.RowKit Wy Mem

theorem rest_list (s : ByteArray) (p : Nat) : restS s p = ⟨(s.data.toList.drop p).toArray⟩ := by
  unfold restS
  apply ByteArray.ext
  apply Array.ext'
  rw [ByteArray.data_extract, Array.toList_extract, List.extract_eq_take_drop]
  have e : s.size = s.data.toList.length := by rw [Array.length_toList]; rfl
  rw [e]
  apply List.take_of_length_le
  rw [List.length_drop]
  exact Nat.le_refl _
theorem dec_drop (s : ByteArray) (p : Nat) (hp : p < s.size) : (strS s).dec p = (((Lib.decodeL (s.data.toList.drop p)).1 : Int), (Lib.decodeL (s.data.toList.drop p)).2) := by
  have e : s.extract p s.size = ⟨(s.data.toList.drop p).toArray⟩ := rest_list s p
  have hsz : (s.extract p s.size).size ≠ 0 := by simp; omega
  show (((Lib.decodeGo (s.extract p s.size)).1 : Int), (Lib.decodeGo (s.extract p s.size)).2) = _
  unfold Lib.decodeGo Lib.decodeL
  rw [if_neg hsz, e]
def eE (s : ByteArray) (t : Nd) : List Nat := (lA s t).map Wy.Way.stop
theorem ends_eE (s : ByteArray) (t : Nd) : (Wy.ends (strS s) t 0 = none ∧ erW s t = 5) ∨ (Wy.ends (strS s) t 0 = some (eE s t) ∧ erW s t = 0) := by
  unfold eE lA erW
  rw [ends_ways]
  cases Wy.ways (strS s) t with
  | none => exact .inl ⟨rfl, rfl⟩
  | some l => exact .inr ⟨rfl, rfl⟩
theorem eE_len (s : ByteArray) (t : Nd) : (eE s t).length ≤ 500 := by unfold eE; rw [List.length_map]; exact lA_len s t
theorem eE_of {s : ByteArray} {t : Nd} {l : List Nat} (h : Wy.ends (strS s) t 0 = some l) : eE s t = l ∧ erW s t = 0 := by
  rcases ends_eE s t with ⟨h1, -⟩ | ⟨h1, h2⟩
  · rw [h] at h1; cases h1
  · rw [h] at h1; cases h1; exact ⟨rfl, h2⟩
theorem some_of {s : ByteArray} {t : Nd} (h : erW s t = 0) : Wy.ends (strS s) t 0 = some (eE s t) := by
  rcases ends_eE s t with ⟨-, h2⟩ | ⟨h1, -⟩
  · rw [h] at h2; cases h2
  · exact h1
def catT (x y : Nd) : Nd := .mk 3 [] 0 0 false [x, y]
end Go.Proofs.YtnhjakdmbfadlaaDoor

/- WaysParts: the inner loop (the ends behind one end are gathered). -/
namespace Go.Proofs.YtnhjakdmbfadlaaDoor
open Go.RowKit Wy Mem Grow

end Go.Proofs.YtnhjakdmbfadlaaDoor

/- WaysParts: the round of the outer loop. -/
namespace Go.Proofs.YtnhjakdmbfadlaaDoor
open Go.RowKit Wy Mem Grow

/-- what a call of endsOf gives, in the form that the loop needs -/
def Eoc (n : Nat) (l : List Nat) (er : Int) (w : World) (e : Ending) (w' : World) : Prop := ∃ o c, e = .returned (.tuple #[.slice o n c, .int .i64 er]) ∧ Row (fun b => w.heap.size ≤ b) w' (.slice o n c) n 1 (intCs l) ∧ Below w.heap.size w w'
theorem eoc_any {w : World} {t : Nd} {cs : List Value} {s : ByteArray} {n : Nat} {l : List Nat} {er : Int} (h : NdAt (fun _ => True) w t cs) (hr : right t = true) (hno : nodes t ≤ 1000000) (hs : s.size ≤ 32) (hv : Lib.validD s.data.toList = true) (htab : Lib.Utf8Tabs 0 1 w) (hnone : NoneAt w) (hl : l = eE s t) (hn : n = l.length) (he : er = erW s t) :
    Calls Tryd.prog 10 #[.agg cs.toArray, .string s] w (Eoc n l er w) :=
  (eou_any h hr hno hs hv htab hnone).mono fun e w' ⟨v, h1, h2, h3, h4⟩ => by
    obtain ⟨o, c, rfl⟩ := own_slice h3
    refine ⟨o, c, ?_, ?_, h4⟩
    · rw [hn, hl, he]; exact h1
    · rw [hn, hl]; exact rowOwn h3 (fun g hg => (h3.lt g hg).1)
end Go.Proofs.YtnhjakdmbfadlaaDoor

/- WaysParts: the outer loop, and what stands behind it. -/
namespace Go.Proofs.YtnhjakdmbfadlaaDoor
open Go.RowKit Wy Mem Grow

end Go.Proofs.YtnhjakdmbfadlaaDoor

/- WaysParts: between the calls and the loops. -/
namespace Go.Proofs.YtnhjakdmbfadlaaDoor
open Go.RowKit Wy Mem Grow

end Go.Proofs.YtnhjakdmbfadlaaDoor
