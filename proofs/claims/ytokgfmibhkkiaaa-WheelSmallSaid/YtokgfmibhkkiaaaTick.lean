/- tick: answer and handle, whatever the member's phase -/
import Derived.Test.YtokgfmibhkkiaaaLaw
namespace Go.Proofs.Ytokgfmibhkkiaaa
open Go.RowKit Wh Mem Go.Maps

def ansP (s : Phase) : Phase := if s.state = 1 then ⟨2, s.since⟩ else s
def hanP (s : Phase) : Phase := if s.state = 2 then ⟨0, 0⟩ else s
def answerM (id : Int) (l : List Mb) : List Mb := match findM l id with
  | none => l
  | some m => setM l id (ansP m.phase)
def handleM (id : Int) (l : List Mb) : List Mb := match findM l id with
  | none => l
  | some m => setM l id (hanP m.phase)
theorem setM_same {l : List Mb} (hl : Ids l) {id : Int} {m : Mb} (hm : findM l id = some m) : setM l id m.phase = l := by
  obtain ⟨h1, h2⟩ := findM_some hm
  unfold setM
  conv => rhs; rw [← List.map_id l]
  refine List.map_congr_left fun x hx => ?_
  split
  · rename_i e
    rw [ids_eq hl hx h1 (e.trans h2.symm)]
    rfl
  · rfl
theorem setM_ids (l : List Mb) (id : Int) (ph : Phase) : (setM l id ph).map (·.id) = l.map (·.id) := by
  unfold setM
  rw [List.map_map]
  refine List.map_congr_left fun x _ => ?_
  show (if x.id = id then setP x ph else x).id = x.id
  split <;> rfl
theorem setM_blks (l : List Mb) (id : Int) (ph : Phase) : (setM l id ph).map (·.blk) = l.map (·.blk) := by
  unfold setM
  rw [List.map_map]
  refine List.map_congr_left fun x _ => ?_
  show (if x.id = id then setP x ph else x).blk = x.blk
  split <;> rfl
theorem answerM_ids (l : List Mb) (id : Int) : (answerM id l).map (·.id) = l.map (·.id) := by
  unfold answerM; split
  · rfl
  · exact setM_ids _ _ _
theorem answerM_blks (l : List Mb) (id : Int) : (answerM id l).map (·.blk) = l.map (·.blk) := by
  unfold answerM; split
  · rfl
  · exact setM_blks _ _ _
theorem handleM_ids (l : List Mb) (id : Int) : (handleM id l).map (·.id) = l.map (·.id) := by
  unfold handleM; split
  · rfl
  · exact setM_ids _ _ _
theorem handleM_blks (l : List Mb) (id : Int) : (handleM id l).map (·.blk) = l.map (·.blk) := by
  unfold handleM; split
  · rfl
  · exact setM_blks _ _ _

/-- the members' blocks, by the list of them alone -/
def InB (bs : List Nat) (k : Nat) : Prop := k ∈ bs
theorem inB_of {l : List Mb} {m : Mb} (hm : m ∈ l) : InB (l.map (·.blk)) m.blk := List.mem_map_of_mem hm

theorem answer_all {w : World} {pb mb : Nat} {now : Int} {l : List Mb} (h : WheelAt w pb mb now l) {id : Int} (hw : (Lit.int .i64 id).wf = true) :
    Calls Try.prog 21 #[.pointer (some ⟨pb, 0, none⟩), .int .i64 id] w fun e w' => (∃ x y, e = .returned (.tuple #[.int .i64 x, .int .i64 y])) ∧ WheelAt w' pb mb now (answerM id l) ∧ Kept (InB (l.map (·.blk))) w w' := by
  unfold answerM
  cases hf : findM l id with
  | none => exact (answer_none h hw hf).mono (by rintro e w' ⟨rfl, rfl⟩; exact ⟨⟨_, _, rfl⟩, h, Kept.refl _ _⟩)
  | some m =>
    have hb := inB_of (findM_some hf).1
    by_cases hs : m.phase.state = 1
    · simp only [ansP, if_pos hs]
      exact (answer_yes h hw hf hs).mono (by rintro e w' ⟨rfl, h1, h2⟩; exact ⟨⟨_, _, rfl⟩, h1, h2.mono (by rintro i _ rfl; exact hb)⟩)
    · simp only [ansP, if_neg hs, setM_same h.ids hf]
      exact (answer_no h hw hf hs).mono (by rintro e w' ⟨rfl, rfl⟩; exact ⟨⟨_, _, rfl⟩, h, Kept.refl _ _⟩)
theorem handle_all {w : World} {pb mb : Nat} {now : Int} {l : List Mb} (h : WheelAt w pb mb now l) {id : Int} (hw : (Lit.int .i64 id).wf = true) :
    Calls Try.prog 22 #[.pointer (some ⟨pb, 0, none⟩), .int .i64 id] w fun e w' => (∃ x y, e = .returned (.tuple #[.int .i64 x, .int .i64 y])) ∧ WheelAt w' pb mb now (handleM id l) ∧ Kept (InB (l.map (·.blk))) w w' := by
  unfold handleM
  cases hf : findM l id with
  | none => exact (handle_none h hw hf).mono (by rintro e w' ⟨rfl, rfl⟩; exact ⟨⟨_, _, rfl⟩, h, Kept.refl _ _⟩)
  | some m =>
    have hb := inB_of (findM_some hf).1
    by_cases hs : m.phase.state = 2
    · simp only [hanP, if_pos hs]
      exact (handle_yes h hw hf hs).mono (by rintro e w' ⟨rfl, h1, h2⟩; exact ⟨⟨_, _, rfl⟩, h1, h2.mono (by rintro i _ rfl; exact hb)⟩)
    · simp only [hanP, if_neg hs, setM_same h.ids hf]
      exact (handle_no h hw hf hs).mono (by rintro e w' ⟨rfl, rfl⟩; exact ⟨⟨_, _, rfl⟩, h, Kept.refl _ _⟩)

/-- an element of the argument, in numbers -/
structure Sm where
  every : Int
  offset : Int
  timeout : Int
  handled : Bool
def U64 (x : Int) : Prop := 0 ≤ x ∧ x < 18446744073709551616
/-- the argument as it lies: at blocks below base -/
def SmallsAt (w : World) (base : Nat) (v : Value) (S : List Sm) : Prop :=
  (v = .slice none 0 0 ∧ S = []) ∨ ∃ (a : Addr) (cap : Nat), v = .slice (some a) S.length cap ∧ S.length ≤ cap ∧ cap ≤ maxLen ∧ (0 < S.length → a.block < base) ∧
    ∀ (i : Nat) (hi : i < S.length), (U64 S[i].every ∧ U64 S[i].offset ∧ U64 S[i].timeout) ∧
      w.cell? (a.add (i * 4)) = some (.int .u64 S[i].every) ∧ w.cell? ((a.add (i * 4)).add 1) = some (.int .u64 S[i].offset) ∧ w.cell? ((a.add (i * 4)).add 2) = some (.int .u64 S[i].timeout) ∧ w.cell? ((a.add (i * 4)).add 3) = some (.bool S[i].handled)
theorem add_blk (a : Addr) (n : Nat) : (a.add n).block = a.block := by unfold Addr.add; split <;> rfl
/-- tick, in plain Lean -/
def tickM (S : List Sm) : Nat → List Mb → List Mb
  | 0, l => l
  | k + 1, l => if (S[k]?.map (·.handled)) = some true then handleM (3 * k) (answerM (3 * k) (tickM S k l)) else tickM S k l
theorem tickM_ids (S : List Sm) : ∀ (k : Nat) (l : List Mb), (tickM S k l).map (·.id) = l.map (·.id)
  | 0, _ => rfl
  | k + 1, l => by
    unfold tickM; split
    · rw [handleM_ids, answerM_ids, tickM_ids S k l]
    · exact tickM_ids S k l
theorem tickM_blks (S : List Sm) : ∀ (k : Nat) (l : List Mb), (tickM S k l).map (·.blk) = l.map (·.blk)
  | 0, _ => rfl
  | k + 1, l => by
    unfold tickM; split
    · rw [handleM_blks, answerM_blks, tickM_blks S k l]
    · exact tickM_blks S k l
end Go.Proofs.Ytokgfmibhkkiaaa
