/- The arguments of the laws on wheels, opened: numbers, and the list of members in numbers. -/
import Derived.Test.YtokgfmibhkkiaaaRows
import Derived.Test.YtokgfmibhkkiaaaAwakeW
import Derived.ProofKit
import Derived.Deep.Slices
import Derived.Deep.Fields
import Derived.ChangeSame
import Derived.OpenShut
namespace Go.Proofs.Ytokgfmibhkkiaaa
open Go.ChangeShapes Go.WideShapes Go.ChangeAt Go.RowKit Go.Deep
open Mem Wh

theorem row_own : ownKnob Try.prog.godebug = none := by kernel_rfl
theorem row_laidOut : laidOutB Try.prog = true := by kernel_rfl
noncomputable def fs55 : Array Field := match Try.prog.underlying 55 with
  | some (.struct fs) => fs
  | _ => #[]
theorem he55 : Try.prog.underlying 55 = some (.struct fs55) := by kernel_rfl
theorem ty55 : fs55.map (·.type) = #[22, 22, 22, 4] := by kernel_rfl
theorem cells55 : Try.prog.cellsOf 55 = 4 := by kernel_rfl
theorem one55 : oneCellFields Try.prog fs55 = true := by kernel_rfl
theorem under23 : Try.prog.underlying 23 = some (.slice 55) := by kernel_rfl
theorem wakes_all {w : World} {base : Nat} {v : Value} {S : List Sm} (hS : SmallsAt w base v S) (hbase : base ≤ w.heap.size) (now : Int) (hn : U64 now) :
    Calls Try.prog 3 #[.int .u64 now, v] w fun e w' => e = .returned (.bool true) ∧ Below w.heap.size w w' := wakes_of awake_any hS hbase now hn
theorem list_of {α : Type} {n : Nat} {P : Nat → α → Prop} (h : ∀ i, i < n → ∃ s, P i s) : ∃ S : List α, S.length = n ∧ ∀ (i : Nat) (hi : i < S.length), P i S[i] := by
  induction n with
  | zero => exact ⟨[], rfl, fun i hi => absurd hi (by simp)⟩
  | succ n ih =>
    obtain ⟨S, hl, hS⟩ := ih fun i hi => h i (by omega)
    obtain ⟨s, hs⟩ := h n (by omega)
    refine ⟨S ++ [s], by simp [hl], fun i hi => ?_⟩
    by_cases e : i < S.length
    · rw [List.getElem_append_left e]; exact hS i e
    · have e2 : i = n := by simp at hi; omega
      subst e2
      rw [List.getElem_append_right (by omega)]
      simpa [hl] using hs
theorem u64_of {x : Int} (h : (Lit.int .u64 x).wf = true) : U64 x := by
  have := bounds_u64 h
  exact ⟨this.1, by omega⟩
theorem fld (j : Nat) (t : TypeId) (h : fs55[j]?.map (·.type) = some t) : ∃ f, fs55[j]? = some f ∧ f.type = t := by
  cases e : fs55[j]? with
  | none => rw [e] at h; cases h
  | some f => rw [e] at h; exact ⟨f, rfl, by simpa using h⟩
theorem fld' (j : Nat) (t : TypeId) (o : Nat) (h : fs55[j]?.map (fun f => (f.type, f.offset)) = some (t, o)) : ∃ f, fs55[j]? = some f ∧ f.type = t ∧ f.offset = o := by
  cases e : fs55[j]? with
  | none => rw [e] at h; cases h
  | some f => rw [e] at h; simp at h; exact ⟨f, rfl, h.1, h.2⟩
set_option maxRecDepth 100000 in
theorem small_one {H : Type} {enc : TypeId × Value → H} {W : World} {n : Nat} {cs : List Value} {x : DataW H × List MemPlace} (h : DataW.trod enc Try.prog W 0 (fun _ => true) true n 55 cs = some x) :
    ∃ s : Sm, (U64 s.every ∧ U64 s.offset ∧ U64 s.timeout) ∧ cs = [.int .u64 s.every, .int .u64 s.offset, .int .u64 s.timeout, .bool s.handled] := by
  obtain ⟨xs, k, -, -, hl, hx, hf⟩ := DataW.trod_struct he55 h
  rw [cells55] at hl
  match cs, hl with
  | [c0, c1, c2, c3], _ =>
    obtain ⟨f0, e0, t0, o0⟩ := fld' 0 22 0 (by kernel_rfl)
    obtain ⟨f1, e1, t1, o1⟩ := fld' 1 22 1 (by kernel_rfl)
    obtain ⟨f2, e2, t2, o2⟩ := fld' 2 22 2 (by kernel_rfl)
    obtain ⟨f3, e3, t3, o3⟩ := fld' 3 4 3 (by kernel_rfl)
    have hs : fs55.size = 4 := by kernel_rfl
    have g0 := hf 0 f0 e0
    have g1 := hf 1 f1 e1
    have g2 := hf 2 f2 e2
    have g3 := hf 3 f3 e3
    have c22 : Try.prog.cellsOf 22 = 1 := by kernel_rfl
    have c4 : Try.prog.cellsOf 4 = 1 := by kernel_rfl
    rw [t0, o0, c22, List.getElem?_eq_getElem (by omega)] at g0
    rw [t1, o1, c22, List.getElem?_eq_getElem (by omega)] at g1
    rw [t2, o2, c22, List.getElem?_eq_getElem (by omega)] at g2
    rw [t3, o3, c4, List.getElem?_eq_getElem (by omega)] at g3
    obtain ⟨z0, a0, -, w0⟩ := DataW.trod_int (k := .u64) (by kernel_rfl) g0
    obtain ⟨z1, a1, -, w1⟩ := DataW.trod_int (k := .u64) (by kernel_rfl) g1
    obtain ⟨z2, a2, -, w2⟩ := DataW.trod_int (k := .u64) (by kernel_rfl) g2
    obtain ⟨z3, a3, -⟩ := DataW.trod_bool (by kernel_rfl) g3
    simp at a0 a1 a2 a3
    subst a0 a1 a2 a3
    exact ⟨⟨z0, z1, z2, z3⟩, ⟨u64_of w0, u64_of w1, u64_of w2⟩, rfl⟩
set_option maxRecDepth 100000 in
theorem smalls_any {H : Type} {enc : TypeId × Value → H} {W : World} {a : Option Addr} {len cap : Nat} {d : DataW H} {p : List MemPlace} (h : DataW.Trod enc Try.prog W 0 (fun _ => true) true 23 (.slice a len cap) d p) : ∃ S, SmallsAt W W.heap.size (.slice a len cap) S := by
  obtain ⟨fuel, hf⟩ := h
  rcases open_slice under23 hf with ⟨hcs, -⟩ | ⟨x, l, c, m, n, D, Pl, hcs, hb, hl, hm, hmm, hx, hi⟩
  · simp [Value.cells] at hcs
    obtain ⟨rfl, rfl, rfl⟩ := hcs
    exact ⟨[], .inl ⟨rfl, rfl⟩⟩
  · simp [Value.cells] at hcs
    obtain ⟨rfl, rfl, rfl⟩ := hcs
    rw [cells55] at hi
    simp at hmm
    obtain ⟨S, hS, hP⟩ := list_of (α := Sm) (n := len) (P := fun (i : Nat) (s : Sm) => (U64 s.every ∧ U64 s.offset ∧ U64 s.timeout) ∧ W.cell? (x.add (i * 4)) = some (.int .u64 s.every) ∧ W.cell? ((x.add (i * 4)).add 1) = some (.int .u64 s.offset) ∧ W.cell? ((x.add (i * 4)).add 2) = some (.int .u64 s.timeout) ∧ W.cell? ((x.add (i * 4)).add 3) = some (.bool s.handled)) (fun i hil => by
      obtain ⟨cs', hc, ht⟩ := hi i (by omega)
      obtain ⟨s, hu, rfl⟩ := small_one ht
      obtain ⟨-, -, hat⟩ := World.cells?_some hc
      exact ⟨s, hu, hat 0 (by omega), hat 1 (by omega), hat 2 (by omega), hat 3 (by omega)⟩)
    subst hS
    refine ⟨S, .inr ⟨x, cap, rfl, hl, hm, fun h0 => ?_, hP⟩⟩
    have := (hP 0 h0).2.1
    rcases Nat.lt_or_ge (x.add (0 * 4)).block W.heap.size with h | h
    · rwa [add_blk] at h
    · unfold World.cell? at this
      rw [Array.getElem?_eq_none h] at this
      simp at this
end Go.Proofs.Ytokgfmibhkkiaaa
