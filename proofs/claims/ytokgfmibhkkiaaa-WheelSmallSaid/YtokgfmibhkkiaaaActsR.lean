/- The argument of acts, opened. -/
import Derived.Test.YtokgfmibhkkiaaaRow
import Derived.Test.YtokgfmibhkkiaaaActsS
namespace Go.Proofs.Ytokgfmibhkkiaaa
open Go.ChangeShapes Go.WideShapes Go.ChangeAt Go.RowKit Go.Deep
open Mem Wh

noncomputable def fs66 : Array Field := match Try.prog.underlying 66 with
  | some (.struct fs) => fs
  | _ => #[]
noncomputable def fsP : Array Field := match Try.prog.underlying 52 with
  | some (.struct fs) => fs
  | _ => #[]
theorem he66 : Try.prog.underlying 66 = some (.struct fs66) := by kernel_rfl
theorem heP : Try.prog.underlying 52 = some (.struct fsP) := by kernel_rfl
theorem cells66 : Try.prog.cellsOf 66 = 6 := by kernel_rfl
theorem cellsP : Try.prog.cellsOf 52 = 3 := by kernel_rfl
theorem under63 : Try.prog.underlying 63 = some (.slice 66) := by kernel_rfl
theorem fldG (fs : Array Field) (j : Nat) (t : TypeId) (o : Nat) (h : fs[j]?.map (fun f => (f.type, f.offset)) = some (t, o)) : ∃ f, fs[j]? = some f ∧ f.type = t ∧ f.offset = o := by
  cases e : fs[j]? with
  | none => rw [e] at h; cases h
  | some f => rw [e] at h; simp at h; exact ⟨f, rfl, h.1, h.2⟩
theorem i64_of {x : Int} (h : (Lit.int .i64 x).wf = true) : I64 x := by
  have := bounds_i64 h
  exact ⟨this.1, by omega⟩
set_option maxRecDepth 100000 in
theorem plan_one {H : Type} {enc : TypeId × Value → H} {W : World} {n : Nat} {cs : List Value} {x : DataW H × List MemPlace} (h : DataW.trod enc Try.prog W 0 (fun _ => true) true n 52 cs = some x) :
    ∃ p : Plan, (I64 p.every ∧ I64 p.offset ∧ I64 p.timeout) ∧ cs = [.int .i64 p.every, .int .i64 p.offset, .int .i64 p.timeout] := by
  obtain ⟨xs, k, -, -, hl, hx, hf⟩ := DataW.trod_struct heP h
  rw [cellsP] at hl
  match cs, hl with
  | [c0, c1, c2], _ =>
    obtain ⟨f0, e0, t0, o0⟩ := fldG fsP 0 3 0 (by kernel_rfl)
    obtain ⟨f1, e1, t1, o1⟩ := fldG fsP 1 3 1 (by kernel_rfl)
    obtain ⟨f2, e2, t2, o2⟩ := fldG fsP 2 3 2 (by kernel_rfl)
    have hs : fsP.size = 3 := by kernel_rfl
    have g0 := hf 0 f0 e0
    have g1 := hf 1 f1 e1
    have g2 := hf 2 f2 e2
    have c3 : Try.prog.cellsOf 3 = 1 := by kernel_rfl
    rw [t0, o0, c3, List.getElem?_eq_getElem (by omega)] at g0
    rw [t1, o1, c3, List.getElem?_eq_getElem (by omega)] at g1
    rw [t2, o2, c3, List.getElem?_eq_getElem (by omega)] at g2
    obtain ⟨z0, a0, -, w0⟩ := DataW.trod_int (k := .i64) (by kernel_rfl) g0
    obtain ⟨z1, a1, -, w1⟩ := DataW.trod_int (k := .i64) (by kernel_rfl) g1
    obtain ⟨z2, a2, -, w2⟩ := DataW.trod_int (k := .i64) (by kernel_rfl) g2
    simp at a0 a1 a2
    subst a0 a1 a2
    exact ⟨⟨z0, z1, z2⟩, ⟨i64_of w0, i64_of w1, i64_of w2⟩, rfl⟩
set_option maxRecDepth 100000 in
theorem act_one {H : Type} {enc : TypeId × Value → H} {W : World} {n : Nat} {cs : List Value} {x : DataW H × List MemPlace} (h : DataW.trod enc Try.prog W 0 (fun _ => true) true n 66 cs = some x) :
    ∃ t : Ac, t.Ok ∧ cs = [.int .u8 t.kind, .int .i64 t.id, .int .i64 t.n, .int .i64 t.plan.every, .int .i64 t.plan.offset, .int .i64 t.plan.timeout] := by
  obtain ⟨xs, k, -, -, hl, hx, hf⟩ := DataW.trod_struct he66 h
  rw [cells66] at hl
  match cs, hl with
  | [c0, c1, c2, c3, c4, c5], _ =>
    obtain ⟨f0, e0, t0, o0⟩ := fldG fs66 0 5 0 (by kernel_rfl)
    obtain ⟨f1, e1, t1, o1⟩ := fldG fs66 1 3 1 (by kernel_rfl)
    obtain ⟨f2, e2, t2, o2⟩ := fldG fs66 2 3 2 (by kernel_rfl)
    obtain ⟨f3, e3, t3, o3⟩ := fldG fs66 3 52 3 (by kernel_rfl)
    have hs : fs66.size = 4 := by kernel_rfl
    have g0 := hf 0 f0 e0
    have g1 := hf 1 f1 e1
    have g2 := hf 2 f2 e2
    have g3 := hf 3 f3 e3
    have n3 : Try.prog.cellsOf 3 = 1 := by kernel_rfl
    have n5 : Try.prog.cellsOf 5 = 1 := by kernel_rfl
    rw [t0, o0, n5, List.getElem?_eq_getElem (by omega)] at g0
    rw [t1, o1, n3, List.getElem?_eq_getElem (by omega)] at g1
    rw [t2, o2, n3, List.getElem?_eq_getElem (by omega)] at g2
    rw [t3, o3, cellsP, List.getElem?_eq_getElem (by omega)] at g3
    obtain ⟨z0, a0, -, w0⟩ := DataW.trod_int (k := .u8) (by kernel_rfl) g0
    obtain ⟨z1, a1, -, w1⟩ := DataW.trod_int (k := .i64) (by kernel_rfl) g1
    obtain ⟨z2, a2, -, w2⟩ := DataW.trod_int (k := .i64) (by kernel_rfl) g2
    obtain ⟨p, hp, a3⟩ := plan_one g3
    simp at a0 a1 a2 a3
    obtain ⟨a3, a4, a5⟩ := a3
    subst a0 a1 a2 a3 a4 a5
    have := bounds_u8 w0
    exact ⟨⟨z0, z1, z2, p⟩, ⟨⟨this.1, by show z0 ≤ 255; omega⟩, i64_of w1, i64_of w2, hp⟩, rfl⟩
set_option maxRecDepth 100000 in
theorem actsArg_any {H : Type} {enc : TypeId × Value → H} {W : World} {a : Option Addr} {len cap : Nat} {d : DataW H} {p : List MemPlace} (h : DataW.Trod enc Try.prog W 0 (fun _ => true) true 63 (.slice a len cap) d p) : ∃ T, ActsAt W W.heap.size (.slice a len cap) T := by
  obtain ⟨fuel, hf⟩ := h
  rcases open_slice under63 hf with ⟨hcs, -⟩ | ⟨x, l, c, m, n, D, Pl, hcs, hb, hl, hm, hmm, hx, hi⟩
  · simp [Value.cells] at hcs
    obtain ⟨rfl, rfl, rfl⟩ := hcs
    exact ⟨[], .inl ⟨rfl, _, _, rfl⟩⟩
  · simp [Value.cells] at hcs
    obtain ⟨rfl, rfl, rfl⟩ := hcs
    rw [cells66] at hi
    simp at hmm
    by_cases h0 : len = 0
    · subst h0
      exact ⟨[], .inl ⟨rfl, _, _, rfl⟩⟩
    obtain ⟨T, hT, hP⟩ := list_of (α := Ac) (n := len) (P := fun (i : Nat) (t : Ac) => t.Ok ∧ W.cell? (x.add (i * 6)) = some (.int .u8 t.kind) ∧ W.cell? ((x.add (i * 6)).add 1) = some (.int .i64 t.id) ∧ W.cell? ((x.add (i * 6)).add 2) = some (.int .i64 t.n) ∧
      W.cell? ((x.add (i * 6)).add 3) = some (.int .i64 t.plan.every) ∧ W.cell? ((x.add (i * 6)).add 4) = some (.int .i64 t.plan.offset) ∧ W.cell? ((x.add (i * 6)).add 5) = some (.int .i64 t.plan.timeout)) (fun i hil => by
      obtain ⟨cs', hc, ht⟩ := hi i (by omega)
      obtain ⟨t, hu, rfl⟩ := act_one ht
      obtain ⟨-, -, hat⟩ := World.cells?_some hc
      exact ⟨t, hu, hat 0 (by omega), hat 1 (by omega), hat 2 (by omega), hat 3 (by omega), hat 4 (by omega), hat 5 (by omega)⟩)
    subst hT
    have hc0 := (hP 0 (by omega)).2.1
    have hsp : x.spot = none := by simpa [Addr.add] using World.cell?_spot hc0
    obtain ⟨b, off, sp⟩ := x
    simp only at hsp
    subst hsp
    have add6 : ∀ i, (⟨b, off, none⟩ : Addr).add i = ⟨b, off + i, none⟩ := fun i => by unfold Addr.add; split <;> simp_all
    simp only [add6] at hP hc0
    refine ⟨T, .inr ⟨b, off, cap, rfl, hl, hm, ?_, hP⟩⟩
    exact World.block_lt_of_cell? W _ hc0
end Go.Proofs.Ytokgfmibhkkiaaa
