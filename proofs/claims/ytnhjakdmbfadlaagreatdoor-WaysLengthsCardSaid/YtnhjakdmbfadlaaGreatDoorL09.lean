/- Parts of the proof: Shelf, Rw, Rep. Conditions: none. -/
import Derived.Shelf.Bits.Mul64
import Derived.Shelf.Unicode.DecodeSlow
import Derived.Shelf.Unicode.DecodeAny
import Derived.Shelf.Unicode.ValidAny
import Derived.Test.YtnhjakdmbfadlaaGreatDoorProg
import Derived.Test.YtnhjakdmbfadlaaGreatDoorRows
import Derived.Test.YtnhjakdmbfadlaaGreatDoorL06
import Derived.Test.YtnhjakdmbfadlaaGreatDoorL08
import Derived.Test.YtnhjakdmbfadlaaGreatDoorL05
import Derived.ProofKit
import Derived.Deep.Slices
import Derived.Deep.Fields
import Derived.ChangeSame
import Derived.OpenShut
import Derived.LaidMore
import Derived.Lay
import Derived.Lib.LaidU8
import Derived.Stop.Joined
import Derived.Laws.MakeOwn
import Derived.Laws.CopyRow
import Derived.Test.YtnhjakdmbfadlaaGreatDoorL03
import Derived.RegionTactic
import Derived.BigRegion
import Derived.ChangeAlike
set_option linter.all false
/-
  DERIVED: THE SHELF's CONTRACTS AT THIS DUMP, IN PLAIN WORDS (tools/lay-plain.mjs out of 'TryzShelf.lean', which tools/lay-shelf.mjs wrote): THE SAME DECLARATIONS UNDER THE SAME NAMES: 'import', 'namespace', 'open', 'def', 'theorem' AND NOTHING ELSE: no command of the shelf's: FOR A HAND-IN. Each laying: the table of numbers ('.._ren') and one theorem, a field a fact of the dump's own or the kernel's comparison; each contract: ONE APPLICATION.
-/
namespace Go.Proofs
open Go.Shelf
def Tryz.lays212_ren : Go.Shelf.Ren := ⟨fun | 212 => 106 | 263 => 127 | 264 => 128 | n => n, fun | 46 => 137 | 51 => 197 | 146 => 204 | 53 => 163 | 148 => 206 | n => n, fun | n => n⟩
theorem Tryz.lays212 : Go.Proofs.Lays.n212 Tryz.prog Tryz.lays212_ren := {
  mixed := by kernel_rfl
  f212 := Tryz.func106.trans (congrArg some (by kernel_rfl))
  f263 := Tryz.func127.trans (congrArg some (by kernel_rfl))
  f264 := Tryz.func128.trans (congrArg some (by kernel_rfl))
  t46 := Tryz.underlying137
  a46 := Tryz.isAgg137
  z46 := Tryz.sizeOf137
  v46 := Tryz.zeroValue137
  t51 := Tryz.underlying197
  a51 := Tryz.isAgg197
  z51 := Tryz.sizeOf197
  v51 := Tryz.zeroValue197
  t53 := Tryz.underlying163
  a53 := Tryz.isAgg163
  z53 := Tryz.sizeOf163
  v53 := Tryz.zeroValue163
  t146 := Tryz.underlying204
  a146 := Tryz.isAgg204
  z146 := Tryz.sizeOf204
  v146 := Tryz.zeroValue204
  t148 := Tryz.underlying206
  a148 := Tryz.isAgg206
  z148 := Tryz.sizeOf206
  v148 := Tryz.zeroValue206 }
open Go.RowKit Go.Lib in
/-- math/bits.Mul: "Mul returns the full-width product of x and y": on a machine of 64 bits: Mul64's. (LAID: no walk: one application.) -/
theorem Tryz.bits_Mul (x y : Nat) (hx : x < 18446744073709551616) (hy : y < 18446744073709551616) (w : World) :
    Calls Tryz.prog 106 #[.int .u64 x, .int .u64 y] w fun e w' => e = .returned (.tuple #[.int .u64 ((x * y / 18446744073709551616 : Nat) : Int), .int .u64 ((x * y % 18446744073709551616 : Nat) : Int)]) ∧ w' = w := Any.bits_Mul Tryz.lays212 x y hx hy w
def Tryz.lays260_ren : Go.Shelf.Ren := ⟨fun | 260 => 89 | n => n, fun | 9 => 9 | 21 => 21 | 3 => 3 | 4 => 4 | 5 => 5 | 119 => 133 | 0 => 0 | 46 => 137 | 139 => 136 | 138 => 135 | n => n, fun | 3 => 0 | 4 => 1 | n => n⟩
theorem Tryz.lays260 : Go.Proofs.Lays.n260 Tryz.prog Tryz.lays260_ren := {
  mixed := by kernel_rfl
  f260 := Tryz.func89.trans (congrArg some (by kernel_rfl))
  t0 := Tryz.underlying0
  a0 := Tryz.isAgg0
  z0 := Tryz.sizeOf0
  v0 := Tryz.zeroValue0
  t3 := Tryz.underlying3
  a3 := Tryz.isAgg3
  z3 := Tryz.sizeOf3
  v3 := Tryz.zeroValue3
  t4 := Tryz.underlying4
  a4 := Tryz.isAgg4
  z4 := Tryz.sizeOf4
  v4 := Tryz.zeroValue4
  t5 := Tryz.underlying5
  a5 := Tryz.isAgg5
  z5 := Tryz.sizeOf5
  v5 := Tryz.zeroValue5
  t9 := Tryz.underlying9
  a9 := Tryz.isAgg9
  z9 := Tryz.sizeOf9
  v9 := Tryz.zeroValue9
  t21 := Tryz.underlying21
  a21 := Tryz.isAgg21
  z21 := Tryz.sizeOf21
  v21 := Tryz.zeroValue21
  t46 := Tryz.underlying137
  a46 := Tryz.isAgg137
  z46 := Tryz.sizeOf137
  v46 := Tryz.zeroValue137
  t119 := Tryz.underlying133
  a119 := Tryz.isAgg133
  z119 := Tryz.sizeOf133
  t138 := Tryz.underlying135
  a138 := Tryz.isAgg135
  z138 := Tryz.sizeOf135
  v138 := Tryz.zeroValue135
  t139 := Tryz.underlying136
  a139 := Tryz.isAgg136
  z139 := Tryz.sizeOf136
  v139 := Tryz.zeroValue136
  g3 := by kernel_rfl
  g4 := by kernel_rfl }
def Tryz.lays197_ren : Go.Shelf.Ren := ⟨fun | 197 => 67 | 260 => 89 | n => n, fun | 9 => 9 | 21 => 21 | 3 => 3 | 4 => 4 | 5 => 5 | 105 => 144 | 119 => 133 | 0 => 0 | 46 => 137 | 139 => 136 | 138 => 135 | n => n, fun | 3 => 0 | 4 => 1 | n => n⟩
theorem Tryz.lays197 : Go.Proofs.Lays.n197 Tryz.prog Tryz.lays197_ren := {
  mixed := by kernel_rfl
  f197 := Tryz.func67.trans (congrArg some (by kernel_rfl))
  f260 := Tryz.func89.trans (congrArg some (by kernel_rfl))
  t0 := Tryz.underlying0
  a0 := Tryz.isAgg0
  z0 := Tryz.sizeOf0
  v0 := Tryz.zeroValue0
  t3 := Tryz.underlying3
  a3 := Tryz.isAgg3
  z3 := Tryz.sizeOf3
  v3 := Tryz.zeroValue3
  t4 := Tryz.underlying4
  a4 := Tryz.isAgg4
  z4 := Tryz.sizeOf4
  v4 := Tryz.zeroValue4
  t5 := Tryz.underlying5
  a5 := Tryz.isAgg5
  z5 := Tryz.sizeOf5
  v5 := Tryz.zeroValue5
  t9 := Tryz.underlying9
  a9 := Tryz.isAgg9
  z9 := Tryz.sizeOf9
  v9 := Tryz.zeroValue9
  t21 := Tryz.underlying21
  a21 := Tryz.isAgg21
  z21 := Tryz.sizeOf21
  v21 := Tryz.zeroValue21
  t46 := Tryz.underlying137
  a46 := Tryz.isAgg137
  z46 := Tryz.sizeOf137
  v46 := Tryz.zeroValue137
  t105 := Tryz.underlying144
  a105 := Tryz.isAgg144
  z105 := Tryz.sizeOf144
  v105 := Tryz.zeroValue144
  t119 := Tryz.underlying133
  a119 := Tryz.isAgg133
  z119 := Tryz.sizeOf133
  t138 := Tryz.underlying135
  a138 := Tryz.isAgg135
  z138 := Tryz.sizeOf135
  v138 := Tryz.zeroValue135
  t139 := Tryz.underlying136
  a139 := Tryz.isAgg136
  z139 := Tryz.sizeOf136
  v139 := Tryz.zeroValue136
  g3 := by kernel_rfl
  g4 := by kernel_rfl }
open Go.RowKit Go.Lib in
/-- **unicode/utf8.DecodeRuneInString AT EVERY STRING.** (LAID: no walk: one application.) -/
theorem Tryz.utf8_DecodeRuneInString (s : ByteArray) (w : World) (hT : Lib.Utf8Tabs 0 1 w) :
    Calls Tryz.prog 67 #[.string s] w fun e w' => e = .returned (.tuple #[.int .i32 (Lib.decodeGo s).1, .int .i64 (Lib.decodeGo s).2]) ∧ Below w.heap.size w w' := Any.utf8_DecodeRuneInString Tryz.lays197 s w hT
def Tryz.lays196_ren : Go.Shelf.Ren := ⟨fun | 196 => 41 | 259 => 65 | n => n, fun | 9 => 9 | 4 => 4 | 3 => 3 | 5 => 5 | 12 => 12 | 119 => 133 | 0 => 0 | 46 => 137 | 139 => 136 | 138 => 135 | 53 => 163 | n => n, fun | 3 => 0 | 4 => 1 | n => n⟩
theorem Tryz.lays196 : Go.Proofs.Lays.n196 Tryz.prog Tryz.lays196_ren := {
  mixed := by kernel_rfl
  f196 := Tryz.func41.trans (congrArg some (by kernel_rfl))
  f259 := Tryz.func65.trans (congrArg some (by kernel_rfl))
  t0 := Tryz.underlying0
  a0 := Tryz.isAgg0
  z0 := Tryz.sizeOf0
  v0 := Tryz.zeroValue0
  t3 := Tryz.underlying3
  a3 := Tryz.isAgg3
  z3 := Tryz.sizeOf3
  v3 := Tryz.zeroValue3
  t4 := Tryz.underlying4
  a4 := Tryz.isAgg4
  z4 := Tryz.sizeOf4
  v4 := Tryz.zeroValue4
  t5 := Tryz.underlying5
  a5 := Tryz.isAgg5
  z5 := Tryz.sizeOf5
  v5 := Tryz.zeroValue5
  t9 := Tryz.underlying9
  a9 := Tryz.isAgg9
  z9 := Tryz.sizeOf9
  v9 := Tryz.zeroValue9
  t12 := Tryz.underlying12
  a12 := Tryz.isAgg12
  z12 := Tryz.sizeOf12
  v12 := Tryz.zeroValue12
  t46 := Tryz.underlying137
  a46 := Tryz.isAgg137
  z46 := Tryz.sizeOf137
  v46 := Tryz.zeroValue137
  t53 := Tryz.underlying163
  a53 := Tryz.isAgg163
  z53 := Tryz.sizeOf163
  v53 := Tryz.zeroValue163
  t119 := Tryz.underlying133
  a119 := Tryz.isAgg133
  z119 := Tryz.sizeOf133
  t138 := Tryz.underlying135
  a138 := Tryz.isAgg135
  z138 := Tryz.sizeOf135
  v138 := Tryz.zeroValue135
  t139 := Tryz.underlying136
  a139 := Tryz.isAgg136
  z139 := Tryz.sizeOf136
  v139 := Tryz.zeroValue136
  g3 := by kernel_rfl
  g4 := by kernel_rfl }
open Go.RowKit Go.Lib in
theorem Tryz.utf8_ValidString (s : ByteArray) (w : World) (hs : s.size ≤ 9223372036854775807) (hT : Lib.Utf8Tabs 0 1 w) :
    Calls Tryz.prog 41 #[.string s] w fun e w' => e = .returned (.bool (Lib.validD s.data.toList)) ∧ Below w.heap.size w w' := Any.utf8_ValidString Tryz.lays196 s w hs hT
end Go.Proofs

/- The arguments of the laws on ways, opened: steps and bytes; the variables that they read. -/
namespace Go.Proofs.YtnhjakdmbfadlaaGreatDoor
open Go.ChangeShapes Go.WideShapes Go.ChangeAt Go.RowKit Go.Deep
open Mem Wy

theorem row_own : ownKnob Tryz.prog.godebug = none := by kernel_rfl
theorem row_laidOut : laidOutB Tryz.prog = true := by kernel_rfl
def laidL : List (String × DataW Unit) := Rows.waysWrongRow.laid
theorem laid_u8 : U8Extra Tryz.prog Tryz.lays260_ren := ⟨by kernel_rfl, by kernel_rfl, by kernel_rfl, by kernel_rfl, by kernel_rfl, by kernel_rfl, by kernel_rfl⟩
theorem first_eq : Rows.laid_unicode_utf8_first = Lib.firstData := by kernel_rfl
theorem accept_eq : Rows.laid_unicode_utf8_acceptRanges = Lib.acceptData := by kernel_rfl
noncomputable def fsSp : Array Field := match Tryz.prog.underlying 57 with
  | some (.struct fs) => fs
  | _ => #[]
theorem heSp : Tryz.prog.underlying 57 = some (.struct fsSp) := by kernel_rfl
theorem laid_tabs {W : World} (h : laidMetH Tryz.prog laidL W) : Lib.Utf8Tabs 0 1 W ∧ NoneAt W := by
  rw [MakeChecks.laidMetH_plain _ _ _ (by kernel_rfl)] at h
  have r1 := Lib.laidMet.reads h (n := "unicode/utf8.acceptRanges") (d := Rows.laid_unicode_utf8_acceptRanges) (.head _)
  have r2 := Lib.laidMet.reads h (n := "gauger/ways.none") (d := Rows.laid_gauger_ways_none) (.tail _ (.head _))
  have r3 := Lib.laidMet.reads h (n := "unicode/utf8.first") (d := Rows.laid_unicode_utf8_first) (.tail _ (.tail _ (.head _)))
  rw [accept_eq] at r1
  have r3' : Lib.VarReads Tryz.prog W "unicode/utf8.first" Lib.firstData := by
    rwa [first_eq] at r3
  refine ⟨utf8Tabs_of_reads Tryz.lays260 laid_u8 r3' r1, ?_⟩
  obtain ⟨g, t, cs, fuel, p, hg, hty, hvar, hd⟩ := r2
  obtain rfl := Option.some.inj ((show Tryz.prog.globalNamed "gauger/ways.none" = some 2 by kernel_rfl).symm.trans hg)
  obtain rfl := Option.some.inj ((show (Tryz.prog.globals[2]?).map (·.type) = some 57 by kernel_rfl).symm.trans hty)
  have hcs : cs.toList = [(-1 : Int), (-1 : Int)].map fun z => Value.int .i64 z := Lib.ints_of_struct (k := .i64) (zs := [-1, -1]) heSp (by
    intro i f hf
    have hs : fsSp.size = 2 := by kernel_rfl
    have hi : i < 2 := by
      by_cases h : i < fsSp.size
      · omega
      · rw [Array.getElem?_eq_none (by omega)] at hf; cases hf
    have key : ∀ j, j < 2 → (fsSp[j]?).map (fun f => (f.type, f.offset)) = some (3, j) := by
      intro j hj
      rcases (show j = 0 ∨ j = 1 by omega) with rfl | rfl
      · kernel_rfl
      · kernel_rfl
    have k := key i hi
    rw [hf] at k
    simp only [Option.map_some, Option.some.injEq, Prod.mk.injEq] at k
    rw [k.1]
    exact ⟨by kernel_rfl, k.2, by kernel_rfl⟩) (by kernel_rfl) hd
  have h0 := World.var?_cell hg hvar 0
  have h1 := World.var?_cell hg hvar 1
  rw [← Array.getElem?_toList, hcs] at h0 h1
  refine ⟨?_, h0, h1⟩
  by_cases hz : 2 < W.heap.size
  · exact hz
  · unfold World.cell? at h0
    rw [Array.getElem?_eq_none (by simpa using hz)] at h0
    simp at h0
theorem list_of {α : Type} {n : Nat} {P : Nat → α → Prop} (h : ∀ i, i < n → ∃ s, P i s) : ∃ S : List α, S.length = n ∧ ∀ (i : Nat) (hi : i < S.length), P i S[i] := by
  induction n with
  | zero => exact ⟨[], rfl, fun i hi => absurd hi (by simp)⟩
  | succ n ih =>
    obtain ⟨S, hl, hS⟩ := ih fun i hi => h i (by omega)
    obtain ⟨s, hs⟩ := h n (by omega)
    refine ⟨S ++ [s], by simp [hl], fun i hi => ?_⟩
    by_cases e : i < S.length
    · rw [List.getElem_append_left e]; exact hS i e
    · have e2 : i = n := by simp at hi; omega
      subst e2
      rw [List.getElem_append_right (by omega)]
      simpa [hl] using hs
noncomputable def fsSm : Array Field := match Tryz.prog.underlying 92 with
  | some (.struct fs) => fs
  | _ => #[]
theorem heSm : Tryz.prog.underlying 92 = some (.struct fsSm) := by kernel_rfl
theorem cellsSm : Tryz.prog.cellsOf 92 = 3 := by kernel_rfl
theorem cells8 : Tryz.prog.cellsOf 5 = 1 := by kernel_rfl
theorem underSm : Tryz.prog.underlying 22 = some (.slice 92) := by kernel_rfl
theorem underB : Tryz.prog.underlying 33 = some (.slice 5) := by kernel_rfl
theorem fldSm (j : Nat) (t : TypeId) (o : Nat) (h : fsSm[j]?.map (fun f => (f.type, f.offset)) = some (t, o)) : ∃ f, fsSm[j]? = some f ∧ f.type = t ∧ f.offset = o := by
  cases e : fsSm[j]? with
  | none => rw [e] at h; cases h
  | some f => rw [e] at h; simp at h; exact ⟨f, rfl, h.1, h.2⟩
theorem u8_of {z : Int} (h : (Lit.int .u8 z).wf = true) : ∃ n : Nat, z = n ∧ n < 256 := by
  have := bounds_u8 h
  exact ⟨z.toNat, by omega, by omega⟩
set_option maxRecDepth 100000 in
theorem small_one {H : Type} {enc : TypeId × Value → H} {W : World} {n : Nat} {cs : List Value} {x : DataW H × List MemPlace} (h : DataW.trod enc Tryz.prog W 0 (fun _ => true) true n 92 cs = some x) :
    ∃ s : Sm, (s.kind < 256 ∧ s.a < 256 ∧ s.b < 256) ∧ cs = smCs s := by
  obtain ⟨xs, k, -, -, hl, hx, hf⟩ := DataW.trod_struct heSm h
  rw [cellsSm] at hl
  match cs, hl with
  | [c0, c1, c2], _ =>
    obtain ⟨f0, e0, t0, o0⟩ := fldSm 0 5 0 (by kernel_rfl)
    obtain ⟨f1, e1, t1, o1⟩ := fldSm 1 5 1 (by kernel_rfl)
    obtain ⟨f2, e2, t2, o2⟩ := fldSm 2 5 2 (by kernel_rfl)
    have hs : fsSm.size = 3 := by kernel_rfl
    have g0 := hf 0 f0 e0
    have g1 := hf 1 f1 e1
    have g2 := hf 2 f2 e2
    rw [t0, o0, cells8, List.getElem?_eq_getElem (by omega)] at g0
    rw [t1, o1, cells8, List.getElem?_eq_getElem (by omega)] at g1
    rw [t2, o2, cells8, List.getElem?_eq_getElem (by omega)] at g2
    obtain ⟨z0, a0, -, w0⟩ := DataW.trod_int (k := .u8) (by kernel_rfl) g0
    obtain ⟨z1, a1, -, w1⟩ := DataW.trod_int (k := .u8) (by kernel_rfl) g1
    obtain ⟨z2, a2, -, w2⟩ := DataW.trod_int (k := .u8) (by kernel_rfl) g2
    simp at a0 a1 a2
    subst a0 a1 a2
    obtain ⟨n0, rfl, b0⟩ := u8_of w0
    obtain ⟨n1, rfl, b1⟩ := u8_of w1
    obtain ⟨n2, rfl, b2⟩ := u8_of w2
    exact ⟨⟨n0, n1, n2⟩, ⟨b0, b1, b2⟩, rfl⟩
set_option maxRecDepth 100000 in
theorem smalls_any {H : Type} {enc : TypeId × Value → H} {W : World} {a : Option Addr} {len cap : Nat} {d : DataW H} {p : List MemPlace} (h : DataW.Trod enc Tryz.prog W 0 (fun _ => true) true 22 (.slice a len cap) d p) : ∃ L, SmsAt (fun _ => True) W (.slice a len cap) L ∧ L.length ≤ 9223372036854775807 := by
  obtain ⟨fuel, hf⟩ := h
  rcases open_slice underSm hf with ⟨hcs, -⟩ | ⟨x, l, c, m, n, D, Pl, hcs, hb, hl, hm, hmm, hx, hi⟩
  · simp [Value.cells] at hcs
    obtain ⟨rfl, rfl, rfl⟩ := hcs
    exact ⟨[], ⟨⟨rfl, .inl ⟨rfl, _, _, rfl⟩⟩, fun x hx => by cases hx⟩, by simp⟩
  · simp [Value.cells] at hcs
    obtain ⟨rfl, rfl, rfl⟩ := hcs
    rw [cellsSm] at hi
    simp at hmm
    have hmx : len ≤ 9223372036854775807 := by unfold maxLen at hm; omega
    obtain ⟨S, hS, hP⟩ := list_of (α := Sm) (n := len) (P := fun (i : Nat) (s : Sm) => (s.kind < 256 ∧ s.a < 256 ∧ s.b < 256) ∧ ∀ j, j < 3 → W.cell? ((x.add (i * 3)).add j) = (smCs s)[j]?) (fun i hil => by
      obtain ⟨cs', hc, ht⟩ := hi i (by omega)
      obtain ⟨s, hu, e⟩ := small_one ht
      obtain ⟨-, -, hat⟩ := World.cells?_some hc
      refine ⟨s, hu, fun j hj => ?_⟩
      have := hat j hj
      rw [this, e])
    subst hS
    refine ⟨S, ⟨⟨flat_len (f := smCs) (n := 3) (fun _ => rfl) _, ?_⟩, fun s hs => ?_⟩, hmx⟩
    · by_cases h0 : S.length = 0
      · exact .inl ⟨h0, _, _, by rw [h0]⟩
      · obtain ⟨b, off, spot⟩ := x
        have h00 := (hP 0 (by omega)).2 0 (by omega)
        have hspot : spot = none := by simpa [Addr.add] using World.cell?_spot h00
        subst hspot
        refine .inr ⟨b, off, _, rfl, hl, hm, trivial, ?_, fun j hj => ?_⟩
        · rcases Nat.lt_or_ge b W.heap.size with h | h
          · exact h
          · exfalso
            simp only [Nat.zero_mul, add_add, Nat.add_zero] at h00
            unfold World.cell? at h00
            rw [show (({ block := b, off := off } : Addr).add 0).block = b by rfl, Array.getElem?_eq_none h] at h00
            simp [smCs] at h00
        · rw [flat_len (f := smCs) (n := 3) (fun _ => rfl)] at hj
          have hq : j / 3 < S.length := by omega
          have e := flat_at (f := smCs) (n := 3) (fun _ => rfl) S (j / 3) (j % 3) hq (by omega)
          rw [show j / 3 * 3 + j % 3 = j by omega] at e
          rw [e, ← (hP (j / 3) hq).2 (j % 3) (by omega), add_add, show j / 3 * 3 + j % 3 = j by omega]
          unfold Addr.add
          by_cases hj0 : j = 0
          · subst hj0; simp
          · simp [hj0]
    · obtain ⟨i, hi', rfl⟩ := List.getElem_of_mem hs
      exact (hP i hi').1
set_option maxRecDepth 100000 in
theorem bytes_any {H : Type} {enc : TypeId × Value → H} {W : World} {a : Option Addr} {len cap : Nat} {d : DataW H} {p : List MemPlace} (h : DataW.Trod enc Tryz.prog W 0 (fun _ => true) true 33 (.slice a len cap) d p) : ∃ L, U8At (fun _ => True) W (.slice a len cap) L ∧ L.length ≤ 9223372036854775807 := by
  obtain ⟨fuel, hf⟩ := h
  rcases open_slice underB hf with ⟨hcs, -⟩ | ⟨x, l, c, m, n, D, Pl, hcs, hb, hl, hm, hmm, hx, hi⟩
  · simp [Value.cells] at hcs
    obtain ⟨rfl, rfl, rfl⟩ := hcs
    exact ⟨[], ⟨⟨rfl, .inl ⟨rfl, _, _, rfl⟩⟩, fun x hx => by cases hx⟩, by simp⟩
  · simp [Value.cells] at hcs
    obtain ⟨rfl, rfl, rfl⟩ := hcs
    rw [cells8] at hi
    simp at hmm
    have hmx : len ≤ 9223372036854775807 := by unfold maxLen at hm; omega
    obtain ⟨S, hS, hP⟩ := list_of (α := Nat) (n := len) (P := fun (i : Nat) (s : Nat) => s < 256 ∧ W.cell? (x.add i) = some (.int .u8 s)) (fun i hil => by
      obtain ⟨cs', hc, ht⟩ := hi i (by omega)
      obtain ⟨z, a0, -, w0⟩ := DataW.trod_int (k := .u8) (by kernel_rfl) ht
      obtain ⟨n0, rfl, b0⟩ := u8_of w0
      obtain ⟨-, -, hat⟩ := World.cells?_some hc
      have h0 := hat 0 (by omega)
      subst a0
      refine ⟨n0, b0, ?_⟩
      rw [add_add, Nat.mul_one, Nat.add_zero] at h0
      exact h0)
    subst hS
    refine ⟨S, ⟨⟨by simp [u8Cs], ?_⟩, fun s hs => ?_⟩, hmx⟩
    · by_cases h0 : S.length = 0
      · exact .inl ⟨h0, _, _, by rw [h0]⟩
      · obtain ⟨b, off, spot⟩ := x
        have h00 := (hP 0 (by omega)).2
        have hspot : spot = none := by simpa [Addr.add] using World.cell?_spot h00
        subst hspot
        refine .inr ⟨b, off, _, rfl, hl, hm, trivial, ?_, fun j hj => ?_⟩
        · rcases Nat.lt_or_ge b W.heap.size with h | h
          · exact h
          · exfalso
            unfold World.cell? at h00
            rw [show (({ block := b, off := off } : Addr).add 0).block = b by rfl, Array.getElem?_eq_none h] at h00
            simp at h00
        · have hj' : j < S.length := by simpa [u8Cs] using hj
          have e := (hP j hj').2
          have e2 : (u8Cs S)[j]? = some (.int .u8 (S[j] : Nat)) := by simp [u8Cs, hj']
          rw [e2, ← e]
          unfold Addr.add
          by_cases hj0 : j = 0
          · subst hj0; simp
          · simp [hj0]
    · obtain ⟨i, hi', rfl⟩ := List.getElem_of_mem hs
      exact (hP i hi').1
end Go.Proofs.YtnhjakdmbfadlaaGreatDoor

/- slices.Repeat at one span. -/
namespace Go.Proofs.YtnhjakdmbfadlaaGreatDoor
open Go.RowKit Wy Mem Grow

theorem run_copy_rowN {P : Program} (w : World) (dT sT ty elem : TypeId) (g o dLen dCap sz : Nat) (a : Addr) (sLen sCap : Nat) (cur : Array Value) (t : TypeId) (cs : List Value)
    (hu : P.underlying dT = some (.slice elem)) (hs : (P.info? elem).map (·.size) = some sz)
    (hg : w.heap[g]? = some (.cells cur t (0, 0))) (hn : cs.length = Nat.min sLen dLen * sz)
    (hsrc : ∀ j v, cs[j]? = some v → w.cell? (a.add j) = some v) (hfit : o + cs.length ≤ cur.size) (h1 : ∀ v ∈ cs, v.oneCell' = true) :
    (Builtin.copy_ #[dT, sT] ty #[.slice (some ⟨g, o, none⟩) dLen dCap, .slice (some a) sLen sCap]).run P w =
      .ok (goInt (Nat.min sLen dLen)) (w.setRow g (cur.toList.take o ++ cs ++ cur.toList.drop (o + cs.length)).toArray) := by
  have hl := run_loadCells_list (P := P) w a cs hsrc
  have hst := run_storeCells_at P g o t cs 0 cur w hg (by simpa using hfit) h1
  cases hq : P.info? elem with
  | none => simp [hq] at hs
  | some i =>
    have hi : i.size = sz := by simpa [hq] using hs
    simp [Builtin.copy_, run_underlying hu, Builtin.lenOf, Builtin.firstCells, sizeOf, typeInfo, hq, hi, ← hn, hl, hst]

theorem flat_none : ∀ k : Nat, (List.replicate k ((-1 : Int), (-1 : Int))).flatMap spCs = List.replicate (k * 2) (Value.int .i64 (-1))
  | 0 => rfl
  | k + 1 => by
    rw [List.replicate_succ, List.flatMap_cons, flat_none k, show (k + 1) * 2 = k * 2 + 1 + 1 by omega, List.replicate_succ, List.replicate_succ]
    rfl
def Rpt (G : Nat) (w : World) (e : Ending) (w' : World) : Prop := ∃ v', e = .returned v' ∧ w'.ownsRow w.heap.size 57 2 v' G ((List.replicate G (-1, -1)).flatMap spCs) ∧ Below w.heap.size w w'
set_option maxHeartbeats 4000000 in
set_option maxRecDepth 100000 in
theorem repeat_any {w : World} {b c : Nat} (hb : b < w.heap.size) (h0 : w.cell? ⟨b, 0, none⟩ = some (.int .i64 (-1))) (h1 : w.cell? ⟨b, 1, none⟩ = some (.int .i64 (-1))) (G : Nat) (hG : G ≤ 64) :
    Calls Tryz.prog 88 #[.slice (some ⟨b, 0, none⟩) 1 c, .int .i64 G] w (Rpt G w) := by
  have hm := Tryz.bits_Mul 1 G (by omega) (by omega) w
  have e1 : 1 * G / 18446744073709551616 = 0 := by omega
  have e2 : 1 * G % 18446744073709551616 = G := by omega
  rw [e1, e2] at hm
  have HM := Lib.hid hm
  obtain ⟨i0, hi, hz0, hz1, hz2⟩ := info_parts info45
  have hmk := fun w => run_make (P := Tryz.prog) w 41 57 i0 _ Tryz.underlying41 hi hz0 .i64 .i64 (G : Int) (G : Int) (by omega) (by omega) (by rw [hz2]; omega) (by omega)
  rw [hz1] at hmk
  simp only [Int.toNat_natCast] at hmk
  have hGi : (G : Int) ≤ 64 := by omega
  have hG0 : (0 : Int) ≤ (G : Int) := by omega
  clear hm e1 e2
  go_enter Tryz.func88, Tryz.ntmps88
  go_wp2_with fail
  refine HM.out.mono ?_
  rintro e w1 ⟨rfl, rfl⟩
  by_cases hG1 : 0 < G
  · have hcur : (w1.alloc (.cells (madeCells #[.int .i64 0, .int .i64 0] (G * 2)) 57)).heap[w1.heap.size]? = some (.cells (madeCells #[.int .i64 0, .int .i64 0] (G * 2)) 57 (0, 0)) := heap_alloc_new w1 _
    obtain ⟨W5, hcp, cur, c1, c2, c3, c4, c5⟩ : ∃ W5, (∀ ty, (Builtin.copy_ #[41, 41] ty #[.slice (some ⟨w1.heap.size, 0, none⟩) G G, .slice (some ⟨b, 0, none⟩) 1 c]).run Tryz.prog (w1.alloc (.cells (madeCells #[.int .i64 0, .int .i64 0] (G * 2)) 57)) = .ok (.int .i64 1) W5) ∧
        ∃ cur : Array Value, W5.heap[w1.heap.size]? = some (.cells cur 57 (0, 0)) ∧ cur.size = G * 2 ∧ cur.toList.take (1 * 2) = List.replicate (1 * 2) (.int .i64 (-1)) ∧ Below w1.heap.size w1 W5 ∧ W5.heap.size = w1.heap.size + 1 := by
      have hb0 : Below w1.heap.size w1 (w1.alloc (.cells (madeCells #[.int .i64 0, .int .i64 0] (G * 2)) 57)) := (Below.refl _ _).alloc (Nat.le_refl _) _
      refine ⟨_, fun ty => (run_copy_rowN (P := Tryz.prog) _ _ _ ty 57 w1.heap.size 0 G G 2 ⟨b, 0, none⟩ 1 c _ 57 [.int .i64 (-1), .int .i64 (-1)] Tryz.underlying41 (by rw [hi]; simp [hz1]) hcur (by rw [show Nat.min 1 G = 1 from Nat.min_eq_left (by omega)]; rfl) ?_ ?_ ?_).trans (by rw [show Nat.min 1 G = 1 from Nat.min_eq_left (by omega)]; rfl), _, setRow_heap _ _ _ _ 57 _ hcur, ?_, ?_, ?_, ?_⟩
      · intro j v hv
        match j with
        | 0 => simp at hv; subst hv; simpa [Addr.add] using (hb0.cell (p := ⟨b, 0, none⟩) hb).trans h0
        | 1 => simp at hv; subst hv; simpa [Addr.add] using (hb0.cell (p := ⟨b, 1, none⟩) hb).trans h1
        | j + 2 => simp at hv
      · rw [size_madeCells]; simp; omega
      · simp [Value.oneCell']
      · simp [size_madeCells]; omega
      · simp
      · exact ⟨hb0.os, hb0.tape, hb0.output, by simp, fun k hk => by rw [setRow_other _ _ _ _ (by omega)]; exact hb0.block k hk⟩
      · simp
    have HC1 := Lib.hid c1
    have HC2 := Lib.hid c2
    have HC3 := Lib.hid c3
    have HC4 := Lib.hid c4
    have HC5 := Lib.hid c5
    clear c1 c2 c3 c4 c5 hcur
    go_wp2_with fail
    go_loopw [8] (fun i wr => ∃ k : Nat, 1 ≤ k ∧ k ≤ G ∧ i = .int .i64 k ∧ (∃ cur : Array Value, wr.heap[w1.heap.size]? = some (.cells cur 57 (0, 0)) ∧ cur.size = G * 2 ∧ cur.toList.take (k * 2) = List.replicate (k * 2) (.int .i64 (-1))) ∧ Kept (fun i => i = w1.heap.size) W5 wr) (fun i _ => G - (intOf i).toNat)
    case atStart => exact ⟨1, by omega, by omega, rfl, ⟨cur, HC1.out, HC2.out, HC3.out⟩, Kept.refl _ _⟩
    case round =>
      obtain ⟨k, hk1, hkG, rfl, ⟨cur, c1, c2, c3⟩, hkr⟩ := hrel
      by_cases hlt : k < G
      · have hltI : (k : Int) < G := by omega
        go_wp2_with fail
        obtain ⟨m, hm⟩ : ∃ m, Nat.min k (G - k) = m := ⟨_, rfl⟩
        have hm1 : 1 ≤ m ∧ m ≤ k ∧ k + m ≤ G := by
          have hm' : m = min k (G - k) := hm.symm
          exact ⟨by omega, by omega, by omega⟩
        obtain ⟨hma, hmb, hmc⟩ := hm1
        have hmI : (m : Int) ≤ 64 := by omega
        have hmJ : (0 : Int) ≤ (m : Int) := by omega
        have HM2 := Lib.hid hm
        have hcp2 : ∀ W1, Below wr.heap.size wr W1 → ∃ W6, (∀ ty, (Builtin.copy_ #[41, 41] ty #[.slice (some ⟨w1.heap.size, k * 2, none⟩) (G - k) (G - k), .slice (some ⟨w1.heap.size, 0, none⟩) k G]).run Tryz.prog W1 = .ok (.int .i64 m) W6) ∧
            (∃ cur : Array Value, W6.heap[w1.heap.size]? = some (.cells cur 57 (0, 0)) ∧ cur.size = G * 2 ∧ cur.toList.take ((k + m) * 2) = List.replicate ((k + m) * 2) (.int .i64 (-1))) ∧ Kept (fun i => i = w1.heap.size) wr W6 := by
          intro W1 hW
          have hgz : w1.heap.size < wr.heap.size := (Array.getElem?_eq_some_iff.1 c1).1
          have hcur : W1.heap[w1.heap.size]? = some (.cells cur 57 (0, 0)) := (hW.block _ hgz).trans c1
          have hlen : (List.replicate (m * 2) (Value.int .i64 (-1))).length = m * 2 := List.length_replicate ..
          have hk2 : k * 2 ≤ cur.toList.length := by rw [Array.length_toList, c2]; omega
          have hcl : cur.toList.length = G * 2 := by rw [Array.length_toList, c2]
          refine ⟨_, fun ty => (run_copy_rowN (P := Tryz.prog) W1 _ _ ty 57 w1.heap.size (k * 2) (G - k) (G - k) 2 ⟨w1.heap.size, 0, none⟩ k G cur 57 (List.replicate (m * 2) (.int .i64 (-1))) Tryz.underlying41 (by rw [hi]; simp [hz1]) hcur (by rw [hm, hlen]) ?_ (by rw [hlen, c2]; omega) (by intro u hu; rw [List.eq_of_mem_replicate hu]; rfl)).trans (by rw [hm]; rfl), ⟨_, setRow_heap _ _ _ _ 57 _ hcur, ?_, ?_⟩, ?_⟩
          · intro j v hv
            have hj : j < m * 2 := by
              by_cases e : j < m * 2
              · exact e
              · rw [List.getElem?_eq_none (by rw [hlen]; omega)] at hv; cases hv
            rw [List.getElem?_replicate_of_lt hj] at hv
            cases hv
            have e1 : cur.toList[j]? = some (.int .i64 (-1)) := by
              have : (cur.toList.take (k * 2))[j]? = some (.int .i64 (-1)) := by rw [c3, List.getElem?_replicate_of_lt (by omega)]
              rwa [List.getElem?_take_of_lt (by omega)] at this
            have e2 : W1.cell? ⟨w1.heap.size, j, none⟩ = some (.int .i64 (-1)) := by
              simp only [World.cell?, hcur]
              simpa using e1
            by_cases e : j = 0
            · subst e; simpa [Addr.add] using e2
            · simpa [Addr.add, e] using e2
          · simp [hcl]; omega
          · have e3 : (cur.toList.take (k * 2)).length = k * 2 := by rw [List.length_take]; omega
            rw [List.append_assoc, List.take_append, e3, c3, List.take_append, hlen]
            rw [List.take_of_length_le (by rw [List.length_replicate]; omega), List.take_of_length_le (by rw [hlen]; omega)]
            rw [show (k + m) * 2 - k * 2 - m * 2 = 0 by omega, List.take_zero, List.append_nil, List.replicate_append_replicate]
            congr 1
            omega
          · exact ⟨hW.os, hW.tape, hW.output, by simp; exact hW.size, fun i hi hne => by rw [setRow_other _ _ _ _ hne]; exact hW.block i hi⟩
        have HCP := Lib.hid hcp2
        have hgk : ((G : Int) - (k : Int)).toNat = G - k := by omega
        have hkle : (k : Int) ≤ (G : Int) := by omega
        clear hcp2 hm
        obtain ⟨W6, hrun, hpost⟩ := HCP.out wr.drew (Below.refl _ _).drew
        have HPOST := Lib.hid hpost
        clear hpost
        go_region
        go_wp2
        exact ⟨⟨k + m, by omega, by omega, by go_num, HPOST.out.1, hkr.trans HPOST.out.2⟩, by simp [intOf]; omega⟩
      · obtain rfl : k = G := by omega
        have hrow : wr.ownsRow w1.heap.size 57 2 (.slice (some ⟨w1.heap.size, 0, none⟩) k k) k ((List.replicate k (-1, -1)).flatMap spCs) := by
          rw [flat_none]
          exact ⟨by simp, .inr ⟨w1.heap.size, k, cur, rfl, Nat.le_refl _, c1, Nat.le_refl _, by unfold maxLen; omega, c2, c3⟩⟩
        have HROW := Lib.hid hrow
        have hbl := (HC4.out.trans (hkr.belowOf (by have := HC5.out; omega) (fun i hi e => by omega)))
        clear hrow c1 c2 c3
        go_wp2
        go_ret
        exact ⟨_, rfl, HROW.out, hbl⟩
  · obtain rfl : G = 0 := by omega
    have hmk0 : ∀ w, (Instr.makeSlice 41 (.int .i64 0) (.int .i64 0)).run Tryz.prog w = .ok (.slice (some ⟨w.heap.size, 0, none⟩) 0 0) (w.alloc (.cells (madeCells #[.int .i64 0, .int .i64 0] 0) 57)) := hmk
    have hcur : (w1.alloc (.cells (madeCells #[.int .i64 0, .int .i64 0] 0) 57)).heap[w1.heap.size]? = some (.cells (madeCells #[.int .i64 0, .int .i64 0] 0) 57 (0, 0)) := heap_alloc_new w1 _
    obtain ⟨W5, hcp, cur, c1, c2, c4⟩ : ∃ W5, (∀ ty, (Builtin.copy_ #[41, 41] ty #[.slice (some ⟨w1.heap.size, 0, none⟩) 0 0, .slice (some ⟨b, 0, none⟩) 1 c]).run Tryz.prog (w1.alloc (.cells (madeCells #[.int .i64 0, .int .i64 0] 0) 57)) = .ok (.int .i64 0) W5) ∧
        ∃ cur : Array Value, W5.heap[w1.heap.size]? = some (.cells cur 57 (0, 0)) ∧ cur.size = 0 ∧ Below w1.heap.size w1 W5 := by
      have hb0 : Below w1.heap.size w1 (w1.alloc (.cells (madeCells #[.int .i64 0, .int .i64 0] 0) 57)) := (Below.refl _ _).alloc (Nat.le_refl _) _
      refine ⟨_, fun ty => (run_copy_rowN (P := Tryz.prog) _ _ _ ty 57 w1.heap.size 0 0 0 2 ⟨b, 0, none⟩ 1 c _ 57 [] Tryz.underlying41 (by rw [hi]; simp [hz1]) hcur (by simp) (by simp) (by simp) (by simp)).trans rfl, _, setRow_heap _ _ _ _ 57 _ hcur, by simp [size_madeCells], ?_⟩
      exact ⟨hb0.os, hb0.tape, hb0.output, by simp, fun k hk => by rw [setRow_other _ _ _ _ (by omega)]; exact hb0.block k hk⟩
    have hrow : W5.ownsRow w1.heap.size 57 2 (.slice (some ⟨w1.heap.size, 0, none⟩) 0 0) 0 [] := ⟨by simp, .inr ⟨w1.heap.size, 0, cur, rfl, Nat.le_refl _, c1, Nat.le_refl _, by unfold maxLen; omega, by simpa using c2, by simp⟩⟩
    have HROW := Lib.hid hrow
    have HC4 := Lib.hid c4
    clear c1 c2 c4 hrow hcur
    go_wp2_with fail
    go_rounds 1
    all_goals go_wp2
    go_ret
    exact ⟨_, rfl, HROW.out, HC4.out⟩
end Go.Proofs.YtnhjakdmbfadlaaGreatDoor
