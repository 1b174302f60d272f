/- Parts of the proof: Text, Rw. Conditions: none. -/
import Derived.Test.YtnhjakdmbfadlaaDoorS03
import Derived.Test.YtnhjakdmbfadlaaDoorS02
import Derived.Test.YtnhjakdmbfadlaaDoorS08
import Derived.Deep.DeepCutAuto
import Derived.Deep.CutRange
import Derived.Outline
import Derived.Test.YtnhjakdmbfadlaaDoorRows
import Derived.Test.YtnhjakdmbfadlaaDoorS07
import Derived.Test.YtnhjakdmbfadlaaDoorS06
import Derived.ProofKit
import Derived.Deep.Slices
import Derived.Deep.Fields
import Derived.ChangeSame
import Derived.OpenShut
import Derived.LaidMore
import Derived.Lay
import Derived.Lib.LaidU8
import Derived.Stop.Joined
set_option linter.all false
/- gaugerlaw08.Text. -/
namespace Go.Proofs.YtnhjakdmbfadlaaDoor
open Go.RowKit Wy Mem Grow

def u8Cs (l : List Nat) : List Value := l.map fun x : Nat => .int .u8 x
structure U8At (N : Nat → Prop) (w : World) (v : Value) (L : List Nat) : Prop where
  row : Row N w v L.length 1 (u8Cs L)
  ok : ∀ x ∈ L, x < 256
theorem U8At.below {N : Nat → Prop} {w w' : World} {v : Value} {L : List Nat} (h : U8At N w v L) (k : Below w.heap.size w w') : U8At N w' v L :=
  ⟨h.row.kept (Kept.of_below k (fun _ => False)) (fun _ _ _ => id), h.ok⟩
theorem U8At.at_ {N : Nat → Prop} {w : World} {v : Value} {L : List Nat} (h : U8At N w v L) (hne : 0 < L.length) :
    ∃ b off cap : Nat, v = .slice (some ⟨b, off, none⟩) L.length cap ∧ L.length ≤ cap ∧ b < w.heap.size ∧ ∀ i (hi : i < L.length), w.cell? ⟨b, off + i, none⟩ = some (.int .u8 L[i]) := by
  rcases h.row.at_ with ⟨h0, _⟩ | ⟨b, off, cap, rfl, k1, k2, k3, k4, k5⟩
  · omega
  · refine ⟨b, off, cap, rfl, k1, k4, fun i hi => ?_⟩
    rw [k5 i (by simpa [u8Cs] using hi)]
    simp [u8Cs, hi]
def strB (l : List UInt8) : ByteArray := ⟨l.toArray⟩
theorem strB_app (a b : List UInt8) : strB a ++ strB b = strB (a ++ b) := by
  unfold strB
  apply ByteArray.ext
  simp
theorem strB_size (a : List UInt8) : (strB a).size = a.length := by simp [strB, ByteArray.size]
theorem textL_snoc (l : List Nat) (b : Nat) : textL (l ++ [b]) = textL l ++ symL b := by simp [textL]
set_option maxHeartbeats 4000000 in
set_option maxRecDepth 100000 in
theorem text_any {N : Nat → Prop} {w : World} {v : Value} {L : List Nat} {m : Nat} (h : U8At N w v L) (hm : m ≤ 8) (hL : L.length ≤ 9223372036854775807) : Calls Tryd.prog 8 #[v, .int .i64 m] w fun e w' => e = .returned (.string (strB (textL (L.take m)))) ∧ Below w.heap.size w w' := by
  obtain ⟨o, c, rfl⟩ := h.row.slice
  have hcap : L.length ≤ c := by
    rcases h.row.at_ with ⟨h0, _⟩ | ⟨b, off, cap, he, h1, _⟩
    · omega
    · simp only [Value.slice.injEq, true_and] at he
      omega
  have H := Lib.hid h
  obtain ⟨n, hn⟩ : ∃ n, n = min L.length m := ⟨_, rfl⟩
  have HN := Lib.hid hn
  clear h hn
  go_enter Tryd.func8, Tryd.ntmps8
  go_upto_region 2 with fail
  go_cut [8, 9, 10, 11, 12, 13, 14, 15] (fun _ _ _ _ _ s13 s14 s15 wx => s13 = .slice o n c ∧ s14 = .int .i64 n ∧ s15 = .int .i64 0 ∧ wx = w)
  case first =>
    have hn := HN.out
    by_cases h20 : L.length ≤ m
    · obtain rfl : n = L.length := by omega
      have e20 : (L.length : Int) ≤ m := by omega
      clear hn
      go_wp2_with fail
      go_meet
      exact ⟨by first | rfl | (congr 1 <;> omega), by first | rfl | (congr 1 <;> omega), by first | rfl | (congr 1 <;> omega), rfl⟩
    · obtain rfl : n = m := by omega
      have e20 : (n : Int) < L.length := by omega
      clear hn
      go_wp2_with fail
      go_meet
      exact ⟨by first | rfl | (congr 1 <;> omega), by first | rfl | (congr 1 <;> omega), by first | rfl | (congr 1 <;> omega), rfl⟩
  case rest =>
    obtain ⟨rfl, rfl, rfl, rfl⟩ := hcut
    rename World => w
    have hnl : n ≤ L.length := by have := HN.out; omega
    have hn8 : n ≤ 8 := by have := HN.out; omega
    have htk : L.take m = L.take n := by
      have := HN.out
      by_cases h : L.length ≤ m
      · rw [List.take_of_length_le h, List.take_of_length_le (by omega)]
      · rw [show n = m by omega]
    have HTK := Lib.hid htk
    clear htk
    go_wp2_with fail
    go_loopw [5, 15] (fun s5 s15 wx => ∃ j : Nat, j ≤ n ∧ s15 = .int .i64 j ∧ s5 = .string (strB (textL (L.take j))) ∧ Below w.heap.size w wx) (fun _ s15 _ => n - (intOf s15).toNat)
    case atStart => exact ⟨0, by omega, rfl, rfl, Below.refl _ _⟩
    case round =>
      rename World => Wa
      obtain ⟨j, hj, rfl, rfl, hbw⟩ := hrel
      have HBW := Lib.hid hbw
      by_cases hjn : j < n
      · have hjL : j < L.length := by omega
        obtain ⟨b, off, cap, hve, hc1, hbz, hcell⟩ := H.out.at_ (by omega)
        simp only [Value.slice.injEq, true_and] at hve
        obtain ⟨rfl, rfl⟩ := hve
        obtain ⟨x, hx⟩ : ∃ x, x = L[j] := ⟨_, rfl⟩
        have hx256 : x < 256 := by rw [hx]; exact H.out.ok _ (List.getElem_mem hjL)
        have y0 : Wa.cell? ⟨b, off + j, none⟩ = some (.int .u8 x) := by rw [hx]; exact (hbw.cell (p := ⟨b, off + j, none⟩) hbz).trans (hcell j hjL)
        have hbza : b < Wa.heap.size := by have := hbw.size; omega
        have hjI : (j : Int) < n := by omega
        have hcI : (n : Int) ≤ c := by omega
        have hstep : textL (L.take (j + 1)) = textL (L.take j) ++ symL x := by rw [List.take_succ_eq_append_getElem hjL, textL_snoc, ← hx]
        have hsz : (strB (textL (L.take j))).size ≤ 24 := by
          rw [strB_size]
          have := textL_len (L.take j)
          rw [List.length_take] at this
          omega
        have HST := Lib.hid hstep
        obtain ⟨S, hS⟩ : ∃ S, S = strB (textL (L.take j)) := ⟨_, rfl⟩
        rw [← hS] at hsz ⊢
        have HS := Lib.hid hS
        have hszI : (S.size : Int) ≤ 24 := by omega
        clear hcell hstep hS hbw hx
        have h8 : x % 8 = 0 ∨ x % 8 = 1 ∨ x % 8 = 2 ∨ x % 8 = 3 ∨ x % 8 = 4 ∨ x % 8 = 5 ∨ x % 8 = 6 ∨ x % 8 = 7 := by omega
        rcases h8 with h8 | h8 | h8 | h8 | h8 | h8 | h8 | h8
        · have e8 : (x : Int) % 8 = 0 := by omega
          go_wp2_with fail
          go_roundw
          case rel =>
            have hsym : symL x = [97] := by unfold symL; simp [h8]
            exact ⟨j + 1, by omega, by go_num, by rw [HS.out, HST.out, hsym, ← strB_app]; rfl, HBW.out.alloc HBW.out.size _⟩
          case measure => simp [intOf]; omega
        · have e8 : (x : Int) % 8 = 1 := by omega
          go_wp2_with fail
          go_roundw
          case rel =>
            have hsym : symL x = [98] := by unfold symL; simp [h8]
            exact ⟨j + 1, by omega, by go_num, by rw [HS.out, HST.out, hsym, ← strB_app]; rfl, HBW.out.alloc HBW.out.size _⟩
          case measure => simp [intOf]; omega
        · have e8 : (x : Int) % 8 = 2 := by omega
          go_wp2_with fail
          go_roundw
          case rel =>
            have hsym : symL x = [99] := by unfold symL; simp [h8]
            exact ⟨j + 1, by omega, by go_num, by rw [HS.out, HST.out, hsym, ← strB_app]; rfl, HBW.out.alloc HBW.out.size _⟩
          case measure => simp [intOf]; omega
        · have e8 : (x : Int) % 8 = 3 := by omega
          go_wp2_with fail
          go_roundw
          case rel =>
            have hsym : symL x = [100] := by unfold symL; simp [h8]
            exact ⟨j + 1, by omega, by go_num, by rw [HS.out, HST.out, hsym, ← strB_app]; rfl, HBW.out.alloc HBW.out.size _⟩
          case measure => simp [intOf]; omega
        · have e8 : (x : Int) % 8 = 4 := by omega
          go_wp2_with fail
          go_roundw
          case rel =>
            have hsym : symL x = [97] := by unfold symL; simp [h8]
            exact ⟨j + 1, by omega, by go_num, by rw [HS.out, HST.out, hsym, ← strB_app]; rfl, HBW.out.alloc HBW.out.size _⟩
          case measure => simp [intOf]; omega
        · have e8 : (x : Int) % 8 = 5 := by omega
          go_wp2_with fail
          go_roundw
          case rel =>
            have hsym : symL x = [226, 130, 172] := by unfold symL; simp [h8]
            exact ⟨j + 1, by omega, by go_num, by rw [HS.out, HST.out, hsym, ← strB_app]; rfl, HBW.out.alloc HBW.out.size _⟩
          case measure => simp [intOf]; omega
        · have e8 : (x : Int) % 8 = 6 := by omega
          go_wp2_with fail
          go_roundw
          case rel =>
            have hsym : symL x = [42] := by unfold symL; simp [h8]
            exact ⟨j + 1, by omega, by go_num, by rw [HS.out, HST.out, hsym, ← strB_app]; rfl, HBW.out.alloc HBW.out.size _⟩
          case measure => simp [intOf]; omega
        · have e8 : (x : Int) % 8 = 7 := by omega
          go_wp2_with fail
          go_roundw
          case rel =>
            have hsym : symL x = [48] := by unfold symL; simp [h8]
            exact ⟨j + 1, by omega, by go_num, by rw [HS.out, HST.out, hsym, ← strB_app]; rfl, HBW.out.alloc HBW.out.size _⟩
          case measure => simp [intOf]; omega
      · obtain rfl : j = n := by omega
        clear hbw
        go_wp2_with fail
        go_ret
        exact ⟨by rw [HTK.out]; rfl, HBW.out⟩
end Go.Proofs.YtnhjakdmbfadlaaDoor

/- The arguments of the laws on ways, opened: steps and bytes; the variables that they read. -/
namespace Go.Proofs.YtnhjakdmbfadlaaDoor
open Go.ChangeShapes Go.WideShapes Go.ChangeAt Go.RowKit Go.Deep
open Mem Wy

theorem row_own : ownKnob Tryd.prog.godebug = none := by kernel_rfl
theorem row_laidOut : laidOutB Tryd.prog = true := by kernel_rfl
def laidL : List (String × DataW Unit) := Rows.waysGroupsRow.laid
theorem laid_u8 : U8Extra Tryd.prog Tryd.lays260_ren := ⟨by kernel_rfl, by kernel_rfl, by kernel_rfl, by kernel_rfl, by kernel_rfl, by kernel_rfl, by kernel_rfl⟩
theorem first_eq : Rows.laid_unicode_utf8_first = Lib.firstData := by kernel_rfl
theorem accept_eq : Rows.laid_unicode_utf8_acceptRanges = Lib.acceptData := by kernel_rfl
noncomputable def fsSp : Array Field := match Tryd.prog.underlying 45 with
  | some (.struct fs) => fs
  | _ => #[]
theorem heSp : Tryd.prog.underlying 45 = some (.struct fsSp) := by kernel_rfl
theorem laid_tabs {W : World} (h : laidMetH Tryd.prog laidL W) : Lib.Utf8Tabs 0 1 W ∧ NoneAt W := by
  rw [MakeChecks.laidMetH_plain _ _ _ (by kernel_rfl)] at h
  have r1 := Lib.laidMet.reads h (n := "unicode/utf8.acceptRanges") (d := Rows.laid_unicode_utf8_acceptRanges) (.head _)
  have r2 := Lib.laidMet.reads h (n := "gauger/ways.none") (d := Rows.laid_gauger_ways_none) (.tail _ (.head _))
  have r3 := Lib.laidMet.reads h (n := "unicode/utf8.first") (d := Rows.laid_unicode_utf8_first) (.tail _ (.tail _ (.head _)))
  rw [accept_eq] at r1
  have r3' : Lib.VarReads Tryd.prog W "unicode/utf8.first" Lib.firstData := by
    rwa [first_eq] at r3
  refine ⟨utf8Tabs_of_reads Tryd.lays260 laid_u8 r3' r1, ?_⟩
  obtain ⟨g, t, cs, fuel, p, hg, hty, hvar, hd⟩ := r2
  obtain rfl := Option.some.inj ((show Tryd.prog.globalNamed "gauger/ways.none" = some 2 by kernel_rfl).symm.trans hg)
  obtain rfl := Option.some.inj ((show (Tryd.prog.globals[2]?).map (·.type) = some 45 by kernel_rfl).symm.trans hty)
  have hcs : cs.toList = [(-1 : Int), (-1 : Int)].map fun z => Value.int .i64 z := Lib.ints_of_struct (k := .i64) (zs := [-1, -1]) heSp (by
    intro i f hf
    have hs : fsSp.size = 2 := by kernel_rfl
    have hi : i < 2 := by
      by_cases h : i < fsSp.size
      · omega
      · rw [Array.getElem?_eq_none (by omega)] at hf; cases hf
    have key : ∀ j, j < 2 → (fsSp[j]?).map (fun f => (f.type, f.offset)) = some (3, j) := by
      intro j hj
      rcases (show j = 0 ∨ j = 1 by omega) with rfl | rfl
      · kernel_rfl
      · kernel_rfl
    have k := key i hi
    rw [hf] at k
    simp only [Option.map_some, Option.some.injEq, Prod.mk.injEq] at k
    rw [k.1]
    exact ⟨by kernel_rfl, k.2, by kernel_rfl⟩) (by kernel_rfl) hd
  have h0 := World.var?_cell hg hvar 0
  have h1 := World.var?_cell hg hvar 1
  rw [← Array.getElem?_toList, hcs] at h0 h1
  refine ⟨?_, h0, h1⟩
  by_cases hz : 2 < W.heap.size
  · exact hz
  · unfold World.cell? at h0
    rw [Array.getElem?_eq_none (by simpa using hz)] at h0
    simp at h0
theorem list_of {α : Type} {n : Nat} {P : Nat → α → Prop} (h : ∀ i, i < n → ∃ s, P i s) : ∃ S : List α, S.length = n ∧ ∀ (i : Nat) (hi : i < S.length), P i S[i] := by
  induction n with
  | zero => exact ⟨[], rfl, fun i hi => absurd hi (by simp)⟩
  | succ n ih =>
    obtain ⟨S, hl, hS⟩ := ih fun i hi => h i (by omega)
    obtain ⟨s, hs⟩ := h n (by omega)
    refine ⟨S ++ [s], by simp [hl], fun i hi => ?_⟩
    by_cases e : i < S.length
    · rw [List.getElem_append_left e]; exact hS i e
    · have e2 : i = n := by simp at hi; omega
      subst e2
      rw [List.getElem_append_right (by omega)]
      simpa [hl] using hs
noncomputable def fsSm : Array Field := match Tryd.prog.underlying 66 with
  | some (.struct fs) => fs
  | _ => #[]
theorem heSm : Tryd.prog.underlying 66 = some (.struct fsSm) := by kernel_rfl
theorem cellsSm : Tryd.prog.cellsOf 66 = 3 := by kernel_rfl
theorem cells8 : Tryd.prog.cellsOf 5 = 1 := by kernel_rfl
theorem underSm : Tryd.prog.underlying 22 = some (.slice 66) := by kernel_rfl
theorem underB : Tryd.prog.underlying 23 = some (.slice 5) := by kernel_rfl
theorem fldSm (j : Nat) (t : TypeId) (o : Nat) (h : fsSm[j]?.map (fun f => (f.type, f.offset)) = some (t, o)) : ∃ f, fsSm[j]? = some f ∧ f.type = t ∧ f.offset = o := by
  cases e : fsSm[j]? with
  | none => rw [e] at h; cases h
  | some f => rw [e] at h; simp at h; exact ⟨f, rfl, h.1, h.2⟩
theorem u8_of {z : Int} (h : (Lit.int .u8 z).wf = true) : ∃ n : Nat, z = n ∧ n < 256 := by
  have := bounds_u8 h
  exact ⟨z.toNat, by omega, by omega⟩
set_option maxRecDepth 100000 in
theorem small_one {H : Type} {enc : TypeId × Value → H} {W : World} {n : Nat} {cs : List Value} {x : DataW H × List MemPlace} (h : DataW.trod enc Tryd.prog W 0 (fun _ => true) true n 66 cs = some x) :
    ∃ s : Sm, (s.kind < 256 ∧ s.a < 256 ∧ s.b < 256) ∧ cs = smCs s := by
  obtain ⟨xs, k, -, -, hl, hx, hf⟩ := DataW.trod_struct heSm h
  rw [cellsSm] at hl
  match cs, hl with
  | [c0, c1, c2], _ =>
    obtain ⟨f0, e0, t0, o0⟩ := fldSm 0 5 0 (by kernel_rfl)
    obtain ⟨f1, e1, t1, o1⟩ := fldSm 1 5 1 (by kernel_rfl)
    obtain ⟨f2, e2, t2, o2⟩ := fldSm 2 5 2 (by kernel_rfl)
    have hs : fsSm.size = 3 := by kernel_rfl
    have g0 := hf 0 f0 e0
    have g1 := hf 1 f1 e1
    have g2 := hf 2 f2 e2
    rw [t0, o0, cells8, List.getElem?_eq_getElem (by omega)] at g0
    rw [t1, o1, cells8, List.getElem?_eq_getElem (by omega)] at g1
    rw [t2, o2, cells8, List.getElem?_eq_getElem (by omega)] at g2
    obtain ⟨z0, a0, -, w0⟩ := DataW.trod_int (k := .u8) (by kernel_rfl) g0
    obtain ⟨z1, a1, -, w1⟩ := DataW.trod_int (k := .u8) (by kernel_rfl) g1
    obtain ⟨z2, a2, -, w2⟩ := DataW.trod_int (k := .u8) (by kernel_rfl) g2
    simp at a0 a1 a2
    subst a0 a1 a2
    obtain ⟨n0, rfl, b0⟩ := u8_of w0
    obtain ⟨n1, rfl, b1⟩ := u8_of w1
    obtain ⟨n2, rfl, b2⟩ := u8_of w2
    exact ⟨⟨n0, n1, n2⟩, ⟨b0, b1, b2⟩, rfl⟩
set_option maxRecDepth 100000 in
theorem smalls_any {H : Type} {enc : TypeId × Value → H} {W : World} {a : Option Addr} {len cap : Nat} {d : DataW H} {p : List MemPlace} (h : DataW.Trod enc Tryd.prog W 0 (fun _ => true) true 22 (.slice a len cap) d p) : ∃ L, SmsAt (fun _ => True) W (.slice a len cap) L ∧ L.length ≤ 9223372036854775807 := by
  obtain ⟨fuel, hf⟩ := h
  rcases open_slice underSm hf with ⟨hcs, -⟩ | ⟨x, l, c, m, n, D, Pl, hcs, hb, hl, hm, hmm, hx, hi⟩
  · simp [Value.cells] at hcs
    obtain ⟨rfl, rfl, rfl⟩ := hcs
    exact ⟨[], ⟨⟨rfl, .inl ⟨rfl, _, _, rfl⟩⟩, fun x hx => by cases hx⟩, by simp⟩
  · simp [Value.cells] at hcs
    obtain ⟨rfl, rfl, rfl⟩ := hcs
    rw [cellsSm] at hi
    simp at hmm
    have hmx : len ≤ 9223372036854775807 := by unfold maxLen at hm; omega
    obtain ⟨S, hS, hP⟩ := list_of (α := Sm) (n := len) (P := fun (i : Nat) (s : Sm) => (s.kind < 256 ∧ s.a < 256 ∧ s.b < 256) ∧ ∀ j, j < 3 → W.cell? ((x.add (i * 3)).add j) = (smCs s)[j]?) (fun i hil => by
      obtain ⟨cs', hc, ht⟩ := hi i (by omega)
      obtain ⟨s, hu, e⟩ := small_one ht
      obtain ⟨-, -, hat⟩ := World.cells?_some hc
      refine ⟨s, hu, fun j hj => ?_⟩
      have := hat j hj
      rw [this, e])
    subst hS
    refine ⟨S, ⟨⟨flat_len (f := smCs) (n := 3) (fun _ => rfl) _, ?_⟩, fun s hs => ?_⟩, hmx⟩
    · by_cases h0 : S.length = 0
      · exact .inl ⟨h0, _, _, by rw [h0]⟩
      · obtain ⟨b, off, spot⟩ := x
        have h00 := (hP 0 (by omega)).2 0 (by omega)
        have hspot : spot = none := by simpa [Addr.add] using World.cell?_spot h00
        subst hspot
        refine .inr ⟨b, off, _, rfl, hl, hm, trivial, ?_, fun j hj => ?_⟩
        · rcases Nat.lt_or_ge b W.heap.size with h | h
          · exact h
          · exfalso
            simp only [Nat.zero_mul, add_add, Nat.add_zero] at h00
            unfold World.cell? at h00
            rw [show (({ block := b, off := off } : Addr).add 0).block = b by rfl, Array.getElem?_eq_none h] at h00
            simp [smCs] at h00
        · rw [flat_len (f := smCs) (n := 3) (fun _ => rfl)] at hj
          have hq : j / 3 < S.length := by omega
          have e := flat_at (f := smCs) (n := 3) (fun _ => rfl) S (j / 3) (j % 3) hq (by omega)
          rw [show j / 3 * 3 + j % 3 = j by omega] at e
          rw [e, ← (hP (j / 3) hq).2 (j % 3) (by omega), add_add, show j / 3 * 3 + j % 3 = j by omega]
          unfold Addr.add
          by_cases hj0 : j = 0
          · subst hj0; simp
          · simp [hj0]
    · obtain ⟨i, hi', rfl⟩ := List.getElem_of_mem hs
      exact (hP i hi').1
set_option maxRecDepth 100000 in
theorem bytes_any {H : Type} {enc : TypeId × Value → H} {W : World} {a : Option Addr} {len cap : Nat} {d : DataW H} {p : List MemPlace} (h : DataW.Trod enc Tryd.prog W 0 (fun _ => true) true 23 (.slice a len cap) d p) : ∃ L, U8At (fun _ => True) W (.slice a len cap) L ∧ L.length ≤ 9223372036854775807 := by
  obtain ⟨fuel, hf⟩ := h
  rcases open_slice underB hf with ⟨hcs, -⟩ | ⟨x, l, c, m, n, D, Pl, hcs, hb, hl, hm, hmm, hx, hi⟩
  · simp [Value.cells] at hcs
    obtain ⟨rfl, rfl, rfl⟩ := hcs
    exact ⟨[], ⟨⟨rfl, .inl ⟨rfl, _, _, rfl⟩⟩, fun x hx => by cases hx⟩, by simp⟩
  · simp [Value.cells] at hcs
    obtain ⟨rfl, rfl, rfl⟩ := hcs
    rw [cells8] at hi
    simp at hmm
    have hmx : len ≤ 9223372036854775807 := by unfold maxLen at hm; omega
    obtain ⟨S, hS, hP⟩ := list_of (α := Nat) (n := len) (P := fun (i : Nat) (s : Nat) => s < 256 ∧ W.cell? (x.add i) = some (.int .u8 s)) (fun i hil => by
      obtain ⟨cs', hc, ht⟩ := hi i (by omega)
      obtain ⟨z, a0, -, w0⟩ := DataW.trod_int (k := .u8) (by kernel_rfl) ht
      obtain ⟨n0, rfl, b0⟩ := u8_of w0
      obtain ⟨-, -, hat⟩ := World.cells?_some hc
      have h0 := hat 0 (by omega)
      subst a0
      refine ⟨n0, b0, ?_⟩
      rw [add_add, Nat.mul_one, Nat.add_zero] at h0
      exact h0)
    subst hS
    refine ⟨S, ⟨⟨by simp [u8Cs], ?_⟩, fun s hs => ?_⟩, hmx⟩
    · by_cases h0 : S.length = 0
      · exact .inl ⟨h0, _, _, by rw [h0]⟩
      · obtain ⟨b, off, spot⟩ := x
        have h00 := (hP 0 (by omega)).2
        have hspot : spot = none := by simpa [Addr.add] using World.cell?_spot h00
        subst hspot
        refine .inr ⟨b, off, _, rfl, hl, hm, trivial, ?_, fun j hj => ?_⟩
        · rcases Nat.lt_or_ge b W.heap.size with h | h
          · exact h
          · exfalso
            unfold World.cell? at h00
            rw [show (({ block := b, off := off } : Addr).add 0).block = b by rfl, Array.getElem?_eq_none h] at h00
            simp at h00
        · have hj' : j < S.length := by simpa [u8Cs] using hj
          have e := (hP j hj').2
          have e2 : (u8Cs S)[j]? = some (.int .u8 (S[j] : Nat)) := by simp [u8Cs, hj']
          rw [e2, ← e]
          unfold Addr.add
          by_cases hj0 : j = 0
          · subst hj0; simp
          · simp [hj0]
    · obtain ⟨i, hi', rfl⟩ := List.getElem_of_mem hs
      exact (hP i hi').1
end Go.Proofs.YtnhjakdmbfadlaaDoor
