/- Parts of the proof: All, Eq. Conditions: none. -/
import Derived.Test.YtnhjakdmbfadlaaGreatDoorL13
import Derived.Test.YtnhjakdmbfadlaaGreatDoorL17
import Derived.Test.YtnhjakdmbfadlaaGreatDoorL18
import Derived.Test.YtnhjakdmbfadlaaGreatDoorL19
import Derived.Test.YtnhjakdmbfadlaaGreatDoorL09
import Derived.Outline
import Derived.Carry
set_option linter.all false
/- ways.All, at right trees and short strings. -/
namespace Go.Proofs.YtnhjakdmbfadlaaGreatDoor
open Go.RowKit Wy Mem Grow

theorem nd6c {N : Nat → Prop} {w : World} {t : Nd} {cs : List Value} (h : NdAt N w t cs) : ∃ (k lo hi : Int) (lz : Bool) (o1 o2 : Option Addr) (n1 c1 n2 c2 : Nat), cs = [.int .u8 k, .slice o1 n1 c1, .int .i64 lo, .int .i64 hi, .bool lz, .slice o2 n2 c2] := by
  cases t
  rw [NdAt] at h
  obtain ⟨sv, uv, ucs, rfl, _, _, _, h5, h6, _⟩ := h
  obtain ⟨o, c, rfl⟩ := h5.row.slice
  obtain ⟨o', c', rfl⟩ := h6.slice
  exact ⟨_, _, _, _, _, _, _, _, _, _, rfl⟩
theorem fit_right {t : Nd} (h : right t = true) : Fit t := by
  simp only [Wy.right, rightF, Bool.and_eq_true, decide_eq_true_eq] at h
  exact ⟨h.1.1.1, h.1.1.2⟩
theorem opened_right {t : Nd} (h : right t = true) : opened t ≤ 30 := by
  simp only [Wy.right, rightF, Bool.and_eq_true, decide_eq_true_eq] at h
  have := look_opened t
  omega
/-- what All hands back: its ways lie in new blocks -/
def Alls (s : ByteArray) (t : Nd) (w : World) (e : Ending) (w' : World) : Prop :=
  Below w.heap.size w w' ∧ match Wy.ways (strS s) t with
    | none => e = .returned (.tuple #[.slice none 0 0, .int .i64 5])
    | some l => ∃ v, e = .returned (.tuple #[v, .int .i64 0]) ∧ WaysAt (fun q => w.heap.size ≤ q) w' (opened t) s.size v l
def allC (t : Nd) (s : ByteArray) (m mb : Nat) : Cx := ⟨m, mb, s, opened t, nodes t, fun n => (flatN t 0)[n]?⟩
theorem allC_ok {t : Nd} {s : ByteArray} {m mb : Nat} (hr : right t = true) (hno : nodes t ≤ 1000000) (hs : s.size ≤ 32) (hmb : 2 < mb) : (allC t s m mb).Ok := by
  refine ⟨hs, opened_right hr, fun n x h => ?_, hmb⟩
  have hn : n < (flatN t 0).length := by
    by_cases e : n < (flatN t 0).length
    · exact e
    · have : (flatN t 0)[n]? = none := List.getElem?_eq_none (by omega)
      have h' : (flatN t 0)[n]? = some x := h
      rw [this] at h'; cases h'
  rw [flatN_len] at hn
  omega
set_option maxHeartbeats 4000000 in
set_option maxRecDepth 100000 in
theorem all_any {w : World} {t : Nd} {cs : List Value} {s : ByteArray} (h : NdAt (fun _ => True) w t cs) (hr : right t = true) (hno : nodes t ≤ 1000000) (hs : s.size ≤ 32) (hv : Lib.validD s.data.toList = true) (htab : Lib.Utf8Tabs 0 1 w) (hnone : NoneAt w) :
    Calls Tryz.prog 13 #[.agg cs.toArray, .string s] w (Alls s t w) := by
  obtain ⟨k, lo, hi, lz, o1, o2, n1, c1, n2, c2, rfl⟩ := nd6c h
  have HND := Lib.hid h
  have HNONE := Lib.hid hnone
  have HTAB := Lib.hid htab
  have hsI : (s.size : Int) ≤ 32 := by omega
  clear h hnone htab
  go_enter Tryz.func13, Tryz.ntmps13
  go_upto_region 1 with fail
  have hB1 : Blk (w.alloc (.cells #[.int .u8 k, .slice o1 n1 c1, .int .i64 lo, .int .i64 hi, .bool lz, .slice o2 n2 c2] 27)) w.heap.size #[.int .u8 k, .slice o1 n1 c1, .int .i64 lo, .int .i64 hi, .bool lz, .slice o2 n2 c2] 27 := Blk.new _ _ _
  have hb1 : Below w.heap.size w (w.alloc (.cells #[.int .u8 k, .slice o1 n1 c1, .int .i64 lo, .int .i64 hi, .bool lz, .slice o2 n2 c2] 27)) := (Below.refl _ _).alloc (Nat.le_refl _) _
  generalize (w.alloc (.cells #[.int .u8 k, .slice o1 n1 c1, .int .i64 lo, .int .i64 hi, .bool lz, .slice o2 n2 c2] 27)) = W1 at hB1 hb1 ⊢
  have hright := sRight_any (NdAt.go (M := fun _ => True) (Kept.of_below hb1 (fun _ => False)) (fun _ _ _ => ⟨id, trivial⟩) HND.out) hno
  rw [hr] at hright
  obtain ⟨d0, d1, d2, d3, d4, d5⟩ : W1.cell? ⟨w.heap.size, 0, none⟩ = some (.int .u8 k) ∧ W1.cell? ⟨w.heap.size, 1, none⟩ = some (.slice o1 n1 c1) ∧ W1.cell? ⟨w.heap.size, 2, none⟩ = some (.int .i64 lo) ∧ W1.cell? ⟨w.heap.size, 3, none⟩ = some (.int .i64 hi) ∧ W1.cell? ⟨w.heap.size, 4, none⟩ = some (.bool lz) ∧ W1.cell? ⟨w.heap.size, 5, none⟩ = some (.slice o2 n2 c2) :=
    ⟨hB1.cell 0, hB1.cell 1, hB1.cell 2, hB1.cell 3, hB1.cell 4, hB1.cell 5⟩
  have dz := hB1.lt
  have HR := Lib.hid hright
  have HB1 := Lib.hid hB1
  have HBE1 := Lib.hid hb1
  clear hright hB1 hb1
  have hvalid : ∀ W, Below w.heap.size w W → Calls Tryz.prog 41 #[.string s] W fun e w' => e = .returned (.bool true) ∧ Below W.heap.size W w' := fun W hW => by
    have := Tryz.utf8_ValidString s W (by omega) (tabs_kept HTAB.out (Kept.of_below hW (fun _ => False)) id id (by have := HNONE.out.1; omega))
    rwa [hv] at this
  have HV := Lib.hid hvalid
  clear hvalid
  have hmm := @run_makeMap Tryz.prog
  go_upto_region 8 with (first | (go_at_call 40; go_loud (refine HR.out.mono ?_; rintro e w2 ⟨rfl, hb2⟩; have HB2 := Lib.hid hb2; have HBE2 := Lib.hid (HBE1.out.trans (hb2.mono HBE1.out.size)); clear hb2)) | (go_at_call 41; go_loud (refine (HV.out _ HBE2.out).mono ?_; rintro e w3 ⟨rfl, hb3⟩; have HB3 := Lib.hid (HB2.out.trans (hb3.mono HB2.out.size)); have HBE3 := Lib.hid (HBE2.out.trans (hb3.mono HBE2.out.size)); clear hb3)))
  have hb4 : Below w3.heap.size w3 ((w3.alloc (.map #[] 0)).alloc (.cells #[.string s, .int .i64 0, .int .i64 0, .map (some w3.heap.size)] 105)) := ((Below.refl _ _).alloc (Nat.le_refl _) _).alloc (by simp) _
  have hM4 : Blk ((w3.alloc (.map #[] 0)).alloc (.cells #[.string s, .int .i64 0, .int .i64 0, .map (some w3.heap.size)] 105)) (w3.heap.size + 1) (mkC (.string s) (.map (some w3.heap.size)) 0 0) 105 := Blk.new' _ _ (by simp)
  have hmap : ((w3.alloc (.map #[] 0)).alloc (.cells #[.string s, .int .i64 0, .int .i64 0, .map (some w3.heap.size)] 105)).heap[w3.heap.size]? = some (.map #[] 0) := by
    rw [Below.heap_alloc _ _ _ (by simp)]
    exact heap_alloc_new w3 _
  have hz4 : ((w3.alloc (.map #[] 0)).alloc (.cells #[.string s, .int .i64 0, .int .i64 0, .map (some w3.heap.size)] 105)).heap.size = w3.heap.size + 2 := by simp
  obtain ⟨mb, hmb⟩ : ∃ mb, mb = w3.heap.size := ⟨_, rfl⟩
  generalize ((w3.alloc (.map #[] 0)).alloc (.cells #[.string s, .int .i64 0, .int .i64 0, .map (some w3.heap.size)] 105)) = W4 at hb4 hM4 hmap hz4 ⊢
  rw [← hmb] at hM4 hmap hz4 ⊢
  have hw4 : Below w.heap.size w W4 := HBE3.out.trans (hb4.mono HBE3.out.size)
  have hB4 := (HB1.out.below HB3.out HB1.out.lt).below hb4 (Nat.lt_of_lt_of_le HB1.out.lt HB3.out.size)
  have hwm : w.heap.size < mb := by have := HB1.out.lt; have := HB3.out.size; omega
  obtain ⟨f0, f1, f2, f3, f4, f5⟩ : W4.cell? ⟨w.heap.size, 0, none⟩ = some (.int .u8 k) ∧ W4.cell? ⟨w.heap.size, 1, none⟩ = some (.slice o1 n1 c1) ∧ W4.cell? ⟨w.heap.size, 2, none⟩ = some (.int .i64 lo) ∧ W4.cell? ⟨w.heap.size, 3, none⟩ = some (.int .i64 hi) ∧ W4.cell? ⟨w.heap.size, 4, none⟩ = some (.bool lz) ∧ W4.cell? ⟨w.heap.size, 5, none⟩ = some (.slice o2 n2 c2) :=
    ⟨hB4.cell 0, hB4.cell 1, hB4.cell 2, hB4.cell 3, hB4.cell 4, hB4.cell 5⟩
  have fz := hB4.lt
  have hop := opened_right hr
  have hpart := part_all t (fun q => q ≠ mb + 1 ∧ q ≠ mb) W4 (mb + 1) (.string s) (.map (some mb)) 0 0 _ hM4 (NdAt.go (Kept.of_below hw4 (fun _ => False)) (fun q hq _ => ⟨id, by omega, by omega⟩) HND.out) (fun q hq => by omega) (fun e => e.1 rfl) (by omega) (by omega)
  have HPART := Lib.hid hpart
  have HM4 := Lib.hid hM4
  have HMAP := Lib.hid hmap
  have HZ4 := Lib.hid hz4
  have HW4 := Lib.hid hw4
  have HWM := Lib.hid hwm
  have HMB := Lib.hid hmb
  clear hpart hM4 hmap hz4 hw4 hwm hmb hb4 hB4 d0 d1 d2 d3 d4 d5 dz
  go_upto_region 9 with (first | (go_at_call 42; go_loud (refine HPART.out.mono ?_; rintro e w5 ⟨b, rfl, hp5, hm5, hk5⟩; have HP5 := Lib.hid hp5; have HM5 := Lib.hid hm5; have HK5 := Lib.hid hk5; clear hp5 hm5 hk5)))
  have hC := allC_ok (m := mb + 1) (mb := mb) hr hno hs (by have := HNONE.out.1; have := HWM.out; omega)
  have hsz := HNONE.out.1
  have hat : At (allC t s (mb + 1) mb) (fun q => q ≠ mb) w5 := by
    have hw := HWM.out
    have hz := HZ4.out
    have hk5 : Kept (fun q => q = mb + 1) w w5 := (Kept.of_below HW4.out _).trans HK5.out
    have hM := HM5.out
    unfold mkC at hM
    rw [Nat.zero_add, Nat.zero_add] at hM
    refine ⟨tabs_kept HTAB.out hk5 (by omega) (by omega) (by omega), HNONE.out.kept hk5 (by omega), hM, ⟨#[], 0, ?_, fun x hx => by simp at hx⟩, fun q hq e => ?_, fun q hq e => ?_, ?_, fun e => e rfl⟩
    · exact (HK5.out.block mb (by omega) (by omega)).trans HMAP.out
    · have := HK5.out.size
      show False
      have e' : q = mb := e
      omega
    · have e' : q = mb := e
      omega
    · show ¬ (mb + 1 = mb)
      omega
  have hways : Calls Tryz.prog 43 #[.pointer (some ⟨mb + 1, 0, none⟩), .pointer (some ⟨b, 0, none⟩), .int .i64 0] w5 (WysNil (allC t s (mb + 1) mb) (fun q => q ≠ mb) w5 (Wy.ways (strS s) t)) :=
    ways_all hC t (fit_right hr) (fun q => q ≠ mb) w5 0 0 b 0 hat (PartAt.mono (fun q hq => hq.2) HP5.out) (tabd_root t) (by show 0 + opened t ≤ opened t; omega) (Nat.zero_le _)
  have hkw5 : Below w.heap.size w w5 := ((Kept.of_below HW4.out (fun q => q = mb + 1)).trans HK5.out).below (fun q hq e => by have := HWM.out; omega)
  have HWAYS := Lib.hid hways
  have HKW5 := Lib.hid hkw5
  clear hways hkw5 hat hC hsz f0 f1 f2 f3 f4 f5 fz
  unfold Alls
  cases ho : Wy.ways (strS s) t with
  | none =>
    rw [ho] at HWAYS
    have hw : Calls Tryz.prog 43 #[.pointer (some ⟨mb + 1, 0, none⟩), .pointer (some ⟨b, 0, none⟩), .int .i64 0] w5 fun e w' => e = .returned (.tuple #[.slice none 0 0, .bool false]) ∧ Below w.heap.size w w' :=
      HWAYS.out.mono fun e w' ⟨h1, h2, v, h3, h4, _⟩ => by
        rw [h4 rfl] at h3
        exact ⟨h3, ((Kept.of_below HKW5.out (fun q => q = mb)).trans h1).below (fun q hq e => by have := HWM.out; omega)⟩
    have HW := Lib.hid hw
    have HO := Lib.hid ho
    clear hw ho
    go_wp2_with (go_at_call 43; go_loud (refine HW.out.mono ?_; rintro e w6 ⟨rfl, hb6⟩; have HB6 := Lib.hid hb6; clear hb6))
    exact bodyPost_ret (v := .tuple #[.slice none 0 0, .int .i64 5]) (by simp [results, Tryz.results13, go_sem]) rfl ⟨HB6.out, by rw [HO.out]⟩
  | some l =>
    rw [ho] at HWAYS
    have hlen : l.length ≤ 500 := by unfold Wy.ways at ho; exact wy_len ho
    have hw : Calls Tryz.prog 43 #[.pointer (some ⟨mb + 1, 0, none⟩), .pointer (some ⟨b, 0, none⟩), .int .i64 0] w5 fun e w' => ∃ o c, e = .returned (.tuple #[.slice o l.length c, .bool true]) ∧ Below w.heap.size w w' ∧ WaysAt (fun _ => True) w' (opened t) s.size (.slice o l.length c) l :=
      HWAYS.out.mono fun e w' ⟨h1, h2, v, h3, _, h5⟩ => by
        have h6 := h5 l rfl
        obtain ⟨o, c, rfl⟩ := h6.slice
        exact ⟨o, c, h3, ((Kept.of_below HKW5.out (fun q => q = mb)).trans h1).below (fun q hq e => by have := HWM.out; omega), h6.mono (fun _ _ => trivial)⟩
    have HW := Lib.hid hw
    have HO := Lib.hid ho
    clear hw ho
    go_wp2_with (first | (go_at_call 43; go_loud (refine HW.out.mono ?_; rintro e w6 ⟨o6, c6, rfl, hb6, hw6⟩; have HB6 := Lib.hid hb6; have hcp := copied_any hw6 hlen (by omega); have HCP := Lib.hid hcp; clear hb6 hw6 hcp)) | (go_at_call 44; go_loud (refine HCP.out.mono ?_; rintro e w7 ⟨v7, rfl, ⟨cs7, hr7, hw7⟩, hb7⟩; have HFIN := Lib.hid (And.intro (HB6.out.trans (hb7.mono HB6.out.size)) (WaysAt.of_own (N := fun q => w.heap.size ≤ q) hr7 (hw7.mono (fun q hq => Nat.le_trans HB6.out.size hq.1)) (fun q hq _ => Nat.le_trans HB6.out.size hq))); clear hr7 hw7 hb7)))
    exact bodyPost_ret (v := .tuple #[v7, .int .i64 0]) (by simp [results, Tryz.results13, go_sem]) rfl ⟨HFIN.out.1, by rw [HO.out]; exact ⟨v7, rfl, HFIN.out.2⟩⟩
end Go.Proofs.YtnhjakdmbfadlaaGreatDoor

/- ends, endsOf; slices.Equal at ints and at spans. -/
namespace Go.Proofs.YtnhjakdmbfadlaaGreatDoor
open Go.RowKit Wy Mem Grow

def intCs (l : List Nat) : List Value := l.map fun x : Nat => .int .i64 x
theorem intCs_len (l : List Nat) : (intCs l).length = l.length * 1 := by simp [intCs]
def Ens (l : List Nat) (w : World) (e : Ending) (w' : World) : Prop := ∃ v, e = .returned v ∧ w'.ownsRow w.heap.size 3 1 v l.length (intCs l) ∧ Below w.heap.size w w'
theorem src_int {W : World} {c0 : Value} {b : Nat} (hb : b = W.heap.size) : SrcAt (W.alloc (.cells #[c0] 3)) (.slice (some ⟨b, 0, none⟩) 1 1) 1 [c0] := by
  subst hb
  have hB := Blk.new W #[c0] 3
  refine .inr ⟨_, _, rfl, fun j u hu => ?_⟩
  match j with
  | 0 => simp at hu; subst hu; simp [Addr.add, hB.cell]
  | j + 1 => simp at hu
set_option maxHeartbeats 4000000 in
set_option maxRecDepth 100000 in
theorem ends_any {N : Nat → Prop} {w : World} {G L : Nat} {v : Value} {l : List Wy.Way} (h : WaysAt N w G L v l) (hl : l.length ≤ 500) : Calls Tryz.prog 38 #[v] w (Ens (l.map Wy.Way.stop) w) := by
  obtain ⟨o, c, rfl⟩ := h.slice
  have H := Lib.hid h
  clear h
  have hlI : (l.length : Int) ≤ 500 := by omega
  obtain ⟨i0, hi0, hz0, hz1, hz2⟩ := info_parts info3
  go_enter Tryz.func38, Tryz.ntmps38
  go_wp2_with fail
  go_loopw [3, 8] (fun s3 s8 wx => ∃ j : Nat, j ≤ l.length ∧ s8 = .int .i64 j ∧ wx.ownsRow w.heap.size 3 1 s3 j (intCs ((l.take j).map Wy.Way.stop)) ∧ Below w.heap.size w wx) (fun _ s8 _ => l.length - (intOf s8).toNat)
  case atStart => exact ⟨0, by omega, rfl, World.ownsRow_nil _ _ _ _, Below.refl _ _⟩
  case round =>
    rename World => Wa
    obtain ⟨j, hj, rfl, hro, hbw⟩ := hrel
    have HBW := Lib.hid hbw
    obtain ⟨ov, cv, rfl⟩ := own_slice hro
    by_cases hjl : j < l.length
    · obtain ⟨b, off, cap, hve, hc1, hc2, hNb, hbz, hcell⟩ := H.out.cells (by omega)
      simp only [Value.slice.injEq, true_and] at hve
      obtain ⟨rfl, rfl⟩ := hve
      obtain ⟨sv, e0, e1, hsv, -, -⟩ := hcell j hjl
      obtain ⟨so, sc, rfl⟩ := hsv.row.slice
      have y0 : Wa.cell? ⟨b, off + j * 2, none⟩ = some (.int .i64 l[j].stop) := (hbw.cell (p := ⟨b, off + j * 2, none⟩) hbz).trans e0
      have y1 : Wa.cell? ⟨b, off + j * 2 + 1, none⟩ = some (.slice so l[j].spans.length sc) := (hbw.cell (p := ⟨b, off + j * 2 + 1, none⟩) hbz).trans e1
      have hbza : b < Wa.heap.size := by have := hbw.size; omega
      have hjI : (j : Int) < l.length := by omega
      have hcI : (l.length : Int) ≤ c := by omega
      obtain ⟨x, hx⟩ : ∃ x, x = l[j] := ⟨_, rfl⟩
      rw [← hx] at y0 y1
      have hr2 : ((Wa.alloc (.cells #[.int .i64 x.stop, .slice so x.spans.length sc] 43)).alloc (.cells #[.int .i64 x.stop] 3)).ownsRow w.heap.size 3 1 (.slice ov j cv) j (intCs ((l.take j).map Wy.Way.stop)) := ownsRow_go hro (((Kept.refl (fun _ => False) Wa).alloc _).alloc _) (fun _ _ => id)
      have hbs : w.heap.size ≤ ((Wa.alloc (.cells #[.int .i64 x.stop, .slice so x.spans.length sc] 43)).alloc (.cells #[.int .i64 x.stop] 3)).heap.size := by have := hbw.size; simp; omega
      have hsr : SrcAt ((Wa.alloc (.cells #[.int .i64 x.stop, .slice so x.spans.length sc] 43)).alloc (.cells #[.int .i64 x.stop] 3)) (.slice (some ⟨Wa.heap.size + 1, 0, none⟩) 1 1) 1 [.int .i64 x.stop] := src_int (by simp)
      have hmx : j + 1 ≤ maxLen := by unfold maxLen; omega
      have hby : (j + 1) * 8 ≤ 140737488355328 := by omega
      have HR2 := Lib.hid hr2
      have HBS := Lib.hid hbs
      have HSR := Lib.hid hsr
      have HX := Lib.hid hx
      have hfin : ∀ w4, ((Wa.alloc (.cells #[.int .i64 x.stop, .slice so x.spans.length sc] 43)).alloc (.cells #[.int .i64 x.stop] 3)).grownBy w4 (Value.slice ov j cv).ownBlock → Below w.heap.size w w4 := fun w4 hg =>
        ((Kept.of_below ((HBW.out.alloc HBW.out.size (.cells #[.int .i64 x.stop, .slice so x.spans.length sc] 43)).alloc (by have := HBW.out.size; simp; omega) (.cells #[.int .i64 x.stop] 3)) (fun q => (Value.slice ov j cv).ownBlock = some q)).trans (Kept.of_grown hg)).below (fun q hq e => by have := (HR2.out.lt q e).1; omega)
      have HFIN := Lib.hid hfin
      clear hcell e0 e1 hsv hr2 hbs hsr hx hro hbw hfin
      go_wp2_with (first | (at_builtin; go_loud (refine wpList_append_row rfl _ _ 48 rfl Tryz.underlying48 hi0 hz0 hz1 hz2 rfl (.slice ov j cv) j (intCs ((l.take j).map Wy.Way.stop)) rfl HR2.out _ 1 _ rfl HSR.out rfl (by simp [Value.oneCell']) hmx hby HBS.out ?_; intro v' w4 hown' hgrow h3' h4'; have HO := Lib.hid hown'; have HB4 := Lib.hid (HFIN.out w4 hgrow); clear hown' hgrow h3' h4')))
      go_roundw
      case rel => exact ⟨j + 1, by omega, by go_num, by
        have := HO.out
        rw [List.take_succ_eq_append_getElem hjl, ← HX.out]
        simpa [intCs] using this, HB4.out⟩
      case measure => simp [intOf]; omega
    · obtain rfl : j = l.length := by omega
      rw [List.take_length] at hro
      have HRO := Lib.hid hro
      clear hro hbw
      go_wp2_with fail
      go_ret
      exact ⟨_, rfl, by rw [List.length_map]; exact HRO.out, HBW.out⟩
theorem ends_ways (S : Str) (t : Nd) : Wy.ends S t 0 = (Wy.ways S t).map (List.map Wy.Way.stop) := by
  unfold Wy.ends Wy.ways
  exact (ways_ends S t (opened t) 0 0).symm
end Go.Proofs.YtnhjakdmbfadlaaGreatDoor
