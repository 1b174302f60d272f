/- Parts of the proof: Par. Conditions: none. -/
import Derived.Test.YtnhjakdmbfadlaaGreatDoorL29
import Derived.Test.YtnhjakdmbfadlaaGreatDoorL30
import Derived.Test.YtnhjakdmbfadlaaGreatDoorL07
import Derived.Test.YtnhjakdmbfadlaaGreatDoorL03
set_option linter.all false
/- Parse of the reference, where read is known. -/
namespace Go.Proofs.YtnhjakdmbfadlaaGreatDoor
open Go.RowKit Wy Mem Grow

def Rdd (t : Nd) (w : World) (e : Ending) (w' : World) : Prop := ∃ cs, e = .returned (.tuple #[.agg cs.toArray, .bool true]) ∧ NdAt (fun q => w.heap.size ≤ q) w' t cs ∧ Below w.heap.size w w'
def RdSpec (s : ByteArray) (t : Nd) : Prop := ∀ w : World, Calls Tryz.prog 62 #[.string s] w (Rdd t w)
def Prd (t : Nd) (w : World) (e : Ending) (w' : World) : Prop := ∃ cs, e = .returned (.tuple #[.agg cs.toArray, .int .i64 0]) ∧ NdAt (fun q => w.heap.size ≤ q) w' t cs ∧ Below w.heap.size w w'
set_option maxHeartbeats 4000000 in
set_option maxRecDepth 100000 in
theorem parse_any {s : ByteArray} {t : Nd} (hr : RdSpec s t) (hs : s.size ≤ 1024) (hsh : (Wy.look t).shaped = true) (hfi : (Wy.look t).firm = true) (hop : opened t ≤ 30) (hdp : (Wy.look t).depth ≤ 40) (hno : nodes t ≤ 1000000) (w : World) :
    Calls Tryz.prog 39 #[.string s] w (Prd t w) := by
  have hsI : (s.size : Int) ≤ 1024 := by omega
  have HR := Lib.hid hr
  have HF := Lib.hid (fun (N : Nat → Prop) (w : World) (cs : List Value) (h : NdAt N w t cs) => frm_all t N w cs h hsh hfi)
  have HO := Lib.hid (fun (N : Nat → Prop) (w : World) (cs : List Value) (h : NdAt N w t cs) => opn_all t N w cs h hno)
  have HL := Lib.hid (fun (N : Nat → Prop) (w : World) (cs : List Value) (h : NdAt N w t cs) => lev_all t N w cs h hno)
  have hopI : ((opened t : Nat) : Int) ≤ 30 := by omega
  clear hr hsh hfi hno hop hs
  go_enter Tryz.func39, Tryz.ntmps39
  go_upto_region 1 with fail
  have hB : Blk (w.alloc (.cells #[.int .u8 0, .slice none 0 0, .int .i64 0, .int .i64 0, .bool false, .slice none 0 0] 70)) w.heap.size #[.int .u8 0, .slice none 0 0, .int .i64 0, .int .i64 0, .bool false, .slice none 0 0] 70 := Blk.new _ _ _
  have hbW : Below w.heap.size w (w.alloc (.cells #[.int .u8 0, .slice none 0 0, .int .i64 0, .int .i64 0, .bool false, .slice none 0 0] 70)) := (Below.refl _ _).alloc (Nat.le_refl _) _
  have hzW : (w.alloc (.cells #[.int .u8 0, .slice none 0 0, .int .i64 0, .int .i64 0, .bool false, .slice none 0 0] 70)).heap.size = w.heap.size + 1 := by simp
  generalize (w.alloc (.cells #[.int .u8 0, .slice none 0 0, .int .i64 0, .int .i64 0, .bool false, .slice none 0 0] 70)) = W at hB hbW hzW ⊢
  have HB := Lib.hid hB
  have HBW := Lib.hid hbW
  have HZW := Lib.hid hzW
  clear hB hbW hzW
  go_upto_region 4 with (go_at_call 62; go_loud (refine (HR.out _).mono ?_; rintro ee w5 ⟨cs, rfl, hnt, hb5⟩; obtain ⟨tk, tl, th, tz, o1, o2, n1, c1, n2, c2, rfl⟩ := nd6k hnt; have HNT := Lib.hid hnt; have HB5 := Lib.hid hb5; clear hnt hb5))
  have hB4 : Blk (w5.alloc (.cells #[.int .u8 tk, .slice o1 n1 c1, .int .i64 tl, .int .i64 th, .bool tz, .slice o2 n2 c2] 70)) w5.heap.size #[.int .u8 tk, .slice o1 n1 c1, .int .i64 tl, .int .i64 th, .bool tz, .slice o2 n2 c2] 70 := Blk.new _ _ _
  have hb4 : Below w.heap.size w (w5.alloc (.cells #[.int .u8 tk, .slice o1 n1 c1, .int .i64 tl, .int .i64 th, .bool tz, .slice o2 n2 c2] 70)) := (HBW.out.trans (HB5.out.mono HBW.out.size)).alloc (by have := HBW.out.size; have := HB5.out.size; omega) _
  have hB2 : Blk (w5.alloc (.cells #[.int .u8 tk, .slice o1 n1 c1, .int .i64 tl, .int .i64 th, .bool tz, .slice o2 n2 c2] 70)) w.heap.size #[.int .u8 0, .slice none 0 0, .int .i64 0, .int .i64 0, .bool false, .slice none 0 0] 70 := (HB.out.below HB5.out HB.out.lt).alloc _
  have hnt4 : NdAt (fun q => w.heap.size + 1 ≤ q ∧ q ≠ w5.heap.size) (w5.alloc (.cells #[.int .u8 tk, .slice o1 n1 c1, .int .i64 tl, .int .i64 th, .bool tz, .slice o2 n2 c2] 70)) t [.int .u8 tk, .slice o1 n1 c1, .int .i64 tl, .int .i64 th, .bool tz, .slice o2 n2 c2] := NdAt.go ((Kept.refl (fun _ => False) w5).alloc _) (fun q hq hn => ⟨id, by have := HZW.out; omega, by omega⟩) HNT.out
  have hq4 : w.heap.size < w5.heap.size := by have := HZW.out; have := HB5.out.size; omega
  generalize (w5.alloc (.cells #[.int .u8 tk, .slice o1 n1 c1, .int .i64 tl, .int .i64 th, .bool tz, .slice o2 n2 c2] 70)) = V at hB4 hb4 hB2 hnt4 ⊢
  generalize w5.heap.size = q at hB4 hb4 hB2 hnt4 hq4 ⊢
  have hcf : ∀ w', Below V.heap.size V w' → Calls Tryz.prog 63 #[.agg #[.int .u8 tk, .slice o1 n1 c1, .int .i64 tl, .int .i64 th, .bool tz, .slice o2 n2 c2]] w' fun e w'' => e = .returned (.bool true) ∧ Below w'.heap.size w' w'' := fun w' hb => HF.out _ w' _ (NdAt.go (Kept.of_below hb (fun _ => False)) (fun q _ hq => ⟨id, hq⟩) hnt4)
  have hco : ∀ w', Below V.heap.size V w' → Calls Tryz.prog 61 #[.agg #[.int .u8 tk, .slice o1 n1 c1, .int .i64 tl, .int .i64 th, .bool tz, .slice o2 n2 c2]] w' fun e w'' => e = .returned (.int .i64 (opened t)) ∧ Below w'.heap.size w' w'' := fun w' hb => HO.out _ w' _ (NdAt.go (Kept.of_below hb (fun _ => False)) (fun q _ hq => ⟨id, hq⟩) hnt4)
  have hcl : ∀ w', Below V.heap.size V w' → Calls Tryz.prog 64 #[.agg #[.int .u8 tk, .slice o1 n1 c1, .int .i64 tl, .int .i64 th, .bool tz, .slice o2 n2 c2]] w' fun e w'' => e = .returned (.int .i64 (Wy.look t).depth) ∧ Below w'.heap.size w' w'' := fun w' hb => HL.out _ w' _ (NdAt.go (Kept.of_below hb (fun _ => False)) (fun q _ hq => ⟨id, hq⟩) hnt4)
  have fin : ∀ w', Below V.heap.size V w' → Prd t w (.returned (.tuple #[.agg #[.int .u8 tk, .slice o1 n1 c1, .int .i64 tl, .int .i64 th, .bool tz, .slice o2 n2 c2], .int .i64 0])) ((((((w'.setCell ⟨w.heap.size, 0, none⟩ (.int .u8 tk)).setCell ⟨w.heap.size, 1, none⟩ (.slice o1 n1 c1)).setCell ⟨w.heap.size, 2, none⟩ (.int .i64 tl)).setCell ⟨w.heap.size, 3, none⟩ (.int .i64 th)).setCell ⟨w.heap.size, 4, none⟩ (.bool tz)).setCell ⟨w.heap.size, 5, none⟩ (.slice o2 n2 c2)) ∧ Blk ((((((w'.setCell ⟨w.heap.size, 0, none⟩ (.int .u8 tk)).setCell ⟨w.heap.size, 1, none⟩ (.slice o1 n1 c1)).setCell ⟨w.heap.size, 2, none⟩ (.int .i64 tl)).setCell ⟨w.heap.size, 3, none⟩ (.int .i64 th)).setCell ⟨w.heap.size, 4, none⟩ (.bool tz)).setCell ⟨w.heap.size, 5, none⟩ (.slice o2 n2 c2)) w.heap.size #[.int .u8 tk, .slice o1 n1 c1, .int .i64 tl, .int .i64 th, .bool tz, .slice o2 n2 c2] 70 := by
    intro w' hb
    have hk := set6k (W := w') (b := w.heap.size) (.int .u8 tk) (.slice o1 n1 c1) (.int .i64 tl) (.int .i64 th) (.bool tz) (.slice o2 n2 c2)
    have h1 := NdAt.go (M := fun q => w.heap.size + 1 ≤ q) (Kept.of_below hb (fun _ => False)) (fun q _ hq => ⟨id, hq.1⟩) hnt4
    have h2 := NdAt.go (M := fun q => w.heap.size ≤ q) hk (fun q _ hq => ⟨fun e => by omega, by omega⟩) h1
    exact ⟨⟨_, rfl, h2, ((Kept.of_below (hb4.trans (hb.mono hb4.size)) (fun q => q = w.heap.size)).trans hk).below (fun q hq e => by omega)⟩, set6blk (hB2.below hb hB2.lt) _ _ _ _ _ _⟩
  have HCF := Lib.hid hcf
  have HCO := Lib.hid hco
  have HCL := Lib.hid hcl
  have HFIN := Lib.hid fin
  have HB4 := Lib.hid hB4
  have HB2 := Lib.hid hB2
  have HBR4 := Lib.hid (Below.refl V.heap.size V)
  have b0 := hB4.cell 0
  have b1 := hB4.cell 1
  have b2 := hB4.cell 2
  have b3 := hB4.cell 3
  have b4 := hB4.cell 4
  have b5 := hB4.cell 5
  have bz := hB4.lt
  clear hcf hco hcl fin hB4 hb4 hB2 hnt4 HNT HB5 HB HBW HZW HR HF HO HL
  go_wp2_with (first | (go_at_call 63; go_loud (refine (HCF.out _ HBR4.out).mono ?_; rintro ee w6 ⟨rfl, hb6⟩; have HB6 := Lib.hid (HBR4.out.trans (hb6.mono HBR4.out.size)); have B := HB4.out.below HB6.out HB4.out.lt; have b0 := B.cell 0; have b1 := B.cell 1; have b2 := B.cell 2; have b3 := B.cell 3; have b4 := B.cell 4; have b5 := B.cell 5; have bz := B.lt; clear B hb6)) | (go_at_call 61; go_loud (refine (HCO.out _ HB6.out).mono ?_; rintro ee w7 ⟨rfl, hb7⟩; have HB7 := Lib.hid (HB6.out.trans (hb7.mono HB6.out.size)); have B := HB4.out.below HB7.out HB4.out.lt; have b0 := B.cell 0; have b1 := B.cell 1; have b2 := B.cell 2; have b3 := B.cell 3; have b4 := B.cell 4; have b5 := B.cell 5; have bz := B.lt; clear B hb7)) | (go_at_call 64; go_loud (refine (HCL.out _ HB7.out).mono ?_; rintro ee w8 ⟨rfl, hb8⟩; have HB8 := Lib.hid (HB7.out.trans (hb8.mono HB7.out.size)); have B := HB4.out.below HB8.out HB4.out.lt; have b0 := B.cell 0; have b1 := B.cell 1; have b2 := B.cell 2; have b3 := B.cell 3; have b4 := B.cell 4; have b5 := B.cell 5; have bz := B.lt; have A := HB2.out.below HB8.out HB2.out.lt; have a0 := A.cell 0; have a1 := A.cell 1; have a2 := A.cell 2; have a3 := A.cell 3; have a4 := A.cell 4; have a5 := A.cell 5; have az := A.lt; have af : ∀ i, w8.frozen? ⟨w.heap.size, i, none⟩ = false := A.frozen; clear A; clear B hb8)))
  have hF := HFIN.out _ HB8.out
  exact bodyPost_ret (v := .tuple #[.agg #[.int .u8 tk, .slice o1 n1 c1, .int .i64 tl, .int .i64 th, .bool tz, .slice o2 n2 c2], .int .i64 0]) (by simp [results, Tryz.results39, go_sem, hF.2.cell]) rfl hF.1
end Go.Proofs.YtnhjakdmbfadlaaGreatDoor
