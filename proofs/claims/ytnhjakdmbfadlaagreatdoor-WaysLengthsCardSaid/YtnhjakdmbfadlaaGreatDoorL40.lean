/- Parts of the proof: ShelfS, Eac, Cou, Con. Conditions: none. -/
import Derived.Shelf.Sort.Plain
import Derived.Shelf.Slices.Turned
import Derived.Ground.Names2Prog
import Derived.Shelf.Slices.CompactI
import Derived.Shelf.Slices.Cells
import Derived.Shelf.Slices.In.SortNone
import Derived.Shelf.Slices.Empties2
import Derived.Test.YtnhjakdmbfadlaaGreatDoorProg
import Derived.Test.YtnhjakdmbfadlaaGreatDoorL20
import Derived.Test.YtnhjakdmbfadlaaGreatDoorL38
import Derived.Test.YtnhjakdmbfadlaaGreatDoorL39
import Derived.Sort.Grow
set_option linter.all false
/-
  DERIVED: THE SHELF's CONTRACTS AT THIS DUMP, IN PLAIN WORDS (tools/lay-plain.mjs out of 'TryzShelf.lean', which tools/lay-shelf.mjs wrote): THE SAME DECLARATIONS UNDER THE SAME NAMES: 'import', 'namespace', 'open', 'def', 'theorem' AND NOTHING ELSE: no command of the shelf's: FOR A HAND-IN. Each laying: the table of numbers ('.._ren') and one theorem, a field a fact of the dump's own or the kernel's comparison; each contract: ONE APPLICATION.
-/
namespace Go.Proofs
open Go.Shelf
def Tryz.lays189_ren : Go.Shelf.Ren := ⟨fun | 189 => 73 | 125 => 94 | 257 => 93 | 128 => 119 | 129 => 120 | 294 => 110 | 295 => 111 | 296 => 112 | 297 => 113 | 298 => 114 | 299 => 115 | 216 => 116 | 300 => 117 | 301 => 118 | 328 => 130 | 329 => 131 | 330 => 132 | 331 => 133 | 332 => 134 | 215 => 129 | 343 => 138 | n => n, fun | 28 => 48 | 3 => 3 | 46 => 137 | 0 => 0 | 51 => 197 | 53 => 163 | 4 => 4 | 183 => 190 | 182 => 189 | 131 => 165 | 5 => 5 | 9 => 9 | 218 => 208 | 222 => 212 | 228 => 216 | 229 => 87 | n => n, fun | n => n⟩
theorem Tryz.lays189 : Go.Proofs.Lays.n189 Tryz.prog Tryz.lays189_ren := {
  mixed := by kernel_rfl
  f125 := Tryz.func94.trans (congrArg some (by kernel_rfl))
  f128 := Tryz.func119.trans (congrArg some (by kernel_rfl))
  f129 := Tryz.func120.trans (congrArg some (by kernel_rfl))
  f189 := Tryz.func73.trans (congrArg some (by kernel_rfl))
  f215 := Tryz.func129.trans (congrArg some (by kernel_rfl))
  f216 := Tryz.func116.trans (congrArg some (by kernel_rfl))
  f257 := Tryz.func93.trans (congrArg some (by kernel_rfl))
  f294 := Tryz.func110.trans (congrArg some (by kernel_rfl))
  f295 := Tryz.func111.trans (congrArg some (by kernel_rfl))
  f296 := Tryz.func112.trans (congrArg some (by kernel_rfl))
  f297 := Tryz.func113.trans (congrArg some (by kernel_rfl))
  f298 := Tryz.func114.trans (congrArg some (by kernel_rfl))
  f299 := Tryz.func115.trans (congrArg some (by kernel_rfl))
  f300 := Tryz.func117.trans (congrArg some (by kernel_rfl))
  f301 := Tryz.func118.trans (congrArg some (by kernel_rfl))
  f328 := Tryz.func130.trans (congrArg some (by kernel_rfl))
  f329 := Tryz.func131.trans (congrArg some (by kernel_rfl))
  f330 := Tryz.func132.trans (congrArg some (by kernel_rfl))
  f331 := Tryz.func133.trans (congrArg some (by kernel_rfl))
  f332 := Tryz.func134.trans (congrArg some (by kernel_rfl))
  f343 := Tryz.func138.trans (congrArg some (by kernel_rfl))
  t0 := Tryz.underlying0
  a0 := Tryz.isAgg0
  z0 := Tryz.sizeOf0
  v0 := Tryz.zeroValue0
  t3 := Tryz.underlying3
  a3 := Tryz.isAgg3
  z3 := Tryz.sizeOf3
  v3 := Tryz.zeroValue3
  t4 := Tryz.underlying4
  a4 := Tryz.isAgg4
  z4 := Tryz.sizeOf4
  v4 := Tryz.zeroValue4
  t5 := Tryz.underlying5
  a5 := Tryz.isAgg5
  z5 := Tryz.sizeOf5
  v5 := Tryz.zeroValue5
  t9 := Tryz.underlying9
  a9 := Tryz.isAgg9
  z9 := Tryz.sizeOf9
  v9 := Tryz.zeroValue9
  t28 := Tryz.underlying48
  a28 := Tryz.isAgg48
  z28 := Tryz.sizeOf48
  v28 := Tryz.zeroValue48
  t46 := Tryz.underlying137
  a46 := Tryz.isAgg137
  z46 := Tryz.sizeOf137
  v46 := Tryz.zeroValue137
  t51 := Tryz.underlying197
  a51 := Tryz.isAgg197
  z51 := Tryz.sizeOf197
  v51 := Tryz.zeroValue197
  t53 := Tryz.underlying163
  a53 := Tryz.isAgg163
  z53 := Tryz.sizeOf163
  v53 := Tryz.zeroValue163
  t131 := Tryz.underlying165
  a131 := Tryz.isAgg165
  z131 := Tryz.sizeOf165
  v131 := Tryz.zeroValue165
  t182 := Tryz.underlying189
  a182 := Tryz.isAgg189
  z182 := Tryz.sizeOf189
  v182 := Tryz.zeroValue189
  t183 := Tryz.underlying190
  a183 := Tryz.isAgg190
  z183 := Tryz.sizeOf190
  v183 := Tryz.zeroValue190
  t218 := Tryz.underlying208
  a218 := Tryz.isAgg208
  z218 := Tryz.sizeOf208
  v218 := Tryz.zeroValue208
  t222 := Tryz.underlying212
  a222 := Tryz.isAgg212
  z222 := Tryz.sizeOf212
  v222 := Tryz.zeroValue212
  t228 := Tryz.underlying216
  a228 := Tryz.isAgg216
  z228 := Tryz.sizeOf216
  v228 := Tryz.zeroValue216
  t229 := Tryz.underlying87
  a229 := Tryz.isAgg87
  z229 := Tryz.sizeOf87
  v229 := Tryz.zeroValue87 }
open Go.Sort Go.RowKit in
theorem Tryz.slices_Sort_int (blk off cap : Nat) (zs : List Int) (w : World) (hH : Holds (Value.int .i64) w blk off zs.toArray) (hblk : blk < w.heap.size) (hsz : zs.length < 4611686018427387904) :
    Calls Tryz.prog 73 #[.slice (some ⟨blk, off, none⟩) zs.length cap] w fun e w' =>
      e = .returned (.tuple #[]) ∧ ∃ n os, w' = grow (putRow (Value.int .i64) (Sort.ahead w n) blk off (zs.mergeSort fun x y => decide (x ≤ y)).toArray) os := Any.slices_Sort_int Tryz.lays189 blk off cap zs w hH hblk hsz
def Tryz.lays107_ren : Go.Shelf.Ren := ⟨fun | 107 => 19 | 108 => 52 | n => n, fun | 28 => 48 | 3 => 3 | 4 => 4 | 0 => 0 | n => n, fun | n => n⟩
theorem Tryz.lays107 : Go.Proofs.Lays.n107 Tryz.prog Tryz.lays107_ren := {
  mixed := by kernel_rfl
  f107 := Tryz.func19.trans (congrArg some (by kernel_rfl))
  f108 := Tryz.func52.trans (congrArg some (by kernel_rfl))
  t0 := Tryz.underlying0
  a0 := Tryz.isAgg0
  z0 := Tryz.sizeOf0
  v0 := Tryz.zeroValue0
  t3 := Tryz.underlying3
  a3 := Tryz.isAgg3
  z3 := Tryz.sizeOf3
  v3 := Tryz.zeroValue3
  t4 := Tryz.underlying4
  a4 := Tryz.isAgg4
  z4 := Tryz.sizeOf4
  v4 := Tryz.zeroValue4
  t28 := Tryz.underlying48
  a28 := Tryz.isAgg48
  z28 := Tryz.sizeOf48
  v28 := Tryz.zeroValue48 }
open Go.Lib in
/-- slices.Contains at []int: "Contains reports whether v is present in s.": IT RETURNS 'elements.contains v'; the world is as it was. ITS CALLEE slices.Index IS MET BY ITS OWN CONTRACT OFF THE SHELF (lay that first): no loop is walked here. (LAID: no walk: one application.) -/
theorem Tryz.slices_Contains_int (b off n c : Nat) (zs : List Int) (x : Int) (w : World) (hz : n ≤ zs.length) (hbig : n ≤ 9223372036854775807) (hc : ∀ j, j < zs.length → w.cell? ⟨b, off + j, none⟩ = some (.int .i64 (zs.getD j 0))) :
    Calls Tryz.prog 19 #[.slice (some ⟨b, off, none⟩) n c, .int .i64 x] w fun e w' => e = .returned (.bool ((zs.take n).contains x)) ∧ w' = w := Any.slices_Contains_int Tryz.lays107 b off n c zs x w hz hbig hc
open Go.Lib in
/-- The same at a slice of length 0, a nil one too. (LAID: no walk: one application.) -/
theorem Tryz.slices_Contains_int_empty (a : Option Addr) (c : Nat) (x : Int) (w : World) :
    Calls Tryz.prog 19 #[.slice a 0 c, .int .i64 x] w fun e w' => e = .returned (.bool false) ∧ w' = w := Any.slices_Contains_int_empty Tryz.lays107 a c x w
def Tryz.laysNm220_ren : Go.Shelf.Ren := ⟨fun | 20 => 74 | n => n, fun | 22 => 48 | 3 => 3 | 4 => 4 | 0 => 0 | n => n, fun | n => n⟩
theorem Tryz.laysNm220 : Go.Proofs.Lays2.n20 Tryz.prog Tryz.laysNm220_ren := {
  mixed := by kernel_rfl
  f20 := Tryz.func74.trans (congrArg some (by kernel_rfl))
  t0 := Tryz.underlying0
  a0 := Tryz.isAgg0
  z0 := Tryz.sizeOf0
  v0 := Tryz.zeroValue0
  t3 := Tryz.underlying3
  a3 := Tryz.isAgg3
  z3 := Tryz.sizeOf3
  v3 := Tryz.zeroValue3
  t4 := Tryz.underlying4
  a4 := Tryz.isAgg4
  z4 := Tryz.sizeOf4
  v4 := Tryz.zeroValue4
  t22 := Tryz.underlying48
  a22 := Tryz.isAgg48
  z22 := Tryz.sizeOf48
  v22 := Tryz.zeroValue48
  i3 := by kernel_rfl }
open Go.RowKit Go.Lib Go.Sort in
/-- slices.Compact at []int: "Compact replaces consecutive runs of equal elements with a single copy. This is like the uniq command found on Unix. Compact modifies the contents of the slice s and returns the modified slice, which may have a smaller length. Compact zeroes the elements between the new length and the original length. The result preserves the nilness of s.": IT RETURNS THE SLICE CUT TO 'Lib.compact zs'; ITS CELLS HOLD 'Lib.compact zs', THEN ZERO VALUES up to the old length; all else is as it was, but for the count of draws. IN THE WORDS OF slices.Sort's CONTRACT ('Holds', 'putRow'): so the everyday 'slices.Sort(xs); xs = slices.Compact(xs)' goes from the one contract to the other. It asks 'zs.length ≤ cap' (every slice's: the reslicing 's[:k]' looks at it). Length 0, nil: '.._empty'. (LAID: no walk: one application.) -/
theorem Tryz.slices_Compact_int (blk off cap : Nat) (zs : List Int) (w : World) (hH : Holds (Value.int .i64) w blk off zs.toArray) (hsz : zs.length ≤ 9223372036854775807) (hcap : zs.length ≤ cap) :
    Calls Tryz.prog 74 #[.slice (some ⟨blk, off, none⟩) zs.length cap] w fun e w' => e = .returned (.slice (some ⟨blk, off, none⟩) (Lib.compact zs).length cap) ∧ ∃ q, w' = putRow (Value.int .i64) (Sort.ahead w q) blk off (Lib.compact zs ++ List.replicate (zs.length - (Lib.compact zs).length) 0).toArray := Any.slices_Compact_int Tryz.laysNm220 blk off cap zs w hH hsz hcap
open Go.RowKit Go.Lib Go.Sort in
/-- The same at a slice of length 0, a nil one too: it comes back as it is. (LAID: no walk: one application.) -/
theorem Tryz.slices_Compact_int_empty (a : Option Addr) (cap : Nat) (w : World) :
    Calls Tryz.prog 74 #[.slice a 0 cap] w fun e w' => e = .returned (.slice a 0 cap) ∧ w' = w := Any.slices_Compact_int_empty Tryz.laysNm220 a cap w
open Go.RowKit Go.Sort in
/-- .. and plain. (LAID: no walk: one application.) -/
theorem Tryz.slices_Sort_int_none (p : Option Addr) (cap : Nat) (w : World) :
    Calls Tryz.prog 73 #[.slice p 0 cap] w fun e w' => e = .returned (.tuple #[]) ∧ w' = w := Any.slices_Sort_int_none Tryz.lays189 p cap w
end Go.Proofs

/- Ends and Count, at right trees and short strings. -/
namespace Go.Proofs.YtnhjakdmbfadlaaGreatDoor
open Go.RowKit Wy Mem Grow Go.Sort

def intZs (l : List Int) : List Value := l.map fun x : Int => .int .i64 x
/-- the ints of a list, in order -/
def sorI (l : List Nat) : List Int := (l.map fun x : Nat => (x : Int)).mergeSort fun x y => decide (x ≤ y)
theorem sorI_len (l : List Nat) : (sorI l).length = l.length := by unfold sorI; rw [List.length_mergeSort, List.length_map]
theorem endsI_eq (l : List Nat) : endsI l = Lib.compact (sorI l) := rfl
theorem own_holds {B g n cap : Nat} {w : World} {l : List Nat} {t : TypeId} (h : w.ownsRow B t 1 (.slice (some ⟨g, 0, none⟩) n cap) n (intCs l)) (hn : n = l.length) : Holds (Value.int .i64) w g 0 (l.map fun x : Nat => (x : Int)).toArray := by
  intro j hj
  have hj' : j < l.length := by simpa using hj
  refine ⟨?_, h.frozenAt _⟩
  rw [Nat.zero_add, h.cellAt j (by omega)]
  simp [intCs, hj']
theorem putRow_kept (w : World) (g n : Nat) (d : Array Int) (os : Array Obj) : Kept (fun b => b = g) w (grow (putRow (Value.int .i64) (Sort.ahead w n) g 0 d) os) := by
  refine ⟨rfl, rfl, rfl, by simp, fun k hk hx => ?_⟩
  rw [heap_grow_old _ _ (by simpa using hk)]
  show (w.heap.modify g _)[k]? = _
  rw [Array.getElem?_modify, if_neg (fun e => hx e.symm)]
/-- a row of ints, sorted, in memory -/
def SorAt (w : World) (v : Value) (l : List Nat) : Prop := (v = .slice none 0 0 ∧ l = []) ∨ ∃ g c, v = .slice (some ⟨g, 0, none⟩) l.length c ∧ g < w.heap.size ∧ l.length ≤ c ∧ c ≤ maxLen ∧ Holds (Value.int .i64) w g 0 (sorI l).toArray
theorem sort_any {B : Nat} {w : World} {v : Value} {l : List Nat} (h : w.ownsRow B 3 1 v l.length (intCs l)) (hl : l.length ≤ 500) :
    Calls Tryz.prog 73 #[v] w fun e w' => e = .returned (.tuple #[]) ∧ SorAt w' v l ∧ Kept (fun q => v.ownBlock = some q) w w' := by
  rcases h.2 with ⟨rfl, h0⟩ | ⟨g, cap, cur, rfl, hB, hh, h1, h2, h3, h4⟩
  · obtain rfl : l = [] := by cases l with
      | nil => rfl
      | cons a r => cases h0
    exact (Tryz.slices_Sort_int_none none 0 w).mono fun e w' ⟨h1, h2⟩ => ⟨h1, .inl ⟨rfl, rfl⟩, by rw [h2]; exact Kept.refl _ _⟩
  · have hH := own_holds h rfl
    have hg : g < w.heap.size := (h.lt g rfl).2
    have := Tryz.slices_Sort_int g 0 cap (l.map fun x : Nat => (x : Int)) w hH hg (by rw [List.length_map]; omega)
    rw [List.length_map] at this
    refine this.mono fun e w' ⟨h1', n, os, h2'⟩ => ⟨h1', .inr ⟨g, cap, rfl, ?_, h1, h2, ?_⟩, ?_⟩
    · rw [h2']; simp; omega
    · rw [h2']
      refine holds_grow _ _ _ _ _ _ (by simpa using hg) ?_
      exact holds_putRow _ _ _ _ _ _ (holds_ahead _ _ n _ _ _ hH) (by simp [List.length_mergeSort])
    · rw [h2']
      exact (putRow_kept w g n _ os).mono (fun q _ e => by rw [e]; rfl)
theorem compact_any {w : World} {v : Value} {l : List Nat} (h : SorAt w v l) (hl : l.length ≤ 500) :
    Calls Tryz.prog 74 #[v] w fun e w' => ∃ o c, e = .returned (.slice o (endsI l).length c) ∧ Row (fun q => v.ownBlock = some q) w' (.slice o (endsI l).length c) (endsI l).length 1 (intZs (endsI l)) ∧ Kept (fun q => v.ownBlock = some q) w w' := by
  rcases h with ⟨rfl, rfl⟩ | ⟨g, c, rfl, hg, h1, h2, hH⟩
  · rw [endsI_nil]
    exact (Tryz.slices_Compact_int_empty none 0 w).mono fun e w' ⟨h1, h2⟩ => ⟨none, 0, h1, ⟨rfl, .inl ⟨rfl, none, 0, rfl⟩⟩, by rw [h2]; exact Kept.refl _ _⟩
  · have := Tryz.slices_Compact_int g 0 c (sorI l) w hH (by rw [sorI_len]; omega) (by rw [sorI_len]; omega)
    rw [sorI_len] at this
    refine this.mono fun e w' ⟨h1', q, h2'⟩ => ⟨some ⟨g, 0, none⟩, c, h1', ⟨by simp [intZs], .inr ⟨g, 0, c, rfl, ?_, h2, rfl, ?_, fun j hj => ?_⟩⟩, ?_⟩
    · have := endsI_len l; omega
    · rw [h2']; simp; exact hg
    · rw [h2']
      have hj' : j < (endsI l).length := by simpa [intZs] using hj
      have hle := endsI_len l
      rw [endsI_eq] at hj' hle ⊢
      have h0 := holds_ahead _ w q _ _ _ hH
      have hs : (Lib.compact (sorI l) ++ List.replicate (l.length - (Lib.compact (sorI l)).length) (0 : Int)).toArray.size = (sorI l).toArray.size := by simp [sorI_len]; omega
      have := (holds_putRow (Value.int .i64) (Sort.ahead w q) g 0 (sorI l).toArray _ h0 hs j (by rw [hs]; simp [sorI_len]; omega)).1
      rw [this]
      simp [intZs, List.getElem?_append_left hj', hj']
    · rw [h2']
      have := putRow_kept w g q (Lib.compact (sorI l) ++ List.replicate (l.length - (Lib.compact (sorI l)).length) (0 : Int)).toArray #[]
      rw [grow_empty] at this
      exact this.mono (fun q _ e => by rw [e]; rfl)
theorem ends1_any (st : Int) (o : Option Addr) (n c : Nat) (w : World) : Calls Tryz.prog 49 #[.agg #[.int .i64 st, .slice o n c]] w fun e w' => e = .returned (.int .i64 st) ∧ Below w.heap.size w w' := by
  go_enter Tryz.func49, Tryz.ntmps49
  go_wp2
  go_ret
  exact ⟨rfl, (Below.refl _ _).alloc (Nat.le_refl _) _⟩
/-- what each hands back: the ends, in order, each once, in a new block -/
def Eac (l : List Nat) (w : World) (e : Ending) (w' : World) : Prop := ∃ o c, e = .returned (.slice o (endsI l).length c) ∧ Row (fun q => w.heap.size ≤ q) w' (.slice o (endsI l).length c) (endsI l).length 1 (intZs (endsI l)) ∧ Below w.heap.size w w'
set_option maxHeartbeats 4000000 in
set_option maxRecDepth 100000 in
theorem each_any {N : Nat → Prop} {w : World} {G L : Nat} {v : Value} {l : List Wy.Way} (h : WaysAt N w G L v l) (hl : l.length ≤ 500) : Calls Tryz.prog 48 #[v, .func (.func 49) #[] #[]] w (Eac (l.map Wy.Way.stop) w) := by
  obtain ⟨o, c, rfl⟩ := h.slice
  have H := Lib.hid h
  clear h
  have hlI : (l.length : Int) ≤ 500 := by omega
  obtain ⟨i0, hi0, hz0, hz1, hz2⟩ := info_parts info3
  go_enter Tryz.func48, Tryz.ntmps48
  go_wp2_with fail
  go_loopw [5, 10] (fun s5 s10 wx => ∃ j : Nat, j ≤ l.length ∧ s10 = .int .i64 j ∧ wx.ownsRow w.heap.size 3 1 s5 j (intCs ((l.take j).map Wy.Way.stop)) ∧ Below w.heap.size w wx) (fun _ s10 _ => l.length - (intOf s10).toNat)
  case atStart => exact ⟨0, by omega, rfl, World.ownsRow_nil _ _ _ _, Below.refl _ _⟩
  case round =>
    rename World => Wa
    obtain ⟨j, hj, rfl, hro, hbw⟩ := hrel
    have HBW := Lib.hid hbw
    obtain ⟨ov, cv, rfl⟩ := own_slice hro
    by_cases hjl : ¬ j < l.length
    · obtain rfl : j = l.length := by omega
      rw [List.take_length] at hro
      have hlm : (l.map Wy.Way.stop).length = l.length := List.length_map _
      have hso := sort_any (l := l.map Wy.Way.stop) (by rw [hlm]; exact hro) (by rw [hlm]; exact hl)
      have hblk : ∀ q, (Value.slice ov l.length cv).ownBlock = some q → w.heap.size ≤ q := fun q e => (hro.lt q e).1
      have HSO := Lib.hid hso
      have HBLK := Lib.hid hblk
      clear hso hro hbw hblk
      go_wp2_with (first
        | (go_at_call 73; go_loud (refine HSO.out.mono ?_; rintro e w5 ⟨rfl, hs5, hk5⟩; have HK5 := Lib.hid hk5; have HCO := Lib.hid (compact_any hs5 (by rw [hlm]; exact hl)); clear hs5 hk5))
        | (go_at_call 74; go_loud (refine HCO.out.mono ?_; rintro e w6 ⟨o6, c6, rfl, hr6, hk6⟩; have HR6 := Lib.hid hr6; have HK6 := Lib.hid hk6; clear hr6 hk6)))
      go_ret
      exact ⟨o6, c6, rfl, HR6.out.mono (fun q e => HBLK.out q e), HBW.out.trans ((HK5.out.trans HK6.out).belowOf HBW.out.size (fun q hq e => by have := HBLK.out q e; omega))⟩
    · have hjl : j < l.length := by omega
      obtain ⟨b, off, cap, hve, hc1, hc2, hNb, hbz, hcell⟩ := H.out.cells (by omega)
      simp only [Value.slice.injEq, true_and] at hve
      obtain ⟨rfl, rfl⟩ := hve
      obtain ⟨sv, e0, e1, hsv, -, -⟩ := hcell j hjl
      obtain ⟨so, sc, rfl⟩ := hsv.row.slice
      have y0 : Wa.cell? ⟨b, off + j * 2, none⟩ = some (.int .i64 l[j].stop) := (hbw.cell (p := ⟨b, off + j * 2, none⟩) hbz).trans e0
      have y1 : Wa.cell? ⟨b, off + j * 2 + 1, none⟩ = some (.slice so l[j].spans.length sc) := (hbw.cell (p := ⟨b, off + j * 2 + 1, none⟩) hbz).trans e1
      have hbza : b < Wa.heap.size := by have := hbw.size; omega
      have hjI : (j : Int) < l.length := by omega
      have hcI : (l.length : Int) ≤ c := by omega
      obtain ⟨x, hx⟩ : ∃ x, x = l[j] := ⟨_, rfl⟩
      rw [← hx] at y0 y1
      have hmx : j + 1 ≤ maxLen := by unfold maxLen; omega
      have hby : (j + 1) * 8 ≤ 140737488355328 := by omega
      have HX := Lib.hid hx
      have HRO := Lib.hid hro
      have HC := Lib.hid (ends1_any (x.stop : Int) so x.spans.length sc (Wa.alloc (.cells #[.int .i64 x.stop, .slice so x.spans.length sc] 43)))
      have hfin : ∀ w5, Below (Wa.alloc (.cells #[.int .i64 x.stop, .slice so x.spans.length sc] 43)).heap.size (Wa.alloc (.cells #[.int .i64 x.stop, .slice so x.spans.length sc] 43)) w5 →
          (w5.alloc (.cells #[.int .i64 x.stop] 3)).ownsRow w.heap.size 3 1 (.slice ov j cv) j (intCs ((l.take j).map Wy.Way.stop)) ∧ w.heap.size ≤ (w5.alloc (.cells #[.int .i64 x.stop] 3)).heap.size ∧
          ∀ w4, (w5.alloc (.cells #[.int .i64 x.stop] 3)).grownBy w4 (Value.slice ov j cv).ownBlock → Below w.heap.size w w4 := fun w5 hb5 => by
        have hb1 := HBW.out.alloc HBW.out.size (.cells #[.int .i64 x.stop, .slice so x.spans.length sc] 43)
        have hb2 := hb1.trans (hb5.mono hb1.size)
        have hk : Kept (fun _ => False) Wa (w5.alloc (.cells #[.int .i64 x.stop] 3)) := (((Kept.refl (fun _ => False) Wa).alloc _).trans (Kept.of_below hb5 _)).alloc _
        have hro2 := ownsRow_go HRO.out hk (fun _ _ => id)
        exact ⟨hro2, by have := hb2.size; simp; omega, fun w4 hg => ((Kept.of_below (hb2.alloc (by have := hb2.size; omega) (.cells #[.int .i64 x.stop] 3)) (fun q => (Value.slice ov j cv).ownBlock = some q)).trans (Kept.of_grown hg)).below (fun q hq e => by have := (hro2.lt q e).1; omega)⟩
      have HFIN := Lib.hid hfin
      clear hcell e0 e1 hsv hx hro hbw hfin
      go_wp2_with (first
        | (go_at_call 49; go_loud (refine HC.out.mono ?_; rintro e w5 ⟨rfl, hb5⟩; have HF := Lib.hid (HFIN.out w5 hb5); have HSR := Lib.hid (src_int (W := w5) (c0 := .int .i64 x.stop) rfl); clear hb5))
        | (at_builtin; go_loud (refine wpList_append_row rfl _ _ 48 rfl Tryz.underlying48 hi0 hz0 hz1 hz2 rfl (.slice ov j cv) j (intCs ((l.take j).map Wy.Way.stop)) rfl HF.out.1 _ 1 _ rfl HSR.out rfl (by simp [Value.oneCell']) hmx hby HF.out.2.1 ?_; intro v' w4 hown' hgrow h3' h4'; have HO := Lib.hid hown'; have HB4 := Lib.hid (HF.out.2.2 w4 hgrow); clear hown' hgrow h3' h4')))
      go_roundw
      case rel => exact ⟨j + 1, by omega, by go_num, by
        have := HO.out
        rw [List.take_succ_eq_append_getElem hjl, ← HX.out]
        simpa [intCs] using this, HB4.out⟩
      case measure => simp [intOf]; omega
/-- what Ends hands back -/
def zsE (s : ByteArray) (t : Nd) : List Int := endsI ((lA s t).map Wy.Way.stop)
def Edo (s : ByteArray) (t : Nd) (w : World) (e : Ending) (w' : World) : Prop := ∃ o c, e = .returned (.tuple #[.slice o (zsE s t).length c, .int .i64 (erW s t)]) ∧ Row (fun q => w.heap.size ≤ q) w' (.slice o (zsE s t).length c) (zsE s t).length 1 (intZs (zsE s t)) ∧ Below w.heap.size w w'
theorem erW_or (s : ByteArray) (t : Nd) : erW s t = 0 ∨ erW s t = 5 ∧ lA s t = [] := by
  unfold erW lA
  cases Wy.ways (strS s) t with
  | none => exact .inr ⟨rfl, rfl⟩
  | some l => exact .inl rfl
theorem edo_none {s : ByteArray} {t : Nd} {w w' : World} (h : zsE s t = []) (he : erW s t = 5) (hb : Below w.heap.size w w') : Edo s t w (.returned (.tuple #[.slice none 0 0, .int .i64 5])) w' := by
  unfold Edo
  rw [h, he]
  exact ⟨none, 0, rfl, ⟨rfl, .inl ⟨rfl, none, 0, rfl⟩⟩, hb⟩
theorem edo_some {s : ByteArray} {t : Nd} {w w' : World} {o : Option Addr} {c : Nat} (he : erW s t = 0) (hr : Row (fun q => w.heap.size ≤ q) w' (.slice o (zsE s t).length c) (zsE s t).length 1 (intZs (zsE s t))) (hb : Below w.heap.size w w') : Edo s t w (.returned (.tuple #[.slice o (zsE s t).length c, .int .i64 0])) w' := by
  unfold Edo
  rw [he]
  exact ⟨o, c, rfl, hr, hb⟩
set_option maxHeartbeats 4000000 in
set_option maxRecDepth 100000 in
theorem ends_ok {w : World} {t : Nd} {cs : List Value} {s : ByteArray} (h : NdAt (fun _ => True) w t cs) (hr : right t = true) (hno : nodes t ≤ 1000000) (hs : s.size ≤ 32) (hv : Lib.validD s.data.toList = true) (htab : Lib.Utf8Tabs 0 1 w) (hnone : NoneAt w) :
    Calls Tryz.prog 16 #[.agg cs.toArray, .string s] w (Edo s t w) := by
  obtain ⟨k, lo, hi, lz, o1, o2, n1, c1, n2, c2, rfl⟩ := nd6c h
  have hall : ∀ W, Below w.heap.size w W → Calls Tryz.prog 13 #[.agg #[.int .u8 k, .slice o1 n1 c1, .int .i64 lo, .int .i64 hi, .bool lz, .slice o2 n2 c2], .string s] W (Alu s t W) := fun W hW =>
    alu_any (NdAt.go (Kept.of_below hW (fun _ => False)) (fun _ _ _ => ⟨id, trivial⟩) h) hr hno hs hv (tabs_kept htab (Kept.of_below hW (fun _ => False)) id id (by have := hnone.1; omega)) (hnone.below hW)
  have HALL := Lib.hid hall
  clear h hall htab hnone
  go_enter Tryz.func16, Tryz.ntmps16
  go_upto_region 1 with fail
  have hN1 : Blk (w.alloc (.cells #[.int .u8 k, .slice o1 n1 c1, .int .i64 lo, .int .i64 hi, .bool lz, .slice o2 n2 c2] 27)) w.heap.size #[.int .u8 k, .slice o1 n1 c1, .int .i64 lo, .int .i64 hi, .bool lz, .slice o2 n2 c2] 27 := Blk.new _ _ _
  have hb1 : Below w.heap.size w (w.alloc (.cells #[.int .u8 k, .slice o1 n1 c1, .int .i64 lo, .int .i64 hi, .bool lz, .slice o2 n2 c2] 27)) := (Below.refl _ _).alloc (Nat.le_refl _) _
  generalize (w.alloc (.cells #[.int .u8 k, .slice o1 n1 c1, .int .i64 lo, .int .i64 hi, .bool lz, .slice o2 n2 c2] 27)) = W1 at hN1 hb1 ⊢
  obtain ⟨d0, d1, d2, d3, d4, d5⟩ : W1.cell? ⟨w.heap.size, 0, none⟩ = some (.int .u8 k) ∧ W1.cell? ⟨w.heap.size, 1, none⟩ = some (.slice o1 n1 c1) ∧ W1.cell? ⟨w.heap.size, 2, none⟩ = some (.int .i64 lo) ∧ W1.cell? ⟨w.heap.size, 3, none⟩ = some (.int .i64 hi) ∧ W1.cell? ⟨w.heap.size, 4, none⟩ = some (.bool lz) ∧ W1.cell? ⟨w.heap.size, 5, none⟩ = some (.slice o2 n2 c2) :=
    ⟨hN1.cell 0, hN1.cell 1, hN1.cell 2, hN1.cell 3, hN1.cell 4, hN1.cell 5⟩
  have dz := hN1.lt
  have HBE := Lib.hid hb1
  have HW := Lib.hid (HALL.out W1 hb1)
  have hlen := lA_len s t
  have hze := erW_or s t
  clear HALL hN1 hb1
  obtain ⟨er, her⟩ : ∃ er, er = erW s t := ⟨_, rfl⟩
  unfold Alu at HW
  rw [← her] at HW hze
  have HZ := Lib.hid hze
  have HER := Lib.hid her
  clear hze her
  rcases HZ.out with rfl | ⟨rfl, hl0⟩
  · go_wp2_with (first
      | (go_at_call 13; go_loud (refine HW.out.mono ?_; rintro e w2 ⟨o6, c6, rfl, hw2, hb2⟩; have HB2 := Lib.hid (HBE.out.trans (hb2.mono HBE.out.size)); have HE := Lib.hid (each_any hw2 hlen); clear hb2 hw2))
      | (go_at_call 48; go_loud (refine HE.out.mono ?_; rintro e w3 ⟨o7, c7, rfl, hr7, hb3⟩; have HR7 := Lib.hid hr7; have HB3 := Lib.hid hb3; clear hr7 hb3)))
    exact bodyPost_ret (v := .tuple #[.slice o7 (zsE s t).length c7, .int .i64 0]) (by simp [results, Tryz.results16, go_sem]; rfl) rfl (edo_some HER.out.symm (HR7.out.mono (fun q hq => by have := HB2.out.size; omega)) (HB2.out.trans (HB3.out.mono HB2.out.size)))
  · have hz0 : zsE s t = [] := by unfold zsE; rw [hl0]; exact endsI_nil
    rw [hl0] at HW
    have HZ0 := Lib.hid hz0
    have HW2 := Lib.hid (show Calls Tryz.prog 13 #[.agg #[.int .u8 k, .slice o1 n1 c1, .int .i64 lo, .int .i64 hi, .bool lz, .slice o2 n2 c2], .string s] W1 (fun e w' => ∃ o c, e = .returned (.tuple #[.slice o 0 c, .int .i64 5]) ∧ Below W1.heap.size W1 w') from HW.out.mono fun e w' ⟨o, c, h1, _, h3⟩ => ⟨o, c, h1, h3⟩)
    clear HW hz0 hl0
    go_wp2_with (go_at_call 13; go_loud (refine HW2.out.mono ?_; rintro e w2 ⟨o6, c6, rfl, hb2⟩; have HB2 := Lib.hid (HBE.out.trans (hb2.mono HBE.out.size)); clear hb2))
    exact bodyPost_ret (v := .tuple #[.slice none 0 0, .int .i64 5]) (by simp [results, Tryz.results16, go_sem]) rfl (edo_none HZ0.out HER.out.symm HB2.out)
end Go.Proofs.YtnhjakdmbfadlaaGreatDoor

/- Count and Groups, at right trees and short strings. -/
namespace Go.Proofs.YtnhjakdmbfadlaaGreatDoor
open Go.RowKit Wy Mem Grow

end Go.Proofs.YtnhjakdmbfadlaaGreatDoor

/- slices.Contains at ints; slices.ContainsFunc at the closure of WaysWhole. -/
namespace Go.Proofs.YtnhjakdmbfadlaaGreatDoor
open Go.RowKit Wy Mem Grow

theorem contI_any {N : Nat → Prop} {w : World} {v : Value} {zs : List Int} {x : Int} (h : Row N w v zs.length 1 (intZs zs)) (hl : zs.length ≤ 1000000) :
    Calls Tryz.prog 19 #[v, .int .i64 x] w fun e w' => e = .returned (.bool (decide (x ∈ zs))) ∧ w' = w := by
  rcases h.at_ with ⟨h0, o, c, rfl⟩ | ⟨b, off, cap, rfl, h1, h2, h3, h4, h5⟩
  · obtain rfl : zs = [] := List.eq_nil_of_length_eq_zero h0
    exact (Tryz.slices_Contains_int_empty o c x w).mono fun e w' ⟨h1, h2⟩ => ⟨by rw [h1]; simp, h2⟩
  · have := Tryz.slices_Contains_int b off zs.length cap zs x w (Nat.le_refl _) (by omega) (fun j hj => by
      rw [h5 j (by simpa [intZs] using hj)]
      simp [intZs, hj])
    refine this.mono fun e w' ⟨h1, h2⟩ => ⟨?_, h2⟩
    rw [h1, List.take_length]
    congr 2
    simp
end Go.Proofs.YtnhjakdmbfadlaaGreatDoor
