/- Parts of the proof: Pf, Pg. Conditions: none. -/
import Derived.Test.YtnhjakdmbfadlaaDoorS41
import Derived.Test.YtnhjakdmbfadlaaDoorS38
set_option linter.all false
/- WaysParts whole. -/
namespace Go.Proofs.YtnhjakdmbfadlaaDoor
open Go.RowKit Wy Mem Grow

theorem pair_nd {W : World} {q : Nat} {k : Int} {x y : Nd} {kx lox hix ky loy hiy : Int} {lzx lzy : Bool} {px1 px2 py1 py2 : Option Addr} {nx1 dx1 nx2 dx2 ny1 dy1 ny2 dy2 : Nat} (hk : 0 ≤ k ∧ k ≤ 255) (hB : Blk W q #[.int .u8 kx, .slice px1 nx1 dx1, .int .i64 lox, .int .i64 hix, .bool lzx, .slice px2 nx2 dx2, .int .u8 ky, .slice py1 ny1 dy1, .int .i64 loy, .int .i64 hiy, .bool lzy, .slice py2 ny2 dy2] 28) (hx : NdAt (fun _ => True) W x [.int .u8 kx, .slice px1 nx1 dx1, .int .i64 lox, .int .i64 hix, .bool lzx, .slice px2 nx2 dx2]) (hy : NdAt (fun _ => True) W y [.int .u8 ky, .slice py1 ny1 dy1, .int .i64 loy, .int .i64 hiy, .bool lzy, .slice py2 ny2 dy2]) :
    NdAt (fun _ => True) W (.mk k [] 0 0 false [x, y]) [.int .u8 k, .slice none 0 0, .int .i64 0, .int .i64 0, .bool false, .slice (some ⟨q, 0, none⟩) 2 2] := by
  have h2 := NdsAt.append (NdsAt.one hx) (NdsAt.one hy)
  refine nd_many (l := [x, y]) ⟨rfl, .inr ⟨q, 0, 2, rfl, Nat.le_refl _, by unfold maxLen; omega, trivial, hB.lt, fun j hj => ?_⟩⟩ h2 hk (by simp)
  rw [Nat.zero_add, hB.cell]
  simp
theorem pair_right {k : Int} (hk : k = 3 ∨ k = 4) {x y : Nd} {d g : Nat} (hx : Wy.Good x d g) (hy : Wy.Good y d g) (hd : d ≤ 39) (hg : g ≤ 15) : right (.mk k [] 0 0 false [x, y]) = true := by
  refine (good_many (d := d) (g := 30) hk (by simp) (fun s hs => ?_) ?_).right (by omega) (by omega)
  · simp only [List.mem_cons, List.not_mem_nil, or_false] at hs
    rcases hs with rfl | rfl
    · exact ⟨g, hx⟩
    · exact ⟨g, hy⟩
  · have h1 := hx.groups
    have h2 := hy.groups
    simp only [openedL]
    omega
end Go.Proofs.YtnhjakdmbfadlaaDoor

/- WaysParts whole. -/
namespace Go.Proofs.YtnhjakdmbfadlaaDoor
open Go.RowKit Wy Mem Grow

theorem made_mdn {N : Nat → Prop} {w : World} {v : Value} {L : List Sm} (h : SmsAt N w v L) (hL : L.length ≤ 9223372036854775807) : Calls Tryd.prog 7 #[v] w (Mdn (madeT L) w) :=
  (made_any h hL).mono fun e w' ⟨cs, h1, h2, h3⟩ => by
    obtain ⟨k, lo, hi, lz, p1, p2, n1, d1, n2, d2, rfl⟩ := nd6k h2
    exact ⟨k, lo, hi, lz, p1, p2, n1, d1, n2, d2, h1, h2, h3⟩
theorem min_take' {α : Type} (L : List α) (k : Nat) : L.take (min L.length k) = L.take k := by
  by_cases h : L.length ≤ k
  · rw [Nat.min_eq_left h, List.take_of_length_le (Nat.le_refl _), List.take_of_length_le h]
  · rw [Nat.min_eq_right (by omega)]
theorem sms_take {N : Nat → Prop} {w : World} {o : Option Addr} {c : Nat} {L : List Sm} (h : SmsAt N w (.slice o L.length c) L) : L.length ≤ c ∧ SmsAt N w (.slice o (min (L.length : Int) 8).toNat c) (L.take 8) := by
  refine ⟨?_, ?_⟩
  · rcases h.row.at_ with ⟨h0, _⟩ | ⟨b, off, cap, he, h1, _⟩
    · omega
    · simp only [Value.slice.injEq, true_and] at he
      omega
  · have := h.take (n := min L.length 8) rfl (by omega)
    rw [min_take'] at this
    rwa [show (min (L.length : Int) 8).toNat = min L.length 8 by omega]
end Go.Proofs.YtnhjakdmbfadlaaDoor
