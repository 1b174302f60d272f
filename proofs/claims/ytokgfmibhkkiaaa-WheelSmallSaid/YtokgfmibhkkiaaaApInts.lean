/- gaugerkit.ApartInts: slices that share no memory are told so. -/
import Derived.Test.YtokgfmibhkkiaaaFlatI
namespace Go.Proofs.Ytokgfmibhkkiaaa
open Go.RowKit Mem Grow Flat

/-- a bag that holds slices of int alone -/
def bagC (v : Value) : Array Value := #[v, .slice none 0 0, .slice none 0 0, .slice none 0 0, .slice none 0 0, .slice none 0 0, .slice none 0 0, .slice none 0 0]

set_option maxHeartbeats 2000000 in
theorem put_any {w : World} {B m base : Nat} {v0 : Value} {xs : List Value} (hB : Blk w B (bagC v0) 141) (ho : w.ownsRow base 68 1 v0 m xs) (hm : m ≤ 1000) (ob : Option Addr) (n c : Nat) (hbase : base ≤ w.heap.size) (hBb : base ≤ B) :
    Calls Try.prog 68 #[.pointer (some ⟨B, 0, none⟩), .slice ob n c] w fun e w' => ∃ g c', e = .returned (.tuple #[]) ∧ Blk w' B (bagC (.slice (some ⟨g, 0, none⟩) (m + 1) c')) 141 ∧
      w'.ownsRow base 68 1 (.slice (some ⟨g, 0, none⟩) (m + 1) c') (m + 1) (xs ++ [.slice ob n c]) ∧ Below base w w' := by
  obtain ⟨j0, hj0, hj1, hj2, hj3⟩ := info_parts info68
  have c0 : w.cell? ⟨B, 0, none⟩ = some v0 := by rw [hB.cell]; rfl
  have hBl := hB.lt
  have hnews : ∀ j u, [Value.slice ob n c][j]? = some u → (w.alloc (.cells #[.slice ob n c] 68)).cell? ((⟨w.heap.size, 0, none⟩ : Addr).add j) = some u := World.news_of_block (Blk.new w #[.slice ob n c] 68)
  have hone : ∀ u ∈ [Value.slice ob n c], u.oneCell' = true := by simp [Value.oneCell']
  have hmax : m + 1 ≤ maxLen := by unfold maxLen; omega
  have hbyt : (m + 1) * 24 ≤ 140737488355328 := by omega
  have hbs : base ≤ (w.alloc (.cells #[.slice ob n c] 68)).heap.size := by simp; omega
  have hBo := own_type (ho.alloc (.cells #[.slice ob n c] 68)) (hB.alloc (.cells #[.slice ob n c] 68)) (by decide)
  have HB := Lib.hid hB
  have HO := Lib.hid ho
  have HBO := Lib.hid hBo
  clear hB ho hBo
  go_enter Try.func68, Try.ntmps68
  go_wp2_with (first
    | (at_builtin; refine wpList_append_lies _ rfl _ _ 123 rfl base 68 j0 (.slice none 0 0) 1 24 Try.underlying123 hj0 hj1 hj2 hj3 rfl (by decide) _ _ _ rfl (HO.out.alloc _) _ 1 1 _ rfl rfl hnews hone (by decide) hmax hbyt hbs _ rfl ?_; intro g2 c2 w4 hown' hgrow _ _; have hB4 := blk_beside (HB.out.alloc _) hgrow HBO.out; have f4 := hB4.frozen 0; have x4 : w4.cell? ⟨B, 0, none⟩ = some v0 := by rw [hB4.cell]; rfl))
  go_end0
  exact ⟨g2, c2, rfl, hB4.set 0 _, ownsRow_setCell_other hown' (own_type hown' hB4 (by decide)) _, ((((Below.refl _ _).alloc hbase _).grown hgrow hbs (fun q hq => (HO.out.lt q hq).1)).setCell hBb _)⟩

set_option maxHeartbeats 8000000 in
set_option maxRecDepth 100000 in
theorem bag_apart {w : World} {B L N cL : Nat} {ss : Nat → Sl} (hB : Blk w B (bagC (.slice (some ⟨L, 0, none⟩) N cL)) 141) (hN : N ≤ 1000) (hcL : N ≤ cL) (hL : ∀ k, k < N → w.cell? ⟨L, k, none⟩ = some (ss k).val) (hLlt : L < w.heap.size) (hLX : ¬ Xs N ss L) (hBX : ¬ Xs N ss B)
    (hrows : ∀ k, k < N → RowP 3 w (ss k) (fun _ => False) k) (hn : ∀ k, k < N → (ss k).n ≤ 1000000) (ap : ApartS N ss) :
    Calls Try.prog 69 #[.pointer (some ⟨B, 0, none⟩)] w fun e w' => e = .returned (.bool true) ∧ Kept (Xs N ss) w w' := by
  have HF := Lib.hid (flat_any hN hcL hL hLlt hLX hrows hn ap)
  have HB := Lib.hid hB
  have HBX := Lib.hid hBX
  have cells : ∀ W, Blk W B (bagC (.slice (some ⟨L, 0, none⟩) N cL)) 141 → W.cell? ⟨B, 0, none⟩ = some (.slice (some ⟨L, 0, none⟩) N cL) ∧ W.cell? ⟨B, 1, none⟩ = some (.slice none 0 0) ∧ W.cell? ⟨B, 2, none⟩ = some (.slice none 0 0) ∧ W.cell? ⟨B, 3, none⟩ = some (.slice none 0 0) ∧
      W.cell? ⟨B, 4, none⟩ = some (.slice none 0 0) ∧ W.cell? ⟨B, 5, none⟩ = some (.slice none 0 0) ∧ W.cell? ⟨B, 6, none⟩ = some (.slice none 0 0) ∧ W.cell? ⟨B, 7, none⟩ = some (.slice none 0 0) := fun W h => by
    refine ⟨?_, ?_, ?_, ?_, ?_, ?_, ?_, ?_⟩ <;> (rw [h.cell]; rfl)
  obtain ⟨c0, c1, c2, c3, c4, c5, c6, c7⟩ := cells w hB
  have HC := Lib.hid cells
  clear hB hL hrows hn ap hLX hBX cells
  go_enter Try.func69, Try.ntmps69
  go_wp2_with (first | (go_at_call 75; refine HF.out.mono ?_; rintro e w1 ⟨rfl, hk⟩; have HB1 := Lib.hid (HB.out.kept hk HBX.out); obtain ⟨c0, c1, c2, c3, c4, c5, c6, c7⟩ := HC.out _ HB1.out) | (go_at_call 76; refine (flat76 _).mono ?_; rintro e w' ⟨rfl, hb⟩; have HB1 := Lib.hid (HB1.out.below hb HB1.out.lt); obtain ⟨c0, c1, c2, c3, c4, c5, c6, c7⟩ := HC.out _ HB1.out; have hk := kept_then hk (hb.mono hk.size); clear hb) | (go_at_call 77; refine (flat77 _).mono ?_; rintro e w' ⟨rfl, hb⟩; have HB1 := Lib.hid (HB1.out.below hb HB1.out.lt); obtain ⟨c0, c1, c2, c3, c4, c5, c6, c7⟩ := HC.out _ HB1.out; have hk := kept_then hk (hb.mono hk.size); clear hb) | (go_at_call 78; refine (flat78 _).mono ?_; rintro e w' ⟨rfl, hb⟩; have HB1 := Lib.hid (HB1.out.below hb HB1.out.lt); obtain ⟨c0, c1, c2, c3, c4, c5, c6, c7⟩ := HC.out _ HB1.out; have hk := kept_then hk (hb.mono hk.size); clear hb) | (go_at_call 79; refine (flat79 _).mono ?_; rintro e w' ⟨rfl, hb⟩; have HB1 := Lib.hid (HB1.out.below hb HB1.out.lt); obtain ⟨c0, c1, c2, c3, c4, c5, c6, c7⟩ := HC.out _ HB1.out; have hk := kept_then hk (hb.mono hk.size); clear hb) | (go_at_call 80; refine (flat80 _).mono ?_; rintro e w' ⟨rfl, hb⟩; have HB1 := Lib.hid (HB1.out.below hb HB1.out.lt); obtain ⟨c0, c1, c2, c3, c4, c5, c6, c7⟩ := HC.out _ HB1.out; have hk := kept_then hk (hb.mono hk.size); clear hb) | (go_at_call 81; refine (flat81 _).mono ?_; rintro e w' ⟨rfl, hb⟩; have HB1 := Lib.hid (HB1.out.below hb HB1.out.lt); obtain ⟨c0, c1, c2, c3, c4, c5, c6, c7⟩ := HC.out _ HB1.out; have hk := kept_then hk (hb.mono hk.size); clear hb) | (go_at_call 82; refine (flat82 _).mono ?_; rintro e w' ⟨rfl, hb⟩; have HB1 := Lib.hid (HB1.out.below hb HB1.out.lt); obtain ⟨c0, c1, c2, c3, c4, c5, c6, c7⟩ := HC.out _ HB1.out; have hk := kept_then hk (hb.mono hk.size); clear hb))
  go_ret
  exact ⟨rfl, hk⟩

set_option maxHeartbeats 8000000 in
set_option maxRecDepth 100000 in
theorem apart_any {w : World} {L0 N c0 : Nat} {ss : Nat → Sl} (h1 : 1 ≤ N) (hN : N ≤ 1000) (hc0 : N ≤ c0) (hL : ∀ k, k < N → w.cell? ⟨L0, k, none⟩ = some (ss k).val) (hLlt : L0 < w.heap.size)
    (hrows : ∀ k, k < N → RowP 3 w (ss k) (fun _ => False) k) (hn : ∀ k, k < N → (ss k).n ≤ 1000000) (ap : ApartS N ss) :
    Calls Try.prog 62 #[.slice (some ⟨L0, 0, none⟩) N c0] w fun e w' => e = .returned (.bool true) ∧ Kept (Xs N ss) w w' := by
  have HL := Lib.hid hL
  have HR := Lib.hid hrows
  have HN := Lib.hid hn
  have HAP := Lib.hid ap
  have hcI : (N : Int) ≤ c0 := by omega
  clear hL hrows hn ap
  go_enter Try.func62, Try.ntmps62
  go_wp2_with fail
  have HB0 := Lib.hid (show Blk (w.alloc (.cells (bagC (.slice none 0 0)) 141)) w.heap.size (bagC (.slice none 0 0)) 141 from Blk.new _ _ _)
  have HW0 : Hid (Below w.heap.size w (w.alloc (.cells (bagC (.slice none 0 0)) 141))) := Lib.hid ((Below.refl _ _).alloc (Nat.le_refl _) _)
  go_loopw [4] (fun s4 wx => ∃ (k : Nat) (v : Value), k ≤ N ∧ s4 = .int .i64 k ∧ Blk wx w.heap.size (bagC v) 141 ∧ wx.ownsRow w.heap.size 68 1 v k ((List.range k).map fun j => (ss j).val) ∧ Below w.heap.size w wx) (fun s4 _ => N - (intOf s4).toNat)
  case atStart => exact ⟨0, _, Nat.zero_le _, rfl, HB0.out, World.ownsRow_nil _ _ _ _, HW0.out⟩
  case round =>
    obtain ⟨k, v, hk, rfl, hB, ho, hb⟩ := hrel
    have hbz := hb.size
    by_cases hlt : k < N
    · have hltI : (k : Int) < N := by omega
      have x0 := (hb.cell (p := ⟨L0, k, none⟩) hLlt).trans (HL.out k hlt)
      unfold Sl.val at x0
      have HP := Lib.hid (put_any hB ho (by omega) (ss k).ob (ss k).n (ss k).cap hbz (Nat.le_refl _))
      clear hB ho
      go_wp2_with (first | (go_at_call 68; refine HP.out.mono ?_; rintro e w' ⟨g, c', rfl, hB', ho', hb'⟩))
      go_roundw
      case rel => exact ⟨k + 1, _, by omega, by go_num, hB', by rw [List.range_succ, List.map_append]; exact ho', hb.trans hb'⟩
      case measure => simp [intOf]; omega
    · have e : N = k := by omega
      subst e
      obtain ⟨L, cL, rfl, hLb, hLs⟩ := ho.form h1
      have hcap : N ≤ cL := by
        rcases ho.2 with ⟨e, -⟩ | ⟨g, c, cur, e, -, -, hn, -⟩
        · cases e
        · simp only [Value.slice.injEq] at e; omega
      have hXlt : ∀ b, Xs N ss b → b < w.heap.size := fun b ⟨j, hj, e⟩ => (HR.out j hj).lt e
      have hkw : Kept (Xs N ss) w wr := ⟨hb.os, hb.tape, hb.output, hb.size, fun q hq _ => hb.block q hq⟩
      have HA := Lib.hid (bag_apart hB hN hcap (fun j hj => by rw [ho.cellAt j (by omega)]; simp [hj]) hLs (fun h => by have := hXlt L h; omega) (fun h => by have := hXlt _ h; omega)
        (fun j hj => (HR.out j hj).keep (X := fun q => w.heap.size ≤ q) ⟨hb.os, hb.tape, hb.output, hb.size, fun q hq hn => hb.block q hq⟩ (fun b hb' h => by have := (HR.out j hj).lt hb'; omega)) HN.out HAP.out)
      clear hB ho
      go_wp2_with (first | (go_at_call 69; refine HA.out.mono ?_; rintro e w' ⟨rfl, hk'⟩))
      go_ret
      exact ⟨rfl, hkw.trans hk'⟩
end Go.Proofs.Ytokgfmibhkkiaaa
