/- tick, walked -/
import Derived.Test.YtokgfmibhkkiaaaTick
namespace Go.Proofs.Ytokgfmibhkkiaaa
open Go.RowKit Wh Mem Go.Maps

theorem inB_mem {l : List Mb} {k : Nat} (h : InB (l.map (·.blk)) k) : ∃ m ∈ l, m.blk = k := List.mem_map.1 h

set_option maxHeartbeats 1000000 in
set_option maxRecDepth 100000 in
theorem ticks_any {w : World} {pb mb : Nat} {now : Int} {l : List Mb} (h : WheelAt w pb mb now l) {base : Nat} {v : Value} {S : List Sm} (hS : SmallsAt w base v S) (hf : ∀ k, Foot pb mb l k → base ≤ k) (n : Nat) (hn : n ≤ S.length) (hn10 : n ≤ 10) :
    Calls Try.prog 15 #[.pointer (some ⟨pb, 0, none⟩), v, .int .i64 n] w fun e w' => e = .returned (.tuple #[]) ∧ WheelAt w' pb mb now (tickM S n l) ∧ Kept (InB (l.map (·.blk))) w w' := by
  have H := Lib.hid h
  have HF := Lib.hid hf
  clear hf
  rcases hS with ⟨rfl, rfl⟩ | ⟨ad, cap, rfl, hcap, hmax, hb, hcells⟩
  · obtain rfl : n = 0 := by simpa using hn
    clear h
    go_enter Try.func15, Try.ntmps15
    go_wp2
    go_rounds 1
    all_goals go_wp2
    go_end0
    exact ⟨rfl, H.out, Kept.refl _ _⟩
  · have HC := Lib.hid hcells
    have hlw := h.head.lt
    clear hcells h
    go_enter Try.func15, Try.ntmps15
    go_wp2
    go_loopw [12] (fun i wr => ∃ k : Nat, k ≤ n ∧ i = .int .i64 k ∧ WheelAt wr pb mb now (tickM S k l) ∧ Kept (InB (l.map (·.blk))) w wr) (fun i _ => n - (intOf i).toNat)
    case atStart => exact ⟨0, Nat.zero_le _, rfl, H.out, Kept.refl _ _⟩
    case round =>
      obtain ⟨k, hk, rfl, hw, hkr⟩ := hrel
      have HW := Lib.hid hw
      clear hw
      by_cases hlt : k < n
      · have hb := hb (by omega)
        obtain ⟨hu, d0, d1, d2, d3⟩ := HC.out k (by omega)
        have hblk : wr.heap[ad.block]? = w.heap[ad.block]? := by
          refine hkr.block ad.block (by have := HF.out pb (.inl rfl); omega) fun hi => ?_
          obtain ⟨m, hm, e⟩ := inB_mem hi
          have := HF.out ad.block (.inr (.inr ⟨m, hm, e⟩)); omega
        have hq : ∀ j, wr.cell? ((ad.add (k * 4)).add j) = w.cell? ((ad.add (k * 4)).add j) := fun j => World.cell?_of_block (by rw [add_blk, add_blk]; exact hblk)
        have e0 : wr.cell? (ad.add (k * 4)) = some (.int .u64 S[k].every) := (hq 0).trans d0
        have e1 : wr.cell? ⟨(ad.add (k * 4)).block, (ad.add (k * 4)).off + 1, none⟩ = some (.int .u64 S[k].offset) := (hq 1).trans d1
        have e2 : wr.cell? ⟨(ad.add (k * 4)).block, (ad.add (k * 4)).off + 2, none⟩ = some (.int .u64 S[k].timeout) := (hq 2).trans d2
        have e3 : wr.cell? ⟨(ad.add (k * 4)).block, (ad.add (k * 4)).off + 3, none⟩ = some (.bool S[k].handled) := (hq 3).trans d3
        clear hq
        have hs : S[k]?.map (·.handled) = some S[k].handled := by rw [List.getElem?_eq_getElem (by omega)]; rfl
        clear d0 d1 d2 d3 hblk
        obtain ⟨hd, hhd⟩ : ∃ hd, S[k].handled = hd := ⟨_, rfl⟩
        rw [hhd] at e3 hs
        have hal : ∀ O, Below wr.heap.size wr (wr.alloc O) := fun O => (Below.refl _ _).alloc (Nat.le_refl _) _
        have hwf : (Lit.int .i64 (3 * (k : Int))).wf = true := wf_id ⟨by omega, by omega⟩
        have hans := fun O => answer_all (HW.out.below (hal O)) hwf
        have hkb : ∀ O, Kept (InB (l.map (·.blk))) w (wr.alloc O) := fun O => hkr.alloc O
        have HN := Lib.hid hans
        have HAL := Lib.hid hal
        have HKB := Lib.hid hkb
        have HWF := Lib.hid hwf
        clear hans hal hwf hkb
        cases hd
        · have hst : tickM S (k + 1) l = tickM S k l := by rw [tickM, hs]; rfl
          have HST := Lib.hid hst
          clear hst hs
          go_wp2_with fail
          go_roundw
          case rel => exact ⟨k + 1, by omega, by go_num, by rw [HST.out]; exact HW.out.below (HAL.out _), HKB.out _⟩
          case measure => simp [intOf]; omega
        · have hst : tickM S (k + 1) l = handleM (3 * k) (answerM (3 * k) (tickM S k l)) := by rw [tickM, hs]; rfl
          have HST := Lib.hid hst
          clear hst hs
          go_wp2_with fail
          refine (HN.out _).mono ?_
          rintro e w1 ⟨⟨x1, y1, rfl⟩, hw1, hk1⟩
          have hh := handle_all hw1 HWF.out
          have HH := Lib.hid hh
          have hkk := (HKB.out _).trans (by rw [tickM_blks] at hk1; exact hk1)
          clear hh hw1 hk1
          go_wp2_with fail
          refine (HH.out).mono ?_
          rintro e w2 ⟨⟨x2, y2, rfl⟩, hw2, hk2⟩
          rw [answerM_blks, tickM_blks] at hk2
          have HW2 := Lib.hid hw2
          clear hw2
          go_wp2_with fail
          go_roundw
          case rel => exact ⟨k + 1, by omega, by go_num, by rw [HST.out]; exact HW2.out, hkk.trans hk2⟩
          case measure => simp [intOf]; omega
      · obtain rfl : k = n := by omega
        go_wp2
        go_end0
        exact ⟨rfl, HW.out, hkr⟩
end Go.Proofs.Ytokgfmibhkkiaaa
