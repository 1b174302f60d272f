/- made: the wheel of a law -/
import Derived.Test.YtokgfmibhkkiaaaTickW
namespace Go.Proofs.Ytokgfmibhkkiaaa
open Go.RowKit Wh Mem Go.Maps

/-- what a member is, but for its place -/
def core (m : Mb) : Int × Plan × Phase := (m.id, m.plan, m.phase)
def smPlan (s : Sm) : Plan := madeOf s.every s.offset s.timeout
def madeC (S : List Sm) (k : Nat) : List (Int × Plan × Phase) := (S.take k).zipIdx.map fun x => (3 * (x.2 : Int), smPlan x.1, ⟨0, 0⟩)
theorem madeC_length (S : List Sm) (k : Nat) (h : k ≤ S.length) : (madeC S k).length = k := by simp [madeC, List.length_take]; omega
theorem madeC_snoc (S : List Sm) (k : Nat) (h : k < S.length) : madeC S (k + 1) = madeC S k ++ [(3 * (k : Int), smPlan S[k], ⟨0, 0⟩)] := by
  unfold madeC
  rw [List.take_succ_eq_append_getElem h, List.zipIdx_append, List.map_append]
  simp [List.length_take, Nat.min_eq_left (Nat.le_of_lt h)]
theorem madeC_id (S : List Sm) (k : Nat) (h : k ≤ S.length) : ∀ c ∈ madeC S k, c.1 < 3 * (k : Int) := by
  intro c hc
  unfold madeC at hc
  obtain ⟨x, hx, rfl⟩ := List.mem_map.1 hc
  have := List.snd_lt_of_mem_zipIdx hx
  rw [List.length_take] at this
  show 3 * (x.2 : Int) < 3 * (k : Int)
  omega
theorem ins_end {m : Mb} : ∀ {l : List Mb}, (∀ x ∈ l, x.id < m.id) → ins m l = l ++ [m]
  | [], _ => rfl
  | y :: r, h => by
    have h1 := h y (by simp)
    rw [ins, if_neg (by omega), ins_end (fun x hx => h x (List.mem_cons_of_mem _ hx))]
    rfl
theorem core_len {l : List Mb} {S : List Sm} {k : Nat} (h : l.map core = madeC S k) (hk : k ≤ S.length) : l.length = k := by
  have := congrArg List.length h
  rwa [List.length_map, madeC_length S k hk] at this
theorem core_lt {l : List Mb} {S : List Sm} {k : Nat} (h : l.map core = madeC S k) (hk : k ≤ S.length) : ∀ m ∈ l, m.id < 3 * (k : Int) := by
  intro m hm
  have : core m ∈ madeC S k := by rw [← h]; exact List.mem_map_of_mem hm
  exact madeC_id S k hk _ this
theorem findM_ge {l : List Mb} {id : Int} (h : ∀ m ∈ l, m.id < id) : findM l id = none := by
  unfold findM
  rw [List.find?_eq_none]
  intro m hm
  have := h m hm
  simp; omega

set_option maxHeartbeats 1000000 in
set_option maxRecDepth 100000 in
theorem made_any {w : World} {base : Nat} {v : Value} {S : List Sm} (hS : SmallsAt w base v S) (hbase : base ≤ w.heap.size) (now : Int) (hn : U64 now) :
    Calls Try.prog 11 #[.int .u64 now, v] w fun e w' => ∃ pb mb l, e = .returned (.tuple #[.pointer (some ⟨pb, 0, none⟩), .int .i64 (min S.length 10 : Nat), .bool true]) ∧
      WheelAt w' pb mb (now % 17592186044416) l ∧ l.map core = madeC S (min S.length 10) ∧ (∀ k, Foot pb mb l k → w.heap.size ≤ k) ∧ Below w.heap.size w w' := by
  have a1 := Int.emod_nonneg now (b := 17592186044416) (by omega)
  have a2 := Int.emod_lt_of_pos now (b := 17592186044416) (by omega)
  have hn1 := hn.1
  have hn2 := hn.2
  have ht : Tick (now % 17592186044416) := ⟨a1, by omega⟩
  have hnew := new_ok _ ht w
  have HNEW := Lib.hid hnew
  have HT := Lib.hid ht
  clear hnew ht
  rcases hS with ⟨rfl, rfl⟩ | ⟨ad, cap, rfl, hcap, hmax, hb, hcells⟩
  · go_enter Try.func11, Try.ntmps11
    go_wp2_with fail
    refine (HNEW.out).mono ?_
    rintro e w1 ⟨rfl, hw1, hb1⟩
    have HW := Lib.hid hw1
    clear hw1
    go_wp2_with fail
    go_rounds 1
    all_goals go_wp2
    go_ret3
    exact ⟨_, _, _, rfl, HW.out, rfl, fun k hk => by rcases hk with rfl | rfl | ⟨m, hm, _⟩ <;> first | omega | simp at hm, hb1⟩
  · have HC := Lib.hid hcells
    obtain ⟨N, hN⟩ : ∃ N, N = min S.length 10 := ⟨_, rfl⟩
    have hN1 : N ≤ S.length := by omega
    have hN2 : N ≤ 10 := by omega
    rw [← hN]
    have hmin : min (S.length : Int) 10 = (N : Int) := by omega
    have hmx : max (N : Int) 0 = (N : Int) := by omega
    have HMIN := Lib.hid hmin
    have HMX := Lib.hid hmx
    clear hcells hN hmin hmx
    go_enter Try.func11, Try.ntmps11
    go_wp2_with fail
    refine (HNEW.out).mono ?_
    rintro e w1 ⟨rfl, hw1, hb1⟩
    have HW := Lib.hid hw1
    clear hw1
    go_wp2_with fail
    simp only [HMIN.out, HMX.out, Int.toNat_natCast]
    go_loopw [32] (fun i wr => ∃ k : Nat, k ≤ N ∧ i = .int .i64 k ∧ ∃ l, WheelAt wr (w.heap.size + 1) w.heap.size (now % 17592186044416) l ∧ l.map core = madeC S k ∧ (∀ j, Foot (w.heap.size + 1) w.heap.size l j → w.heap.size ≤ j) ∧ Below w.heap.size w wr) (fun i _ => N - (intOf i).toNat)
    case atStart => exact ⟨0, Nat.zero_le _, rfl, [], HW.out, by simp [madeC], fun k hk => by rcases hk with rfl | rfl | ⟨m, hm, _⟩ <;> first | omega | simp at hm, hb1⟩
    case round =>
      obtain ⟨k, hk, rfl, l, hw, hcore, hfoot, hbr⟩ := hrel
      have HWR := Lib.hid hw
      have HCO := Lib.hid hcore
      have HFT := Lib.hid hfoot
      clear hw hcore hfoot
      by_cases hlt : k < N
      · have hb := hb (by omega)
        obtain ⟨⟨hu0, hu1, hu2⟩, d0, d1, d2, d3⟩ := HC.out k (by omega)
        have hblk : wr.heap[ad.block]? = w.heap[ad.block]? := hbr.block _ (by omega)
        have hq : ∀ j, wr.cell? ((ad.add (k * 4)).add j) = w.cell? ((ad.add (k * 4)).add j) := fun j => World.cell?_of_block (by rw [add_blk, add_blk]; exact hblk)
        have e0 : wr.cell? (ad.add (k * 4)) = some (.int .u64 S[k].every) := (hq 0).trans d0
        have e1 : wr.cell? ⟨(ad.add (k * 4)).block, (ad.add (k * 4)).off + 1, none⟩ = some (.int .u64 S[k].offset) := (hq 1).trans d1
        have e2 : wr.cell? ⟨(ad.add (k * 4)).block, (ad.add (k * 4)).off + 2, none⟩ = some (.int .u64 S[k].timeout) := (hq 2).trans d2
        have e3 : wr.cell? ⟨(ad.add (k * 4)).block, (ad.add (k * 4)).off + 3, none⟩ = some (.bool S[k].handled) := (hq 3).trans d3
        clear hq d0 d1 d2 d3 hblk
        have hmp := fun W => made_plan S[k].every S[k].offset S[k].timeout hu0.1 hu0.2 hu1.1 hu1.2 hu2.1 hu2.2 W
        have HMP := Lib.hid hmp
        have hlen := core_len HCO.out (by omega)
        have hidl := core_lt HCO.out (show k ≤ S.length by omega)
        have HID := Lib.hid hidl
        have hal : ∀ O, Below wr.heap.size wr (wr.alloc O) := fun O => (Below.refl _ _).alloc (Nat.le_refl _) _
        have HAL := Lib.hid hal
        have hzr := hbr.size
        clear hmp hidl hal hu0 hu1 hu2
        go_wp2_with fail
        refine (HMP.out _).mono ?_
        rintro e w2 ⟨rfl, hb2⟩
        have hbw : Below wr.heap.size wr w2 := (HAL.out _).trans (hb2.mono (by simp))
        have hadd := add_ok (HWR.out.below hbw) HT.out (3 * (k : Int)) (madeOf S[k].every S[k].offset S[k].timeout).every (madeOf S[k].every S[k].offset S[k].timeout).offset (madeOf S[k].every S[k].offset S[k].timeout).timeout (by omega) (by omega) madeOf_right (findM_ge HID.out) (by omega)
        have HADD := Lib.hid hadd
        have hz2 := hbw.size
        clear hadd hb2
        go_wp2_with fail
        refine (HADD.out).mono ?_
        rintro e w3 ⟨rfl, nb, hnb, hw3, hk3⟩
        have HW3 := Lib.hid hw3
        have hb3 : Below w.heap.size w w3 := (hbr.trans (hbw.mono hzr)).trans (hk3.belowOf (by omega) (fun i hi e => by omega))
        have hins := ins_end (m := ⟨3 * (k : Int), nb, ⟨(madeOf S[k].every S[k].offset S[k].timeout).every, (madeOf S[k].every S[k].offset S[k].timeout).offset, (madeOf S[k].every S[k].offset S[k].timeout).timeout⟩, ⟨0, 0⟩⟩) HID.out
        have HINS := Lib.hid hins
        clear hw3 hins hk3
        go_wp2_with fail
        go_roundw
        case rel =>
          refine ⟨k + 1, by omega, by go_num, _, HW3.out, ?_, ?_, hb3⟩
          · rw [HINS.out, List.map_append, HCO.out, madeC_snoc S k (by omega)]; rfl
          · rintro j (rfl | rfl | ⟨m, hm, rfl⟩)
            · omega
            · omega
            · rcases mem_ins.1 hm with rfl | hm
              · show w.heap.size ≤ nb; omega
              · exact HFT.out _ (.inr (.inr ⟨m, hm, rfl⟩))
        case measure => simp [intOf]; omega
      · obtain rfl : k = N := by omega
        go_wp2
        go_ret3
        exact ⟨_, _, l, rfl, HWR.out, HCO.out, HFT.out, hbr⟩
end Go.Proofs.Ytokgfmibhkkiaaa
