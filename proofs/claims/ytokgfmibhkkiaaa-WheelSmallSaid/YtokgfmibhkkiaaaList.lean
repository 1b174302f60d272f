/- What All, Open and Waiting of a wheel hand back. -/
import Derived.Test.YtokgfmibhkkiaaaOps
import Derived.Test.YtokgfmibhkkiaaaKeys
import Derived.Deep.AppendLies
import Derived.Deep.LoopGhost
namespace Go.Proofs.Ytokgfmibhkkiaaa
open Go.RowKit Wh Mem Go.Maps

theorem info3 : (Try.prog.info? 3).map (fun i => (i.zero, i.size, i.bytes)) = some (some (.int .i64 0), 1, 8) := by kernel_rfl

/-- the closures -/
theorem all_cl (W : World) (m : Mb) : Calls Try.prog 51 #[.pointer (some ⟨m.blk, 0, none⟩)] W fun e w' => e = .returned (.bool true) ∧ W = w' := by
  go_enter Try.func51, Try.ntmps51
  go_wp2
  go_ret
  exact ⟨rfl, rfl⟩
theorem open_cl (W : World) (m : Mb) (hb : Blk W m.blk (mcells m) 83) : Calls Try.prog 49 #[.pointer (some ⟨m.blk, 0, none⟩)] W fun e w' => e = .returned (.bool (m.phase.state == 1)) ∧ W = w' := by
  obtain ⟨_, _, _, c3, c4, _⟩ := hb.five
  go_enter Try.func49, Try.ntmps49
  go_wp2
  go_ret
  exact ⟨rfl, rfl⟩
theorem wait_cl (W : World) (m : Mb) (hb : Blk W m.blk (mcells m) 83) : Calls Try.prog 50 #[.pointer (some ⟨m.blk, 0, none⟩)] W fun e w' => e = .returned (.bool (m.phase.state == 2)) ∧ W = w' := by
  obtain ⟨_, _, _, c3, c4, _⟩ := hb.five
  go_enter Try.func50, Try.ntmps50
  go_wp2
  go_ret
  exact ⟨rfl, rfl⟩

theorem findM_at {l : List Mb} (hl : Ids l) {m : Mb} (hm : m ∈ l) : findM l m.id = some m := by
  cases h : findM l m.id with
  | none => exact absurd rfl (findM_none h m hm)
  | some x =>
    obtain ⟨h1, h2⟩ := findM_some h
    rw [ids_eq hl h1 hm h2]

def sel (t : Phase → Bool) (l : List Mb) : List Int := (l.filter fun m => t m.phase).map (·.id)
theorem sel_snoc (t : Phase → Bool) (l : List Mb) (k : Nat) (h : k < l.length) : sel t (l.take (k + 1)) = sel t (l.take k) ++ if t l[k].phase then [l[k].id] else [] := by
  unfold sel
  rw [List.take_succ_eq_append_getElem h, List.filter_append, List.map_append]
  congr 1
  simp only [List.filter_cons, List.filter_nil]
  split <;> rfl
theorem sel_le (t : Phase → Bool) (l : List Mb) : (sel t l).length ≤ l.length := by
  unfold sel; rw [List.length_map]; exact List.length_filter_le _ _

theorem slice_form {w : World} {base : Nat} {e : TypeId} {size : Nat} {v : Value} {n : Nat} {xs : List Value} (h : w.ownsRow base e size v n xs) : (v = .slice none 0 0 ∧ n = 0 ∧ xs = []) ∨ ∃ g cap, v = .slice (some ⟨g, 0, none⟩) n cap ∧ base ≤ g ∧ g < w.heap.size := by
  have hlt := h.lt
  obtain ⟨h1, h2⟩ := h
  rcases h2 with ⟨rfl, rfl⟩ | ⟨g, cap, cur, rfl, hg, hh, r⟩
  · exact .inl ⟨rfl, rfl, by simpa using h1⟩
  · exact .inr ⟨g, cap, rfl, hg, (hlt g rfl).2⟩

def tAll : Phase → Bool := fun _ => true
def tOpen : Phase → Bool := fun s => s.state == 1
def tWait : Phase → Bool := fun s => s.state == 2

theorem open_is (W : World) (m : Mb) (hb : Blk W m.blk (mcells m) 83) {t : Bool} (ht : tOpen m.phase = t) : Calls Try.prog 49 #[.pointer (some ⟨m.blk, 0, none⟩)] W fun e w' => e = .returned (.bool t) ∧ W = w' := by
  subst ht; exact open_cl W m hb
theorem wait_is (W : World) (m : Mb) (hb : Blk W m.blk (mcells m) 83) {t : Bool} (ht : tWait m.phase = t) : Calls Try.prog 50 #[.pointer (some ⟨m.blk, 0, none⟩)] W fun e w' => e = .returned (.bool t) ∧ W = w' := by
  subst ht; exact wait_cl W m hb

set_option maxHeartbeats 1000000 in
set_option maxRecDepth 100000 in
theorem list_all {w : World} {pb mb : Nat} {now : Int} {l : List Mb} (h : WheelAt w pb mb now l) (hlen : l.length ≤ 1000000) :
    Calls Try.prog 48 #[.pointer (some ⟨pb, 0, none⟩), .func (.func 51) #[] #[]] w fun e w' => ∃ v, e = .returned v ∧
      w'.ownsRow w.heap.size 3 1 v (sel tAll l).length ((sel tAll l).map (.int .i64)) ∧ Below w.heap.size w w' := by
  obtain ⟨g0, g1, g2, _⟩ := h.head.three
  have hi := isw_yes h.head
  have hk := keys_any (some mb) w
  have hs := sorted_any h.ids mb _ w h.map hlen
  have HI := Lib.hid hi
  have HK := Lib.hid hk
  have HS := Lib.hid hs
  have H := Lib.hid h
  have hpb := h.head.lt
  obtain ⟨i0, hi0, hz0, hz1, hz2⟩ := info_parts info3
  clear hi hk hs h
  go_enter Try.func48, Try.ntmps48
  go_wp2_with fail
  refine (HI.out).mono ?_
  rintro e w1 ⟨rfl, rfl⟩
  go_wp2_with fail
  refine (HK.out).mono ?_
  rintro e w1 ⟨rfl, rfl⟩
  go_wp2_with fail
  refine (HS.out).mono ?_
  rintro e w2 ⟨v, rfl, hrow, hb⟩
  have hb2 : Below w.heap.size w w2 := ((Below.refl _ _).alloc (Nat.le_refl _) _).trans (hb.mono (by simp))
  have H2 := H.out.below hb2
  clear hb
  rcases slice_form hrow with ⟨rfl, hl0, -⟩ | ⟨gb, cap, rfl, hgb, hgl⟩
  · obtain rfl : l = [] := List.eq_nil_of_length_eq_zero hl0
    go_wp2
    go_rounds 1
    all_goals go_wp2
    go_ret
    exact ⟨_, rfl, World.ownsRow_nil _ _ _ _, hb2⟩
  · have hcell : ∀ j (hj : j < l.length), w2.cell? ⟨gb, j, none⟩ = some (.int .i64 l[j].id) := by
      intro j hj
      rw [hrow.cellAt j (by omega)]
      simp [hj]
    have HC := Lib.hid hcell
    have HR := Lib.hid hrow
    clear hcell hrow
    go_wp2
    go_loopw [5, 18] (fun v i wr => ∃ k : Nat, k ≤ l.length ∧ i = .int .i64 k ∧ wr.ownsRow w2.heap.size 3 1 v (sel tAll (l.take k)).length ((sel tAll (l.take k)).map (.int .i64)) ∧ Below w2.heap.size w2 wr) (fun _ i _ => l.length - (intOf i).toNat)
    case atStart => exact ⟨0, Nat.zero_le _, rfl, by simpa [sel] using World.ownsRow_nil _ _ _ _, Below.refl _ _⟩
    case round =>
      obtain ⟨k, hk, rfl, hown, hbr⟩ := hrel
      by_cases hlt : k < l.length
      · have Hr := H2.below hbr
        obtain ⟨q0, q1, q2, _⟩ := Hr.head.three
        have hcx : wr.cell? ⟨gb, k, none⟩ = some (.int .i64 l[k].id) := (hbr.cell (p := ⟨gb, k, none⟩) hgl).trans (HC.out k hlt)
        have hml : l[k] ∈ l := List.getElem_mem hlt
        have hlook := look_some Hr.map (wf_id (Hr.range _ hml)) (findM_at Hr.ids hml)
        have hsn := sel_snoc tAll l k hlt
        have hle := sel_le tAll (l.take k)
        rw [List.length_take] at hle
        have hmb := Hr.mem _ hml
        have HB := Lib.hid hmb
        have HSN := Lib.hid hsn
        obtain ⟨m, hm⟩ : ∃ m, m = l[k] := ⟨_, rfl⟩
        rw [← hm] at HB HSN hcx hlook
        clear hmb hsn hml hm Hr
        have hsz := hbr.size
        by_cases ht : tAll m.phase = true
        · rw [ht] at HSN
          have HT := Lib.hid ht
          clear ht
          go_wp2_with (first
            | (go_at_call 51; refine (all_cl _ m).mono ?_; rintro e w3 ⟨rfl, rfl⟩)
            | (at_builtin; refine wpList_append_own _ rfl _ _ 68 rfl w2.heap.size 3 i0 (.int .i64 0) 1 8 Try.underlying68 hi0 hz0 hz1 hz2 rfl (by decide) _ _ _ rfl (hown.alloc _) ⟨wr.heap.size, 0, none⟩ 1 1 [.int .i64 m.id] rfl rfl (cell_one_new _ _ _) (by simp [Value.oneCell']) (by unfold maxLen; omega) (by omega) (by simp; omega) ?_; intro v' w4 hown' hgrow _))
          have hbr' : Below w2.heap.size w2 w4 := (hbr.alloc hsz _).grown hgrow (by simp; omega) (fun q hq => (hown.lt q hq).1)
          clear hgrow hown hbr
          go_wp2
          go_roundw
          case rel => exact ⟨k + 1, by omega, by go_num, by rw [HSN.out]; simpa using hown', hbr'⟩
          case measure => simp [intOf]; omega
        · exact absurd rfl ht
      · obtain rfl : k = l.length := by omega
        go_wp2
        go_ret
        rw [List.take_length] at hown
        exact ⟨_, rfl, ownsRow_base_a hown hb2.size, hb2.trans (hbr.mono hb2.size)⟩

set_option maxHeartbeats 1000000 in
set_option maxRecDepth 100000 in
theorem list_open {w : World} {pb mb : Nat} {now : Int} {l : List Mb} (h : WheelAt w pb mb now l) (hlen : l.length ≤ 1000000) :
    Calls Try.prog 48 #[.pointer (some ⟨pb, 0, none⟩), .func (.func 49) #[] #[]] w fun e w' => ∃ v, e = .returned v ∧
      w'.ownsRow w.heap.size 3 1 v (sel tOpen l).length ((sel tOpen l).map (.int .i64)) ∧ Below w.heap.size w w' := by
  obtain ⟨g0, g1, g2, _⟩ := h.head.three
  have hi := isw_yes h.head
  have hk := keys_any (some mb) w
  have hs := sorted_any h.ids mb _ w h.map hlen
  have HI := Lib.hid hi
  have HK := Lib.hid hk
  have HS := Lib.hid hs
  have H := Lib.hid h
  have hpb := h.head.lt
  obtain ⟨i0, hi0, hz0, hz1, hz2⟩ := info_parts info3
  clear hi hk hs h
  go_enter Try.func48, Try.ntmps48
  go_wp2_with fail
  refine (HI.out).mono ?_
  rintro e w1 ⟨rfl, rfl⟩
  go_wp2_with fail
  refine (HK.out).mono ?_
  rintro e w1 ⟨rfl, rfl⟩
  go_wp2_with fail
  refine (HS.out).mono ?_
  rintro e w2 ⟨v, rfl, hrow, hb⟩
  have hb2 : Below w.heap.size w w2 := ((Below.refl _ _).alloc (Nat.le_refl _) _).trans (hb.mono (by simp))
  have H2 := H.out.below hb2
  clear hb
  rcases slice_form hrow with ⟨rfl, hl0, -⟩ | ⟨gb, cap, rfl, hgb, hgl⟩
  · obtain rfl : l = [] := List.eq_nil_of_length_eq_zero hl0
    go_wp2
    go_rounds 1
    all_goals go_wp2
    go_ret
    exact ⟨_, rfl, World.ownsRow_nil _ _ _ _, hb2⟩
  · have hcell : ∀ j (hj : j < l.length), w2.cell? ⟨gb, j, none⟩ = some (.int .i64 l[j].id) := by
      intro j hj
      rw [hrow.cellAt j (by omega)]
      simp [hj]
    have HC := Lib.hid hcell
    have HR := Lib.hid hrow
    clear hcell hrow
    go_wp2
    go_loopw [5, 18] (fun v i wr => ∃ k : Nat, k ≤ l.length ∧ i = .int .i64 k ∧ wr.ownsRow w2.heap.size 3 1 v (sel tOpen (l.take k)).length ((sel tOpen (l.take k)).map (.int .i64)) ∧ Below w2.heap.size w2 wr) (fun _ i _ => l.length - (intOf i).toNat)
    case atStart => exact ⟨0, Nat.zero_le _, rfl, by simpa [sel] using World.ownsRow_nil _ _ _ _, Below.refl _ _⟩
    case round =>
      obtain ⟨k, hk, rfl, hown, hbr⟩ := hrel
      by_cases hlt : k < l.length
      · have Hr := H2.below hbr
        obtain ⟨q0, q1, q2, _⟩ := Hr.head.three
        have hcx : wr.cell? ⟨gb, k, none⟩ = some (.int .i64 l[k].id) := (hbr.cell (p := ⟨gb, k, none⟩) hgl).trans (HC.out k hlt)
        have hml : l[k] ∈ l := List.getElem_mem hlt
        have hlook := look_some Hr.map (wf_id (Hr.range _ hml)) (findM_at Hr.ids hml)
        have hsn := sel_snoc tOpen l k hlt
        have hle := sel_le tOpen (l.take k)
        rw [List.length_take] at hle
        have hmb := Hr.mem _ hml
        have HB := Lib.hid hmb
        have HSN := Lib.hid hsn
        obtain ⟨m, hm⟩ : ∃ m, m = l[k] := ⟨_, rfl⟩
        rw [← hm] at HB HSN hcx hlook
        clear hmb hsn hml hm Hr
        have hsz := hbr.size
        by_cases ht : tOpen m.phase = true
        · rw [ht] at HSN
          have HT := Lib.hid ht
          clear ht
          go_wp2_with (first
            | (go_at_call 49; refine (open_is _ m HB.out HT.out).mono ?_; rintro e w3 ⟨rfl, rfl⟩)
            | (at_builtin; refine wpList_append_own _ rfl _ _ 68 rfl w2.heap.size 3 i0 (.int .i64 0) 1 8 Try.underlying68 hi0 hz0 hz1 hz2 rfl (by decide) _ _ _ rfl (hown.alloc _) ⟨wr.heap.size, 0, none⟩ 1 1 [.int .i64 m.id] rfl rfl (cell_one_new _ _ _) (by simp [Value.oneCell']) (by unfold maxLen; omega) (by omega) (by simp; omega) ?_; intro v' w4 hown' hgrow _))
          have hbr' : Below w2.heap.size w2 w4 := (hbr.alloc hsz _).grown hgrow (by simp; omega) (fun q hq => (hown.lt q hq).1)
          clear hgrow hown hbr
          go_wp2
          go_roundw
          case rel => exact ⟨k + 1, by omega, by go_num, by rw [HSN.out]; simpa using hown', hbr'⟩
          case measure => simp [intOf]; omega
        · rw [Bool.not_eq_true] at ht
          rw [ht] at HSN
          have HT := Lib.hid ht
          clear ht
          go_wp2_with (first
            | (go_at_call 49; refine (open_is _ m HB.out HT.out).mono ?_; rintro e w3 ⟨rfl, rfl⟩))
          go_roundw
          case rel => exact ⟨k + 1, by omega, by go_num, by rw [HSN.out]; simpa using hown, hbr⟩
          case measure => simp [intOf]; omega
      · obtain rfl : k = l.length := by omega
        go_wp2
        go_ret
        rw [List.take_length] at hown
        exact ⟨_, rfl, ownsRow_base_a hown hb2.size, hb2.trans (hbr.mono hb2.size)⟩

set_option maxHeartbeats 1000000 in
set_option maxRecDepth 100000 in
theorem list_wait {w : World} {pb mb : Nat} {now : Int} {l : List Mb} (h : WheelAt w pb mb now l) (hlen : l.length ≤ 1000000) :
    Calls Try.prog 48 #[.pointer (some ⟨pb, 0, none⟩), .func (.func 50) #[] #[]] w fun e w' => ∃ v, e = .returned v ∧
      w'.ownsRow w.heap.size 3 1 v (sel tWait l).length ((sel tWait l).map (.int .i64)) ∧ Below w.heap.size w w' := by
  obtain ⟨g0, g1, g2, _⟩ := h.head.three
  have hi := isw_yes h.head
  have hk := keys_any (some mb) w
  have hs := sorted_any h.ids mb _ w h.map hlen
  have HI := Lib.hid hi
  have HK := Lib.hid hk
  have HS := Lib.hid hs
  have H := Lib.hid h
  have hpb := h.head.lt
  obtain ⟨i0, hi0, hz0, hz1, hz2⟩ := info_parts info3
  clear hi hk hs h
  go_enter Try.func48, Try.ntmps48
  go_wp2_with fail
  refine (HI.out).mono ?_
  rintro e w1 ⟨rfl, rfl⟩
  go_wp2_with fail
  refine (HK.out).mono ?_
  rintro e w1 ⟨rfl, rfl⟩
  go_wp2_with fail
  refine (HS.out).mono ?_
  rintro e w2 ⟨v, rfl, hrow, hb⟩
  have hb2 : Below w.heap.size w w2 := ((Below.refl _ _).alloc (Nat.le_refl _) _).trans (hb.mono (by simp))
  have H2 := H.out.below hb2
  clear hb
  rcases slice_form hrow with ⟨rfl, hl0, -⟩ | ⟨gb, cap, rfl, hgb, hgl⟩
  · obtain rfl : l = [] := List.eq_nil_of_length_eq_zero hl0
    go_wp2
    go_rounds 1
    all_goals go_wp2
    go_ret
    exact ⟨_, rfl, World.ownsRow_nil _ _ _ _, hb2⟩
  · have hcell : ∀ j (hj : j < l.length), w2.cell? ⟨gb, j, none⟩ = some (.int .i64 l[j].id) := by
      intro j hj
      rw [hrow.cellAt j (by omega)]
      simp [hj]
    have HC := Lib.hid hcell
    have HR := Lib.hid hrow
    clear hcell hrow
    go_wp2
    go_loopw [5, 18] (fun v i wr => ∃ k : Nat, k ≤ l.length ∧ i = .int .i64 k ∧ wr.ownsRow w2.heap.size 3 1 v (sel tWait (l.take k)).length ((sel tWait (l.take k)).map (.int .i64)) ∧ Below w2.heap.size w2 wr) (fun _ i _ => l.length - (intOf i).toNat)
    case atStart => exact ⟨0, Nat.zero_le _, rfl, by simpa [sel] using World.ownsRow_nil _ _ _ _, Below.refl _ _⟩
    case round =>
      obtain ⟨k, hk, rfl, hown, hbr⟩ := hrel
      by_cases hlt : k < l.length
      · have Hr := H2.below hbr
        obtain ⟨q0, q1, q2, _⟩ := Hr.head.three
        have hcx : wr.cell? ⟨gb, k, none⟩ = some (.int .i64 l[k].id) := (hbr.cell (p := ⟨gb, k, none⟩) hgl).trans (HC.out k hlt)
        have hml : l[k] ∈ l := List.getElem_mem hlt
        have hlook := look_some Hr.map (wf_id (Hr.range _ hml)) (findM_at Hr.ids hml)
        have hsn := sel_snoc tWait l k hlt
        have hle := sel_le tWait (l.take k)
        rw [List.length_take] at hle
        have hmb := Hr.mem _ hml
        have HB := Lib.hid hmb
        have HSN := Lib.hid hsn
        obtain ⟨m, hm⟩ : ∃ m, m = l[k] := ⟨_, rfl⟩
        rw [← hm] at HB HSN hcx hlook
        clear hmb hsn hml hm Hr
        have hsz := hbr.size
        by_cases ht : tWait m.phase = true
        · rw [ht] at HSN
          have HT := Lib.hid ht
          clear ht
          go_wp2_with (first
            | (go_at_call 50; refine (wait_is _ m HB.out HT.out).mono ?_; rintro e w3 ⟨rfl, rfl⟩)
            | (at_builtin; refine wpList_append_own _ rfl _ _ 68 rfl w2.heap.size 3 i0 (.int .i64 0) 1 8 Try.underlying68 hi0 hz0 hz1 hz2 rfl (by decide) _ _ _ rfl (hown.alloc _) ⟨wr.heap.size, 0, none⟩ 1 1 [.int .i64 m.id] rfl rfl (cell_one_new _ _ _) (by simp [Value.oneCell']) (by unfold maxLen; omega) (by omega) (by simp; omega) ?_; intro v' w4 hown' hgrow _))
          have hbr' : Below w2.heap.size w2 w4 := (hbr.alloc hsz _).grown hgrow (by simp; omega) (fun q hq => (hown.lt q hq).1)
          clear hgrow hown hbr
          go_wp2
          go_roundw
          case rel => exact ⟨k + 1, by omega, by go_num, by rw [HSN.out]; simpa using hown', hbr'⟩
          case measure => simp [intOf]; omega
        · rw [Bool.not_eq_true] at ht
          rw [ht] at HSN
          have HT := Lib.hid ht
          clear ht
          go_wp2_with (first
            | (go_at_call 50; refine (wait_is _ m HB.out HT.out).mono ?_; rintro e w3 ⟨rfl, rfl⟩))
          go_roundw
          case rel => exact ⟨k + 1, by omega, by go_num, by rw [HSN.out]; simpa using hown, hbr⟩
          case measure => simp [intOf]; omega
      · obtain rfl : k = l.length := by omega
        go_wp2
        go_ret
        rw [List.take_length] at hown
        exact ⟨_, rfl, ownsRow_base_a hown hb2.size, hb2.trans (hbr.mono hb2.size)⟩

/-- All, Open, Waiting -/
theorem all_any {w : World} {pb mb : Nat} {now : Int} {l : List Mb} (h : WheelAt w pb mb now l) (hlen : l.length ≤ 1000000) :
    Calls Try.prog 31 #[.pointer (some ⟨pb, 0, none⟩)] w fun e w' => ∃ v, e = .returned v ∧ w'.ownsRow w.heap.size 3 1 v (sel tAll l).length ((sel tAll l).map (.int .i64)) ∧ Below w.heap.size w w' := by
  have hl := list_all h hlen
  have HL := Lib.hid hl
  clear hl h
  go_enter Try.func31, Try.ntmps31
  go_wp2_with (first | (go_at_call 48; refine (HL.out).mono ?_; rintro e w1 ⟨v, rfl, ho, hb⟩))
  go_ret
  exact ⟨_, rfl, ho, hb⟩

theorem open_any {w : World} {pb mb : Nat} {now : Int} {l : List Mb} (h : WheelAt w pb mb now l) (hlen : l.length ≤ 1000000) :
    Calls Try.prog 29 #[.pointer (some ⟨pb, 0, none⟩)] w fun e w' => ∃ v, e = .returned v ∧ w'.ownsRow w.heap.size 3 1 v (sel tOpen l).length ((sel tOpen l).map (.int .i64)) ∧ Below w.heap.size w w' := by
  have hl := list_open h hlen
  have HL := Lib.hid hl
  clear hl h
  go_enter Try.func29, Try.ntmps29
  go_wp2_with (first | (go_at_call 48; refine (HL.out).mono ?_; rintro e w1 ⟨v, rfl, ho, hb⟩))
  go_ret
  exact ⟨_, rfl, ho, hb⟩

theorem wait_any {w : World} {pb mb : Nat} {now : Int} {l : List Mb} (h : WheelAt w pb mb now l) (hlen : l.length ≤ 1000000) :
    Calls Try.prog 30 #[.pointer (some ⟨pb, 0, none⟩)] w fun e w' => ∃ v, e = .returned v ∧ w'.ownsRow w.heap.size 3 1 v (sel tWait l).length ((sel tWait l).map (.int .i64)) ∧ Below w.heap.size w w' := by
  have hl := list_wait h hlen
  have HL := Lib.hid hl
  clear hl h
  go_enter Try.func30, Try.ntmps30
  go_wp2_with (first | (go_at_call 48; refine (HL.out).mono ?_; rintro e w1 ⟨v, rfl, ho, hb⟩))
  go_ret
  exact ⟨_, rfl, ho, hb⟩
end Go.Proofs.Ytokgfmibhkkiaaa
