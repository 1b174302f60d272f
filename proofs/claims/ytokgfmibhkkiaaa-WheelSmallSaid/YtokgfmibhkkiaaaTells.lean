/- The law's tells: what a wheel tells is what the reference says. -/
import Derived.Test.YtokgfmibhkkiaaaRefK
import Derived.Test.YtokgfmibhkkiaaaApInts
import Derived.Test.YtokgfmibhkkiaaaAwakeW
namespace Go.Proofs.Ytokgfmibhkkiaaa
open Go.RowKit Wh Tw Mem Grow Flat

theorem isWake_unique {l : List Mb} {now : Int} {r s : Option Int} (hr : IsWake l now r) (hs : IsWake l now s) : r = s := by
  cases r with
  | none => cases s with
    | none => rfl
    | some t => obtain ⟨⟨m, hm, h1⟩, -⟩ := hs; rw [hr m hm] at h1; cases h1
  | some t => cases s with
    | none => obtain ⟨⟨m, hm, h1⟩, -⟩ := hr; rw [hs m hm] at h1; cases h1
    | some u =>
      obtain ⟨⟨m, hm, h1⟩, h2⟩ := hr
      obtain ⟨⟨n, hn, h3⟩, h4⟩ := hs
      have := h2 n hn u h3
      have := h4 m hm t h1
      have : t = u := by omega
      rw [this]
theorem isWake_exists (now : Int) : ∀ l : List Mb, ∃ r, IsWake l now r
  | [] => ⟨none, fun m hm => by cases hm⟩
  | x :: l => by
    obtain ⟨r, hr⟩ := isWake_exists now l
    cases hx : wakeOf x.plan x.phase now with
    | none =>
      refine ⟨r, ?_⟩
      cases r with
      | none =>
        intro m hm
        rcases List.mem_cons.1 hm with rfl | hm
        · exact hx
        · exact hr m hm
      | some t =>
        obtain ⟨⟨m0, hm0, h1⟩, h2⟩ := hr
        refine ⟨⟨m0, List.mem_cons_of_mem _ hm0, h1⟩, ?_⟩
        intro m hm u hu
        rcases List.mem_cons.1 hm with rfl | hm
        · rw [hx] at hu; cases hu
        · exact h2 m hm u hu
    | some u0 =>
      cases r with
      | none =>
        refine ⟨some u0, ⟨x, by simp, hx⟩, ?_⟩
        intro m hm u hu
        rcases List.mem_cons.1 hm with rfl | hm
        · rw [hx] at hu; cases hu; exact Int.le_refl _
        · rw [hr m hm] at hu; cases hu
      | some t =>
        obtain ⟨⟨m0, hm0, h1⟩, h2⟩ := hr
        by_cases hle : u0 ≤ t
        · refine ⟨some u0, ⟨x, by simp, hx⟩, ?_⟩
          intro m hm u hu
          rcases List.mem_cons.1 hm with rfl | hm
          · rw [hx] at hu; cases hu; exact Int.le_refl _
          · have := h2 m hm u hu; omega
        · refine ⟨some t, ⟨m0, List.mem_cons_of_mem _ hm0, h1⟩, ?_⟩
          intro m hm u hu
          rcases List.mem_cons.1 hm with rfl | hm
          · rw [hx] at hu; cases hu; omega
          · exact h2 m hm u hu
theorem wake_two (r : Option Int) : ∃ x y, wakeRes6 r = #[.int .i64 x, .int .i64 y] := by
  cases r with
  | none => exact ⟨_, _, rfl⟩
  | some t => exact ⟨_, _, rfl⟩
theorem wakeW_is {w : World} {pb mb : Nat} {now : Int} {l : List Mb} (h : WheelAt w pb mb now l) {r : Option Int} (hr : IsWake l now r) :
    Calls Try.prog 12 #[.pointer (some ⟨pb, 0, none⟩)] w fun e w' => e = .returned (.tuple (wakeRes6 r)) ∧ Below w.heap.size w w' := by
  refine (wakeW_any h).mono ?_
  rintro e w' ⟨r', rfl, h1, hb⟩
  rw [isWake_unique h1 hr]
  exact ⟨rfl, hb⟩
theorem rwakes_is {w : World} {ob : Option Addr} {cap : Nat} {l : List Mb} (h : RowAt w ob cap l) (now : Int) (hf : ∀ m ∈ l, Fits m.plan m.phase now) (h60 : ∀ m ∈ l, m.plan.every ≤ 60) (hlen : l.length ≤ 1000000) {r : Option Int} (hr : IsWake l now r) :
    Calls Try.prog 63 #[.agg #[.int .i64 now, .slice ob l.length cap], .int .i64 61] w fun e w' => e = .returned (.tuple (wakeRes6 r)) ∧ Below w.heap.size w w' := by
  refine (rwakes_any h.memb now cap hf h60 hlen).mono ?_
  rintro e w' ⟨⟨b, c, rfl, hc⟩, hb⟩
  refine ⟨?_, hb⟩
  rcases hc with ⟨rfl, rfl, h1⟩ | ⟨rfl, h1⟩
  · rw [isWake_unique hr h1]; rfl
  · rw [isWake_unique hr h1]; rfl
theorem ids_all (l : List Mb) : idsIn 3 (l.map core) = sel tAll l := by
  unfold idsIn sel
  rw [List.filter_map, List.map_map]
  congr 1
theorem ids_open (l : List Mb) : idsIn 1 (l.map core) = sel tOpen l := by
  unfold idsIn sel
  rw [List.filter_map, List.map_map]
  congr 1
  refine List.filter_congr fun m _ => ?_
  show decide ((1 : Int) = 3 ∨ m.phase.state = 1) = (m.phase.state == 1)
  by_cases e : m.phase.state = 1 <;> simp [e]
theorem ids_wait (l : List Mb) : idsIn 2 (l.map core) = sel tWait l := by
  unfold idsIn sel
  rw [List.filter_map, List.map_map]
  congr 1
  refine List.filter_congr fun m _ => ?_
  show decide ((2 : Int) = 3 ∨ m.phase.state = 2) = (m.phase.state == 2)
  by_cases e : m.phase.state = 2 <;> simp [e]
theorem rlistM {w : World} {ob : Option Addr} {cap : Nat} {l : List Mb} (h : RowAt w ob cap l) (now sv : Int) (hlen : l.length ≤ 10000) {xs : List Int} (hx : idsIn sv (l.map core) = xs) :
    Calls Try.prog 61 #[.agg #[.int .i64 now, .slice ob l.length cap], .int .u8 sv] w fun e w' => ∃ v, e = .returned v ∧ IntsAt w' v xs ∧ Below w.heap.size w w' := by
  have hr := rlist_any h.memb now cap sv (by simpa using (by omega : l.length ≤ 1000000))
  rw [List.length_map, hx] at hr
  refine hr.mono ?_
  rintro e w' ⟨v, rfl, ho, hb⟩
  exact ⟨v, rfl, IntsAt.of_row ho, hb⟩

def tellV (w : World) (va vo vw : Value) (l : List Mb) (i : Nat) (v : Value) : Prop :=
  (i = 2 → IntsAt w v (sel tAll l)) ∧ (i = 8 → IntsAt w v (sel tOpen l)) ∧ (i = 15 → IntsAt w v (sel tWait l)) ∧ (i = 38 → ∃ L0, v = .slice (some ⟨L0, 0, none⟩) 3 3 ∧ Blk w L0 #[va, vo, vw] 68)
def tellG (ss : Nat → Sl) (p : Nat) (w w' : World) : Prop := (p ≠ 39 → Below w.heap.size w w') ∧ (p = 39 → Kept (Xs 3 ss) w w')
theorem tellG_of {ss : Nat → Sl} {p : Nat} {w w' : World} (hp : p ≠ 39) (h : Below w.heap.size w w') : tellG ss p w w' := ⟨fun _ => h, fun e => absurd e hp⟩
theorem tellV_below {w w' : World} {va vo vw : Value} {l : List Mb} {i : Nat} {v : Value} (h : tellV w va vo vw l i v) (hb : Below w.heap.size w w') : tellV w' va vo vw l i v :=
  ⟨fun e => (h.1 e).below hb, fun e => (h.2.1 e).below hb, fun e => (h.2.2.1 e).below hb, fun e => by obtain ⟨L0, h1, h2⟩ := h.2.2.2 e; exact ⟨L0, h1, h2.below hb h2.lt⟩⟩
def three (a b c : Sl) (j : Nat) : Sl := if j = 0 then a else if j = 1 then b else c
theorem three_cells {w : World} {L0 : Nat} {a b c : Sl} (h : Blk w L0 #[.slice a.ob a.n a.cap, .slice b.ob b.n b.cap, .slice c.ob c.n c.cap] 68) : ∀ k, k < 3 → w.cell? ⟨L0, k, none⟩ = some (three a b c k).val := fun k hk => by
  rw [h.cell]
  rcases (by omega : k = 0 ∨ k = 1 ∨ k = 2) with rfl | rfl | rfl <;> rfl
def tellCs : List (Nat × Nat) := [(2, 3), (8, 9), (15, 16), (38, 39)]
theorem useI4 {i k : Nat} (h : useI tellCs i = some k) : i = 2 ∨ i = 8 ∨ i = 15 ∨ i = 38 := by
  unfold useI tellCs at h
  rw [Option.map_eq_some_iff] at h
  obtain ⟨x, hx, -⟩ := h
  have h1 := List.mem_of_find?_eq_some hx
  have h2 := List.find?_some hx
  simp at h1 h2
  rcases h1 with rfl | rfl | rfl | rfl <;> simp at h2 <;> omega
/-- what stands behind the writing operation does not come before it -/
def postI (ops : Array Oper) (s : Nat) : Bool := (List.range ops.size).all fun i => i == s || i > s || ((Region.before ops).getD s 0).testBit i
theorem post_no {ops : Array Oper} {s i : Nat} (h : postI ops s = true) (hi : i < ops.size) (hne : s ≠ i) (his : i ≤ s) (hb : ((Region.before ops).getD s 0).testBit i = false) : False := by
  unfold postI at h
  rw [List.all_eq_true] at h
  have := h i (List.mem_range.2 hi)
  rw [hb] at this
  simp at this
  omega

set_option maxHeartbeats 8000000 in
set_option maxRecDepth 100000 in
theorem tells_any {w : World} {pb mb : Nat} {now : Int} {l : List Mb} {ob : Option Addr} {cap : Nat} (h : WheelAt w pb mb now l) (hr : RowAt w ob cap l) (id : Int) (hid : (Lit.int .i64 id).wf = true) (hlen : l.length ≤ 10000) (h60 : ∀ m ∈ l, m.plan.every ≤ 60) :
    Calls Try.prog 47 #[.pointer (some ⟨pb, 0, none⟩), .agg #[.int .i64 now, .slice ob l.length cap], .int .i64 id] w fun e w' => e = .returned (.bool true) ∧ Below w.heap.size w w' := by
  have hb0 : Below w.heap.size w (w.alloc (.cells #[.int .i64 now, .slice ob l.length cap] 92)) := (Below.refl _ _).alloc (Nat.le_refl _) _
  have HBK := Lib.hid (Blk.new w #[.int .i64 now, .slice ob l.length cap] 92)
  have HW := Lib.hid (h.below hb0)
  have HR := Lib.hid (hr.below hb0)
  have H60 := Lib.hid h60
  have HID := Lib.hid hid
  have hle : l.length ≤ 1000000 := by omega
  clear h hr h60 hid
  go_enter Try.func47, Try.ntmps47
  go_upto_region 1 with (fail)
  generalize hW0 : (w.alloc (.cells #[.int .i64 now, .slice ob l.length cap] 92)) = W0 at HBK HW HR hb0 ⊢
  clear hW0
  go_upto_region 2 with (first
    | (go_at_call 31; refine (all_any HW.out hle).mono ?_; rintro e w1 ⟨va, rfl, hoa, hb1⟩; obtain ⟨oa, ca, rfl⟩ := own_slice hoa; have HW1 := Lib.hid (HW.out.below hb1))
    | (go_at_call 29; refine (open_any HW1.out hle).mono ?_; rintro e w2 ⟨vo, rfl, hoo, hb2⟩; obtain ⟨oo, co, rfl⟩ := own_slice hoo; have HW2 := Lib.hid (HW1.out.below hb2))
    | (go_at_call 30; refine (wait_any HW2.out hle).mono ?_; rintro e w3 ⟨vw, rfl, how, hb3⟩; obtain ⟨ow, cw, rfl⟩ := own_slice how))
  have hz1 := hb1.size
  have hz2 := hb2.size
  have hz3 := hb3.size
  have hb03 : Below W0.heap.size W0 w3 := hb1.trans ((hb2.mono hz1).trans (hb3.mono (by omega)))
  have HW3 := Lib.hid (HW.out.below hb03)
  have HR3 := Lib.hid (HR.out.below hb03)
  have HBK3 := Lib.hid (HBK.out.below hb03 HBK.out.lt)
  have hoa3 := own_below hoa (hb2.trans (hb3.mono hz2))
  have hoo3 := own_below hoo hb3
  have HIA := Lib.hid (IntsAt.of_row hoa3)
  have HIO := Lib.hid (IntsAt.of_row hoo3)
  have HIW := Lib.hid (IntsAt.of_row how)
  have HRO : Hid (∀ k, k < 3 → RowP 3 w3 (three ⟨oa, (sel tAll l).length, ca⟩ ⟨oo, (sel tOpen l).length, co⟩ ⟨ow, (sel tWait l).length, cw⟩ k) (fun _ => False) k) := Lib.hid fun k hk => by
    rcases (by omega : k = 0 ∨ k = 1 ∨ k = 2) with rfl | rfl | rfl
    · exact ⟨_, own_weak hoa3 (Nat.zero_le _), fun _ _ h => h.elim⟩
    · exact ⟨_, own_weak hoo3 (Nat.zero_le _), fun _ _ h => h.elim⟩
    · exact ⟨_, own_weak how (Nat.zero_le _), fun _ _ h => h.elim⟩
  have HNL : Hid (∀ k, k < 3 → (three ⟨oa, (sel tAll l).length, ca⟩ ⟨oo, (sel tOpen l).length, co⟩ ⟨ow, (sel tWait l).length, cw⟩ k).n ≤ 1000000) := Lib.hid fun k hk => by
    rcases (by omega : k = 0 ∨ k = 1 ∨ k = 2) with rfl | rfl | rfl
    · exact Nat.le_trans (sel_le _ _) hle
    · exact Nat.le_trans (sel_le _ _) hle
    · exact Nat.le_trans (sel_le _ _) hle
  have hbl : ∀ k, k < 3 → ∀ b, bk (three ⟨oa, (sel tAll l).length, ca⟩ ⟨oo, (sel tOpen l).length, co⟩ ⟨ow, (sel tWait l).length, cw⟩ k) = some b → (k = 0 ∧ W0.heap.size ≤ b ∧ b < w1.heap.size) ∨ (k = 1 ∧ w1.heap.size ≤ b ∧ b < w2.heap.size) ∨ (k = 2 ∧ w2.heap.size ≤ b ∧ b < w3.heap.size) := fun k hk b hb => by
    rcases (by omega : k = 0 ∨ k = 1 ∨ k = 2) with rfl | rfl | rfl
    · exact .inl ⟨rfl, hoa.lt b hb⟩
    · exact .inr (.inl ⟨rfl, hoo.lt b hb⟩)
    · exact .inr (.inr ⟨rfl, how.lt b hb⟩)
  have HAP : Hid (ApartS 3 (three ⟨oa, (sel tAll l).length, ca⟩ ⟨oo, (sel tOpen l).length, co⟩ ⟨ow, (sel tWait l).length, cw⟩)) := Lib.hid fun i j hi hj hne b h1 h2 => by
    have a1 := hbl i hi b h1
    have a2 := hbl j hj b h2
    omega
  have HXB : Hid (∀ b, Xs 3 (three ⟨oa, (sel tAll l).length, ca⟩ ⟨oo, (sel tOpen l).length, co⟩ ⟨ow, (sel tWait l).length, cw⟩) b → W0.heap.size ≤ b) := Lib.hid fun b ⟨j, hj, e⟩ => by
    have a1 := hbl j hj b e
    omega
  clear hoa hoo how hoa3 hoo3 hbl HW1 HW2
  go_cut [69] (fun s69 wx => s69 = .bool false ∧ Below W0.heap.size W0 wx)
  case first =>
    apply wp_flowI ?hm ?hok [some _, some _, none, some _, some _, some _, some _, some _, none, some _, some _, some _, some _, some _, some _, none, some _, some _, some _, some _, some _, some _, some _, some _, some _, some _, some _, some _, some _, some _, some _, some _, some _, some _, some _, some _, some _, some _, none, some _, some _, some _] tellCs (Kept (Xs 3 (three ⟨oa, (sel tAll l).length, ca⟩ ⟨oo, (sel tOpen l).length, co⟩ ⟨ow, (sel tWait l).length, cw⟩)) w3) (fun i X => i ≤ 39 → Below w3.heap.size w3 X)
      (fun i v X => tellV X (.slice oa (sel tAll l).length ca) (.slice oo (sel tOpen l).length co) (.slice ow (sel tWait l).length cw) l i v) (fun p _ => tellG (three ⟨oa, (sel tAll l).length, ca⟩ ⟨oo, (sel tOpen l).length, co⟩ ⟨ow, (sel tWait l).length, cw⟩) p)
    case hm => rfl
    case hok => kernel_rfl
    case h =>
      intro u
      iterate 2
        (apply flowI_yes
         · rfl
         · intro W1 hW hI hF K hK
           have hb := hI (by decide)
           obtain ⟨q0, q1, -, -⟩ := (HBK3.out.below hb HBK3.out.lt).two
           have HNW := Lib.hid (now_any (HW3.out.below hb))
           have HLN := Lib.hid (len_any (HW3.out.below hb))
           go_wp2_with (first | (go_at_call 13; refine HNW.out.mono ?_; rintro e w' ⟨rfl, rfl⟩) | (go_at_call 27; refine HLN.out.mono ?_; rintro e w' ⟨rfl, rfl⟩))
           exact tellG_of (by decide) (Below.refl _ _)
         simp only [Act.put, List.setIfInBounds_toArray, List.set_cons_zero, List.set_cons_succ, Nat.reduceAdd])
      apply flowI_open (j := 2)
      · rfl
      · intro W1 hW hI hF K hK
        have hb := hI (by decide)
        have HL := Lib.hid (rlistM (HR3.out.below hb) now 3 hlen (ids_all l))
        go_wp2_with (first | (go_at_call 61; refine HL.out.mono ?_; rintro e w' ⟨v', rfl, hv', hb'⟩))
        exact hK v' w' (tellG_of (by decide) hb') ⟨fun _ => hv', fun h => absurd h (by decide), fun h => absurd h (by decide), fun h => absurd h (by decide)⟩
      simp only [Act.put, List.setIfInBounds_toArray, List.set_cons_zero, List.set_cons_succ, Nat.reduceAdd]
      apply flowI_yes (j := 3)
      · rfl
      · intro W1 hW hI hF K hK
        have hb := hI (by decide)
        have h2 := (hF 2 rfl).1 rfl
        have HS := Lib.hid (same_yes (HIA.out.below hb) h2 (Nat.le_trans (sel_le _ _) hle))
        go_wp2_with (first | (go_at_call 35; refine HS.out.mono ?_; rintro e w' ⟨rfl, hb'⟩))
        exact tellG_of (by decide) hb'
      simp only [Act.put, List.setIfInBounds_toArray, List.set_cons_zero, List.set_cons_succ, Nat.reduceAdd]
      iterate 4
        (apply flowI_yes
         · rfl
         · intro W1 hW hI hF K hK
           have hb := hI (by decide)
           obtain ⟨q0, q1, -, -⟩ := (HBK3.out.below hb HBK3.out.lt).two
           have HNW := Lib.hid (now_any (HW3.out.below hb))
           have HLN := Lib.hid (len_any (HW3.out.below hb))
           go_wp2_with (first | (go_at_call 13; refine HNW.out.mono ?_; rintro e w' ⟨rfl, rfl⟩) | (go_at_call 27; refine HLN.out.mono ?_; rintro e w' ⟨rfl, rfl⟩))
           exact tellG_of (by decide) (Below.refl _ _)
         simp only [Act.put, List.setIfInBounds_toArray, List.set_cons_zero, List.set_cons_succ, Nat.reduceAdd])
      apply flowI_open (j := 8)
      · rfl
      · intro W1 hW hI hF K hK
        have hb := hI (by decide)
        have HL := Lib.hid (rlistM (HR3.out.below hb) now 1 hlen (ids_open l))
        go_wp2_with (first | (go_at_call 61; refine HL.out.mono ?_; rintro e w' ⟨v', rfl, hv', hb'⟩))
        exact hK v' w' (tellG_of (by decide) hb') ⟨fun h => absurd h (by decide), fun _ => hv', fun h => absurd h (by decide), fun h => absurd h (by decide)⟩
      simp only [Act.put, List.setIfInBounds_toArray, List.set_cons_zero, List.set_cons_succ, Nat.reduceAdd]
      apply flowI_yes (j := 9)
      · rfl
      · intro W1 hW hI hF K hK
        have hb := hI (by decide)
        have h2 := (hF 8 rfl).2.1 rfl
        have HS := Lib.hid (same_yes (HIO.out.below hb) h2 (Nat.le_trans (sel_le _ _) hle))
        go_wp2_with (first | (go_at_call 35; refine HS.out.mono ?_; rintro e w' ⟨rfl, hb'⟩))
        exact tellG_of (by decide) hb'
      simp only [Act.put, List.setIfInBounds_toArray, List.set_cons_zero, List.set_cons_succ, Nat.reduceAdd]
      iterate 5
        (apply flowI_yes
         · rfl
         · intro W1 hW hI hF K hK
           have hb := hI (by decide)
           obtain ⟨q0, q1, -, -⟩ := (HBK3.out.below hb HBK3.out.lt).two
           have HNW := Lib.hid (now_any (HW3.out.below hb))
           have HLN := Lib.hid (len_any (HW3.out.below hb))
           go_wp2_with (first | (go_at_call 13; refine HNW.out.mono ?_; rintro e w' ⟨rfl, rfl⟩) | (go_at_call 27; refine HLN.out.mono ?_; rintro e w' ⟨rfl, rfl⟩))
           exact tellG_of (by decide) (Below.refl _ _)
         simp only [Act.put, List.setIfInBounds_toArray, List.set_cons_zero, List.set_cons_succ, Nat.reduceAdd])
      apply flowI_open (j := 15)
      · rfl
      · intro W1 hW hI hF K hK
        have hb := hI (by decide)
        have HL := Lib.hid (rlistM (HR3.out.below hb) now 2 hlen (ids_wait l))
        go_wp2_with (first | (go_at_call 61; refine HL.out.mono ?_; rintro e w' ⟨v', rfl, hv', hb'⟩))
        exact hK v' w' (tellG_of (by decide) hb') ⟨fun h => absurd h (by decide), fun h => absurd h (by decide), fun _ => hv', fun h => absurd h (by decide)⟩
      simp only [Act.put, List.setIfInBounds_toArray, List.set_cons_zero, List.set_cons_succ, Nat.reduceAdd]
      apply flowI_yes (j := 16)
      · rfl
      · intro W1 hW hI hF K hK
        have hb := hI (by decide)
        have h2 := (hF 15 rfl).2.2.1 rfl
        have HS := Lib.hid (same_yes (HIW.out.below hb) h2 (Nat.le_trans (sel_le _ _) hle))
        go_wp2_with (first | (go_at_call 35; refine HS.out.mono ?_; rintro e w' ⟨rfl, hb'⟩))
        exact tellG_of (by decide) hb'
      simp only [Act.put, List.setIfInBounds_toArray, List.set_cons_zero, List.set_cons_succ, Nat.reduceAdd]
      iterate 21
        (apply flowI_yes
         · rfl
         · intro W1 hW hI hF K hK
           have hb := hI (by decide)
           obtain ⟨q0, q1, -, -⟩ := (HBK3.out.below hb HBK3.out.lt).two
           have HNW := Lib.hid (now_any (HW3.out.below hb))
           have HLN := Lib.hid (len_any (HW3.out.below hb))
           go_wp2_with (first | (go_at_call 13; refine HNW.out.mono ?_; rintro e w' ⟨rfl, rfl⟩) | (go_at_call 27; refine HLN.out.mono ?_; rintro e w' ⟨rfl, rfl⟩))
           exact tellG_of (by decide) (Below.refl _ _)
         simp only [Act.put, List.setIfInBounds_toArray, List.set_cons_zero, List.set_cons_succ, Nat.reduceAdd])
      apply flowI_open (j := 38)
      · rfl
      · intro W1 hW hI hF K hK
        go_wp2_with fail
        exact hK _ _ (tellG_of (by decide) ((Below.refl _ _).alloc (Nat.le_refl _) _)) ⟨fun h => absurd h (by decide), fun h => absurd h (by decide), fun h => absurd h (by decide), fun _ => ⟨_, rfl, Blk.new _ _ _⟩⟩
      simp only [Act.put, List.setIfInBounds_toArray, List.set_cons_zero, List.set_cons_succ, Nat.reduceAdd]
      apply flowI_yes (j := 39)
      · rfl
      · intro W1 hW hI hF K hK
        have hb := hI (by decide)
        obtain ⟨L0, hu, hB⟩ := (hF 38 rfl).2.2.2 rfl
        have HA := Lib.hid (apart_any (w := W1) (L0 := L0) (N := 3) (c0 := 3) (ss := three ⟨oa, (sel tAll l).length, ca⟩ ⟨oo, (sel tOpen l).length, co⟩ ⟨ow, (sel tWait l).length, cw⟩) (by decide) (by decide) (by decide) (three_cells hB) hB.lt
          (fun k hk => (HRO.out k hk).keep (Kept.of_below hb (fun _ => False)) (fun _ _ h => h)) HNL.out HAP.out)
        clear hF
        rw [hu] at hK ⊢
        go_wp2_with (first | (go_at_call 62; refine HA.out.mono ?_; rintro e w' ⟨rfl, hk'⟩))
        exact ⟨fun e => absurd rfl e, fun _ => hk'⟩
      simp only [Act.put, List.setIfInBounds_toArray, List.set_cons_zero, List.set_cons_succ, Nat.reduceAdd]
      iterate 2
        (apply flowI_yes
         · rfl
         · intro W1 hW hI hF K hK
           go_wp2_with fail
           exact tellG_of (by decide) (Below.refl _ _)
         simp only [Act.put, List.setIfInBounds_toArray, List.set_cons_zero, List.set_cons_succ, Nat.reduceAdd])
      refine flowI_end fun W7 hb7 hV7 => ?_
      go_wp2
      go_meet
      exact ⟨rfl, hb03.trans (hb7.belowOf hb03.size (fun i hi hx => by have := HXB.out i hx; omega))⟩
    case hokI => kernel_rfl
    case hcs => exact fun i q h => by rcases useI4 h with rfl | rfl | rfl | rfl <;> rfl
    case hW0 => exact (Kept.refl _ _).drew
    case hI0 => exact fun _ _ _ => (Below.refl _ _).drew
    case hIk =>
      intro p i u x1 x2 hpi hbit hi hw hf hg hI hle39
      by_cases hp : p = 39
      · subst hp
        exact (post_no (by kernel_rfl) hi hpi hle39 hbit).elim
      · exact (hI hle39).trans ((hg.1 hp).mono (hI hle39).size)
    case hW =>
      intro p u x1 x2 hw hf hg
      by_cases hp : p = 39
      · exact hw.trans (hg.2 hp)
      · exact hw.trans (Kept.of_below (hg.1 hp) _)
    case hG =>
      intro p i u x1 x2 hlive hv0 hw hf hg hv
      by_cases hp : p = 39
      · subst hp
        have hd := dead_no (ps := [39]) (is := [2, 8, 15, 38]) (by kernel_rfl) hlive (by simp)
        exact ⟨fun e => (hd (by simp [e])).elim, fun e => (hd (by simp [e])).elim, fun e => (hd (by simp [e])).elim, fun e => (hd (by simp [e])).elim⟩
      · exact tellV_below hv (hg.1 hp)
  case rest =>
    obtain ⟨rfl, hbW⟩ := hcut
    have hz0 := hb0.size
    have hzc := hbW.size
    obtain ⟨r, hr⟩ := isWake_exists now l
    obtain ⟨x, y, hxy⟩ := wake_two r
    have HWK := Lib.hid hr
    have HF := Lib.hid HW.out.fits
    clear HIA HIO HIW HRO HNL HAP HXB hb1 hb2 hb3 hz1 hz2 hz3 hb03 HW3 HR3 HBK3 hr
    have WK : Hid (∀ W, Below W0.heap.size W0 W → Calls Try.prog 12 #[.pointer (some ⟨pb, 0, none⟩)] W fun e w' => e = .returned (.tuple #[.int .i64 x, .int .i64 y]) ∧ Below W.heap.size W w') := Lib.hid fun W hb => by rw [← hxy]; exact wakeW_is (HW.out.below hb) HWK.out
    have RK : Hid (∀ W, Below W0.heap.size W0 W → Calls Try.prog 63 #[.agg #[.int .i64 now, .slice ob l.length cap], .int .i64 61] W fun e w' => e = .returned (.tuple #[.int .i64 x, .int .i64 y]) ∧ Below W.heap.size W w') := Lib.hid fun W hb => by rw [← hxy]; exact rwakes_is (HR.out.below hb) now HF.out H60.out hle HWK.out
    clear HWK HF hxy
    have HBW := Lib.hid hbW
    have HBKc := Lib.hid (HBK.out.below hbW HBK.out.lt)
    clear hbW
    go_upto_if 69 with (fail)
    go_wp2_with (first
      | (go_at_call 12; refine (WK.out _ HBW.out).mono ?_; rintro e w1 ⟨rfl, hb1⟩; have HBW := Lib.hid (HBW.out.trans (hb1.mono HBW.out.size)); have HBKc := Lib.hid (HBKc.out.below hb1 HBKc.out.lt); obtain ⟨q0, q1, -, -⟩ := HBKc.out.two; clear hb1)
      | (go_at_call 63; refine (RK.out _ HBW.out).mono ?_; rintro e w2 ⟨rfl, hb1⟩; have HBW := Lib.hid (HBW.out.trans (hb1.mono HBW.out.size)); have HBKc := Lib.hid (HBKc.out.below hb1 HBKc.out.lt); obtain ⟨q0, q1, -, -⟩ := HBKc.out.two; clear hb1))
    have hl0 := HBK.out.lt
    have hcp := HR.out.cap
    have hcI : (l.length : Int) ≤ cap := by omega
    go_loopw [91] (fun s91 wx => ∃ k : Nat, k ≤ l.length ∧ s91 = .int .i64 k ∧ Below W0.heap.size W0 wx) (fun s91 _ => l.length - (intOf s91).toNat)
    case atStart => exact ⟨0, Nat.zero_le _, rfl, HBW.out⟩
    case round =>
      obtain ⟨k, hk, rfl, hbr⟩ := hrel
      have hzr := hbr.size
      by_cases hlt : k < l.length
      · have hltI : (k : Int) < l.length := by omega
        obtain ⟨g, hob, hg, c0, c1, c2, c3, c4, c5⟩ := HR.out.memb k (by simpa using hlt)
        simp only [List.getElem_map, core] at c0 c1 c2 c3 c4 c5
        have hmem : l[k] ∈ l := List.getElem_mem hlt
        have GT : Hid (∀ W, Below W0.heap.size W0 W → Calls Try.prog 23 #[.pointer (some ⟨pb, 0, none⟩), .int .i64 l[k].id] W fun e w' => e = .returned (.tuple #[.agg #[.int .i64 l[k].plan.every, .int .i64 l[k].plan.offset, .int .i64 l[k].plan.timeout], .agg #[.int .u8 l[k].phase.state, .int .i64 l[k].phase.since], .int .i64 0]) ∧ Below W.heap.size W w') :=
          Lib.hid fun W hb => get_some (HW.out.below hb) (wf_id (HW.out.range _ hmem)) (findM_at HW.out.ids hmem)
        obtain ⟨m, hm⟩ : ∃ m, m = l[k] := ⟨_, rfl⟩
        rw [← hm] at c0 c1 c2 c3 c4 c5 GT
        have key : ∀ o, wr.cell? ⟨g, o, none⟩ = W0.cell? ⟨g, o, none⟩ := fun o => hbr.cell (p := ⟨g, o, none⟩) hg
        have d0 := (key _).trans c0
        have d1 := (key _).trans c1
        have d2 := (key _).trans c2
        have d3 := (key _).trans c3
        have d4 := (key _).trans c4
        have d5 := (key _).trans c5
        have hbA := hbr.alloc hzr (.cells #[.int .i64 m.id, .int .i64 m.plan.every, .int .i64 m.plan.offset, .int .i64 m.plan.timeout, .int .u8 m.phase.state, .int .i64 m.phase.since] 118)
        have BM := Blk.new wr #[.int .i64 m.id, .int .i64 m.plan.every, .int .i64 m.plan.offset, .int .i64 m.plan.timeout, .int .u8 m.phase.state, .int .i64 m.phase.since] 118
        have HBA := Lib.hid hbA
        have HBM := Lib.hid BM
        have HBR := Lib.hid hbr
        subst hob
        clear hm hmem key c0 c1 c2 c3 c4 c5 hbA BM hbr
        go_wp2_with (first
          | (go_at_call 23; refine (GT.out _ HBA.out).mono ?_; rintro e w5 ⟨rfl, hb5⟩; have BM5 := HBM.out.below hb5 HBM.out.lt; have e0 := fun O O' => ((BM5.alloc O).alloc O').cell; have hz5 := hb5.size; simp only [World.size_alloc] at hz5))
        have hb6 := HBA.out.trans (hb5.mono HBA.out.size)
        have hz6 := hb6.size
        go_roundw
        case rel => exact ⟨k + 1, by omega, by go_num, (hb6.alloc hz6 _).alloc (by simp; omega) _⟩
        case measure => simp [intOf]; omega
      · have HBR := Lib.hid hbr
        have hbk := HBK.out.below hbr hl0
        obtain ⟨q2, q3, -, -⟩ := hbk.two
        cases hfm : findM l id with
        | some m0 =>
          obtain ⟨hmm, hmid⟩ := findM_some hfm
          obtain ⟨j, hj, hjm⟩ := List.getElem_of_mem hmm
          have RF := Lib.hid (rfind_yes (HR.out.below hbr) HW.out.ids now id hlen hj (by rw [hjm]; exact hmid))
          clear hfm hmm hmid hjm hbk hbr
          go_wp2_with (first | (go_at_call 59; refine RF.out.mono ?_; rintro e w6 ⟨rfl, hb6⟩))
          go_ret
          exact ⟨rfl, hb0.trans ((HBR.out.trans (hb6.mono HBR.out.size)).mono hb0.size)⟩
        | none =>
          have RF := Lib.hid (rfind_no (HR.out.below hbr) HW.out.ids now id hlen hfm)
          have GN : Hid (∀ W, Below W0.heap.size W0 W → Calls Try.prog 23 #[.pointer (some ⟨pb, 0, none⟩), .int .i64 id] W fun e w' => e = .returned (.tuple #[.agg #[.int .i64 0, .int .i64 0, .int .i64 0], .agg #[.int .u8 0, .int .i64 0], .int .i64 6]) ∧ Below W.heap.size W w') :=
            Lib.hid fun W hb => get_none (HW.out.below hb) HID.out hfm
          clear hfm hbk hbr
          go_wp2_with (first
            | (go_at_call 59; refine RF.out.mono ?_; rintro e w6 ⟨rfl, hb6⟩; have HB6 := Lib.hid (HBR.out.trans (hb6.mono HBR.out.size)))
            | (go_at_call 23; refine (GN.out _ HB6.out).mono ?_; rintro e w7 ⟨rfl, hb7⟩))
          have hb8 := hb0.trans ((HB6.out.trans (hb7.mono HB6.out.size)).mono hb0.size)
          have hz8 := hb8.size
          go_ret
          exact ⟨rfl, (hb8.alloc hz8 _).alloc (by simp; omega) _⟩
end Go.Proofs.Ytokgfmibhkkiaaa
