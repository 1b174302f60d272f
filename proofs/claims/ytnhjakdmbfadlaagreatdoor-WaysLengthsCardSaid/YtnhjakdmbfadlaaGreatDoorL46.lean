/- Parts of the proof: Lnt, Lnl. Conditions: none. -/
import Derived.Test.YtnhjakdmbfadlaaGreatDoorL45
import Derived.Test.YtnhjakdmbfadlaaGreatDoorL13
import Derived.Test.YtnhjakdmbfadlaaGreatDoorL36
import Derived.Laws.EntriesVeiled
set_option linter.all false
/- syntax.Lengths: the loop over the subs, the closure, the whole. -/
namespace Go.Proofs.YtnhjakdmbfadlaaGreatDoor
open Go.RowKit Wy Mem Grow

theorem lensL_take (k lo hi : Int) : ∀ (l : List Nd) (i0 i : Nat) (acc : Int × Int) (hi' : i < l.length), lensL k lo hi i0 acc (l.take (i + 1)) = stepLen k lo hi (i0 + i) (lensL k lo hi i0 acc (l.take i)) (lens l[i])
  | [], _, i, _, h => absurd h (by simp)
  | s :: r, i0, 0, acc, _ => by
    simp only [List.take_succ_cons, List.take_zero, List.getElem_cons_zero, Nat.add_zero]
    rw [lensL, lensL, lensL]
  | s :: r, i0, i + 1, acc, h => by
    have h' : i < r.length := by simpa using h
    simp only [List.take_succ_cons, List.getElem_cons_succ]
    rw [lensL, lensL_take k lo hi r (i0 + 1) i _ h', lensL, show i0 + 1 + i = i0 + (i + 1) by omega]
theorem nodesL_len : ∀ l : List Nd, l.length ≤ nodesL l
  | [] => by simp
  | .mk k set lo hi lz subs :: r => by
    have := nodesL_len r
    rw [nodesL, nodes, List.length_cons]
    omega
theorem five_le {set : List Rg} {lo hi : Int} {lazy : Bool} {subs : List Nd} (h : shapedN (.mk 5 set lo hi lazy subs) = true) : lo ≤ 1000 ∧ (hi = -1 ∨ hi ≤ 1000) := by
  simp only [shapedN, if_true, Bool.and_eq_true, Bool.or_eq_true, decide_eq_true_eq] at h
  omega
theorem mul_fits {a n : Int} (ha : a = -1 ∨ 0 ≤ a ∧ a ≤ 1073741824) (hn : n = -1 ∨ 0 ≤ n ∧ n ≤ 1000) : a ≠ -1 → n ≠ -1 → 0 ≤ a * n ∧ a * n ≤ 9223372036854775807 := fun h1 h2 => by
  have h3 : 0 ≤ a ∧ a ≤ 1073741824 := by omega
  have h4 : 0 ≤ n ∧ n ≤ 1000 := by omega
  have h5 : a * n ≤ 1073741824 * 1000 := Int.mul_le_mul h3.2 h4.2 h4.1 (by decide)
  exact ⟨Int.mul_nonneg h3.1 h4.1, by omega⟩
/-- what the closure of Lengths gives for a tree -/
def LenSpec (t : Nd) : Prop := (Wy.look t).shaped = true → ∀ (N : Nat → Prop) (w : World) (vb : Nat) (cs : List Value), NdAt N w t cs → w.cell? ⟨vb, 0, none⟩ = some (lenV vb) → vb < w.heap.size → nodes t ≤ 1000000 →
  Calls Tryz.prog 54 #[.agg cs.toArray, .pointer (some ⟨vb, 0, none⟩)] w fun e w' => e = .returned (.tuple #[.int .i64 (lens t).1, .int .i64 (lens t).2]) ∧ Below w.heap.size w w'
/-- the loop over the subs: its round's invariant -/
def Lni (k lo hi : Int) (subs : List Nd) (acc : Int × Int) (q : Nat → Value) (W1 : World) (n : Nat) (a : Act) (w : World) : Prop := ∃ (m : List Value) (i : Nat), a = ⟨m.toArray, []⟩ ∧ m.length = 72 ∧ (m[1]? = some (q 1) ∧ m[2]? = some (q 2) ∧ m[15]? = some (q 15) ∧ m[16]? = some (q 16)) ∧ m[5]? = some (.int .i64 (lensL k lo hi 0 acc (subs.take i)).1) ∧ m[6]? = some (.int .i64 (lensL k lo hi 0 acc (subs.take i)).2) ∧ m[17]? = some (.int .i64 i) ∧ i ≤ subs.length ∧ n = subs.length - i ∧ Below W1.heap.size W1 w
set_option maxHeartbeats 4000000 in
set_option maxRecDepth 100000 in
theorem ln_loop {N : Nat → Prop} {k lo hi : Int} {set : List Rg} {lz : Bool} {subs : List Nd} {p1 p2 : Option Addr} {n1 d1 n2 d2 nb vb uc n : Nat} {uv : Option Addr} {ucs : List Value} {acc : Int × Int} {q : Nat → Value} {W1 w : World} {a : Act} {Q : Exit → Act → World → Prop} (hI : Lni k lo hi subs acc q W1 n a w)
    (ih : ∀ s ∈ subs, LenSpec s) (hsh : shapedN (.mk k set lo hi lz subs) = true) (hss : ∀ s ∈ subs, (Wy.look s).shaped = true) (hacc : Okl acc) (hno : nodesL subs ≤ 1000000)
    (hq : q 1 = .pointer (some ⟨vb, 0, none⟩) ∧ q 2 = .pointer (some ⟨nb, 0, none⟩) ∧ q 15 = .slice uv subs.length uc ∧ q 16 = .int .i64 subs.length)
    (hv : W1.cell? ⟨vb, 0, none⟩ = some (lenV vb)) (vz : vb < W1.heap.size) (hB : Blk W1 nb #[.int .u8 k, .slice p1 n1 d1, .int .i64 lo, .int .i64 hi, .bool lz, .slice p2 n2 d2] 27) (hrow : Row N W1 (.slice uv subs.length uc) subs.length 6 ucs) (hsubs : NdsAt N W1 subs ucs)
    (hQ : ∀ (m : List Value) (w' : World), m.length = 72 → m[5]? = some (.int .i64 (lensL k lo hi 0 acc subs).1) → m[6]? = some (.int .i64 (lensL k lo hi 0 acc subs).2) → Below W1.heap.size W1 w' → Q (.exit 0) ⟨m.toArray, []⟩ w') :
    Code.wp Tryz.prog (lnC [1, 1, 1, 0, 1, 0, 0]) (Exit.then (fun a' w' => ∃ n', n' < n ∧ Lni k lo hi subs acc q W1 n' a' w') Q) a w := by
  obtain ⟨m, i, rfl, hm, ⟨g1, g2, g15, g16⟩, h5, h6, h17, hi', hn, hb⟩ := hI
  obtain ⟨e, rfl⟩ := frame72 hm
  obtain ⟨q1, q2, q15, q16⟩ := hq
  have e1 : e 1 = .pointer (some ⟨vb, 0, none⟩) := (Option.some.inj g1).trans q1
  have e2 : e 2 = .pointer (some ⟨nb, 0, none⟩) := (Option.some.inj g2).trans q2
  have e15 : e 15 = .slice uv subs.length uc := (Option.some.inj g15).trans q15
  have e16 : e 16 = .int .i64 subs.length := (Option.some.inj g16).trans q16
  have e5 : e 5 = _ := Option.some.inj h5
  have e6 : e 6 = _ := Option.some.inj h6
  have e17 : e 17 = _ := Option.some.inj h17
  have hlen : subs.length ≤ 1000000 := Nat.le_trans (nodesL_len subs) hno
  by_cases hil : ¬ i < subs.length
  · have hie : i = subs.length := by omega
    rw [e16, e17, hie]
    exact ln_out e (by omega) (fun m k0 k5 k6 => hQ m w k0 (k5.trans (congrArg some (e5.trans (by rw [hie, List.take_length])))) (k6.trans (congrArg some (e6.trans (by rw [hie, List.take_length])))) hb)
  · have hil : i < subs.length := by omega
    obtain ⟨ub, uo, uc', hue, huc, hum, hNub, hubz, hucell⟩ := hrow.parts hsubs (by omega)
    simp only [Value.slice.injEq, true_and] at hue
    obtain ⟨rfl, rfl⟩ := hue
    obtain ⟨tsv, tuv, hnt, t0, t1, t2, t3, t4, t5⟩ := hucell i hil
    obtain ⟨k', lo', hi'', lz', o1, o2, m1, c1, m2, c2, he⟩ := nd6k hnt
    simp only [List.cons.injEq, Value.int.injEq, Value.bool.injEq, true_and, and_true] at he
    obtain ⟨rfl, rfl, rfl, rfl, rfl, rfl⟩ := he
    have hmem : subs[i] ∈ subs := List.getElem_mem hil
    have hoks := lens_ok _ (hss _ hmem)
    have hacci := lensL_ok k lo hi (fun e => by subst e; obtain ⟨-, h1, h2, -⟩ := shaped_five hsh; exact ⟨h1, by omega⟩) (subs.take i) (fun s hs => hss s (List.mem_of_mem_take hs)) 0 acc hacc
    have hstp := lensL_take k lo hi subs 0 i acc hil
    rw [Nat.zero_add] at hstp
    have hnos : nodes subs[i] ≤ 1000000 := by have := nodesL_at hil; omega
    have hcall : ∀ w', Below w.heap.size w w' → Calls Tryz.prog 54 #[.agg #[.int .u8 subs[i].kind, .slice o1 m1 c1, .int .i64 subs[i].lo, .int .i64 subs[i].hi, .bool subs[i].lazy, .slice o2 m2 c2], .pointer (some ⟨vb, 0, none⟩)] w' fun e w'' => e = .returned (.tuple #[.int .i64 (lens subs[i]).1, .int .i64 (lens subs[i]).2]) ∧ Below w'.heap.size w' w'' := fun w' h => by
      have hbw := hb.trans (h.mono hb.size)
      exact ih _ hmem (hss _ hmem) N w' vb _ (NdAt.go (Kept.of_below hbw (fun _ => False)) (fun q _ hn => ⟨id, hn⟩) hnt) ((hbw.cell (p := ⟨vb, 0, none⟩) vz).trans hv) (Nat.lt_of_lt_of_le vz hbw.size) hnos
    have g0 := (hb.cell (p := ⟨ub, uo + i * 6, none⟩) hubz).trans t0
    have g1' := (hb.cell (p := ⟨ub, uo + i * 6 + 1, none⟩) hubz).trans t1
    have g2' := (hb.cell (p := ⟨ub, uo + i * 6 + 2, none⟩) hubz).trans t2
    have g3' := (hb.cell (p := ⟨ub, uo + i * 6 + 3, none⟩) hubz).trans t3
    have g4' := (hb.cell (p := ⟨ub, uo + i * 6 + 4, none⟩) hubz).trans t4
    have g5' := (hb.cell (p := ⟨ub, uo + i * 6 + 5, none⟩) hubz).trans t5
    have hv' := (hb.cell (p := ⟨vb, 0, none⟩) vz).trans hv
    have vz' := Nat.lt_of_lt_of_le vz hb.size
    have uz' := Nat.lt_of_lt_of_le hubz hb.size
    have hB' := hB.below hb hB.lt
    rw [e1, e2, e5, e6, e15, e16, e17]
    generalize hA : lensL k lo hi 0 acc (subs.take i) = A at *
    generalize hT : lens subs[i] = T at *
    have hA1 : -1 ≤ A.1 ∧ A.1 ≤ 1073741824 := ⟨by have := hacci.1; omega, hacci.2.1⟩
    have hA2 : -1 ≤ A.2 ∧ A.2 ≤ 1073741824 := by have := hacci.2.2; omega
    have hT1 : -1 ≤ T.1 ∧ T.1 ≤ 1073741824 := ⟨by have := hoks.1; omega, hoks.2.1⟩
    have hT2 : -1 ≤ T.2 ∧ T.2 ≤ 1073741824 := by have := hoks.2.2; omega
    have hJ : ∀ (x y : Int), stepLen k lo hi i A T = (x, y) → ∀ (m : List Value) (w' : World), m.length = 72 → (m[1]? = some (.pointer (some ⟨vb, 0, none⟩)) ∧ m[2]? = some (.pointer (some ⟨nb, 0, none⟩)) ∧ m[15]? = some (.slice (some ⟨ub, uo, none⟩) subs.length uc) ∧ m[16]? = some (.int .i64 subs.length)) → m[5]? = some (.int .i64 x) → m[6]? = some (.int .i64 y) → m[17]? = some (.int .i64 (i + 1)) → Below w.heap.size w w' → ∃ n', n' < n ∧ Lni k lo hi subs acc q W1 n' ⟨m.toArray, []⟩ w' := fun x y hxy m w' k0 k1 k2 k3 k4 k5 =>
      ⟨subs.length - (i + 1), by omega, m, i + 1, rfl, k0, by rw [q1, q2, q15, q16]; exact k1, by rw [hstp, hxy]; exact k2, by rw [hstp, hxy]; exact k3, k4, by omega, rfl, hb.trans (k5.mono hb.size)⟩
    by_cases hk5 : k = 5
    · obtain ⟨-, h1, h2, -⟩ := shaped_five (by subst hk5; exact hsh)
      have h3 := five_le (by subst hk5; exact hsh)
      refine ln_rep e hil (by omega) huc hv' vz' hB' uz' g0 g1' g2' g3' g4' g5' hcall hT1 hT2 hA1 hA2 hk5 (mul_fits (.inr ⟨hoks.1, hoks.2.1⟩) (.inr ⟨h1, h3.1⟩)) (mul_fits hoks.2.2 (by omega)) (hJ _ _ ?_)
      unfold stepLen
      rw [if_pos hk5]
    by_cases hk4 : k = 4
    · by_cases hi0 : i = 0
      · refine ln_plus0 e hil (by omega) huc hv' vz' hB' uz' g0 g1' g2' g3' g4' g5' hcall hT1 hT2 hA1 hA2 hk4 hi0 (hJ _ _ ?_)
        unfold stepLen
        rw [if_neg hk5, if_pos (.inr hi0)]
      · have hst : stepLen k lo hi i A T = (min A.1 T.1, if A.2 ≠ -1 ∧ (T.2 = -1 ∨ A.2 < T.2) then T.2 else A.2) := by
          unfold stepLen
          rw [if_neg hk5, if_neg (by omega)]
        by_cases hm : A.2 = -1
        · exact ln_alt1 e hil (by omega) huc hv' vz' hB' uz' g0 g1' g2' g3' g4' g5' hcall hT1 hT2 hA1 hA2 hk4 hi0 hm (hJ _ _ (by rw [hst, if_neg (by omega)]))
        · by_cases hb' : T.2 = -1
          · exact ln_alt2 e hil (by omega) huc hv' vz' hB' uz' g0 g1' g2' g3' g4' g5' hcall hT1 hT2 hA1 hA2 hk4 hi0 hm hb' (hJ _ _ (by rw [hst, if_pos (by omega)]))
          · by_cases hlt : A.2 < T.2
            · exact ln_alt3 e hil (by omega) huc hv' vz' hB' uz' g0 g1' g2' g3' g4' g5' hcall hT1 hT2 hA1 hA2 hk4 hi0 hm hb' hlt (hJ _ _ (by rw [hst, if_pos (by omega)]))
            · exact ln_alt4 e hil (by omega) huc hv' vz' hB' uz' g0 g1' g2' g3' g4' g5' hcall hT1 hT2 hA1 hA2 hk4 hi0 hm hb' hlt (hJ _ _ (by rw [hst, if_neg (by omega)]))
    · refine ln_plus e hil (by omega) huc hv' vz' hB' uz' g0 g1' g2' g3' g4' g5' hcall hT1 hT2 hA1 hA2 hk5 hk4 (hJ _ _ ?_)
      unfold stepLen
      rw [if_neg hk5, if_pos (.inl hk4)]
set_option maxHeartbeats 8000000 in
set_option maxRecDepth 100000 in
theorem len_step {k lo hi : Int} {set : List Rg} {lz : Bool} {subs : List Nd} (ih : ∀ s ∈ subs, LenSpec s) : LenSpec (.mk k set lo hi lz subs) := by
  intro hsh N w vb cs hnd hvb hvz hno
  rw [look_shaped] at hsh
  simp only [Bool.and_eq_true] at hsh
  have hss : ∀ s ∈ subs, (Wy.look s).shaped = true := by simpa using hsh.2
  rw [nodes] at hno
  rw [NdAt] at hnd
  obtain ⟨sv, uv, ucs, rfl, hkI, hlo, hhi, hset, hrow, hsubs⟩ := hnd
  obtain ⟨os, cs', rfl⟩ := hset.row.slice
  obtain ⟨ou, cu, rfl⟩ := hrow.slice
  rw [lens]
  have HSH := Lib.hid (show _ ∧ _ from ⟨hsh.1, hss⟩)
  have HNO := Lib.hid (show nodesL subs ≤ 1000000 by omega)
  have HV := Lib.hid hvb
  have HR := Lib.hid (show _ ∧ _ from ⟨hrow, hsubs⟩)
  have hlI : (subs.length : Int) ≤ 1000000 := by have := nodesL_len subs; omega
  clear hsh hss hno hvb hset hrow hsubs hlo hhi
  by_cases hk2 : k = 2
  · have hkb : (k == 2) = true := by rw [hk2]; rfl
    rw [if_pos hk2]
    clear hk2
    have hacc : Okl (1, 1) := ⟨by decide, by decide, .inr ⟨by decide, by decide⟩⟩
    go_enter Tryz.func54, Tryz.ntmps54
    go_wp2_with fail
    have hN1 : Blk (w.alloc (.cells #[.int .u8 k, .slice os set.length cs', .int .i64 lo, .int .i64 hi, .bool lz, .slice ou subs.length cu] 27)) w.heap.size #[.int .u8 k, .slice os set.length cs', .int .i64 lo, .int .i64 hi, .bool lz, .slice ou subs.length cu] 27 := Blk.new _ _ _
    have hb1 : Below w.heap.size w (w.alloc (.cells #[.int .u8 k, .slice os set.length cs', .int .i64 lo, .int .i64 hi, .bool lz, .slice ou subs.length cu] 27)) := (Below.refl _ _).alloc (Nat.le_refl _) _
    generalize (w.alloc (.cells #[.int .u8 k, .slice os set.length cs', .int .i64 lo, .int .i64 hi, .bool lz, .slice ou subs.length cu] 27)) = W1 at hN1 hb1 ⊢
    refine wp_loop_ghost (Lni k lo hi subs (1, 1) (fun z => if z = 1 then .pointer (some ⟨vb, 0, none⟩) else if z = 2 then .pointer (some ⟨w.heap.size, 0, none⟩) else if z = 15 then .slice ou subs.length cu else .int .i64 subs.length) W1) (subs.length - 0) ?_ (fun z a w' hI => ln_loop (N := N) hI ih HSH.out.1 HSH.out.2 hacc HNO.out ⟨rfl, rfl, rfl, rfl⟩ ((hb1.cell (p := ⟨vb, 0, none⟩) hvz).trans HV.out) (Nat.lt_of_lt_of_le hvz hb1.size) hN1 (HR.out.1.kept (Kept.of_below hb1 (fun _ => False)) (fun _ _ _ => id)) (NdsAt.go (Kept.of_below hb1 (fun _ => False)) (fun q _ hn => ⟨id, hn⟩) HR.out.2) ?_)
    · exact ⟨_, 0, rfl, rfl, ⟨rfl, rfl, rfl, rfl⟩, rfl, rfl, rfl, Nat.zero_le _, rfl, Below.refl _ _⟩
    · intro m w2 hm h5 h6 hb2
      obtain ⟨f, rfl⟩ := frame72 hm
      have h5 : f 5 = _ := Option.some.inj h5
      have h6 : f 6 = _ := Option.some.inj h6
      rw [h5, h6]
      have HB2 := Lib.hid (hb1.trans (hb2.mono hb1.size))
      clear hN1 hb1 hb2 ih
      go_wp2_with fail
      exact bodyPost_ret (v := .tuple #[.int .i64 (lensL k lo hi 0 (1, 1) subs).1, .int .i64 (lensL k lo hi 0 (1, 1) subs).2]) (by simp [results, Tryz.results54, go_sem]) rfl ⟨rfl, HB2.out⟩
  · have hkb : (k == 2) = false := beq_eq_false_iff_ne.2 hk2
    rw [if_neg hk2]
    have hacc : Okl (0, 0) := ⟨by decide, by decide, .inr ⟨by decide, by decide⟩⟩
    go_enter Tryz.func54, Tryz.ntmps54
    go_wp2_with fail
    have hN1 : Blk (w.alloc (.cells #[.int .u8 k, .slice os set.length cs', .int .i64 lo, .int .i64 hi, .bool lz, .slice ou subs.length cu] 27)) w.heap.size #[.int .u8 k, .slice os set.length cs', .int .i64 lo, .int .i64 hi, .bool lz, .slice ou subs.length cu] 27 := Blk.new _ _ _
    have hb1 : Below w.heap.size w (w.alloc (.cells #[.int .u8 k, .slice os set.length cs', .int .i64 lo, .int .i64 hi, .bool lz, .slice ou subs.length cu] 27)) := (Below.refl _ _).alloc (Nat.le_refl _) _
    generalize (w.alloc (.cells #[.int .u8 k, .slice os set.length cs', .int .i64 lo, .int .i64 hi, .bool lz, .slice ou subs.length cu] 27)) = W1 at hN1 hb1 ⊢
    refine wp_loop_ghost (Lni k lo hi subs (0, 0) (fun z => if z = 1 then .pointer (some ⟨vb, 0, none⟩) else if z = 2 then .pointer (some ⟨w.heap.size, 0, none⟩) else if z = 15 then .slice ou subs.length cu else .int .i64 subs.length) W1) (subs.length - 0) ?_ (fun z a w' hI => ln_loop (N := N) hI ih HSH.out.1 HSH.out.2 hacc HNO.out ⟨rfl, rfl, rfl, rfl⟩ ((hb1.cell (p := ⟨vb, 0, none⟩) hvz).trans HV.out) (Nat.lt_of_lt_of_le hvz hb1.size) hN1 (HR.out.1.kept (Kept.of_below hb1 (fun _ => False)) (fun _ _ _ => id)) (NdsAt.go (Kept.of_below hb1 (fun _ => False)) (fun q _ hn => ⟨id, hn⟩) HR.out.2) ?_)
    · exact ⟨_, 0, rfl, rfl, ⟨rfl, rfl, rfl, rfl⟩, rfl, rfl, rfl, Nat.zero_le _, rfl, Below.refl _ _⟩
    · intro m w2 hm h5 h6 hb2
      obtain ⟨f, rfl⟩ := frame72 hm
      have h5 : f 5 = _ := Option.some.inj h5
      have h6 : f 6 = _ := Option.some.inj h6
      rw [h5, h6]
      have HB2 := Lib.hid (hb1.trans (hb2.mono hb1.size))
      clear hN1 hb1 hb2 ih
      go_wp2_with fail
      exact bodyPost_ret (v := .tuple #[.int .i64 (lensL k lo hi 0 (0, 0) subs).1, .int .i64 (lensL k lo hi 0 (0, 0) subs).2]) (by simp [results, Tryz.results54, go_sem]) rfl ⟨rfl, HB2.out⟩
theorem len_all : ∀ t : Nd, LenSpec t
  | .mk k set lo hi lazy subs => len_step (fun s hs => len_all s)
termination_by t => SizeOf.sizeOf t
decreasing_by
  have := List.sizeOf_lt_of_mem hs
  simp
  omega
end Go.Proofs.YtnhjakdmbfadlaaGreatDoor

/- syntax.Lengths at right trees. -/
namespace Go.Proofs.YtnhjakdmbfadlaaGreatDoor
open Go.RowKit Wy Mem Grow

set_option maxHeartbeats 4000000 in
set_option maxRecDepth 100000 in
theorem lengths_any {N : Nat → Prop} {w : World} {t : Nd} {cs : List Value} (h : NdAt N w t cs) (hno : nodes t ≤ 1000000) (hri : right t = true) : Calls Tryz.prog 23 #[.agg cs.toArray] w fun e w' => e = .returned (.tuple #[.int .i64 (lens t).1, .int .i64 (lens t).2, .int .i64 0]) ∧ Below w.heap.size w w' := by
  have hsh : (Wy.look t).shaped = true := (right_parts hri).1
  have hl : ∀ w', Below w.heap.size w w' → Calls Tryz.prog 40 #[.agg cs.toArray] w' fun e w'' => e = .returned (.bool true) ∧ Below w'.heap.size w' w'' := fun w' hb => (sRight_any (NdAt.go (Kept.of_below hb (fun _ => False)) (fun q _ hn => ⟨id, hn⟩) h) hno).mono (by rw [hri]; exact fun _ _ h => h)
  have hv : ∀ w' vb, Below w.heap.size w w' → w'.cell? ⟨vb, 0, none⟩ = some (lenV vb) → vb < w'.heap.size → Calls Tryz.prog 54 #[.agg cs.toArray, .pointer (some ⟨vb, 0, none⟩)] w' fun e w'' => e = .returned (.tuple #[.int .i64 (lens t).1, .int .i64 (lens t).2]) ∧ Below w'.heap.size w' w'' := fun w' vb hb hc hz => len_all t hsh N w' vb cs (NdAt.go (Kept.of_below hb (fun _ => False)) (fun q _ hn => ⟨id, hn⟩) h) hc hz hno
  obtain ⟨k, set, lo, hi, lazy, subs⟩ := t
  rw [NdAt] at h
  obtain ⟨sv, uv, ucs, rfl, hk, hlo, hhi, hset, hrow, hsubs⟩ := h
  obtain ⟨os, cs, rfl⟩ := hset.row.slice
  obtain ⟨ou, cu, rfl⟩ := hrow.slice
  generalize lens (.mk k set lo hi lazy subs) = lm at *
  have HL := Lib.hid hl
  have HV := Lib.hid hv
  clear hset hrow hsubs hk hlo hhi hl hv hri hsh
  go_enter Tryz.func23, Tryz.ntmps23
  go_wp2_with (first
    | (go_at_call 40; go_loud (refine (HL.out _ ((Below.refl _ _).alloc (Nat.le_refl _) _)).mono ?_; rintro e w1 ⟨rfl, hb1⟩; have hbA : Below w.heap.size w w1 := ((Below.refl _ _).alloc (Nat.le_refl _) _).trans (hb1.mono (by simp)); have HBA := Lib.hid hbA; clear hbA; have B1 := (Blk.new w #[.int .u8 k, .slice os set.length cs, .int .i64 lo, .int .i64 hi, .bool lazy, .slice ou subs.length cu] 27).below hb1 (by simp); have n0 := B1.cell 0; have n1 := B1.cell 1; have n2 := B1.cell 2; have n3 := B1.cell 3; have n4 := B1.cell 4; have n5 := B1.cell 5; have nz := B1.lt; clear hb1 B1))
    | (go_at_call 54; go_loud (refine (HV.out _ _ (HBA.out.alloc HBA.out.size _) ((Blk.new _ _ _).cell 0) (by simp)).mono ?_; rintro e w2 ⟨rfl, hb2⟩; have HB2 := Lib.hid ((HBA.out.alloc HBA.out.size (.cells #[.func (.func 54) #[] #[.pointer (some ⟨w1.heap.size, 0, none⟩)]] 119)).trans (hb2.mono (by have := HBA.out.size; simp; omega))); clear hb2)))
  exact bodyPost_ret (v := .tuple #[.int .i64 lm.1, .int .i64 lm.2, .int .i64 0]) (by simp [results, Tryz.results23, go_sem]) rfl ⟨rfl, HB2.out⟩
end Go.Proofs.YtnhjakdmbfadlaaGreatDoor
