/- Parts of the proof: FlowM, Reach, FlowS. Conditions: none. -/
import Derived.Test.YtnhjakdmbfadlaaDoorS04
import Derived.Test.YtnhjakdmbfadlaaDoorS03
import Derived.Test.YtnhjakdmbfadlaaDoorS02
import Derived.Test.YtnhjakdmbfadlaaDoorS01
set_option linter.all false
/- As FlowN, with one operation behind all others that writes whatever it likes. -/
namespace Go
open RowKit

def lastM (ops : Array Oper) : Bool := decide (0 < ops.size) && (List.range (ops.size - 1)).all fun i => ((Region.before ops).getD (ops.size - 1) 0).testBit i
theorem last_pos {ops : Array Oper} (h : lastM ops = true) : 0 < ops.size := by
  unfold lastM at h
  rw [Bool.and_eq_true] at h
  exact of_decide_eq_true h.1
theorem last_bit {ops : Array Oper} (h : lastM ops = true) {i : Nat} (hi : i < ops.size - 1) : ((Region.before ops).getD (ops.size - 1) 0).testBit i = true := by
  unfold lastM at h
  rw [Bool.and_eq_true, List.all_eq_true] at h
  exact h.2 i (List.mem_range.2 hi)
namespace Flow
section
variable {P : Program} {ops : Array Oper} {W : World → Prop} {nd bd : List Nat} {V : Nat → Value → World → Prop}
/-- THE LAW: whatever the order. -/
theorem any_of_flowM {Q : Exit → Act → World → Prop} (hok : flowOk ops = true) (hlast : lastM ops = true) (hokN : okN ops nd bd = true) (vs : List (Option Value)) (a : Act)
    (hnd : ∀ i, i ∈ nd → vs[i]? = some none) (hnl : ∀ i, i ∈ nd → i + 1 < ops.size) (hW : ∀ w w', W w → Below w.heap.size w w' → W w') (hV : ∀ i v w w', V i v w → Below w.heap.size w w' → V i v w')
    (hf : ∀ u i o, i + 1 < ops.size → ops.toList[i]? = some o → flowAtU P ops W nd bd V u i (fun v w => match vs[i]? with | some (some v0) => v = v0 | _ => V i v w) o (actAt ops.toList (pk vs u) a i))
    (hq : ∀ u w', W w' → (∀ i, i ∈ nd → V i (u i) w') → ∃ o, ops[ops.size - 1]? = some o ∧ Region.wanted o (yielded ops (actAt ops.toList (pk vs u) a (ops.size - 1)).tmps) = true ∧ o.wp P (actAt ops.toList (pk vs u) a (ops.size - 1)) w' (fun a'' w'' => Q .normal a'' w'') Q) :
    ∀ (fuel : Nat) (listed : Array Bool) (u : Nat → Value) (w : World), listed.size = ops.size → left listed ops.size = fuel → listed.getD (ops.size - 1) false = false →
      (∀ j o, ops[j]? = some o → listed.getD j false = true → ∀ e ∈ o.after, Region.binds .any e = true → listed.getD e.on false = true) → W w →
      (∀ i, i ∈ nd → listed.getD i false = true → V i (u i) w) →
      wpAny P .any ops Q fuel listed (actOf ops.toList (pk vs u) a (fun i => listed.getD i false) ops.size) w := by
  intro fuel
  induction fuel with
  | zero =>
    intro listed u w hsz hl hlf _ hw hfa
    exfalso
    have hall := left_zero _ hl
    have h0 := last_pos hlast
    have := hall (ops.size - 1) (by omega)
    rw [getD_of (by omega)] at this
    rw [hlf] at this; cases this
  | succ fuel ih =>
    intro listed u w hsz hl hlf hcl hw hfa
    have h0n := last_pos hlast
    refine ⟨?_, ?_⟩
    · intro hnil
      exfalso
      obtain ⟨i, h1, h2, h3⟩ := left_pos _ (show 0 < left listed ops.size by omega)
      have ho : ops[i]? = some ops[i] := Array.getElem?_eq_getElem h1
      have : i ∈ Region.ready .any ops listed := by
        rw [mem_ready]
        refine ⟨h2, _, ho, fun e he hb => ?_⟩
        have hlt := ok_back hok ho e he hb
        rw [← getD_of (by omega)]
        exact h3 _ hlt
      rw [hnil] at this
      cases this
    · intro i hi
      rw [mem_ready] at hi
      obtain ⟨h0, o, ho, hdeps⟩ := hi
      have hil : i < ops.size := (Array.getElem?_eq_some_iff.1 ho).1
      have hol : ops.toList[i]? = some o := by simpa using ho
      have h0' : listed.getD i false = false := by rw [← getD_of (by omega)]; exact h0
      have hcl' : ∀ j p, ops[j]? = some p → (if j = i then true else listed.getD j false) = true → ∀ e ∈ p.after, Region.binds .any e = true → (if e.on = i then true else listed.getD e.on false) = true := by
        intro j p hj hs e he hb
        by_cases e1 : e.on = i
        · rw [if_pos e1]
        · rw [if_neg e1]
          by_cases e2 : j = i
          · subst e2; rw [ho] at hj; cases hj; exact hdeps e he hb
          · rw [if_neg e2] at hs; exact hcl j p hj hs e he hb
      have hb1 : ∀ j, j < i → ((Region.before ops).getD i 0).testBit j = true → listed.getD j false = true := by
        intro j hj hbit
        have := ok_before hok (S := fun k => if k = i then true else listed.getD k false) hcl' i j hj hil hbit (by simp)
        simpa [show j ≠ i by omega] using this
      have hb2 : ∀ j, i < j → j < ops.size → ((Region.before ops).getD j 0).testBit i = true → listed.getD j false = false := by
        intro j hj hjl hbit
        cases hs : listed.getD j false with
        | false => rfl
        | true =>
          have := ok_before hok (S := fun k => listed.getD k false) hcl j i hj hjl hbit hs
          rw [h0'] at this; cases this
      have htmp : ∀ t, t ∈ o.namesF ops → (actOf ops.toList (pk vs u) a (fun i => listed.getD i false) ops.size).tmps[t]? = (actAt ops.toList (pk vs u) a i).tmps[t]? := by
        intro t ht
        rw [show actAt ops.toList (pk vs u) a i = actAt ops.toList (pk vs u) a (min ops.size i) by rw [show min ops.size i = i by omega]]
        refine actOf_tmp _ _ _ _ i t ?_ ?_ _
        · intro j p hj hp hd
          have hp' : ops[j]? = some p := by simpa using hp
          rcases ok_names hok hj hp' ho with hbit | ⟨hn, _⟩
          · exact hb1 j hj hbit
          · exact absurd ht (hn t hd)
        · intro j p hj hp hd
          have hp' : ops[j]? = some p := by simpa using hp
          by_cases e : j = i
          · subst e; exact h0'
          · rcases ok_names hok (show i < j by omega) ho hp' with hbit | ⟨_, hn⟩
            · exact hb2 j (by omega) (Array.getElem?_eq_some_iff.1 hp').1 hbit
            · exact absurd ht (hn t hd)
      have hlater : ∀ j p, i < j → ops.toList[j]? = some p → listed.getD j false = true → ∀ d, o.dst = some d → p.dst ≠ some d := by
        intro j p hj hp hs d hd hpd
        have hp' : ops[j]? = some p := by simpa using hp
        rcases ok_names hok hj ho hp' with hbit | ⟨hn, _⟩
        · have := hb2 j hj (Array.getElem?_eq_some_iff.1 hp').1 hbit
          rw [hs] at this; cases this
        · exact hn d hd (by simp [Oper.namesF, hpd])
      have szO : ∀ (z : Nat → Value) (S : Nat → Bool) n, (actOf ops.toList z a S n).tmps.size = a.tmps.size := by
        intro z S n; induction n with
        | zero => rfl
        | succ n ih =>
          simp only [actOf]
          split
          · split
            · rename_i p _ _; cases hp : p.dst <;> simpa [Act.put] using ih
            · exact ih
          · exact ih
      have szA : ∀ (z : Nat → Value) n, (actAt ops.toList z a n).tmps.size = a.tmps.size := by
        intro z n; induction n with
        | zero => rfl
        | succ n ih =>
          simp only [actAt]
          split
          · rename_i p _; cases hp : p.dst <;> simpa [Act.put] using ih
          · exact ih
      by_cases hin : i = ops.size - 1
      · subst hin
        have hall : ∀ j, j < ops.size - 1 → listed.getD j false = true := fun j hj => hb1 j hj (last_bit hlast hj)
        have hact : actOf ops.toList (pk vs u) a (fun i => listed.getD i false) ops.size = actAt ops.toList (pk vs u) a (ops.size - 1) := by
          have e : ops.size = (ops.size - 1) + 1 := by omega
          rw [e, actOf, hol]
          simp only [Nat.add_sub_cancel]
          rw [if_neg (by rw [h0']; simp)]
          exact actOf_all _ _ _ _ _ (fun i hi _ => hall i hi)
        obtain ⟨o', ho', hwn, hwp⟩ := hq u w hw (fun i hi => hfa i hi (hall i (by have := hnl i hi; omega)))
        rw [ho] at ho'
        cases ho'
        have hfu : fuel = 0 := by
          have h1 := left_set (by omega) h0 ops.size
          rw [if_pos hil] at h1
          have h2 : left (listed.setIfInBounds (ops.size - 1) true) ops.size = fuel := by omega
          cases fuel with
          | zero => rfl
          | succ f =>
            exfalso
            obtain ⟨i, k1, k2, -⟩ := left_pos _ (show 0 < left (listed.setIfInBounds (ops.size - 1) true) ops.size by omega)
            by_cases e : i = ops.size - 1
            · subst e; simp [hsz, hil] at k2
            · have := hall i (by omega)
              rw [getD_set_ne true (Ne.symm e), getD_of (by omega), this] at k2
              cases k2
        subst hfu
        rw [hact]
        unfold wpOp
        simp only [ho]
        rw [if_pos hwn]
        refine .inl (Oper.wp_mono (fun a'' w'' hQ => ⟨?_, hQ⟩) hwp)
        apply List.eq_nil_iff_forall_not_mem.2
        intro j hj
        rw [mem_ready] at hj
        obtain ⟨hj0, oj, hoj, _⟩ := hj
        have hjl := (Array.getElem?_eq_some_iff.1 hoj).1
        by_cases e : j = ops.size - 1
        · subst e; simp [hsz, hil] at hj0
        · have := hall j (by omega)
          rw [getD_set_ne true (Ne.symm e), getD_of (by omega), this] at hj0
          cases hj0
      have hF : i ∈ bd → factsN nd V u i w := by
        intro hib k hk hki
        refine hfa k hk (hb1 k hki ?_)
        unfold okN at hokN
        rw [List.all_eq_true] at hokN
        have h1 := hokN i hib
        rw [List.all_eq_true] at h1
        simpa [hki] using h1 k hk
      refine flowAtU_over ho (hf u i o (by omega) hol) (ok_sel hok ho) (by rw [szA, szO]) (fun t ht => htmp t (by simp [Oper.namesF, ht])) hw hF fun v w' hb' hB => ?_
      have hpi : pk vs (fun k => if k = i then v else u k) i = v := by
        unfold pk
        split
        · rename_i v0 e; rw [e] at hB; exact hB.symm
        · simp
      have hpk : ∀ k, k ≠ i → pk vs (fun k => if k = i then v else u k) k = pk vs u k := by
        intro k hk; unfold pk; split
        · rfl
        · simp [hk]
      have hsame : actOf ops.toList (pk vs (fun k => if k = i then v else u k)) a (fun k => (listed.setIfInBounds i true).getD k false) ops.size = (actOf ops.toList (pk vs u) a (fun k => listed.getD k false) ops.size).put o.dst v := by
        rw [← actOf_vs ops.toList (pk vs (fun k => if k = i then v else u k)) (pk vs u) a (fun k => listed.getD k false) ops.size (fun k _ hs => hpk k (fun e => by subst e; rw [h0'] at hs; cases hs))]
        have hput := actOf_put ops.toList (pk vs (fun k => if k = i then v else u k)) a (fun k => listed.getD k false) i o hol h0' ops.size hil hlater
        rw [hpi] at hput
        rw [← hput]
        refine actOf_congr _ _ _ _ _ _ fun k _ => ?_
        by_cases e : k = i
        · subst e; simp [hsz, hil]
        · rw [if_neg e, getD_set_ne false (Ne.symm e)]
      rw [← hsame]
      refine ih _ (fun k => if k = i then v else u k) w' (by simp [hsz]) ?_ (by rw [getD_set_ne false hin]; exact hlf) ?_ (hW _ _ hw hb') ?_
      · have := left_set (by omega) h0 ops.size
        rw [if_pos hil] at this
        omega
      · intro j p hj hs e he hb
        by_cases e2 : j = i
        · subst e2; rw [ho] at hj; cases hj; exact getD_set_true (hdeps e he hb)
        · rw [getD_set_ne false (Ne.symm e2)] at hs
          exact getD_set_true (hcl j p hj hs e he hb)
      · intro k hk hs
        by_cases e : k = i
        · subst e
          simp only [if_true]
          rw [hnd k hk] at hB
          exact hB
        · rw [getD_set_ne false (Ne.symm e)] at hs
          rw [if_neg e]
          exact hV _ _ _ _ (hfa k hk hs) hb'
end
end Flow
theorem actAt_front (l : List Oper) (x : Oper) (vs : Nat → Value) (a : Act) : ∀ n, n ≤ l.length → Flow.actAt (l ++ [x]) vs a n = Flow.actAt l vs a n
  | 0, _ => rfl
  | n + 1, h => by
    rw [Flow.actAt, Flow.actAt, actAt_front l x vs a n (by omega), List.getElem?_append_left (by omega)]
theorem wp_flowM {P : Program} {id : Nat} {ops : Array Oper} {Q : Exit → Act → World → Prop} {a : Act} {w : World} (hm : P.follows .mixedOrders = true) (hok : flowOk ops = true) (hlast : lastM ops = true)
    (vs : List (Option Value)) (nd bd : List Nat) (V : Nat → Value → World → Prop) (hokN : okN ops nd bd = true) (hnd : ∀ i, i ∈ nd → vs[i]? = some none) (hnl : ∀ i, i ∈ nd → i + 1 < ops.size)
    (hV : ∀ i v w w', V i v w → Below w.heap.size w w' → V i v w') (l : List Oper) (o : Oper) (hl : ops.toList = l ++ [o])
    (h : ∀ u, flowN P ops (Below w.heap.size w) nd bd V u (fun a' => ∀ w', Below w.heap.size w w' → (∀ i, i ∈ nd → V i (u i) w') → Region.wanted o (yielded ops a'.tmps) = true ∧ o.wp P a' w' (fun a'' w'' => Q .normal a'' w'') Q) 0 vs l a) : (Code.region id ops true).wp P Q a w := by
  refine wp_region_any hm ?_
  have hsz : ops.size = l.length + 1 := by rw [← Array.length_toList, hl]; simp
  have h0 := fun u => Flow.flowN_out l vs 0 a (h u)
  have h3 := Flow.any_of_flowM (W := Below w.heap.size w) hok hlast hokN vs a hnd hnl (fun w1 w2 h1 h2 => h1.trans (h2.mono h1.size)) hV
    (fun u i p hi hp => by
      rw [hl, List.getElem?_append_left (by omega)] at hp
      have := (h0 u).1 i p hp
      simp only [Nat.zero_add] at this
      rw [hl, actAt_front _ _ _ _ _ (by omega)]
      exact this)
    (fun u w' hw' hF => by
      have := (h0 u).2 w' hw' hF
      simp only [Nat.zero_add] at this
      refine ⟨o, ?_, ?_⟩
      · have e : ops.toList[ops.size - 1]? = some o := by rw [hl, hsz]; simp
        simpa using e
      · rw [hl, actAt_front _ _ _ _ _ (by omega), show ops.size - 1 = l.length by omega]
        exact this) ops.size (Array.replicate ops.size false) (fun _ => undef) w.drew (by simp)
    (by
      have : ∀ n, n ≤ ops.size → Flow.left (Array.replicate ops.size false) n = n := by
        intro n
        induction n with
        | zero => intro _; rfl
        | succ n ih =>
          intro hn
          simp only [Flow.left]
          rw [ih (by omega)]
          have : (Array.replicate ops.size false).getD n true = false := by simp [show n < ops.size by omega]
          rw [this]; rfl
      exact this _ (Nat.le_refl _))
    (by simp [hsz])
    (by
      intro j o _ hs
      exfalso
      by_cases hj : j < ops.size
      · simp [hj] at hs
      · simp [hj] at hs) (Below.refl _ _).drew
    (by
      intro i _ hs
      exfalso
      by_cases hj : i < ops.size
      · simp [hj] at hs
      · simp [hj] at hs)
  rw [Flow.actOf_none _ _ _ _ _ (fun i hi => by simp [hi])] at h3
  exact h3
theorem wp_flowM2 {P : Program} {id : Nat} {ops : Array Oper} {Q : Exit → Act → World → Prop} {a : Act} {w : World} (hm : P.follows .mixedOrders = true) (hok : flowOk ops = true) (hlast : lastM ops = true)
    (vs : List (Option Value)) (nd bd : List Nat) (V : Nat → Value → World → Prop) (hokN : okN ops nd bd = true) (hnd : ∀ i, i ∈ nd → vs[i]? = some none) (hnl : ∀ i, i ∈ nd → i + 1 < ops.size)
    (hV : ∀ i v w w', V i v w → Below w.heap.size w w' → V i v w') (o : Oper) (ho : ops.toList.getLast? = some o)
    (h : ∀ u, flowN P ops (Below w.heap.size w) nd bd V u (fun a' => ∀ w', Below w.heap.size w w' → (∀ i, i ∈ nd → V i (u i) w') → Region.wanted o (yielded ops a'.tmps) = true ∧ o.wp P a' w' (fun a'' w'' => Q .normal a'' w'') Q) 0 vs ops.toList.dropLast a) : (Code.region id ops true).wp P Q a w := by
  refine wp_flowM hm hok hlast vs nd bd V hokN hnd hnl hV ops.toList.dropLast o ?_ h
  have hne : ops.toList ≠ [] := by intro e; rw [e] at ho; cases ho
  rw [List.getLast?_eq_some_getLast hne] at ho
  simp only [Option.some.injEq] at ho
  rw [← ho]
  exact (List.dropLast_concat_getLast hne).symm
end Go

/- Where ways end: at places that are reached by reading. -/
namespace Go.Proofs.Wy

theorem rep_reach {W : Type} {A : Alg W} (hA : Lawful A) {Q : Nat → Prop} {f : Nat → Option (List W)} (hf : ∀ p m, f p = some m → Q p → ∀ v ∈ m, Q (A.stop v)) {lo hi : Int} {lazy : Bool} {k p : Nat} {l : List W}
    (h : rep A f lo hi lazy k p = some l) (hp : Q p) : ∀ x ∈ l, Q (A.stop x) := by
  unfold rep at h
  simp only at h
  split at h
  · simp only [Option.some.injEq] at h
    subst h
    refine follow_inv (I := fun _ w => Q (A.stop w)) (P := fun x => Q (A.stop x)) ?_ ?_ k (A.still p) 0 ⟨[], [], true⟩ ?_ (by simp)
    · intro t w m hI hm v hv
      rw [hA.thn]
      exact hf _ m hm hI v hv
    · exact fun t w _ h2 => h2
    · rw [hA.still]; exact hp
  · cases h
mutual
theorem wy_reach {W : Type} {A : Alg W} (hA : Lawful A) (S : Str) {Q : Nat → Prop} (hQ : ∀ p, Q p → 0 < (S.dec p).2 → Q (p + (S.dec p).2)) :
    ∀ (t : Nd) (g p : Nat) (l : List W), wy A S t g p = some l → Q p → ∀ w ∈ l, Q (A.stop w)
  | .mk k set lo hi lazy subs, g, p, l, h, hp, w, hw => by
    rw [wy] at h
    have h1 := (most_len h).2
    by_cases k1 : k = 1
    · rw [if_pos k1] at h1
      cases h1
      simp only [List.mem_singleton] at hw
      subst hw
      rw [hA.still]; exact hp
    rw [if_neg k1] at h1
    by_cases k2 : k = 2
    · rw [if_pos k2] at h1
      split at h1
      · next hc =>
        cases h1
        simp only [List.mem_singleton] at hw
        subst hw
        rw [hA.still]
        exact hQ p hp hc.1
      · cases h1; simp at hw
    rw [if_neg k2] at h1
    by_cases k3 : k = 3
    · rw [if_pos k3] at h1
      exact wyCat_reach hA S hQ subs g [A.still p] l h1 (by simpa [hA.still] using hp) w hw
    rw [if_neg k3] at h1
    by_cases k5 : k = 5
    · rw [if_pos k5] at h1
      exact wyRep_reach hA S hQ lo hi lazy subs g p l h1 hp w hw
    rw [if_neg k5] at h1
    by_cases k6 : k = 6
    · rw [if_pos k6] at h1
      cases ha : wyAlt A S subs (g + 1) p with
      | none => rw [ha] at h1; cases h1
      | some m =>
        rw [ha] at h1
        simp only [Option.map_some, Option.some.injEq] at h1
        subst h1
        obtain ⟨v, hv, rfl⟩ := List.mem_map.1 hw
        rw [hA.mark]
        exact wyAlt_reach hA S hQ subs (g + 1) p m ha hp v hv
    · rw [if_neg k6] at h1
      exact wyAlt_reach hA S hQ subs g p l h1 hp w hw
theorem wyCat_reach {W : Type} {A : Alg W} (hA : Lawful A) (S : Str) {Q : Nat → Prop} (hQ : ∀ p, Q p → 0 < (S.dec p).2 → Q (p + (S.dec p).2)) :
    ∀ (subs : List Nd) (g : Nat) (l m : List W), wyCat A S subs g l = some m → (∀ w ∈ l, Q (A.stop w)) → ∀ w ∈ m, Q (A.stop w)
  | [], g, l, m, h, hl, w, hw => by
    rw [wyCat] at h
    cases h
    exact hl w hw
  | s :: r, g, l, m, h, hl, w, hw => by
    have hs := wy_reach hA S hQ s g
    rw [wyCat] at h
    split at h
    · next n hn =>
      have hn1 : ∀ x ∈ n, Q (A.stop x) := by
        intro x hx
        obtain ⟨u, hu, q, hq, v, hv, rfl⟩ := goOn_mem hn x hx
        rw [hA.thn]
        exact hs _ q hq (hl u hu) v hv
      exact wyCat_reach hA S hQ r _ n m h hn1 w hw
    · cases h
theorem wyRep_reach {W : Type} {A : Alg W} (hA : Lawful A) (S : Str) {Q : Nat → Prop} (hQ : ∀ p, Q p → 0 < (S.dec p).2 → Q (p + (S.dec p).2)) (lo hi : Int) (lazy : Bool) :
    ∀ (subs : List Nd) (g p : Nat) (l : List W), wyRep A S lo hi lazy subs g p = some l → Q p → ∀ w ∈ l, Q (A.stop w)
  | [], g, p, l, h, _, w, hw => by rw [wyRep] at h; cases h
  | s :: r, g, p, l, h, hp, w, hw => by
    rw [wyRep] at h
    exact rep_reach hA (fun q m hm hq v hv => wy_reach hA S hQ s g q m hm hq v hv) h hp w hw
theorem wyAlt_reach {W : Type} {A : Alg W} (hA : Lawful A) (S : Str) {Q : Nat → Prop} (hQ : ∀ p, Q p → 0 < (S.dec p).2 → Q (p + (S.dec p).2)) :
    ∀ (subs : List Nd) (g p : Nat) (m : List W), wyAlt A S subs g p = some m → Q p → ∀ w ∈ m, Q (A.stop w)
  | [], g, p, m, h, _, w, hw => by
    rw [wyAlt] at h
    cases h
    simp at hw
  | s :: r, g, p, m, h, hp, w, hw => by
    have hs := wy_reach hA S hQ s g p
    rw [wyAlt] at h
    split at h
    · next x y hx hy =>
      cases h
      rcases List.mem_append.1 hw with hw | hw
      · exact hs x hx hp w hw
      · exact wyAlt_reach hA S hQ r _ p y hy hp w hw
    · cases h
end
theorem endA_lawful : Lawful endA := ⟨fun _ _ => rfl, fun _ => rfl, fun _ _ _ => rfl⟩
theorem ends_reach {S : Str} {Q : Nat → Prop} (hQ : ∀ p, Q p → 0 < (S.dec p).2 → Q (p + (S.dec p).2)) {t : Nd} {p : Nat} {l : List Nat} (h : ends S t p = some l) (hp : Q p) : ∀ q ∈ l, Q q :=
  wy_reach endA_lawful S hQ t 0 p l h hp
end Go.Proofs.Wy

/- A region whose order of evaluation is open, with one operation in the midst that writes: all that stand before it in the text come before it, and all behind it come after it, by the region's own edges. One walk in the order of the text serves every order. -/
namespace Go
open RowKit

/-- the operation at s parts the region -/
def okS (ops : Array Oper) (s : Nat) : Bool :=
  (List.range ops.size).all fun i => if i < s then ((Region.before ops).getD s 0).testBit i else (i == s || ((Region.before ops).getD i 0).testBit s)

def worldS (A B : World → Prop) (s j : Nat) : World → Prop := if j ≤ s then A else B

def flowAtS (P : Program) (ops : Array Oper) (W W' : World → Prop) (o : Oper) (v : Value) (a : Act) : Prop :=
  if Region.wanted o (yielded ops a.tmps) then ∀ w, W w → ∀ K : Act → World → Prop, (∀ w', W' w' → K (a.put o.dst v) w') → o.wp P a w K (fun _ _ _ => False) else v = undef ∧ ∀ w, W w → W' w

def flowS (P : Program) (ops : Array Oper) (A B : World → Prop) (s : Nat) (R : Act → Prop) : Nat → List Oper → Act → Prop
  | _, [], a => R a
  | j, o :: rest, a => ∃ v, flowAtS P ops (worldS A B s j) (worldS A B s (j + 1)) o v a ∧ flowS P ops A B s R (j + 1) rest (a.put o.dst v)

section
variable {P : Program} {ops : Array Oper} {A B : World → Prop} {s : Nat} {R : Act → Prop} {j : Nat} {o : Oper} {rest : List Oper} {a : Act} {v : Value}
theorem flowS_pre (hj : decide (j < s) = true) (hw : Region.wanted o (yielded ops a.tmps) = true)
    (h : ∀ w, A w → ∀ K : Act → World → Prop, (∀ w', A w' → K (a.put o.dst v) w') → o.wp P a w K (fun _ _ _ => False)) (k : flowS P ops A B s R (j + 1) rest (a.put o.dst v)) :
    flowS P ops A B s R j (o :: rest) a := by
  have hj := of_decide_eq_true hj
  refine ⟨v, ?_, k⟩
  unfold flowAtS worldS
  rw [if_pos hw, if_pos (show j ≤ s by omega), if_pos (show j + 1 ≤ s by omega)]
  exact h
theorem flowS_at (hj : j = s) (hw : Region.wanted o (yielded ops a.tmps) = true)
    (h : ∀ w, A w → ∀ K : Act → World → Prop, (∀ w', B w' → K (a.put o.dst v) w') → o.wp P a w K (fun _ _ _ => False)) (k : flowS P ops A B s R (j + 1) rest (a.put o.dst v)) :
    flowS P ops A B s R j (o :: rest) a := by
  refine ⟨v, ?_, k⟩
  unfold flowAtS worldS
  rw [if_pos hw, if_pos (show j ≤ s by omega), if_neg (show ¬ j + 1 ≤ s by omega)]
  exact h
theorem flowS_post (hj : decide (s < j) = true) (hw : Region.wanted o (yielded ops a.tmps) = true)
    (h : ∀ w, B w → ∀ K : Act → World → Prop, (∀ w', B w' → K (a.put o.dst v) w') → o.wp P a w K (fun _ _ _ => False)) (k : flowS P ops A B s R (j + 1) rest (a.put o.dst v)) :
    flowS P ops A B s R j (o :: rest) a := by
  have hj := of_decide_eq_true hj
  refine ⟨v, ?_, k⟩
  unfold flowAtS worldS
  rw [if_pos hw, if_neg (show ¬ j ≤ s by omega), if_neg (show ¬ j + 1 ≤ s by omega)]
  exact h
theorem flowS_no (hj : decide (j ≠ s) = true) (hw : Region.wanted o (yielded ops a.tmps) = false) (k : flowS P ops A B s R (j + 1) rest (a.put o.dst undef)) : flowS P ops A B s R j (o :: rest) a := by
  have hj := of_decide_eq_true hj
  refine ⟨undef, ?_, k⟩
  unfold flowAtS worldS
  rw [if_neg (by simp [hw])]
  refine ⟨rfl, fun w h => ?_⟩
  by_cases c : j ≤ s
  · rw [if_pos c] at h; rw [if_pos (show j + 1 ≤ s by omega)]; exact h
  · rw [if_neg c] at h; rw [if_neg (show ¬ j + 1 ≤ s by omega)]; exact h
theorem flowS_end (h : R a) : flowS P ops A B s R j [] a := h
end

namespace Flow
section
variable {P : Program} {ops : Array Oper} {A B : World → Prop} {s : Nat}

theorem flowS_out {R : Act → Prop} : ∀ (l : List Oper) (j : Nat) (a : Act), flowS P ops A B s R j l a →
    ∃ vs : Nat → Value, (∀ i o, l[i]? = some o → flowAtS P ops (worldS A B s (j + i)) (worldS A B s (j + i + 1)) o (vs i) (actAt l vs a i)) ∧ R (actAt l vs a l.length)
  | [], _, a, h => ⟨fun _ => undef, by simp, h⟩
  | o :: rest, j, a, ⟨v, h, k⟩ => by
    obtain ⟨vs, h1, h2⟩ := flowS_out rest (j + 1) (a.put o.dst v) k
    have key : ∀ n, actAt (o :: rest) (fun i => match i with | 0 => v | i + 1 => vs i) a (n + 1) = actAt rest vs (a.put o.dst v) n := by
      intro n
      induction n with
      | zero => rfl
      | succ n ih =>
        rw [actAt, ih, actAt]
        simp only [List.getElem?_cons_succ]
    refine ⟨fun i => match i with | 0 => v | i + 1 => vs i, fun i p hi => ?_, ?_⟩
    · cases i with
      | zero => simp at hi; subst hi; exact h
      | succ i =>
        rw [key]
        have := h1 i p (by simpa using hi)
        rw [show j + 1 + i = j + (i + 1) by omega] at this
        exact this
    · rw [List.length_cons, key]; exact h2

theorem flowAtS_over {Q : Exit → Act → World → Prop} {W W' : World → Prop} {o : Oper} {v : Value} {A a : Act} {i : Nat} {w : World} (hi : ops[i]? = some o) (h : flowAtS P ops W W' o v A)
    (hs : ∀ cs b, o.op ≠ .select cs b) (hz : A.tmps.size = a.tmps.size) (hn : ∀ t, t ∈ o.looksAt ops → a.tmps[t]? = A.tmps[t]?) (hw : W w) {K : Act → World → Prop}
    (hK : ∀ w', W' w' → K (a.put o.dst v) w') : wpOp P ops Q i K a w := by
  unfold wpOp
  simp only [hi]
  rw [wanted_same hn]
  unfold flowAtS at h
  split
  · rename_i hwn
    rw [if_pos hwn] at h
    refine .inl ?_
    have h1 := h w hw (fun x w'' => (∀ u, x = A.put o.dst u → K (a.put o.dst u) w'') ∧ x.defers = A.defers) (fun w' hw' => ⟨fun u hu => by rw [← put_inj hz hu]; exact hK w' hw', by cases o.dst <;> rfl⟩)
    unfold Oper.wp at h1 ⊢
    rw [exec_same hs hn]
    generalize (execOp A.eval o).run P w = r at h1
    cases r with
    | ok n w' =>
      cases n <;> simp only [Oper.upon] at h1 ⊢
      case value u => exact h1.1 u rfl
      case skip => exact h1.1 _ rfl
      case defer d =>
        have h2 := congrArg List.length h1.2
        cases hd : o.dst <;> simp [hd, Act.put] at h2
      case enter f args =>
        refine Calls.mono h1 fun e w'' he => ?_
        cases e with
        | returned u => exact he.1 u rfl
        | panicked c => exact he.elim
        | outgrown => obtain ⟨_, _, hf⟩ := he; exact hf.elim
      case row row args => exact Rows.mono h1 fun u w'' he => he.1 u rfl
    | halt x w' => cases x <;> simp only [Oper.upon] at h1 ⊢
  · rename_i hwn
    rw [if_neg hwn] at h
    obtain ⟨rfl, h⟩ := h
    exact hK w (h w hw)

theorem any_of_flowS {Q : Exit → Act → World → Prop} (hok : flowOk ops = true) (hokS : okS ops s = true) (hsl : s < ops.size) (vs : Nat → Value) (a : Act)
    (hf : ∀ i o, ops.toList[i]? = some o → flowAtS P ops (worldS A B s i) (worldS A B s (i + 1)) o (vs i) (actAt ops.toList vs a i)) (hq : ∀ w', B w' → Q .normal (actAt ops.toList vs a ops.size) w') :
    ∀ (fuel : Nat) (listed : Array Bool) (w : World), listed.size = ops.size → left listed ops.size = fuel →
      (∀ j o, ops[j]? = some o → listed.getD j false = true → ∀ e ∈ o.after, Region.binds .any e = true → listed.getD e.on false = true) → (if listed.getD s false then B w else A w) →
      wpAny P .any ops Q fuel listed (actOf ops.toList vs a (fun i => listed.getD i false) ops.size) w := by
  intro fuel
  induction fuel with
  | zero =>
    intro listed w hsz hl _ hw
    have hall := left_zero _ hl
    refine ⟨?_, ?_⟩
    · apply List.eq_nil_iff_forall_not_mem.2
      intro j hj
      rw [mem_ready] at hj
      obtain ⟨h0, o, ho, _⟩ := hj
      have := hall j (Array.getElem?_eq_some_iff.1 ho).1
      rw [h0] at this; cases this
    · rw [actOf_all _ _ _ _ _ (fun i hi _ => by rw [← getD_of (by omega)]; exact hall i hi)]
      rw [if_pos (by rw [← getD_of (by omega)]; exact hall s hsl)] at hw
      exact hq w hw
  | succ fuel ih =>
    intro listed w hsz hl hcl hw
    refine ⟨?_, ?_⟩
    · intro hnil
      exfalso
      obtain ⟨i, h1, h2, h3⟩ := left_pos _ (show 0 < left listed ops.size by omega)
      have ho : ops[i]? = some ops[i] := Array.getElem?_eq_getElem h1
      have : i ∈ Region.ready .any ops listed := by
        rw [mem_ready]
        refine ⟨h2, _, ho, fun e he hb => ?_⟩
        have hlt := ok_back hok ho e he hb
        rw [← getD_of (by omega)]
        exact h3 _ hlt
      rw [hnil] at this
      cases this
    · intro i hi
      rw [mem_ready] at hi
      obtain ⟨h0, o, ho, hdeps⟩ := hi
      have hil : i < ops.size := (Array.getElem?_eq_some_iff.1 ho).1
      have hol : ops.toList[i]? = some o := by simpa using ho
      have h0' : listed.getD i false = false := by rw [← getD_of (by omega)]; exact h0
      have hcl' : ∀ j p, ops[j]? = some p → (if j = i then true else listed.getD j false) = true → ∀ e ∈ p.after, Region.binds .any e = true → (if e.on = i then true else listed.getD e.on false) = true := by
        intro j p hj hs e he hb
        by_cases e1 : e.on = i
        · rw [if_pos e1]
        · rw [if_neg e1]
          by_cases e2 : j = i
          · subst e2; rw [ho] at hj; cases hj; exact hdeps e he hb
          · rw [if_neg e2] at hs; exact hcl j p hj hs e he hb
      have hb1 : ∀ j, j < i → ((Region.before ops).getD i 0).testBit j = true → listed.getD j false = true := by
        intro j hj hbit
        have := ok_before hok (S := fun k => if k = i then true else listed.getD k false) hcl' i j hj hil hbit (by simp)
        simpa [show j ≠ i by omega] using this
      have hb2 : ∀ j, i < j → j < ops.size → ((Region.before ops).getD j 0).testBit i = true → listed.getD j false = false := by
        intro j hj hjl hbit
        cases hs : listed.getD j false with
        | false => rfl
        | true =>
          have := ok_before hok (S := fun k => listed.getD k false) hcl j i hj hjl hbit hs
          rw [h0'] at this; cases this
      have htmp : ∀ t, t ∈ o.namesF ops → (actOf ops.toList vs a (fun i => listed.getD i false) ops.size).tmps[t]? = (actAt ops.toList vs a i).tmps[t]? := by
        intro t ht
        rw [show actAt ops.toList vs a i = actAt ops.toList vs a (min ops.size i) by rw [show min ops.size i = i by omega]]
        refine actOf_tmp _ _ _ _ i t ?_ ?_ _
        · intro j p hj hp hd
          have hp' : ops[j]? = some p := by simpa using hp
          rcases ok_names hok hj hp' ho with hbit | ⟨hn, _⟩
          · exact hb1 j hj hbit
          · exact absurd ht (hn t hd)
        · intro j p hj hp hd
          have hp' : ops[j]? = some p := by simpa using hp
          by_cases e : j = i
          · subst e; exact h0'
          · rcases ok_names hok (show i < j by omega) ho hp' with hbit | ⟨_, hn⟩
            · exact hb2 j (by omega) (Array.getElem?_eq_some_iff.1 hp').1 hbit
            · exact absurd ht (hn t hd)
      have hlater : ∀ j p, i < j → ops.toList[j]? = some p → listed.getD j false = true → ∀ d, o.dst = some d → p.dst ≠ some d := by
        intro j p hj hp hs d hd hpd
        have hp' : ops[j]? = some p := by simpa using hp
        rcases ok_names hok hj ho hp' with hbit | ⟨hn, _⟩
        · have := hb2 j hj (Array.getElem?_eq_some_iff.1 hp').1 hbit
          rw [hs] at this; cases this
        · exact hn d hd (by simp [Oper.namesF, hpd])
      have hsame : actOf ops.toList vs a (fun k => (listed.setIfInBounds i true).getD k false) ops.size = (actOf ops.toList vs a (fun k => listed.getD k false) ops.size).put o.dst (vs i) := by
        rw [← actOf_put ops.toList vs a (fun k => listed.getD k false) i o hol h0' ops.size hil hlater]
        refine actOf_congr _ _ _ _ _ _ fun k _ => ?_
        by_cases e : k = i
        · subst e; simp [hsz, hil]
        · rw [if_neg e, getD_set_ne false (Ne.symm e)]
      have szO : ∀ (S : Nat → Bool) n, (actOf ops.toList vs a S n).tmps.size = a.tmps.size := by
        intro S n; induction n with
        | zero => rfl
        | succ n ih =>
          simp only [actOf]
          split
          · split
            · rename_i p _ _; cases hp : p.dst <;> simpa [Act.put] using ih
            · exact ih
          · exact ih
      have szA : ∀ n, (actAt ops.toList vs a n).tmps.size = a.tmps.size := by
        intro n; induction n with
        | zero => rfl
        | succ n ih =>
          simp only [actAt]
          split
          · rename_i p _; cases hp : p.dst <;> simpa [Act.put] using ih
          · exact ih
      -- the world: ahead of the one that writes, or behind it
      have hS : ∀ k, k < ops.size → if k < s then ((Region.before ops).getD s 0).testBit k = true else (k = s ∨ ((Region.before ops).getD k 0).testBit s = true) := by
        intro k hk
        unfold okS at hokS
        rw [List.all_eq_true] at hokS
        have := hokS k (List.mem_range.2 hk)
        by_cases c : k < s
        · rw [if_pos c] at this ⊢; exact this
        · rw [if_neg c] at this ⊢; simpa using this
      have hwi : worldS A B s i w := by
        unfold worldS
        by_cases c : i < s
        · rw [if_pos (by omega)]
          have h2 := hS i hil
          rw [if_pos c] at h2
          rw [if_neg (by rw [hb2 s c hsl h2]; simp)] at hw
          exact hw
        · by_cases c2 : i = s
          · rw [if_pos (by omega)]
            subst c2
            rw [if_neg (by rw [h0']; simp)] at hw
            exact hw
          · rw [if_neg (by omega)]
            have h2 := hS i hil
            rw [if_neg c] at h2
            rcases h2 with h2 | h2
            · exact absurd h2 c2
            · rw [if_pos (hb1 s (by omega) h2)] at hw
              exact hw
      refine flowAtS_over ho (hf i o hol) (ok_sel hok ho) (by rw [szA, szO]) (fun t ht => htmp t (by simp [Oper.namesF, ht])) hwi fun w' hw' => ?_
      rw [← hsame]
      refine ih _ w' (by simp [hsz]) ?_ ?_ ?_
      · have := left_set (by omega) h0 ops.size
        rw [if_pos hil] at this
        omega
      · intro j p hj hs e he hb
        by_cases e2 : j = i
        · subst e2; rw [ho] at hj; cases hj; exact getD_set_true (hdeps e he hb)
        · rw [getD_set_ne false (Ne.symm e2)] at hs
          exact getD_set_true (hcl j p hj hs e he hb)
      · unfold worldS at hw'
        by_cases c : s = i
        · subst c
          rw [if_neg (by omega)] at hw'
          rw [if_pos (by simp [hsz, hsl])]
          exact hw'
        · rw [getD_set_ne false (Ne.symm c)]
          by_cases c2 : i < s
          · rw [if_pos (show i + 1 ≤ s by omega)] at hw'
            have h2 := hS i hil
            rw [if_pos c2] at h2
            rw [if_neg (by rw [hb2 s c2 hsl h2]; simp)]
            exact hw'
          · rw [if_neg (show ¬ i + 1 ≤ s by omega)] at hw'
            have h2 := hS i hil
            rw [if_neg c2] at h2
            rcases h2 with h2 | h2
            · exact absurd h2.symm c
            · rw [if_pos (hb1 s (by omega) h2)]
              exact hw'
end
end Flow

theorem wp_flowS {P : Program} {id : Nat} {ops : Array Oper} {Q : Exit → Act → World → Prop} {a : Act} {w : World} (hm : P.follows .mixedOrders = true) (hok : flowOk ops = true) (s : Nat) (hokS : okS ops s = true) (hsl : decide (s < ops.size) = true)
    (A B : World → Prop) (hA : A w.drew) (h : flowS P ops A B s (fun a' => ∀ w', B w' → Q .normal a' w') 0 ops.toList a) : (Code.region id ops true).wp P Q a w := by
  have hsl := of_decide_eq_true hsl
  refine wp_region_any hm ?_
  obtain ⟨vs, h1, h2⟩ := Flow.flowS_out ops.toList 0 a h
  simp only [Nat.zero_add] at h1
  have h3 := Flow.any_of_flowS (A := A) (B := B) hok hokS hsl vs a h1 (by simpa using h2) ops.size (Array.replicate ops.size false) w.drew (by simp)
    (by
      have : ∀ n, n ≤ ops.size → Flow.left (Array.replicate ops.size false) n = n := by
        intro n
        induction n with
        | zero => intro _; rfl
        | succ n ih =>
          intro hn
          simp only [Flow.left]
          rw [ih (by omega)]
          have : (Array.replicate ops.size false).getD n true = false := by simp [show n < ops.size by omega]
          rw [this]; rfl
      exact this _ (Nat.le_refl _))
    (by
      intro j o _ hs
      exfalso
      by_cases hj : j < ops.size
      · simp [hj] at hs
      · simp [hj] at hs) (by simp [hsl]; exact hA)
  rw [Flow.actOf_none _ _ _ _ _ (fun i hi => by simp [hi])] at h3
  exact h3
end Go
