/- As FlowG, and more: what an operation needs of the world (a cell that a later operation of the region overwrites) holds till it has run. A region whose order of evaluation is open, with operations that hand back what they made and others that use it up (appends in a row): a fact on a value holds from the operation that made it to the one that uses it. One walk in the order of the text serves every order. -/
import Derived.Test.YtokgfmibhkkiaaaFlow
namespace Go
open RowKit

/-- who uses up the value of i -/
def useI (cs : List (Nat × Nat)) (i : Nat) : Option Nat := (cs.find? fun x => x.1 == i).map (·.2)
/-- each that uses a value up stands behind the one that made it, by the region's own edges -/
def okI (ops : Array Oper) (cs : List (Nat × Nat)) : Bool := ((List.range ops.size).all fun j => (List.range ops.size).all fun i => !decide (j < i) || !((Region.before ops).getD j 0).testBit i) && cs.all fun x => decide (x.1 < x.2) && decide (x.2 < ops.size) && ((Region.before ops).getD x.2 0).testBit x.1
/-- may the fact on i's value be about while j runs? -/
def liveI (ops : Array Oper) (cs : List (Nat × Nat)) (j i : Nat) : Bool :=
  (i != j) && !((Region.before ops).getD i 0).testBit j && (match useI cs i with | some k => k != j && !((Region.before ops).getD j 0).testBit k | none => true)

def pickI (vs : List (Option Value)) (u : Nat → Value) (j : Nat) : Value := match vs[j]? with
  | some (some v) => v
  | _ => u j
/-- the facts that j uses up -/
def factsI (cs : List (Nat × Nat)) (V : Nat → Value → World → Prop) (u : Nat → Value) (j : Nat) (w : World) : Prop := ∀ i, useI cs i = some j → V i (u i) w

def flowAtI (P : Program) (ops : Array Oper) (W : World → Prop) (I : Nat → World → Prop) (cs : List (Nat × Nat)) (V : Nat → Value → World → Prop) (G : Nat → (Nat → Value) → World → World → Prop) (u : Nat → Value) (j : Nat) (A : Value → World → Prop) (o : Oper) (a : Act) : Prop :=
  if Region.wanted o (yielded ops a.tmps) then ∀ w, W w → I j w → factsI cs V u j w → ∀ K : Act → World → Prop, (∀ v w', G j u w w' → A v w' → K (a.put o.dst v) w') → o.wp P a w K (fun _ _ _ => False)
  else ∀ w, W w → G j u w w ∧ A undef w

def flowI (P : Program) (ops : Array Oper) (W : World → Prop) (I : Nat → World → Prop) (cs : List (Nat × Nat)) (V : Nat → Value → World → Prop) (G : Nat → (Nat → Value) → World → World → Prop) (u : Nat → Value) (R : Act → Prop) : Nat → List (Option Value) → List Oper → Act → Prop
  | j, some v :: vs, o :: rest, a => flowAtI P ops W I cs V G u j (fun x _ => x = v) o a ∧ flowI P ops W I cs V G u R (j + 1) vs rest (a.put o.dst v)
  | j, none :: vs, o :: rest, a => flowAtI P ops W I cs V G u j (V j) o a ∧ flowI P ops W I cs V G u R (j + 1) vs rest (a.put o.dst (u j))
  | _, [], [], a => R a
  | _, _, _, _ => False

section
variable {P : Program} {ops : Array Oper} {W : World → Prop} {I : Nat → World → Prop} {cs : List (Nat × Nat)} {V : Nat → Value → World → Prop} {G : Nat → (Nat → Value) → World → World → Prop} {u : Nat → Value} {R : Act → Prop} {j : Nat} {o : Oper} {rest : List Oper} {a : Act} {v : Value} {vs : List (Option Value)}
theorem flowI_yes (hw : Region.wanted o (yielded ops a.tmps) = true)
    (h : ∀ w, W w → I j w → factsI cs V u j w → ∀ K : Act → World → Prop, (∀ w', G j u w w' → K (a.put o.dst v) w') → o.wp P a w K (fun _ _ _ => False)) (k : flowI P ops W I cs V G u R (j + 1) vs rest (a.put o.dst v)) :
    flowI P ops W I cs V G u R j (some v :: vs) (o :: rest) a := ⟨by unfold flowAtI; rw [if_pos hw]; exact fun w hw' hi hf K hK => h w hw' hi hf K fun w' hb => hK v w' hb rfl, k⟩
theorem flowI_open (hw : Region.wanted o (yielded ops a.tmps) = true)
    (h : ∀ w, W w → I j w → factsI cs V u j w → ∀ K : Act → World → Prop, (∀ v w', G j u w w' → V j v w' → K (a.put o.dst v) w') → o.wp P a w K (fun _ _ _ => False)) (k : flowI P ops W I cs V G u R (j + 1) vs rest (a.put o.dst (u j))) :
    flowI P ops W I cs V G u R j (none :: vs) (o :: rest) a := ⟨by unfold flowAtI; rw [if_pos hw]; exact h, k⟩
theorem flowI_no (hw : Region.wanted o (yielded ops a.tmps) = false) (hG : ∀ w, W w → G j u w w) (k : flowI P ops W I cs V G u R (j + 1) vs rest (a.put o.dst undef)) :
    flowI P ops W I cs V G u R j (some undef :: vs) (o :: rest) a := ⟨by unfold flowAtI; rw [if_neg (by simp [hw])]; exact fun w hW => ⟨hG w hW, rfl⟩, k⟩
theorem flowI_end (h : R a) : flowI P ops W I cs V G u R j [] [] a := h
end

namespace Flow
section
variable {P : Program} {ops : Array Oper} {W : World → Prop} {I : Nat → World → Prop} {cs : List (Nat × Nat)} {V : Nat → Value → World → Prop} {G : Nat → (Nat → Value) → World → World → Prop}

theorem actOf_vsI (l : List Oper) (us vs : Nat → Value) (a : Act) (S : Nat → Bool) : ∀ n, (∀ i, i < n → S i = true → us i = vs i) → actOf l us a S n = actOf l vs a S n
  | 0, _ => rfl
  | n + 1, h => by
    simp only [actOf]
    rw [actOf_vsI l us vs a S n (fun i hi => h i (by omega))]
    split
    · split
      · rename_i hs; rw [h n (by omega) hs]
      · rfl
    · rfl

theorem flowI_out {R : Act → Prop} {u : Nat → Value} : ∀ (l : List Oper) (vs : List (Option Value)) (j : Nat) (a : Act), flowI P ops W I cs V G u R j vs l a →
    (∀ i o, l[i]? = some o → flowAtI P ops W I cs V G u (j + i) (fun v w => match vs[i]? with | some (some v0) => v = v0 | _ => V (j + i) v w) o (actAt l (fun i => match vs[i]? with | some (some v) => v | _ => u (j + i)) a i)) ∧ R (actAt l (fun i => match vs[i]? with | some (some v) => v | _ => u (j + i)) a l.length)
  | [], [], _, a, h => ⟨by simp, h⟩
  | [], some _ :: _, _, a, h => h.elim
  | [], none :: _, _, a, h => h.elim
  | _ :: _, [], _, a, h => h.elim
  | o :: rest, some v :: vs, j, a, ⟨h, k⟩ => by
    obtain ⟨h1, h2⟩ := flowI_out rest vs (j + 1) (a.put o.dst v) k
    have key : ∀ n, actAt (o :: rest) (fun i => match (some v :: vs)[i]? with | some (some v) => v | _ => u (j + i)) a (n + 1) = actAt rest (fun i => match vs[i]? with | some (some v) => v | _ => u (j + 1 + i)) (a.put o.dst v) n := by
      intro n
      induction n with
      | zero => rfl
      | succ n ih =>
        rw [actAt, ih, actAt]
        simp only [List.getElem?_cons_succ, show j + (n + 1) = j + 1 + n by omega]
    refine ⟨fun i p hi => ?_, ?_⟩
    · cases i with
      | zero => simp at hi; subst hi; exact h
      | succ i =>
        rw [key]
        have := h1 i p (by simpa using hi)
        simpa only [List.getElem?_cons_succ, show j + (i + 1) = j + 1 + i by omega] using this
    · rw [List.length_cons, key]; exact h2
  | o :: rest, none :: vs, j, a, ⟨h, k⟩ => by
    obtain ⟨h1, h2⟩ := flowI_out rest vs (j + 1) (a.put o.dst (u j)) k
    have key : ∀ n, actAt (o :: rest) (fun i => match (none :: vs)[i]? with | some (some v) => v | _ => u (j + i)) a (n + 1) = actAt rest (fun i => match vs[i]? with | some (some v) => v | _ => u (j + 1 + i)) (a.put o.dst (u j)) n := by
      intro n
      induction n with
      | zero => rfl
      | succ n ih =>
        rw [actAt, ih, actAt]
        simp only [List.getElem?_cons_succ, show j + (n + 1) = j + 1 + n by omega]
    refine ⟨fun i p hi => ?_, ?_⟩
    · cases i with
      | zero => simp at hi; subst hi; exact h
      | succ i =>
        rw [key]
        have := h1 i p (by simpa using hi)
        simpa only [List.getElem?_cons_succ, show j + (i + 1) = j + 1 + i by omega] using this
    · rw [List.length_cons, key]; exact h2

theorem put_injI {A a : Act} {dst : Option Tmp} {x v : Value} (hs : A.tmps.size = a.tmps.size) (h : A.put dst v = A.put dst x) : a.put dst v = a.put dst x := put_inj hs h

theorem flowAtI_over {Q : Exit → Act → World → Prop} {o : Oper} {A a : Act} {i : Nat} {w : World} {u : Nat → Value} {B : Value → World → Prop} (hi : ops[i]? = some o) (h : flowAtI P ops W I cs V G u i B o A)
    (hs : ∀ cs b, o.op ≠ .select cs b) (hz : A.tmps.size = a.tmps.size) (hn : ∀ t, t ∈ o.looksAt ops → a.tmps[t]? = A.tmps[t]?) (hw : W w) (hI : I i w) (hF : factsI cs V u i w) {K : Act → World → Prop}
    (hK : ∀ v w', G i u w w' → B v w' → K (a.put o.dst v) w') : wpOp P ops Q i K a w := by
  unfold wpOp
  simp only [hi]
  rw [wanted_same hn]
  unfold flowAtI at h
  split
  · rename_i hwn
    rw [if_pos hwn] at h
    refine .inl ?_
    have h1 := h w hw hI hF (fun x w'' => (∀ z, x = A.put o.dst z → K (a.put o.dst z) w'') ∧ x.defers = A.defers) (fun v w' hb hB => ⟨fun z hz' => by rw [← put_inj hz hz']; exact hK v w' hb hB, by cases o.dst <;> rfl⟩)
    unfold Oper.wp at h1 ⊢
    rw [exec_same hs hn]
    generalize (execOp A.eval o).run P w = r at h1
    cases r with
    | ok n w' =>
      cases n <;> simp only [Oper.upon] at h1 ⊢
      case value x => exact h1.1 x rfl
      case skip => exact h1.1 _ rfl
      case defer d =>
        have h2 := congrArg List.length h1.2
        cases hd : o.dst <;> simp [hd, Act.put] at h2
      case enter f args =>
        refine Calls.mono h1 fun e w'' he => ?_
        cases e with
        | returned x => exact he.1 x rfl
        | panicked c => exact he.elim
        | outgrown => obtain ⟨_, _, hf⟩ := he; exact hf.elim
      case row row args => exact Rows.mono h1 fun x w'' he => he.1 x rfl
    | halt x w' => cases x <;> simp only [Oper.upon] at h1 ⊢
  · rename_i hwn
    rw [if_neg hwn] at h
    obtain ⟨h1, h2⟩ := h w hw
    exact hK _ w h1 h2

/-- nothing stands before what comes ahead of it in the text -/
theorem before_ltI (hok : okI ops cs = true) {j i : Nat} (hj : j < ops.size) (hil : i < ops.size) (hi : j < i) : ((Region.before ops).getD j 0).testBit i = false := by
  unfold okI at hok
  simp only [Bool.and_eq_true] at hok
  have h1 := hok.1
  rw [List.all_eq_true] at h1
  have h2 := h1 j (List.mem_range.2 hj)
  rw [List.all_eq_true] at h2
  have h3 := h2 i (List.mem_range.2 hil)
  simpa [hi] using h3
def pkI (vs : List (Option Value)) (u : Nat → Value) (i : Nat) : Value := match vs[i]? with
  | some (some v) => v
  | _ => u i
/-- THE LAW: whatever the order. -/
theorem any_of_flowI {Q : Exit → Act → World → Prop} (hok : flowOk ops = true) (hokI : okI ops cs = true) (vs : List (Option Value)) (a : Act)
    (hcs : ∀ i k, useI cs i = some k → vs[i]? = some none) (hW : ∀ p u w w', W w → factsI cs V u p w → G p u w w' → W w') (hG : ∀ p i u w w', liveI ops cs p i = true → vs[i]? = some none → W w → factsI cs V u p w → G p u w w' → V i (u i) w → V i (u i) w')
    (hIk : ∀ p i u w w', p ≠ i → ((Region.before ops).getD p 0).testBit i = false → i < ops.size → W w → factsI cs V u p w → G p u w w' → I i w → I i w')
    (hf : ∀ u i o, ops.toList[i]? = some o → flowAtI P ops W I cs V G u i (fun v w => match vs[i]? with | some (some v0) => v = v0 | _ => V i v w) o (actAt ops.toList (pkI vs u) a i))
    (hq : ∀ u w', W w' → (∀ i, vs[i]? = some none → i < ops.size → useI cs i = none → V i (u i) w') → Q .normal (actAt ops.toList (pkI vs u) a ops.size) w') :
    ∀ (fuel : Nat) (listed : Array Bool) (u : Nat → Value) (w : World), listed.size = ops.size → left listed ops.size = fuel →
      (∀ j o, ops[j]? = some o → listed.getD j false = true → ∀ e ∈ o.after, Region.binds .any e = true → listed.getD e.on false = true) → W w →
      (∀ i, vs[i]? = some none → listed.getD i false = true → (∀ k, useI cs i = some k → listed.getD k false = false) → V i (u i) w) → (∀ i, i < ops.size → listed.getD i false = false → I i w) →
      wpAny P .any ops Q fuel listed (actOf ops.toList (pkI vs u) a (fun i => listed.getD i false) ops.size) w := by
  intro fuel
  induction fuel with
  | zero =>
    intro listed u w hsz hl _ hw hfa _
    have hall := left_zero _ hl
    refine ⟨?_, ?_⟩
    · apply List.eq_nil_iff_forall_not_mem.2
      intro j hj
      rw [mem_ready] at hj
      obtain ⟨h0, o, ho, _⟩ := hj
      have := hall j (Array.getElem?_eq_some_iff.1 ho).1
      rw [h0] at this; cases this
    · rw [actOf_all _ _ _ _ _ (fun i hi _ => by rw [← getD_of (by omega)]; exact hall i hi)]
      exact hq u w hw fun i hi hlt hu => hfa i hi (by rw [← getD_of (by omega)]; exact hall i hlt) (fun k hk => by rw [hu] at hk; cases hk)
  | succ fuel ih =>
    intro listed u w hsz hl hcl hw hfa hIa
    refine ⟨?_, ?_⟩
    · intro hnil
      exfalso
      obtain ⟨i, h1, h2, h3⟩ := left_pos _ (show 0 < left listed ops.size by omega)
      have ho : ops[i]? = some ops[i] := Array.getElem?_eq_getElem h1
      have : i ∈ Region.ready .any ops listed := by
        rw [mem_ready]
        refine ⟨h2, _, ho, fun e he hb => ?_⟩
        have hlt := ok_back hok ho e he hb
        rw [← getD_of (by omega)]
        exact h3 _ hlt
      rw [hnil] at this
      cases this
    · intro i hi
      rw [mem_ready] at hi
      obtain ⟨h0, o, ho, hdeps⟩ := hi
      have hil : i < ops.size := (Array.getElem?_eq_some_iff.1 ho).1
      have hol : ops.toList[i]? = some o := by simpa using ho
      have h0' : listed.getD i false = false := by rw [← getD_of (by omega)]; exact h0
      have hcl' : ∀ j p, ops[j]? = some p → (if j = i then true else listed.getD j false) = true → ∀ e ∈ p.after, Region.binds .any e = true → (if e.on = i then true else listed.getD e.on false) = true := by
        intro j p hj hs e he hb
        by_cases e1 : e.on = i
        · rw [if_pos e1]
        · rw [if_neg e1]
          by_cases e2 : j = i
          · subst e2; rw [ho] at hj; cases hj; exact hdeps e he hb
          · rw [if_neg e2] at hs; exact hcl j p hj hs e he hb
      have hb1 : ∀ j, j < i → ((Region.before ops).getD i 0).testBit j = true → listed.getD j false = true := by
        intro j hj hbit
        have := ok_before hok (S := fun k => if k = i then true else listed.getD k false) hcl' i j hj hil hbit (by simp)
        simpa [show j ≠ i by omega] using this
      have hb2 : ∀ j, i < j → j < ops.size → ((Region.before ops).getD j 0).testBit i = true → listed.getD j false = false := by
        intro j hj hjl hbit
        cases hs : listed.getD j false with
        | false => rfl
        | true =>
          have := ok_before hok (S := fun k => listed.getD k false) hcl j i hj hjl hbit hs
          rw [h0'] at this; cases this
      have htmp : ∀ t, t ∈ o.namesF ops → (actOf ops.toList (pkI vs u) a (fun i => listed.getD i false) ops.size).tmps[t]? = (actAt ops.toList (pkI vs u) a i).tmps[t]? := by
        intro t ht
        rw [show actAt ops.toList (pkI vs u) a i = actAt ops.toList (pkI vs u) a (min ops.size i) by rw [show min ops.size i = i by omega]]
        refine actOf_tmp _ _ _ _ i t ?_ ?_ _
        · intro j p hj hp hd
          have hp' : ops[j]? = some p := by simpa using hp
          rcases ok_names hok hj hp' ho with hbit | ⟨hn, _⟩
          · exact hb1 j hj hbit
          · exact absurd ht (hn t hd)
        · intro j p hj hp hd
          have hp' : ops[j]? = some p := by simpa using hp
          by_cases e : j = i
          · subst e; exact h0'
          · rcases ok_names hok (show i < j by omega) ho hp' with hbit | ⟨_, hn⟩
            · exact hb2 j (by omega) (Array.getElem?_eq_some_iff.1 hp').1 hbit
            · exact absurd ht (hn t hd)
      have hlater : ∀ j p, i < j → ops.toList[j]? = some p → listed.getD j false = true → ∀ d, o.dst = some d → p.dst ≠ some d := by
        intro j p hj hp hs d hd hpd
        have hp' : ops[j]? = some p := by simpa using hp
        rcases ok_names hok hj ho hp' with hbit | ⟨hn, _⟩
        · have := hb2 j hj (Array.getElem?_eq_some_iff.1 hp').1 hbit
          rw [hs] at this; cases this
        · exact hn d hd (by simp [Oper.namesF, hpd])
      have szO : ∀ (z : Nat → Value) (S : Nat → Bool) n, (actOf ops.toList z a S n).tmps.size = a.tmps.size := by
        intro z S n; induction n with
        | zero => rfl
        | succ n ih =>
          simp only [actOf]
          split
          · split
            · rename_i p _ _; cases hp : p.dst <;> simpa [Act.put] using ih
            · exact ih
          · exact ih
      have szA : ∀ (z : Nat → Value) n, (actAt ops.toList z a n).tmps.size = a.tmps.size := by
        intro z n; induction n with
        | zero => rfl
        | succ n ih =>
          simp only [actAt]
          split
          · rename_i p _; cases hp : p.dst <;> simpa [Act.put] using ih
          · exact ih
      have huse : ∀ k m, useI cs k = some m → k < m ∧ m < ops.size ∧ ((Region.before ops).getD m 0).testBit k = true := by
        intro k m hkm
        unfold useI at hkm
        cases e : cs.find? (fun x => x.1 == k) with
        | none => rw [e] at hkm; cases hkm
        | some x =>
          rw [e] at hkm
          simp at hkm
          have h1 := List.mem_of_find?_eq_some e
          have h2 := List.find?_some e
          simp at h2
          have hokI' := hokI
          unfold okI at hokI'
          simp only [Bool.and_eq_true] at hokI'
          have hokC := hokI'.2
          rw [List.all_eq_true] at hokC
          have h3 := hokC x h1
          simp only [Bool.and_eq_true, decide_eq_true_eq] at h3
          rw [← h2, ← hkm]
          exact ⟨h3.1.1, h3.1.2, h3.2⟩
      have hF : factsI cs V u i w := by
        intro k hk
        obtain ⟨h1, h2, h3⟩ := huse k i hk
        refine hfa k (hcs k i hk) (hb1 k h1 h3) (fun m hm => ?_)
        rw [hk] at hm
        cases hm
        exact h0'
      refine flowAtI_over ho (hf u i o hol) (ok_sel hok ho) (by rw [szA, szO]) (fun t ht => htmp t (by simp [Oper.namesF, ht])) hw (hIa i hil h0') hF fun v w' hb' hB => ?_
      have hpi : pkI vs (fun k => if k = i then v else u k) i = v := by
        unfold pkI
        split
        · rename_i v0 e; rw [e] at hB; exact hB.symm
        · simp
      have hpk : ∀ k, k ≠ i → pkI vs (fun k => if k = i then v else u k) k = pkI vs u k := by
        intro k hk; unfold pkI; split
        · rfl
        · simp [hk]
      have hsame : actOf ops.toList (pkI vs (fun k => if k = i then v else u k)) a (fun k => (listed.setIfInBounds i true).getD k false) ops.size = (actOf ops.toList (pkI vs u) a (fun k => listed.getD k false) ops.size).put o.dst v := by
        rw [← actOf_vsI ops.toList (pkI vs (fun k => if k = i then v else u k)) (pkI vs u) a (fun k => listed.getD k false) ops.size (fun k _ hs => hpk k (fun e => by subst e; rw [h0'] at hs; cases hs))]
        have hput := actOf_put ops.toList (pkI vs (fun k => if k = i then v else u k)) a (fun k => listed.getD k false) i o hol h0' ops.size hil hlater
        rw [hpi] at hput
        rw [← hput]
        refine actOf_congr _ _ _ _ _ _ fun k _ => ?_
        by_cases e : k = i
        · subst e; simp [hsz, hil]
        · rw [if_neg e, getD_set_ne false (Ne.symm e)]
      rw [← hsame]
      refine ih _ (fun k => if k = i then v else u k) w' (by simp [hsz]) ?_ ?_ (hW _ _ _ _ hw hF hb') ?_ ?_
      · have := left_set (by omega) h0 ops.size
        rw [if_pos hil] at this
        omega
      · intro j p hj hs e he hb
        by_cases e2 : j = i
        · subst e2; rw [ho] at hj; cases hj; exact getD_set_true (hdeps e he hb)
        · rw [getD_set_ne false (Ne.symm e2)] at hs
          exact getD_set_true (hcl j p hj hs e he hb)
      · intro k hk hs hun
        by_cases e : k = i
        · subst e
          simp only [if_true]
          rw [hk] at hB
          exact hB
        · rw [getD_set_ne false (Ne.symm e)] at hs
          rw [if_neg e]
          have hun' : ∀ m, useI cs k = some m → m ≠ i ∧ listed.getD m false = false := by
            intro m hm
            have h1 := hun m hm
            by_cases em : m = i
            · subst em
              have : (listed.setIfInBounds m true).getD m false = true := by simp [hsz, hil]
              rw [this] at h1; cases h1
            · rw [getD_set_ne false (Ne.symm em)] at h1
              exact ⟨em, h1⟩
          refine hG i k u w w' ?_ hk hw hF hb' (hfa k hk hs (fun m hm => (hun' m hm).2))
          unfold liveI
          have hkl : k < ops.size := by
            rcases Nat.lt_or_ge k ops.size with h | h
            · exact h
            · have : listed.getD k false = false := by simp [hsz, h]
              rw [this] at hs; cases hs
          have c1 : ((Region.before ops).getD k 0).testBit i = false := by
            cases h : ((Region.before ops).getD k 0).testBit i with
            | false => rfl
            | true =>
              exfalso
              rcases Nat.lt_trichotomy i k with g | g | g
              · have := hb2 k g hkl h
                rw [hs] at this; cases this
              · exact e g.symm
              · exact absurd h (by rw [before_ltI hokI hkl hil g]; simp)
          have c2 : (match useI cs k with | some m => m != i && !((Region.before ops).getD i 0).testBit m | none => true) = true := by
            cases hm : useI cs k with
            | none => rfl
            | some m =>
              obtain ⟨h1, h2⟩ := hun' m hm
              have c3 : ((Region.before ops).getD i 0).testBit m = false := by
                cases h : ((Region.before ops).getD i 0).testBit m with
                | false => rfl
                | true =>
                  exfalso
                  rcases Nat.lt_trichotomy m i with g | g | g
                  · have := hb1 m g h
                    rw [h2] at this; cases this
                  · exact h1 g
                  · exact absurd h (by rw [before_ltI hokI hil (huse k m hm).2.1 g]; simp)
              show (m != i && !((Region.before ops).getD i 0).testBit m) = true
              rw [c3]
              simp [h1]
          rw [c2, c1]
          simp [e]
      · intro k hk hs
        by_cases e : k = i
        · subst e
          have : (listed.setIfInBounds k true).getD k false = true := by simp [hsz, hil]
          rw [this] at hs; cases hs
        · rw [getD_set_ne false (Ne.symm e)] at hs
          refine hIk i k u w w' (Ne.symm e) ?_ hk hw hF hb' (hIa k hk hs)
          cases h : ((Region.before ops).getD i 0).testBit k with
          | false => rfl
          | true =>
            exfalso
            rcases Nat.lt_trichotomy k i with g | g | g
            · have := hb1 k g h
              rw [hs] at this; cases this
            · exact e g
            · exact absurd h (by rw [before_ltI hokI hil hk g]; simp)
end
end Flow

theorem wp_flowI {P : Program} {id : Nat} {ops : Array Oper} {Q : Exit → Act → World → Prop} {a : Act} {w : World} (hm : P.follows .mixedOrders = true) (hok : flowOk ops = true)
    (vs : List (Option Value)) (cs : List (Nat × Nat)) (W : World → Prop) (I : Nat → World → Prop) (V : Nat → Value → World → Prop) (G : Nat → (Nat → Value) → World → World → Prop) (hokI : okI ops cs = true) (hcs : ∀ i k, useI cs i = some k → vs[i]? = some none)
    (hW0 : W w.drew) (hI0 : ∀ i, i < ops.size → I i w.drew) (hIk : ∀ p i u w w', p ≠ i → ((Region.before ops).getD p 0).testBit i = false → i < ops.size → W w → factsI cs V u p w → G p u w w' → I i w → I i w') (hW : ∀ p u w w', W w → factsI cs V u p w → G p u w w' → W w') (hG : ∀ p i u w w', liveI ops cs p i = true → vs[i]? = some none → W w → factsI cs V u p w → G p u w w' → V i (u i) w → V i (u i) w')
    (h : ∀ u, flowI P ops W I cs V G u (fun a' => ∀ w', W w' → (∀ i, vs[i]? = some none → i < ops.size → useI cs i = none → V i (u i) w') → Q .normal a' w') 0 vs ops.toList a) : (Code.region id ops true).wp P Q a w := by
  refine wp_region_any hm ?_
  have h0 := fun u => Flow.flowI_out ops.toList vs 0 a (h u)
  have h3 := Flow.any_of_flowI (W := W) (I := I) hok hokI vs a hcs hW hG hIk
    (fun u i o hi => by have := (h0 u).1 i o hi; simp only [Nat.zero_add] at this; exact this)
    (fun u w' hw' hF => by
      have := (h0 u).2 w' hw' hF
      simp only [Nat.zero_add, Array.length_toList] at this
      exact this) ops.size (Array.replicate ops.size false) (fun _ => undef) w.drew (by simp)
    (by
      have : ∀ n, n ≤ ops.size → Flow.left (Array.replicate ops.size false) n = n := by
        intro n
        induction n with
        | zero => intro _; rfl
        | succ n ih =>
          intro hn
          simp only [Flow.left]
          rw [ih (by omega)]
          have : (Array.replicate ops.size false).getD n true = false := by simp [show n < ops.size by omega]
          rw [this]; rfl
      exact this _ (Nat.le_refl _))
    (by
      intro j o _ hs
      exfalso
      by_cases hj : j < ops.size
      · simp [hj] at hs
      · simp [hj] at hs) hW0
    (by
      intro i _ hs
      exfalso
      by_cases hj : i < ops.size
      · simp [hj] at hs
      · simp [hj] at hs) (fun i hi _ => hI0 i hi)
  rw [Flow.actOf_none _ _ _ _ _ (fun i hi => by simp [hi])] at h3
  exact h3
end Go
