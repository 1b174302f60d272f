/- A region whose order of evaluation is open: one walk in the order of the text serves every order, if each operation gives one value wherever it stands. Conditions: the temporaries are ordered by the region's own edges (flowOk, a closed fact). -/
import Derived.Orders
import Derived.Below
namespace Go

/-- the temporaries that an operation reads or writes -/
def Oper.namesF (ops : Array Oper) (o : Oper) : List Tmp := o.looksAt ops ++ o.dst.toList

def flowOk (ops : Array Oper) : Bool :=
  let b := Region.before ops
  let l := ops.toList
  (l.zipIdx.all fun (o, j) => o.after.all fun e => !Region.binds .any e || decide (e.on < j)) &&
  (l.zipIdx.all fun (o, j) => (List.range j).all fun i => !(b.getD j 0).testBit i || o.after.any fun e => Region.binds .any e && (e.on == i || (decide (i < e.on) && (b.getD e.on 0).testBit i))) &&
  (l.zipIdx.all fun (o, j) => (l.zipIdx.take j).all fun (p, i) =>
    (b.getD j 0).testBit i || ((match p.dst with | some d => !(o.namesF ops).contains d | none => true) && (match o.dst with | some d => !(p.namesF ops).contains d | none => true))) &&
  (l.all fun o => match o.op with | .select .. => false | .defer _ => false | _ => true)

/-- one operation, wherever it stands: the value v, and the world as W allows -/
def flowAt (P : Program) (ops : Array Oper) (W : World → Prop) (o : Oper) (v : Value) (a : Act) : Prop :=
  if Region.wanted o (yielded ops a.tmps) then ∀ w, W w → ∀ K : Act → World → Prop, (∀ w', W w' → K (a.put o.dst v) w') → o.wp P a w K (fun _ _ _ => False) else v = undef

def flow (P : Program) (ops : Array Oper) (W : World → Prop) (R : Act → Prop) : List Oper → Act → Prop
  | [], a => R a
  | o :: rest, a => ∃ v, flowAt P ops W o v a ∧ flow P ops W R rest (a.put o.dst v)

theorem flowAt_yes {P : Program} {ops : Array Oper} {W : World → Prop} {o : Oper} {v : Value} {a : Act} (hw : Region.wanted o (yielded ops a.tmps) = true)
    (h : ∀ w, W w → ∀ K : Act → World → Prop, (∀ w', W w' → K (a.put o.dst v) w') → o.wp P a w K (fun _ _ _ => False)) : flowAt P ops W o v a := by
  unfold flowAt; rw [if_pos hw]; exact h
theorem flowAt_no {P : Program} {ops : Array Oper} {W : World → Prop} {o : Oper} {a : Act} (hw : Region.wanted o (yielded ops a.tmps) = false) : flowAt P ops W o undef a := by
  unfold flowAt; rw [if_neg (by simp [hw])]
theorem flow_yes {P : Program} {ops : Array Oper} {W : World → Prop} {R : Act → Prop} {o : Oper} {rest : List Oper} {a : Act} {v : Value} (hw : Region.wanted o (yielded ops a.tmps) = true)
    (h : ∀ w, W w → ∀ K : Act → World → Prop, (∀ w', W w' → K (a.put o.dst v) w') → o.wp P a w K (fun _ _ _ => False)) (k : flow P ops W R rest (a.put o.dst v)) :
    flow P ops W R (o :: rest) a := ⟨v, flowAt_yes hw h, k⟩
theorem flow_no {P : Program} {ops : Array Oper} {W : World → Prop} {R : Act → Prop} {o : Oper} {rest : List Oper} {a : Act} (hw : Region.wanted o (yielded ops a.tmps) = false)
    (k : flow P ops W R rest (a.put o.dst undef)) : flow P ops W R (o :: rest) a := ⟨undef, flowAt_no hw, k⟩
theorem flow_nil {P : Program} {ops : Array Oper} {W : World → Prop} {R : Act → Prop} {a : Act} (h : R a) : flow P ops W R [] a := h
theorem flow_cons {P : Program} {ops : Array Oper} {W : World → Prop} {R : Act → Prop} {o : Oper} {rest : List Oper} {a : Act} (v : Value) (h : flowAt P ops W o v a) (k : flow P ops W R rest (a.put o.dst v)) :
    flow P ops W R (o :: rest) a := ⟨v, h, k⟩

namespace Flow
section
variable {P : Program} {ops : Array Oper} {W : World → Prop}

/-- the frame in the text's order, i operations on -/
def actAt (l : List Oper) (vs : Nat → Value) (a : Act) : Nat → Act
  | 0 => a
  | i + 1 => match l[i]? with
    | some o => (actAt l vs a i).put o.dst (vs i)
    | none => actAt l vs a i

/-- the frame when just the listed ones have run -/
def actOf (l : List Oper) (vs : Nat → Value) (a : Act) (S : Nat → Bool) : Nat → Act
  | 0 => a
  | i + 1 => match l[i]? with
    | some o => if S i then (actOf l vs a S i).put o.dst (vs i) else actOf l vs a S i
    | none => actOf l vs a S i

theorem actOf_none (l : List Oper) (vs : Nat → Value) (a : Act) (S : Nat → Bool) : ∀ n, (∀ i, i < n → S i = false) → actOf l vs a S n = a
  | 0, _ => rfl
  | n + 1, h => by
    simp only [actOf]
    have ih := actOf_none l vs a S n (fun i hi => h i (by omega))
    split
    · rw [if_neg (by simp [h n (by omega)]), ih]
    · exact ih

theorem actOf_all (l : List Oper) (vs : Nat → Value) (a : Act) (S : Nat → Bool) : ∀ n, (∀ i, i < n → i < l.length → S i = true) → actOf l vs a S n = actAt l vs a n
  | 0, _ => rfl
  | n + 1, h => by
    simp only [actOf, actAt]
    have ih := actOf_all l vs a S n (fun i hi => h i (by omega))
    split
    · rename_i o ho
      rw [if_pos (h n (by omega) (List.getElem?_eq_some_iff.1 ho).1), ih]
    · exact ih

theorem actOf_congr (l : List Oper) (vs : Nat → Value) (a : Act) (S T : Nat → Bool) : ∀ n, (∀ i, i < n → S i = T i) → actOf l vs a S n = actOf l vs a T n
  | 0, _ => rfl
  | n + 1, h => by
    simp only [actOf]
    rw [actOf_congr l vs a S T n (fun i hi => h i (by omega)), h n (by omega)]

/-- one more is listed: its value is put, if no later one that is listed writes the same temporary. -/
theorem actOf_put (l : List Oper) (vs : Nat → Value) (a : Act) (S : Nat → Bool) (i : Nat) (o : Oper) (hi : l[i]? = some o) (hS : S i = false) : ∀ n, i < n →
    (∀ j p, i < j → l[j]? = some p → S j = true → ∀ d, o.dst = some d → p.dst ≠ some d) →
    actOf l vs a (fun k => if k = i then true else S k) n = (actOf l vs a S n).put o.dst (vs i)
  | 0, h, _ => by omega
  | n + 1, h, hd => by
    simp only [actOf]
    by_cases e : n = i
    · subst e
      rw [hi]
      simp only [if_true, hS]
      rw [if_neg (by simp)]
      rw [actOf_congr l vs a (fun k => if k = n then true else S k) S n (fun k hk => by simp [show k ≠ n by omega])]
    · have ih := actOf_put l vs a S i o hi hS n (by omega) hd
      cases hp : l[n]? with
      | none => simp only; exact ih
      | some p =>
        simp only [if_neg e]
        cases hs : S n with
        | false => simp only [Bool.false_eq_true, if_false]; exact ih
        | true =>
          simp only [if_true]
          rw [ih, Act.put_comm _ _ _ (fun d hd' => hd n p (by omega) hp hs d hd')]

/-- a temporary whose writers so far are just those that stand before i -/
theorem actOf_tmp (l : List Oper) (vs : Nat → Value) (a : Act) (S : Nat → Bool) (i : Nat) (t : Tmp)
    (h1 : ∀ j p, j < i → l[j]? = some p → p.dst = some t → S j = true) (h2 : ∀ j p, i ≤ j → l[j]? = some p → p.dst = some t → S j = false) :
    ∀ n, (actOf l vs a S n).tmps[t]? = (actAt l vs a (min n i)).tmps[t]? := by
  intro n
  induction n with
  | zero => rfl
  | succ n ih =>
    have put_ne : ∀ (b : Act) (d : Option Tmp) (v : Value), d ≠ some t → (b.put d v).tmps[t]? = b.tmps[t]? := by
      intro b d v hd
      cases d with
      | none => rfl
      | some d => simp only [Act.put]; rw [Array.getElem?_setIfInBounds_ne (fun e => hd (by rw [e]))]
    have sz : ∀ (b : Act) (d : Option Tmp) (v : Value), (b.put d v).tmps.size = b.tmps.size := by
      intro b d v; cases d <;> simp [Act.put]
    have szO : ∀ n, (actOf l vs a S n).tmps.size = a.tmps.size := by
      intro n; induction n with
      | zero => rfl
      | succ n ih => simp only [actOf]; split <;> (try split) <;> simp [sz, ih]
    have szA : ∀ n, (actAt l vs a n).tmps.size = a.tmps.size := by
      intro n; induction n with
      | zero => rfl
      | succ n ih => simp only [actAt]; split <;> simp [sz, ih]
    have put_eq : ∀ (b c : Act) (v : Value), b.tmps.size = c.tmps.size → (b.put (some t) v).tmps[t]? = (c.put (some t) v).tmps[t]? := by
      intro b c v hbc
      simp [Act.put, Array.getElem?_setIfInBounds, hbc]
    simp only [actOf]
    by_cases hni : n < i
    · rw [show min (n + 1) i = n + 1 by omega]
      rw [show min n i = n by omega] at ih
      simp only [actAt]
      cases hp : l[n]? with
      | none => simp only; exact ih
      | some p =>
        simp only
        by_cases hd : p.dst = some t
        · rw [if_pos (h1 n p hni hp hd), hd]
          exact put_eq _ _ _ (by rw [szO, szA])
        · rw [put_ne _ _ _ hd]
          split
          · rw [put_ne _ _ _ hd]; exact ih
          · exact ih
    · rw [show min (n + 1) i = i by omega]
      rw [show min n i = i by omega] at ih
      cases hp : l[n]? with
      | none => simp only; exact ih
      | some p =>
        simp only
        by_cases hd : p.dst = some t
        · rw [if_neg (by simp [h2 n p (by omega) hp hd])]; exact ih
        · split
          · rw [put_ne _ _ _ hd]; exact ih
          · exact ih

theorem actOf_defers (l : List Oper) (vs : Nat → Value) (a : Act) (S : Nat → Bool) : ∀ n, (actOf l vs a S n).defers = a.defers
  | 0 => rfl
  | n + 1 => by
    have ih := actOf_defers l vs a S n
    simp only [actOf]
    split
    · split
      · rename_i o _ _; cases ho : o.dst <;> simpa [Act.put] using ih
      · exact ih
    · exact ih

theorem actAt_defers (l : List Oper) (vs : Nat → Value) (a : Act) : ∀ n, (actAt l vs a n).defers = a.defers
  | 0 => rfl
  | n + 1 => by
    have ih := actAt_defers l vs a n
    simp only [actAt]
    split
    · rename_i o _; cases ho : o.dst <;> simpa [Act.put] using ih
    · exact ih

/-- what flow says, operation by operation -/
theorem flow_out {R : Act → Prop} : ∀ (l : List Oper) (a : Act), flow P ops W R l a →
    ∃ vs : Nat → Value, (∀ i o, l[i]? = some o → flowAt P ops W o (vs i) (actAt l vs a i)) ∧ R (actAt l vs a l.length)
  | [], a, h => ⟨fun _ => undef, by simp, h⟩
  | o :: rest, a, ⟨v, h, k⟩ => by
    obtain ⟨vs, h1, h2⟩ := flow_out rest (a.put o.dst v) k
    have key : ∀ n, actAt (o :: rest) (fun | 0 => v | i + 1 => vs i) a (n + 1) = actAt rest vs (a.put o.dst v) n := by
      intro n
      induction n with
      | zero => rfl
      | succ n ih =>
        rw [actAt, ih]
        simp only [List.getElem?_cons_succ, actAt]
    refine ⟨fun | 0 => v | i + 1 => vs i, ?_, ?_⟩
    · intro i p hp
      cases i with
      | zero => simp only [List.getElem?_cons_zero, Option.some.injEq] at hp; subst hp; exact h
      | succ i => rw [key]; exact h1 i p (by simpa using hp)
    · rw [List.length_cons, key]; exact h2

/-- what flowOk says -/
theorem ok_back (h : flowOk ops = true) {j : Nat} {o : Oper} (hj : ops[j]? = some o) : ∀ e ∈ o.after, Region.binds .any e = true → e.on < j := by
  unfold flowOk at h
  simp only [Bool.and_eq_true] at h
  have h1 := h.1.1.1
  rw [List.all_eq_true] at h1
  have hm : (o, j) ∈ ops.toList.zipIdx := by rw [List.mem_zipIdx_iff_getElem?]; simpa using hj
  have := h1 _ hm
  simp only [Array.all_eq_true_iff_forall_mem, Bool.or_eq_true, Bool.not_eq_true', decide_eq_true_eq] at this
  intro e he hb
  rcases this e he with g | g
  · rw [hb] at g; cases g
  · exact g

theorem ok_before (h : flowOk ops = true) {S : Nat → Bool} (hS : ∀ j o, ops[j]? = some o → S j = true → ∀ e ∈ o.after, Region.binds .any e = true → S e.on = true) :
    ∀ (j i : Nat), i < j → j < ops.size → ((Region.before ops).getD j 0).testBit i = true → S j = true → S i = true := by
  have hb := @ok_back ops h
  unfold flowOk at h
  simp only [Bool.and_eq_true] at h
  have h1 := h.1.1.2
  rw [List.all_eq_true] at h1
  intro j
  induction j using Nat.strongRecOn with
  | _ j ih =>
    intro i hij hj hbit hSj
    have ho : ops[j]? = some ops[j] := Array.getElem?_eq_getElem hj
    have hm : (ops[j], j) ∈ ops.toList.zipIdx := by rw [List.mem_zipIdx_iff_getElem?]; simp [hj]
    have h2 := h1 _ hm
    simp only [List.all_eq_true, List.mem_range] at h2
    have h3 := h2 i hij
    simp only [Bool.or_eq_true, Bool.not_eq_true', hbit] at h3
    rcases h3 with h3 | h3
    · cases h3
    · rw [Array.any_eq_true'] at h3
      obtain ⟨e, he, h4⟩ := h3
      simp only [Bool.and_eq_true, Bool.or_eq_true, beq_iff_eq] at h4
      obtain ⟨h5, h6⟩ := h4
      have hlt := hb ho e he h5
      have hSe := hS j _ ho hSj e he h5
      rcases h6 with h6 | ⟨h6, h7⟩
      · rw [← h6]; exact hSe
      · exact ih e.on hlt i (of_decide_eq_true h6) (by omega) h7 hSe

theorem ok_names (h : flowOk ops = true) {i j : Nat} {p o : Oper} (hij : i < j) (hi : ops[i]? = some p) (hj : ops[j]? = some o) :
    ((Region.before ops).getD j 0).testBit i = true ∨ ((∀ d, p.dst = some d → d ∉ o.namesF ops) ∧ (∀ d, o.dst = some d → d ∉ p.namesF ops)) := by
  unfold flowOk at h
  simp only [Bool.and_eq_true] at h
  have h1 := h.1.2
  rw [List.all_eq_true] at h1
  have hm : (o, j) ∈ ops.toList.zipIdx := by rw [List.mem_zipIdx_iff_getElem?]; simpa using hj
  have h2 := h1 _ hm
  rw [List.all_eq_true] at h2
  have hm2 : (p, i) ∈ ops.toList.zipIdx.take j := by
    rw [List.mem_take_iff_getElem]
    have hl : i < ops.size := (Array.getElem?_eq_some_iff.1 hi).1
    have hl2 : j < ops.size := (Array.getElem?_eq_some_iff.1 hj).1
    refine ⟨i, by simp; omega, ?_⟩
    have := (Array.getElem?_eq_some_iff.1 hi).2
    simp [this]
  have h3 := h2 _ hm2
  simp only [Bool.or_eq_true, Bool.and_eq_true] at h3
  rcases h3 with h3 | ⟨h3, h4⟩
  · exact .inl h3
  · refine .inr ⟨fun d hd => ?_, fun d hd => ?_⟩
    · rw [hd] at h3; simpa using h3
    · rw [hd] at h4; simpa using h4

theorem ok_sel (h : flowOk ops = true) {i : Nat} {o : Oper} (hi : ops[i]? = some o) : ∀ cs b, o.op ≠ .select cs b := by
  unfold flowOk at h
  simp only [Bool.and_eq_true] at h
  have h1 := h.2
  rw [List.all_eq_true] at h1
  have h2 := h1 o (by rw [Array.mem_toList_iff]; exact Array.mem_of_getElem? hi)
  intro cs b e
  rw [e] at h2
  cases h2

theorem ok_defer (h : flowOk ops = true) {i : Nat} {o : Oper} (hi : ops[i]? = some o) : ∀ c, o.op ≠ .defer c := by
  unfold flowOk at h
  simp only [Bool.and_eq_true] at h
  have h1 := h.2
  rw [List.all_eq_true] at h1
  have h2 := h1 o (by rw [Array.mem_toList_iff]; exact Array.mem_of_getElem? hi)
  intro c e
  rw [e] at h2
  cases h2

theorem wanted_same {o : Oper} {a b : Act} (h : ∀ t, t ∈ o.looksAt ops → a.tmps[t]? = b.tmps[t]?) :
    Region.wanted o (yielded ops a.tmps) = Region.wanted o (yielded ops b.tmps) := by
  unfold Region.wanted
  cases hg : o.guard with
  | none => rfl
  | some gw =>
    obtain ⟨g, want⟩ := gw
    have hy : yielded ops a.tmps g = yielded ops b.tmps g := by
      unfold yielded
      cases ht : (ops[g]?).bind (·.dst) with
      | none => rfl
      | some t =>
        have := h t (by simp [Oper.looksAt, hg, ht])
        simp [this]
    simp only [hy]

theorem exec_same {o : Oper} {a b : Act} (hs : ∀ cs b, o.op ≠ .select cs b) (h : ∀ t, t ∈ o.looksAt ops → a.tmps[t]? = b.tmps[t]?) : execOp a.eval o = execOp b.eval o := by
  refine execOp_congr o hs fun x hx => ?_
  cases x with
  | tmp t =>
    have := h t (List.mem_append_left _ (List.mem_filterMap.2 ⟨.tmp t, by simpa using hx, rfl⟩))
    simp [Act.eval, this]
  | _ => rfl

theorem put_inj {A a : Act} {dst : Option Tmp} {u v : Value} (hs : A.tmps.size = a.tmps.size) (h : A.put dst v = A.put dst u) : a.put dst v = a.put dst u := by
  cases dst with
  | none => rfl
  | some d =>
    simp only [Act.put, Act.mk.injEq, and_true] at h ⊢
    by_cases hd : d < A.tmps.size
    · have := congrArg (fun l => l[d]?) h
      simp [hd] at this
      rw [this]
    · have hd' : a.tmps.size ≤ d := by rw [hs] at hd; exact Nat.le_of_not_lt hd
      simp [Array.setIfInBounds_eq_of_size_le hd']

/-- one operation, taken over to another frame -/
theorem flowAt_over {Q : Exit → Act → World → Prop} {o : Oper} {v : Value} {A a : Act} {i : Nat} {w : World} (hi : ops[i]? = some o) (h : flowAt P ops W o v A)
    (hs : ∀ cs b, o.op ≠ .select cs b) (hz : A.tmps.size = a.tmps.size) (hn : ∀ t, t ∈ o.looksAt ops → a.tmps[t]? = A.tmps[t]?) (hw : W w) {K : Act → World → Prop}
    (hK : ∀ w', W w' → K (a.put o.dst v) w') : wpOp P ops Q i K a w := by
  unfold wpOp
  simp only [hi]
  rw [wanted_same hn]
  unfold flowAt at h
  split
  · rename_i hwn
    rw [if_pos hwn] at h
    refine .inl ?_
    have h1 := h w hw (fun x w'' => (∀ u, x = A.put o.dst u → K (a.put o.dst u) w'') ∧ x.defers = A.defers) (fun w' hw' => ⟨fun u hu => by rw [← put_inj hz hu]; exact hK w' hw', by cases o.dst <;> rfl⟩)
    unfold Oper.wp at h1 ⊢
    rw [exec_same hs hn]
    generalize (execOp A.eval o).run P w = r at h1
    cases r with
    | ok n w' =>
      cases n <;> simp only [Oper.upon] at h1 ⊢
      case value u => exact h1.1 u rfl
      case skip => exact h1.1 _ rfl
      case defer d =>
        have h2 := congrArg List.length h1.2
        cases hd : o.dst <;> simp [hd, Act.put] at h2
      case enter f args =>
        refine Calls.mono h1 fun e w'' he => ?_
        cases e with
        | returned u => exact he.1 u rfl
        | panicked c => exact he.elim
        | outgrown => obtain ⟨_, _, hf⟩ := he; exact hf.elim
      case row row args => exact Rows.mono h1 fun u w'' he => he.1 u rfl
    | halt x w' => cases x <;> simp only [Oper.upon] at h1 ⊢
  · rename_i hwn
    rw [if_neg hwn] at h
    subst h
    exact hK w hw

/-- how many are not yet listed -/
def left (listed : Array Bool) : Nat → Nat
  | 0 => 0
  | n + 1 => left listed n + if listed.getD n true then 0 else 1

theorem left_zero {listed : Array Bool} : ∀ n, left listed n = 0 → ∀ i, i < n → listed.getD i true = true
  | 0, _, i, hi => by omega
  | n + 1, h, i, hi => by
    simp only [left] at h
    by_cases e : i = n
    · subst e
      cases hl : listed.getD i true with
      | true => rfl
      | false => rw [hl] at h; simp at h
    · exact left_zero n (by omega) i (by omega)

theorem left_pos {listed : Array Bool} : ∀ n, 0 < left listed n → ∃ i, i < n ∧ listed.getD i true = false ∧ ∀ k, k < i → listed.getD k true = true
  | 0, h => by simp [left] at h
  | n + 1, h => by
    by_cases e : 0 < left listed n
    · obtain ⟨i, h1, h2⟩ := left_pos n e
      exact ⟨i, by omega, h2⟩
    · simp only [left] at h
      refine ⟨n, by omega, ?_, left_zero n (by omega)⟩
      cases hl : listed.getD n true with
      | false => rfl
      | true => rw [hl] at h; simp at h; omega

theorem left_set {listed : Array Bool} {i : Nat} (hi : i < listed.size) (hl : listed.getD i true = false) : ∀ n, left (listed.setIfInBounds i true) n + (if i < n then 1 else 0) = left listed n
  | 0 => by simp [left]
  | n + 1 => by
    have ih := left_set hi hl n
    simp only [left]
    by_cases e : i = n
    · subst e
      rw [hl]
      have : (listed.setIfInBounds i true).getD i true = true := by simp
      rw [this]
      simp at ih ⊢
      omega
    · rw [getD_set_ne true e]
      by_cases c : i < n
      · rw [if_pos c] at ih
        rw [if_pos (show i < n + 1 by omega)]
        omega
      · rw [if_neg c] at ih
        rw [if_neg (show ¬ i < n + 1 by omega)]
        omega

theorem getD_of {listed : Array Bool} {i : Nat} (hi : i < listed.size) : listed.getD i true = listed.getD i false := by
  simp [Array.getD, hi]

/-- THE LAW: whatever the order. -/
theorem any_of_flow {Q : Exit → Act → World → Prop} (hok : flowOk ops = true) (vs : Nat → Value) (a : Act)
    (hf : ∀ i o, ops.toList[i]? = some o → flowAt P ops W o (vs i) (actAt ops.toList vs a i)) (hq : ∀ w', W w' → Q .normal (actAt ops.toList vs a ops.size) w') :
    ∀ (fuel : Nat) (listed : Array Bool) (w : World), listed.size = ops.size → left listed ops.size = fuel →
      (∀ j o, ops[j]? = some o → listed.getD j false = true → ∀ e ∈ o.after, Region.binds .any e = true → listed.getD e.on false = true) → W w →
      wpAny P .any ops Q fuel listed (actOf ops.toList vs a (fun i => listed.getD i false) ops.size) w := by
  intro fuel
  induction fuel with
  | zero =>
    intro listed w hsz hl _ hw
    have hall := left_zero _ hl
    refine ⟨?_, ?_⟩
    · apply List.eq_nil_iff_forall_not_mem.2
      intro j hj
      rw [mem_ready] at hj
      obtain ⟨h0, o, ho, _⟩ := hj
      have := hall j (Array.getElem?_eq_some_iff.1 ho).1
      rw [h0] at this; cases this
    · rw [actOf_all _ _ _ _ _ (fun i hi _ => by rw [← getD_of (by omega)]; exact hall i hi)]
      exact hq w hw
  | succ fuel ih =>
    intro listed w hsz hl hcl hw
    refine ⟨?_, ?_⟩
    · intro hnil
      exfalso
      obtain ⟨i, h1, h2, h3⟩ := left_pos _ (show 0 < left listed ops.size by omega)
      have ho : ops[i]? = some ops[i] := Array.getElem?_eq_getElem h1
      have : i ∈ Region.ready .any ops listed := by
        rw [mem_ready]
        refine ⟨h2, _, ho, fun e he hb => ?_⟩
        have hlt := ok_back hok ho e he hb
        rw [← getD_of (by omega)]
        exact h3 _ hlt
      rw [hnil] at this
      cases this
    · intro i hi
      rw [mem_ready] at hi
      obtain ⟨h0, o, ho, hdeps⟩ := hi
      have hil : i < ops.size := (Array.getElem?_eq_some_iff.1 ho).1
      have hol : ops.toList[i]? = some o := by simpa using ho
      have h0' : listed.getD i false = false := by rw [← getD_of (by omega)]; exact h0
      -- i listed as well: still closed
      have hcl' : ∀ j p, ops[j]? = some p → (if j = i then true else listed.getD j false) = true → ∀ e ∈ p.after, Region.binds .any e = true → (if e.on = i then true else listed.getD e.on false) = true := by
        intro j p hj hs e he hb
        by_cases e1 : e.on = i
        · rw [if_pos e1]
        · rw [if_neg e1]
          by_cases e2 : j = i
          · subst e2; rw [ho] at hj; cases hj; exact hdeps e he hb
          · rw [if_neg e2] at hs; exact hcl j p hj hs e he hb
      have hb1 : ∀ j, j < i → ((Region.before ops).getD i 0).testBit j = true → listed.getD j false = true := by
        intro j hj hbit
        have := ok_before hok (S := fun k => if k = i then true else listed.getD k false) hcl' i j hj hil hbit (by simp)
        simpa [show j ≠ i by omega] using this
      have hb2 : ∀ j, i < j → j < ops.size → ((Region.before ops).getD j 0).testBit i = true → listed.getD j false = false := by
        intro j hj hjl hbit
        cases hs : listed.getD j false with
        | false => rfl
        | true =>
          have := ok_before hok (S := fun k => listed.getD k false) hcl j i hj hjl hbit hs
          rw [h0'] at this; cases this
      -- the temporaries that it reads or writes are as in the text's order
      have htmp : ∀ t, t ∈ o.namesF ops → (actOf ops.toList vs a (fun i => listed.getD i false) ops.size).tmps[t]? = (actAt ops.toList vs a i).tmps[t]? := by
        intro t ht
        rw [show actAt ops.toList vs a i = actAt ops.toList vs a (min ops.size i) by rw [show min ops.size i = i by omega]]
        refine actOf_tmp _ _ _ _ i t ?_ ?_ _
        · intro j p hj hp hd
          have hp' : ops[j]? = some p := by simpa using hp
          rcases ok_names hok hj hp' ho with hbit | ⟨hn, _⟩
          · exact hb1 j hj hbit
          · exact absurd ht (hn t hd)
        · intro j p hj hp hd
          have hp' : ops[j]? = some p := by simpa using hp
          by_cases e : j = i
          · subst e; exact h0'
          · rcases ok_names hok (show i < j by omega) ho hp' with hbit | ⟨_, hn⟩
            · exact hb2 j (by omega) (Array.getElem?_eq_some_iff.1 hp').1 hbit
            · exact absurd ht (hn t hd)
      have hlater : ∀ j p, i < j → ops.toList[j]? = some p → listed.getD j false = true → ∀ d, o.dst = some d → p.dst ≠ some d := by
        intro j p hj hp hs d hd hpd
        have hp' : ops[j]? = some p := by simpa using hp
        rcases ok_names hok hj ho hp' with hbit | ⟨hn, _⟩
        · have := hb2 j hj (Array.getElem?_eq_some_iff.1 hp').1 hbit
          rw [hs] at this; cases this
        · exact hn d hd (by simp [Oper.namesF, hpd])
      have hsame : actOf ops.toList vs a (fun k => (listed.setIfInBounds i true).getD k false) ops.size = (actOf ops.toList vs a (fun k => listed.getD k false) ops.size).put o.dst (vs i) := by
        rw [← actOf_put ops.toList vs a (fun k => listed.getD k false) i o hol h0' ops.size hil hlater]
        refine actOf_congr _ _ _ _ _ _ fun k _ => ?_
        by_cases e : k = i
        · subst e; simp [hsz, hil]
        · rw [if_neg e, getD_set_ne false (Ne.symm e)]
      have szO : ∀ (S : Nat → Bool) n, (actOf ops.toList vs a S n).tmps.size = a.tmps.size := by
        intro S n; induction n with
        | zero => rfl
        | succ n ih =>
          simp only [actOf]
          split
          · split
            · rename_i p _ _; cases hp : p.dst <;> simpa [Act.put] using ih
            · exact ih
          · exact ih
      have szA : ∀ n, (actAt ops.toList vs a n).tmps.size = a.tmps.size := by
        intro n; induction n with
        | zero => rfl
        | succ n ih =>
          simp only [actAt]
          split
          · rename_i p _; cases hp : p.dst <;> simpa [Act.put] using ih
          · exact ih
      refine flowAt_over ho (hf i o hol) (ok_sel hok ho) (by rw [szA, szO]) (fun t ht => htmp t (by simp [Oper.namesF, ht])) hw fun w' hw' => ?_
      rw [← hsame]
      refine ih _ w' (by simp [hsz]) ?_ ?_ hw'
      · have := left_set (by omega) h0 ops.size
        rw [if_pos hil] at this
        omega
      · intro j p hj hs e he hb
        by_cases e2 : j = i
        · subst e2; rw [ho] at hj; cases hj; exact getD_set_true (hdeps e he hb)
        · rw [getD_set_ne false (Ne.symm e2)] at hs
          exact getD_set_true (hcl j p hj hs e he hb)
end
end Flow

theorem wp_flow {P : Program} {id : Nat} {ops : Array Oper} {Q : Exit → Act → World → Prop} {a : Act} {w : World} (hm : P.follows .mixedOrders = true) (hok : flowOk ops = true)
    (W : World → Prop) (hW : W w.drew) (h : flow P ops W (fun a' => ∀ w', W w' → Q .normal a' w') ops.toList a) : (Code.region id ops true).wp P Q a w := by
  refine wp_region_any hm ?_
  obtain ⟨vs, h1, h2⟩ := Flow.flow_out ops.toList a h
  have h3 := Flow.any_of_flow (W := W) hok vs a h1 (by simpa using h2) ops.size (Array.replicate ops.size false) w.drew (by simp)
    (by
      have : ∀ n, n ≤ ops.size → Flow.left (Array.replicate ops.size false) n = n := by
        intro n
        induction n with
        | zero => intro _; rfl
        | succ n ih =>
          intro hn
          simp only [Flow.left]
          rw [ih (by omega)]
          have : (Array.replicate ops.size false).getD n true = false := by simp [show n < ops.size by omega]
          rw [this]; rfl
      exact this _ (Nat.le_refl _))
    (by
      intro j o _ hs
      exfalso
      by_cases hj : j < ops.size
      · simp [hj] at hs
      · simp [hj] at hs) hW
  rw [Flow.actOf_none _ _ _ _ _ (fun i hi => by simp [hi])] at h3
  exact h3

/-- at a region whose operations read, and call what makes memory of its own: below the heap's size the world is as it was. -/
theorem wp_flow_below {P : Program} {id : Nat} {ops : Array Oper} {Q : Exit → Act → World → Prop} {a : Act} {w : World} (hm : P.follows .mixedOrders = true) (hok : flowOk ops = true)
    (h : flow P ops (RowKit.Below w.heap.size w) (fun a' => ∀ w', RowKit.Below w.heap.size w w' → Q .normal a' w') ops.toList a) : (Code.region id ops true).wp P Q a w :=
  wp_flow hm hok _ (RowKit.Below.drew (RowKit.Below.refl _ _)) h
end Go
