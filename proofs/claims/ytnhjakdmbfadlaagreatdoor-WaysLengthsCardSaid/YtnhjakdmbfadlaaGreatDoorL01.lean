/- Parts of the proof: Flow, Hom, Laws, Times. Conditions: none. -/
import Derived.Orders
import Derived.Below
import Derived.Test.YtnhjakdmbfadlaaGreatDoorL00
set_option linter.all false
/- A region whose order of evaluation is open: one walk in the order of the text serves every order, if each operation gives one value wherever it stands. Conditions: the temporaries are ordered by the region's own edges (flowOk, a closed fact). -/
namespace Go

/-- the temporaries that an operation reads or writes -/
def Oper.namesF (ops : Array Oper) (o : Oper) : List Tmp := o.looksAt ops ++ o.dst.toList

def flowOk (ops : Array Oper) : Bool :=
  let b := Region.before ops
  let l := ops.toList
  (l.zipIdx.all fun (o, j) => o.after.all fun e => !Region.binds .any e || decide (e.on < j)) &&
  (l.zipIdx.all fun (o, j) => (List.range j).all fun i => !(b.getD j 0).testBit i || o.after.any fun e => Region.binds .any e && (e.on == i || (decide (i < e.on) && (b.getD e.on 0).testBit i))) &&
  (l.zipIdx.all fun (o, j) => (l.zipIdx.take j).all fun (p, i) =>
    (b.getD j 0).testBit i || ((match p.dst with | some d => !(o.namesF ops).contains d | none => true) && (match o.dst with | some d => !(p.namesF ops).contains d | none => true))) &&
  (l.all fun o => match o.op with | .select .. => false | .defer _ => false | _ => true)

/-- one operation, wherever it stands: the value v, and the world as W allows -/
def flowAt (P : Program) (ops : Array Oper) (W : World → Prop) (o : Oper) (v : Value) (a : Act) : Prop :=
  if Region.wanted o (yielded ops a.tmps) then ∀ w, W w → ∀ K : Act → World → Prop, (∀ w', W w' → K (a.put o.dst v) w') → o.wp P a w K (fun _ _ _ => False) else v = undef

def flow (P : Program) (ops : Array Oper) (W : World → Prop) (R : Act → Prop) : List Oper → Act → Prop
  | [], a => R a
  | o :: rest, a => ∃ v, flowAt P ops W o v a ∧ flow P ops W R rest (a.put o.dst v)

theorem flowAt_yes {P : Program} {ops : Array Oper} {W : World → Prop} {o : Oper} {v : Value} {a : Act} (hw : Region.wanted o (yielded ops a.tmps) = true)
    (h : ∀ w, W w → ∀ K : Act → World → Prop, (∀ w', W w' → K (a.put o.dst v) w') → o.wp P a w K (fun _ _ _ => False)) : flowAt P ops W o v a := by
  unfold flowAt; rw [if_pos hw]; exact h
theorem flowAt_no {P : Program} {ops : Array Oper} {W : World → Prop} {o : Oper} {a : Act} (hw : Region.wanted o (yielded ops a.tmps) = false) : flowAt P ops W o undef a := by
  unfold flowAt; rw [if_neg (by simp [hw])]
theorem flow_yes {P : Program} {ops : Array Oper} {W : World → Prop} {R : Act → Prop} {o : Oper} {rest : List Oper} {a : Act} {v : Value} (hw : Region.wanted o (yielded ops a.tmps) = true)
    (h : ∀ w, W w → ∀ K : Act → World → Prop, (∀ w', W w' → K (a.put o.dst v) w') → o.wp P a w K (fun _ _ _ => False)) (k : flow P ops W R rest (a.put o.dst v)) :
    flow P ops W R (o :: rest) a := ⟨v, flowAt_yes hw h, k⟩
theorem flow_no {P : Program} {ops : Array Oper} {W : World → Prop} {R : Act → Prop} {o : Oper} {rest : List Oper} {a : Act} (hw : Region.wanted o (yielded ops a.tmps) = false)
    (k : flow P ops W R rest (a.put o.dst undef)) : flow P ops W R (o :: rest) a := ⟨undef, flowAt_no hw, k⟩
theorem flow_nil {P : Program} {ops : Array Oper} {W : World → Prop} {R : Act → Prop} {a : Act} (h : R a) : flow P ops W R [] a := h
namespace Flow
section
variable {P : Program} {ops : Array Oper} {W : World → Prop}

/-- the frame in the text's order, i operations on -/
def actAt (l : List Oper) (vs : Nat → Value) (a : Act) : Nat → Act
  | 0 => a
  | i + 1 => match l[i]? with
    | some o => (actAt l vs a i).put o.dst (vs i)
    | none => actAt l vs a i

/-- the frame when just the listed ones have run -/
def actOf (l : List Oper) (vs : Nat → Value) (a : Act) (S : Nat → Bool) : Nat → Act
  | 0 => a
  | i + 1 => match l[i]? with
    | some o => if S i then (actOf l vs a S i).put o.dst (vs i) else actOf l vs a S i
    | none => actOf l vs a S i

theorem actOf_none (l : List Oper) (vs : Nat → Value) (a : Act) (S : Nat → Bool) : ∀ n, (∀ i, i < n → S i = false) → actOf l vs a S n = a
  | 0, _ => rfl
  | n + 1, h => by
    simp only [actOf]
    have ih := actOf_none l vs a S n (fun i hi => h i (by omega))
    split
    · rw [if_neg (by simp [h n (by omega)]), ih]
    · exact ih

theorem actOf_all (l : List Oper) (vs : Nat → Value) (a : Act) (S : Nat → Bool) : ∀ n, (∀ i, i < n → i < l.length → S i = true) → actOf l vs a S n = actAt l vs a n
  | 0, _ => rfl
  | n + 1, h => by
    simp only [actOf, actAt]
    have ih := actOf_all l vs a S n (fun i hi => h i (by omega))
    split
    · rename_i o ho
      rw [if_pos (h n (by omega) (List.getElem?_eq_some_iff.1 ho).1), ih]
    · exact ih

theorem actOf_congr (l : List Oper) (vs : Nat → Value) (a : Act) (S T : Nat → Bool) : ∀ n, (∀ i, i < n → S i = T i) → actOf l vs a S n = actOf l vs a T n
  | 0, _ => rfl
  | n + 1, h => by
    simp only [actOf]
    rw [actOf_congr l vs a S T n (fun i hi => h i (by omega)), h n (by omega)]

/-- one more is listed: its value is put, if no later one that is listed writes the same temporary. -/
theorem actOf_put (l : List Oper) (vs : Nat → Value) (a : Act) (S : Nat → Bool) (i : Nat) (o : Oper) (hi : l[i]? = some o) (hS : S i = false) : ∀ n, i < n →
    (∀ j p, i < j → l[j]? = some p → S j = true → ∀ d, o.dst = some d → p.dst ≠ some d) →
    actOf l vs a (fun k => if k = i then true else S k) n = (actOf l vs a S n).put o.dst (vs i)
  | 0, h, _ => by omega
  | n + 1, h, hd => by
    simp only [actOf]
    by_cases e : n = i
    · subst e
      rw [hi]
      simp only [if_true, hS]
      rw [if_neg (by simp)]
      rw [actOf_congr l vs a (fun k => if k = n then true else S k) S n (fun k hk => by simp [show k ≠ n by omega])]
    · have ih := actOf_put l vs a S i o hi hS n (by omega) hd
      cases hp : l[n]? with
      | none => simp only; exact ih
      | some p =>
        simp only [if_neg e]
        cases hs : S n with
        | false => simp only [Bool.false_eq_true, if_false]; exact ih
        | true =>
          simp only [if_true]
          rw [ih, Act.put_comm _ _ _ (fun d hd' => hd n p (by omega) hp hs d hd')]

/-- a temporary whose writers so far are just those that stand before i -/
theorem actOf_tmp (l : List Oper) (vs : Nat → Value) (a : Act) (S : Nat → Bool) (i : Nat) (t : Tmp)
    (h1 : ∀ j p, j < i → l[j]? = some p → p.dst = some t → S j = true) (h2 : ∀ j p, i ≤ j → l[j]? = some p → p.dst = some t → S j = false) :
    ∀ n, (actOf l vs a S n).tmps[t]? = (actAt l vs a (min n i)).tmps[t]? := by
  intro n
  induction n with
  | zero => rfl
  | succ n ih =>
    have put_ne : ∀ (b : Act) (d : Option Tmp) (v : Value), d ≠ some t → (b.put d v).tmps[t]? = b.tmps[t]? := by
      intro b d v hd
      cases d with
      | none => rfl
      | some d => simp only [Act.put]; rw [Array.getElem?_setIfInBounds_ne (fun e => hd (by rw [e]))]
    have sz : ∀ (b : Act) (d : Option Tmp) (v : Value), (b.put d v).tmps.size = b.tmps.size := by
      intro b d v; cases d <;> simp [Act.put]
    have szO : ∀ n, (actOf l vs a S n).tmps.size = a.tmps.size := by
      intro n; induction n with
      | zero => rfl
      | succ n ih => simp only [actOf]; split <;> (try split) <;> simp [sz, ih]
    have szA : ∀ n, (actAt l vs a n).tmps.size = a.tmps.size := by
      intro n; induction n with
      | zero => rfl
      | succ n ih => simp only [actAt]; split <;> simp [sz, ih]
    have put_eq : ∀ (b c : Act) (v : Value), b.tmps.size = c.tmps.size → (b.put (some t) v).tmps[t]? = (c.put (some t) v).tmps[t]? := by
      intro b c v hbc
      simp [Act.put, Array.getElem?_setIfInBounds, hbc]
    simp only [actOf]
    by_cases hni : n < i
    · rw [show min (n + 1) i = n + 1 by omega]
      rw [show min n i = n by omega] at ih
      simp only [actAt]
      cases hp : l[n]? with
      | none => simp only; exact ih
      | some p =>
        simp only
        by_cases hd : p.dst = some t
        · rw [if_pos (h1 n p hni hp hd), hd]
          exact put_eq _ _ _ (by rw [szO, szA])
        · rw [put_ne _ _ _ hd]
          split
          · rw [put_ne _ _ _ hd]; exact ih
          · exact ih
    · rw [show min (n + 1) i = i by omega]
      rw [show min n i = i by omega] at ih
      cases hp : l[n]? with
      | none => simp only; exact ih
      | some p =>
        simp only
        by_cases hd : p.dst = some t
        · rw [if_neg (by simp [h2 n p (by omega) hp hd])]; exact ih
        · split
          · rw [put_ne _ _ _ hd]; exact ih
          · exact ih

/-- what flow says, operation by operation -/
theorem flow_out {R : Act → Prop} : ∀ (l : List Oper) (a : Act), flow P ops W R l a →
    ∃ vs : Nat → Value, (∀ i o, l[i]? = some o → flowAt P ops W o (vs i) (actAt l vs a i)) ∧ R (actAt l vs a l.length)
  | [], a, h => ⟨fun _ => undef, by simp, h⟩
  | o :: rest, a, ⟨v, h, k⟩ => by
    obtain ⟨vs, h1, h2⟩ := flow_out rest (a.put o.dst v) k
    have key : ∀ n, actAt (o :: rest) (fun | 0 => v | i + 1 => vs i) a (n + 1) = actAt rest vs (a.put o.dst v) n := by
      intro n
      induction n with
      | zero => rfl
      | succ n ih =>
        rw [actAt, ih]
        simp only [List.getElem?_cons_succ, actAt]
    refine ⟨fun | 0 => v | i + 1 => vs i, ?_, ?_⟩
    · intro i p hp
      cases i with
      | zero => simp only [List.getElem?_cons_zero, Option.some.injEq] at hp; subst hp; exact h
      | succ i => rw [key]; exact h1 i p (by simpa using hp)
    · rw [List.length_cons, key]; exact h2

/-- what flowOk says -/
theorem ok_back (h : flowOk ops = true) {j : Nat} {o : Oper} (hj : ops[j]? = some o) : ∀ e ∈ o.after, Region.binds .any e = true → e.on < j := by
  unfold flowOk at h
  simp only [Bool.and_eq_true] at h
  have h1 := h.1.1.1
  rw [List.all_eq_true] at h1
  have hm : (o, j) ∈ ops.toList.zipIdx := by rw [List.mem_zipIdx_iff_getElem?]; simpa using hj
  have := h1 _ hm
  simp only [Array.all_eq_true_iff_forall_mem, Bool.or_eq_true, Bool.not_eq_true', decide_eq_true_eq] at this
  intro e he hb
  rcases this e he with g | g
  · rw [hb] at g; cases g
  · exact g

theorem ok_before (h : flowOk ops = true) {S : Nat → Bool} (hS : ∀ j o, ops[j]? = some o → S j = true → ∀ e ∈ o.after, Region.binds .any e = true → S e.on = true) :
    ∀ (j i : Nat), i < j → j < ops.size → ((Region.before ops).getD j 0).testBit i = true → S j = true → S i = true := by
  have hb := @ok_back ops h
  unfold flowOk at h
  simp only [Bool.and_eq_true] at h
  have h1 := h.1.1.2
  rw [List.all_eq_true] at h1
  intro j
  induction j using Nat.strongRecOn with
  | _ j ih =>
    intro i hij hj hbit hSj
    have ho : ops[j]? = some ops[j] := Array.getElem?_eq_getElem hj
    have hm : (ops[j], j) ∈ ops.toList.zipIdx := by rw [List.mem_zipIdx_iff_getElem?]; simp [hj]
    have h2 := h1 _ hm
    simp only [List.all_eq_true, List.mem_range] at h2
    have h3 := h2 i hij
    simp only [Bool.or_eq_true, Bool.not_eq_true', hbit] at h3
    rcases h3 with h3 | h3
    · cases h3
    · rw [Array.any_eq_true'] at h3
      obtain ⟨e, he, h4⟩ := h3
      simp only [Bool.and_eq_true, Bool.or_eq_true, beq_iff_eq] at h4
      obtain ⟨h5, h6⟩ := h4
      have hlt := hb ho e he h5
      have hSe := hS j _ ho hSj e he h5
      rcases h6 with h6 | ⟨h6, h7⟩
      · rw [← h6]; exact hSe
      · exact ih e.on hlt i (of_decide_eq_true h6) (by omega) h7 hSe

theorem ok_names (h : flowOk ops = true) {i j : Nat} {p o : Oper} (hij : i < j) (hi : ops[i]? = some p) (hj : ops[j]? = some o) :
    ((Region.before ops).getD j 0).testBit i = true ∨ ((∀ d, p.dst = some d → d ∉ o.namesF ops) ∧ (∀ d, o.dst = some d → d ∉ p.namesF ops)) := by
  unfold flowOk at h
  simp only [Bool.and_eq_true] at h
  have h1 := h.1.2
  rw [List.all_eq_true] at h1
  have hm : (o, j) ∈ ops.toList.zipIdx := by rw [List.mem_zipIdx_iff_getElem?]; simpa using hj
  have h2 := h1 _ hm
  rw [List.all_eq_true] at h2
  have hm2 : (p, i) ∈ ops.toList.zipIdx.take j := by
    rw [List.mem_take_iff_getElem]
    have hl : i < ops.size := (Array.getElem?_eq_some_iff.1 hi).1
    have hl2 : j < ops.size := (Array.getElem?_eq_some_iff.1 hj).1
    refine ⟨i, by simp; omega, ?_⟩
    have := (Array.getElem?_eq_some_iff.1 hi).2
    simp [this]
  have h3 := h2 _ hm2
  simp only [Bool.or_eq_true, Bool.and_eq_true] at h3
  rcases h3 with h3 | ⟨h3, h4⟩
  · exact .inl h3
  · refine .inr ⟨fun d hd => ?_, fun d hd => ?_⟩
    · rw [hd] at h3; simpa using h3
    · rw [hd] at h4; simpa using h4

theorem ok_sel (h : flowOk ops = true) {i : Nat} {o : Oper} (hi : ops[i]? = some o) : ∀ cs b, o.op ≠ .select cs b := by
  unfold flowOk at h
  simp only [Bool.and_eq_true] at h
  have h1 := h.2
  rw [List.all_eq_true] at h1
  have h2 := h1 o (by rw [Array.mem_toList_iff]; exact Array.mem_of_getElem? hi)
  intro cs b e
  rw [e] at h2
  cases h2

theorem wanted_same {o : Oper} {a b : Act} (h : ∀ t, t ∈ o.looksAt ops → a.tmps[t]? = b.tmps[t]?) :
    Region.wanted o (yielded ops a.tmps) = Region.wanted o (yielded ops b.tmps) := by
  unfold Region.wanted
  cases hg : o.guard with
  | none => rfl
  | some gw =>
    obtain ⟨g, want⟩ := gw
    have hy : yielded ops a.tmps g = yielded ops b.tmps g := by
      unfold yielded
      cases ht : (ops[g]?).bind (·.dst) with
      | none => rfl
      | some t =>
        have := h t (by simp [Oper.looksAt, hg, ht])
        simp [this]
    simp only [hy]

theorem exec_same {o : Oper} {a b : Act} (hs : ∀ cs b, o.op ≠ .select cs b) (h : ∀ t, t ∈ o.looksAt ops → a.tmps[t]? = b.tmps[t]?) : execOp a.eval o = execOp b.eval o := by
  refine execOp_congr o hs fun x hx => ?_
  cases x with
  | tmp t =>
    have := h t (List.mem_append_left _ (List.mem_filterMap.2 ⟨.tmp t, by simpa using hx, rfl⟩))
    simp [Act.eval, this]
  | _ => rfl

theorem put_inj {A a : Act} {dst : Option Tmp} {u v : Value} (hs : A.tmps.size = a.tmps.size) (h : A.put dst v = A.put dst u) : a.put dst v = a.put dst u := by
  cases dst with
  | none => rfl
  | some d =>
    simp only [Act.put, Act.mk.injEq, and_true] at h ⊢
    by_cases hd : d < A.tmps.size
    · have := congrArg (fun l => l[d]?) h
      simp [hd] at this
      rw [this]
    · have hd' : a.tmps.size ≤ d := by rw [hs] at hd; exact Nat.le_of_not_lt hd
      simp [Array.setIfInBounds_eq_of_size_le hd']

/-- one operation, taken over to another frame -/
theorem flowAt_over {Q : Exit → Act → World → Prop} {o : Oper} {v : Value} {A a : Act} {i : Nat} {w : World} (hi : ops[i]? = some o) (h : flowAt P ops W o v A)
    (hs : ∀ cs b, o.op ≠ .select cs b) (hz : A.tmps.size = a.tmps.size) (hn : ∀ t, t ∈ o.looksAt ops → a.tmps[t]? = A.tmps[t]?) (hw : W w) {K : Act → World → Prop}
    (hK : ∀ w', W w' → K (a.put o.dst v) w') : wpOp P ops Q i K a w := by
  unfold wpOp
  simp only [hi]
  rw [wanted_same hn]
  unfold flowAt at h
  split
  · rename_i hwn
    rw [if_pos hwn] at h
    refine .inl ?_
    have h1 := h w hw (fun x w'' => (∀ u, x = A.put o.dst u → K (a.put o.dst u) w'') ∧ x.defers = A.defers) (fun w' hw' => ⟨fun u hu => by rw [← put_inj hz hu]; exact hK w' hw', by cases o.dst <;> rfl⟩)
    unfold Oper.wp at h1 ⊢
    rw [exec_same hs hn]
    generalize (execOp A.eval o).run P w = r at h1
    cases r with
    | ok n w' =>
      cases n <;> simp only [Oper.upon] at h1 ⊢
      case value u => exact h1.1 u rfl
      case skip => exact h1.1 _ rfl
      case defer d =>
        have h2 := congrArg List.length h1.2
        cases hd : o.dst <;> simp [hd, Act.put] at h2
      case enter f args =>
        refine Calls.mono h1 fun e w'' he => ?_
        cases e with
        | returned u => exact he.1 u rfl
        | panicked c => exact he.elim
        | outgrown => obtain ⟨_, _, hf⟩ := he; exact hf.elim
      case row row args => exact Rows.mono h1 fun u w'' he => he.1 u rfl
    | halt x w' => cases x <;> simp only [Oper.upon] at h1 ⊢
  · rename_i hwn
    rw [if_neg hwn] at h
    subst h
    exact hK w hw

/-- how many are not yet listed -/
def left (listed : Array Bool) : Nat → Nat
  | 0 => 0
  | n + 1 => left listed n + if listed.getD n true then 0 else 1

theorem left_zero {listed : Array Bool} : ∀ n, left listed n = 0 → ∀ i, i < n → listed.getD i true = true
  | 0, _, i, hi => by omega
  | n + 1, h, i, hi => by
    simp only [left] at h
    by_cases e : i = n
    · subst e
      cases hl : listed.getD i true with
      | true => rfl
      | false => rw [hl] at h; simp at h
    · exact left_zero n (by omega) i (by omega)

theorem left_pos {listed : Array Bool} : ∀ n, 0 < left listed n → ∃ i, i < n ∧ listed.getD i true = false ∧ ∀ k, k < i → listed.getD k true = true
  | 0, h => by simp [left] at h
  | n + 1, h => by
    by_cases e : 0 < left listed n
    · obtain ⟨i, h1, h2⟩ := left_pos n e
      exact ⟨i, by omega, h2⟩
    · simp only [left] at h
      refine ⟨n, by omega, ?_, left_zero n (by omega)⟩
      cases hl : listed.getD n true with
      | false => rfl
      | true => rw [hl] at h; simp at h; omega

theorem left_set {listed : Array Bool} {i : Nat} (hi : i < listed.size) (hl : listed.getD i true = false) : ∀ n, left (listed.setIfInBounds i true) n + (if i < n then 1 else 0) = left listed n
  | 0 => by simp [left]
  | n + 1 => by
    have ih := left_set hi hl n
    simp only [left]
    by_cases e : i = n
    · subst e
      rw [hl]
      have : (listed.setIfInBounds i true).getD i true = true := by simp
      rw [this]
      simp at ih ⊢
      omega
    · rw [getD_set_ne true e]
      by_cases c : i < n
      · rw [if_pos c] at ih
        rw [if_pos (show i < n + 1 by omega)]
        omega
      · rw [if_neg c] at ih
        rw [if_neg (show ¬ i < n + 1 by omega)]
        omega

theorem getD_of {listed : Array Bool} {i : Nat} (hi : i < listed.size) : listed.getD i true = listed.getD i false := by
  simp [Array.getD, hi]

/-- THE LAW: whatever the order. -/
theorem any_of_flow {Q : Exit → Act → World → Prop} (hok : flowOk ops = true) (vs : Nat → Value) (a : Act)
    (hf : ∀ i o, ops.toList[i]? = some o → flowAt P ops W o (vs i) (actAt ops.toList vs a i)) (hq : ∀ w', W w' → Q .normal (actAt ops.toList vs a ops.size) w') :
    ∀ (fuel : Nat) (listed : Array Bool) (w : World), listed.size = ops.size → left listed ops.size = fuel →
      (∀ j o, ops[j]? = some o → listed.getD j false = true → ∀ e ∈ o.after, Region.binds .any e = true → listed.getD e.on false = true) → W w →
      wpAny P .any ops Q fuel listed (actOf ops.toList vs a (fun i => listed.getD i false) ops.size) w := by
  intro fuel
  induction fuel with
  | zero =>
    intro listed w hsz hl _ hw
    have hall := left_zero _ hl
    refine ⟨?_, ?_⟩
    · apply List.eq_nil_iff_forall_not_mem.2
      intro j hj
      rw [mem_ready] at hj
      obtain ⟨h0, o, ho, _⟩ := hj
      have := hall j (Array.getElem?_eq_some_iff.1 ho).1
      rw [h0] at this; cases this
    · rw [actOf_all _ _ _ _ _ (fun i hi _ => by rw [← getD_of (by omega)]; exact hall i hi)]
      exact hq w hw
  | succ fuel ih =>
    intro listed w hsz hl hcl hw
    refine ⟨?_, ?_⟩
    · intro hnil
      exfalso
      obtain ⟨i, h1, h2, h3⟩ := left_pos _ (show 0 < left listed ops.size by omega)
      have ho : ops[i]? = some ops[i] := Array.getElem?_eq_getElem h1
      have : i ∈ Region.ready .any ops listed := by
        rw [mem_ready]
        refine ⟨h2, _, ho, fun e he hb => ?_⟩
        have hlt := ok_back hok ho e he hb
        rw [← getD_of (by omega)]
        exact h3 _ hlt
      rw [hnil] at this
      cases this
    · intro i hi
      rw [mem_ready] at hi
      obtain ⟨h0, o, ho, hdeps⟩ := hi
      have hil : i < ops.size := (Array.getElem?_eq_some_iff.1 ho).1
      have hol : ops.toList[i]? = some o := by simpa using ho
      have h0' : listed.getD i false = false := by rw [← getD_of (by omega)]; exact h0
      -- i listed as well: still closed
      have hcl' : ∀ j p, ops[j]? = some p → (if j = i then true else listed.getD j false) = true → ∀ e ∈ p.after, Region.binds .any e = true → (if e.on = i then true else listed.getD e.on false) = true := by
        intro j p hj hs e he hb
        by_cases e1 : e.on = i
        · rw [if_pos e1]
        · rw [if_neg e1]
          by_cases e2 : j = i
          · subst e2; rw [ho] at hj; cases hj; exact hdeps e he hb
          · rw [if_neg e2] at hs; exact hcl j p hj hs e he hb
      have hb1 : ∀ j, j < i → ((Region.before ops).getD i 0).testBit j = true → listed.getD j false = true := by
        intro j hj hbit
        have := ok_before hok (S := fun k => if k = i then true else listed.getD k false) hcl' i j hj hil hbit (by simp)
        simpa [show j ≠ i by omega] using this
      have hb2 : ∀ j, i < j → j < ops.size → ((Region.before ops).getD j 0).testBit i = true → listed.getD j false = false := by
        intro j hj hjl hbit
        cases hs : listed.getD j false with
        | false => rfl
        | true =>
          have := ok_before hok (S := fun k => listed.getD k false) hcl j i hj hjl hbit hs
          rw [h0'] at this; cases this
      -- the temporaries that it reads or writes are as in the text's order
      have htmp : ∀ t, t ∈ o.namesF ops → (actOf ops.toList vs a (fun i => listed.getD i false) ops.size).tmps[t]? = (actAt ops.toList vs a i).tmps[t]? := by
        intro t ht
        rw [show actAt ops.toList vs a i = actAt ops.toList vs a (min ops.size i) by rw [show min ops.size i = i by omega]]
        refine actOf_tmp _ _ _ _ i t ?_ ?_ _
        · intro j p hj hp hd
          have hp' : ops[j]? = some p := by simpa using hp
          rcases ok_names hok hj hp' ho with hbit | ⟨hn, _⟩
          · exact hb1 j hj hbit
          · exact absurd ht (hn t hd)
        · intro j p hj hp hd
          have hp' : ops[j]? = some p := by simpa using hp
          by_cases e : j = i
          · subst e; exact h0'
          · rcases ok_names hok (show i < j by omega) ho hp' with hbit | ⟨_, hn⟩
            · exact hb2 j (by omega) (Array.getElem?_eq_some_iff.1 hp').1 hbit
            · exact absurd ht (hn t hd)
      have hlater : ∀ j p, i < j → ops.toList[j]? = some p → listed.getD j false = true → ∀ d, o.dst = some d → p.dst ≠ some d := by
        intro j p hj hp hs d hd hpd
        have hp' : ops[j]? = some p := by simpa using hp
        rcases ok_names hok hj ho hp' with hbit | ⟨hn, _⟩
        · have := hb2 j hj (Array.getElem?_eq_some_iff.1 hp').1 hbit
          rw [hs] at this; cases this
        · exact hn d hd (by simp [Oper.namesF, hpd])
      have hsame : actOf ops.toList vs a (fun k => (listed.setIfInBounds i true).getD k false) ops.size = (actOf ops.toList vs a (fun k => listed.getD k false) ops.size).put o.dst (vs i) := by
        rw [← actOf_put ops.toList vs a (fun k => listed.getD k false) i o hol h0' ops.size hil hlater]
        refine actOf_congr _ _ _ _ _ _ fun k _ => ?_
        by_cases e : k = i
        · subst e; simp [hsz, hil]
        · rw [if_neg e, getD_set_ne false (Ne.symm e)]
      have szO : ∀ (S : Nat → Bool) n, (actOf ops.toList vs a S n).tmps.size = a.tmps.size := by
        intro S n; induction n with
        | zero => rfl
        | succ n ih =>
          simp only [actOf]
          split
          · split
            · rename_i p _ _; cases hp : p.dst <;> simpa [Act.put] using ih
            · exact ih
          · exact ih
      have szA : ∀ n, (actAt ops.toList vs a n).tmps.size = a.tmps.size := by
        intro n; induction n with
        | zero => rfl
        | succ n ih =>
          simp only [actAt]
          split
          · rename_i p _; cases hp : p.dst <;> simpa [Act.put] using ih
          · exact ih
      refine flowAt_over ho (hf i o hol) (ok_sel hok ho) (by rw [szA, szO]) (fun t ht => htmp t (by simp [Oper.namesF, ht])) hw fun w' hw' => ?_
      rw [← hsame]
      refine ih _ w' (by simp [hsz]) ?_ ?_ hw'
      · have := left_set (by omega) h0 ops.size
        rw [if_pos hil] at this
        omega
      · intro j p hj hs e he hb
        by_cases e2 : j = i
        · subst e2; rw [ho] at hj; cases hj; exact getD_set_true (hdeps e he hb)
        · rw [getD_set_ne false (Ne.symm e2)] at hs
          exact getD_set_true (hcl j p hj hs e he hb)
end
end Flow

theorem wp_flow {P : Program} {id : Nat} {ops : Array Oper} {Q : Exit → Act → World → Prop} {a : Act} {w : World} (hm : P.follows .mixedOrders = true) (hok : flowOk ops = true)
    (W : World → Prop) (hW : W w.drew) (h : flow P ops W (fun a' => ∀ w', W w' → Q .normal a' w') ops.toList a) : (Code.region id ops true).wp P Q a w := by
  refine wp_region_any hm ?_
  obtain ⟨vs, h1, h2⟩ := Flow.flow_out ops.toList a h
  have h3 := Flow.any_of_flow (W := W) hok vs a h1 (by simpa using h2) ops.size (Array.replicate ops.size false) w.drew (by simp)
    (by
      have : ∀ n, n ≤ ops.size → Flow.left (Array.replicate ops.size false) n = n := by
        intro n
        induction n with
        | zero => intro _; rfl
        | succ n ih =>
          intro hn
          simp only [Flow.left]
          rw [ih (by omega)]
          have : (Array.replicate ops.size false).getD n true = false := by simp [show n < ops.size by omega]
          rw [this]; rfl
      exact this _ (Nat.le_refl _))
    (by
      intro j o _ hs
      exfalso
      by_cases hj : j < ops.size
      · simp [hj] at hs
      · simp [hj] at hs) hW
  rw [Flow.actOf_none _ _ _ _ _ (fun i hi => by simp [hi])] at h3
  exact h3

/-- at a region whose operations read, and call what makes memory of its own: below the heap's size the world is as it was. -/
theorem wp_flow_below {P : Program} {id : Nat} {ops : Array Oper} {Q : Exit → Act → World → Prop} {a : Act} {w : World} (hm : P.follows .mixedOrders = true) (hok : flowOk ops = true)
    (h : flow P ops (RowKit.Below w.heap.size w) (fun a' => ∀ w', RowKit.Below w.heap.size w w' → Q .normal a' w') ops.toList a) : (Code.region id ops true).wp P Q a w :=
  wp_flow hm hok _ (RowKit.Below.drew (RowKit.Below.refl _ _)) h
end Go

/- Ways by another algebra, from another place on: the same, turned. -/
namespace Go.Proofs.Wy

theorem allOf_map {α α' β β' : Type} (f : α → Option (List β)) (f' : α' → Option (List β')) (h : β → β') (k : α → α') :
    ∀ l : List α, (∀ a ∈ l, (f a).map (List.map h) = f' (k a)) → (allOf f l).map (List.map h) = allOf f' (l.map k)
  | [], _ => rfl
  | a :: l, H => by
    have h1 := H a (by simp)
    have h2 := allOf_map f f' h k l (fun b hb => H b (List.mem_cons_of_mem _ hb))
    simp only [allOf, List.map_cons, ← h1, ← h2]
    cases f a <;> cases allOf f l <;> simp
theorem most_map {β β' : Type} (h : β → β') (o : Option (List β)) : (most o).map (List.map h) = most (o.map (List.map h)) := by
  cases o with
  | none => rfl
  | some l =>
    simp only [most, Option.map_some, List.length_map]
    split <;> rfl

structure Hom {W V : Type} (A : Alg W) (B : Alg V) (S' S : Str) (h : W → V) (at_ c : Nat) : Prop where
  stop : ∀ w, B.stop (h w) = at_ + A.stop w
  thn : ∀ w v, h (A.thn w v) = B.thn (h w) (h v)
  still : ∀ p, h (A.still p) = B.still (at_ + p)
  mark : ∀ g p w, h (A.mark g p w) = B.mark (c + g) (at_ + p) (h w)
  dec : ∀ p, S'.dec p = S.dec (at_ + p)

def mapF {W V : Type} (h : W → V) (σ : Fs W) : Fs V := ⟨σ.out.map h, σ.counts, σ.ok⟩
theorem loopF_map {W V : Type} (h : W → V) (g : W → Fs W → Fs W) (g' : V → Fs V → Fs V) (H : ∀ v σ, mapF h (g v σ) = g' (h v) (mapF h σ)) :
    ∀ (l : List W) (σ : Fs W), (mapF h (loopF g l σ).1, (loopF g l σ).2) = loopF g' (l.map h) (mapF h σ)
  | [], σ => rfl
  | v :: r, σ => by
    simp only [loopF, List.map_cons]
    have e : (!(mapF h σ).ok || decide (500 < (mapF h σ).out.length)) = (!σ.ok || decide (500 < σ.out.length)) := by simp [mapF]
    rw [e]
    split
    · rfl
    · rw [loopF_map h g g' H r, H]
theorem finF_map {W V : Type} (h : W → V) (b : Bool) (w : W) (σ : Fs W) : mapF h (finF b w σ) = finF b (h w) (mapF h σ) := by
  unfold finF
  split <;> simp [mapF]
theorem follow_map {W V : Type} {A : Alg W} {B : Alg V} {h : W → V} {at_ : Nat} (f : Nat → Option (List W)) (f' : Nat → Option (List V)) (lo hi : Int) (lazy : Bool)
    (hs : ∀ w, B.stop (h w) = at_ + A.stop w) (ht : ∀ w v, h (A.thn w v) = B.thn (h w) (h v)) (hf : ∀ p, (f p).map (List.map h) = f' (at_ + p)) :
    ∀ (k : Nat) (w : W) (t : Nat) (σ : Fs W), mapF h (follow A f lo hi lazy k w t σ) = follow B f' lo hi lazy k (h w) t (mapF h σ)
  | 0, _, _, _ => rfl
  | k + 1, w, t, σ => by
    have ih := follow_map f f' lo hi lazy hs ht hf k
    have hl := fun (l : List W) (τ : Fs W) => loopF_map h (fun v σ => follow A f lo hi lazy k (A.thn w v) (t + 1) σ) (fun v σ => follow B f' lo hi lazy k (B.thn (h w) v) (t + 1) σ) (fun v σ => by rw [ih, ht]) l τ
    have e1 : mapF h (finF (decide (lo ≤ t) && lazy) w ⟨σ.out, bump σ.counts t, σ.ok && decide ((bump σ.counts t).getD t 0 ≤ 500)⟩) =
      finF (decide (lo ≤ t) && lazy) (h w) ⟨(mapF h σ).out, bump (mapF h σ).counts t, (mapF h σ).ok && decide ((bump (mapF h σ).counts t).getD t 0 ≤ 500)⟩ := finF_map h _ w _
    unfold follow
    simp only [hs, ← hf]
    rw [← e1]
    have ec : ((mapF h σ).ok && decide ((bump (mapF h σ).counts t).getD t 0 ≤ 500)) = (σ.ok && decide ((bump σ.counts t).getD t 0 ≤ 500)) := rfl
    rw [ec]
    generalize finF (decide (lo ≤ t) && lazy) w ⟨σ.out, bump σ.counts t, σ.ok && decide ((bump σ.counts t).getD t 0 ≤ 500)⟩ = σ1
    split
    · cases f (A.stop w) with
      | none => exact finF_map h _ w _
      | some more =>
        have := hl more σ1
        simp only [Option.map_some]
        rw [← this]
        cases (loopF (fun v σ => follow A f lo hi lazy k (A.thn w v) (t + 1) σ) more σ1).2 with
        | true => rfl
        | false => exact finF_map h _ w _
    · exact finF_map h _ w _
theorem rep_map {W V : Type} {A : Alg W} {B : Alg V} {h : W → V} {at_ : Nat} (f : Nat → Option (List W)) (f' : Nat → Option (List V)) (lo hi : Int) (lazy : Bool) (fuel p : Nat)
    (hs : ∀ w, B.stop (h w) = at_ + A.stop w) (ht : ∀ w v, h (A.thn w v) = B.thn (h w) (h v)) (hp : h (A.still p) = B.still (at_ + p)) (hf : ∀ p, (f p).map (List.map h) = f' (at_ + p)) :
    (rep A f lo hi lazy fuel p).map (List.map h) = rep B f' lo hi lazy fuel (at_ + p) := by
  have := follow_map f f' lo hi lazy hs ht hf fuel (A.still p) 0 ⟨[], [], true⟩
  unfold rep
  rw [← hp]
  have e : (⟨[], [], true⟩ : Fs V) = mapF h ⟨[], [], true⟩ := rfl
  rw [e, ← this]
  generalize follow A f lo hi lazy fuel (A.still p) 0 ⟨[], [], true⟩ = σ
  simp only [mapF, List.length_map]
  split <;> rfl
theorem goOn_map {W V : Type} {A : Alg W} {B : Alg V} {h : W → V} {at_ : Nat} (f : Nat → Option (List W)) (f' : Nat → Option (List V))
    (hs : ∀ w, B.stop (h w) = at_ + A.stop w) (ht : ∀ w v, h (A.thn w v) = B.thn (h w) (h v)) (hf : ∀ p, (f p).map (List.map h) = f' (at_ + p)) (l : List W) :
    (goOn A f l).map (List.map h) = goOn B f' (l.map h) := by
  unfold goOn
  rw [most_map, allOf_map _ (fun v => (f' (B.stop v)).map fun m => m.map (B.thn v)) h h l]
  intro w _
  rw [hs, ← hf]
  cases f (A.stop w) with
  | none => rfl
  | some m => simp [ht]

mutual
theorem wy_map {W V : Type} {A : Alg W} {B : Alg V} {S' S : Str} {h : W → V} {at_ c : Nat} (H : Hom A B S' S h at_ c) :
    ∀ (t : Nd) (g p : Nat), (wy A S' t g p).map (List.map h) = wy B S t (c + g) (at_ + p)
  | .mk k set lo hi lazy subs, g, p => by
    unfold wy
    rw [most_map]
    congr 1
    split
    · simp [H.still]
    split
    · rw [H.dec]
      split
      · simp [H.still, Nat.add_assoc]
      · rfl
    split
    · rw [wyCat_map H subs g, List.map_cons, List.map_nil, H.still]
    split
    · exact wyRep_map H lo hi lazy subs g p
    split
    · have := wyAlt_map H subs (g + 1) p
      rw [← Nat.add_assoc] at this
      rw [← this]
      cases wyAlt A S' subs (g + 1) p with
      | none => rfl
      | some l => simp [H.mark]
    · exact wyAlt_map H subs g p
theorem wyCat_map {W V : Type} {A : Alg W} {B : Alg V} {S' S : Str} {h : W → V} {at_ c : Nat} (H : Hom A B S' S h at_ c) :
    ∀ (l : List Nd) (g : Nat) (q : List W), (wyCat A S' l g q).map (List.map h) = wyCat B S l (c + g) (q.map h)
  | [], _, _ => rfl
  | s :: r, g, q => by
    unfold wyCat
    rw [← goOn_map (fun p => wy A S' s g p) (fun p => wy B S s (c + g) p) H.stop H.thn (fun p => wy_map H s g p)]
    cases goOn A (fun p => wy A S' s g p) q with
    | none => rfl
    | some m =>
      have := wyCat_map H r (g + opened s) m
      rw [← Nat.add_assoc] at this
      exact this
theorem wyRep_map {W V : Type} {A : Alg W} {B : Alg V} {S' S : Str} {h : W → V} {at_ c : Nat} (H : Hom A B S' S h at_ c) (lo hi : Int) (lazy : Bool) :
    ∀ (l : List Nd) (g p : Nat), (wyRep A S' lo hi lazy l g p).map (List.map h) = wyRep B S lo hi lazy l (c + g) (at_ + p)
  | [], _, _ => rfl
  | s :: r, g, p => by
    unfold wyRep
    exact rep_map _ _ lo hi lazy 36 p H.stop H.thn (H.still p) (fun q => wy_map H s g q)
theorem wyAlt_map {W V : Type} {A : Alg W} {B : Alg V} {S' S : Str} {h : W → V} {at_ c : Nat} (H : Hom A B S' S h at_ c) :
    ∀ (l : List Nd) (g p : Nat), (wyAlt A S' l g p).map (List.map h) = wyAlt B S l (c + g) (at_ + p)
  | [], _, _ => rfl
  | s :: r, g, p => by
    unfold wyAlt
    have h1 := wy_map H s g p
    have h2 := wyAlt_map H r (g + opened s) p
    rw [← Nat.add_assoc] at h2
    rw [← h1, ← h2]
    cases wy A S' s g p <;> cases wyAlt A S' r (g + opened s) p <;> simp
end

/-- the ends alone -/
theorem ends_hom (G : Nat) (S : Str) : Hom (wayA G) endA S S Way.stop 0 0 :=
  ⟨fun w => (Nat.zero_add _).symm, fun _ _ => rfl, fun p => (Nat.zero_add _).symm, fun _ _ _ => rfl, fun p => by rw [Nat.zero_add]⟩
/-- from a place on, whatever the first group -/
theorem shift_hom (S' S : Str) (at_ c : Nat) (h : ∀ p, S'.dec p = S.dec (at_ + p)) : Hom endA endA S' S (at_ + ·) at_ c :=
  ⟨fun _ => rfl, fun _ _ => rfl, fun _ => rfl, fun _ _ _ => rfl, h⟩
theorem ways_ends (S : Str) (t : Nd) (G g p : Nat) : (wy (wayA G) S t g p).map (List.map Way.stop) = wy endA S t g p := by
  have := wy_map (ends_hom G S) t g p
  rwa [Nat.zero_add, Nat.zero_add] at this
theorem ends_any (S : Str) (t : Nd) (g p : Nat) : wy endA S t g p = ends S t p := by
  have := wy_map (shift_hom S S 0 g (fun p => by rw [Nat.zero_add])) t 0 p
  unfold ends
  rw [Nat.add_zero, Nat.zero_add] at this
  rw [← this]
  cases wy endA S t 0 p with
  | none => rfl
  | some l => simp
end Go.Proofs.Wy

/- What the laws ask of ways: alternatives, sequences, groups. -/
namespace Go.Proofs.Wy

theorem most_len {α : Type} {o : Option (List α)} {l : List α} (h : most o = some l) : l.length ≤ 500 ∧ o = some l := by
  cases o with
  | none => cases h
  | some m =>
    simp only [most] at h
    split at h
    · cases h; exact ⟨by assumption, rfl⟩
    · cases h
theorem most_some {α : Type} {l : List α} (h : l.length ≤ 500) : most (some l) = some l := by simp [most, h]
theorem wy_len {W : Type} {A : Alg W} {S : Str} {t : Nd} {g p : Nat} {l : List W} (h : wy A S t g p = some l) : l.length ≤ 500 := by
  cases t
  rw [wy] at h
  exact (most_len h).1
theorem endA_thn (w : Nat) (m : List Nat) : m.map (endA.thn w) = m := by
  show m.map (fun v => v) = m
  exact List.map_id' m
theorem goOn_end (f : Nat → Option (List Nat)) (l : List Nat) : goOn endA f l = most (allOf f l) := by
  unfold goOn
  congr 1
  congr 1
  funext w
  show (f w).map (fun m => m.map (endA.thn w)) = f w
  simp only [endA_thn]
  cases f w <;> rfl
theorem cat_end (S : Str) : ∀ (l : List Nd) (g : Nat) (q : List Nat), wyCat endA S l g q = l.foldl (fun o s => o.bind fun m => most (allOf (ends S s) m)) (some q)
  | [], _, _ => rfl
  | s :: r, g, q => by
    have e : (fun p => wy endA S s g p) = ends S s := funext fun p => ends_any S s g p
    rw [wyCat, e, goOn_end, List.foldl_cons, Option.bind_some]
    cases most (allOf (ends S s) q) with
    | none =>
      have hn : ∀ r : List Nd, r.foldl (fun (o : Option (List Nat)) s => o.bind fun m => most (allOf (ends S s) m)) none = none := fun r => by
        induction r with
        | nil => rfl
        | cons a r ih => rw [List.foldl_cons]; exact ih
      exact (hn r).symm
    | some m => exact cat_end S r _ m
theorem alt_end (S : Str) : ∀ (l : List Nd) (g p : Nat), wyAlt endA S l g p = l.foldr (fun s o => match ends S s p, o with | some x, some y => some (x ++ y) | _, _ => none) (some [])
  | [], _, _ => rfl
  | s :: r, g, p => by
    rw [wyAlt, ends_any, alt_end S r, List.foldr_cons]
    generalize r.foldr _ _ = o
    cases ends S s p <;> cases o <;> rfl

end Go.Proofs.Wy

/- What the laws ask of repetitions. -/
namespace Go.Proofs.Wy

def allR (f : Nat → Option (List Nat)) (lo hi : Int) (lazy : Bool) : Nat → Nat → Nat → Option (List Nat)
  | 0, _, _ => none
  | k + 1, w, t =>
    let more := if hi = -1 ∨ (t : Int) < hi then (match f w with
      | some m => allOf (fun v => allR f lo hi lazy k v (t + 1)) m
      | none => none) else some []
    more.map fun m => if lazy then (if lo ≤ t then [w] else []) ++ m else m ++ (if lo ≤ t then [w] else [])

theorem allR_succ (f : Nat → Option (List Nat)) (lo hi : Int) (lazy : Bool) (k w t : Nat) : allR f lo hi lazy (k + 1) w t = (if hi = -1 ∨ (t : Int) < hi then (match f w with
      | some m => allOf (fun v => allR f lo hi lazy k v (t + 1)) m
      | none => none) else some []).map fun m => if lazy then (if lo ≤ t then [w] else []) ++ m else m ++ (if lo ≤ t then [w] else []) := rfl

theorem finF_ok {W : Type} (b : Bool) (w : W) (σ : Fs W) : (finF b w σ).ok = σ.ok := by unfold finF; split <;> rfl
theorem finF_counts {W : Type} (b : Bool) (w : W) (σ : Fs W) : (finF b w σ).counts = σ.counts := by unfold finF; split <;> rfl
theorem finF_out {W : Type} (b : Bool) (w : W) (σ : Fs W) : (finF b w σ).out = σ.out ++ if b then [w] else [] := by unfold finF; split <;> simp
def Less {W : Type} (σ τ : Fs W) : Prop := (τ.ok = true → σ.ok = true) ∧ σ.out.length ≤ τ.out.length
theorem Less.trans {W : Type} {a b c : Fs W} (h : Less a b) (k : Less b c) : Less a c := ⟨fun e => h.1 (k.1 e), Nat.le_trans h.2 k.2⟩
theorem Less.refl {W : Type} (a : Fs W) : Less a a := ⟨id, Nat.le_refl _⟩
theorem less_fin {W : Type} (b : Bool) (w : W) (σ : Fs W) : Less σ (finF b w σ) := ⟨by rw [finF_ok]; exact id, by rw [finF_out]; simp⟩
theorem loopF_less {W : Type} {g : W → Fs W → Fs W} (h : ∀ v σ, Less σ (g v σ)) : ∀ (l : List W) (σ : Fs W), Less σ (loopF g l σ).1
  | [], σ => Less.refl σ
  | v :: r, σ => by
    unfold loopF
    split
    · exact Less.refl σ
    · exact (h v σ).trans (loopF_less h r _)
theorem follow_less {W : Type} (A : Alg W) (f : Nat → Option (List W)) (lo hi : Int) (lazy : Bool) : ∀ (k : Nat) (w : W) (t : Nat) (σ : Fs W), Less σ (follow A f lo hi lazy k w t σ)
  | 0, w, t, σ => ⟨fun h => by simp [follow] at h, Nat.le_refl _⟩
  | k + 1, w, t, σ => by
    have ih := follow_less A f lo hi lazy k
    have h0 : Less σ ⟨σ.out, bump σ.counts t, σ.ok && decide ((bump σ.counts t).getD t 0 ≤ 500)⟩ := ⟨fun h => by simp only [Bool.and_eq_true] at h; exact h.1, Nat.le_refl _⟩
    have h1 := h0.trans (less_fin (decide (lo ≤ t) && lazy) w _)
    unfold follow
    simp only
    generalize finF (decide (lo ≤ t) && lazy) w ⟨σ.out, bump σ.counts t, σ.ok && decide ((bump σ.counts t).getD t 0 ≤ 500)⟩ = σ1 at h1 ⊢
    split
    · split
      · have h2 : Less σ1 { σ1 with ok := false } := ⟨fun h => by simp at h, Nat.le_refl _⟩
        exact (h1.trans h2).trans (less_fin _ _ _)
      · next more _ =>
        have h2 := loopF_less (g := fun v σ => follow A f lo hi lazy k (A.thn w v) (t + 1) σ) (fun v σ => ih _ _ σ) more σ1
        split
        · exact h1.trans h2
        · exact (h1.trans h2).trans (less_fin _ _ _)
    · exact h1.trans (less_fin _ _ _)
def Fine {W : Type} (σ : Fs W) : Prop := σ.ok = true ∧ σ.out.length ≤ 500
theorem Fine.less {W : Type} {a b : Fs W} (h : Fine b) (l : Less a b) : Fine a := ⟨l.1 h.1, Nat.le_trans l.2 h.2⟩
theorem loop_all {g : Nat → Fs Nat → Fs Nat} {r : Nat → Option (List Nat)} (hm : ∀ v σ, Less σ (g v σ)) (H : ∀ v σ, Fine (g v σ) → ∃ l, r v = some l ∧ (g v σ).out = σ.out ++ l) :
    ∀ (more : List Nat) (σ : Fs Nat), Fine (loopF g more σ).1 → (loopF g more σ).2 = false ∧ ∃ l, allOf r more = some l ∧ (loopF g more σ).1.out = σ.out ++ l
  | [], σ, _ => ⟨rfl, [], rfl, by simp [loopF]⟩
  | v :: rest, σ, h => by
    have hf := h.less (loopF_less hm (v :: rest) σ)
    have e : (!σ.ok || decide (500 < σ.out.length)) = false := by
      rw [hf.1]
      have := hf.2
      simp; omega
    unfold loopF at h ⊢
    rw [e] at h ⊢
    simp only [Bool.false_eq_true, if_false] at h ⊢
    have hg := h.less (loopF_less hm rest (g v σ))
    obtain ⟨l1, h1, h2⟩ := H v σ hg
    obtain ⟨h3, l2, h4, h5⟩ := loop_all hm H rest (g v σ) h
    refine ⟨h3, l1 ++ l2, ?_, ?_⟩
    · simp [allOf, h1, h4]
    · rw [h5, h2, List.append_assoc]
theorem follow_all (f : Nat → Option (List Nat)) (lo hi : Int) (lazy : Bool) : ∀ (k w t : Nat) (σ : Fs Nat), Fine (follow endA f lo hi lazy k w t σ) →
    ∃ l, allR f lo hi lazy k w t = some l ∧ (follow endA f lo hi lazy k w t σ).out = σ.out ++ l
  | 0, w, t, σ, h => by have := h.1; simp [follow] at this
  | k + 1, w, t, σ, h => by
    have ih := follow_all f lo hi lazy k
    unfold follow at h ⊢
    simp only at h ⊢
    have e1 : (finF (decide (lo ≤ t) && lazy) w ⟨σ.out, bump σ.counts t, σ.ok && decide ((bump σ.counts t).getD t 0 ≤ 500)⟩ : Fs Nat).out = σ.out ++ if (decide (lo ≤ t) && lazy) = true then [w] else [] := finF_out _ _ _
    have e2 : (finF (decide (lo ≤ t) && lazy) w ⟨σ.out, bump σ.counts t, σ.ok && decide ((bump σ.counts t).getD t 0 ≤ 500)⟩ : Fs Nat).ok = (σ.ok && decide ((bump σ.counts t).getD t 0 ≤ 500)) := finF_ok _ _ _
    generalize finF (decide (lo ≤ t) && lazy) w ⟨σ.out, bump σ.counts t, σ.ok && decide ((bump σ.counts t).getD t 0 ≤ 500)⟩ = σ1 at h e1 e2 ⊢
    have key : ∀ m : List Nat, (σ1.out ++ m) ++ (if (decide (lo ≤ t) && !lazy) = true then [w] else []) = σ.out ++ (if lazy then (if lo ≤ t then [w] else []) ++ m else m ++ (if lo ≤ t then [w] else [])) := fun m => by
      rw [e1]
      by_cases hl : lo ≤ (t : Int) <;> cases lazy <;> simp [hl]
    by_cases hok : (σ.ok && decide ((bump σ.counts t).getD t 0 ≤ 500)) = true
    · by_cases hhi : hi = -1 ∨ (t : Int) < hi
      · have hb : ((σ.ok && decide ((bump σ.counts t).getD t 0 ≤ 500)) && (decide (hi = -1) || decide ((t : Int) < hi))) = true := by
          rw [hok]; simpa using hhi
        rw [hb] at h ⊢
        simp only [if_true] at h ⊢
        unfold allR
        simp only [if_pos hhi]
        simp only [show endA.stop w = w from rfl] at h ⊢
        revert h
        cases f w with
        | none => intro h; have := h.1; rw [finF_ok] at this; simp at this
        | some more =>
          simp only
          intro h
          have hm : ∀ v (τ : Fs Nat), Less τ (follow endA f lo hi lazy k (endA.thn w v) (t + 1) τ) := fun v τ => follow_less endA f lo hi lazy k _ _ τ
          have hfine : Fine (loopF (fun v σ => follow endA f lo hi lazy k (endA.thn w v) (t + 1) σ) more σ1).1 := by
            revert h
            split
            · exact id
            · exact fun h => h.less (less_fin _ _ _)
          obtain ⟨h2, l, h3, h4⟩ := loop_all hm (fun v τ hf => ih v (t + 1) τ hf) more σ1 hfine
          rw [h3]
          refine ⟨_, rfl, ?_⟩
          simp only [h2, Bool.false_eq_true, if_false]
          rw [finF_out, h4]
          exact key l
      · have hb : ((σ.ok && decide ((bump σ.counts t).getD t 0 ≤ 500)) && (decide (hi = -1) || decide ((t : Int) < hi))) = false := by
          rw [hok]
          simpa using hhi
        rw [hb]
        simp only [Bool.false_eq_true, if_false]
        unfold allR
        simp only [if_neg hhi]
        refine ⟨_, rfl, ?_⟩
        rw [finF_out]
        have := key []
        rwa [List.append_nil] at this
    · exfalso
      have hb : ((σ.ok && decide ((bump σ.counts t).getD t 0 ≤ 500)) && (decide (hi = -1) || decide ((t : Int) < hi))) = false := by
        simp only [Bool.not_eq_true] at hok
        rw [hok]; rfl
      rw [hb] at h
      simp only [Bool.false_eq_true, if_false] at h
      have := (h.less (less_fin _ _ _)).1
      rw [e2] at this
      exact hok this
theorem rep_all {f : Nat → Option (List Nat)} {lo hi : Int} {lazy : Bool} {k p : Nat} {l : List Nat} (h : rep endA f lo hi lazy k p = some l) : allR f lo hi lazy k p 0 = some l := by
  unfold rep at h
  simp only at h
  split at h
  · next hc =>
    simp only [Bool.and_eq_true, decide_eq_true_eq] at hc
    obtain ⟨m, h1, h2⟩ := follow_all f lo hi lazy k p 0 ⟨[], [], true⟩ hc
    have e : follow endA f lo hi lazy k (endA.still p) 0 ⟨[], [], true⟩ = follow endA f lo hi lazy k p 0 ⟨[], [], true⟩ := rfl
    rw [e, h2] at h
    rw [h1]
    simpa using h
  · cases h
end Go.Proofs.Wy
