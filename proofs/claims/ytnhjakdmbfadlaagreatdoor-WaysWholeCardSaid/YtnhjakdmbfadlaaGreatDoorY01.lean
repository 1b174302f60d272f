/- Parts of the proof: Flow, Hom, Laws, Times, Adv. Conditions: none. -/
import Derived.Orders
import Derived.Below
import Derived.Test.YtnhjakdmbfadlaaGreatDoorY00
set_option linter.all false
/- A region whose order of evaluation is open: one walk in the order of the text serves every order, if each operation gives one value wherever it stands. Conditions: the temporaries are ordered by the region's own edges (flowOk, a closed fact). -/
namespace Go

/-- the temporaries that an operation reads or writes -/
def Oper.namesF (ops : Array Oper) (o : Oper) : List Tmp := o.looksAt ops ++ o.dst.toList

def flowOk (ops : Array Oper) : Bool :=
  let b := Region.before ops
  let l := ops.toList
  (l.zipIdx.all fun (o, j) => o.after.all fun e => !Region.binds .any e || decide (e.on < j)) &&
  (l.zipIdx.all fun (o, j) => (List.range j).all fun i => !(b.getD j 0).testBit i || o.after.any fun e => Region.binds .any e && (e.on == i || (decide (i < e.on) && (b.getD e.on 0).testBit i))) &&
  (l.zipIdx.all fun (o, j) => (l.zipIdx.take j).all fun (p, i) =>
    (b.getD j 0).testBit i || ((match p.dst with | some d => !(o.namesF ops).contains d | none => true) && (match o.dst with | some d => !(p.namesF ops).contains d | none => true))) &&
  (l.all fun o => match o.op with | .select .. => false | .defer _ => false | _ => true)

/-- one operation, wherever it stands: the value v, and the world as W allows -/
def flowAt (P : Program) (ops : Array Oper) (W : World → Prop) (o : Oper) (v : Value) (a : Act) : Prop :=
  if Region.wanted o (yielded ops a.tmps) then ∀ w, W w → ∀ K : Act → World → Prop, (∀ w', W w' → K (a.put o.dst v) w') → o.wp P a w K (fun _ _ _ => False) else v = undef

def flow (P : Program) (ops : Array Oper) (W : World → Prop) (R : Act → Prop) : List Oper → Act → Prop
  | [], a => R a
  | o :: rest, a => ∃ v, flowAt P ops W o v a ∧ flow P ops W R rest (a.put o.dst v)

theorem flowAt_yes {P : Program} {ops : Array Oper} {W : World → Prop} {o : Oper} {v : Value} {a : Act} (hw : Region.wanted o (yielded ops a.tmps) = true)
    (h : ∀ w, W w → ∀ K : Act → World → Prop, (∀ w', W w' → K (a.put o.dst v) w') → o.wp P a w K (fun _ _ _ => False)) : flowAt P ops W o v a := by
  unfold flowAt; rw [if_pos hw]; exact h
theorem flowAt_no {P : Program} {ops : Array Oper} {W : World → Prop} {o : Oper} {a : Act} (hw : Region.wanted o (yielded ops a.tmps) = false) : flowAt P ops W o undef a := by
  unfold flowAt; rw [if_neg (by simp [hw])]
theorem flow_yes {P : Program} {ops : Array Oper} {W : World → Prop} {R : Act → Prop} {o : Oper} {rest : List Oper} {a : Act} {v : Value} (hw : Region.wanted o (yielded ops a.tmps) = true)
    (h : ∀ w, W w → ∀ K : Act → World → Prop, (∀ w', W w' → K (a.put o.dst v) w') → o.wp P a w K (fun _ _ _ => False)) (k : flow P ops W R rest (a.put o.dst v)) :
    flow P ops W R (o :: rest) a := ⟨v, flowAt_yes hw h, k⟩
theorem flow_no {P : Program} {ops : Array Oper} {W : World → Prop} {R : Act → Prop} {o : Oper} {rest : List Oper} {a : Act} (hw : Region.wanted o (yielded ops a.tmps) = false)
    (k : flow P ops W R rest (a.put o.dst undef)) : flow P ops W R (o :: rest) a := ⟨undef, flowAt_no hw, k⟩
theorem flow_nil {P : Program} {ops : Array Oper} {W : World → Prop} {R : Act → Prop} {a : Act} (h : R a) : flow P ops W R [] a := h
namespace Flow
section
variable {P : Program} {ops : Array Oper} {W : World → Prop}

/-- the frame in the text's order, i operations on -/
def actAt (l : List Oper) (vs : Nat → Value) (a : Act) : Nat → Act
  | 0 => a
  | i + 1 => match l[i]? with
    | some o => (actAt l vs a i).put o.dst (vs i)
    | none => actAt l vs a i

/-- the frame when just the listed ones have run -/
def actOf (l : List Oper) (vs : Nat → Value) (a : Act) (S : Nat → Bool) : Nat → Act
  | 0 => a
  | i + 1 => match l[i]? with
    | some o => if S i then (actOf l vs a S i).put o.dst (vs i) else actOf l vs a S i
    | none => actOf l vs a S i

theorem actOf_none (l : List Oper) (vs : Nat → Value) (a : Act) (S : Nat → Bool) : ∀ n, (∀ i, i < n → S i = false) → actOf l vs a S n = a
  | 0, _ => rfl
  | n + 1, h => by
    simp only [actOf]
    have ih := actOf_none l vs a S n (fun i hi => h i (by omega))
    split
    · rw [if_neg (by simp [h n (by omega)]), ih]
    · exact ih

theorem actOf_all (l : List Oper) (vs : Nat → Value) (a : Act) (S : Nat → Bool) : ∀ n, (∀ i, i < n → i < l.length → S i = true) → actOf l vs a S n = actAt l vs a n
  | 0, _ => rfl
  | n + 1, h => by
    simp only [actOf, actAt]
    have ih := actOf_all l vs a S n (fun i hi => h i (by omega))
    split
    · rename_i o ho
      rw [if_pos (h n (by omega) (List.getElem?_eq_some_iff.1 ho).1), ih]
    · exact ih

theorem actOf_congr (l : List Oper) (vs : Nat → Value) (a : Act) (S T : Nat → Bool) : ∀ n, (∀ i, i < n → S i = T i) → actOf l vs a S n = actOf l vs a T n
  | 0, _ => rfl
  | n + 1, h => by
    simp only [actOf]
    rw [actOf_congr l vs a S T n (fun i hi => h i (by omega)), h n (by omega)]

/-- one more is listed: its value is put, if no later one that is listed writes the same temporary. -/
theorem actOf_put (l : List Oper) (vs : Nat → Value) (a : Act) (S : Nat → Bool) (i : Nat) (o : Oper) (hi : l[i]? = some o) (hS : S i = false) : ∀ n, i < n →
    (∀ j p, i < j → l[j]? = some p → S j = true → ∀ d, o.dst = some d → p.dst ≠ some d) →
    actOf l vs a (fun k => if k = i then true else S k) n = (actOf l vs a S n).put o.dst (vs i)
  | 0, h, _ => by omega
  | n + 1, h, hd => by
    simp only [actOf]
    by_cases e : n = i
    · subst e
      rw [hi]
      simp only [if_true, hS]
      rw [if_neg (by simp)]
      rw [actOf_congr l vs a (fun k => if k = n then true else S k) S n (fun k hk => by simp [show k ≠ n by omega])]
    · have ih := actOf_put l vs a S i o hi hS n (by omega) hd
      cases hp : l[n]? with
      | none => simp only; exact ih
      | some p =>
        simp only [if_neg e]
        cases hs : S n with
        | false => simp only [Bool.false_eq_true, if_false]; exact ih
        | true =>
          simp only [if_true]
          rw [ih, Act.put_comm _ _ _ (fun d hd' => hd n p (by omega) hp hs d hd')]

/-- a temporary whose writers so far are just those that stand before i -/
theorem actOf_tmp (l : List Oper) (vs : Nat → Value) (a : Act) (S : Nat → Bool) (i : Nat) (t : Tmp)
    (h1 : ∀ j p, j < i → l[j]? = some p → p.dst = some t → S j = true) (h2 : ∀ j p, i ≤ j → l[j]? = some p → p.dst = some t → S j = false) :
    ∀ n, (actOf l vs a S n).tmps[t]? = (actAt l vs a (min n i)).tmps[t]? := by
  intro n
  induction n with
  | zero => rfl
  | succ n ih =>
    have put_ne : ∀ (b : Act) (d : Option Tmp) (v : Value), d ≠ some t → (b.put d v).tmps[t]? = b.tmps[t]? := by
      intro b d v hd
      cases d with
      | none => rfl
      | some d => simp only [Act.put]; rw [Array.getElem?_setIfInBounds_ne (fun e => hd (by rw [e]))]
    have sz : ∀ (b : Act) (d : Option Tmp) (v : Value), (b.put d v).tmps.size = b.tmps.size := by
      intro b d v; cases d <;> simp [Act.put]
    have szO : ∀ n, (actOf l vs a S n).tmps.size = a.tmps.size := by
      intro n; induction n with
      | zero => rfl
      | succ n ih => simp only [actOf]; split <;> (try split) <;> simp [sz, ih]
    have szA : ∀ n, (actAt l vs a n).tmps.size = a.tmps.size := by
      intro n; induction n with
      | zero => rfl
      | succ n ih => simp only [actAt]; split <;> simp [sz, ih]
    have put_eq : ∀ (b c : Act) (v : Value), b.tmps.size = c.tmps.size → (b.put (some t) v).tmps[t]? = (c.put (some t) v).tmps[t]? := by
      intro b c v hbc
      simp [Act.put, Array.getElem?_setIfInBounds, hbc]
    simp only [actOf]
    by_cases hni : n < i
    · rw [show min (n + 1) i = n + 1 by omega]
      rw [show min n i = n by omega] at ih
      simp only [actAt]
      cases hp : l[n]? with
      | none => simp only; exact ih
      | some p =>
        simp only
        by_cases hd : p.dst = some t
        · rw [if_pos (h1 n p hni hp hd), hd]
          exact put_eq _ _ _ (by rw [szO, szA])
        · rw [put_ne _ _ _ hd]
          split
          · rw [put_ne _ _ _ hd]; exact ih
          · exact ih
    · rw [show min (n + 1) i = i by omega]
      rw [show min n i = i by omega] at ih
      cases hp : l[n]? with
      | none => simp only; exact ih
      | some p =>
        simp only
        by_cases hd : p.dst = some t
        · rw [if_neg (by simp [h2 n p (by omega) hp hd])]; exact ih
        · split
          · rw [put_ne _ _ _ hd]; exact ih
          · exact ih

/-- what flow says, operation by operation -/
theorem flow_out {R : Act → Prop} : ∀ (l : List Oper) (a : Act), flow P ops W R l a →
    ∃ vs : Nat → Value, (∀ i o, l[i]? = some o → flowAt P ops W o (vs i) (actAt l vs a i)) ∧ R (actAt l vs a l.length)
  | [], a, h => ⟨fun _ => undef, by simp, h⟩
  | o :: rest, a, ⟨v, h, k⟩ => by
    obtain ⟨vs, h1, h2⟩ := flow_out rest (a.put o.dst v) k
    have key : ∀ n, actAt (o :: rest) (fun | 0 => v | i + 1 => vs i) a (n + 1) = actAt rest vs (a.put o.dst v) n := by
      intro n
      induction n with
      | zero => rfl
      | succ n ih =>
        rw [actAt, ih]
        simp only [List.getElem?_cons_succ, actAt]
    refine ⟨fun | 0 => v | i + 1 => vs i, ?_, ?_⟩
    · intro i p hp
      cases i with
      | zero => simp only [List.getElem?_cons_zero, Option.some.injEq] at hp; subst hp; exact h
      | succ i => rw [key]; exact h1 i p (by simpa using hp)
    · rw [List.length_cons, key]; exact h2

/-- what flowOk says -/
theorem ok_back (h : flowOk ops = true) {j : Nat} {o : Oper} (hj : ops[j]? = some o) : ∀ e ∈ o.after, Region.binds .any e = true → e.on < j := by
  unfold flowOk at h
  simp only [Bool.and_eq_true] at h
  have h1 := h.1.1.1
  rw [List.all_eq_true] at h1
  have hm : (o, j) ∈ ops.toList.zipIdx := by rw [List.mem_zipIdx_iff_getElem?]; simpa using hj
  have := h1 _ hm
  simp only [Array.all_eq_true_iff_forall_mem, Bool.or_eq_true, Bool.not_eq_true', decide_eq_true_eq] at this
  intro e he hb
  rcases this e he with g | g
  · rw [hb] at g; cases g
  · exact g

theorem ok_before (h : flowOk ops = true) {S : Nat → Bool} (hS : ∀ j o, ops[j]? = some o → S j = true → ∀ e ∈ o.after, Region.binds .any e = true → S e.on = true) :
    ∀ (j i : Nat), i < j → j < ops.size → ((Region.before ops).getD j 0).testBit i = true → S j = true → S i = true := by
  have hb := @ok_back ops h
  unfold flowOk at h
  simp only [Bool.and_eq_true] at h
  have h1 := h.1.1.2
  rw [List.all_eq_true] at h1
  intro j
  induction j using Nat.strongRecOn with
  | _ j ih =>
    intro i hij hj hbit hSj
    have ho : ops[j]? = some ops[j] := Array.getElem?_eq_getElem hj
    have hm : (ops[j], j) ∈ ops.toList.zipIdx := by rw [List.mem_zipIdx_iff_getElem?]; simp [hj]
    have h2 := h1 _ hm
    simp only [List.all_eq_true, List.mem_range] at h2
    have h3 := h2 i hij
    simp only [Bool.or_eq_true, Bool.not_eq_true', hbit] at h3
    rcases h3 with h3 | h3
    · cases h3
    · rw [Array.any_eq_true'] at h3
      obtain ⟨e, he, h4⟩ := h3
      simp only [Bool.and_eq_true, Bool.or_eq_true, beq_iff_eq] at h4
      obtain ⟨h5, h6⟩ := h4
      have hlt := hb ho e he h5
      have hSe := hS j _ ho hSj e he h5
      rcases h6 with h6 | ⟨h6, h7⟩
      · rw [← h6]; exact hSe
      · exact ih e.on hlt i (of_decide_eq_true h6) (by omega) h7 hSe

theorem ok_names (h : flowOk ops = true) {i j : Nat} {p o : Oper} (hij : i < j) (hi : ops[i]? = some p) (hj : ops[j]? = some o) :
    ((Region.before ops).getD j 0).testBit i = true ∨ ((∀ d, p.dst = some d → d ∉ o.namesF ops) ∧ (∀ d, o.dst = some d → d ∉ p.namesF ops)) := by
  unfold flowOk at h
  simp only [Bool.and_eq_true] at h
  have h1 := h.1.2
  rw [List.all_eq_true] at h1
  have hm : (o, j) ∈ ops.toList.zipIdx := by rw [List.mem_zipIdx_iff_getElem?]; simpa using hj
  have h2 := h1 _ hm
  rw [List.all_eq_true] at h2
  have hm2 : (p, i) ∈ ops.toList.zipIdx.take j := by
    rw [List.mem_take_iff_getElem]
    have hl : i < ops.size := (Array.getElem?_eq_some_iff.1 hi).1
    have hl2 : j < ops.size := (Array.getElem?_eq_some_iff.1 hj).1
    refine ⟨i, by simp; omega, ?_⟩
    have := (Array.getElem?_eq_some_iff.1 hi).2
    simp [this]
  have h3 := h2 _ hm2
  simp only [Bool.or_eq_true, Bool.and_eq_true] at h3
  rcases h3 with h3 | ⟨h3, h4⟩
  · exact .inl h3
  · refine .inr ⟨fun d hd => ?_, fun d hd => ?_⟩
    · rw [hd] at h3; simpa using h3
    · rw [hd] at h4; simpa using h4

theorem ok_sel (h : flowOk ops = true) {i : Nat} {o : Oper} (hi : ops[i]? = some o) : ∀ cs b, o.op ≠ .select cs b := by
  unfold flowOk at h
  simp only [Bool.and_eq_true] at h
  have h1 := h.2
  rw [List.all_eq_true] at h1
  have h2 := h1 o (by rw [Array.mem_toList_iff]; exact Array.mem_of_getElem? hi)
  intro cs b e
  rw [e] at h2
  cases h2

theorem wanted_same {o : Oper} {a b : Act} (h : ∀ t, t ∈ o.looksAt ops → a.tmps[t]? = b.tmps[t]?) :
    Region.wanted o (yielded ops a.tmps) = Region.wanted o (yielded ops b.tmps) := by
  unfold Region.wanted
  cases hg : o.guard with
  | none => rfl
  | some gw =>
    obtain ⟨g, want⟩ := gw
    have hy : yielded ops a.tmps g = yielded ops b.tmps g := by
      unfold yielded
      cases ht : (ops[g]?).bind (·.dst) with
      | none => rfl
      | some t =>
        have := h t (by simp [Oper.looksAt, hg, ht])
        simp [this]
    simp only [hy]

theorem exec_same {o : Oper} {a b : Act} (hs : ∀ cs b, o.op ≠ .select cs b) (h : ∀ t, t ∈ o.looksAt ops → a.tmps[t]? = b.tmps[t]?) : execOp a.eval o = execOp b.eval o := by
  refine execOp_congr o hs fun x hx => ?_
  cases x with
  | tmp t =>
    have := h t (List.mem_append_left _ (List.mem_filterMap.2 ⟨.tmp t, by simpa using hx, rfl⟩))
    simp [Act.eval, this]
  | _ => rfl

theorem put_inj {A a : Act} {dst : Option Tmp} {u v : Value} (hs : A.tmps.size = a.tmps.size) (h : A.put dst v = A.put dst u) : a.put dst v = a.put dst u := by
  cases dst with
  | none => rfl
  | some d =>
    simp only [Act.put, Act.mk.injEq, and_true] at h ⊢
    by_cases hd : d < A.tmps.size
    · have := congrArg (fun l => l[d]?) h
      simp [hd] at this
      rw [this]
    · have hd' : a.tmps.size ≤ d := by rw [hs] at hd; exact Nat.le_of_not_lt hd
      simp [Array.setIfInBounds_eq_of_size_le hd']

/-- one operation, taken over to another frame -/
theorem flowAt_over {Q : Exit → Act → World → Prop} {o : Oper} {v : Value} {A a : Act} {i : Nat} {w : World} (hi : ops[i]? = some o) (h : flowAt P ops W o v A)
    (hs : ∀ cs b, o.op ≠ .select cs b) (hz : A.tmps.size = a.tmps.size) (hn : ∀ t, t ∈ o.looksAt ops → a.tmps[t]? = A.tmps[t]?) (hw : W w) {K : Act → World → Prop}
    (hK : ∀ w', W w' → K (a.put o.dst v) w') : wpOp P ops Q i K a w := by
  unfold wpOp
  simp only [hi]
  rw [wanted_same hn]
  unfold flowAt at h
  split
  · rename_i hwn
    rw [if_pos hwn] at h
    refine .inl ?_
    have h1 := h w hw (fun x w'' => (∀ u, x = A.put o.dst u → K (a.put o.dst u) w'') ∧ x.defers = A.defers) (fun w' hw' => ⟨fun u hu => by rw [← put_inj hz hu]; exact hK w' hw', by cases o.dst <;> rfl⟩)
    unfold Oper.wp at h1 ⊢
    rw [exec_same hs hn]
    generalize (execOp A.eval o).run P w = r at h1
    cases r with
    | ok n w' =>
      cases n <;> simp only [Oper.upon] at h1 ⊢
      case value u => exact h1.1 u rfl
      case skip => exact h1.1 _ rfl
      case defer d =>
        have h2 := congrArg List.length h1.2
        cases hd : o.dst <;> simp [hd, Act.put] at h2
      case enter f args =>
        refine Calls.mono h1 fun e w'' he => ?_
        cases e with
        | returned u => exact he.1 u rfl
        | panicked c => exact he.elim
        | outgrown => obtain ⟨_, _, hf⟩ := he; exact hf.elim
      case row row args => exact Rows.mono h1 fun u w'' he => he.1 u rfl
    | halt x w' => cases x <;> simp only [Oper.upon] at h1 ⊢
  · rename_i hwn
    rw [if_neg hwn] at h
    subst h
    exact hK w hw

/-- how many are not yet listed -/
def left (listed : Array Bool) : Nat → Nat
  | 0 => 0
  | n + 1 => left listed n + if listed.getD n true then 0 else 1

theorem left_zero {listed : Array Bool} : ∀ n, left listed n = 0 → ∀ i, i < n → listed.getD i true = true
  | 0, _, i, hi => by omega
  | n + 1, h, i, hi => by
    simp only [left] at h
    by_cases e : i = n
    · subst e
      cases hl : listed.getD i true with
      | true => rfl
      | false => rw [hl] at h; simp at h
    · exact left_zero n (by omega) i (by omega)

theorem left_pos {listed : Array Bool} : ∀ n, 0 < left listed n → ∃ i, i < n ∧ listed.getD i true = false ∧ ∀ k, k < i → listed.getD k true = true
  | 0, h => by simp [left] at h
  | n + 1, h => by
    by_cases e : 0 < left listed n
    · obtain ⟨i, h1, h2⟩ := left_pos n e
      exact ⟨i, by omega, h2⟩
    · simp only [left] at h
      refine ⟨n, by omega, ?_, left_zero n (by omega)⟩
      cases hl : listed.getD n true with
      | false => rfl
      | true => rw [hl] at h; simp at h; omega

theorem left_set {listed : Array Bool} {i : Nat} (hi : i < listed.size) (hl : listed.getD i true = false) : ∀ n, left (listed.setIfInBounds i true) n + (if i < n then 1 else 0) = left listed n
  | 0 => by simp [left]
  | n + 1 => by
    have ih := left_set hi hl n
    simp only [left]
    by_cases e : i = n
    · subst e
      rw [hl]
      have : (listed.setIfInBounds i true).getD i true = true := by simp
      rw [this]
      simp at ih ⊢
      omega
    · rw [getD_set_ne true e]
      by_cases c : i < n
      · rw [if_pos c] at ih
        rw [if_pos (show i < n + 1 by omega)]
        omega
      · rw [if_neg c] at ih
        rw [if_neg (show ¬ i < n + 1 by omega)]
        omega

theorem getD_of {listed : Array Bool} {i : Nat} (hi : i < listed.size) : listed.getD i true = listed.getD i false := by
  simp [Array.getD, hi]

/-- THE LAW: whatever the order. -/
theorem any_of_flow {Q : Exit → Act → World → Prop} (hok : flowOk ops = true) (vs : Nat → Value) (a : Act)
    (hf : ∀ i o, ops.toList[i]? = some o → flowAt P ops W o (vs i) (actAt ops.toList vs a i)) (hq : ∀ w', W w' → Q .normal (actAt ops.toList vs a ops.size) w') :
    ∀ (fuel : Nat) (listed : Array Bool) (w : World), listed.size = ops.size → left listed ops.size = fuel →
      (∀ j o, ops[j]? = some o → listed.getD j false = true → ∀ e ∈ o.after, Region.binds .any e = true → listed.getD e.on false = true) → W w →
      wpAny P .any ops Q fuel listed (actOf ops.toList vs a (fun i => listed.getD i false) ops.size) w := by
  intro fuel
  induction fuel with
  | zero =>
    intro listed w hsz hl _ hw
    have hall := left_zero _ hl
    refine ⟨?_, ?_⟩
    · apply List.eq_nil_iff_forall_not_mem.2
      intro j hj
      rw [mem_ready] at hj
      obtain ⟨h0, o, ho, _⟩ := hj
      have := hall j (Array.getElem?_eq_some_iff.1 ho).1
      rw [h0] at this; cases this
    · rw [actOf_all _ _ _ _ _ (fun i hi _ => by rw [← getD_of (by omega)]; exact hall i hi)]
      exact hq w hw
  | succ fuel ih =>
    intro listed w hsz hl hcl hw
    refine ⟨?_, ?_⟩
    · intro hnil
      exfalso
      obtain ⟨i, h1, h2, h3⟩ := left_pos _ (show 0 < left listed ops.size by omega)
      have ho : ops[i]? = some ops[i] := Array.getElem?_eq_getElem h1
      have : i ∈ Region.ready .any ops listed := by
        rw [mem_ready]
        refine ⟨h2, _, ho, fun e he hb => ?_⟩
        have hlt := ok_back hok ho e he hb
        rw [← getD_of (by omega)]
        exact h3 _ hlt
      rw [hnil] at this
      cases this
    · intro i hi
      rw [mem_ready] at hi
      obtain ⟨h0, o, ho, hdeps⟩ := hi
      have hil : i < ops.size := (Array.getElem?_eq_some_iff.1 ho).1
      have hol : ops.toList[i]? = some o := by simpa using ho
      have h0' : listed.getD i false = false := by rw [← getD_of (by omega)]; exact h0
      -- i listed as well: still closed
      have hcl' : ∀ j p, ops[j]? = some p → (if j = i then true else listed.getD j false) = true → ∀ e ∈ p.after, Region.binds .any e = true → (if e.on = i then true else listed.getD e.on false) = true := by
        intro j p hj hs e he hb
        by_cases e1 : e.on = i
        · rw [if_pos e1]
        · rw [if_neg e1]
          by_cases e2 : j = i
          · subst e2; rw [ho] at hj; cases hj; exact hdeps e he hb
          · rw [if_neg e2] at hs; exact hcl j p hj hs e he hb
      have hb1 : ∀ j, j < i → ((Region.before ops).getD i 0).testBit j = true → listed.getD j false = true := by
        intro j hj hbit
        have := ok_before hok (S := fun k => if k = i then true else listed.getD k false) hcl' i j hj hil hbit (by simp)
        simpa [show j ≠ i by omega] using this
      have hb2 : ∀ j, i < j → j < ops.size → ((Region.before ops).getD j 0).testBit i = true → listed.getD j false = false := by
        intro j hj hjl hbit
        cases hs : listed.getD j false with
        | false => rfl
        | true =>
          have := ok_before hok (S := fun k => listed.getD k false) hcl j i hj hjl hbit hs
          rw [h0'] at this; cases this
      -- the temporaries that it reads or writes are as in the text's order
      have htmp : ∀ t, t ∈ o.namesF ops → (actOf ops.toList vs a (fun i => listed.getD i false) ops.size).tmps[t]? = (actAt ops.toList vs a i).tmps[t]? := by
        intro t ht
        rw [show actAt ops.toList vs a i = actAt ops.toList vs a (min ops.size i) by rw [show min ops.size i = i by omega]]
        refine actOf_tmp _ _ _ _ i t ?_ ?_ _
        · intro j p hj hp hd
          have hp' : ops[j]? = some p := by simpa using hp
          rcases ok_names hok hj hp' ho with hbit | ⟨hn, _⟩
          · exact hb1 j hj hbit
          · exact absurd ht (hn t hd)
        · intro j p hj hp hd
          have hp' : ops[j]? = some p := by simpa using hp
          by_cases e : j = i
          · subst e; exact h0'
          · rcases ok_names hok (show i < j by omega) ho hp' with hbit | ⟨_, hn⟩
            · exact hb2 j (by omega) (Array.getElem?_eq_some_iff.1 hp').1 hbit
            · exact absurd ht (hn t hd)
      have hlater : ∀ j p, i < j → ops.toList[j]? = some p → listed.getD j false = true → ∀ d, o.dst = some d → p.dst ≠ some d := by
        intro j p hj hp hs d hd hpd
        have hp' : ops[j]? = some p := by simpa using hp
        rcases ok_names hok hj ho hp' with hbit | ⟨hn, _⟩
        · have := hb2 j hj (Array.getElem?_eq_some_iff.1 hp').1 hbit
          rw [hs] at this; cases this
        · exact hn d hd (by simp [Oper.namesF, hpd])
      have hsame : actOf ops.toList vs a (fun k => (listed.setIfInBounds i true).getD k false) ops.size = (actOf ops.toList vs a (fun k => listed.getD k false) ops.size).put o.dst (vs i) := by
        rw [← actOf_put ops.toList vs a (fun k => listed.getD k false) i o hol h0' ops.size hil hlater]
        refine actOf_congr _ _ _ _ _ _ fun k _ => ?_
        by_cases e : k = i
        · subst e; simp [hsz, hil]
        · rw [if_neg e, getD_set_ne false (Ne.symm e)]
      have szO : ∀ (S : Nat → Bool) n, (actOf ops.toList vs a S n).tmps.size = a.tmps.size := by
        intro S n; induction n with
        | zero => rfl
        | succ n ih =>
          simp only [actOf]
          split
          · split
            · rename_i p _ _; cases hp : p.dst <;> simpa [Act.put] using ih
            · exact ih
          · exact ih
      have szA : ∀ n, (actAt ops.toList vs a n).tmps.size = a.tmps.size := by
        intro n; induction n with
        | zero => rfl
        | succ n ih =>
          simp only [actAt]
          split
          · rename_i p _; cases hp : p.dst <;> simpa [Act.put] using ih
          · exact ih
      refine flowAt_over ho (hf i o hol) (ok_sel hok ho) (by rw [szA, szO]) (fun t ht => htmp t (by simp [Oper.namesF, ht])) hw fun w' hw' => ?_
      rw [← hsame]
      refine ih _ w' (by simp [hsz]) ?_ ?_ hw'
      · have := left_set (by omega) h0 ops.size
        rw [if_pos hil] at this
        omega
      · intro j p hj hs e he hb
        by_cases e2 : j = i
        · subst e2; rw [ho] at hj; cases hj; exact getD_set_true (hdeps e he hb)
        · rw [getD_set_ne false (Ne.symm e2)] at hs
          exact getD_set_true (hcl j p hj hs e he hb)
end
end Flow

theorem wp_flow {P : Program} {id : Nat} {ops : Array Oper} {Q : Exit → Act → World → Prop} {a : Act} {w : World} (hm : P.follows .mixedOrders = true) (hok : flowOk ops = true)
    (W : World → Prop) (hW : W w.drew) (h : flow P ops W (fun a' => ∀ w', W w' → Q .normal a' w') ops.toList a) : (Code.region id ops true).wp P Q a w := by
  refine wp_region_any hm ?_
  obtain ⟨vs, h1, h2⟩ := Flow.flow_out ops.toList a h
  have h3 := Flow.any_of_flow (W := W) hok vs a h1 (by simpa using h2) ops.size (Array.replicate ops.size false) w.drew (by simp)
    (by
      have : ∀ n, n ≤ ops.size → Flow.left (Array.replicate ops.size false) n = n := by
        intro n
        induction n with
        | zero => intro _; rfl
        | succ n ih =>
          intro hn
          simp only [Flow.left]
          rw [ih (by omega)]
          have : (Array.replicate ops.size false).getD n true = false := by simp [show n < ops.size by omega]
          rw [this]; rfl
      exact this _ (Nat.le_refl _))
    (by
      intro j o _ hs
      exfalso
      by_cases hj : j < ops.size
      · simp [hj] at hs
      · simp [hj] at hs) hW
  rw [Flow.actOf_none _ _ _ _ _ (fun i hi => by simp [hi])] at h3
  exact h3

/-- at a region whose operations read, and call what makes memory of its own: below the heap's size the world is as it was. -/
theorem wp_flow_below {P : Program} {id : Nat} {ops : Array Oper} {Q : Exit → Act → World → Prop} {a : Act} {w : World} (hm : P.follows .mixedOrders = true) (hok : flowOk ops = true)
    (h : flow P ops (RowKit.Below w.heap.size w) (fun a' => ∀ w', RowKit.Below w.heap.size w w' → Q .normal a' w') ops.toList a) : (Code.region id ops true).wp P Q a w :=
  wp_flow hm hok _ (RowKit.Below.drew (RowKit.Below.refl _ _)) h
end Go

/- Ways by another algebra, from another place on: the same, turned. -/
namespace Go.Proofs.Wy

theorem allOf_map {α α' β β' : Type} (f : α → Option (List β)) (f' : α' → Option (List β')) (h : β → β') (k : α → α') :
    ∀ l : List α, (∀ a ∈ l, (f a).map (List.map h) = f' (k a)) → (allOf f l).map (List.map h) = allOf f' (l.map k)
  | [], _ => rfl
  | a :: l, H => by
    have h1 := H a (by simp)
    have h2 := allOf_map f f' h k l (fun b hb => H b (List.mem_cons_of_mem _ hb))
    simp only [allOf, List.map_cons, ← h1, ← h2]
    cases f a <;> cases allOf f l <;> simp
theorem most_map {β β' : Type} (h : β → β') (o : Option (List β)) : (most o).map (List.map h) = most (o.map (List.map h)) := by
  cases o with
  | none => rfl
  | some l =>
    simp only [most, Option.map_some, List.length_map]
    split <;> rfl

structure Hom {W V : Type} (A : Alg W) (B : Alg V) (S' S : Str) (h : W → V) (at_ c : Nat) : Prop where
  stop : ∀ w, B.stop (h w) = at_ + A.stop w
  thn : ∀ w v, h (A.thn w v) = B.thn (h w) (h v)
  still : ∀ p, h (A.still p) = B.still (at_ + p)
  mark : ∀ g p w, h (A.mark g p w) = B.mark (c + g) (at_ + p) (h w)
  dec : ∀ p, S'.dec p = S.dec (at_ + p)

def mapF {W V : Type} (h : W → V) (σ : Fs W) : Fs V := ⟨σ.out.map h, σ.counts, σ.ok⟩
theorem loopF_map {W V : Type} (h : W → V) (g : W → Fs W → Fs W) (g' : V → Fs V → Fs V) (H : ∀ v σ, mapF h (g v σ) = g' (h v) (mapF h σ)) :
    ∀ (l : List W) (σ : Fs W), (mapF h (loopF g l σ).1, (loopF g l σ).2) = loopF g' (l.map h) (mapF h σ)
  | [], σ => rfl
  | v :: r, σ => by
    simp only [loopF, List.map_cons]
    have e : (!(mapF h σ).ok || decide (500 < (mapF h σ).out.length)) = (!σ.ok || decide (500 < σ.out.length)) := by simp [mapF]
    rw [e]
    split
    · rfl
    · rw [loopF_map h g g' H r, H]
theorem finF_map {W V : Type} (h : W → V) (b : Bool) (w : W) (σ : Fs W) : mapF h (finF b w σ) = finF b (h w) (mapF h σ) := by
  unfold finF
  split <;> simp [mapF]
theorem follow_map {W V : Type} {A : Alg W} {B : Alg V} {h : W → V} {at_ : Nat} (f : Nat → Option (List W)) (f' : Nat → Option (List V)) (lo hi : Int) (lazy : Bool)
    (hs : ∀ w, B.stop (h w) = at_ + A.stop w) (ht : ∀ w v, h (A.thn w v) = B.thn (h w) (h v)) (hf : ∀ p, (f p).map (List.map h) = f' (at_ + p)) :
    ∀ (k : Nat) (w : W) (t : Nat) (σ : Fs W), mapF h (follow A f lo hi lazy k w t σ) = follow B f' lo hi lazy k (h w) t (mapF h σ)
  | 0, _, _, _ => rfl
  | k + 1, w, t, σ => by
    have ih := follow_map f f' lo hi lazy hs ht hf k
    have hl := fun (l : List W) (τ : Fs W) => loopF_map h (fun v σ => follow A f lo hi lazy k (A.thn w v) (t + 1) σ) (fun v σ => follow B f' lo hi lazy k (B.thn (h w) v) (t + 1) σ) (fun v σ => by rw [ih, ht]) l τ
    have e1 : mapF h (finF (decide (lo ≤ t) && lazy) w ⟨σ.out, bump σ.counts t, σ.ok && decide ((bump σ.counts t).getD t 0 ≤ 500)⟩) =
      finF (decide (lo ≤ t) && lazy) (h w) ⟨(mapF h σ).out, bump (mapF h σ).counts t, (mapF h σ).ok && decide ((bump (mapF h σ).counts t).getD t 0 ≤ 500)⟩ := finF_map h _ w _
    unfold follow
    simp only [hs, ← hf]
    rw [← e1]
    have ec : ((mapF h σ).ok && decide ((bump (mapF h σ).counts t).getD t 0 ≤ 500)) = (σ.ok && decide ((bump σ.counts t).getD t 0 ≤ 500)) := rfl
    rw [ec]
    generalize finF (decide (lo ≤ t) && lazy) w ⟨σ.out, bump σ.counts t, σ.ok && decide ((bump σ.counts t).getD t 0 ≤ 500)⟩ = σ1
    split
    · cases f (A.stop w) with
      | none => exact finF_map h _ w _
      | some more =>
        have := hl more σ1
        simp only [Option.map_some]
        rw [← this]
        cases (loopF (fun v σ => follow A f lo hi lazy k (A.thn w v) (t + 1) σ) more σ1).2 with
        | true => rfl
        | false => exact finF_map h _ w _
    · exact finF_map h _ w _
theorem rep_map {W V : Type} {A : Alg W} {B : Alg V} {h : W → V} {at_ : Nat} (f : Nat → Option (List W)) (f' : Nat → Option (List V)) (lo hi : Int) (lazy : Bool) (fuel p : Nat)
    (hs : ∀ w, B.stop (h w) = at_ + A.stop w) (ht : ∀ w v, h (A.thn w v) = B.thn (h w) (h v)) (hp : h (A.still p) = B.still (at_ + p)) (hf : ∀ p, (f p).map (List.map h) = f' (at_ + p)) :
    (rep A f lo hi lazy fuel p).map (List.map h) = rep B f' lo hi lazy fuel (at_ + p) := by
  have := follow_map f f' lo hi lazy hs ht hf fuel (A.still p) 0 ⟨[], [], true⟩
  unfold rep
  rw [← hp]
  have e : (⟨[], [], true⟩ : Fs V) = mapF h ⟨[], [], true⟩ := rfl
  rw [e, ← this]
  generalize follow A f lo hi lazy fuel (A.still p) 0 ⟨[], [], true⟩ = σ
  simp only [mapF, List.length_map]
  split <;> rfl
theorem goOn_map {W V : Type} {A : Alg W} {B : Alg V} {h : W → V} {at_ : Nat} (f : Nat → Option (List W)) (f' : Nat → Option (List V))
    (hs : ∀ w, B.stop (h w) = at_ + A.stop w) (ht : ∀ w v, h (A.thn w v) = B.thn (h w) (h v)) (hf : ∀ p, (f p).map (List.map h) = f' (at_ + p)) (l : List W) :
    (goOn A f l).map (List.map h) = goOn B f' (l.map h) := by
  unfold goOn
  rw [most_map, allOf_map _ (fun v => (f' (B.stop v)).map fun m => m.map (B.thn v)) h h l]
  intro w _
  rw [hs, ← hf]
  cases f (A.stop w) with
  | none => rfl
  | some m => simp [ht]

mutual
theorem wy_map {W V : Type} {A : Alg W} {B : Alg V} {S' S : Str} {h : W → V} {at_ c : Nat} (H : Hom A B S' S h at_ c) :
    ∀ (t : Nd) (g p : Nat), (wy A S' t g p).map (List.map h) = wy B S t (c + g) (at_ + p)
  | .mk k set lo hi lazy subs, g, p => by
    unfold wy
    rw [most_map]
    congr 1
    split
    · simp [H.still]
    split
    · rw [H.dec]
      split
      · simp [H.still, Nat.add_assoc]
      · rfl
    split
    · rw [wyCat_map H subs g, List.map_cons, List.map_nil, H.still]
    split
    · exact wyRep_map H lo hi lazy subs g p
    split
    · have := wyAlt_map H subs (g + 1) p
      rw [← Nat.add_assoc] at this
      rw [← this]
      cases wyAlt A S' subs (g + 1) p with
      | none => rfl
      | some l => simp [H.mark]
    · exact wyAlt_map H subs g p
theorem wyCat_map {W V : Type} {A : Alg W} {B : Alg V} {S' S : Str} {h : W → V} {at_ c : Nat} (H : Hom A B S' S h at_ c) :
    ∀ (l : List Nd) (g : Nat) (q : List W), (wyCat A S' l g q).map (List.map h) = wyCat B S l (c + g) (q.map h)
  | [], _, _ => rfl
  | s :: r, g, q => by
    unfold wyCat
    rw [← goOn_map (fun p => wy A S' s g p) (fun p => wy B S s (c + g) p) H.stop H.thn (fun p => wy_map H s g p)]
    cases goOn A (fun p => wy A S' s g p) q with
    | none => rfl
    | some m =>
      have := wyCat_map H r (g + opened s) m
      rw [← Nat.add_assoc] at this
      exact this
theorem wyRep_map {W V : Type} {A : Alg W} {B : Alg V} {S' S : Str} {h : W → V} {at_ c : Nat} (H : Hom A B S' S h at_ c) (lo hi : Int) (lazy : Bool) :
    ∀ (l : List Nd) (g p : Nat), (wyRep A S' lo hi lazy l g p).map (List.map h) = wyRep B S lo hi lazy l (c + g) (at_ + p)
  | [], _, _ => rfl
  | s :: r, g, p => by
    unfold wyRep
    exact rep_map _ _ lo hi lazy 36 p H.stop H.thn (H.still p) (fun q => wy_map H s g q)
theorem wyAlt_map {W V : Type} {A : Alg W} {B : Alg V} {S' S : Str} {h : W → V} {at_ c : Nat} (H : Hom A B S' S h at_ c) :
    ∀ (l : List Nd) (g p : Nat), (wyAlt A S' l g p).map (List.map h) = wyAlt B S l (c + g) (at_ + p)
  | [], _, _ => rfl
  | s :: r, g, p => by
    unfold wyAlt
    have h1 := wy_map H s g p
    have h2 := wyAlt_map H r (g + opened s) p
    rw [← Nat.add_assoc] at h2
    rw [← h1, ← h2]
    cases wy A S' s g p <;> cases wyAlt A S' r (g + opened s) p <;> simp
end

/-- from a place on, whatever the first group -/
theorem shift_hom (S' S : Str) (at_ c : Nat) (h : ∀ p, S'.dec p = S.dec (at_ + p)) : Hom endA endA S' S (at_ + ·) at_ c :=
  ⟨fun _ => rfl, fun _ _ => rfl, fun _ => rfl, fun _ _ _ => rfl, h⟩
theorem ends_any (S : Str) (t : Nd) (g p : Nat) : wy endA S t g p = ends S t p := by
  have := wy_map (shift_hom S S 0 g (fun p => by rw [Nat.zero_add])) t 0 p
  unfold ends
  rw [Nat.add_zero, Nat.zero_add] at this
  rw [← this]
  cases wy endA S t 0 p with
  | none => rfl
  | some l => simp
end Go.Proofs.Wy

/- What the laws ask of ways: alternatives, sequences, groups. -/
namespace Go.Proofs.Wy

theorem most_len {α : Type} {o : Option (List α)} {l : List α} (h : most o = some l) : l.length ≤ 500 ∧ o = some l := by
  cases o with
  | none => cases h
  | some m =>
    simp only [most] at h
    split at h
    · cases h; exact ⟨by assumption, rfl⟩
    · cases h
theorem most_some {α : Type} {l : List α} (h : l.length ≤ 500) : most (some l) = some l := by simp [most, h]
theorem wy_len {W : Type} {A : Alg W} {S : Str} {t : Nd} {g p : Nat} {l : List W} (h : wy A S t g p = some l) : l.length ≤ 500 := by
  cases t
  rw [wy] at h
  exact (most_len h).1
end Go.Proofs.Wy

/- What the laws ask of repetitions. -/
namespace Go.Proofs.Wy

theorem finF_ok {W : Type} (b : Bool) (w : W) (σ : Fs W) : (finF b w σ).ok = σ.ok := by unfold finF; split <;> rfl
theorem finF_counts {W : Type} (b : Bool) (w : W) (σ : Fs W) : (finF b w σ).counts = σ.counts := by unfold finF; split <;> rfl
theorem finF_out {W : Type} (b : Bool) (w : W) (σ : Fs W) : (finF b w σ).out = σ.out ++ if b then [w] else [] := by unfold finF; split <;> simp
def Less {W : Type} (σ τ : Fs W) : Prop := (τ.ok = true → σ.ok = true) ∧ σ.out.length ≤ τ.out.length
theorem Less.trans {W : Type} {a b c : Fs W} (h : Less a b) (k : Less b c) : Less a c := ⟨fun e => h.1 (k.1 e), Nat.le_trans h.2 k.2⟩
theorem Less.refl {W : Type} (a : Fs W) : Less a a := ⟨id, Nat.le_refl _⟩
def Fine {W : Type} (σ : Fs W) : Prop := σ.ok = true ∧ σ.out.length ≤ 500
theorem Fine.less {W : Type} {a b : Fs W} (h : Fine b) (l : Less a b) : Fine a := ⟨l.1 h.1, Nat.le_trans l.2 h.2⟩
end Go.Proofs.Wy

/- How far ways go; what a repetition keeps; parts by number. -/
namespace Go.Proofs.Wy

structure Lawful {W : Type} (A : Alg W) : Prop where
  thn : ∀ w v, A.stop (A.thn w v) = A.stop v
  still : ∀ p, A.stop (A.still p) = p
  mark : ∀ g p w, A.stop (A.mark g p w) = A.stop w
theorem wayA_lawful (G : Nat) : Lawful (wayA G) := ⟨fun _ _ => rfl, fun _ => rfl, fun _ _ _ => rfl⟩

theorem allOf_mem {α β : Type} {f : α → Option (List β)} : ∀ {l : List α} {m : List β}, allOf f l = some m → ∀ x ∈ m, ∃ a ∈ l, ∃ n, f a = some n ∧ x ∈ n
  | [], m, h, x, hx => by simp only [allOf, Option.some.injEq] at h; subst h; simp at hx
  | a :: l, m, h, x, hx => by
    rw [allOf] at h
    split at h
    · next n k h1 h2 =>
      simp only [Option.some.injEq] at h
      subst h
      rcases List.mem_append.1 hx with hx | hx
      · exact ⟨a, by simp, n, h1, hx⟩
      · obtain ⟨b, hb, n', h3, h4⟩ := allOf_mem h2 x hx
        exact ⟨b, List.mem_cons_of_mem _ hb, n', h3, h4⟩
    · cases h
theorem goOn_mem {W : Type} {A : Alg W} {f : Nat → Option (List W)} {l m : List W} (h : goOn A f l = some m) : ∀ x ∈ m, ∃ w ∈ l, ∃ n, f (A.stop w) = some n ∧ ∃ v ∈ n, x = A.thn w v := by
  intro x hx
  have h1 := (most_len h).2
  obtain ⟨w, hw, n, hn, hxn⟩ := allOf_mem h1 x hx
  cases hf : f (A.stop w) with
  | none => rw [hf] at hn; cases hn
  | some k =>
    rw [hf] at hn
    simp only [Option.map_some, Option.some.injEq] at hn
    subst hn
    obtain ⟨v, hv, rfl⟩ := List.mem_map.1 hxn
    exact ⟨w, hw, k, hf, v, hv, rfl⟩

/-! What a repetition keeps -/
theorem loopF_inv {W : Type} {g : W → Fs W → Fs W} {J : Fs W → Prop} : ∀ {l : List W}, (∀ v ∈ l, ∀ σ, σ.ok = true → σ.out.length ≤ 500 → J σ → J (g v σ)) → ∀ {σ : Fs W}, J σ → J (loopF g l σ).1
  | [], _, σ, h => h
  | v :: r, hg, σ, h => by
    rw [loopF]
    split
    · exact h
    · next hc =>
      simp only [Bool.or_eq_true, Bool.not_eq_true', decide_eq_true_eq, not_or, Bool.not_eq_false] at hc
      exact loopF_inv (fun v hv => hg v (List.mem_cons_of_mem _ hv)) (hg v (by simp) σ hc.1 (by omega) h)
theorem follow_inv {W : Type} {A : Alg W} {f : Nat → Option (List W)} {lo hi : Int} {lazy : Bool} {I : Nat → W → Prop} {P : W → Prop}
    (step : ∀ (t : Nat) w m, I t w → f (A.stop w) = some m → ∀ v ∈ m, I (t + 1) (A.thn w v)) (fin : ∀ (t : Nat) w, lo ≤ (t : Int) → I t w → P w) :
    ∀ (k : Nat) (w : W) (t : Nat) (σ : Fs W), I t w → (∀ x ∈ σ.out, P x) → ∀ x ∈ (follow A f lo hi lazy k w t σ).out, P x
  | 0, w, t, σ, _, h => h
  | k + 1, w, t, σ, hI, h => by
    have hfin : ∀ (b : Bool) (τ : Fs W), (∀ x ∈ τ.out, P x) → ∀ x ∈ (finF (decide (lo ≤ (t : Int)) && b) w τ).out, P x := by
      intro b τ hτ x hx
      rw [finF_out] at hx
      rcases List.mem_append.1 hx with hx | hx
      · exact hτ x hx
      · split at hx
        · next hb =>
          simp only [Bool.and_eq_true, decide_eq_true_eq] at hb
          simp only [List.mem_singleton] at hx
          subst hx
          exact fin t _ hb.1 hI
        · simp at hx
    have h1 := hfin lazy ⟨σ.out, bump σ.counts t, σ.ok && decide ((bump σ.counts t).getD t 0 ≤ 500)⟩ h
    unfold follow
    simp only
    generalize finF (decide (lo ≤ (t : Int)) && lazy) w ⟨σ.out, bump σ.counts t, σ.ok && decide ((bump σ.counts t).getD t 0 ≤ 500)⟩ = σ1 at h1 ⊢
    split
    · cases hm : f (A.stop w) with
      | none => exact hfin _ _ h1
      | some more =>
        have h2 : ∀ x ∈ (loopF (fun v σ => follow A f lo hi lazy k (A.thn w v) (t + 1) σ) more σ1).1.out, P x :=
          loopF_inv (J := fun τ => ∀ x ∈ τ.out, P x) (fun v hv τ _ _ hτ => follow_inv step fin k (A.thn w v) (t + 1) τ (step t w more hI hm v hv) hτ) h1
        simp only
        split
        · exact h2
        · exact hfin _ _ h2
    · exact hfin _ _ h1
theorem bump_length (c : List Nat) (t : Nat) : (bump c t).length = if c.length = t then c.length + 1 else c.length := by
  unfold bump
  split <;> simp
theorem bump_get {c : List Nat} {t : Nat} (ht : t ≤ c.length) (i : Nat) : (bump c t).getD i 0 = c.getD i 0 + if i = t then 1 else 0 := by
  unfold bump
  simp only [List.getD_eq_getElem?_getD, List.getElem?_modify]
  by_cases h : c.length = t
  · rw [if_pos h]
    by_cases hi : i = t
    · subst hi
      simp [← h]
    · have hi' : ¬ t = i := fun e => hi e.symm
      simp only [hi', hi, if_false, Nat.add_zero, id_map']
      by_cases hl : i < c.length
      · rw [List.getElem?_append_left hl]
        try (cases c[i]? <;> rfl)
      · have h0 : c[i]? = none := List.getElem?_eq_none (by omega)
        have h1 : (c ++ [0])[i]? = none := List.getElem?_eq_none (by simp; omega)
        first | (rw [h0]; simp; done) | (rw [h0, h1]; rfl) | (rw [h0]; by_cases e : i = c.length <;> simp_all)
  · rw [if_neg h]
    by_cases hi : i = t
    · subst hi
      have hl : i < c.length := by omega
      simp [hl]
    · have hi' : ¬ t = i := fun e => hi e.symm
      simp only [hi', hi, if_false, Nat.add_zero]
      cases c[i]? <;> rfl
/-- what is true of what has been found, whenever a step begins or ends -/
structure FsOk {W : Type} (n k : Nat) (σ : Fs W) : Prop where
  long : n ≤ σ.counts.length
  short : σ.counts.length ≤ 36
  counts : ∀ c ∈ σ.counts, c ≤ 501
  ok : σ.ok = true → ∀ c ∈ σ.counts, c ≤ 500
  out : σ.out.length ≤ k
theorem bump_all {c : List Nat} {t n : Nat} (h : ∀ x ∈ c, x ≤ n) (ht : t ≤ c.length) : ∀ x ∈ bump c t, x ≤ n + 1 := by
  intro x hx
  obtain ⟨i, hi, rfl⟩ := List.getElem_of_mem hx
  have e := bump_get ht i
  rw [List.getD_eq_getElem?_getD, List.getElem?_eq_getElem hi, Option.getD_some] at e
  rw [e]
  have hc : c.getD i 0 ≤ n := by
    by_cases hl : i < c.length
    · rw [List.getD_eq_getElem?_getD, List.getElem?_eq_getElem hl, Option.getD_some]; exact h _ (List.getElem_mem hl)
    · rw [List.getD_eq_getElem?_getD, List.getElem?_eq_none (by omega)]; simp
  split <;> omega
theorem bump_ok {c : List Nat} {t : Nat} (h : ∀ x ∈ c, x ≤ 500) (ht : t ≤ c.length) (hb : (bump c t).getD t 0 ≤ 500) : ∀ x ∈ bump c t, x ≤ 500 := by
  intro x hx
  obtain ⟨i, hi, rfl⟩ := List.getElem_of_mem hx
  have e := bump_get ht i
  by_cases hit : i = t
  · subst hit
    rw [List.getD_eq_getElem?_getD, List.getElem?_eq_getElem hi, Option.getD_some] at hb
    exact hb
  · rw [List.getD_eq_getElem?_getD, List.getElem?_eq_getElem hi, Option.getD_some, if_neg hit] at e
    rw [e]
    by_cases hl : i < c.length
    · rw [List.getD_eq_getElem?_getD, List.getElem?_eq_getElem hl, Option.getD_some]; exact h _ (List.getElem_mem hl)
    · rw [List.getD_eq_getElem?_getD, List.getElem?_eq_none (by omega)]; simp
theorem FsOk.mono {W : Type} {n n' k k' : Nat} {σ : Fs W} (h : FsOk n k σ) (hn : n' ≤ n) (hk : k ≤ k') : FsOk n' k' σ := ⟨Nat.le_trans hn h.long, h.short, h.counts, h.ok, Nat.le_trans h.out hk⟩
theorem FsOk.fin {W : Type} {n k : Nat} {σ : Fs W} (h : FsOk n k σ) (b : Bool) (w : W) : FsOk n (k + 1) (finF b w σ) := by
  refine ⟨by rw [finF_counts]; exact h.long, by rw [finF_counts]; exact h.short, by rw [finF_counts]; exact h.counts, by rw [finF_counts, finF_ok]; exact h.ok, ?_⟩
  have := h.out
  rw [finF_out, List.length_append]
  split <;> simp <;> omega
theorem FsOk.bump {W : Type} {t k : Nat} {σ : Fs W} (h : FsOk t k σ) (ht : t < 36) (hok : σ.ok = true) :
    FsOk (t + 1) k (⟨σ.out, bump σ.counts t, σ.ok && decide ((bump σ.counts t).getD t 0 ≤ 500)⟩ : Fs W) := by
  refine ⟨?_, ?_, bump_all (h.ok hok) h.long, fun e => ?_, h.out⟩
  · have := h.long
    simp only [bump_length]; split <;> omega
  · have := h.short
    simp only [bump_length]; split <;> omega
  · simp only [Bool.and_eq_true, decide_eq_true_eq] at e
    exact bump_ok (h.ok hok) h.long e.2
theorem FsOk.bad {W : Type} {n k : Nat} {σ : Fs W} (h : FsOk n k σ) : FsOk n k ({ σ with ok := false } : Fs W) := ⟨h.long, h.short, h.counts, fun e => (Bool.noConfusion e), h.out⟩
theorem follow_ok {W : Type} (A : Alg W) (f : Nat → Option (List W)) (lo hi : Int) (lazy : Bool) :
    ∀ (k : Nat) (w : W) (t : Nat) (σ : Fs W), t + k = 36 → σ.ok = true → FsOk t 500 σ → FsOk (if k = 0 then t else t + 1) (502 + k) (follow A f lo hi lazy k w t σ)
  | 0, w, t, σ, _, _, h => (h.mono (Nat.le_refl _) (by omega)).bad
  | k + 1, w, t, σ, htk, hok, h => by
    have h1 := (h.bump (by omega) hok).fin (decide (lo ≤ (t : Int)) && lazy) w
    unfold follow
    simp only [Nat.add_eq_zero_iff, and_false, if_false, show ¬ (1 : Nat) = 0 by omega]
    generalize finF (decide (lo ≤ (t : Int)) && lazy) w ⟨σ.out, Wy.bump σ.counts t, σ.ok && decide ((Wy.bump σ.counts t).getD t 0 ≤ 500)⟩ = σ1 at h1 ⊢
    split
    · cases hm : f (A.stop w) with
      | none => exact (h1.bad.fin _ w).mono (Nat.le_refl _) (by omega)
      | some more =>
        have h2 : FsOk (t + 1) (502 + k) (loopF (fun v σ => follow A f lo hi lazy k (A.thn w v) (t + 1) σ) more σ1).1 :=
          loopF_inv (J := fun τ => FsOk (t + 1) (502 + k) τ) (fun v hv τ h3 h4 hτ =>
            (follow_ok A f lo hi lazy k (A.thn w v) (t + 1) τ (by omega) h3 ⟨hτ.long, hτ.short, hτ.counts, hτ.ok, h4⟩).mono (by split <;> omega) (Nat.le_refl _)) (h1.mono (Nat.le_refl _) (by omega))
        simp only
        split
        · exact h2.mono (Nat.le_refl _) (by omega)
        · exact (h2.fin _ w).mono (Nat.le_refl _) (by omega)
    · exact (h1.fin _ w).mono (Nat.le_refl _) (by omega)

/-! How far ways go -/
def dN (t : Nd) : Nat := if (look t).nullable then 0 else 1
theorem rep_adv {W : Type} {A : Alg W} (hA : Lawful A) {f : Nat → Option (List W)} {d : Nat} (hf : ∀ p m, f p = some m → ∀ v ∈ m, p + d ≤ A.stop v) {lo hi : Int} {lazy : Bool} {k p : Nat} {l : List W}
    (h : rep A f lo hi lazy k p = some l) : ∀ x ∈ l, ∃ t : Nat, lo ≤ (t : Int) ∧ p + t * d ≤ A.stop x := by
  unfold rep at h
  simp only at h
  split at h
  · simp only [Option.some.injEq] at h
    subst h
    refine follow_inv (I := fun t w => p + t * d ≤ A.stop w) (P := fun x => ∃ t : Nat, lo ≤ (t : Int) ∧ p + t * d ≤ A.stop x) ?_ ?_ k (A.still p) 0 ⟨[], [], true⟩ ?_ (by simp)
    · intro t w m hI hm v hv
      have := hf _ m hm v hv
      rw [hA.thn, Nat.succ_mul]
      omega
    · exact fun t w h1 h2 => ⟨t, h1, h2⟩
    · rw [hA.still]; omega
  · cases h
mutual
theorem wy_adv {W : Type} {A : Alg W} (hA : Lawful A) (S : Str) : ∀ (t : Nd), (look t).shaped = true → ∀ (g p : Nat) (l : List W), wy A S t g p = some l → ∀ w ∈ l, p + dN t ≤ A.stop w
  | .mk k set lo hi lazy subs, hsh, g, p, l, h, w, hw => by
    rw [wy] at h
    have h1 := (most_len h).2
    rw [look_shaped, Bool.and_eq_true, List.all_eq_true] at hsh
    obtain ⟨hs1, hs2⟩ := hsh
    unfold dN
    rw [look_nullable]
    by_cases k1 : k = 1
    · rw [if_pos k1] at h1 ⊢
      cases h1
      simp only [List.mem_singleton] at hw
      subst hw
      rw [hA.still]; simp
    rw [if_neg k1] at h1 ⊢
    by_cases k2 : k = 2
    · subst k2
      rw [if_pos rfl] at h1
      split at h1
      · next hc =>
        cases h1
        simp only [List.mem_singleton] at hw
        subst hw
        rw [hA.still]
        have h01 : ∀ c : Prop, [Decidable c] → (if c then (0 : Nat) else 1) ≤ 1 := fun c _ => by split <;> omega
        have := h01
        exact Nat.add_le_add_left (Nat.le_trans (h01 _) hc.1) _
      · cases h1; simp at hw
    rw [if_neg k2] at h1
    by_cases k3 : k = 3
    · rw [if_pos k3] at h1 ⊢
      have := wyCat_adv hA S subs hs2 g [A.still p] l h1 p (by simp [hA.still]) w hw
      exact this
    rw [if_neg k3] at h1 ⊢
    by_cases k5 : k = 5
    · rw [if_pos k5] at h1 ⊢
      subst k5
      rw [shapedN] at hs1
      simp only [if_true, Bool.and_eq_true, decide_eq_true_eq] at hs1
      cases subs with
      | nil => rw [wyRep] at h1; cases h1
      | cons s r =>
        rw [wyRep] at h1
        have hs := wy_adv hA S s (hs2 s (by simp)) g
        obtain ⟨t, ht1, ht2⟩ := rep_adv hA (d := dN s) (fun q m hm v hv => hs q m hm v hv) h1 w hw
        rw [List.any_cons]
        cases hn : (look s).nullable with
        | true => simp; omega
        | false =>
          have hd : dN s = 1 := by unfold dN; rw [hn]; rfl
          rw [hd] at ht2
          split
          · omega
          · next hc =>
            simp only [Bool.false_or, Bool.or_eq_true, decide_eq_true_eq, not_or] at hc
            omega
    rw [if_neg k5] at h1 ⊢
    by_cases k6 : k = 6
    · rw [if_pos k6] at h1
      cases ha : wyAlt A S subs (g + 1) p with
      | none => rw [ha] at h1; cases h1
      | some m =>
        rw [ha] at h1
        simp only [Option.map_some, Option.some.injEq] at h1
        subst h1
        obtain ⟨v, hv, rfl⟩ := List.mem_map.1 hw
        rw [hA.mark]
        exact wyAlt_adv hA S subs hs2 (g + 1) p m ha v hv
    · rw [if_neg k6] at h1
      exact wyAlt_adv hA S subs hs2 g p l h1 w hw
theorem wyCat_adv {W : Type} {A : Alg W} (hA : Lawful A) (S : Str) : ∀ (subs : List Nd), (∀ s ∈ subs, (look s).shaped = true) → ∀ (g : Nat) (l m : List W), wyCat A S subs g l = some m → ∀ a, (∀ w ∈ l, a ≤ A.stop w) →
    ∀ w ∈ m, a + (if subs.all (fun s => (look s).nullable) then 0 else 1) ≤ A.stop w
  | [], _, g, l, m, h, a, hl, w, hw => by
    rw [wyCat] at h
    cases h
    have := hl w hw
    simpa using this
  | s :: r, hs, g, l, m, h, a, hl, w, hw => by
    have hadv := wy_adv hA S s (hs s (by simp)) g
    rw [wyCat] at h
    split at h
    · next n hn =>
      have hn1 : ∀ x ∈ n, a + dN s ≤ A.stop x := by
        intro x hx
        obtain ⟨u, hu, q, hq, v, hv, rfl⟩ := goOn_mem hn x hx
        have := hadv _ q hq v hv
        have := hl u hu
        rw [hA.thn]; omega
      have := wyCat_adv hA S r (fun s h => hs s (List.mem_cons_of_mem _ h)) _ n m h (a + dN s) hn1 w hw
      rw [List.all_cons]
      unfold dN at this
      cases hc : (look s).nullable with
      | true => rw [hc] at this; simpa using this
      | false =>
        rw [hc] at this
        simp only [Bool.false_and, Bool.false_eq_true, if_false] at this ⊢
        split at this <;> omega
    · cases h
theorem wyAlt_adv {W : Type} {A : Alg W} (hA : Lawful A) (S : Str) : ∀ (subs : List Nd), (∀ s ∈ subs, (look s).shaped = true) → ∀ (g p : Nat) (m : List W), wyAlt A S subs g p = some m →
    ∀ w ∈ m, p + (if subs.any (fun s => (look s).nullable) then 0 else 1) ≤ A.stop w
  | [], _, g, p, m, h, w, hw => by
    rw [wyAlt] at h
    cases h
    simp at hw
  | s :: r, hs, g, p, m, h, w, hw => by
    have hadv := wy_adv hA S s (hs s (by simp)) g p
    rw [wyAlt] at h
    split at h
    · next x y hx hy =>
      cases h
      rw [List.any_cons]
      rcases List.mem_append.1 hw with hw | hw
      · have := hadv x hx w hw
        unfold dN at this
        cases hc : (look s).nullable with
        | true => rw [hc] at this; simpa using this
        | false => rw [hc] at this; simp only [Bool.false_eq_true, if_false, Bool.false_or] at this ⊢; split <;> omega
      · have := wyAlt_adv hA S r (fun s h => hs s (List.mem_cons_of_mem _ h)) _ p y hy w hw
        cases hc : (look s).nullable with
        | true => simp; split at this <;> omega
        | false => simpa using this
    · cases h
end

/-! Parts by number -/
mutual
def nodes : Nd → Nat
  | .mk _ _ _ _ _ subs => nodesL subs + 1
def nodesL : List Nd → Nat
  | [] => 0
  | s :: r => nodes s + nodesL r
end
mutual
def flatN : Nd → Nat → List (Nd × Nat)
  | .mk k set lo hi lazy subs, g => (.mk k set lo hi lazy subs, g) :: flatL subs (g + if k = 6 then 1 else 0)
def flatL : List Nd → Nat → List (Nd × Nat)
  | [], _ => []
  | s :: r, g => flatN s g ++ flatL r (g + opened s)
end
mutual
theorem flatN_len : ∀ (t : Nd) (g : Nat), (flatN t g).length = nodes t
  | .mk k set lo hi lazy subs, g => by rw [flatN, nodes, List.length_cons, flatL_len subs]
theorem flatL_len : ∀ (l : List Nd) (g : Nat), (flatL l g).length = nodesL l
  | [], g => rfl
  | s :: r, g => by rw [flatL, nodesL, List.length_append, flatN_len s, flatL_len r]
end
mutual
/-- the table holds all parts of a tree, from a number on -/
def Tabd (T : Nat → Option (Nd × Nat)) : Nd → Nat → Nat → Prop
  | .mk k set lo hi lazy subs, n, g => T n = some (.mk k set lo hi lazy subs, g) ∧ TabdL T subs (n + 1) (g + if k = 6 then 1 else 0)
def TabdL (T : Nat → Option (Nd × Nat)) : List Nd → Nat → Nat → Prop
  | [], _, _ => True
  | s :: r, n, g => Tabd T s n g ∧ TabdL T r (n + nodes s) (g + opened s)
end
mutual
theorem tabd_of {T : Nat → Option (Nd × Nat)} : ∀ (t : Nd) (n g : Nat), (∀ i, i < nodes t → T (n + i) = (flatN t g)[i]?) → Tabd T t n g
  | .mk k set lo hi lazy subs, n, g, h => by
    rw [Tabd]
    have h0 := h 0 (by rw [nodes]; omega)
    rw [flatN] at h0
    refine ⟨by simpa using h0, tabdL_of subs (n + 1) _ fun i hi => ?_⟩
    have := h (i + 1) (by rw [nodes]; omega)
    rw [flatN, List.getElem?_cons_succ] at this
    rw [← this]
    congr 1
    omega
theorem tabdL_of {T : Nat → Option (Nd × Nat)} : ∀ (l : List Nd) (n g : Nat), (∀ i, i < nodesL l → T (n + i) = (flatL l g)[i]?) → TabdL T l n g
  | [], n, g, h => trivial
  | s :: r, n, g, h => by
    rw [TabdL]
    refine ⟨tabd_of s n g fun i hi => ?_, tabdL_of r _ _ fun i hi => ?_⟩
    · rw [h i (by rw [nodesL]; omega), flatL, List.getElem?_append_left (by rw [flatN_len]; exact hi)]
    · have := h (nodes s + i) (by rw [nodesL]; omega)
      rw [flatL, List.getElem?_append_right (by rw [flatN_len]; omega), flatN_len] at this
      rw [Nat.add_assoc, this]
      congr 1
      omega
end
theorem tabd_root (t : Nd) : Tabd (fun n => (flatN t 0)[n]?) t 0 0 := tabd_of t 0 0 fun i _ => by rw [Nat.zero_add]
theorem Tabd.self {T : Nat → Option (Nd × Nat)} {t : Nd} {n g : Nat} (h : Tabd T t n g) : T n = some (t, g) := by
  cases t
  rw [Tabd] at h
  exact h.1
end Go.Proofs.Wy
