/- Parts of the proof: FlowL, Txt, Parse, FlowS, FlowN. Conditions: none. -/
import Derived.Test.YtnhjakdmbfadlaaGreatDoorL01
import Derived.WalkKit
import Derived.WalkMore
import Derived.Lib.ValidLaws
import Derived.Test.YtnhjakdmbfadlaaGreatDoorL00
set_option linter.all false
/- A region whose order of evaluation is open: what acts stands in one line (each behind the one before it, by the region's own edges); all else but reads. One walk, in an order in which each reader stands as early as it can, serves every order. What has acted hands back values that are not known ahead (a list of them); what holds of the world may name them. -/
namespace Go
open RowKit

/-- j must run ahead of i -/
def bitL (ops : Array Oper) (i j : Nat) : Bool := decide (j < i) && ((Region.before ops).getD i 0).testBit j
/-- ord: all operations, each behind those that must run ahead of it; those in sp act: all behind one of them in ord must run behind it; a reader in pin runs ahead of the next one that acts; all others ahead of the last one -/
def okL (ops : Array Oper) (ord sp pin : List Nat) : Bool :=
  ((List.range ops.size).all fun i => ord.contains i) && (List.range ord.length).all fun k =>
    let i := ord.getD k 0
    !(ord.take k).contains i && ((List.range ops.size).all fun j => !bitL ops i j || (ord.take k).contains j) &&
    (if sp.contains i then ((ord.drop (k + 1)).all fun j => bitL ops j i) && ((ord.take k).all fun j => !pin.contains j || bitL ops i j) && ((ord.drop (k + 1)).any (fun j => sp.contains j) || (ord.take k).all fun j => bitL ops i j)
     else pin.contains i || (ord.drop (k + 1)).any fun j => sp.contains j)
structure AtL (ops : Array Oper) (sp pin D : List Nat) (i : Nat) (rest : List Nat) : Prop where
  fresh : i ∉ D
  topo : ∀ j, j < ops.size → bitL ops i j = true → j ∈ D
  behind : i ∈ sp → ∀ j ∈ rest, bitL ops j i = true
  pins : i ∈ sp → ∀ j ∈ D, j ∈ pin → bitL ops i j = true
  last : i ∈ sp → (∃ j ∈ rest, j ∈ sp) ∨ ∀ j ∈ D, bitL ops i j = true
  free : i ∉ sp → i ∈ pin ∨ ∃ j ∈ rest, j ∈ sp
theorem okL_at {ops : Array Oper} {ord sp pin : List Nat} (h : okL ops ord sp pin = true) {D : List Nat} {i : Nat} {rest : List Nat} (he : ord = D ++ i :: rest) : AtL ops sp pin D i rest := by
  unfold okL at h
  rw [Bool.and_eq_true] at h
  have h1 := h.2
  rw [List.all_eq_true] at h1
  have h2 := h1 D.length (List.mem_range.2 (by rw [he]; simp))
  have e1 : ord.getD D.length 0 = i := by rw [he]; simp [List.getD_eq_getElem?_getD]
  have e2 : ord.take D.length = D := by rw [he]; simp
  have e3 : ord.drop (D.length + 1) = rest := by rw [he]; simp [List.drop_append]
  simp only [e1, e2, e3, Bool.and_eq_true, Bool.not_eq_true', List.contains_eq_mem, decide_eq_false_iff_not] at h2
  obtain ⟨⟨h3, h4⟩, h5⟩ := h2
  rw [List.all_eq_true] at h4
  refine ⟨h3, fun j hj hb => ?_, fun hi => ?_, fun hi => ?_, fun hi => ?_, fun hi => ?_⟩
  · have := h4 j (List.mem_range.2 hj)
    rw [hb] at this
    simpa using this
  all_goals simp only [hi, decide_true, decide_false, if_true, if_false, Bool.false_eq_true, Bool.and_eq_true, Bool.or_eq_true, List.all_eq_true, List.any_eq_true, decide_eq_true_eq, Bool.not_eq_true', decide_eq_false_iff_not] at h5
  · exact h5.1.1
  · exact fun j hj hp => (h5.1.2 j hj).resolve_left (fun hn => hn hp)
  · exact h5.2
  · exact h5
theorem okL_all {ops : Array Oper} {ord sp pin : List Nat} (h : okL ops ord sp pin = true) {i : Nat} (hi : i < ops.size) : i ∈ ord := by
  unfold okL at h
  rw [Bool.and_eq_true] at h
  have h1 := h.1
  rw [List.all_eq_true] at h1
  simpa using h1 i (List.mem_range.2 hi)

/-- a reader's value: it leaves the world alone -/
def readAt (P : Program) (ops : Array Oper) (W : World → Prop) (o : Oper) (v : Value) (a : Act) : Prop :=
  if Region.wanted o (yielded ops a.tmps) then ∀ w, W w → ∀ K : Act → World → Prop, K (a.put o.dst v) w → o.wp P a w K (fun _ _ _ => False) else v = undef
def flowL (P : Program) (ops : Array Oper) (sp pin : List Nat) (Wb : World → Prop) (W : List Value → World → Prop) (R : List Value → Act → Prop) : List Nat → List Value → Act → Prop
  | [], L, a => R L a
  | i :: rest, L, a => ∃ o, ops[i]? = some o ∧
    if sp.contains i then Region.wanted o (yielded ops a.tmps) = true ∧ (∀ w, W L w → ∀ K : Act → World → Prop, (∀ v w', W (L ++ [v]) w' → K (a.put o.dst v) w') → o.wp P a w K (fun _ _ _ => False)) ∧
      ∀ v, (∃ w', W (L ++ [v]) w') → flowL P ops sp pin Wb W R rest (L ++ [v]) (a.put o.dst v)
    else ∃ v, readAt P ops (if pin.contains i then W L else Wb) o v a ∧ flowL P ops sp pin Wb W R rest L (a.put o.dst v)

section
variable {P : Program} {ops : Array Oper} {sp pin : List Nat} {Wb : World → Prop} {W : List Value → World → Prop} {R : List Value → Act → Prop} {rest : List Nat} {L : List Value} {i : Nat} {o : Oper} {a : Act}
theorem flowL_end (h : R L a) : flowL P ops sp pin Wb W R [] L a := h
theorem flowL_read (v : Value) (ho : ops.toList[i]? = some o) (hs : sp.contains i = false) (hp : pin.contains i = false) (hw : Region.wanted o (yielded ops a.tmps) = true)
    (h : ∀ w, Wb w → ∀ K : Act → World → Prop, K (a.put o.dst v) w → o.wp P a w K (fun _ _ _ => False)) (k : flowL P ops sp pin Wb W R rest L (a.put o.dst v)) : flowL P ops sp pin Wb W R (i :: rest) L a := by
  refine ⟨o, by simpa using ho, ?_⟩
  rw [if_neg (by rw [hs]; simp), hp]
  exact ⟨v, by unfold readAt; rw [if_pos hw]; exact h, k⟩
theorem flowL_pin (v : Value) (ho : ops.toList[i]? = some o) (hs : sp.contains i = false) (hp : pin.contains i = true) (hw : Region.wanted o (yielded ops a.tmps) = true)
    (h : ∀ w, W L w → ∀ K : Act → World → Prop, K (a.put o.dst v) w → o.wp P a w K (fun _ _ _ => False)) (k : flowL P ops sp pin Wb W R rest L (a.put o.dst v)) : flowL P ops sp pin Wb W R (i :: rest) L a := by
  refine ⟨o, by simpa using ho, ?_⟩
  rw [if_neg (by rw [hs]; simp), hp]
  exact ⟨v, by unfold readAt; rw [if_pos hw]; exact h, k⟩
theorem flowL_no (ho : ops.toList[i]? = some o) (hs : sp.contains i = false) (hw : Region.wanted o (yielded ops a.tmps) = false) (k : flowL P ops sp pin Wb W R rest L (a.put o.dst undef)) : flowL P ops sp pin Wb W R (i :: rest) L a := by
  refine ⟨o, by simpa using ho, ?_⟩
  rw [if_neg (by rw [hs]; simp)]
  exact ⟨undef, by unfold readAt; rw [if_neg (by rw [hw]; simp)], k⟩
theorem flowL_act (ho : ops.toList[i]? = some o) (hs : sp.contains i = true) (hw : Region.wanted o (yielded ops a.tmps) = true)
    (h : ∀ w, W L w → ∀ K : Act → World → Prop, (∀ v w', W (L ++ [v]) w' → K (a.put o.dst v) w') → o.wp P a w K (fun _ _ _ => False))
    (k : ∀ v, (∃ w', W (L ++ [v]) w') → flowL P ops sp pin Wb W R rest (L ++ [v]) (a.put o.dst v)) : flowL P ops sp pin Wb W R (i :: rest) L a := by
  refine ⟨o, by simpa using ho, ?_⟩
  rw [if_pos hs]
  exact ⟨hw, h, k⟩
end

namespace Flow
section
variable {P : Program} {ops : Array Oper}

theorem over_act {Q : Exit → Act → World → Prop} {G : Value → World → Prop} {o : Oper} {A a : Act} {i : Nat} {w : World} (hi : ops[i]? = some o) (hw : Region.wanted o (yielded ops A.tmps) = true)
    (h : ∀ K : Act → World → Prop, (∀ v w', G v w' → K (A.put o.dst v) w') → o.wp P A w K (fun _ _ _ => False))
    (hs : ∀ cs b, o.op ≠ .select cs b) (hz : A.tmps.size = a.tmps.size) (hn : ∀ t, t ∈ o.looksAt ops → a.tmps[t]? = A.tmps[t]?) {K : Act → World → Prop}
    (hK : ∀ v w', G v w' → K (a.put o.dst v) w') : wpOp P ops Q i K a w := by
  unfold wpOp
  simp only [hi]
  rw [wanted_same hn, if_pos hw]
  refine .inl ?_
  have h1 := h (fun x w'' => (∀ u, x = A.put o.dst u → K (a.put o.dst u) w'') ∧ x.defers = A.defers) (fun v w' hw' => ⟨fun u hu => by rw [← put_inj hz hu]; exact hK v w' hw', by cases o.dst <;> rfl⟩)
  unfold Oper.wp at h1 ⊢
  rw [exec_same hs hn]
  generalize (execOp A.eval o).run P w = r at h1
  cases r with
  | ok n w' =>
    cases n <;> simp only [Oper.upon] at h1 ⊢
    case value u => exact h1.1 u rfl
    case skip => exact h1.1 _ rfl
    case defer d =>
      have h2 := congrArg List.length h1.2
      cases hd : o.dst <;> simp [hd, Act.put] at h2
    case enter f args =>
      refine Calls.mono h1 fun e w'' he => ?_
      cases e with
      | returned u => exact he.1 u rfl
      | panicked c => exact he.elim
      | outgrown => obtain ⟨_, _, hf⟩ := he; exact hf.elim
    case row row args => exact Rows.mono h1 fun u w'' he => he.1 u rfl
  | halt x w' => cases x <;> simp only [Oper.upon] at h1 ⊢

theorem over_read {Q : Exit → Act → World → Prop} {W : World → Prop} {o : Oper} {v : Value} {A a : Act} {i : Nat} {w : World} (hi : ops[i]? = some o) (h : readAt P ops W o v A) (hw : W w)
    (hs : ∀ cs b, o.op ≠ .select cs b) (hz : A.tmps.size = a.tmps.size) (hn : ∀ t, t ∈ o.looksAt ops → a.tmps[t]? = A.tmps[t]?) {K : Act → World → Prop}
    (hK : K (a.put o.dst v) w) : wpOp P ops Q i K a w := by
  unfold readAt at h
  split at h
  · rename_i hwn
    exact over_act (G := fun u w' => u = v ∧ w' = w) hi hwn (fun K hK => h w hw K (hK v w ⟨rfl, rfl⟩)) hs hz hn (fun u w' e => by rw [e.1, e.2]; exact hK)
  · rename_i hwn
    subst h
    unfold wpOp
    simp only [hi]
    rw [wanted_same hn, if_neg hwn]
    exact hK

theorem actOf_vsL (l : List Oper) (us vs : Nat → Value) (a : Act) (S : Nat → Bool) : ∀ n, (∀ i, i < n → S i = true → us i = vs i) → actOf l us a S n = actOf l vs a S n
  | 0, _ => rfl
  | n + 1, h => by
    simp only [actOf]
    rw [actOf_vsL l us vs a S n (fun i hi => h i (by omega))]
    split
    · split
      · rename_i hs; rw [h n (by omega) hs]
      · rfl
    · rfl

theorem actOf_size (l : List Oper) (vs : Nat → Value) (a : Act) (S : Nat → Bool) : ∀ n, (actOf l vs a S n).tmps.size = a.tmps.size
  | 0 => rfl
  | n + 1 => by
    have ih := actOf_size l vs a S n
    simp only [actOf]
    split
    · split
      · rename_i p _ _; cases hp : p.dst <;> simpa [Act.put] using ih
      · exact ih
    · exact ih

theorem bitL_of {i j : Nat} (h : bitL ops i j = true) : j < i ∧ ((Region.before ops).getD i 0).testBit j = true := by
  unfold bitL at h
  simpa using h
theorem bitL_mk {i j : Nat} (h : j < i) (hb : ((Region.before ops).getD i 0).testBit j = true) : bitL ops i j = true := by
  unfold bitL
  rw [hb]
  simp [h]
/-- the temporaries that an operation names, when just what must run ahead of it has -/
theorem tmp_of (hok : flowOk ops = true) (vs : Nat → Value) (a : Act) {S : Nat → Bool} {i : Nat} {o : Oper} (ho : ops[i]? = some o) (h1 : ∀ j, bitL ops i j = true → S j = true) (h2 : ∀ j, j < ops.size → bitL ops j i = true → S j = false) (h3 : S i = false) :
    ∀ t, t ∈ o.namesF ops → (actOf ops.toList vs a S ops.size).tmps[t]? = (actAt ops.toList vs a i).tmps[t]? := by
  intro t ht
  have hil : i < ops.size := (Array.getElem?_eq_some_iff.1 ho).1
  rw [show actAt ops.toList vs a i = actAt ops.toList vs a (min ops.size i) by rw [show min ops.size i = i by omega]]
  refine actOf_tmp _ _ _ _ i t ?_ ?_ _
  · intro j p hj hp hd
    have hp' : ops[j]? = some p := by simpa using hp
    rcases ok_names hok hj hp' ho with hbit | ⟨hn, _⟩
    · exact h1 j (bitL_mk hj hbit)
    · exact absurd ht (hn t hd)
  · intro j p hj hp hd
    have hp' : ops[j]? = some p := by simpa using hp
    by_cases e : j = i
    · subst e; exact h3
    · rcases ok_names hok (show i < j by omega) ho hp' with hbit | ⟨_, hn⟩
      · exact h2 j (Array.getElem?_eq_some_iff.1 hp').1 (bitL_mk (by omega) hbit)
      · exact absurd ht (hn t hd)

structure StL (P : Program) (ops : Array Oper) (ord sp pin : List Nat) (Wb : World → Prop) (W : List Value → World → Prop) (R : List Value → Act → Prop) (a : Act) (rest D : List Nat) (vs : Nat → Value) (L : List Value) (listed : Array Bool) (w : World) : Prop where
  split : ord = D ++ rest
  size : listed.size = ops.size
  closed : ∀ j o, ops[j]? = some o → listed.getD j false = true → ∀ e ∈ o.after, Region.binds .any e = true → listed.getD e.on false = true
  sub : ∀ i, listed.getD i false = true → i ∈ D
  acts : ∀ i, i ∈ D → i ∈ sp → listed.getD i false = true
  un : ∀ i, i ∈ D → listed.getD i false = false → ∃ o D1 D2 X, ops[i]? = some o ∧ D = D1 ++ i :: D2 ∧ readAt P ops X o (vs i) (actOf ops.toList vs a (fun j => D1.contains j) ops.size) ∧ (∀ w, W L w → X w) ∧ (i ∉ pin → X = Wb)
  count : L.length + (rest.filter fun j => sp.contains j).length = (ord.filter fun j => sp.contains j).length
  flow : flowL P ops sp pin Wb W R rest L (actOf ops.toList vs a (fun j => D.contains j) ops.size)
  world : W L w

variable {ord sp pin : List Nat} {Wb : World → Prop} {W : List Value → World → Prop} {R : List Value → Act → Prop} {a : Act} {rest D : List Nat} {vs : Nat → Value} {L : List Value} {listed : Array Bool} {w : World}

theorem put_ord (hok : flowOk ops = true) (hord : okL ops ord sp pin = true) {i : Nat} {r : List Nat} (he : ord = D ++ i :: r) {o : Oper} (ho : ops[i]? = some o) (vs : Nat → Value) (a : Act) :
    actOf ops.toList vs a (fun j => (D ++ [i]).contains j) ops.size = (actOf ops.toList vs a (fun j => D.contains j) ops.size).put o.dst (vs i) := by
  have hat := okL_at hord he
  have hil : i < ops.size := (Array.getElem?_eq_some_iff.1 ho).1
  have hc : D.contains i = false := by simpa using hat.fresh
  rw [← actOf_put ops.toList vs a (fun j => D.contains j) i o (by simpa using ho) hc ops.size hil]
  · refine actOf_congr _ _ _ _ _ _ fun k _ => ?_
    by_cases e : k = i
    · subst e; simp
    · rw [if_neg e]; simp [e]
  · intro j p hij hp hj d hd hpd
    have hp' : ops[j]? = some p := by simpa using hp
    rcases ok_names hok hij ho hp' with hbit | ⟨hn, _⟩
    · have hjD : j ∈ D := by simpa using hj
      obtain ⟨E1, E2, rfl⟩ := List.append_of_mem hjD
      have := (okL_at (ops := ops) (sp := sp) (pin := pin) hord (D := E1) (i := j) (rest := E2 ++ i :: r) (by rw [he]; simp)).topo i hil (bitL_mk hij hbit)
      exact hat.fresh (by simp [this])
    · exact hn d hd (by simp [Oper.namesF, hpd])

theorem StL.read (hok : flowOk ops = true) (hord : okL ops ord sp pin = true) (hb : ∀ L w, W L w → L.length < (ord.filter fun j => sp.contains j).length → Wb w) {i : Nat} {r : List Nat}
    (h : StL P ops ord sp pin Wb W R a (i :: r) D vs L listed w) (hi : i ∉ sp) : ∃ vs', StL P ops ord sp pin Wb W R a r (D ++ [i]) vs' L listed w ∧ actOf ops.toList vs' a (fun i => listed.getD i false) ops.size = actOf ops.toList vs a (fun i => listed.getD i false) ops.size := by
  have hat := okL_at hord h.split
  have hflow := h.flow
  obtain ⟨o, ho, hf⟩ := hflow
  rw [if_neg (by simpa using hi)] at hf
  obtain ⟨v, hr, hk⟩ := hf
  have key : ∀ S : Nat → Bool, S i = false → actOf ops.toList (fun k => if k = i then v else vs k) a S ops.size = actOf ops.toList vs a S ops.size := fun S hS =>
    actOf_vsL _ _ _ _ _ _ fun j _ hj => by
      by_cases e : j = i
      · subst e; rw [hS] at hj; cases hj
      · rw [if_neg e]
  have hnl : listed.getD i false = false := by
    cases e : listed.getD i false with
    | false => rfl
    | true => exact absurd (h.sub i e) hat.fresh
  have hDi : D.contains i = false := by simpa using hat.fresh
  have hput := put_ord hok hord h.split ho (fun k => if k = i then v else vs k) a
  rw [key _ hDi, if_pos rfl] at hput
  have hcount : (r.filter fun j => sp.contains j).length = ((i :: r).filter fun j => sp.contains j).length := by
    rw [List.filter_cons_of_neg (by simpa using hi)]
  refine ⟨fun k => if k = i then v else vs k, ⟨by rw [h.split]; simp, h.size, h.closed, fun j hj => List.mem_append_left _ (h.sub j hj), fun j hj hs => ?_, fun j hj hl => ?_, by rw [hcount]; exact h.count, by rw [hput]; exact hk, h.world⟩, key _ hnl⟩
  · rcases List.mem_append.1 hj with hj | hj
    · exact h.acts j hj hs
    · simp only [List.mem_singleton] at hj; subst hj; exact absurd hs hi
  · rcases List.mem_append.1 hj with hj | hj
    · obtain ⟨p, D1, D2, X, h1, h2, h3, h4, h5⟩ := h.un j hj hl
      have hji : j ≠ i := fun e => hat.fresh (e ▸ hj)
      have hD1 : D1.contains i = false := by
        have : i ∉ D1 := fun e => hat.fresh (by rw [h2]; simp [e])
        simpa using this
      refine ⟨p, D1, D2 ++ [i], X, h1, by rw [h2]; simp, ?_, h4, h5⟩
      rw [if_neg hji, key _ hD1]
      exact h3
    · simp only [List.mem_singleton] at hj
      subst hj
      refine ⟨o, D, [], if pin.contains j then W L else Wb, ho, rfl, ?_, ?_, ?_⟩
      · rw [if_pos rfl, key _ hDi]; exact hr
      · intro w' hw'
        by_cases hp : j ∈ pin
        · rw [if_pos (by simpa using hp)]; exact hw'
        · rw [if_neg (by simpa using hp)]
          refine hb L w' hw' ?_
          obtain ⟨k, hk1, hk2⟩ := (hat.free hi).resolve_left hp
          have := h.count
          rw [← hcount] at this
          have hpos : 0 < (r.filter fun j => sp.contains j).length := List.length_pos_of_mem (List.mem_filter.2 ⟨hk1, by simpa using hk2⟩)
          omega
      · intro hp
        rw [if_neg (by simpa using hp)]

theorem StL.norm (hok : flowOk ops = true) (hord : okL ops ord sp pin = true) (hb : ∀ L w, W L w → L.length < (ord.filter fun j => sp.contains j).length → Wb w) :
    ∀ (rest D : List Nat) (vs : Nat → Value), StL P ops ord sp pin Wb W R a rest D vs L listed w →
    ∃ rest' D' vs', StL P ops ord sp pin Wb W R a rest' D' vs' L listed w ∧ actOf ops.toList vs' a (fun i => listed.getD i false) ops.size = actOf ops.toList vs a (fun i => listed.getD i false) ops.size ∧ ∀ i r, rest' = i :: r → i ∈ sp
  | [], D, vs, h => ⟨[], D, vs, h, rfl, fun _ _ e => by cases e⟩
  | i :: r, D, vs, h => by
    by_cases hi : i ∈ sp
    · exact ⟨i :: r, D, vs, h, rfl, fun j q e => by simp only [List.cons.injEq] at e; rw [← e.1]; exact hi⟩
    · obtain ⟨vs1, h1, e1⟩ := h.read hok hord hb hi
      obtain ⟨rest', D', vs', h2, e2, h3⟩ := StL.norm hok hord hb r (D ++ [i]) vs1 h1
      exact ⟨rest', D', vs', h2, e2.trans e1, h3⟩

theorem any_of_flowL {Q : Exit → Act → World → Prop} (hok : flowOk ops = true) (hord : okL ops ord sp pin = true) (hb : ∀ L w, W L w → L.length < (ord.filter fun j => sp.contains j).length → Wb w)
    (hq : ∀ L a' w', R L a' → W L w' → Q .normal a' w') :
    ∀ (fuel : Nat) (rest D : List Nat) (vs : Nat → Value) (L : List Value) (listed : Array Bool) (w : World), left listed ops.size = fuel → StL P ops ord sp pin Wb W R a rest D vs L listed w →
      wpAny P .any ops Q fuel listed (actOf ops.toList vs a (fun i => listed.getD i false) ops.size) w := by
  intro fuel
  induction fuel with
  | zero =>
    intro rest D vs L listed w hl h
    have hall := left_zero _ hl
    have hsz := h.size
    refine ⟨?_, ?_⟩
    · apply List.eq_nil_iff_forall_not_mem.2
      intro j hj
      rw [mem_ready] at hj
      obtain ⟨h0, o, ho, _⟩ := hj
      have := hall j (Array.getElem?_eq_some_iff.1 ho).1
      rw [h0] at this; cases this
    · obtain ⟨rest', D', vs', h', eact, hhead⟩ := StL.norm hok hord hb rest D vs h
      rw [← eact]
      have hnil : rest' = [] := by
        cases rest' with
        | nil => rfl
        | cons i r =>
          exfalso
          obtain ⟨o, ho, -⟩ := h'.flow
          have hil := (Array.getElem?_eq_some_iff.1 ho).1
          exact (okL_at hord h'.split).fresh (h'.sub i (by rw [← getD_of (by omega)]; exact hall i hil))
      subst hnil
      have hf := h'.flow
      rw [actOf_congr ops.toList vs' a (fun i => listed.getD i false) (fun j => D'.contains j) ops.size (fun i hi => by
        have e1 : listed.getD i false = true := by rw [← getD_of (by omega)]; exact hall i hi
        rw [e1]
        have := h'.sub i e1
        simpa using this)]
      exact hq L _ w hf h'.world
  | succ fuel ih =>
    intro rest D vs L listed w hl h0
    obtain ⟨rest, D, vs', h, eact, hhead⟩ := StL.norm hok hord hb rest D vs h0
    rw [← eact]
    clear eact h0 vs
    have hsz := h.size
    have hcl := h.closed
    refine ⟨?_, ?_⟩
    · intro hnil
      exfalso
      obtain ⟨i, h1, h2, h3⟩ := left_pos _ (show 0 < left listed ops.size by omega)
      have ho : ops[i]? = some ops[i] := Array.getElem?_eq_getElem h1
      have : i ∈ Region.ready .any ops listed := by
        rw [mem_ready]
        refine ⟨h2, _, ho, fun e he hb => ?_⟩
        have hlt := ok_back hok ho e he hb
        rw [← getD_of (by omega)]
        exact h3 _ hlt
      rw [hnil] at this
      cases this
    · intro i hi
      rw [mem_ready] at hi
      obtain ⟨hi0, o, ho, hdeps⟩ := hi
      have hil : i < ops.size := (Array.getElem?_eq_some_iff.1 ho).1
      have hol : ops.toList[i]? = some o := by simpa using ho
      have h0' : listed.getD i false = false := by rw [← getD_of (by omega)]; exact hi0
      have hcl' : ∀ j p, ops[j]? = some p → (if j = i then true else listed.getD j false) = true → ∀ e ∈ p.after, Region.binds .any e = true → (if e.on = i then true else listed.getD e.on false) = true := by
        intro j p hj hs e he hb
        by_cases e1 : e.on = i
        · rw [if_pos e1]
        · rw [if_neg e1]
          by_cases e2 : j = i
          · subst e2; rw [ho] at hj; cases hj; exact hdeps e he hb
          · rw [if_neg e2] at hs; exact hcl j p hj hs e he hb
      have hb1 : ∀ j, bitL ops i j = true → listed.getD j false = true := by
        intro j hbit
        obtain ⟨hj, hbit⟩ := bitL_of hbit
        have := ok_before hok (S := fun k => if k = i then true else listed.getD k false) hcl' i j hj hil hbit (by simp)
        simpa [show j ≠ i by omega] using this
      have hb2 : ∀ j, j < ops.size → bitL ops j i = true → listed.getD j false = false := by
        intro j hjl hbit
        obtain ⟨hj, hbit⟩ := bitL_of hbit
        cases hs : listed.getD j false with
        | false => rfl
        | true =>
          have := ok_before hok (S := fun k => listed.getD k false) hcl j i hj hjl hbit hs
          rw [h0'] at this; cases this
      have hlater : ∀ j p, i < j → ops.toList[j]? = some p → listed.getD j false = true → ∀ d, o.dst = some d → p.dst ≠ some d := by
        intro j p hj hp hs d hd hpd
        have hp' : ops[j]? = some p := by simpa using hp
        rcases ok_names hok hj ho hp' with hbit | ⟨hn, _⟩
        · have := hb2 j (Array.getElem?_eq_some_iff.1 hp').1 (bitL_mk hj hbit)
          rw [hs] at this; cases this
        · exact hn d hd (by simp [Oper.namesF, hpd])
      have hsame : ∀ vs, actOf ops.toList vs a (fun k => (listed.setIfInBounds i true).getD k false) ops.size = (actOf ops.toList vs a (fun k => listed.getD k false) ops.size).put o.dst (vs i) := by
        intro vs
        rw [← actOf_put ops.toList vs a (fun k => listed.getD k false) i o hol h0' ops.size hil hlater]
        refine actOf_congr _ _ _ _ _ _ fun k _ => ?_
        by_cases e : k = i
        · subst e; simp [hsz, hil]
        · rw [if_neg e, getD_set_ne false (Ne.symm e)]
      have hleft : left (listed.setIfInBounds i true) ops.size = fuel := by
        have := left_set (by omega) hi0 ops.size
        rw [if_pos hil] at this
        omega
      have hset : ∀ j, (listed.setIfInBounds i true).getD j false = true → j = i ∨ listed.getD j false = true := by
        intro j hj
        by_cases e : j = i
        · exact .inl e
        · rw [getD_set_ne false (Ne.symm e)] at hj; exact .inr hj
      have hclosed : ∀ j p, ops[j]? = some p → (listed.setIfInBounds i true).getD j false = true → ∀ e ∈ p.after, Region.binds .any e = true → (listed.setIfInBounds i true).getD e.on false = true := by
        intro j p hj hs e he hb
        by_cases e2 : j = i
        · subst e2; rw [ho] at hj; cases hj; exact getD_set_true (hdeps e he hb)
        · rw [getD_set_ne false (Ne.symm e2)] at hs
          exact getD_set_true (hcl j p hj hs e he hb)
      by_cases hiD : i ∈ D
      · -- a reader that was met before
        obtain ⟨p, D1, D2, X, k1, k2, k3, k4, k5⟩ := h.un i hiD h0'
        rw [ho] at k1
        simp only [Option.some.injEq] at k1
        subst k1
        have hat := okL_at (ops := ops) (sp := sp) (pin := pin) hord (D := D1) (i := i) (rest := D2 ++ rest) (by rw [h.split, k2]; simp)
        refine over_read ho k3 (k4 w h.world) (ok_sel hok ho) (by rw [actOf_size, actOf_size]) (fun t ht => ?_) ?_
        · have ht' : t ∈ o.namesF ops := by simp [Oper.namesF, ht]
          rw [tmp_of hok vs' a ho hb1 hb2 h0' t ht', tmp_of hok vs' a ho (S := fun j => D1.contains j) (fun j hj => ?_) (fun j hjl hj => ?_) (by simpa using hat.fresh) t ht']
          · have := hat.topo j (by have := (bitL_of hj).1; omega) hj
            simpa using this
          · cases e : D1.contains j with
            | false => rfl
            | true =>
              exfalso
              have hj1 : j ∈ D1 := by simpa using e
              obtain ⟨E1, E2, rfl⟩ := List.append_of_mem hj1
              have := (okL_at (ops := ops) (sp := sp) (pin := pin) hord (D := E1) (i := j) (rest := E2 ++ i :: (D2 ++ rest)) (by rw [h.split, k2]; simp)).topo i hil hj
              exact hat.fresh (by simp [this])
        · rw [← hsame]
          refine ih rest D vs' L _ w hleft ⟨h.split, by simp [hsz], hclosed, fun j hj => (hset j hj).elim (fun e => e ▸ hiD) (h.sub j), fun j hj hs => getD_set_true (h.acts j hj hs), fun j hj hu => h.un j hj ?_, h.count, h.flow, h.world⟩
          cases e : listed.getD j false with
          | false => rfl
          | true => rw [getD_set_true e] at hu; cases hu
      · -- it must be the next one that acts
        have hmem := okL_all hord hil
        rw [h.split] at hmem
        have hir : i ∈ rest := (List.mem_append.1 hmem).resolve_left hiD
        have hsplit := h.split
        have hflow := h.flow
        have hcount := h.count
        obtain ⟨s, r, hrest⟩ : ∃ s r, rest = s :: r := by
          cases rest with
          | nil => cases hir
          | cons s r => exact ⟨s, r, rfl⟩
        have hs := hhead s r hrest
        subst hrest
        have hat := okL_at hord hsplit
        have his : i = s := by
          rcases List.mem_cons.1 hir with e | e
          · exact e
          · exfalso
            have := hb1 s (hat.behind hs i e)
            exact hat.fresh (h.sub s this)
        subst his
        obtain ⟨p, hp, hf⟩ := hflow
        rw [ho] at hp
        simp only [Option.some.injEq] at hp
        subst hp
        rw [if_pos (by simpa using hs)] at hf
        obtain ⟨hw1, hw2, hw3⟩ := hf
        have hDi : D.contains i = false := by simpa using hat.fresh
        refine over_act (G := fun v w' => W (L ++ [v]) w') ho hw1 (fun K hK => hw2 w h.world K hK) (ok_sel hok ho) (by rw [actOf_size, actOf_size]) (fun t ht => ?_) (fun v w' hw' => ?_)
        · have ht' : t ∈ o.namesF ops := by simp [Oper.namesF, ht]
          rw [tmp_of hok vs' a ho hb1 hb2 h0' t ht', tmp_of hok vs' a ho (S := fun j => D.contains j) (fun j hj => ?_) (fun j hjl hj => ?_) hDi t ht']
          · have := hat.topo j (by have := (bitL_of hj).1; omega) hj
            simpa using this
          · cases e : D.contains j with
            | false => rfl
            | true =>
              exfalso
              have hj1 : j ∈ D := by simpa using e
              obtain ⟨E1, E2, rfl⟩ := List.append_of_mem hj1
              have := (okL_at (ops := ops) (sp := sp) (pin := pin) hord (D := E1) (i := j) (rest := E2 ++ i :: r) (by rw [hsplit]; simp)).topo i hil hj
              exact hat.fresh (by simp [this])
        · have key : ∀ S : Nat → Bool, S i = false → actOf ops.toList (fun k => if k = i then v else vs' k) a S ops.size = actOf ops.toList vs' a S ops.size := fun S hS =>
            actOf_vsL _ _ _ _ _ _ fun j _ hj => by
              by_cases e : j = i
              · subst e; rw [hS] at hj; cases hj
              · rw [if_neg e]
          have hput := put_ord hok hord hsplit ho (fun k => if k = i then v else vs' k) a
          rw [key _ hDi, if_pos rfl] at hput
          have hsm := hsame (fun k => if k = i then v else vs' k)
          rw [key (fun k => listed.getD k false) h0', if_pos rfl] at hsm
          rw [← hsm]
          refine ih r (D ++ [i]) _ (L ++ [v]) _ w' hleft ⟨by rw [hsplit]; simp, by simp [hsz], hclosed, fun j hj => (hset j hj).elim (fun e => by simp [e]) (fun e => List.mem_append_left _ (h.sub j e)), fun j hj hsj => ?_, fun j hj hu => ?_, ?_, by rw [hput]; exact hw3 v ⟨w', hw'⟩, hw'⟩
          · rcases List.mem_append.1 hj with hj | hj
            · exact getD_set_true (h.acts j hj hsj)
            · simp only [List.mem_singleton] at hj; subst hj
              simp [hsz, hil]
          · have hjne : j ≠ i := fun e => by
              subst e
              simp [hsz, hil] at hu
            have hjD : j ∈ D := (List.mem_append.1 hj).resolve_right (by simpa using hjne)
            have hju : listed.getD j false = false := by
              cases e : listed.getD j false with
              | false => rfl
              | true => rw [getD_set_true e] at hu; cases hu
            obtain ⟨p, D1, D2, X, k1, k2, k3, k4, k5⟩ := h.un j hjD hju
            have hjp : j ∉ pin := fun hp => by
              have := hb1 j (hat.pins hs j hjD hp)
              rw [hju] at this; cases this
            have hX := k5 hjp
            subst hX
            have hD1 : D1.contains i = false := by
              have : i ∉ D1 := fun e => hat.fresh (by rw [k2]; simp [e])
              simpa using this
            refine ⟨p, D1, D2 ++ [i], _, k1, by rw [k2]; simp, ?_, fun w2 hw2 => hb _ _ hw2 ?_, fun _ => rfl⟩
            · rw [if_neg hjne, key _ hD1]
              exact k3
            · rcases hat.last hs with ⟨m, hm1, hm2⟩ | hlast
              · have hpos : 0 < (r.filter fun j => sp.contains j).length := List.length_pos_of_mem (List.mem_filter.2 ⟨hm1, by simpa using hm2⟩)
                rw [List.filter_cons_of_pos (by simpa using hs), List.length_cons] at hcount
                rw [List.length_append, List.length_singleton]
                omega
              · have := hb1 j (hlast j hjD)
                rw [hju] at this; cases this
          · rw [List.filter_cons_of_pos (by simpa using hs), List.length_cons] at hcount
            rw [List.length_append, List.length_singleton]
            omega
end
end Flow

theorem wp_flowL {P : Program} {id : Nat} {ops : Array Oper} {Q : Exit → Act → World → Prop} {a : Act} {w : World} (hm : P.follows .mixedOrders = true) (hok : flowOk ops = true)
    (ord sp pin : List Nat) (hord : okL ops ord sp pin = true) (Wb : World → Prop) (W : List Value → World → Prop)
    (hb : ∀ L w, W L w → L.length < (ord.filter fun j => sp.contains j).length → Wb w) (hw : W [] w.drew)
    (h : flowL P ops sp pin Wb W (fun L a' => ∀ w', W L w' → Q .normal a' w') ord [] a) : (Code.region id ops true).wp P Q a w := by
  refine wp_region_any hm ?_
  have h3 := Flow.any_of_flowL (P := P) (W := W) (R := fun L a' => ∀ w', W L w' → Q .normal a' w') (Q := Q) (a := a) hok hord hb (fun L a' w' h1 h2 => h1 w' h2) ops.size ord [] (fun _ => undef) [] (Array.replicate ops.size false) w.drew
    (by
      have : ∀ n, n ≤ ops.size → Flow.left (Array.replicate ops.size false) n = n := by
        intro n
        induction n with
        | zero => intro _; rfl
        | succ n ih =>
          intro hn
          simp only [Flow.left]
          rw [ih (by omega)]
          have : (Array.replicate ops.size false).getD n true = false := by simp [show n < ops.size by omega]
          rw [this]; rfl
      exact this _ (Nat.le_refl _))
    ⟨rfl, by simp, (by
      intro j o _ hs
      exfalso
      by_cases hj : j < ops.size
      · simp [hj] at hs
      · simp [hj] at hs), (by
      intro j hs
      exfalso
      by_cases hj : j < ops.size
      · simp [hj] at hs
      · simp [hj] at hs), (fun i hi => by cases hi), (fun i hi => by cases hi), by simp, (by
      rw [Flow.actOf_none _ _ _ _ _ (fun i _ => by simp)]
      exact h), hw⟩
  rw [Flow.actOf_none _ _ _ _ _ (fun i hi => by simp [hi])] at h3
  exact h3

/- a reader of a region: its facts are laid by the tactic given -/
end Go

/- The strings that small numbers make: valid, and short. -/
namespace Go.Proofs.Wy
open Go Go.Lib

def symL (b : Nat) : List UInt8 :=
  if b % 8 = 0 then [97] else if b % 8 = 1 then [98] else if b % 8 = 2 then [99] else if b % 8 = 3 then [100] else if b % 8 = 4 then [97]
  else if b % 8 = 5 then [226, 130, 172] else if b % 8 = 6 then [42] else [48]
def textL (l : List Nat) : List UInt8 := l.flatMap symL
theorem symL_len (b : Nat) : (symL b).length ≤ 3 := by
  unfold symL; repeat' split
  all_goals simp
theorem textL_len : ∀ l : List Nat, (textL l).length ≤ 3 * l.length
  | [] => by simp [textL]
  | b :: r => by
    have := textL_len r
    have h1 := symL_len b
    unfold textL at this ⊢
    rw [List.flatMap_cons, List.length_append, List.length_cons]
    omega
theorem valid_sym (b : Nat) (t : List UInt8) : validD (symL b ++ t) = validD t := by
  unfold symL
  repeat' split
  all_goals first
    | exact validD_cons _ _ (by decide)
    | skip
  show validD (226 :: 130 :: 172 :: t) = validD t
  rw [validD_step _ (by simp), decodeL_N]
  have e : decodeN (226 :: 130 :: 172 :: t).length (((226 : UInt8) :: 130 :: 172 :: t).getD 0 0).toNat (((226 : UInt8) :: 130 :: 172 :: t).getD 1 0).toNat (((226 : UInt8) :: 130 :: 172 :: t).getD 2 0).toNat (((226 : UInt8) :: 130 :: 172 :: t).getD 3 0).toNat = (8364, 3) := by
    simp [decodeN]
  rw [e]
  simp
theorem textL_valid : ∀ l : List Nat, validD (textL l) = true
  | [] => rfl
  | b :: r => by
    unfold textL
    rw [List.flatMap_cons, valid_sym]
    exact textL_valid r
end Go.Proofs.Wy

/- Patterns, read character by character, with a list of what is open: in plain terms, at characters that are no classes and no escapes. -/
namespace Go.Proofs.Wy
open Go Go.Lib

structure Op where
  seqs : List Nd
  items : List Nd
  group : Bool
def closedM (k : Int) : List Nd → Nd
  | [] => .mk 1 [] 0 0 false []
  | [t] => t
  | l => .mk k [] 0 0 false l
def wholeM (o : Op) : Nd := closedM 4 (o.seqs ++ [closedM 3 o.items])
def metas : List Nat := [92, 46, 91, 93, 40, 41, 123, 125, 42, 43, 63, 124, 94, 36]
def byteAt (s : ByteArray) (i : Nat) : Nat := (s.get! i).toNat
/-- the point at a place: one byte, or two -/
def pointM (s : ByteArray) (i : Nat) : Option (Nat × Nat) :=
  if byteAt s i < 128 then some (byteAt s i, 1)
  else if 192 ≤ byteAt s i ∧ byteAt s i < 224 ∧ i + 2 ≤ s.size ∧ 128 ≤ byteAt s (i + 1) ∧ byteAt s (i + 1) < 192 ∧ 128 ≤ 64 * (byteAt s i - 192) + (byteAt s (i + 1) - 128) then some (64 * (byteAt s i - 192) + (byteAt s (i + 1) - 128), 2)
  else none
def setM (s : ByteArray) (i : Nat) : Option (List Rg × Nat) :=
  match pointM s i with
  | some (c, n) => if c ∈ metas then none else some ([⟨c, c⟩], n)
  | none => none
/-- least, most, how many bytes -/
def quantM (s : ByteArray) (i : Nat) : Option (Int × Int × Nat) :=
  if s.size ≤ i then some (0, 0, 0)
  else if byteAt s i = 42 then some (0, -1, 1)
  else if byteAt s i = 43 then some (1, -1, 1)
  else if byteAt s i = 63 then some (0, 1, 1)
  else if byteAt s i = 123 then none
  else some (0, 0, 0)
def topM (st : List Op) : Op := st.getLastD ⟨[], [], false⟩
def pushM (st : List Op) (t : Nd) : List Op := st.dropLast ++ [{ topM st with items := (topM st).items ++ [t] }]
def lazyM (s : ByteArray) (i : Nat) : Bool := decide (i < s.size) && decide (byteAt s i = 63)
def addM (s : ByteArray) (i : Nat) (st : List Op) (t : Nd) : Option (Nat × List Op) :=
  match quantM s i with
  | none => none
  | some (lo, hi, k) =>
    if k = 0 then some (i, pushM st t)
    else some (i + k + if lazyM s (i + k) then 1 else 0, pushM st (.mk 5 [] lo hi (lazyM s (i + k)) [t]))
def stepM (s : ByteArray) (i : Nat) (st : List Op) : Option (Nat × List Op) :=
  if byteAt s i = 124 then some (i + 1, st.dropLast ++ [{ topM st with seqs := (topM st).seqs ++ [closedM 3 (topM st).items], items := [] }])
  else if byteAt s i = 40 then
    if i + 2 < s.size ∧ byteAt s (i + 1) = 63 ∧ byteAt s (i + 2) = 58 then some (i + 3, st ++ [⟨[], [], false⟩]) else some (i + 1, st ++ [⟨[], [], true⟩])
  else if byteAt s i = 41 then
    if st.length ≤ 1 then none
    else addM s (i + 1) st.dropLast (if (topM st).group then .mk 6 [] 0 0 false [wholeM (topM st)] else wholeM (topM st))
  else match setM s i with
    | none => none
    | some (l, n) => addM s (i + n) st (.mk 2 l 0 0 false [])
def readM (s : ByteArray) : Nat → Nat → List Op → Option Nd
  | 0, _, _ => none
  | k + 1, i, st =>
    if i < s.size then match stepM s i st with
      | none => none
      | some (j, st') => readM s k j st'
    else match st with
      | [o] => some (wholeM o)
      | _ => none
def parseM (s : ByteArray) : Option Nd := readM s (s.size + 1) 0 [⟨[], [], false⟩]
end Go.Proofs.Wy

/- A region whose order of evaluation is open, with one operation in the midst that writes: all that stand before it in the text come before it, and all behind it come after it, by the region's own edges. One walk in the order of the text serves every order. -/
namespace Go
open RowKit

section
variable {P : Program} {ops : Array Oper} {A B : World → Prop} {s : Nat} {R : Act → Prop} {j : Nat} {o : Oper} {rest : List Oper} {a : Act} {v : Value}
end

namespace Flow
section
variable {P : Program} {ops : Array Oper} {A B : World → Prop} {s : Nat}

end
end Flow

end Go

/- A region whose order of evaluation is open, with calls that hand back what they made: the values of such calls are known by what is true of them alone. One walk in the order of the text serves every order. -/
namespace Go
open RowKit

/-- what is asked of the marked ones: each stands behind all that are open, by the region's own edges -/
def okN (ops : Array Oper) (nd bd : List Nat) : Bool :=
  bd.all fun j => nd.all fun i => !decide (i < j) || ((Region.before ops).getD j 0).testBit i

def factsN (nd : List Nat) (V : Nat → Value → World → Prop) (u : Nat → Value) (j : Nat) (w : World) : Prop := ∀ i, i ∈ nd → i < j → V i (u i) w

def flowAtU (P : Program) (ops : Array Oper) (W : World → Prop) (nd bd : List Nat) (V : Nat → Value → World → Prop) (u : Nat → Value) (j : Nat) (A : Value → World → Prop) (o : Oper) (a : Act) : Prop :=
  if Region.wanted o (yielded ops a.tmps) then ∀ w, W w → (j ∈ bd → factsN nd V u j w) → ∀ K : Act → World → Prop, (∀ v w', Below w.heap.size w w' → A v w' → K (a.put o.dst v) w') → o.wp P a w K (fun _ _ _ => False)
  else ∀ w, W w → (j ∈ bd → factsN nd V u j w) → A undef w

def flowN (P : Program) (ops : Array Oper) (W : World → Prop) (nd bd : List Nat) (V : Nat → Value → World → Prop) (u : Nat → Value) (R : Act → Prop) : Nat → List (Option Value) → List Oper → Act → Prop
  | j, some v :: vs, o :: rest, a => flowAtU P ops W nd bd V u j (fun x _ => x = v) o a ∧ flowN P ops W nd bd V u R (j + 1) vs rest (a.put o.dst v)
  | j, none :: vs, o :: rest, a => flowAtU P ops W nd bd V u j (V j) o a ∧ flowN P ops W nd bd V u R (j + 1) vs rest (a.put o.dst (u j))
  | _, [], [], a => R a
  | _, _, _, _ => False

section
variable {P : Program} {ops : Array Oper} {W : World → Prop} {nd bd : List Nat} {V : Nat → Value → World → Prop} {u : Nat → Value} {R : Act → Prop} {j : Nat} {o : Oper} {rest : List Oper} {a : Act} {v : Value} {vs : List (Option Value)}
theorem flowN_yes (hw : Region.wanted o (yielded ops a.tmps) = true)
    (h : ∀ w, W w → ∀ K : Act → World → Prop, (∀ w', Below w.heap.size w w' → K (a.put o.dst v) w') → o.wp P a w K (fun _ _ _ => False)) (k : flowN P ops W nd bd V u R (j + 1) vs rest (a.put o.dst v)) :
    flowN P ops W nd bd V u R j (some v :: vs) (o :: rest) a := ⟨by unfold flowAtU; rw [if_pos hw]; exact fun w hw' _ K hK => h w hw' K fun w' hb => hK v w' hb rfl, k⟩
theorem flowN_no (hw : Region.wanted o (yielded ops a.tmps) = false) (k : flowN P ops W nd bd V u R (j + 1) vs rest (a.put o.dst undef)) :
    flowN P ops W nd bd V u R j (some undef :: vs) (o :: rest) a := ⟨by unfold flowAtU; rw [if_neg (by simp [hw])]; exact fun _ _ _ => rfl, k⟩
theorem flowN_open (hw : Region.wanted o (yielded ops a.tmps) = true)
    (h : ∀ w, W w → (j ∈ bd → factsN nd V u j w) → ∀ K : Act → World → Prop, (∀ v w', Below w.heap.size w w' → V j v w' → K (a.put o.dst v) w') → o.wp P a w K (fun _ _ _ => False)) (k : flowN P ops W nd bd V u R (j + 1) vs rest (a.put o.dst (u j))) :
    flowN P ops W nd bd V u R j (none :: vs) (o :: rest) a := ⟨by unfold flowAtU; rw [if_pos hw]; exact h, k⟩
theorem flowN_end (h : R a) : flowN P ops W nd bd V u R j [] [] a := h
end

namespace Flow
section
variable {P : Program} {ops : Array Oper} {W : World → Prop} {nd bd : List Nat} {V : Nat → Value → World → Prop}

theorem actOf_vs (l : List Oper) (us vs : Nat → Value) (a : Act) (S : Nat → Bool) : ∀ n, (∀ i, i < n → S i = true → us i = vs i) → actOf l us a S n = actOf l vs a S n
  | 0, _ => rfl
  | n + 1, h => by
    simp only [actOf]
    rw [actOf_vs l us vs a S n (fun i hi => h i (by omega))]
    split
    · split
      · rename_i hs; rw [h n (by omega) hs]
      · rfl
    · rfl

theorem flowN_out {R : Act → Prop} {u : Nat → Value} : ∀ (l : List Oper) (vs : List (Option Value)) (j : Nat) (a : Act), flowN P ops W nd bd V u R j vs l a →
    (∀ i o, l[i]? = some o → flowAtU P ops W nd bd V u (j + i) (fun v w => match vs[i]? with | some (some v0) => v = v0 | _ => V (j + i) v w) o (actAt l (fun i => match vs[i]? with | some (some v) => v | _ => u (j + i)) a i)) ∧ R (actAt l (fun i => match vs[i]? with | some (some v) => v | _ => u (j + i)) a l.length)
  | [], [], _, a, h => ⟨by simp, h⟩
  | [], some _ :: _, _, a, h => h.elim
  | [], none :: _, _, a, h => h.elim
  | _ :: _, [], _, a, h => h.elim
  | o :: rest, some v :: vs, j, a, ⟨h, k⟩ => by
    obtain ⟨h1, h2⟩ := flowN_out rest vs (j + 1) (a.put o.dst v) k
    have key : ∀ n, actAt (o :: rest) (fun i => match (some v :: vs)[i]? with | some (some v) => v | _ => u (j + i)) a (n + 1) = actAt rest (fun i => match vs[i]? with | some (some v) => v | _ => u (j + 1 + i)) (a.put o.dst v) n := by
      intro n
      induction n with
      | zero => rfl
      | succ n ih =>
        rw [actAt, ih, actAt]
        simp only [List.getElem?_cons_succ, show j + (n + 1) = j + 1 + n by omega]
    refine ⟨fun i p hi => ?_, ?_⟩
    · cases i with
      | zero => simp at hi; subst hi; exact h
      | succ i =>
        rw [key]
        have := h1 i p (by simpa using hi)
        simpa only [List.getElem?_cons_succ, show j + (i + 1) = j + 1 + i by omega] using this
    · rw [List.length_cons, key]; exact h2
  | o :: rest, none :: vs, j, a, ⟨h, k⟩ => by
    obtain ⟨h1, h2⟩ := flowN_out rest vs (j + 1) (a.put o.dst (u j)) k
    have key : ∀ n, actAt (o :: rest) (fun i => match (none :: vs)[i]? with | some (some v) => v | _ => u (j + i)) a (n + 1) = actAt rest (fun i => match vs[i]? with | some (some v) => v | _ => u (j + 1 + i)) (a.put o.dst (u j)) n := by
      intro n
      induction n with
      | zero => rfl
      | succ n ih =>
        rw [actAt, ih, actAt]
        simp only [List.getElem?_cons_succ, show j + (n + 1) = j + 1 + n by omega]
    refine ⟨fun i p hi => ?_, ?_⟩
    · cases i with
      | zero => simp at hi; subst hi; exact h
      | succ i =>
        rw [key]
        have := h1 i p (by simpa using hi)
        simpa only [List.getElem?_cons_succ, show j + (i + 1) = j + 1 + i by omega] using this
    · rw [List.length_cons, key]; exact h2

theorem flowAtU_over {Q : Exit → Act → World → Prop} {o : Oper} {A a : Act} {i : Nat} {w : World} {u : Nat → Value} {B : Value → World → Prop} (hi : ops[i]? = some o) (h : flowAtU P ops W nd bd V u i B o A)
    (hs : ∀ cs b, o.op ≠ .select cs b) (hz : A.tmps.size = a.tmps.size) (hn : ∀ t, t ∈ o.looksAt ops → a.tmps[t]? = A.tmps[t]?) (hw : W w) (hF : i ∈ bd → factsN nd V u i w) {K : Act → World → Prop}
    (hK : ∀ v w', Below w.heap.size w w' → B v w' → K (a.put o.dst v) w') : wpOp P ops Q i K a w := by
  unfold wpOp
  simp only [hi]
  rw [wanted_same hn]
  unfold flowAtU at h
  split
  · rename_i hwn
    rw [if_pos hwn] at h
    refine .inl ?_
    have h1 := h w hw hF (fun x w'' => (∀ z, x = A.put o.dst z → K (a.put o.dst z) w'') ∧ x.defers = A.defers) (fun v w' hb hB => ⟨fun z hz' => by rw [← put_inj hz hz']; exact hK v w' hb hB, by cases o.dst <;> rfl⟩)
    unfold Oper.wp at h1 ⊢
    rw [exec_same hs hn]
    generalize (execOp A.eval o).run P w = r at h1
    cases r with
    | ok n w' =>
      cases n <;> simp only [Oper.upon] at h1 ⊢
      case value x => exact h1.1 x rfl
      case skip => exact h1.1 _ rfl
      case defer d =>
        have h2 := congrArg List.length h1.2
        cases hd : o.dst <;> simp [hd, Act.put] at h2
      case enter f args =>
        refine Calls.mono h1 fun e w'' he => ?_
        cases e with
        | returned x => exact he.1 x rfl
        | panicked c => exact he.elim
        | outgrown => obtain ⟨_, _, hf⟩ := he; exact hf.elim
      case row row args => exact Rows.mono h1 fun x w'' he => he.1 x rfl
    | halt x w' => cases x <;> simp only [Oper.upon] at h1 ⊢
  · rename_i hwn
    rw [if_neg hwn] at h
    exact hK _ w (Below.refl _ _) (h w hw hF)

def pk (vs : List (Option Value)) (u : Nat → Value) (i : Nat) : Value := match vs[i]? with
  | some (some v) => v
  | _ => u i
end
end Flow

end Go
