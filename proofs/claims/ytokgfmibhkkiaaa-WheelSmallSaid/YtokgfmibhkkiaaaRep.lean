/- How a wheel lies in memory: its head, its map, a block a member. -/
import Derived.Test.YtokgfmibhkkiaaaProg
import Derived.Test.YtokgfmibhkkiaaaPlain
import Derived.Test.YtokgfmibhkkiaaaMem
import Derived.Maps.OwnSet
import Derived.Maps.OwnOps
import Derived.Maps.Ext
import Derived.KernelRfl
namespace Go.Proofs.Ytokgfmibhkkiaaa
open Go.RowKit Wh Mem Go.Maps

/-- a member: its ID, its block, its plan, its phase -/
structure Mb where
  id : Int
  blk : Nat
  plan : Plan
  phase : Phase

def memD (l : List Mb) : DataW Unit := .map (l.map fun m => (.int .i64 m.id, .lit (.int .i64 m.blk)))

/-- how an element of the map reads: nil, or the number of a block -/
def Rp : Value → Option (DataW Unit × List MemPlace)
  | .pointer none => some (.nil, [])
  | .pointer (some ⟨b, 0, none⟩) => some (.lit (.int .i64 b), [])
  | _ => none

theorem Rp_nil {v : Value} {ps : List MemPlace} (h : Rp v = some (.nil, ps)) : v = .pointer none := by
  unfold Rp at h
  split at h
  · rfl
  · simp at h
  · cases h
theorem Rp_blk {v : Value} {b : Nat} {ps : List MemPlace} (h : Rp v = some (.lit (.int .i64 b), ps)) : v = .pointer (some ⟨b, 0, none⟩) := by
  unfold Rp at h
  split at h
  · simp at h
  · rename_i b'
    simp at h
    have e : b' = b := by omega
    rw [e]
  · cases h

def Ids (l : List Mb) : Prop := l.Pairwise (fun a b => a.id < b.id)
/-- a member more, in the order of IDs -/
def ins (m : Mb) : List Mb → List Mb
  | [] => [m]
  | x :: r => if m.id < x.id then m :: x :: r else x :: ins m r
def findM (l : List Mb) (id : Int) : Option Mb := l.find? fun m => decide (m.id = id)
def dropM (l : List Mb) (id : Int) : List Mb := l.filter fun m => !decide (m.id = id)

theorem memD_atKey (l : List Mb) (id : Int) (z : DataW Unit) : (memD l).atKey (.int .i64 id) z = match findM l id with | some m => .lit (.int .i64 m.blk) | none => z := by
  unfold memD DataW.atKey findM
  simp only [List.find?_map]
  have : ((fun p : Lit × DataW Unit => p.1.sameKey (.int .i64 id)) ∘ fun m : Mb => ((.int .i64 m.id : Lit), (.lit (.int .i64 m.blk) : DataW Unit))) = fun m : Mb => decide (m.id = id) := by
    funext m; simp [Lit.sameKey]
  rw [this]
  cases l.find? (fun m => decide (m.id = id)) <;> rfl
theorem memD_size (l : List Mb) : Maps.size (memD l) = l.length := by simp [memD, Maps.size]
theorem insert_ins (m : Mb) : ∀ l : List Mb, DataW.insert ((.int .i64 m.id : Lit), (.lit (.int .i64 m.blk) : DataW Unit)) (l.map fun m => ((.int .i64 m.id : Lit), (.lit (.int .i64 m.blk) : DataW Unit))) = (ins m l).map fun m => (.int .i64 m.id, .lit (.int .i64 m.blk))
  | [] => rfl
  | x :: r => by
    simp only [List.map_cons, DataW.insert, ins, Lit.before, decide_eq_true_eq]
    split
    · simp
    · rw [insert_ins m r]; simp
theorem filter_free {l : List Mb} {id : Int} (h : findM l id = none) : (l.map fun m => ((.int .i64 m.id : Lit), (.lit (.int .i64 m.blk) : DataW Unit))).filter (fun p => !p.1.sameKey (.int .i64 id)) = l.map fun m => (.int .i64 m.id, .lit (.int .i64 m.blk)) := by
  rw [List.filter_eq_self]
  intro p hp
  rw [List.mem_map] at hp
  obtain ⟨m, hm, rfl⟩ := hp
  unfold findM at h
  rw [List.find?_eq_none] at h
  have := h m hm
  simpa [Lit.sameKey] using this
theorem memD_put {l : List Mb} (m : Mb) (h : findM l m.id = none) : (memD l).put (.int .i64 m.id) (.lit (.int .i64 m.blk)) = memD (ins m l) := by
  unfold memD DataW.put
  simp only [filter_free h, insert_ins]
theorem memD_del (l : List Mb) (id : Int) : (memD l).del (.int .i64 id) = memD (dropM l id) := by
  unfold memD DataW.del dropM
  simp only [List.filter_map]
  congr 2
  refine List.filter_congr fun m _ => ?_
  simp [Lit.sameKey]

theorem findM_some {l : List Mb} {id : Int} {m : Mb} (h : findM l id = some m) : m ∈ l ∧ m.id = id := by
  unfold findM at h
  exact ⟨List.mem_of_find?_eq_some h, by simpa using List.find?_some h⟩
theorem findM_none {l : List Mb} {id : Int} (h : findM l id = none) : ∀ m ∈ l, m.id ≠ id := by
  unfold findM at h
  rw [List.find?_eq_none] at h
  intro m hm
  simpa using h m hm
theorem mem_ins {m x : Mb} : ∀ {l : List Mb}, x ∈ ins m l ↔ x = m ∨ x ∈ l
  | [] => by simp [ins]
  | y :: r => by
    unfold ins
    split
    · simp
    · simp only [List.mem_cons, mem_ins (l := r)]
      constructor
      · rintro (h | h | h)
        · exact .inr (.inl h)
        · exact .inl h
        · exact .inr (.inr h)
      · rintro (h | h | h)
        · exact .inr (.inl h)
        · exact .inl h
        · exact .inr (.inr h)
theorem ids_ins {m : Mb} : ∀ {l : List Mb}, Ids l → (∀ x ∈ l, x.id ≠ m.id) → Ids (ins m l)
  | [], _, _ => by simp [ins, Ids]
  | y :: r, h, hn => by
    unfold ins
    have h' := List.pairwise_cons.1 h
    split
    · rename_i hlt
      refine List.pairwise_cons.2 ⟨fun x hx => ?_, h⟩
      rcases List.mem_cons.1 hx with rfl | hx
      · exact hlt
      · have := h'.1 x hx; omega
    · rename_i hge
      refine List.pairwise_cons.2 ⟨fun x hx => ?_, ids_ins h'.2 (fun x hx => hn x (List.mem_cons_of_mem _ hx))⟩
      rcases mem_ins.1 hx with rfl | hx
      · have := hn y (by simp); omega
      · exact h'.1 x hx
theorem length_ins (m : Mb) : ∀ l : List Mb, (ins m l).length = l.length + 1
  | [] => rfl
  | y :: r => by unfold ins; split <;> simp [length_ins m r]
theorem ids_drop {l : List Mb} (h : Ids l) (id : Int) : Ids (dropM l id) := h.filter _

def mcells (m : Mb) : Array Value := #[.int .i64 m.plan.every, .int .i64 m.plan.offset, .int .i64 m.plan.timeout, .int .u8 m.phase.state, .int .i64 m.phase.since]

theorem keyed3 : Keyed Try.prog 3 := int_keyed (q := .i64) (by kernel_rfl)
theorem under77 : Try.prog.underlying 77 = some (.map 3 80) := by kernel_rfl
theorem under3 : Try.prog.underlying 3 = some (.int .i64) := by kernel_rfl
theorem zero80 (w : World) : (zeroValue 80).run Try.prog w = .ok (.pointer none) w := by kernel_rfl

/-- a wheel at block pb, its map at block mb -/
structure WheelAt (w : World) (pb mb : Nat) (now : Int) (l : List Mb) : Prop where
  head : Blk w pb #[.bool true, .int .i64 now, .map (some mb)] 79
  map : w.ownsMap Try.prog 3 Rp mb l.length (memD l)
  mem : ∀ m ∈ l, Blk w m.blk (mcells m) 83
  ids : Ids l
  range : ∀ m ∈ l, 0 ≤ m.id ∧ m.id ≤ 4294967295
  fits : ∀ m ∈ l, Fits m.plan m.phase now
  apart : l.Pairwise (fun a b => a.blk ≠ b.blk)

/-- the blocks of a wheel -/
def Foot (pb mb : Nat) (l : List Mb) (k : Nat) : Prop := k = pb ∨ k = mb ∨ ∃ m ∈ l, m.blk = k

theorem ownsMap_exact {w : World} {mb n : Nat} {l : List Mb} (h : w.ownsMap Try.prog 3 Rp mb n (memD l)) : w.ownsMap Try.prog 3 Rp mb l.length (memD l) := by
  obtain ⟨es, clock, hb, F, hs, hD⟩ := h
  refine ⟨es, clock, hb, F, ?_, hD⟩
  have := congrArg Maps.size hD
  rw [memD_size] at this
  rw [this]
  simp only [Maps.size]
  rw [length_read]
  exact Nat.le_refl _

theorem wf_id {id : Int} (h : 0 ≤ id ∧ id ≤ 4294967295) : (Lit.int .i64 id).wf = true := WalkArith.wf_i64 (by omega)

theorem look_some {W : World} {mb n : Nat} {l : List Mb} (h : W.ownsMap Try.prog 3 Rp mb n (memD l)) {id : Int} (hw : (Lit.int .i64 id).wf = true) {m : Mb} (hm : findM l id = some m) :
    (Instr.lookup 77 (.map (some mb)) (.int .i64 id) false).run Try.prog W = .ok (.pointer (some ⟨m.blk, 0, none⟩)) W := by
  obtain ⟨v, ps, hr, hv⟩ := h.lookup keyed3 under77 (zero80 W) (zd := .nil) (zp := []) rfl (keyOf_int_mk under3 hw)
  rw [memD_atKey, hm] at hv
  rw [hr, Rp_blk hv]
theorem look_none {W : World} {mb n : Nat} {l : List Mb} (h : W.ownsMap Try.prog 3 Rp mb n (memD l)) {id : Int} (hw : (Lit.int .i64 id).wf = true) (hm : findM l id = none) :
    (Instr.lookup 77 (.map (some mb)) (.int .i64 id) false).run Try.prog W = .ok (.pointer none) W := by
  obtain ⟨v, ps, hr, hv⟩ := h.lookup keyed3 under77 (zero80 W) (zd := .nil) (zp := []) rfl (keyOf_int_mk under3 hw)
  rw [memD_atKey, hm] at hv
  rw [hr, Rp_nil hv]

theorem map_kept {w w' : World} {X : Nat → Prop} {mb n : Nat} {D : DataW Unit} (h : w.ownsMap Try.prog 3 Rp mb n D) (k : Kept X w w') (hx : ¬ X mb) : w'.ownsMap Try.prog 3 Rp mb n D := by
  have hlt := h.lt
  obtain ⟨es, clock, hb, F, hs, hD⟩ := h
  exact ⟨es, clock, (k.block mb hlt hx).trans hb, F, hs, hD⟩

theorem WheelAt.kept {w w' : World} {X : Nat → Prop} {pb mb : Nat} {now : Int} {l : List Mb} (h : WheelAt w pb mb now l) (k : Kept X w w') (hx : ∀ i, Foot pb mb l i → ¬ X i) : WheelAt w' pb mb now l :=
  ⟨h.head.kept k (hx _ (.inl rfl)), map_kept h.map k (hx _ (.inr (.inl rfl))), fun m hm => (h.mem m hm).kept k (hx _ (.inr (.inr ⟨m, hm, rfl⟩))), h.ids, h.range, h.fits, h.apart⟩
theorem WheelAt.lt {w : World} {pb mb : Nat} {now : Int} {l : List Mb} (h : WheelAt w pb mb now l) {k : Nat} (hk : Foot pb mb l k) : k < w.heap.size := by
  rcases hk with rfl | rfl | ⟨m, hm, rfl⟩
  · exact h.head.lt
  · exact h.map.lt
  · exact (h.mem m hm).lt
theorem WheelAt.below {w w' : World} {pb mb : Nat} {now : Int} {l : List Mb} (h : WheelAt w pb mb now l) (k : Below w.heap.size w w') : WheelAt w' pb mb now l :=
  h.kept (Kept.of_below k (fun _ => False)) (fun _ _ h => h)
theorem WheelAt.pb_ne_mb {w : World} {pb mb : Nat} {now : Int} {l : List Mb} (h : WheelAt w pb mb now l) : pb ≠ mb := by
  rintro rfl
  obtain ⟨es, clock, hb, _⟩ := h.map
  have := h.head
  unfold Blk at this
  rw [hb] at this
  cases this
theorem WheelAt.mem_ne {w : World} {pb mb : Nat} {now : Int} {l : List Mb} (h : WheelAt w pb mb now l) {m : Mb} (hm : m ∈ l) : m.blk ≠ pb ∧ m.blk ≠ mb := by
  refine ⟨(h.mem m hm).ne h.head (by simp [mcells]), ?_⟩
  rintro e
  obtain ⟨es, clock, hb, _⟩ := h.map
  have := h.mem m hm
  unfold Blk at this
  rw [e, hb] at this
  cases this
theorem WheelAt.now_tick {w : World} {pb mb : Nat} {now : Int} {l : List Mb} (h : WheelAt w pb mb now l) : ∀ m ∈ l, Tick now := fun m hm => (h.fits m hm).2.1

/-! ### one member turned, put in, taken out -/
def setP (m : Mb) (ph : Phase) : Mb := { m with phase := ph }
def setM (l : List Mb) (id : Int) (ph : Phase) : List Mb := l.map fun m => if m.id = id then setP m ph else m

theorem Kept.of_grown {w w' : World} {b : Nat} (h : w.grownBy w' (some b)) : Kept (fun k => k = b) w w' :=
  ⟨h.os, h.tape, h.output, h.size, fun k hk hx => h.block k hk (by simpa using hx)⟩

theorem memD_setM (l : List Mb) (id : Int) (ph : Phase) : memD (setM l id ph) = memD l := by
  unfold memD setM
  rw [List.map_map]
  congr 1
  refine List.map_congr_left fun m _ => ?_
  simp only [Function.comp]
  split <;> rfl
theorem mem_setM {l : List Mb} {id : Int} {ph : Phase} {x : Mb} (h : x ∈ setM l id ph) : ∃ m ∈ l, x = if m.id = id then setP m ph else m := by
  unfold setM at h; rw [List.mem_map] at h; obtain ⟨m, hm, e⟩ := h; exact ⟨m, hm, e.symm⟩
theorem ids_eq {l : List Mb} (h : Ids l) {a b : Mb} (ha : a ∈ l) (hb : b ∈ l) (e : a.id = b.id) : a = b := by
  induction l with
  | nil => cases ha
  | cons x r ih =>
    have h' := List.pairwise_cons.1 h
    rcases List.mem_cons.1 ha with rfl | ha' <;> rcases List.mem_cons.1 hb with rfl | hb'
    · rfl
    · have := h'.1 b hb'; omega
    · have := h'.1 a ha'; omega
    · exact ih h'.2 ha' hb'
theorem blk_ne {l : List Mb} (h : l.Pairwise (fun a b => a.blk ≠ b.blk)) {a b : Mb} (ha : a ∈ l) (hb : b ∈ l) (e : a.id ≠ b.id) : a.blk ≠ b.blk := by
  induction l with
  | nil => cases ha
  | cons x r ih =>
    have h' := List.pairwise_cons.1 h
    rcases List.mem_cons.1 ha with rfl | ha' <;> rcases List.mem_cons.1 hb with rfl | hb'
    · exact absurd rfl e
    · exact h'.1 b hb'
    · exact fun g => h'.1 a ha' g.symm
    · exact ih h'.2 ha' hb'
theorem setM_blk {id : Int} {ph : Phase} (m : Mb) : (if m.id = id then setP m ph else m).blk = m.blk ∧ (if m.id = id then setP m ph else m).id = m.id ∧ (if m.id = id then setP m ph else m).plan = m.plan := by
  split <;> exact ⟨rfl, rfl, rfl⟩

theorem foot_setM {pb mb : Nat} {l : List Mb} {id : Int} {ph : Phase} {k : Nat} : Foot pb mb (setM l id ph) k ↔ Foot pb mb l k := by
  unfold Foot
  have : (∃ m ∈ setM l id ph, m.blk = k) ↔ ∃ m ∈ l, m.blk = k := by
    constructor
    · rintro ⟨x, hx, rfl⟩
      obtain ⟨m, hm, rfl⟩ := mem_setM hx
      exact ⟨m, hm, (setM_blk m).1.symm⟩
    · rintro ⟨m, hm, rfl⟩
      exact ⟨_, List.mem_map.2 ⟨m, hm, rfl⟩, (setM_blk m).1⟩
  rw [this]

/-- a member's phase, written. -/
theorem WheelAt.turned {w w' : World} {pb mb : Nat} {now : Int} {l : List Mb} (h : WheelAt w pb mb now l) {m : Mb} (hm : m ∈ l) {ph : Phase} (k : Kept (fun k => k = m.blk) w w')
    (hb : Blk w' m.blk (mcells (setP m ph)) 83) (hf : Fits m.plan ph now) : WheelAt w' pb mb now (setM l m.id ph) := by
  obtain ⟨n1, n2⟩ := h.mem_ne hm
  refine ⟨h.head.kept k n1.symm, ?_, ?_, ?_, ?_, ?_, ?_⟩
  · rw [memD_setM]
    have := map_kept h.map k n2.symm
    simpa [setM] using this
  · intro x hx
    obtain ⟨y, hy, rfl⟩ := mem_setM hx
    by_cases e : y.id = m.id
    · rw [if_pos e]
      have := ids_eq h.ids hy hm e
      subst this
      exact hb
    · rw [if_neg e]
      exact (h.mem y hy).kept k (blk_ne h.apart hy hm e)
  · unfold Ids setM
    rw [List.pairwise_map]
    refine h.ids.imp fun {a b} hab => ?_
    rw [(setM_blk a).2.1, (setM_blk b).2.1]; exact hab
  · intro x hx
    obtain ⟨y, hy, rfl⟩ := mem_setM hx
    rw [(setM_blk y).2.1]; exact h.range y hy
  · intro x hx
    obtain ⟨y, hy, rfl⟩ := mem_setM hx
    by_cases e : y.id = m.id
    · rw [if_pos e]
      have := ids_eq h.ids hy hm e
      subst this
      exact hf
    · rw [if_neg e]; exact h.fits y hy
  · unfold setM
    rw [List.pairwise_map]
    refine h.apart.imp fun {a b} hab => ?_
    rw [(setM_blk a).1, (setM_blk b).1]; exact hab

theorem mem_dropM {l : List Mb} {id : Int} {x : Mb} : x ∈ dropM l id ↔ x ∈ l ∧ x.id ≠ id := by
  unfold dropM; rw [List.mem_filter]; simp
/-- a member, taken out. -/
theorem WheelAt.dropped {w w' : World} {pb mb : Nat} {now : Int} {l : List Mb} (h : WheelAt w pb mb now l) (id : Int) (k : Kept (fun k => k = mb) w w') {n : Nat}
    (hown : w'.ownsMap Try.prog 3 Rp mb n (memD (dropM l id))) : WheelAt w' pb mb now (dropM l id) :=
  ⟨h.head.kept k h.pb_ne_mb, ownsMap_exact hown, fun m hm => (h.mem m (mem_dropM.1 hm).1).kept k (h.mem_ne (mem_dropM.1 hm).1).2, ids_drop h.ids id, fun m hm => h.range m (mem_dropM.1 hm).1,
    fun m hm => h.fits m (mem_dropM.1 hm).1, h.apart.filter _⟩
/-- a member, put in. -/
theorem WheelAt.added {w w' : World} {pb mb : Nat} {now : Int} {l : List Mb} (h : WheelAt w pb mb now l) (m : Mb) (hn : findM l m.id = none) (hr : 0 ≤ m.id ∧ m.id ≤ 4294967295) (hf : Fits m.plan m.phase now)
    (hnew : w.heap.size ≤ m.blk) (k : Kept (fun k => k = mb) w w') (hb : Blk w' m.blk (mcells m) 83) {n : Nat} (hown : w'.ownsMap Try.prog 3 Rp mb n (memD (ins m l))) : WheelAt w' pb mb now (ins m l) := by
  refine ⟨h.head.kept k h.pb_ne_mb, ownsMap_exact hown, ?_, ids_ins h.ids (findM_none hn), ?_, ?_, ?_⟩
  · intro x hx
    rcases mem_ins.1 hx with rfl | hx
    · exact hb
    · exact (h.mem x hx).kept k (h.mem_ne hx).2
  · intro x hx
    rcases mem_ins.1 hx with rfl | hx
    · exact hr
    · exact h.range x hx
  · intro x hx
    rcases mem_ins.1 hx with rfl | hx
    · exact hf
    · exact h.fits x hx
  · have hlt : ∀ x ∈ l, x.blk < w.heap.size := fun x hx => (h.mem x hx).lt
    have ha := h.apart
    clear h hown hb hn hr hf
    induction l with
    | nil => simp [ins]
    | cons y r ih =>
      have ha' := List.pairwise_cons.1 ha
      unfold ins
      split
      · refine List.pairwise_cons.2 ⟨fun x hx => ?_, ha⟩
        have := hlt x hx; omega
      · refine List.pairwise_cons.2 ⟨fun x hx => ?_, ih (fun x hx => hlt x (List.mem_cons_of_mem _ hx)) ha'.2⟩
        rcases mem_ins.1 hx with rfl | hx
        · have := hlt y (by simp); omega
        · exact ha'.1 x hx

theorem foot_drop {pb mb : Nat} {l : List Mb} {id : Int} {k : Nat} (h : Foot pb mb (dropM l id) k) : Foot pb mb l k := by
  rcases h with h | h | ⟨m, hm, h⟩
  · exact .inl h
  · exact .inr (.inl h)
  · exact .inr (.inr ⟨m, (mem_dropM.1 hm).1, h⟩)
theorem foot_ins {pb mb : Nat} {l : List Mb} {x : Mb} {k : Nat} (h : Foot pb mb (ins x l) k) : Foot pb mb l k ∨ k = x.blk := by
  rcases h with h | h | ⟨m, hm, h⟩
  · exact .inl (.inl h)
  · exact .inl (.inr (.inl h))
  · rcases mem_ins.1 hm with rfl | hm
    · exact .inr h.symm
    · exact .inl (.inr (.inr ⟨m, hm, h⟩))

/-- 'm[k] = v' at a step of a region whose order is open. -/
theorem step_mapUpdate {P : Program} {ops : Array Oper} {o : Oper} {a : Act} {w : World} {K : Act → World → Prop} {Q : Exit → Act → World → Prop} {E : Prop}
    (hg : o.guard = none) (m x v : Operand) (t : TypeId) (hop : o.op = Op.mapUpdate t m x v)
    (k e : TypeId) (KK : Keyed P k) (ht : P.underlying t = some (.map k e)) (R : Value → Option (DataW Unit × List MemPlace)) (b n : Nat) (D : DataW Unit)
    (hm : a.eval m = .map (some b)) (hown : w.ownsMap P k R b n D) (hn : n < maxLen) (key val : Value) (kl : Lit) (hx : a.eval x = key) (hv : a.eval v = val) (hkey : keyOf P k key = some kl)
    (d : DataW Unit) (ps : List MemPlace) (hval : R val = some (d, ps))
    (hK : ∀ w', w'.ownsMap P k R b (n + 1) (D.put kl d) → w.mapTurned w' b → K (a.put o.dst undef) w') :
    if Region.wanted o (yielded ops a.tmps) = true then Oper.wp P o a w K Q else E := by
  rw [if_pos (by simp [Region.wanted, hg])]
  obtain ⟨w', hrun, r1, r2⟩ := hown.store KK ht hn hkey hval
  unfold Oper.wp
  simp [execOp, hop, hm, hx, hv, hrun, Result.andThen]
  exact hK w' r1 r2
end Go.Proofs.Ytokgfmibhkkiaaa
