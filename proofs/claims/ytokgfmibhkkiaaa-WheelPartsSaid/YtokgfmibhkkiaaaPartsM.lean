/- WheelParts: the law's map of reports; two wheels with the same members. -/
import Derived.Test.YtokgfmibhkkiaaaParts
import Derived.Test.YtokgfmibhkkiaaaAlike
namespace Go.Proofs.Ytokgfmibhkkiaaa
open Go.RowKit Wh Mem Go.Maps

/-! ### the map -/
def encR (r : Report) : DataW Unit := .agg [.lit (.int .i64 r.begun), .lit (.int .i64 r.failed), .lit (.int .i64 r.skipped)]
def aggR (r : Report) : Value := .agg #[.int .i64 r.begun, .int .i64 r.failed, .int .i64 r.skipped]
def RR : Value → Option (DataW Unit × List MemPlace)
  | .agg cs => match cs.toList with
    | [.int .i64 a, .int .i64 b, .int .i64 c] => some (encR ⟨a, b, c⟩, [])
    | _ => none
  | _ => none
theorem RR_inv {v : Value} {r : Report} {ps : List MemPlace} (h : RR v = some (encR r, ps)) : v = aggR r := by
  unfold RR at h
  split at h
  · rename_i cs
    split at h
    · rename_i a b c e
      simp only [Option.some.injEq, Prod.mk.injEq, encR, DataW.agg.injEq, List.cons.injEq, DataW.lit.injEq, Lit.int.injEq, true_and, and_true] at h
      obtain ⟨⟨h1, h2, h3⟩, -⟩ := h
      unfold aggR
      rw [← h1, ← h2, ← h3]
      congr 1
      exact Array.toList_inj.1 e
    · cases h
  · cases h
def repD (xs : List (Int × Report)) : DataW Unit := .map (xs.map fun x => ((.int .i64 x.1 : Lit), encR x.2))
theorem under40 : Try.prog.underlying 40 = some (.map 3 43) := by kernel_rfl
theorem zero43 (w : World) : (zeroValue 43).run Try.prog w = .ok (.agg #[.int .i64 0, .int .i64 0, .int .i64 0]) w := by kernel_rfl
theorem key_comp (id : Int) : ((fun p : Lit × DataW Unit => p.1.sameKey (.int .i64 id)) ∘ fun x : Int × Report => ((.int .i64 x.1 : Lit), encR x.2)) = fun x => decide (x.1 = id) := by
  funext x; simp [Lit.sameKey]
theorem repD_atKey (xs : List (Int × Report)) (id : Int) (z : DataW Unit) : (repD xs).atKey (.int .i64 id) z = match lookR xs id with | some r => encR r | none => z := by
  unfold repD DataW.atKey lookR
  simp only [List.find?_map, key_comp]
  cases xs.find? (fun x => decide (x.1 = id)) <;> rfl
theorem repD_has (xs : List (Int × Report)) (id : Int) : Maps.has (repD xs) (.int .i64 id) = (lookR xs id).isSome := by
  unfold repD Maps.has lookR
  simp only [List.any_map, key_comp, Option.isSome_map, List.find?_isSome]
  rw [Bool.eq_iff_iff]
  simp
theorem repD_size (xs : List (Int × Report)) : Maps.size (repD xs) = xs.length := by simp [repD, Maps.size]
theorem insert_insR (x : Int × Report) : ∀ xs : List (Int × Report), DataW.insert ((.int .i64 x.1 : Lit), encR x.2) (xs.map fun x => ((.int .i64 x.1 : Lit), encR x.2)) = (insR x xs).map fun x => ((.int .i64 x.1 : Lit), encR x.2)
  | [] => rfl
  | y :: r => by
    simp only [List.map_cons, DataW.insert, insR, Lit.before, decide_eq_true_eq]
    split
    · simp
    · rw [insert_insR x r]; simp
theorem repD_put (xs : List (Int × Report)) (id : Int) (r : Report) : (repD xs).put (.int .i64 id) (encR r) = repD (putR xs id r) := by
  unfold repD DataW.put putR
  simp only [List.filter_map]
  have e : (xs.filter ((fun p : Lit × DataW Unit => !p.1.sameKey (.int .i64 id)) ∘ fun x : Int × Report => ((.int .i64 x.1 : Lit), encR x.2))) = xs.filter fun x => !decide (x.1 = id) := by
    refine List.filter_congr fun x _ => ?_
    simp [Lit.sameKey]
  rw [e, ← insert_insR (id, r)]
theorem own_exactR {w : World} {mb n : Nat} {xs : List (Int × Report)} (h : w.ownsMap Try.prog 3 RR mb n (repD xs)) : w.ownsMap Try.prog 3 RR mb xs.length (repD xs) := by
  obtain ⟨es, clock, hb, F, hs, hD⟩ := h
  refine ⟨es, clock, hb, F, ?_, hD⟩
  have := congrArg Maps.size hD
  rw [repD_size] at this
  rw [this]
  simp only [Maps.size]
  rw [length_read]
  exact Nat.le_refl _
theorem rmap_kept {w w' : World} {X : Nat → Prop} {mb n : Nat} {D : DataW Unit} (h : w.ownsMap Try.prog 3 RR mb n D) (k : Kept X w w') (hx : ¬ X mb) : w'.ownsMap Try.prog 3 RR mb n D := by
  have hlt := h.lt
  obtain ⟨es, clock, hb, F, hs, hD⟩ := h
  exact ⟨es, clock, (k.block mb hlt hx).trans hb, F, hs, hD⟩
theorem rlook_some {W : World} {mb n : Nat} {xs : List (Int × Report)} (h : W.ownsMap Try.prog 3 RR mb n (repD xs)) {id : Int} (hw : (Lit.int .i64 id).wf = true) {r : Report} (hr : lookR xs id = some r) :
    (Instr.lookup 40 (.map (some mb)) (.int .i64 id) true).run Try.prog W = .ok (.tuple #[aggR r, .bool true]) W := by
  obtain ⟨v, ps, hrun, hv⟩ := h.look_ok keyed3 under40 (zero43 W) (zd := encR ⟨0, 0, 0⟩) (zp := []) rfl (keyOf_int_mk under3 hw)
  rw [repD_atKey, hr] at hv
  rw [hrun, RR_inv hv, repD_has, hr]
  rfl
theorem rlook_none {W : World} {mb n : Nat} {xs : List (Int × Report)} (h : W.ownsMap Try.prog 3 RR mb n (repD xs)) {id : Int} (hw : (Lit.int .i64 id).wf = true) (hr : lookR xs id = none) :
    (Instr.lookup 40 (.map (some mb)) (.int .i64 id) true).run Try.prog W = .ok (.tuple #[.agg #[.int .i64 0, .int .i64 0, .int .i64 0], .bool false]) W := by
  obtain ⟨v, ps, hrun, hv⟩ := h.look_ok keyed3 under40 (zero43 W) (zd := encR ⟨0, 0, 0⟩) (zp := []) rfl (keyOf_int_mk under3 hw)
  rw [repD_atKey, hr] at hv
  rw [hrun, RR_inv (r := ⟨0, 0, 0⟩) hv, repD_has, hr]
  rfl
theorem rlook_one {W : World} {mb n : Nat} {xs : List (Int × Report)} (h : W.ownsMap Try.prog 3 RR mb n (repD xs)) {id : Int} (hw : (Lit.int .i64 id).wf = true) {r : Report} (hr : lookR xs id = some r) :
    (Instr.lookup 40 (.map (some mb)) (.int .i64 id) false).run Try.prog W = .ok (aggR r) W := by
  obtain ⟨v, ps, hrun, hv⟩ := h.lookup keyed3 under40 (zero43 W) (zd := encR ⟨0, 0, 0⟩) (zp := []) rfl (keyOf_int_mk under3 hw)
  rw [repD_atKey, hr] at hv
  rw [hrun, RR_inv hv]

/-! ### bounds -/
def Bd (n : Nat) (xs : List (Int × Report)) : Prop := (∀ p ∈ xs, 0 ≤ p.2.skipped ∧ p.2.skipped ≤ n * 1125899906842624) ∧ xs.length ≤ n
theorem length_insR (x : Int × Report) : ∀ xs : List (Int × Report), (insR x xs).length = xs.length + 1
  | [] => rfl
  | y :: r => by unfold insR; split <;> simp [length_insR x r]
theorem mem_insR {x y : Int × Report} : ∀ {xs : List (Int × Report)}, y ∈ insR x xs → y = x ∨ y ∈ xs
  | [], h => by simp [insR] at h; exact .inl h
  | z :: r, h => by
    unfold insR at h
    split at h
    · simpa using h
    · rcases List.mem_cons.1 h with h | h
      · exact .inr (by simp [h])
      · rcases mem_insR h with h | h
        · exact .inl h
        · exact .inr (List.mem_cons_of_mem _ h)
theorem look_mem {xs : List (Int × Report)} {id : Int} {r : Report} (h : lookR xs id = some r) : (id, r) ∈ xs := by
  unfold lookR at h
  cases e : xs.find? (fun x => decide (x.1 = id)) with
  | none => rw [e] at h; cases h
  | some y =>
    rw [e] at h
    simp at h
    have h1 := List.mem_of_find?_eq_some e
    have h2 := List.find?_some e
    simp at h2
    rw [← h, ← h2]
    exact h1
theorem bd_step {n : Nat} {xs : List (Int × Report)} (h : Bd n xs) {x : Int × Report} (h0 : 0 ≤ x.2.skipped) (h1 : x.2.skipped ≤ 1125899906842624) : Bd (n + 1) (stepR xs x) := by
  refine ⟨fun p hp => ?_, ?_⟩
  · rcases mem_insR hp with rfl | hp
    · show 0 ≤ (addR ((lookR xs x.1).getD dflt) x.2).skipped ∧ _ ≤ _
      unfold addR
      simp only
      cases e : lookR xs x.1 with
      | none => simp [dflt]; omega
      | some r =>
        have := h.1 _ (look_mem e)
        simp at this ⊢
        omega
    · have := h.1 p (List.mem_filter.1 hp).1
      omega
  · unfold stepR putR
    rw [length_insR]
    have := List.length_filter_le (fun y : Int × Report => !decide (y.1 = x.1)) xs
    have := h.2
    omega
theorem look_at {xs : List (Int × Report)} (h : xs.Pairwise (fun x y => x.1 < y.1)) {k : Nat} (hk : k < xs.length) : lookR xs xs[k].1 = some xs[k].2 := by
  induction xs generalizing k with
  | nil => simp at hk
  | cons y r ih =>
    have h' := List.pairwise_cons.1 h
    cases k with
    | zero => unfold lookR; simp
    | succ k =>
      have hk' : k < r.length := by simpa using hk
      have hlt := h'.1 r[k] (List.getElem_mem _)
      have e : lookR (y :: r) r[k].1 = lookR r r[k].1 := by
        unfold lookR
        rw [List.find?_cons]
        have : ¬ y.1 = r[k].1 := by omega
        simp [this]
      show lookR (y :: r) r[k].1 = some r[k].2
      rw [e]
      exact ih h'.2 hk'
theorem moves_sorted {a b : Int} : ∀ {l : List Mb}, Ids l → (moves a b l).Pairwise (fun x y => x.1 < y.1) := by
  intro l hl
  unfold moves
  rw [List.pairwise_map]
  exact (hl.filter _)
theorem moves_facts {a b : Int} {l : List Mb} (hf : ∀ m ∈ l, Fits m.plan m.phase a) (hr : ∀ m ∈ l, 0 ≤ m.id ∧ m.id ≤ 4294967295) (hab : a ≤ b) (hb : b ≤ 281474976710656) {x : Int × Report} (hx : x ∈ moves a b l) :
    (0 ≤ x.1 ∧ x.1 ≤ 4294967295) ∧ Loud x.2 ∧ 0 ≤ x.2.skipped ∧ x.2.skipped ≤ 1125899906842624 := by
  unfold moves at hx
  obtain ⟨m, hm, rfl⟩ := List.mem_map.1 hx
  obtain ⟨h1, h2⟩ := List.mem_filter.1 hm
  obtain ⟨-, -, h3, h4⟩ := rep_low (hf m h1) hab
  refine ⟨hr m h1, of_decide_eq_true h2, h3, ?_⟩
  show (adv m.plan m.phase a b).2.skipped ≤ _
  omega

/-! ### two wheels of the same members -/
theorem find_core (l : List Mb) (id : Int) : (findM l id).map core = (l.map core).find? fun c => decide (c.1 = id) := by
  unfold findM
  rw [List.find?_map]
  rfl
theorem core_adv {l1 l2 : List Mb} (h : l1.map core = l2.map core) (a b : Int) : (l1.map (advM a b)).map core = (l2.map (advM a b)).map core := by
  have e : ∀ l : List Mb, (l.map (advM a b)).map core = (l.map core).map fun c => (c.1, c.2.1, (adv c.2.1 c.2.2 a b).1) := fun l => by rw [List.map_map, List.map_map]; rfl
  rw [e, e, h]
theorem core_set {l1 l2 : List Mb} (h : l1.map core = l2.map core) (id : Int) (ph : Phase) : (setM l1 id ph).map core = (setM l2 id ph).map core := by
  have e : ∀ l : List Mb, (setM l id ph).map core = (l.map core).map fun c => if c.1 = id then (c.1, c.2.1, ph) else c := fun l => by
    unfold setM
    rw [List.map_map, List.map_map]
    refine List.map_congr_left fun m _ => ?_
    show core (if m.id = id then setP m ph else m) = if m.id = id then (m.id, m.plan, ph) else core m
    split <;> rfl
  rw [e, e, h]
theorem core_answer {l1 l2 : List Mb} (h : l1.map core = l2.map core) (id : Int) : (answerM id l1).map core = (answerM id l2).map core := by
  have e : (findM l1 id).map core = (findM l2 id).map core := by rw [find_core, find_core, h]
  unfold answerM
  cases h1 : findM l1 id with
  | none =>
    cases h2 : findM l2 id with
    | none => exact h
    | some y => rw [h1, h2] at e; cases e
  | some x =>
    cases h2 : findM l2 id with
    | none => rw [h1, h2] at e; cases e
    | some y =>
      rw [h1, h2] at e
      simp [core] at e
      simp only [e.2.2]
      exact core_set h id _
theorem core_handle {l1 l2 : List Mb} (h : l1.map core = l2.map core) (id : Int) : (handleM id l1).map core = (handleM id l2).map core := by
  have e : (findM l1 id).map core = (findM l2 id).map core := by rw [find_core, find_core, h]
  unfold handleM
  cases h1 : findM l1 id with
  | none =>
    cases h2 : findM l2 id with
    | none => exact h
    | some y => rw [h1, h2] at e; cases e
  | some x =>
    cases h2 : findM l2 id with
    | none => rw [h1, h2] at e; cases e
    | some y =>
      rw [h1, h2] at e
      simp [core] at e
      simp only [e.2.2]
      exact core_set h id _
theorem core_tick (S : List Sm) {l1 l2 : List Mb} (h : l1.map core = l2.map core) : ∀ k, (tickM S k l1).map core = (tickM S k l2).map core
  | 0 => h
  | k + 1 => by
    have ih := core_tick S h k
    rw [tickM, tickM]
    split
    · exact core_handle (core_answer ih _) _
    · exact ih
theorem core_moves {l1 l2 : List Mb} (h : l1.map core = l2.map core) (a b : Int) : moves a b l1 = moves a b l2 := by
  have e : ∀ l : List Mb, moves a b l = ((l.map core).filter fun c => decide (Loud (adv c.2.1 c.2.2 a b).2)).map fun c => (c.1, (adv c.2.1 c.2.2 a b).2) := fun l => by
    unfold moves
    rw [List.filter_map, List.map_map]
    rfl
  rw [e, e, h]
theorem core_split {a : Int} {l : List Mb} (hf : ∀ m ∈ l, Fits m.plan m.phase a) {c b : Int} (h1 : a ≤ c) (h2 : c ≤ b) : ((l.map (advM a c)).map (advM c b)).map core = (l.map (advM a b)).map core := by
  rw [List.map_map, List.map_map, List.map_map]
  refine List.map_congr_left fun m hm => ?_
  have := congrArg (·.1) (adv_split (hf m hm) h1 h2)
  show (m.id, m.plan, (adv m.plan (adv m.plan m.phase a c).1 c b).1) = (m.id, m.plan, (adv m.plan m.phase a b).1)
  rw [this]
def preL (F G : List (Int × Report)) (j : Nat) : List (Int × Report) := match j with
  | 0 => []
  | 1 => F
  | _ => F ++ G
/-- moves, as they lie behind a slice -/
def CellsOf (w : World) (top : Nat) (ob : Option Addr) (xs : List (Int × Report)) : Prop := ∀ (k : Nat) (hk : k < xs.length), ∃ g, ob = some ⟨g, 0, none⟩ ∧ g < top ∧ w.cell? ⟨g, k * 4, none⟩ = some (.int .i64 xs[k].1) ∧ w.cell? ⟨g, k * 4 + 1, none⟩ = some (.int .i64 xs[k].2.begun) ∧
      w.cell? ⟨g, k * 4 + 2, none⟩ = some (.int .i64 xs[k].2.failed) ∧ w.cell? ⟨g, k * 4 + 3, none⟩ = some (.int .i64 xs[k].2.skipped)
theorem cells_form {w : World} {v : Value} {xs : List (Int × Report)} (h : MovesAt w v xs) : ∃ (ob : Option Addr) (cap : Nat), v = .slice ob xs.length cap ∧ CellsOf w w.heap.size ob xs := by
  rcases h with ⟨rfl, rfl⟩ | ⟨g, cap, rfl, hg, hc⟩
  · exact ⟨none, 0, rfl, fun k hk => absurd hk (by simp)⟩
  · exact ⟨_, cap, rfl, fun k hk => ⟨g, rfl, hg, (hc k hk).1, (hc k hk).2.1, (hc k hk).2.2.1, (hc k hk).2.2.2⟩⟩
theorem Kept.cellK {X : Nat → Prop} {w w' : World} (k : Kept X w w') {p : Addr} (h1 : p.block < w.heap.size) (h2 : ¬ X p.block) : w'.cell? p = w.cell? p := World.cell?_of_block (k.block _ h1 h2)
theorem CellsOf.kept {X : Nat → Prop} {w w' : World} {top : Nat} {ob : Option Addr} {xs : List (Int × Report)} (h : CellsOf w top ob xs) (k : Kept X w w') (h1 : top ≤ w.heap.size) (h2 : ∀ i, X i → top ≤ i) : CellsOf w' top ob xs := by
  intro j hj
  obtain ⟨g, e, hg, a, b, c, d⟩ := h j hj
  have hx : ¬ X g := fun hX => by have := h2 g hX; omega
  have key : ∀ o, w'.cell? ⟨g, o, none⟩ = w.cell? ⟨g, o, none⟩ := fun o => Kept.cellK k (p := ⟨g, o, none⟩) (by show g < _; omega) hx
  exact ⟨g, e, hg, (key _).trans a, (key _).trans b, (key _).trans c, (key _).trans d⟩
/-- what the law needs of the moves of one part -/
structure Part (w : World) (top : Nat) (ob : Option Addr) (cur : List (Int × Report)) : Prop where
  cells : CellsOf w top ob cur
  len : cur.length ≤ 10
  sorted : cur.Pairwise (fun x y => x.1 < y.1)
  fact : ∀ x ∈ cur, (0 ≤ x.1 ∧ x.1 ≤ 4294967295) ∧ Loud x.2 ∧ 0 ≤ x.2.skipped ∧ x.2.skipped ≤ 1125899906842624
theorem take_step (cur : List (Int × Report)) (xs : List (Int × Report)) (q : Nat) (h : q < cur.length) : (cur.take (q + 1)).foldl stepR xs = stepR ((cur.take q).foldl stepR xs) cur[q] := by
  rw [List.take_succ_eq_append_getElem h, List.foldl_append]
  rfl
theorem preL_len {F G : List (Int × Report)} (hF : F.length ≤ 10) {j : Nat} (hj : j < 2) : (preL F G j).length ≤ 10 := by
  obtain rfl | rfl : j = 0 ∨ j = 1 := by omega
  · simp [preL]
  · exact hF
theorem sorted_next {cur : List (Int × Report)} (h : cur.Pairwise (fun x y => x.1 < y.1)) {q : Nat} (hq : q < cur.length) : ∀ (k : Nat) (hk : k < cur.length), q + 1 ≤ k → cur[q].1 < cur[k].1 := by
  intro k hk hle
  rw [List.pairwise_iff_getElem] at h
  exact h q k hq hk (by omega)
end Go.Proofs.Ytokgfmibhkkiaaa
