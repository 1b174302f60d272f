/- Parts of the proof: Stk, Cl, Pt, Qt, Rst, T6. Conditions: none. -/
import Derived.Test.YtnhjakdmbfadlaaGreatDoorL02
import Derived.Test.YtnhjakdmbfadlaaGreatDoorL03
import Derived.Test.YtnhjakdmbfadlaaGreatDoorL05
import Derived.Outline
import Derived.Deep.DeepCutAuto
import Derived.Deep.CutRange
import Derived.Shelf.Unicode.DecodeSlow
set_option linter.all false
/- What is open while a pattern is read, in memory: rows of trees of one's own, each in a block of its own. -/
namespace Go.Proofs.Wy
open Go Go.RowKit Go.Proofs.Mem Go.Proofs.Grow

/-- trees in a row of one's own, the trees themselves in N -/
def TrRow (T : TypeId) (B : Nat) (N : Nat → Prop) (w : World) (v : Value) (l : List Nd) : Prop := ∃ cs, w.ownsRow B T 6 v l.length cs ∧ NdsAt N w l cs
theorem TrRow.go {T : TypeId} {B : Nat} {N M X : Nat → Prop} {w w' : World} {v : Value} {l : List Nd} (h : TrRow T B N w v l) (k : Kept X w w') (hv : ∀ g, v.ownBlock = some g → ¬ X g) (hd : ∀ b, b < w.heap.size → N b → ¬ X b ∧ M b) : TrRow T B M w' v l := by
  obtain ⟨cs, h1, h2⟩ := h
  exact ⟨cs, ownGo h1 k hv, NdsAt.go k hd h2⟩
theorem TrRow.nil {T : TypeId} {B : Nat} {N : Nat → Prop} {w : World} : TrRow T B N w (.slice none 0 0) [] := ⟨[], World.ownsRow_nil _ _ _ _, by rw [NdsAt]⟩
theorem TrRow.slice {T : TypeId} {B : Nat} {N : Nat → Prop} {w : World} {v : Value} {l : List Nd} (h : TrRow T B N w v l) : ∃ o c, v = .slice o l.length c := by
  obtain ⟨cs, h1, -⟩ := h
  exact ownSlice h1
theorem TrRow.lt {T : TypeId} {B : Nat} {N : Nat → Prop} {w : World} {v : Value} {l : List Nd} (h : TrRow T B N w v l) : ∀ g, v.ownBlock = some g → B ≤ g ∧ g < w.heap.size := by
  obtain ⟨cs, h1, -⟩ := h
  exact h1.lt
theorem TrRow.read {T : TypeId} {B : Nat} {N M : Nat → Prop} {w : World} {v : Value} {l : List Nd} (h : TrRow T B N w v l) (hv : ∀ g, v.ownBlock = some g → M g) (hm : ∀ b, N b → M b) : ∃ cs, Row M w v l.length 6 cs ∧ NdsAt M w l cs := by
  obtain ⟨cs, h1, h2⟩ := h
  exact ⟨cs, rowOwn h1 hv, NdsAt.mono hm h2⟩
/-- one more -/
theorem TrRow.more {T : TypeId} {B : Nat} {N M : Nat → Prop} {w w' : World} {v v' : Value} {l : List Nd} {x : Nd} {cs xs : List Value} (hn : NdsAt N w l cs) (hx : NdAt N w x xs)
    (ho : w'.ownsRow B T 6 v' (l.length + 1) (cs ++ xs)) (hg : w.grownBy w' v.ownBlock) (hN : ∀ b, b < w.heap.size → N b → v.ownBlock ≠ some b ∧ M b) : TrRow T B M w' v' (l ++ [x]) := by
  have k := grownK hg
  exact ⟨cs ++ xs, by rw [List.length_append, List.length_singleton]; exact ho, NdsAt.append (NdsAt.go k (fun b hb hn => ⟨(hN b hb hn).1, (hN b hb hn).2⟩) hn) (NdsAt.one (NdAt.go k (fun b hb hn => ⟨(hN b hb hn).1, (hN b hb hn).2⟩) hx))⟩

structure OpV where
  sv : Value
  iv : Value
def ownO (v : Value) : List Nat := match v.ownBlock with | some b => [b] | none => []
theorem mem_ownO {v : Value} {b : Nat} : b ∈ ownO v ↔ v.ownBlock = some b := by
  unfold ownO
  cases h : v.ownBlock with
  | none => simp
  | some c => simp [eq_comm]
def OpV.own (x : OpV) : List Nat := ownO x.sv ++ ownO x.iv
def ownL (xs : List OpV) : List Nat := xs.flatMap OpV.own
def opCs : List Op → List OpV → List Value
  | o :: st, x :: xs => x.sv :: x.iv :: .bool o.group :: opCs st xs
  | _, _ => []
def freeN (B : Nat) (v : Value) (xs : List OpV) (b : Nat) : Prop := B ≤ b ∧ v.ownBlock ≠ some b ∧ b ∉ ownL xs
structure StkAt (TO TN : TypeId) (B : Nat) (w : World) (v : Value) (st : List Op) (xs : List OpV) : Prop where
  len : xs.length = st.length
  row : w.ownsRow B TO 3 v st.length (opCs st xs)
  ops : ∀ i (hi : i < st.length) (hx : i < xs.length), TrRow TN B (freeN B v xs) w xs[i].sv st[i].seqs ∧ TrRow TN B (freeN B v xs) w xs[i].iv st[i].items
  nodup : (ownL xs).Nodup
  apart : ∀ b ∈ ownL xs, v.ownBlock ≠ some b

theorem opCs_len : ∀ (st : List Op) (xs : List OpV), xs.length = st.length → (opCs st xs).length = st.length * 3
  | [], [], _ => rfl
  | [], _ :: _, h => by simp at h
  | _ :: _, [], h => by simp at h
  | o :: st, x :: xs, h => by
    have := opCs_len st xs (by simpa using h)
    simp only [opCs, List.length_cons, this]
    omega
theorem opCs_append : ∀ (st : List Op) (xs : List OpV) (su : List Op) (ys : List OpV), xs.length = st.length → opCs (st ++ su) (xs ++ ys) = opCs st xs ++ opCs su ys
  | [], [], _, _, _ => rfl
  | [], _ :: _, _, _, h => by simp at h
  | _ :: _, [], _, _, h => by simp at h
  | o :: st, x :: xs, su, ys, h => by
    simp only [List.cons_append, opCs]
    rw [opCs_append st xs su ys (by simpa using h)]
theorem ownL_append (xs ys : List OpV) : ownL (xs ++ ys) = ownL xs ++ ownL ys := by simp [ownL]
theorem ownL_one (x : OpV) : ownL [x] = x.own := by simp [ownL]
section
variable {TO TN : TypeId} {B : Nat} {w w' : World} {v v' : Value} {st : List Op} {xs : List OpV}
theorem StkAt.lt (h : StkAt TO TN B w v st xs) : ∀ b ∈ ownL xs, B ≤ b ∧ b < w.heap.size := by
  intro b hb
  obtain ⟨x, hx, hb⟩ := List.mem_flatMap.1 hb
  obtain ⟨i, hi, rfl⟩ := List.getElem_of_mem hx
  have := h.ops i (by rw [← h.len]; exact hi) hi
  rcases List.mem_append.1 hb with hb | hb
  · exact this.1.lt b (mem_ownO.1 hb)
  · exact this.2.lt b (mem_ownO.1 hb)
theorem StkAt.go {X : Nat → Prop} (h : StkAt TO TN B w v st xs) (k : Kept X w w') (hX : ∀ b, b < w.heap.size → ¬ X b) : StkAt TO TN B w' v st xs :=
  ⟨h.len, ownGo h.row k (fun g hg => hX g (h.row.lt g hg).2), fun i hi hx =>
    ⟨(h.ops i hi hx).1.go k (fun g hg => hX g ((h.ops i hi hx).1.lt g hg).2) (fun b hb hn => ⟨hX b hb, hn⟩), (h.ops i hi hx).2.go k (fun g hg => hX g ((h.ops i hi hx).2.lt g hg).2) (fun b hb hn => ⟨hX b hb, hn⟩)⟩, h.nodup, h.apart⟩
theorem StkAt.below (h : StkAt TO TN B w v st xs) (k : Below w.heap.size w w') : StkAt TO TN B w' v st xs :=
  h.go (Kept.of_below k (fun _ => False)) (fun _ _ => id)
/-- the last one is another one: what is below it stays -/
theorem StkAt.low {pre : List Op} {ys : List OpV} {o : Op} {x : OpV} (h : StkAt TO TN B w v (pre ++ [o]) (ys ++ [x])) : ys.length = pre.length := by
  have := h.len
  simpa using this
theorem StkAt.last {pre : List Op} {ys : List OpV} {o : Op} {x : OpV} (h : StkAt TO TN B w v (pre ++ [o]) (ys ++ [x])) :
    TrRow TN B (freeN B v (ys ++ [x])) w x.sv o.seqs ∧ TrRow TN B (freeN B v (ys ++ [x])) w x.iv o.items := by
  have hl := h.low
  have := h.ops pre.length (by simp) (by simp; omega)
  rw [List.getElem_append_right (by omega)] at this
  simp only [hl, Nat.sub_self, List.getElem_cons_zero] at this
  rw [List.getElem_append_right (by omega)] at this
  simpa using this
theorem StkAt.lastN {pre : List Op} {ys : List OpV} {o : Op} {x : OpV} (h : StkAt TO TN B w v (pre ++ [o]) (ys ++ [x])) (b : Nat) (hb : b ∈ x.own) : b ∉ ownL ys ∧ v.ownBlock ≠ some b := by
  have hn := h.nodup
  rw [ownL_append, ownL_one, List.nodup_append] at hn
  exact ⟨fun hc => hn.2.2 b hc b hb rfl, h.apart b (by rw [ownL_append, ownL_one]; exact List.mem_append.2 (.inr hb))⟩
/-- the top is made another: X are the blocks that were written to -/
theorem StkAt.top {X : Nat → Prop} {pre : List Op} {ys : List OpV} {o o' : Op} {x x' : OpV} (h : StkAt TO TN B w v (pre ++ [o]) (ys ++ [x])) (k : Kept X w w')
    (hX : ∀ b, b < w.heap.size → X b → b ∈ x.own ∨ v.ownBlock = some b) (hrow : w'.ownsRow B TO 3 v (pre.length + 1) (opCs pre ys ++ [x'.sv, x'.iv, .bool o'.group]))
    (hx : ∀ b ∈ x'.own, b ∈ x.own ∨ w.heap.size ≤ b) (hxn : x'.own.Nodup)
    (h1 : TrRow TN B (freeN B v (ys ++ [x'])) w' x'.sv o'.seqs) (h2 : TrRow TN B (freeN B v (ys ++ [x'])) w' x'.iv o'.items) : StkAt TO TN B w' v (pre ++ [o']) (ys ++ [x']) := by
  have hl := h.low
  have hlt := h.lt
  have hvlt := h.row.lt
  have hfree : ∀ b, b < w.heap.size → freeN B v (ys ++ [x]) b → ¬ X b ∧ freeN B v (ys ++ [x']) b := by
    intro b hb hn
    obtain ⟨n0, n1, n2⟩ := hn
    rw [ownL_append, ownL_one, List.mem_append, not_or] at n2
    refine ⟨fun hc => ?_, n0, n1, ?_⟩
    · rcases hX b hb hc with hc | hc
      · exact n2.2 hc
      · exact n1 hc
    · rw [ownL_append, ownL_one, List.mem_append, not_or]
      refine ⟨n2.1, fun hc => ?_⟩
      rcases hx b hc with hc | hc
      · exact n2.2 hc
      · omega
  have hlow : ∀ b ∈ ownL ys, ¬ X b := fun b hb hc => by
    have h3 := hlt b (by rw [ownL_append]; exact List.mem_append.2 (.inl hb))
    rcases hX b h3.2 hc with hc | hc
    · exact (h.lastN b hc).1 hb
    · exact h.apart b (by rw [ownL_append]; exact List.mem_append.2 (.inl hb)) hc
  refine ⟨by simp; omega, ?_, ?_, ?_, ?_⟩
  · rw [opCs_append _ _ _ _ hl, List.length_append]
    exact hrow
  · intro i hi hx'
    by_cases hip : i < pre.length
    · have := h.ops i (by simp; omega) (by simp; omega)
      rw [List.getElem_append_left (by omega), List.getElem_append_left (by omega)] at this ⊢
      have hm : ys[i] ∈ ys := List.getElem_mem _
      refine ⟨this.1.go k (fun g hg => hlow g (List.mem_flatMap.2 ⟨_, hm, List.mem_append.2 (.inl (mem_ownO.2 hg))⟩)) hfree, this.2.go k (fun g hg => hlow g (List.mem_flatMap.2 ⟨_, hm, List.mem_append.2 (.inr (mem_ownO.2 hg))⟩)) hfree⟩
    · obtain rfl : i = pre.length := by simp at hi; omega
      rw [List.getElem_append_right (by omega)]
      simp only [hl, Nat.sub_self, List.getElem_cons_zero]
      rw [List.getElem_append_right (by omega)]
      simpa using ⟨h1, h2⟩
  · have hn := h.nodup
    rw [ownL_append, ownL_one, List.nodup_append] at hn ⊢
    refine ⟨hn.1, hxn, fun a ha b hb e => ?_⟩
    subst e
    rcases hx a hb with hb | hb
    · exact hn.2.2 a ha a hb rfl
    · have := hlt a (by rw [ownL_append]; exact List.mem_append.2 (.inl ha))
      omega
  · intro b hb
    rw [ownL_append, ownL_one] at hb
    rcases List.mem_append.1 hb with hb | hb
    · exact h.apart b (by rw [ownL_append]; exact List.mem_append.2 (.inl hb))
    · rcases hx b hb with hb | hb
      · exact (h.lastN b hb).2
      · intro hc
        have := (hvlt b hc).2
        omega
/-- one more is open -/
theorem StkAt.push (h : StkAt TO TN B w v st xs) (group : Bool) (ho : w'.ownsRow B TO 3 v' (st.length + 1) (opCs st xs ++ [.slice none 0 0, .slice none 0 0, .bool group])) (hg : w.grownBy w' v.ownBlock)
    (hv : v'.ownBlock = v.ownBlock ∨ v'.ownBlock = some w.heap.size) : StkAt TO TN B w' v' (st ++ [⟨[], [], group⟩]) (xs ++ [⟨.slice none 0 0, .slice none 0 0⟩]) := by
  have k := grownK hg
  have hlt := h.lt
  have hn0 : ownL (xs ++ [⟨.slice none 0 0, .slice none 0 0⟩]) = ownL xs := by
    rw [ownL_append, ownL_one]
    simp [OpV.own, ownO, Value.ownBlock]
  have hfree : ∀ b, b < w.heap.size → freeN B v xs b → ¬ (v.ownBlock = some b) ∧ freeN B v' (xs ++ [⟨.slice none 0 0, .slice none 0 0⟩]) b := by
    intro b hb hn
    refine ⟨hn.2.1, hn.1, fun e => ?_, by rw [hn0]; exact hn.2.2⟩
    rcases hv with hv | hv
    · exact hn.2.1 (hv ▸ e)
    · rw [hv] at e; simp only [Option.some.injEq] at e; omega
  refine ⟨by simp [h.len], ?_, ?_, by rw [hn0]; exact h.nodup, ?_⟩
  · rw [opCs_append _ _ _ _ h.len, List.length_append]
    exact ho
  · intro i hi hx
    by_cases hip : i < st.length
    · have hix : i < xs.length := by rw [h.len]; exact hip
      have := h.ops i hip hix
      have hm : xs[i] ∈ xs := List.getElem_mem _
      rw [List.getElem_append_left hip, List.getElem_append_left hix]
      exact ⟨this.1.go k (fun g hg e => h.apart g (List.mem_flatMap.2 ⟨_, hm, List.mem_append.2 (.inl (mem_ownO.2 hg))⟩) e) hfree, this.2.go k (fun g hg e => h.apart g (List.mem_flatMap.2 ⟨_, hm, List.mem_append.2 (.inr (mem_ownO.2 hg))⟩) e) hfree⟩
    · obtain rfl : i = st.length := by simp at hi; omega
      have hl := h.len
      have e1 : (st ++ [(⟨[], [], group⟩ : Op)])[st.length]'hi = ⟨[], [], group⟩ := by simp
      have e2 : (xs ++ [(⟨.slice none 0 0, .slice none 0 0⟩ : OpV)])[st.length]'hx = ⟨.slice none 0 0, .slice none 0 0⟩ := by simp [← hl]
      rw [e1, e2]
      exact ⟨TrRow.nil, TrRow.nil⟩
  · rw [hn0]
    intro b hb e
    rcases hv with hv | hv
    · exact h.apart b hb (hv ▸ e)
    · rw [hv] at e; simp only [Option.some.injEq] at e; have := hlt b hb; omega
/-- the last one is closed: it is read from now on -/
theorem StkAt.pop {pre : List Op} {ys : List OpV} {o : Op} {x : OpV} {g c : Nat} (h : StkAt TO TN B w (.slice (some ⟨g, 0, none⟩) (pre ++ [o]).length c) (pre ++ [o]) (ys ++ [x])) :
    StkAt TO TN B w (.slice (some ⟨g, 0, none⟩) pre.length c) pre ys ∧
    (∃ cs, Row (freeN B (.slice (some ⟨g, 0, none⟩) pre.length c) ys) w x.sv o.seqs.length 6 cs ∧ NdsAt (freeN B (.slice (some ⟨g, 0, none⟩) pre.length c) ys) w o.seqs cs) ∧
    (∃ cs, Row (freeN B (.slice (some ⟨g, 0, none⟩) pre.length c) ys) w x.iv o.items.length 6 cs ∧ NdsAt (freeN B (.slice (some ⟨g, 0, none⟩) pre.length c) ys) w o.items cs) := by
  have hl := h.low
  have hm : ∀ b, freeN B (.slice (some ⟨g, 0, none⟩) (pre ++ [o]).length c) (ys ++ [x]) b → freeN B (.slice (some ⟨g, 0, none⟩) pre.length c) ys b := fun b hb =>
    ⟨hb.1, hb.2.1, fun e => hb.2.2 (by rw [ownL_append]; exact List.mem_append.2 (.inl e))⟩
  have ht := ownTake h.row (m := pre.length) (by simp)
  rw [opCs_append _ _ _ _ hl, List.take_left' (opCs_len pre ys hl)] at ht
  have hlast := h.last
  refine ⟨⟨hl, ht, ?_, ?_, ?_⟩, hlast.1.read (fun b hb => ?_) hm, hlast.2.read (fun b hb => ?_) hm⟩
  · intro i hi hx
    have := h.ops i (by simp; omega) (by simp; omega)
    rw [List.getElem_append_left (by omega), List.getElem_append_left (by omega)] at this
    have mono : ∀ {v : Value} {l : List Nd}, TrRow TN B (freeN B (.slice (some ⟨g, 0, none⟩) (pre ++ [o]).length c) (ys ++ [x])) w v l → TrRow TN B (freeN B (.slice (some ⟨g, 0, none⟩) pre.length c) ys) w v l := by
      rintro v l ⟨cs, h1, h2⟩
      exact ⟨cs, h1, NdsAt.mono hm h2⟩
    exact ⟨mono this.1, mono this.2⟩
  · have hn := h.nodup
    rw [ownL_append, List.nodup_append] at hn
    exact hn.1
  · exact fun b hb => h.apart b (by rw [ownL_append]; exact List.mem_append.2 (.inl hb))
  · have := h.lastN b (List.mem_append.2 (.inl (mem_ownO.2 hb)))
    exact ⟨(hlast.1.lt b hb).1, this.2, this.1⟩
  · have := h.lastN b (List.mem_append.2 (.inr (mem_ownO.2 hb)))
    exact ⟨(hlast.2.lt b hb).1, this.2, this.1⟩
end
end Go.Proofs.Wy

/- gaugerref07.closed and whole. -/
namespace Go.Proofs.YtnhjakdmbfadlaaGreatDoor
open Go.RowKit Wy Mem Grow

theorem nd6k {N : Nat → Prop} {w : World} {t : Nd} {cs : List Value} (h : NdAt N w t cs) : ∃ (k lo hi : Int) (lz : Bool) (o1 o2 : Option Addr) (n1 c1 n2 c2 : Nat), cs = [.int .u8 k, .slice o1 n1 c1, .int .i64 lo, .int .i64 hi, .bool lz, .slice o2 n2 c2] := by
  cases t
  rw [NdAt] at h
  obtain ⟨sv, uv, ucs, rfl, _, _, _, h5, h6, _⟩ := h
  obtain ⟨o, c, rfl⟩ := h5.row.slice
  obtain ⟨o', c', rfl⟩ := h6.slice
  exact ⟨_, _, _, _, _, _, _, _, _, _, rfl⟩
theorem set6blk {W : World} {b : Nat} {T : TypeId} {a0 a1 a2 a3 a4 a5 : Value} (h : Blk W b #[a0, a1, a2, a3, a4, a5] T) (c0 c1 c2 c3 c4 c5 : Value) :
    Blk ((((((W.setCell ⟨b, 0, none⟩ c0).setCell ⟨b, 1, none⟩ c1).setCell ⟨b, 2, none⟩ c2).setCell ⟨b, 3, none⟩ c3).setCell ⟨b, 4, none⟩ c4).setCell ⟨b, 5, none⟩ c5) b #[c0, c1, c2, c3, c4, c5] T :=
  (((((h.set 0 c0).set 1 c1).set 2 c2).set 3 c3).set 4 c4).set 5 c5
theorem set6k {W : World} {b : Nat} (c0 c1 c2 c3 c4 c5 : Value) : Kept (fun q => q = b) W ((((((W.setCell ⟨b, 0, none⟩ c0).setCell ⟨b, 1, none⟩ c1).setCell ⟨b, 2, none⟩ c2).setCell ⟨b, 3, none⟩ c3).setCell ⟨b, 4, none⟩ c4).setCell ⟨b, 5, none⟩ c5) :=
  ((((((Kept.refl (fun q => q = b) W).setCell (p := ⟨b, 0, none⟩) (fun _ => rfl) c0).setCell (p := ⟨b, 1, none⟩) (fun _ => rfl) c1).setCell (p := ⟨b, 2, none⟩) (fun _ => rfl) c2).setCell (p := ⟨b, 3, none⟩) (fun _ => rfl) c3).setCell (p := ⟨b, 4, none⟩) (fun _ => rfl) c4).setCell (p := ⟨b, 5, none⟩) (fun _ => rfl) c5
theorem nd_leaf {N : Nat → Prop} {w : World} : NdAt N w (.mk 1 [] 0 0 false []) [.int .u8 1, .slice none 0 0, .int .i64 0, .int .i64 0, .bool false, .slice none 0 0] := by
  rw [NdAt]
  exact ⟨_, _, [], rfl, ⟨by omega, by omega, by simp⟩, ⟨by decide, by decide⟩, ⟨by decide, by decide⟩, ⟨⟨rfl, .inl ⟨rfl, _, _, rfl⟩⟩, by simp, by simp⟩, ⟨rfl, .inl ⟨rfl, _, _, rfl⟩⟩, by rw [NdsAt]⟩
theorem nd_subs {N : Nat → Prop} {W : World} {k : Int} {l : List Nd} {v : Value} {cs : List Value} (hr : Row N W v l.length 6 cs) (h : NdsAt N W l cs) (hk : 0 ≤ k ∧ k ≤ 255) (hl : l.length ≤ 1048576) :
    NdAt N W (.mk k [] 0 0 false l) [.int .u8 k, .slice none 0 0, .int .i64 0, .int .i64 0, .bool false, v] := by
  rw [NdAt]
  exact ⟨_, _, cs, rfl, ⟨hk.1, hk.2, hl⟩, ⟨by decide, by decide⟩, ⟨by decide, by decide⟩, ⟨⟨rfl, .inl ⟨rfl, _, _, rfl⟩⟩, by simp, by simp⟩, hr, h⟩
/-- what hands back a tree, and writes nothing -/
def Trd (N : Nat → Prop) (t : Nd) (w : World) (e : Ending) (w' : World) : Prop := ∃ cs, e = .returned (.agg cs.toArray) ∧ NdAt N w' t cs ∧ Below w.heap.size w w'
set_option maxHeartbeats 4000000 in
set_option maxRecDepth 100000 in
theorem closed_any {N : Nat → Prop} {w : World} {k : Int} {v : Value} {l : List Nd} {cs : List Value} (hr : Row N w v l.length 6 cs) (hn : NdsAt N w l cs) (hk : 0 ≤ k ∧ k ≤ 255) (hl : l.length ≤ 1048576) :
    Calls Tryz.prog 83 #[.int .u8 k, v] w (Trd N (closedM k l) w) := by
  obtain ⟨o, c, rfl⟩ := hr.slice
  have HR := Lib.hid hr
  have HN := Lib.hid hn
  have hB : Blk (w.alloc (.cells #[.int .u8 0, .slice none 0 0, .int .i64 0, .int .i64 0, .bool false, .slice none 0 0] 70)) w.heap.size #[.int .u8 0, .slice none 0 0, .int .i64 0, .int .i64 0, .bool false, .slice none 0 0] 70 := Blk.new _ _ _
  have HB := Lib.hid hB
  have fin : ∀ (c0 c1 c2 c3 c4 c5 : Value), NdAt N w (closedM k l) [c0, c1, c2, c3, c4, c5] → Trd N (closedM k l) w (.returned (.agg #[c0, c1, c2, c3, c4, c5])) (w.alloc (.cells #[c0, c1, c2, c3, c4, c5] 70)) := fun c0 c1 c2 c3 c4 c5 h =>
    ⟨_, rfl, NdAt.go ((Kept.refl (fun _ => False) w).alloc _) (fun q _ hq => ⟨id, hq⟩) h, (Below.refl _ _).alloc (Nat.le_refl _) _⟩
  have HFIN := Lib.hid fin
  clear fin hB hr hn
  rcases l with _ | ⟨t, _ | ⟨t2, r⟩⟩
  · simp only [List.length_nil]
    go_enter Tryz.func83, Tryz.ntmps83
    go_wp2_with fail
    exact bodyPost_ret (v := .agg #[.int .u8 1, .slice none 0 0, .int .i64 0, .int .i64 0, .bool false, .slice none 0 0]) (by simp [results, Tryz.results83, go_sem]) rfl (HFIN.out _ _ _ _ _ _ nd_leaf)
  · obtain ⟨b, off, cap, hve, hc1, -, -, hbz, hcell⟩ := HR.out.parts HN.out (by simp)
    obtain ⟨sv, uv, hnt, t0, t1, t2, t3, t4, t5⟩ := hcell 0 (by simp)
    obtain ⟨k', lo, hi, lz, o1, o2, n1, c1, n2, c2, he⟩ := nd6k hnt
    simp only [List.cons.injEq, Value.int.injEq, Value.bool.injEq, true_and, and_true, List.getElem_cons_zero] at he
    obtain ⟨rfl, rfl, rfl, rfl, rfl, rfl⟩ := he
    simp only [List.length_cons, List.length_nil, Value.slice.injEq] at hve
    obtain ⟨rfl, -, rfl⟩ := hve
    simp only [List.getElem_cons_zero, Nat.zero_mul, Nat.add_zero] at t0 t1 t2 t3 t4 t5 hnt
    have hcI : (1 : Int) ≤ c := by simp at hc1; omega
    have HNT := Lib.hid hnt
    clear hcell hnt
    simp only [List.length_cons, List.length_nil]
    go_enter Tryz.func83, Tryz.ntmps83
    go_wp2_with fail
    exact bodyPost_ret (v := .agg #[.int .u8 t.kind, .slice o1 n1 c1, .int .i64 t.lo, .int .i64 t.hi, .bool t.lazy, .slice o2 n2 c2]) (by simp [results, Tryz.results83, go_sem]) rfl (HFIN.out _ _ _ _ _ _ HNT.out)
  · have hnd := nd_subs (k := k) HR.out HN.out hk hl
    have HND := Lib.hid hnd
    have hlI : (2 : Int) ≤ ((t :: t2 :: r).length : Nat) := by simp; omega
    clear hnd HR HN
    generalize (t :: t2 :: r).length = ll at HND hlI hl ⊢
    have l0 : ((ll : Int) == 0) = false := by simp; omega
    have l1 : ((ll : Int) == 1) = false := by simp; omega
    have hlm : (ll : Int) ≤ 1048576 := by omega
    go_enter Tryz.func83, Tryz.ntmps83
    go_wp2_with fail
    exact bodyPost_ret (v := .agg #[.int .u8 k, .slice none 0 0, .int .i64 0, .int .i64 0, .bool false, .slice o ll c]) (by simp [results, Tryz.results83, go_sem]) rfl (HFIN.out _ _ _ _ _ _ HND.out)
end Go.Proofs.YtnhjakdmbfadlaaGreatDoor

/- The characters of the parser of the reference implementation: a code point, a set, a quantifier. -/
namespace Go.Proofs.YtnhjakdmbfadlaaGreatDoor
open Go.RowKit Wy Mem Grow

theorem point6_any (c : Nat) (h : c < 55296) (w : World) : Calls Tryz.prog 97 #[.int .i64 c] w fun e w' => e = .returned (.bool true) ∧ w = w' := by
  have h0 : (c : Int) < 55296 := by omega
  have h1 : (c : Int) ≤ 1114111 := by omega
  have h2 : decide ((55296 : Int) ≤ c) = false := by simp; omega
  go_enter Tryz.func97, Tryz.ntmps97
  go_wp2
  go_ret
  exact ⟨rfl, rfl⟩
/-- the rest of a string, from a place on -/
def restS (s : ByteArray) (i : Nat) : ByteArray := s.extract i s.size
theorem restS_size (s : ByteArray) (i : Nat) (h : i ≤ s.size) : (restS s i).size = s.size - i := by
  unfold restS
  simp
theorem metas_byte (c : Nat) (h : c ∉ metas) : ∀ (j : Nat) (hj : j < 14), (((⟨#[92, 46, 91, 93, 40, 41, 123, 125, 42, 43, 63, 124, 94, 36]⟩ : ByteArray)[j]'hj).toNat) ≠ c := by
  intro j hj e
  apply h
  subst e
  revert j
  decide
set_option maxHeartbeats 4000000 in
set_option maxRecDepth 100000 in
theorem meta_any (c : Nat) (hc : c < 2000000) (hm : c ∉ metas) (w : World) : Calls Tryz.prog 104 #[.int .i64 c] w fun e w' => e = .returned (.bool false) ∧ w = w' := by
  have hno := metas_byte c hm
  go_enter Tryz.func104, Tryz.ntmps104
  go_wp2_with fail
  go_loopw [4] (fun s4 wx => ∃ j : Nat, j ≤ 14 ∧ s4 = .int .i64 j ∧ wx = w) (fun s4 _ => 14 - (intOf s4).toNat)
  case atStart => exact ⟨0, by omega, rfl, rfl⟩
  case round =>
    rename World => Wa
    obtain ⟨j, hj, rfl, rfl⟩ := hrel
    by_cases hjl : j < 14
    · have hjI : (j : Int) < 14 := by omega
      have hb : ((c : Int) == wrap64 (((⟨#[92, 46, 91, 93, 40, 41, 123, 125, 42, 43, 63, 124, 94, 36]⟩ : ByteArray)[j]'hjl).toNat : Int)) = false := by
        have h1 := hno j hjl
        have h2 := UInt8.toNat_lt ((⟨#[92, 46, 91, 93, 40, 41, 123, 125, 42, 43, 63, 124, 94, 36]⟩ : ByteArray)[j]'hjl)
        have h3 : wrap64 (((⟨#[92, 46, 91, 93, 40, 41, 123, 125, 42, 43, 63, 124, 94, 36]⟩ : ByteArray)[j]'hjl).toNat : Int) = (((⟨#[92, 46, 91, 93, 40, 41, 123, 125, 42, 43, 63, 124, 94, 36]⟩ : ByteArray)[j]'hjl).toNat : Int) := by unfold wrap64; omega
        rw [h3]
        simp
        omega
      clear hno
      go_wp2_with fail
      go_roundw
      case rel => exact ⟨j + 1, by omega, by go_num, trivial⟩
      case measure => simp [intOf]; omega
    · obtain rfl : j = 14 := by omega
      go_wp2_with fail
      go_ret
      exact ⟨rfl, rfl⟩
theorem lt128 {b : Nat} (h : 128 ≤ b) : decide ((b : Int) < 128) = false := decide_eq_false (by omega)
theorem gt191 {b : Nat} (h : b < 192) : decide ((191 : Int) < b) = false := decide_eq_false (by omega)
theorem get_at {x : ByteArray} {i : Nat} (h : i < x.size) : (x[i]'h).toNat = byteAt x i := by
  unfold byteAt
  rw [Utf8W.get!_of_lt x i h]
set_option maxHeartbeats 4000000 in
set_option maxRecDepth 100000 in
theorem Point_any {x : ByteArray} {c n : Nat} (h : pointM x 0 = some (c, n)) (hz : 0 < x.size) (hs : x.size ≤ 1000000) (w : World) : Calls Tryz.prog 78 #[.string x] w fun e w' => e = .returned (.tuple #[.int .i64 c, .int .i64 n]) ∧ w = w' := by
  have hsI : (x.size : Int) ≤ 1000000 := by omega
  have hzI : (0 : Int) < x.size := by omega
  have hz0 : ((x.size : Int) == 0) = false := by rw [beq_eq_false_iff_ne]; omega
  have hx0 := get_at hz
  obtain ⟨b, hb⟩ : ∃ b, b = byteAt x 0 := ⟨_, rfl⟩
  have hb256 : b < 256 := by rw [hb, ← hx0]; exact UInt8.toNat_lt _
  unfold pointM at h
  rw [← hb] at h hx0
  simp only [Nat.zero_add] at h
  have hwb : wrap64 (b : Int) = b := by unfold wrap64; omega
  by_cases h1 : b < 128
  · rw [if_pos h1] at h
    simp only [Option.some.injEq, Prod.mk.injEq] at h
    obtain ⟨rfl, rfl⟩ := h
    have h1I : (b : Int) < 128 := by omega
    clear hb
    go_enter Tryz.func78, Tryz.ntmps78
    go_wp2_with fail
    go_ret2
    exact ⟨rfl, rfl⟩
  · rw [if_neg h1] at h
    by_cases h2 : 192 ≤ b ∧ b < 224 ∧ 2 ≤ x.size ∧ 128 ≤ byteAt x 1 ∧ byteAt x 1 < 192 ∧ 128 ≤ 64 * (b - 192) + (byteAt x 1 - 128)
    · rw [if_pos h2] at h
      simp only [Option.some.injEq, Prod.mk.injEq] at h
      obtain ⟨rfl, rfl⟩ := h
      obtain ⟨h3, h4, h5, h6, h7, h8⟩ := h2
      have hx1 := get_at (i := 1) (by omega : 1 < x.size)
      obtain ⟨b1, hb1⟩ : ∃ b1, b1 = byteAt x 1 := ⟨_, rfl⟩
      rw [← hb1] at hx1 h6 h7 h8 ⊢
      have hwb1 : wrap64 (b1 : Int) = b1 := by unfold wrap64; omega
      have a1 : decide ((b : Int) < 128) = false := decide_eq_false (by omega)
      have a2 : (192 : Int) ≤ b := by omega
      have a3 : (b : Int) < 224 := by omega
      have a4 : (2 : Int) ≤ x.size := by omega
      have a4' : decide ((x.size : Int) < 2) = false := decide_eq_false (by omega)
      have a5 : decide ((b1 : Int) < 128) = false := lt128 h6
      have a6 : decide ((191 : Int) < b1) = false := gt191 h7
      clear hb hb1
      go_enter Tryz.func78, Tryz.ntmps78
      go_wp2_with fail
      go_loopw [4, 7] (fun s4 s7 wx => wx = w ∧ ((s7 = .int .i64 1 ∧ s4 = .int .i64 ((b : Int) - 192)) ∨ (s7 = .int .i64 2 ∧ s4 = .int .i64 (64 * ((b : Int) - 192) + b1 - 128)))) (fun _ s7 _ => 2 - (intOf s7).toNat)
      case atStart => exact ⟨rfl, .inl ⟨rfl, rfl⟩⟩
      case round =>
        rename World => Wa
        obtain ⟨rfl, h⟩ := hrel
        rcases h with ⟨rfl, rfl⟩ | ⟨rfl, rfl⟩
        · go_wp2_with fail
          go_roundw
          case rel => exact ⟨trivial, .inr ⟨rfl, by congr 1⟩⟩
          case measure => simp [intOf]
        · have hv : (64 * ((b : Int) - 192) + b1 - 128) = ((64 * (b - 192) + (b1 - 128) : Nat) : Int) := by omega
          have hp := point6_any (64 * (b - 192) + (b1 - 128)) (by omega)
          obtain ⟨vv, hvv⟩ : ∃ vv, vv = 64 * (b - 192) + (b1 - 128) := ⟨_, rfl⟩
          rw [hv, ← hvv]
          rw [← hvv] at hp h8
          have a7 : decide ((vv : Int) < 128) = false := lt128 h8
          have HP := Lib.hid hp
          have HVV := Lib.hid hvv
          clear hp hv hvv
          go_wp2_with (go_at_call 97; go_loud (refine (HP.out _).mono ?_; rintro e w' ⟨rfl, rfl⟩))
          go_ret2
          exact ⟨by rw [HVV.out]; rfl, rfl⟩
    · rw [if_neg h2] at h
      cases h
end Go.Proofs.YtnhjakdmbfadlaaGreatDoor

/- The reference parser's set and quantifier. -/
namespace Go.Proofs.YtnhjakdmbfadlaaGreatDoor
open Go.RowKit Wy Mem Grow

def Sto (c n : Nat) (w : World) (e : Ending) (w' : World) : Prop := ∃ q, e = .returned (.tuple #[.slice (some ⟨q, 0, none⟩) 1 1, .int .i64 n]) ∧ Blk w' q #[.int .i64 c, .int .i64 c] 123 ∧ w.heap.size ≤ q ∧ Below w.heap.size w w'
theorem setM_some {s : ByteArray} {i : Nat} {l : List Rg} {n : Nat} (h : setM s i = some (l, n)) : ∃ c : Nat, pointM s i = some (c, n) ∧ c ∉ metas ∧ l = [⟨c, c⟩] := by
  unfold setM at h
  cases hp : pointM s i with
  | none => rw [hp] at h; cases h
  | some p =>
    obtain ⟨c, m⟩ := p
    rw [hp] at h
    simp only at h
    split at h
    · cases h
    · next hm =>
      simp only [Option.some.injEq, Prod.mk.injEq] at h
      obtain ⟨rfl, rfl⟩ := h
      exact ⟨c, rfl, hm, rfl⟩
theorem point_byte {s : ByteArray} {i c n : Nat} (h : pointM s i = some (c, n)) (hm : c ∉ metas) : byteAt s i ∉ metas ∧ c < 2048 ∧ (n = 1 ∨ (n = 2 ∧ i + 2 ≤ s.size)) := by
  unfold pointM at h
  split at h
  · simp only [Option.some.injEq, Prod.mk.injEq] at h
    obtain ⟨rfl, rfl⟩ := h
    exact ⟨hm, by omega, .inl rfl⟩
  · split at h
    · next hc =>
      simp only [Option.some.injEq, Prod.mk.injEq] at h
      obtain ⟨rfl, rfl⟩ := h
      refine ⟨fun hx => ?_, by omega, .inr ⟨rfl, hc.2.2.1⟩⟩
      have : ∀ a ∈ metas, a < 128 := by decide
      have := this _ hx
      omega
    · cases h
theorem eqb_no {b k : Nat} (h : b ≠ k) : ((b : Int) == (k : Int)) = false := by rw [beq_eq_false_iff_ne]; omega
set_option maxHeartbeats 4000000 in
set_option maxRecDepth 100000 in
theorem set_any {x : ByteArray} {c n : Nat} (h : pointM x 0 = some (c, n)) (hm : c ∉ metas) (hz : 0 < x.size) (hs : x.size ≤ 1000000) (w : World) : Calls Tryz.prog 85 #[.string x] w (Sto c n w) := by
  have hsI : (x.size : Int) ≤ 1000000 := by omega
  have hzI : (0 : Int) < x.size := by omega
  have hx0 := get_at hz
  obtain ⟨h1, h2, -⟩ := point_byte h hm
  have hp := fun w => Point_any h hz hs w
  have hmt := fun w => meta_any c (by omega) hm w
  obtain ⟨b, hb⟩ : ∃ b, b = byteAt x 0 := ⟨_, rfl⟩
  rw [← hb] at h1 hx0
  have e1 : b ≠ 46 := fun e => h1 (by rw [e]; decide)
  have e2 : b ≠ 91 := fun e => h1 (by rw [e]; decide)
  have e3 : b ≠ 92 := fun e => h1 (by rw [e]; decide)
  have a1 : ((b : Int) == 46) = false := eqb_no e1
  have a2 : ((b : Int) == 91) = false := eqb_no e2
  have a3 : ((b : Int) == 92) = false := eqb_no e3
  have HP := Lib.hid hp
  have HM := Lib.hid hmt
  clear hb h1 h hm hp hmt e1 e2 e3
  go_enter Tryz.func85, Tryz.ntmps85
  go_wp2_with (first | (go_at_call 78; go_loud (refine (HP.out _).mono ?_; rintro e w1 ⟨rfl, rfl⟩)) | (go_at_call 104; go_loud (refine (HM.out _).mono ?_; rintro e w2 ⟨rfl, rfl⟩)))
  go_ret2
  exact ⟨_, rfl, Blk.new _ _ _, Nat.le_refl _, (Below.refl _ _).alloc (Nat.le_refl _) _⟩
set_option maxHeartbeats 4000000 in
set_option maxRecDepth 100000 in
theorem quant_any {x : ByteArray} {lo hi : Int} {k : Nat} (h : quantM x 0 = some (lo, hi, k)) (hs : x.size ≤ 1000000) (w : World) : Calls Tryz.prog 86 #[.string x] w fun e w' => e = .returned (.tuple #[.int .i64 lo, .int .i64 hi, .int .i64 k]) ∧ w = w' := by
  have hsI : (x.size : Int) ≤ 1000000 := by omega
  unfold quantM at h
  by_cases hz : x.size ≤ 0
  · rw [if_pos hz] at h
    simp only [Option.some.injEq, Prod.mk.injEq] at h
    obtain ⟨rfl, rfl, rfl⟩ := h
    have hz0 : (x.size : Int) = 0 := by omega
    go_enter Tryz.func86, Tryz.ntmps86
    go_wp2_with fail
    go_ret3
    exact ⟨rfl, rfl⟩
  · rw [if_neg hz] at h
    have hz' : 0 < x.size := by omega
    have hzI : (0 : Int) < x.size := by omega
    have hz0 : ((x.size : Int) == 0) = false := by rw [beq_eq_false_iff_ne]; omega
    have hx0 := get_at hz'
    obtain ⟨b, hb⟩ : ∃ b, b = byteAt x 0 := ⟨_, rfl⟩
    rw [← hb] at h hx0
    clear hb
    by_cases e1 : b = 42
    · rw [if_pos e1] at h
      simp only [Option.some.injEq, Prod.mk.injEq] at h
      obtain ⟨rfl, rfl, rfl⟩ := h
      have a1 : ((b : Int) == 42) = true := by rw [e1]; rfl
      clear e1
      go_enter Tryz.func86, Tryz.ntmps86
      go_wp2_with fail
      go_ret3
      exact ⟨rfl, rfl⟩
    rw [if_neg e1] at h
    have a1 : ((b : Int) == 42) = false := eqb_no e1
    by_cases e2 : b = 43
    · rw [if_pos e2] at h
      simp only [Option.some.injEq, Prod.mk.injEq] at h
      obtain ⟨rfl, rfl, rfl⟩ := h
      have a2 : ((b : Int) == 43) = true := by rw [e2]; rfl
      clear e1 e2
      go_enter Tryz.func86, Tryz.ntmps86
      go_wp2_with fail
      go_ret3
      exact ⟨rfl, rfl⟩
    rw [if_neg e2] at h
    have a2 : ((b : Int) == 43) = false := eqb_no e2
    by_cases e3 : b = 63
    · rw [if_pos e3] at h
      simp only [Option.some.injEq, Prod.mk.injEq] at h
      obtain ⟨rfl, rfl, rfl⟩ := h
      have a3 : ((b : Int) == 63) = true := by rw [e3]; rfl
      clear e1 e2 e3
      go_enter Tryz.func86, Tryz.ntmps86
      go_wp2_with fail
      go_ret3
      exact ⟨rfl, rfl⟩
    rw [if_neg e3] at h
    have a3 : ((b : Int) == 63) = false := eqb_no e3
    by_cases e4 : b = 123
    · rw [if_pos e4] at h
      cases h
    rw [if_neg e4] at h
    have a4 : ((b : Int) == 123) = false := eqb_no e4
    simp only [Option.some.injEq, Prod.mk.injEq] at h
    obtain ⟨rfl, rfl, rfl⟩ := h
    clear e1 e2 e3 e4
    go_enter Tryz.func86, Tryz.ntmps86
    go_wp2_with fail
    go_ret3
    exact ⟨rfl, rfl⟩
end Go.Proofs.YtnhjakdmbfadlaaGreatDoor

/- the plain parser's readers on the rest of the string. -/
namespace Go.Proofs.YtnhjakdmbfadlaaGreatDoor
open Go.RowKit Wy

theorem byteAt_rest (s : ByteArray) (i j : Nat) (h : i ≤ s.size) : byteAt (restS s i) j = byteAt s (i + j) := by
  unfold byteAt restS
  congr 1
  show (s.extract i s.size).data[j]! = s.data[i + j]!
  rw [ByteArray.data_extract]
  simp only [getElem!_def, Array.getElem?_extract]
  have hs : s.size = s.data.size := rfl
  by_cases e : j < s.size - i
  · rw [if_pos (by omega)]
  · rw [if_neg (by omega), Array.getElem?_eq_none (by omega)]
theorem pointM_rest (s : ByteArray) (i : Nat) (h : i ≤ s.size) : pointM (restS s i) 0 = pointM s i := by
  unfold pointM
  rw [byteAt_rest s i 0 h, byteAt_rest s i (0 + 1) h, restS_size s i h]
  simp only [Nat.add_zero, Nat.zero_add]
  have : (2 ≤ s.size - i) ↔ (i + 2 ≤ s.size) := by omega
  simp only [this]
theorem quantM_rest (s : ByteArray) (i : Nat) (h : i ≤ s.size) : quantM (restS s i) 0 = quantM s i := by
  unfold quantM
  rw [byteAt_rest s i 0 h, restS_size s i h, Nat.add_zero]
  have : (s.size - i ≤ 0) ↔ (s.size ≤ i) := by omega
  simp only [this]
end Go.Proofs.YtnhjakdmbfadlaaGreatDoor

/- gaugerlaw06.Turned: a copy of a set. -/
namespace Go.Proofs.YtnhjakdmbfadlaaGreatDoor
open Go.RowKit Wy Mem Grow

theorem info84 : (Tryz.prog.info? 122).map (fun i => (i.zero, i.size, i.bytes)) = some (some (.agg #[.int .i64 0, .int .i64 0]), 2, 16) := by kernel_rfl
theorem src2 {T : TypeId} {W : World} {c0 c1 : Value} {b : Nat} (hb : b = W.heap.size) : SrcAt (W.alloc (.cells #[c0, c1] T)) (.slice (some ⟨b, 0, none⟩) 1 1) 1 [c0, c1] := by
  subst hb
  have hB := Blk.new W #[c0, c1] T
  refine .inr ⟨_, _, rfl, fun j u hu => ?_⟩
  match j with
  | 0 => simp at hu; subst hu; simp [Addr.add, hB.cell]
  | 1 => simp at hu; subst hu; simp [Addr.add, hB.cell]
  | j + 2 => simp at hu
set_option maxHeartbeats 4000000 in
set_option maxRecDepth 100000 in
theorem turned6_any {N : Nat → Prop} {w : World} {v : Value} {l : List Rg} (h : RgsAt N w v l) : Calls Tryz.prog 57 #[v] w fun e w' => ∃ v', e = .returned v' ∧ w'.ownsRow w.heap.size 122 2 v' l.length (l.flatMap rgCs) ∧ Below w.heap.size w w' := by
  obtain ⟨o, c, rfl⟩ := h.row.slice
  have H := Lib.hid h
  have hlI : (l.length : Int) ≤ 1048576 := by have := h.small; omega
  clear h
  obtain ⟨i0, hi0, hz0, hz1, hz2⟩ := info_parts info84
  go_enter Tryz.func57, Tryz.ntmps57
  go_wp2_with fail
  go_loopw [3, 8] (fun s3 s8 wx => ∃ j : Nat, j ≤ l.length ∧ s8 = .int .i64 j ∧ wx.ownsRow w.heap.size 122 2 s3 j ((l.take j).flatMap rgCs) ∧ Below w.heap.size w wx) (fun _ s8 _ => l.length - (intOf s8).toNat)
  case atStart => exact ⟨0, by omega, rfl, World.ownsRow_nil _ _ _ _, Below.refl _ _⟩
  case round =>
    rename World => Wa
    obtain ⟨j, hj, rfl, hro, hbw⟩ := hrel
    have HBW := Lib.hid hbw
    obtain ⟨ov, cv, rfl⟩ := ownSlice hro
    by_cases hjl : j < l.length
    · obtain ⟨b, off, cap, hve, hc1, hc2, hNb, hbz, hcell⟩ := H.out.cells (by omega)
      simp only [Value.slice.injEq, true_and] at hve
      obtain ⟨rfl, rfl⟩ := hve
      obtain ⟨-, -, e0, e1⟩ := hcell j hjl
      obtain ⟨x, hx⟩ : ∃ x, x = l[j] := ⟨_, rfl⟩
      have y0 : Wa.cell? ⟨b, off + j * 2, none⟩ = some (.int .i64 x.lo) := by rw [hx]; exact (hbw.cell (p := ⟨b, off + j * 2, none⟩) hbz).trans e0
      have y1 : Wa.cell? ⟨b, off + j * 2 + 1, none⟩ = some (.int .i64 x.hi) := by rw [hx]; exact (hbw.cell (p := ⟨b, off + j * 2 + 1, none⟩) hbz).trans e1
      have hbza : b < Wa.heap.size := by have := hbw.size; omega
      have hjI : (j : Int) < l.length := by omega
      have hcI : (l.length : Int) ≤ c := by omega
      have hr2 : ((Wa.alloc (.cells #[.int .i64 x.lo, .int .i64 x.hi] 123)).alloc (.cells #[.int .i64 x.lo, .int .i64 x.hi] 122)).ownsRow w.heap.size 122 2 (.slice ov j cv) j ((l.take j).flatMap rgCs) := ownGo hro (((Kept.refl (fun _ => False) Wa).alloc _).alloc _) (fun _ _ => id)
      have hbs : w.heap.size ≤ ((Wa.alloc (.cells #[.int .i64 x.lo, .int .i64 x.hi] 123)).alloc (.cells #[.int .i64 x.lo, .int .i64 x.hi] 122)).heap.size := by have := hbw.size; simp; omega
      have hsr : SrcAt ((Wa.alloc (.cells #[.int .i64 x.lo, .int .i64 x.hi] 123)).alloc (.cells #[.int .i64 x.lo, .int .i64 x.hi] 122)) (.slice (some ⟨Wa.heap.size + 1, 0, none⟩) 1 1) 1 [.int .i64 x.lo, .int .i64 x.hi] := src2 (by simp)
      have hmx : j + 1 ≤ maxLen := by unfold maxLen; omega
      have hby : (j + 1) * 16 ≤ 140737488355328 := by omega
      have hfin : ∀ w4, ((Wa.alloc (.cells #[.int .i64 x.lo, .int .i64 x.hi] 123)).alloc (.cells #[.int .i64 x.lo, .int .i64 x.hi] 122)).grownBy w4 (Value.slice ov j cv).ownBlock → Below w.heap.size w w4 := fun w4 hg =>
        ((Kept.of_below ((HBW.out.alloc HBW.out.size (.cells #[.int .i64 x.lo, .int .i64 x.hi] 123)).alloc (by have := HBW.out.size; simp; omega) (.cells #[.int .i64 x.lo, .int .i64 x.hi] 122)) (fun q => (Value.slice ov j cv).ownBlock = some q)).trans (grownK hg)).below (fun q hq e => by have := (hr2.lt q e).1; omega)
      have HR2 := Lib.hid hr2
      have HBS := Lib.hid hbs
      have HSR := Lib.hid hsr
      have HX := Lib.hid hx
      have HFIN := Lib.hid hfin
      clear hcell e0 e1 hr2 hbs hsr hx hro hbw hfin
      go_wp2_with (first | (at_builtin; go_loud (refine wpList_append_row rfl _ _ 24 rfl Tryz.underlying24 hi0 hz0 hz1 hz2 rfl (.slice ov j cv) j ((l.take j).flatMap rgCs) rfl HR2.out _ 1 _ rfl HSR.out rfl (by simp [Value.oneCell']) hmx hby HBS.out ?_; intro v' w4 hown' hgrow h3' h4'; have HO := Lib.hid hown'; have HB4 := Lib.hid (HFIN.out w4 hgrow); clear hown' hgrow h3' h4')))
      go_roundw
      case rel => exact ⟨j + 1, by omega, by go_num, by
        have := HO.out
        rw [List.take_succ_eq_append_getElem hjl, ← HX.out]
        simpa [rgCs] using this, HB4.out⟩
      case measure => simp [intOf]; omega
    · obtain rfl : j = l.length := by omega
      rw [List.take_length] at hro
      have HF := Lib.hid hro
      clear hro hbw
      go_wp2_with fail
      go_ret
      exact ⟨_, rfl, HF.out, HBW.out⟩
end Go.Proofs.YtnhjakdmbfadlaaGreatDoor
