/- Parts of the proof: Mem, Plain, Right, Made, Tree. Conditions: none. -/
import Derived.WalkKit
import Derived.ScopeJumps
import Derived.WalkMore
import Derived.Laws.AppendOwn
import Derived.Lib.Hide
set_option linter.all false
/- Memory: what a call may write, said by blocks; blocks that are known whole. -/
namespace Go.Proofs.Mem
open Go Go.RowKit

/-- w' is w, but for the blocks in X and for new ones; no block has gone. -/
structure Kept (X : Nat → Prop) (w w' : World) : Prop where
  os : w'.os = w.os
  tape : w'.tape = w.tape
  output : w'.output = w.output
  size : w.heap.size ≤ w'.heap.size
  block : ∀ k, k < w.heap.size → ¬ X k → w'.heap[k]? = w.heap[k]?

namespace Kept
variable {X Y : Nat → Prop} {a b c : World}
theorem refl (X : Nat → Prop) (w : World) : Kept X w w := ⟨rfl, rfl, rfl, Nat.le_refl _, fun _ _ _ => rfl⟩
theorem trans (h : Kept X a b) (k : Kept X b c) : Kept X a c :=
  ⟨k.os.trans h.os, k.tape.trans h.tape, k.output.trans h.output, Nat.le_trans h.size k.size, fun i hi hx => (k.block i (Nat.lt_of_lt_of_le hi h.size) hx).trans (h.block i hi hx)⟩
/-- what the second may write lies in X or is new since a. -/
theorem trans' (h : Kept X a b) (k : Kept Y b c) (hY : ∀ i, i < a.heap.size → Y i → X i) : Kept X a c :=
  ⟨k.os.trans h.os, k.tape.trans h.tape, k.output.trans h.output, Nat.le_trans h.size k.size,
    fun i hi hx => (k.block i (Nat.lt_of_lt_of_le hi h.size) (fun hy => hx (hY i hi hy))).trans (h.block i hi hx)⟩
theorem mono (h : Kept X a b) (hX : ∀ i, i < a.heap.size → X i → Y i) : Kept Y a b :=
  ⟨h.os, h.tape, h.output, h.size, fun i hi hy => h.block i hi (fun hx => hy (hX i hi hx))⟩
theorem of_below (h : Below a.heap.size a b) (X : Nat → Prop) : Kept X a b := ⟨h.os, h.tape, h.output, h.size, fun i hi _ => h.block i hi⟩
theorem below (h : Kept X a b) (hX : ∀ i, i < a.heap.size → ¬ X i) : Below a.heap.size a b := ⟨h.os, h.tape, h.output, h.size, fun i hi => h.block i hi (hX i hi)⟩
theorem belowOf {B : Nat} (h : Kept X a b) (hB : B ≤ a.heap.size) (hX : ∀ i, i < B → ¬ X i) : Below B a b := ⟨h.os, h.tape, h.output, h.size, fun i hi => h.block i (Nat.lt_of_lt_of_le hi hB) (hX i hi)⟩
theorem drew (h : Kept X a b) : Kept X a b.drew := ⟨h.os, h.tape, h.output, h.size, h.block⟩
theorem alloc (h : Kept X a b) (o : Obj) : Kept X a (b.alloc o) :=
  h.trans ⟨rfl, rfl, rfl, by simp, fun k hk _ => Below.heap_alloc _ _ _ hk⟩
theorem setCell (h : Kept X a b) {p : Addr} (hp : p.block < a.heap.size → X p.block) (u : Value) : Kept X a (b.setCell p u) :=
  ⟨h.os, h.tape, h.output, by simp [World.setCell]; exact h.size, fun k hk hx => by
    rw [Below.heap_setCell _ _ _ _ (fun e => hx (by subst e; exact hp hk))]; exact h.block k hk hx⟩
theorem lt (h : Kept X a b) {k : Nat} (hk : k < a.heap.size) : k < b.heap.size := Nat.lt_of_lt_of_le hk h.size
end Kept

/-- a block of cells, known whole, none of them frozen. -/
def Blk (w : World) (b : Nat) (cs : Array Value) (t : TypeId) : Prop := w.heap[b]? = some (.cells cs t (0, 0))

theorem Blk.lt {w : World} {b : Nat} {cs : Array Value} {t : TypeId} (h : Blk w b cs t) : b < w.heap.size := (Array.getElem?_eq_some_iff.1 h).1
theorem Blk.cell {w : World} {b : Nat} {cs : Array Value} {t : TypeId} (h : Blk w b cs t) (i : Nat) : w.cell? ⟨b, i, none⟩ = cs[i]? := by
  unfold Blk at h; simp [World.cell?, h]
theorem Blk.frozen {w : World} {b : Nat} {cs : Array Value} {t : TypeId} (h : Blk w b cs t) (i : Nat) : w.frozen? ⟨b, i, none⟩ = false := by
  unfold Blk at h; simp [World.frozen?, h]
theorem Blk.kept {w w' : World} {X : Nat → Prop} {b : Nat} {cs : Array Value} {t : TypeId} (h : Blk w b cs t) (k : Kept X w w') (hb : ¬ X b) : Blk w' b cs t := by
  have := k.block b h.lt hb
  unfold Blk at *; rw [this, h]
theorem Blk.below {w w' : World} {B : Nat} {b : Nat} {cs : Array Value} {t : TypeId} (h : Blk w b cs t) (k : Below B w w') (hb : b < B) : Blk w' b cs t := by
  have := k.block b hb
  unfold Blk at *; rw [this, h]
theorem Blk.drew {w : World} {b : Nat} {cs : Array Value} {t : TypeId} (h : Blk w b cs t) : Blk w.drew b cs t := h
theorem Blk.alloc {w : World} {b : Nat} {cs : Array Value} {t : TypeId} (h : Blk w b cs t) (o : Obj) : Blk (w.alloc o) b cs t := by
  unfold Blk; rw [Below.heap_alloc _ _ _ h.lt]; exact h
theorem Blk.new (w : World) (cs : Array Value) (t : TypeId) : Blk (w.alloc (.cells cs t)) w.heap.size cs t := by
  show (w.heap.push _)[w.heap.size]? = _
  simp
theorem Blk.setOther {w : World} {b : Nat} {cs : Array Value} {t : TypeId} (h : Blk w b cs t) {p : Addr} (hp : b ≠ p.block) (u : Value) : Blk (w.setCell p u) b cs t := by
  unfold Blk; rw [Below.heap_setCell _ _ _ _ hp]; exact h
theorem Blk.set {w : World} {b : Nat} {cs : Array Value} {t : TypeId} (h : Blk w b cs t) (i : Nat) (u : Value) : Blk (w.setCell ⟨b, i, none⟩ u) b (cs.setIfInBounds i u) t := by
  unfold Blk at *
  simp [World.setCell, Array.getElem?_modify, h]
theorem Blk.one {w : World} {b : Nat} {v0 : Value} {t : TypeId} (h : Blk w b #[v0] t) : w.cell? ⟨b, 0, none⟩ = some v0 ∧ w.frozen? ⟨b, 0, none⟩ = false := ⟨by rw [h.cell]; rfl, h.frozen 0⟩
theorem Blk.two {w : World} {b : Nat} {v0 v1 : Value} {t : TypeId} (h : Blk w b #[v0, v1] t) :
    w.cell? ⟨b, 0, none⟩ = some v0 ∧ w.cell? ⟨b, 1, none⟩ = some v1 ∧ w.frozen? ⟨b, 0, none⟩ = false ∧ w.frozen? ⟨b, 1, none⟩ = false :=
  ⟨by rw [h.cell]; rfl, by rw [h.cell]; rfl, h.frozen 0, h.frozen 1⟩
theorem Blk.five {w : World} {b : Nat} {v0 v1 v2 v3 v4 : Value} {t : TypeId} (h : Blk w b #[v0, v1, v2, v3, v4] t) :
    w.cell? ⟨b, 0, none⟩ = some v0 ∧ w.cell? ⟨b, 1, none⟩ = some v1 ∧ w.cell? ⟨b, 2, none⟩ = some v2 ∧ w.cell? ⟨b, 3, none⟩ = some v3 ∧ w.cell? ⟨b, 4, none⟩ = some v4 ∧
    w.frozen? ⟨b, 0, none⟩ = false ∧ w.frozen? ⟨b, 1, none⟩ = false ∧ w.frozen? ⟨b, 2, none⟩ = false ∧ w.frozen? ⟨b, 3, none⟩ = false ∧ w.frozen? ⟨b, 4, none⟩ = false :=
  ⟨by rw [h.cell]; rfl, by rw [h.cell]; rfl, by rw [h.cell]; rfl, by rw [h.cell]; rfl, by rw [h.cell]; rfl, h.frozen 0, h.frozen 1, h.frozen 2, h.frozen 3, h.frozen 4⟩
theorem Blk.new' {w : World} {b : Nat} (cs : Array Value) (t : TypeId) (hb : b = w.heap.size) : Blk (w.alloc (.cells cs t)) b cs t := by subst hb; exact Blk.new _ _ _
theorem Blk.ne {w : World} {a b : Nat} {cs ds : Array Value} {t u : TypeId} (h : Blk w a cs t) (k : Blk w b ds u) (hc : cs.size ≠ ds.size) : a ≠ b := by
  intro e; subst e; unfold Blk at *; rw [h] at k; simp at k; exact hc (by rw [k.1])
end Go.Proofs.Mem

/- Trees and their ways, in plain terms: no program in sight. -/
namespace Go.Proofs.Wy

structure Rg where
  lo : Int
  hi : Int
inductive Nd where
  | mk (kind : Int) (set : List Rg) (lo hi : Int) (lazy : Bool) (subs : List Nd)
namespace Nd
def kind : Nd → Int | mk k _ _ _ _ _ => k
def set : Nd → List Rg | mk _ s _ _ _ _ => s
def lo : Nd → Int | mk _ _ m _ _ _ => m
def hi : Nd → Int | mk _ _ _ m _ _ => m
def lazy : Nd → Bool | mk _ _ _ _ l _ => l
def subs : Nd → List Nd | mk _ _ _ _ _ u => u
end Nd

/-! Sets of code points -/
def point (c : Int) : Bool := (decide (0 ≤ c) && decide (c ≤ 55295)) || (decide (57344 ≤ c) && decide (c ≤ 1114111))
def rgOk (r : Rg) : Bool := point r.lo && point r.hi && !decide (r.hi < r.lo) && !(decide (r.lo ≤ 55295) && decide (55295 < r.hi))
def rgsOk : List Rg → Bool
  | [] => true
  | [r] => rgOk r
  | r :: q :: l => rgOk r && !decide (q.lo ≤ r.hi + 1) && rgsOk (q :: l)
def hasRg (l : List Rg) (c : Int) : Bool := l.any fun r => decide (r.lo ≤ c) && decide (c ≤ r.hi)

/-! What a tree says of itself -/
structure Facts where
  depth : Int
  groups : Int
  nullable : Bool
  shaped : Bool
  firm : Bool
def shapedN : Nd → Bool
  | .mk k set lo hi lazy subs =>
    if k = 5 then decide (0 ≤ lo) && decide (lo ≤ 1000) && (decide (hi = -1) || (decide (lo ≤ hi) && decide (hi ≤ 1000))) && decide (set = []) && decide (subs.length = 1)
    else decide (lo = 0) && decide (hi = 0) && !lazy &&
      (if k = 1 then decide (set = []) && decide (subs = [])
       else if k = 2 then rgsOk set && decide (subs = [])
       else if k = 3 ∨ k = 4 then decide (set = []) && decide (1 < subs.length)
       else if k = 6 then decide (set = []) && decide (subs.length = 1)
       else false)
mutual
def look : Nd → Facts
  | .mk k set lo hi lazy subs =>
    let f := lookL k ⟨0, 0, decide (k = 1) || decide (k = 3), shapedN (.mk k set lo hi lazy subs), true⟩ subs
    ⟨f.depth + 1, if k = 6 then f.groups + 1 else f.groups, if k = 5 then f.nullable || decide (lo = 0) else f.nullable, f.shaped,
      if k = 5 then f.firm && !(f.nullable && (decide (hi = -1) || decide (1 < hi))) else f.firm⟩
def lookL (k : Int) (f : Facts) : List Nd → Facts
  | [] => f
  | s :: r => let g := look s
    lookL k ⟨max f.depth g.depth, f.groups + g.groups, if k = 3 then f.nullable && g.nullable else f.nullable || g.nullable, f.shaped && g.shaped, f.firm && g.firm⟩ r
end
def rightF (f : Facts) : Bool := f.shaped && f.firm && decide (f.groups ≤ 30) && decide (f.depth ≤ 40)
def right (t : Nd) : Bool := rightF (look t)
mutual
def opened : Nd → Nat
  | .mk k _ _ _ _ subs => (if k = 6 then 1 else 0) + openedL subs
def openedL : List Nd → Nat
  | [] => 0
  | s :: r => opened s + openedL r
end

/-! Ways -/
structure Alg (W : Type) where
  stop : W → Nat
  thn : W → W → W
  still : Nat → W
  mark : Nat → Nat → W → W

/-- all of some, if there is each of them -/
def allOf {α β : Type} (f : α → Option (List β)) : List α → Option (List β)
  | [] => some []
  | a :: l => match f a, allOf f l with
    | some x, some y => some (x ++ y)
    | _, _ => none
def most {α : Type} : Option (List α) → Option (List α)
  | some l => if l.length ≤ 500 then some l else none
  | none => none
/-- a step of a sequence -/
def goOn {W : Type} (A : Alg W) (f : Nat → Option (List W)) (l : List W) : Option (List W) :=
  most (allOf (fun w => (f (A.stop w)).map fun m => m.map (A.thn w)) l)

/-- what a repetition has found -/
structure Fs (W : Type) where
  out : List W
  counts : List Nat
  ok : Bool
def bump (c : List Nat) (t : Nat) : List Nat := (if c.length = t then c ++ [0] else c).modify t (· + 1)
/-- one after the other, until there are too many; whether it stopped so -/
def loopF {W : Type} (g : W → Fs W → Fs W) : List W → Fs W → Fs W × Bool
  | [], σ => (σ, false)
  | v :: r, σ => if !σ.ok || decide (500 < σ.out.length) then (σ, true) else loopF g r (g v σ)
def finF {W : Type} (b : Bool) (w : W) (σ : Fs W) : Fs W := if b then { σ with out := σ.out ++ [w] } else σ
def follow {W : Type} (A : Alg W) (f : Nat → Option (List W)) (lo hi : Int) (lazy : Bool) : Nat → W → Nat → Fs W → Fs W
  | 0, _, _, σ => { σ with ok := false }
  | k + 1, w, t, σ =>
    let c := bump σ.counts t
    let ok := σ.ok && decide (c.getD t 0 ≤ 500)
    let σ1 : Fs W := finF (decide (lo ≤ t) && lazy) w ⟨σ.out, c, ok⟩
    if ok && (decide (hi = -1) || decide ((t : Int) < hi)) then
      match f (A.stop w) with
      | none => finF (decide (lo ≤ t) && !lazy) w { σ1 with ok := false }
      | some more =>
        let q := loopF (fun v σ => follow A f lo hi lazy k (A.thn w v) (t + 1) σ) more σ1
        if q.2 then q.1 else finF (decide (lo ≤ t) && !lazy) w q.1
    else finF (decide (lo ≤ t) && !lazy) w σ1
def rep {W : Type} (A : Alg W) (f : Nat → Option (List W)) (lo hi : Int) (lazy : Bool) (fuel place : Nat) : Option (List W) :=
  let σ := follow A f lo hi lazy fuel (A.still place) 0 ⟨[], [], true⟩
  if σ.ok && decide (σ.out.length ≤ 500) then some σ.out else none

/-- a string, as it is read: the code point at a place, and how many bytes it has (0: there is none) -/
structure Str where
  len : Nat
  dec : Nat → Int × Nat
mutual
def wy {W : Type} (A : Alg W) (S : Str) : Nd → Nat → Nat → Option (List W)
  | .mk k set lo hi lazy subs, g, p => most (
    if k = 1 then some [A.still p]
    else if k = 2 then (if 0 < (S.dec p).2 ∧ hasRg set (S.dec p).1 = true then some [A.still (p + (S.dec p).2)] else some [])
    else if k = 3 then wyCat A S subs g [A.still p]
    else if k = 5 then wyRep A S lo hi lazy subs g p
    else if k = 6 then (wyAlt A S subs (g + 1) p).map fun l => l.map (A.mark g p)
    else wyAlt A S subs g p)
def wyCat {W : Type} (A : Alg W) (S : Str) : List Nd → Nat → List W → Option (List W)
  | [], _, l => some l
  | s :: r, g, l => match goOn A (fun q => wy A S s g q) l with
    | some m => wyCat A S r (g + opened s) m
    | none => none
def wyRep {W : Type} (A : Alg W) (S : Str) (lo hi : Int) (lazy : Bool) : List Nd → Nat → Nat → Option (List W)
  | [], _, _ => none
  | s :: _, g, p => rep A (fun q => wy A S s g q) lo hi lazy 36 p
def wyAlt {W : Type} (A : Alg W) (S : Str) : List Nd → Nat → Nat → Option (List W)
  | [], _, _ => some []
  | s :: r, g, p => match wy A S s g p, wyAlt A S r (g + opened s) p with
    | some x, some y => some (x ++ y)
    | _, _ => none
end

/-! The two kinds of ways: with spans, and their ends alone -/
structure Way where
  stop : Nat
  spans : List (Int × Int)
def wayA (G : Nat) : Alg Way where
  stop := Way.stop
  thn w v := ⟨v.stop, List.zipWith (fun p q => if q.1 = -1 ∧ q.2 = -1 then p else q) w.spans v.spans⟩
  still p := ⟨p, List.replicate G (-1, -1)⟩
  mark g p w := ⟨w.stop, w.spans.set g (p, w.stop)⟩
def endA : Alg Nat where
  stop n := n
  thn _ v := v
  still p := p
  mark _ _ w := w
def ends (S : Str) (t : Nd) (p : Nat) : Option (List Nat) := wy endA S t 0 p
def ways (S : Str) (t : Nd) : Option (List Way) := wy (wayA (opened t)) S t 0 0
end Go.Proofs.Wy

/- Trees that are right. -/
namespace Go.Proofs.Wy

theorem lookL_shaped (k : Int) : ∀ (l : List Nd) (f : Facts), (lookL k f l).shaped = (f.shaped && l.all fun s => (look s).shaped)
  | [], f => by simp [lookL]
  | s :: r, f => by rw [lookL, lookL_shaped k r]; simp [Bool.and_assoc]
theorem lookL_firm (k : Int) : ∀ (l : List Nd) (f : Facts), (lookL k f l).firm = (f.firm && l.all fun s => (look s).firm)
  | [], f => by simp [lookL]
  | s :: r, f => by rw [lookL, lookL_firm k r]; simp [Bool.and_assoc]
theorem lookL_groups (k : Int) : ∀ (l : List Nd) (f : Facts), (lookL k f l).groups = f.groups + (l.map fun s => (look s).groups).sum
  | [], f => by simp [lookL]
  | s :: r, f => by rw [lookL, lookL_groups k r]; simp; omega
theorem lookL_depth (k : Int) (n : Int) : ∀ (l : List Nd) (f : Facts), f.depth ≤ n → (∀ s ∈ l, (look s).depth ≤ n) → (lookL k f l).depth ≤ n
  | [], f, h, _ => by simpa [lookL] using h
  | s :: r, f, h, hl => by
    rw [lookL]
    exact lookL_depth k n r _ (by have := hl s (by simp); simp only; omega) (fun t ht => hl t (List.mem_cons_of_mem _ ht))
theorem lookL_nullable (k : Int) : ∀ (l : List Nd) (f : Facts), (lookL k f l).nullable = if k = 3 then (f.nullable && l.all fun s => (look s).nullable) else (f.nullable || l.any fun s => (look s).nullable)
  | [], f => by simp [lookL]
  | s :: r, f => by
    rw [lookL, lookL_nullable k r]
    by_cases h : k = 3 <;> simp [h, Bool.and_assoc, Bool.or_assoc]
theorem look_shaped (k : Int) (set : List Rg) (lo hi : Int) (lazy : Bool) (subs : List Nd) :
    (look (.mk k set lo hi lazy subs)).shaped = (shapedN (.mk k set lo hi lazy subs) && subs.all fun s => (look s).shaped) := by
  rw [look]; simp only [lookL_shaped]
theorem look_groups (k : Int) (set : List Rg) (lo hi : Int) (lazy : Bool) (subs : List Nd) :
    (look (.mk k set lo hi lazy subs)).groups = (subs.map fun s => (look s).groups).sum + if k = 6 then 1 else 0 := by
  rw [look]; simp only [lookL_groups]; split <;> omega
theorem look_depth (k : Int) (set : List Rg) (lo hi : Int) (lazy : Bool) (subs : List Nd) (n : Int) (h0 : 0 ≤ n) (h : ∀ s ∈ subs, (look s).depth ≤ n) :
    (look (.mk k set lo hi lazy subs)).depth ≤ n + 1 := by
  rw [look]
  have := lookL_depth k n subs ⟨0, 0, decide (k = 1) || decide (k = 3), shapedN (.mk k set lo hi lazy subs), true⟩ h0 h
  simp only
  omega
theorem look_nullable (k : Int) (set : List Rg) (lo hi : Int) (lazy : Bool) (subs : List Nd) :
    (look (.mk k set lo hi lazy subs)).nullable = if k = 1 then true else if k = 3 then subs.all fun s => (look s).nullable else if k = 5 then (subs.any fun s => (look s).nullable) || decide (lo = 0) else subs.any fun s => (look s).nullable := by
  rw [look]
  simp only [lookL_nullable]
  by_cases h1 : k = 1
  · subst h1; simp
  by_cases h3 : k = 3
  · subst h3; simp
  by_cases h5 : k = 5
  · subst h5; simp
  simp [h1, h3, h5]
theorem look_firm (k : Int) (set : List Rg) (lo hi : Int) (lazy : Bool) (subs : List Nd) :
    (look (.mk k set lo hi lazy subs)).firm = ((subs.all fun s => (look s).firm) && (!decide (k = 5) || !((subs.any fun s => (look s).nullable) && (decide (hi = -1) || decide (1 < hi))))) := by
  rw [look]
  simp only [lookL_nullable, lookL_firm]
  by_cases h5 : k = 5
  · subst h5; simp
  · simp [h5]
mutual
theorem look_opened : ∀ t : Nd, (look t).groups = opened t
  | .mk k set lo hi lazy subs => by
    rw [look_groups, opened, sum_opened subs]
    by_cases h : k = 6
    · simp [h]; omega
    · simp [h]
theorem sum_opened : ∀ l : List Nd, (l.map fun s => (look s).groups).sum = openedL l
  | [] => by simp [openedL]
  | s :: r => by
    rw [List.map_cons, List.sum_cons, look_opened s, sum_opened r, openedL]
    omega
end

/-- what is right but for its size: how deep it may be, how many groups it may have -/
structure Good (t : Nd) (d g : Nat) : Prop where
  shaped : (look t).shaped = true
  firm : (look t).firm = true
  depth : (look t).depth ≤ d
  groups : opened t ≤ g
theorem Good.right {t : Nd} {d g : Nat} (h : Good t d g) (hd : d ≤ 40) (hg : g ≤ 30) : right t = true := by
  have h1 := h.depth
  have h2 := h.groups
  have h3 := look_opened t
  simp only [Wy.right, rightF, h.shaped, h.firm, Bool.true_and, Bool.and_eq_true, decide_eq_true_eq]
  omega
theorem Good.mono {t : Nd} {d g d' g' : Nat} (h : Good t d g) (hd : d ≤ d') (hg : g ≤ g') : Good t d' g' :=
  ⟨h.shaped, h.firm, by have := h.depth; omega, by have := h.groups; omega⟩
theorem good_empty : Good (.mk 1 [] 0 0 false []) 1 0 := ⟨by decide, by decide, by decide, by decide⟩
theorem good_set {l : List Rg} (h : rgsOk l = true) : Good (.mk 2 l 0 0 false []) 1 0 := by
  refine ⟨?_, ?_, ?_, ?_⟩
  · rw [look_shaped]; simp [shapedN, h]
  · rw [look_firm]; simp
  · exact look_depth 2 l 0 0 false [] 0 (by omega) (by simp)
  · simp [opened, openedL]
theorem good_many {k : Int} (hk : k = 3 ∨ k = 4) {l : List Nd} (hl : 1 < l.length) {d g : Nat} (h : ∀ s ∈ l, ∃ g, Good s d g) (hg : openedL l ≤ g) : Good (.mk k [] 0 0 false l) (d + 1) g := by
  refine ⟨?_, ?_, ?_, ?_⟩
  · rw [look_shaped]
    have : (l.all fun s => (look s).shaped) = true := by
      rw [List.all_eq_true]; intro s hs; obtain ⟨_, hs⟩ := h s hs; exact hs.shaped
    rw [this]
    rcases hk with rfl | rfl <;> simp [shapedN, hl]
  · rw [look_firm]
    have : (l.all fun s => (look s).firm) = true := by
      rw [List.all_eq_true]; intro s hs; obtain ⟨_, hs⟩ := h s hs; exact hs.firm
    rw [this]
    rcases hk with rfl | rfl <;> simp
  · have := look_depth k [] 0 0 false l d (by omega) (fun s hs => by obtain ⟨_, hs⟩ := h s hs; exact hs.depth)
    omega
  · rw [opened]
    rcases hk with rfl | rfl <;> simpa using hg
theorem good_group {t : Nd} {d g : Nat} (h : Good t d g) : Good (.mk 6 [] 0 0 false [t]) (d + 1) (g + 1) := by
  refine ⟨?_, ?_, ?_, ?_⟩
  · rw [look_shaped]; simp [shapedN, h.shaped]
  · rw [look_firm]; simp [h.firm]
  · have := look_depth 6 [] 0 0 false [t] d (by omega) (by simpa using h.depth)
    omega
  · have := h.groups
    simp [opened, openedL]; omega
theorem good_rep {t : Nd} {d g : Nat} (h : Good t d g) {lo hi : Int} (lazy : Bool) (h0 : 0 ≤ lo) (h1 : lo ≤ 1000) (h2 : hi = -1 ∨ lo ≤ hi ∧ hi ≤ 1000) (hn : (look t).nullable = true → 0 ≤ hi ∧ hi ≤ 1) : Good (.mk 5 [] lo hi lazy [t]) (d + 1) g := by
  refine ⟨?_, ?_, ?_, ?_⟩
  · rw [look_shaped]
    simp only [shapedN, List.all_cons, List.all_nil, h.shaped]
    simp [h0, h1, h2]
  · rw [look_firm]
    simp only [List.all_cons, List.all_nil, h.firm, List.any_cons, List.any_nil]
    cases hz : (look t).nullable with
    | false => simp
    | true =>
      have := hn hz
      simp; omega
  · have := look_depth 5 [] lo hi lazy [t] d (by omega) (by simpa using h.depth)
    omega
  · have := h.groups
    simp [opened, openedL]; omega
end Go.Proofs.Wy

/- The trees that small numbers make: they are right. -/
namespace Go.Proofs.Wy

structure Sm where
  kind : Nat
  a : Nat
  b : Nat
def signs : List Int := [42, 46, 124, 92, 45, 93]
def leafS (a b : Nat) : List Rg :=
  if a % 8 = 0 then [⟨0, 55295⟩, ⟨57344, 1114111⟩]
  else if a % 8 = 1 then [⟨97, 99⟩]
  else if a % 8 = 2 then [⟨48, 57⟩, ⟨97, 98⟩]
  else if a % 8 = 3 then [⟨8364, 8364⟩]
  else if a % 8 = 4 then [⟨signs.getD (b % 6) 0, signs.getD (b % 6) 0⟩]
  else [⟨97 + (b % 4 : Nat), 97 + (b % 4 : Nat)⟩]
def leafT (a b : Nat) : Nd := .mk 2 (leafS a b) 0 0 false []
def emptyT : Nd := .mk 1 [] 0 0 false []
def repLo (t : Nd) (x : Sm) : Int := if (look t).nullable then ((x.a % 4 : Nat) : Int) % 2 else (x.a % 4 : Nat)
def repHi (t : Nd) (x : Sm) : Int := if (look t).nullable then 1 else if x.b % 5 = 0 then -1 else (x.a % 4 : Nat) + (x.b / 2 % 3 : Nat)
def repT (t : Nd) (x : Sm) : Nd := .mk 5 [] (repLo t x) (repHi t x) (decide (x.b % 2 = 1)) [t]
def stepT (l : List Nd) (x : Sm) : List Nd :=
  if x.kind % 10 = 0 then l ++ [emptyT]
  else if x.kind % 10 < 5 ∨ l = [] then l ++ [leafT x.a x.b]
  else if x.kind % 10 = 5 then l.dropLast ++ [.mk 6 [] 0 0 false [l.getLastD emptyT]]
  else if x.kind % 10 < 8 ∨ l.length < 2 then l.dropLast ++ [repT (l.getLastD emptyT) x]
  else l.take (l.length - 2 - x.a % 2) ++ [.mk (3 + (x.kind % 10 % 2 : Nat)) [] 0 0 false (l.drop (l.length - 2 - x.a % 2))]
def oneT : List Nd → Nd
  | [] => emptyT
  | [t] => t
  | l => .mk 3 [] 0 0 false l
def madeT (L : List Sm) : Nd := oneT ((L.take 20).foldl stepT [])

theorem openedL_append : ∀ a b : List Nd, openedL (a ++ b) = openedL a + openedL b
  | [], b => by simp [openedL]
  | s :: r, b => by rw [List.cons_append, openedL, openedL, openedL_append r b]; omega
theorem openedL_one (t : Nd) : openedL [t] = opened t := by simp [openedL]

structure Pile (n : Nat) (l : List Nd) : Prop where
  good : ∀ s ∈ l, ∃ g, Good s n g
  groups : openedL l ≤ n
  len : l.length ≤ n
theorem leafS_ok (a b : Nat) : rgsOk (leafS a b) = true := by
  have h4 : ∀ i, i < 4 → rgsOk [⟨97 + (i : Nat), 97 + (i : Nat)⟩] = true := by decide
  have h6 : ∀ i, i < 6 → rgsOk [⟨signs.getD i 0, signs.getD i 0⟩] = true := by decide
  unfold leafS
  split; · decide
  split; · decide
  split; · decide
  split; · decide
  split
  · exact h6 _ (Nat.mod_lt _ (by omega))
  · exact h4 _ (Nat.mod_lt _ (by omega))
theorem last_split {l : List Nd} (h : l ≠ []) : l = l.dropLast ++ [l.getLastD emptyT] := by
  rw [List.getLastD_eq_getLast?, List.getLast?_eq_some_getLast h, Option.getD_some]
  exact (List.dropLast_concat_getLast h).symm
theorem Pile.last {n : Nat} {l : List Nd} (h : Pile n l) (hne : l ≠ []) {t : Nd} (ht : ∃ g, Good t (n + 1) g) (ho : opened t ≤ opened (l.getLastD emptyT) + 1) : Pile (n + 1) (l.dropLast ++ [t]) := by
  have hs := last_split hne
  have hg := h.groups
  have hl := h.len
  rw [hs, openedL_append, openedL_one] at hg
  refine ⟨?_, ?_, ?_⟩
  · intro s hs'
    rcases List.mem_append.1 hs' with hs' | hs'
    · obtain ⟨g, hg⟩ := h.good s (List.dropLast_subset l hs')
      exact ⟨g, hg.mono (by omega) (Nat.le_refl _)⟩
    · rw [List.mem_singleton] at hs'
      subst hs'
      exact ht
  · rw [openedL_append, openedL_one]; omega
  · simp; omega
theorem Pile.push {n : Nat} {l : List Nd} (h : Pile n l) {t : Nd} (ht : Good t 1 0) : Pile (n + 1) (l ++ [t]) := by
  have hg := h.groups
  have hl := h.len
  have h0 := ht.groups
  refine ⟨?_, ?_, ?_⟩
  · intro s hs'
    rcases List.mem_append.1 hs' with hs' | hs'
    · obtain ⟨g, hg⟩ := h.good s hs'
      exact ⟨g, hg.mono (by omega) (Nat.le_refl _)⟩
    · rw [List.mem_singleton] at hs'
      subst hs'
      exact ⟨0, ht.mono (by omega) (Nat.le_refl _)⟩
  · rw [openedL_append, openedL_one]; omega
  · simp; omega
theorem Pile.step {n : Nat} {l : List Nd} (h : Pile n l) (x : Sm) : Pile (n + 1) (stepT l x) := by
  unfold stepT
  split
  · exact h.push good_empty
  split
  · exact h.push (good_set (leafS_ok _ _))
  next hc =>
  have hne : l ≠ [] := fun e => hc (.inr e)
  obtain ⟨g, hg⟩ := h.good (l.getLastD emptyT) (by
    have := last_split hne
    rw [this]
    simp)
  split
  · exact h.last hne ⟨_, good_group hg⟩ (by simp [opened, openedL]; omega)
  split
  · refine h.last hne ⟨_, good_rep hg _ ?_ ?_ ?_ ?_⟩ (by simp [repT, opened, openedL])
    · unfold repLo; split <;> omega
    · unfold repLo; split <;> omega
    · unfold repLo repHi
      split
      · right; omega
      · split
        · left; rfl
        · right; omega
    · intro hn
      unfold repHi
      rw [if_pos hn]
      omega
  · next hk =>
    have hsp : l.take (l.length - 2 - x.a % 2) ++ l.drop (l.length - 2 - x.a % 2) = l := List.take_append_drop _ _
    have hgr := h.groups
    have hlen := h.len
    rw [← hsp, openedL_append] at hgr
    have hk2 : (3 + ((x.kind % 10 % 2 : Nat) : Int)) = 3 ∨ (3 + ((x.kind % 10 % 2 : Nat) : Int)) = 4 := by omega
    have hgm := good_many hk2 (l := l.drop (l.length - 2 - x.a % 2)) (by rw [List.length_drop]; omega) (d := n) (g := openedL (l.drop (l.length - 2 - x.a % 2))) (fun s hs => h.good s (List.mem_of_mem_drop hs)) (Nat.le_refl _)
    have hon := hgm.groups
    refine ⟨?_, ?_, ?_⟩
    · intro s hs'
      rcases List.mem_append.1 hs' with hs' | hs'
      · obtain ⟨g, hg⟩ := h.good s (List.mem_of_mem_take hs')
        exact ⟨g, hg.mono (by omega) (Nat.le_refl _)⟩
      · rw [List.mem_singleton] at hs'
        subst hs'
        exact ⟨_, hgm⟩
    · rw [openedL_append, openedL_one]; omega
    · simp only [List.length_append, List.length_take, List.length_cons, List.length_nil]; omega
theorem Pile.fold : ∀ (L : List Sm) (n : Nat) (l : List Nd), Pile n l → Pile (n + L.length) (L.foldl stepT l)
  | [], n, l, h => h
  | x :: L, n, l, h => by
    have := Pile.fold L (n + 1) (stepT l x) (h.step x)
    rw [List.foldl_cons, List.length_cons]
    rwa [show n + (L.length + 1) = n + 1 + L.length by omega]
theorem pile_nil : Pile 0 [] := ⟨by simp, by simp [openedL], by simp⟩
theorem pile_one {n : Nat} {l : List Nd} (h : Pile n l) : Good (oneT l) (n + 1) n := by
  match l, h with
  | [], h => exact good_empty.mono (by omega) (by omega)
  | [t], h =>
    obtain ⟨g, hg⟩ := h.good t (by simp)
    have := h.groups
    rw [openedL_one] at this
    exact ⟨hg.shaped, hg.firm, by have := hg.depth; show (look t).depth ≤ _; omega, this⟩
  | a :: b :: r, h => exact good_many (.inl rfl) (by simp) h.good h.groups
theorem made_good (L : List Sm) {n : Nat} (hn : (L.take 20).length ≤ n) : Good (madeT L) (n + 1) n := by
  have := Pile.fold (L.take 20) 0 [] pile_nil
  exact (pile_one this).mono (by omega) (by omega)
end Go.Proofs.Wy

/- Rows, sets and trees as they lie in memory. -/
namespace Go.Proofs.Wy
open Go Go.RowKit Go.Proofs.Mem

def I64 (x : Int) : Prop := -9223372036854775808 ≤ x ∧ x ≤ 9223372036854775807
/-- a slice of n elements of sz cells each: what it reads as; its block is one of N's -/
structure Row (N : Nat → Prop) (w : World) (v : Value) (n sz : Nat) (cs : List Value) : Prop where
  len : cs.length = n * sz
  at_ : (n = 0 ∧ ∃ o c, v = .slice o 0 c) ∨ ∃ b off cap : Nat, v = .slice (some ⟨b, off, none⟩) n cap ∧ n ≤ cap ∧ cap ≤ maxLen ∧ N b ∧ b < w.heap.size ∧ ∀ j, j < cs.length → w.cell? ⟨b, off + j, none⟩ = cs[j]?
theorem Row.kept {N X : Nat → Prop} {w w' : World} {v : Value} {n sz : Nat} {cs : List Value} (h : Row N w v n sz cs) (k : Kept X w w') (hd : ∀ b, b < w.heap.size → N b → ¬ X b) : Row N w' v n sz cs := by
  refine ⟨h.len, ?_⟩
  rcases h.at_ with h0 | ⟨b, off, cap, rfl, h1, h2, h3, h4, h5⟩
  · exact .inl h0
  · refine .inr ⟨b, off, cap, rfl, h1, h2, h3, k.lt h4, fun j hj => ?_⟩
    rw [← h5 j hj]
    exact World.cell?_of_block (k.block b h4 (hd b h4 h3))
theorem Row.mono {N M : Nat → Prop} {w : World} {v : Value} {n sz : Nat} {cs : List Value} (h : Row N w v n sz cs) (hm : ∀ b, N b → M b) : Row M w v n sz cs := by
  refine ⟨h.len, ?_⟩
  rcases h.at_ with h0 | ⟨b, off, cap, rfl, h1, h2, h3, h4, h5⟩
  · exact .inl h0
  · exact .inr ⟨b, off, cap, rfl, h1, h2, hm b h3, h4, h5⟩
theorem Row.slice {N : Nat → Prop} {w : World} {v : Value} {n sz : Nat} {cs : List Value} (h : Row N w v n sz cs) : ∃ o c, v = .slice o n c := by
  rcases h.at_ with ⟨rfl, o, c, rfl⟩ | ⟨b, off, cap, rfl, _⟩
  · exact ⟨_, _, rfl⟩
  · exact ⟨_, _, rfl⟩
theorem Row.len_le {N : Nat → Prop} {w : World} {v : Value} {n sz : Nat} {cs : List Value} (h : Row N w v n sz cs) : n ≤ maxLen := by
  rcases h.at_ with ⟨rfl, _⟩ | ⟨b, off, cap, rfl, h1, h2, _⟩
  · exact Nat.zero_le _
  · omega
theorem Row.of_own {N : Nat → Prop} {w : World} {base sz n : Nat} {e : TypeId} {v : Value} {cs : List Value} (h : w.ownsRow base e sz v n cs) (hN : ∀ b, base ≤ b → b < w.heap.size → N b) : Row N w v n sz cs := by
  refine ⟨h.1, ?_⟩
  rcases h.2 with ⟨rfl, h0⟩ | ⟨g, cap, cur, rfl, hb, hg, hnc, hcm, -, -⟩
  · exact .inl ⟨h0, none, 0, rfl⟩
  · have hlt := (Array.getElem?_eq_some_iff.1 hg).1
    refine .inr ⟨g, 0, cap, rfl, hnc, hcm, hN g hb hlt, hlt, fun j hj => ?_⟩
    rw [Nat.zero_add]
    exact h.cellAt _ (by rw [← h.1]; exact hj)

theorem flat_len {α β : Type} {f : α → List β} {n : Nat} (hf : ∀ x, (f x).length = n) : ∀ l : List α, (l.flatMap f).length = l.length * n
  | [] => by simp
  | x :: r => by rw [List.flatMap_cons, List.length_append, hf, flat_len hf r, List.length_cons, Nat.succ_mul]; omega
theorem flat_at {α β : Type} {f : α → List β} {n : Nat} (hf : ∀ x, (f x).length = n) : ∀ (l : List α) (j i : Nat) (hj : j < l.length), i < n → (l.flatMap f)[j * n + i]? = (f l[j])[i]?
  | [], _, _, hj, _ => absurd hj (by simp)
  | x :: r, 0, i, _, hi => by
    rw [List.flatMap_cons, Nat.zero_mul, Nat.zero_add, List.getElem?_append_left (by rw [hf]; exact hi)]
    rfl
  | x :: r, j + 1, i, hj, hi => by
    rw [List.flatMap_cons, List.getElem?_append_right (by rw [hf, Nat.succ_mul]; omega), hf]
    have e : (j + 1) * n + i - n = j * n + i := by rw [Nat.succ_mul]; omega
    rw [e, flat_at hf r j i (by simpa using hj) hi]
    rfl
/-- the cells of an element -/
theorem Row.cells {α : Type} {N : Nat → Prop} {w : World} {v : Value} {sz : Nat} {l : List α} {f : α → List Value} (hf : ∀ x, (f x).length = sz) (h : Row N w v l.length sz (l.flatMap f)) (hne : 0 < l.length) :
    ∃ b off cap : Nat, v = .slice (some ⟨b, off, none⟩) l.length cap ∧ l.length ≤ cap ∧ cap ≤ maxLen ∧ N b ∧ b < w.heap.size ∧ ∀ i (hi : i < l.length) j, j < sz → w.cell? ⟨b, off + (i * sz + j), none⟩ = (f l[i])[j]? := by
  rcases h.at_ with ⟨h0, _⟩ | ⟨b, off, cap, rfl, h1, h2, h3, h4, h5⟩
  · omega
  · refine ⟨b, off, cap, rfl, h1, h2, h3, h4, fun i hi j hj => ?_⟩
    rw [h5 _ (by
      rw [flat_len hf]
      have : (i + 1) * sz ≤ l.length * sz := Nat.mul_le_mul_right _ hi
      rw [Nat.succ_mul] at this
      omega), flat_at hf l i j hi hj]

/-! Sets -/
def rgCs (r : Rg) : List Value := [.int .i64 r.lo, .int .i64 r.hi]
structure RgsAt (N : Nat → Prop) (w : World) (v : Value) (l : List Rg) : Prop where
  row : Row N w v l.length 2 (l.flatMap rgCs)
  ok : ∀ r ∈ l, I64 r.lo ∧ I64 r.hi
  small : l.length ≤ 1048576
theorem RgsAt.kept {N X : Nat → Prop} {w w' : World} {v : Value} {l : List Rg} (h : RgsAt N w v l) (k : Kept X w w') (hd : ∀ b, b < w.heap.size → N b → ¬ X b) : RgsAt N w' v l := ⟨h.row.kept k hd, h.ok, h.small⟩
theorem RgsAt.mono {N M : Nat → Prop} {w : World} {v : Value} {l : List Rg} (h : RgsAt N w v l) (hm : ∀ b, N b → M b) : RgsAt M w v l := ⟨h.row.mono hm, h.ok, h.small⟩
theorem RgsAt.cells {N : Nat → Prop} {w : World} {v : Value} {l : List Rg} (h : RgsAt N w v l) (hne : 0 < l.length) :
    ∃ b off cap : Nat, v = .slice (some ⟨b, off, none⟩) l.length cap ∧ l.length ≤ cap ∧ cap ≤ maxLen ∧ N b ∧ b < w.heap.size ∧ ∀ i (hi : i < l.length), I64 l[i].lo ∧ I64 l[i].hi ∧ w.cell? ⟨b, off + i * 2, none⟩ = some (.int .i64 l[i].lo) ∧ w.cell? ⟨b, off + i * 2 + 1, none⟩ = some (.int .i64 l[i].hi) := by
  obtain ⟨b, off, cap, rfl, h1, h2, h3, h4, h5⟩ := h.row.cells (f := rgCs) (fun _ => rfl) hne
  refine ⟨b, off, cap, rfl, h1, h2, h3, h4, fun i hi => ⟨(h.ok _ (List.getElem_mem hi)).1, (h.ok _ (List.getElem_mem hi)).2, ?_, ?_⟩⟩
  · exact h5 i hi 0 (by omega)
  · exact h5 i hi 1 (by omega)

/-! Trees -/
mutual
def NdAt (N : Nat → Prop) (w : World) : Nd → List Value → Prop
  | .mk k set lo hi lazy subs, cs => ∃ sv uv ucs, cs = [.int .u8 k, sv, .int .i64 lo, .int .i64 hi, .bool lazy, uv] ∧ (0 ≤ k ∧ k ≤ 255 ∧ subs.length ≤ 1048576) ∧ I64 lo ∧ I64 hi ∧ RgsAt N w sv set ∧ Row N w uv subs.length 6 ucs ∧ NdsAt N w subs ucs
def NdsAt (N : Nat → Prop) (w : World) : List Nd → List Value → Prop
  | [], cs => cs = []
  | s :: r, cs => ∃ a b, cs = a ++ b ∧ NdAt N w s a ∧ NdsAt N w r b
end
mutual
theorem NdAt.kept {N X : Nat → Prop} {w w' : World} (k : Kept X w w') (hd : ∀ b, b < w.heap.size → N b → ¬ X b) : ∀ {t : Nd} {cs : List Value}, NdAt N w t cs → NdAt N w' t cs
  | .mk kd set lo hi lazy subs, cs, h => by
    rw [NdAt] at h ⊢
    obtain ⟨sv, uv, ucs, h1, h2, h3, h4, h5, h6, h7⟩ := h
    exact ⟨sv, uv, ucs, h1, h2, h3, h4, h5.kept k hd, h6.kept k hd, NdsAt.kept k hd h7⟩
theorem NdsAt.kept {N X : Nat → Prop} {w w' : World} (k : Kept X w w') (hd : ∀ b, b < w.heap.size → N b → ¬ X b) : ∀ {l : List Nd} {cs : List Value}, NdsAt N w l cs → NdsAt N w' l cs
  | [], cs, h => h
  | s :: r, cs, h => by
    rw [NdsAt] at h ⊢
    obtain ⟨a, b, h1, h2, h3⟩ := h
    exact ⟨a, b, h1, NdAt.kept k hd h2, NdsAt.kept k hd h3⟩
end
mutual
theorem NdAt.mono {N M : Nat → Prop} {w : World} (hm : ∀ b, N b → M b) : ∀ {t : Nd} {cs : List Value}, NdAt N w t cs → NdAt M w t cs
  | .mk kd set lo hi lazy subs, cs, h => by
    rw [NdAt] at h ⊢
    obtain ⟨sv, uv, ucs, h1, h2, h3, h4, h5, h6, h7⟩ := h
    exact ⟨sv, uv, ucs, h1, h2, h3, h4, h5.mono hm, h6.mono hm, NdsAt.mono hm h7⟩
theorem NdsAt.mono {N M : Nat → Prop} {w : World} (hm : ∀ b, N b → M b) : ∀ {l : List Nd} {cs : List Value}, NdsAt N w l cs → NdsAt M w l cs
  | [], cs, h => h
  | s :: r, cs, h => by
    rw [NdsAt] at h ⊢
    obtain ⟨a, b, h1, h2, h3⟩ := h
    exact ⟨a, b, h1, NdAt.mono hm h2, NdsAt.mono hm h3⟩
end
theorem NdAt.six {N : Nat → Prop} {w : World} {t : Nd} {cs : List Value} (h : NdAt N w t cs) : cs.length = 6 := by
  cases t
  rw [NdAt] at h
  obtain ⟨sv, uv, ucs, rfl, _⟩ := h
  rfl
theorem NdsAt.length {N : Nat → Prop} {w : World} : ∀ {l : List Nd} {cs : List Value}, NdsAt N w l cs → cs.length = l.length * 6
  | [], cs, h => by rw [NdsAt] at h; subst h; rfl
  | s :: r, cs, h => by
    rw [NdsAt] at h
    obtain ⟨a, b, rfl, h2, h3⟩ := h
    rw [List.length_append, h2.six, h3.length, List.length_cons]
    omega
theorem NdsAt.get {N : Nat → Prop} {w : World} : ∀ {l : List Nd} {cs : List Value}, NdsAt N w l cs → ∀ i (hi : i < l.length), ∃ a, NdAt N w l[i] a ∧ ∀ j, j < 6 → cs[i * 6 + j]? = a[j]?
  | [], cs, _, i, hi => absurd hi (by simp)
  | s :: r, cs, h, i, hi => by
    rw [NdsAt] at h
    obtain ⟨a, b, rfl, h2, h3⟩ := h
    cases i with
    | zero => exact ⟨a, h2, fun j hj => by rw [Nat.zero_mul, Nat.zero_add, List.getElem?_append_left (by rw [h2.six]; exact hj)]⟩
    | succ i =>
      obtain ⟨c, h4, h5⟩ := h3.get i (by simpa using hi)
      refine ⟨c, h4, fun j hj => ?_⟩
      rw [List.getElem?_append_right (by rw [h2.six]; omega), h2.six, ← h5 j hj]
      congr 1
      omega
theorem NdsAt.append {N : Nat → Prop} {w : World} : ∀ {l m : List Nd} {cs ds : List Value}, NdsAt N w l cs → NdsAt N w m ds → NdsAt N w (l ++ m) (cs ++ ds)
  | [], m, cs, ds, h, k => by rw [NdsAt] at h; subst h; exact k
  | s :: r, m, cs, ds, h, k => by
    rw [NdsAt] at h
    obtain ⟨a, b, rfl, h2, h3⟩ := h
    rw [List.cons_append, NdsAt]
    exact ⟨a, b ++ ds, by rw [List.append_assoc], h2, h3.append k⟩
theorem NdsAt.one {N : Nat → Prop} {w : World} {t : Nd} {cs : List Value} (h : NdAt N w t cs) : NdsAt N w [t] cs := by
  rw [NdsAt]
  exact ⟨cs, [], by simp, h, by rw [NdsAt]⟩
/-- the cells of the i-th part -/
theorem Row.parts {N : Nat → Prop} {w : World} {v : Value} {l : List Nd} {cs : List Value} (h : Row N w v l.length 6 cs) (hn : NdsAt N w l cs) (hne : 0 < l.length) :
    ∃ b off cap : Nat, v = .slice (some ⟨b, off, none⟩) l.length cap ∧ l.length ≤ cap ∧ cap ≤ maxLen ∧ N b ∧ b < w.heap.size ∧ ∀ i (hi : i < l.length), ∃ sv uv, NdAt N w l[i] [.int .u8 l[i].kind, sv, .int .i64 l[i].lo, .int .i64 l[i].hi, .bool l[i].lazy, uv] ∧
      w.cell? ⟨b, off + i * 6, none⟩ = some (.int .u8 l[i].kind) ∧ w.cell? ⟨b, off + i * 6 + 1, none⟩ = some sv ∧ w.cell? ⟨b, off + i * 6 + 2, none⟩ = some (.int .i64 l[i].lo) ∧
      w.cell? ⟨b, off + i * 6 + 3, none⟩ = some (.int .i64 l[i].hi) ∧ w.cell? ⟨b, off + i * 6 + 4, none⟩ = some (.bool l[i].lazy) ∧ w.cell? ⟨b, off + i * 6 + 5, none⟩ = some uv := by
  rcases h.at_ with ⟨h0, _⟩ | ⟨b, off, cap, rfl, h1, h2, h3, h4, h5⟩
  · omega
  · refine ⟨b, off, cap, rfl, h1, h2, h3, h4, fun i hi => ?_⟩
    obtain ⟨a, ha, hc⟩ := hn.get i hi
    have hlen := h.len
    have key : ∀ j, j < 6 → w.cell? ⟨b, off + i * 6 + j, none⟩ = a[j]? := fun j hj => by
      rw [Nat.add_assoc, h5 _ (by rw [hlen]; omega), hc j hj]
    generalize l[i] = t at ha ⊢
    cases t with
    | mk k set lo hi' lazy subs =>
      have ha' := ha
      rw [NdAt] at ha
      obtain ⟨sv, uv, ucs, rfl, _⟩ := ha
      exact ⟨sv, uv, ha', key 0 (by omega), key 1 (by omega), key 2 (by omega), key 3 (by omega), key 4 (by omega), key 5 (by omega)⟩
end Go.Proofs.Wy
