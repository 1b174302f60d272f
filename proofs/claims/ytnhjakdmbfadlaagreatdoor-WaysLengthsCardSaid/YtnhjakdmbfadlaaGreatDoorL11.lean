/- Parts of the proof: Memo, Run, Still, Gr, Known, Part, Awk. Conditions: none. -/
import Derived.Test.YtnhjakdmbfadlaaGreatDoorL05
import Derived.Test.YtnhjakdmbfadlaaGreatDoorL02
import Derived.Shelf.Unicode.DecodeSlow
import Derived.Test.YtnhjakdmbfadlaaGreatDoorL09
import Derived.Test.YtnhjakdmbfadlaaGreatDoorL03
import Derived.Maps.Keyed
import Derived.DeepKeys4
import Derived.Deep.DeepCutAuto
import Derived.Deep.CutRange
import Derived.Test.YtnhjakdmbfadlaaGreatDoorL00
import Derived.Test.YtnhjakdmbfadlaaGreatDoorL04
set_option linter.all false
/- Ways and parts in memory; what is known of parts. -/
namespace Go.Proofs.YtnhjakdmbfadlaaGreatDoor
open Go.RowKit Wy Mem Grow

theorem Row.go {N M X : Nat → Prop} {w w' : World} {v : Value} {n sz : Nat} {cs : List Value} (h : Row N w v n sz cs) (k : Kept X w w') (hd : ∀ b, b < w.heap.size → N b → ¬ X b ∧ M b) : Row M w' v n sz cs := by
  refine ⟨h.len, ?_⟩
  rcases h.at_ with h0 | ⟨b, off, cap, rfl, h1, h2, h3, h4, h5⟩
  · exact .inl h0
  · refine .inr ⟨b, off, cap, rfl, h1, h2, (hd b h4 h3).2, k.lt h4, fun j hj => ?_⟩
    rw [← h5 j hj]
    exact World.cell?_of_block (k.block b h4 (hd b h4 h3).1)
theorem SpsAt.go {N M X : Nat → Prop} {w w' : World} {v : Value} {l : List (Int × Int)} (h : SpsAt N w v l) (k : Kept X w w') (hd : ∀ b, b < w.heap.size → N b → ¬ X b ∧ M b) : SpsAt M w' v l := ⟨Row.go h.row k hd, h.ok, h.small⟩
theorem RgsAt.go {N M X : Nat → Prop} {w w' : World} {v : Value} {l : List Rg} (h : RgsAt N w v l) (k : Kept X w w') (hd : ∀ b, b < w.heap.size → N b → ¬ X b ∧ M b) : RgsAt M w' v l := ⟨Row.go h.row k hd, h.ok, h.small⟩

/-- the cells of ways: each of them of G groups, within L -/
def WysAt (N : Nat → Prop) (w : World) (G L : Nat) : List Wy.Way → List Value → Prop
  | [], cs => cs = []
  | x :: r, cs => ∃ v q, cs = .int .i64 x.stop :: v :: q ∧ SpsAt N w v x.spans ∧ (x.stop ≤ L ∧ x.spans.length = G) ∧ WysAt N w G L r q
theorem WysAt.go {N M X : Nat → Prop} {w w' : World} {G L : Nat} (k : Kept X w w') (hd : ∀ b, b < w.heap.size → N b → ¬ X b ∧ M b) : ∀ {l : List Wy.Way} {cs : List Value}, WysAt N w G L l cs → WysAt M w' G L l cs
  | [], cs, h => h
  | x :: r, cs, h => by
    obtain ⟨v, q, h1, h2, h3, h4⟩ := h
    exact ⟨v, q, h1, h2.go k hd, h3, WysAt.go k hd h4⟩
theorem WysAt.mono {N M : Nat → Prop} {w : World} {G L : Nat} (hm : ∀ b, N b → M b) {l : List Wy.Way} {cs : List Value} (h : WysAt N w G L l cs) : WysAt M w G L l cs :=
  h.go (Kept.refl (fun _ => False) w) (fun b _ hb => ⟨id, hm b hb⟩)
theorem WysAt.length {N : Nat → Prop} {w : World} {G L : Nat} : ∀ {l : List Wy.Way} {cs : List Value}, WysAt N w G L l cs → cs.length = l.length * 2
  | [], cs, h => by rw [WysAt] at h; subst h; rfl
  | x :: r, cs, h => by
    obtain ⟨v, q, rfl, h2, h3, h4⟩ := h
    rw [List.length_cons, List.length_cons, h4.length, List.length_cons]
    omega
theorem WysAt.append {N : Nat → Prop} {w : World} {G L : Nat} : ∀ {l m : List Wy.Way} {cs ds : List Value}, WysAt N w G L l cs → WysAt N w G L m ds → WysAt N w G L (l ++ m) (cs ++ ds)
  | [], m, cs, ds, h, k => by rw [WysAt] at h; subst h; exact k
  | x :: r, m, cs, ds, h, k => by
    obtain ⟨v, q, rfl, h2, h3, h4⟩ := h
    exact ⟨v, q ++ ds, rfl, h2, h3, h4.append k⟩
theorem WysAt.one {N : Nat → Prop} {w : World} {G L : Nat} {x : Wy.Way} {v : Value} (h : SpsAt N w v x.spans) (h1 : x.stop ≤ L) (h2 : x.spans.length = G) : WysAt N w G L [x] [.int .i64 x.stop, v] :=
  ⟨v, [], rfl, h, ⟨h1, h2⟩, rfl⟩
theorem WysAt.get {N : Nat → Prop} {w : World} {G L : Nat} : ∀ {l : List Wy.Way} {cs : List Value}, WysAt N w G L l cs → ∀ i (hi : i < l.length), ∃ v, cs[i * 2]? = some (.int .i64 l[i].stop) ∧ cs[i * 2 + 1]? = some v ∧ SpsAt N w v l[i].spans ∧ l[i].stop ≤ L ∧ l[i].spans.length = G
  | [], cs, _, i, hi => absurd hi (by simp)
  | x :: r, cs, h, i, hi => by
    obtain ⟨v, q, rfl, h2, h3, h4⟩ := h
    cases i with
    | zero => exact ⟨v, rfl, rfl, h2, h3⟩
    | succ i =>
      obtain ⟨u, h5, h6, h7⟩ := h4.get i (by simpa using hi)
      have e : (i + 1) * 2 = i * 2 + 1 + 1 := by omega
      refine ⟨u, ?_, ?_, h7⟩
      · rw [e, List.getElem?_cons_succ, List.getElem?_cons_succ]; exact h5
      · rw [e, List.getElem?_cons_succ, List.getElem?_cons_succ]; exact h6
theorem WysAt.oneCell {N : Nat → Prop} {w : World} {G L : Nat} : ∀ {l : List Wy.Way} {cs : List Value}, WysAt N w G L l cs → ∀ u ∈ cs, u.oneCell' = true
  | [], cs, h, u, hu => by rw [WysAt] at h; subst h; simp at hu
  | x :: r, cs, h, u, hu => by
    obtain ⟨v, q, rfl, h2, h3, h4⟩ := h
    rcases List.mem_cons.1 hu with rfl | hu
    · rfl
    rcases List.mem_cons.1 hu with rfl | hu
    · obtain ⟨o, c, rfl⟩ := h2.row.slice; rfl
    · exact h4.oneCell u hu
/-- a list of ways -/
def WaysAt (N : Nat → Prop) (w : World) (G L : Nat) (v : Value) (l : List Wy.Way) : Prop := ∃ cs, Row N w v l.length 2 cs ∧ WysAt N w G L l cs
theorem WaysAt.go {N M X : Nat → Prop} {w w' : World} {G L : Nat} {v : Value} {l : List Wy.Way} (h : WaysAt N w G L v l) (k : Kept X w w') (hd : ∀ b, b < w.heap.size → N b → ¬ X b ∧ M b) : WaysAt M w' G L v l := by
  obtain ⟨cs, h1, h2⟩ := h
  exact ⟨cs, Row.go h1 k hd, h2.go k hd⟩
theorem WaysAt.mono {N M : Nat → Prop} {w : World} {G L : Nat} {v : Value} {l : List Wy.Way} (h : WaysAt N w G L v l) (hm : ∀ b, N b → M b) : WaysAt M w G L v l :=
  h.go (Kept.refl (fun _ => False) w) (fun b _ hb => ⟨id, hm b hb⟩)
theorem WaysAt.slice {N : Nat → Prop} {w : World} {G L : Nat} {v : Value} {l : List Wy.Way} (h : WaysAt N w G L v l) : ∃ o c, v = .slice o l.length c := by
  obtain ⟨cs, h1, h2⟩ := h
  exact h1.slice
theorem WaysAt.nil (N : Nat → Prop) (w : World) (G L : Nat) (o : Option Addr) (c : Nat) : WaysAt N w G L (.slice o 0 c) [] := ⟨[], ⟨rfl, .inl ⟨rfl, o, c, rfl⟩⟩, rfl⟩
theorem WaysAt.of_own {N : Nat → Prop} {w : World} {G L base : Nat} {e : TypeId} {v : Value} {l : List Wy.Way} {cs : List Value} (h : w.ownsRow base e 2 v l.length cs) (hw : WysAt N w G L l cs) (hN : ∀ b, base ≤ b → b < w.heap.size → N b) : WaysAt N w G L v l :=
  ⟨cs, Row.of_own h hN, hw⟩
theorem WaysAt.cells {N : Nat → Prop} {w : World} {G L : Nat} {v : Value} {l : List Wy.Way} (h : WaysAt N w G L v l) (hne : 0 < l.length) :
    ∃ b off cap : Nat, v = .slice (some ⟨b, off, none⟩) l.length cap ∧ l.length ≤ cap ∧ cap ≤ maxLen ∧ N b ∧ b < w.heap.size ∧ ∀ i (hi : i < l.length), ∃ sv, w.cell? ⟨b, off + i * 2, none⟩ = some (.int .i64 l[i].stop) ∧ w.cell? ⟨b, off + i * 2 + 1, none⟩ = some sv ∧ SpsAt N w sv l[i].spans ∧ l[i].stop ≤ L ∧ l[i].spans.length = G := by
  obtain ⟨cs, h1, h2⟩ := h
  rcases h1.at_ with ⟨h0, _⟩ | ⟨b, off, cap, rfl, k1, k2, k3, k4, k5⟩
  · omega
  · refine ⟨b, off, cap, rfl, k1, k2, k3, k4, fun i hi => ?_⟩
    obtain ⟨sv, e1, e2, e3⟩ := h2.get i hi
    have hl := h2.length
    refine ⟨sv, ?_, ?_, e3⟩
    · rw [k5 _ (by rw [hl]; omega)]; exact e1
    · rw [Nat.add_assoc, k5 _ (by rw [hl]; omega)]; exact e2

/-! Parts -/
mutual
def PartAt (N : Nat → Prop) (w : World) : Nd → Nat → Nat → Nat → Prop
  | .mk k set lo hi lazy subs, n, g, b => ∃ sv uv pv ps, Blk w b #[.int .u8 k, sv, .int .i64 lo, .int .i64 hi, .bool lazy, uv, .int .i64 n, .int .i64 g, pv] 140 ∧ N b ∧ (0 ≤ k ∧ k ≤ 255 ∧ subs.length ≤ 1048576 ∧ ∃ (a : Option Addr) (n c : Nat), uv = .slice a n c) ∧ I64 lo ∧ I64 hi ∧ RgsAt N w sv set ∧ Row N w pv subs.length 1 ps ∧ PartsAt N w subs (n + 1) (g + if k = 6 then 1 else 0) ps
def PartsAt (N : Nat → Prop) (w : World) : List Nd → Nat → Nat → List Value → Prop
  | [], _, _, ps => ps = []
  | s :: r, n, g, ps => ∃ b q, ps = .pointer (some ⟨b, 0, none⟩) :: q ∧ PartAt N w s n g b ∧ PartsAt N w r (n + nodes s) (g + opened s) q
end
mutual
theorem PartAt.go {N M X : Nat → Prop} {w w' : World} (k : Kept X w w') (hd : ∀ b, b < w.heap.size → N b → ¬ X b ∧ M b) : ∀ {t : Nd} {n g b : Nat}, PartAt N w t n g b → PartAt M w' t n g b
  | .mk kd set lo hi lazy subs, n, g, b, h => by
    rw [PartAt] at h ⊢
    obtain ⟨sv, uv, pv, ps, h1, h2, h3, h4, h5, h6, h7, h8⟩ := h
    exact ⟨sv, uv, pv, ps, h1.kept k (hd b h1.lt h2).1, (hd b h1.lt h2).2, h3, h4, h5, RgsAt.go h6 k hd, Row.go h7 k hd, PartsAt.go k hd h8⟩
theorem PartsAt.go {N M X : Nat → Prop} {w w' : World} (k : Kept X w w') (hd : ∀ b, b < w.heap.size → N b → ¬ X b ∧ M b) : ∀ {l : List Nd} {n g : Nat} {ps : List Value}, PartsAt N w l n g ps → PartsAt M w' l n g ps
  | [], _, _, _, h => h
  | s :: r, n, g, ps, h => by
    rw [PartsAt] at h ⊢
    obtain ⟨b, q, h1, h2, h3⟩ := h
    exact ⟨b, q, h1, PartAt.go k hd h2, PartsAt.go k hd h3⟩
end
theorem PartAt.mono {N M : Nat → Prop} {w : World} (hm : ∀ b, N b → M b) {t : Nd} {n g b : Nat} (h : PartAt N w t n g b) : PartAt M w t n g b :=
  PartAt.go (Kept.refl (fun _ => False) w) (fun b _ hb => ⟨id, hm b hb⟩) h
theorem PartAt.lt {N : Nat → Prop} {w : World} {t : Nd} {n g b : Nat} (h : PartAt N w t n g b) : b < w.heap.size ∧ N b := by
  cases t
  rw [PartAt] at h
  obtain ⟨sv, uv, pv, ps, h1, h2, _⟩ := h
  exact ⟨h1.lt, h2⟩
theorem PartsAt.length {N : Nat → Prop} {w : World} : ∀ {l : List Nd} {n g : Nat} {ps : List Value}, PartsAt N w l n g ps → ps.length = l.length
  | [], _, _, ps, h => by rw [PartsAt] at h; subst h; rfl
  | s :: r, n, g, ps, h => by
    rw [PartsAt] at h
    obtain ⟨b, q, rfl, h2, h3⟩ := h
    rw [List.length_cons, h3.length, List.length_cons]
theorem PartsAt.append {N : Nat → Prop} {w : World} : ∀ {l m : List Nd} {n g : Nat} {ps qs : List Value}, PartsAt N w l n g ps → PartsAt N w m (n + nodesL l) (g + openedL l) qs → PartsAt N w (l ++ m) n g (ps ++ qs)
  | [], m, n, g, ps, qs, h, k => by
    rw [PartsAt] at h; subst h
    simpa [nodesL, openedL] using k
  | s :: r, m, n, g, ps, qs, h, k => by
    rw [PartsAt] at h
    obtain ⟨b, q, rfl, h2, h3⟩ := h
    rw [List.cons_append, PartsAt]
    rw [nodesL, openedL, ← Nat.add_assoc, ← Nat.add_assoc] at k
    exact ⟨b, q ++ qs, rfl, h2, h3.append k⟩
/-- how many groups, and how many nodes, come ahead of the i-th part -/
theorem PartsAt.get {N : Nat → Prop} {w : World} : ∀ {l : List Nd} {n g : Nat} {ps : List Value}, PartsAt N w l n g ps → ∀ i (hi : i < l.length), ∃ b, ps[i]? = some (.pointer (some ⟨b, 0, none⟩)) ∧ PartAt N w l[i] (n + nodesL (l.take i)) (g + openedL (l.take i)) b
  | [], _, _, _, _, i, hi => absurd hi (by simp)
  | s :: r, n, g, ps, h, i, hi => by
    rw [PartsAt] at h
    obtain ⟨b, q, rfl, h2, h3⟩ := h
    cases i with
    | zero => exact ⟨b, rfl, by simpa [nodesL, openedL] using h2⟩
    | succ i =>
      obtain ⟨c, h4, h5⟩ := h3.get i (by simpa using hi)
      refine ⟨c, h4, ?_⟩
      rw [List.take_succ_cons, nodesL, openedL, ← Nat.add_assoc, ← Nat.add_assoc]
      exact h5
theorem TabdL.get {T : Nat → Option (Nd × Nat)} : ∀ {l : List Nd} {n g : Nat}, TabdL T l n g → ∀ i (hi : i < l.length), Tabd T l[i] (n + nodesL (l.take i)) (g + openedL (l.take i))
  | [], _, _, _, i, hi => absurd hi (by simp)
  | s :: r, n, g, h, i, hi => by
    rw [TabdL] at h
    cases i with
    | zero => simpa [nodesL, openedL] using h.1
    | succ i =>
      have := TabdL.get h.2 i (by simpa using hi)
      rw [List.take_succ_cons, nodesL, openedL, ← Nat.add_assoc, ← Nat.add_assoc]
      exact this

/-! What is known -/
structure Cx where
  m : Nat
  mb : Nat
  s : ByteArray
  G : Nat
  P : Int
  T : Nat → Option (Nd × Nat)
/-- a string, as it is read -/
def strS (s : ByteArray) : Str := ⟨s.size, fun p => ((Lib.decodeGo (s.extract p s.size)).1, (Lib.decodeGo (s.extract p s.size)).2)⟩
def Cx.wy (C : Cx) (t : Nd) (g p : Nat) : Option (List Wy.Way) := Wy.wy (wayA C.G) (strS C.s) t g p
structure Cx.Ok (C : Cx) : Prop where
  len : C.s.size ≤ 32
  G : C.G ≤ 30
  T : ∀ n x, C.T n = some x → n ≤ 1000000000
  mb : 2 < C.mb
/-- an entry of what is known -/
def KnownAt (C : Cx) (N : Nat → Prop) (w : World) (x : MapEntry) : Prop :=
  ∃ (n p : Nat) (t : Nd) (g : Nat) (l : List Wy.Way), x.key = .agg #[.int .i64 n, .int .i64 p] ∧ p ≤ 32 ∧ C.T n = some (t, g) ∧ C.wy t g p = some l ∧ WaysAt N w C.G C.s.size x.val l
structure At (C : Cx) (N : Nat → Prop) (w : World) : Prop where
  tabs : Lib.Utf8Tabs 0 1 w
  none : NoneAt w
  maker : Blk w C.m #[.string C.s, .int .i64 C.G, .int .i64 C.P, .map (some C.mb)] 105
  memo : ∃ es clock, w.heap[C.mb]? = some (.map es clock) ∧ ∀ x ∈ es.toList, KnownAt C N w x
  new : ∀ b, w.heap.size ≤ b → N b
  low : ∀ b, b ≤ 2 → N b
  own : N C.m
  not : ¬ N C.mb
theorem At.mbLt {C : Cx} {N : Nat → Prop} {w : World} (h : At C N w) : C.mb < w.heap.size := by
  obtain ⟨es, clock, h1, -⟩ := h.memo
  exact (Array.getElem?_eq_some_iff.1 h1).1
theorem At.mLt {C : Cx} {N : Nat → Prop} {w : World} (h : At C N w) : C.m < w.heap.size := h.maker.lt
theorem KnownAt.go {C : Cx} {N M X : Nat → Prop} {w w' : World} {x : MapEntry} (h : KnownAt C N w x) (k : Kept X w w') (hd : ∀ b, b < w.heap.size → N b → ¬ X b ∧ M b) : KnownAt C M w' x := by
  obtain ⟨n, p, t, g, l, h1, h2, h3, h4, h5⟩ := h
  exact ⟨n, p, t, g, l, h1, h2, h3, h4, h5.go k hd⟩
theorem tabs_kept {X : Nat → Prop} {w w' : World} (h : Lib.Utf8Tabs 0 1 w) (k : Kept X w w') (h0 : ¬ X 0) (h1 : ¬ X 1) (hs : 1 < w.heap.size) : Lib.Utf8Tabs 0 1 w' := by
  have e0 : ∀ o, w'.cell? ⟨0, o, none⟩ = w.cell? ⟨0, o, none⟩ := fun o => World.cell?_of_block (k.block 0 (by omega) h0)
  have e1 : ∀ o, w'.cell? ⟨1, o, none⟩ = w.cell? ⟨1, o, none⟩ := fun o => World.cell?_of_block (k.block 1 hs h1)
  exact ⟨fun c hc => (e0 c).trans (h.1 c hc), fun i hi => ⟨(e1 _).trans (h.2 i hi).1, (e1 _).trans (h.2 i hi).2⟩⟩
/-- what does not write to what N holds, nor to the map, keeps all. -/
theorem At.go {C : Cx} {N M X : Nat → Prop} {w w' : World} (h : At C N w) (k : Kept X w w') (hd : ∀ b, b < w.heap.size → N b → ¬ X b ∧ M b) (hmb : ¬ X C.mb ∧ ¬ M C.mb) (hnew : ∀ b, w'.heap.size ≤ b → M b) : At C M w' := by
  have hm := hd C.m h.mLt h.own
  have hl : ∀ b, b ≤ 2 → ¬ X b ∧ M b := fun b hb => hd b (Nat.lt_of_le_of_lt hb h.none.1) (h.low b hb)
  obtain ⟨es, clock, h1, h2⟩ := h.memo
  refine ⟨tabs_kept h.tabs k (hl 0 (by omega)).1 (hl 1 (by omega)).1 (by have := h.none.1; omega), h.none.kept k (hl _ (Nat.le_refl _)).1, h.maker.kept k hm.1, ⟨es, clock, (k.block _ h.mbLt hmb.1).trans h1, fun x hx => (h2 x hx).go k hd⟩, hnew, fun b hb => (hl b hb).2, hm.2, hmb.2⟩
theorem At.below {C : Cx} {N : Nat → Prop} {w w' : World} (h : At C N w) (k : Below w.heap.size w w') : At C N w' :=
  h.go (Kept.of_below k (fun _ => False)) (fun b _ hb => ⟨id, hb⟩) ⟨id, h.not⟩ (fun b hb => h.new b (Nat.le_trans k.size hb))
/-- N, but for blocks that are there. -/
theorem At.less {C : Cx} {N : Nat → Prop} {w w' : World} (h : At C N w) (k : Below w.heap.size w w') (R : Nat → Prop) (hR : ∀ b, R b → w.heap.size ≤ b ∧ b < w'.heap.size) : At C (fun b => N b ∧ ¬ R b) w' :=
  h.go (Kept.of_below k (fun _ => False)) (fun _ hb hn => ⟨id, hn, fun e => by have := (hR _ e).1; omega⟩) ⟨id, fun e => h.not e.1⟩ (fun b hb => ⟨h.new b (Nat.le_trans k.size hb), fun e => by have := (hR b e).2; omega⟩)
theorem At.mono {C : Cx} {N M : Nat → Prop} {w : World} (h : At C N w) (hm : ∀ b, N b → M b) (hmb : ¬ M C.mb) : At C M w :=
  h.go (Kept.refl (fun _ => False) w) (fun b _ hb => ⟨id, hm b hb⟩) ⟨id, hmb⟩ (fun b hb => hm b (h.new b hb))

/-- what the functions of the walk hand back -/
def Wys (C : Cx) (N : Nat → Prop) (w : World) (o : Option (List Wy.Way)) (e : Ending) (w' : World) : Prop :=
  Kept (fun b => b = C.mb) w w' ∧ At C N w' ∧ ∃ v, e = .returned (.tuple #[v, .bool o.isSome]) ∧ (∃ a n c, v = .slice a n c) ∧ ∀ l, o = some l → WaysAt N w' C.G C.s.size v l
def WysNil (C : Cx) (N : Nat → Prop) (w : World) (o : Option (List Wy.Way)) (e : Ending) (w' : World) : Prop :=
  Kept (fun b => b = C.mb) w w' ∧ At C N w' ∧ ∃ v, e = .returned (.tuple #[v, .bool o.isSome]) ∧ (o = none → v = .slice none 0 0) ∧ ∀ l, o = some l → WaysAt N w' C.G C.s.size v l
def WaysSpec (C : Cx) (t : Nd) : Prop := ∀ (N : Nat → Prop) (w : World) (num grp b place : Nat), At C N w → PartAt N w t num grp b → Tabd C.T t num grp → grp + opened t ≤ C.G → place ≤ C.s.size →
  Calls Tryz.prog 43 #[.pointer (some ⟨C.m, 0, none⟩), .pointer (some ⟨b, 0, none⟩), .int .i64 place] w (WysNil C N w (C.wy t grp place))
end Go.Proofs.YtnhjakdmbfadlaaGreatDoor

/- What a repetition holds in memory while it runs. -/
namespace Go.Proofs.YtnhjakdmbfadlaaGreatDoor
open Go.RowKit Wy Mem Grow

theorem Kept.of_grown {w w' : World} {row : Option Nat} (h : w.grownBy w' row) : Kept (fun b => row = some b) w w' :=
  ⟨h.os, h.tape, h.output, h.size, fun k hk hx => h.block k hk (fun e => hx e.symm)⟩
theorem ownsRow_go {X : Nat → Prop} {w w' : World} {base sz n : Nat} {e : TypeId} {v : Value} {xs : List Value} (h : w.ownsRow base e sz v n xs) (k : Kept X w w') (hx : ∀ g, v.ownBlock = some g → ¬ X g) : w'.ownsRow base e sz v n xs := by
  refine ⟨h.1, ?_⟩
  rcases h.2 with hn | ⟨g, c, cur, rfl, hb, hg, rest⟩
  · exact .inl hn
  · exact .inr ⟨g, c, cur, rfl, hb, (k.block g (Array.getElem?_eq_some_iff.1 hg).1 (hx g rfl)).trans hg, rest⟩
/-- rows of elements of other types lie in other blocks -/
theorem own_apart {w : World} {base base' sz sz' n n' : Nat} {e e' : TypeId} {v v' : Value} {xs xs' : List Value} (h : w.ownsRow base e sz v n xs) (k : w.ownsRow base' e' sz' v' n' xs') (he : e ≠ e') {g : Nat} (h1 : v.ownBlock = some g) : v'.ownBlock ≠ some g := by
  intro h2
  rcases h.2 with ⟨rfl, -⟩ | ⟨a, c, cur, rfl, -, ha, -⟩
  · simp [Value.ownBlock] at h1
  rcases k.2 with ⟨rfl, -⟩ | ⟨a', c', cur', rfl, -, ha', -⟩
  · simp [Value.ownBlock] at h2
  simp only [Value.ownBlock, Option.some.injEq] at h1 h2
  subst h1; subst h2
  rw [ha] at ha'
  simp only [Option.some.injEq, Obj.cells.injEq] at ha'
  exact he ha'.2.1

structure Rc where
  C : Cx
  B : Nat
  N0 : Nat → Prop
  b : Nat
  sv : Value
  uv : Value
  lo : Int
  hi : Int
  lazy : Bool
/-- what the closure has captured -/
def Rc.caps (R : Rc) : Array Value := #[.pointer (some ⟨R.B + 4, 0, none⟩), .pointer (some ⟨R.B + 5, 0, none⟩), .pointer (some ⟨R.B + 2, 0, none⟩), .pointer (some ⟨R.B + 3, 0, none⟩), .pointer (some ⟨R.B, 0, none⟩), .pointer (some ⟨R.B + 1, 0, none⟩), .pointer (some ⟨R.B + 6, 0, none⟩)]
structure RpAt (R : Rc) (N : Nat → Prop) (w : World) (vo vc : Value) (σ : Fs Wy.Way) : Prop where
  at_ : At R.C N w
  sub : ∀ b, N b → R.N0 b
  mbB : R.C.mb < R.B
  size : R.B + 7 ≤ w.heap.size
  no3 : ¬ N (R.B + 3)
  no4 : ¬ N (R.B + 4)
  no5 : ¬ N (R.B + 5)
  own : N R.B ∧ N (R.B + 1) ∧ N (R.B + 2) ∧ N (R.B + 6)
  b0 : Blk w R.B #[.pointer (some ⟨R.C.m, 0, none⟩)] 102
  b1 : Blk w (R.B + 1) #[.pointer (some ⟨R.b, 0, none⟩)] 106
  b2 : Blk w (R.B + 2) #[.int .u8 5, R.sv, .int .i64 R.lo, .int .i64 R.hi, .bool R.lazy, R.uv] 27
  b3 : Blk w (R.B + 3) #[vo] 38
  b4 : Blk w (R.B + 4) #[vc] 48
  b5 : Blk w (R.B + 5) #[.bool σ.ok] 4
  b6 : Blk w (R.B + 6) #[.func (.func 92) #[] R.caps] 168
  out : ∃ cs, w.ownsRow (R.B + 7) 43 2 vo σ.out.length cs ∧ WysAt N w R.C.G R.C.s.size σ.out cs
  outN : ∀ g, vo.ownBlock = some g → ¬ N g
  cnt : w.ownsRow (R.B + 7) 3 1 vc σ.counts.length (σ.counts.map fun c : Nat => .int .i64 c)
  cntN : ∀ g, vc.ownBlock = some g → ¬ N g

section
variable {R : Rc} {N M X : Nat → Prop} {w w' : World} {vo vc : Value} {σ : Fs Wy.Way}
theorem RpAt.outB (h : RpAt R N w vo vc σ) : ∀ g, vo.ownBlock = some g → R.B + 7 ≤ g ∧ g < w.heap.size := by
  obtain ⟨cs, h1, -⟩ := h.out
  exact h1.lt
theorem RpAt.cntB (h : RpAt R N w vo vc σ) : ∀ g, vc.ownBlock = some g → R.B + 7 ≤ g ∧ g < w.heap.size := h.cnt.lt
theorem RpAt.apart (h : RpAt R N w vo vc σ) {g : Nat} (hg : vo.ownBlock = some g) : vc.ownBlock ≠ some g := by
  obtain ⟨cs, h1, -⟩ := h.out
  exact own_apart h1 h.cnt (by decide) hg
/-- what writes to none of it -/
theorem RpAt.go (h : RpAt R N w vo vc σ) (hA : At R.C M w') (k : Kept X w w') (hd : ∀ b, b < w.heap.size → N b → ¬ X b ∧ M b) (hM : ∀ b, M b → R.N0 b)
    (hX : ∀ b, R.B ≤ b → b < w.heap.size → ¬ N b → ¬ X b ∧ ¬ M b) : RpAt R M w' vo vc σ := by
  have hs := h.size
  have h3 := hX (R.B + 3) (by omega) (by omega) h.no3
  have h4 := hX (R.B + 4) (by omega) (by omega) h.no4
  have h5 := hX (R.B + 5) (by omega) (by omega) h.no5
  have n0 := hd _ (by omega) h.own.1
  have n1 := hd _ (by omega) h.own.2.1
  have n2 := hd _ (by omega) h.own.2.2.1
  have n6 := hd _ (by omega) h.own.2.2.2
  have ho : ∀ g, vo.ownBlock = some g → ¬ X g ∧ ¬ M g := fun g hg => hX g (by have := h.outB g hg; omega) (h.outB g hg).2 (h.outN g hg)
  have hc : ∀ g, vc.ownBlock = some g → ¬ X g ∧ ¬ M g := fun g hg => hX g (by have := h.cntB g hg; omega) (h.cntB g hg).2 (h.cntN g hg)
  obtain ⟨cs, o1, o2⟩ := h.out
  exact ⟨hA, hM, h.mbB, Nat.le_trans hs k.size, h3.2, h4.2, h5.2, ⟨n0.2, n1.2, n2.2, n6.2⟩, h.b0.kept k n0.1, h.b1.kept k n1.1, h.b2.kept k n2.1, h.b3.kept k h3.1, h.b4.kept k h4.1, h.b5.kept k h5.1, h.b6.kept k n6.1,
    ⟨cs, ownsRow_go o1 k (fun g hg => (ho g hg).1), o2.go k hd⟩, fun g hg => (ho g hg).2, ownsRow_go h.cnt k (fun g hg => (hc g hg).1), fun g hg => (hc g hg).2⟩
theorem RpAt.below (h : RpAt R N w vo vc σ) (k : Below w.heap.size w w') : RpAt R N w' vo vc σ :=
  h.go (h.at_.below k) (Kept.of_below k (fun _ => False)) (fun b _ hb => ⟨id, hb⟩) h.sub (fun _ _ _ hn => ⟨id, hn⟩)
theorem RpAt.memo (h : RpAt R N w vo vc σ) (k : Kept (fun b => b = R.C.mb) w w') (hA : At R.C N w') : RpAt R N w' vo vc σ :=
  h.go hA k (fun b _ hb => ⟨fun e => h.at_.not (e ▸ hb), hb⟩) h.sub (fun b hb _ hn => ⟨fun e => by have := h.mbB; omega, hn⟩)
/-- what lies in N's blocks stays, and stays in N' -/
structure Goes (R : Rc) (N : Nat → Prop) (w : World) (N' : Nat → Prop) (w' : World) : Prop where
  own : Kept (fun b => b = R.C.mb ∨ R.B ≤ b ∧ ¬ N b) w w'
  keep : ∀ b, b < w.heap.size → N b → N' b
theorem Goes.refl (R : Rc) (N : Nat → Prop) (w : World) : Goes R N w N w := ⟨Kept.refl _ _, fun _ _ h => h⟩
theorem Goes.trans {N1 N2 : Nat → Prop} {w1 w2 : World} (h : Goes R N w N1 w1) (k : Goes R N1 w1 N2 w2) : Goes R N w N2 w2 :=
  ⟨h.own.trans' k.own (fun i hi e => e.imp id fun e => ⟨e.1, fun hn => e.2 (h.keep i hi hn)⟩), fun b hb hn => k.keep b (h.own.lt hb) (h.keep b hb hn)⟩
theorem Goes.below (k : Below w.heap.size w w') : Goes R N w N w' := ⟨Kept.of_below k _, fun _ _ h => h⟩
theorem Goes.memo (k : Kept (fun b => b = R.C.mb) w w') : Goes R N w N w' := ⟨k.mono fun _ _ e => .inl e, fun _ _ h => h⟩
theorem Goes.hd {N' : Nat → Prop} (h : Goes R N w N' w') (hA : At R.C N w) : ∀ b, b < w.heap.size → N b → ¬ (b = R.C.mb ∨ R.B ≤ b ∧ ¬ N b) ∧ N' b :=
  fun b hb hn => ⟨fun e => e.elim (fun e => hA.not (e ▸ hn)) (fun e => e.2 hn), h.keep b hb hn⟩
theorem Goes.spans {N' : Nat → Prop} {v : Value} {l : List (Int × Int)} (h : Goes R N w N' w') (hA : At R.C N w) (k : SpsAt N w v l) : SpsAt N' w' v l := k.go h.own (h.hd hA)
theorem Goes.ways {N' : Nat → Prop} {v : Value} {G L : Nat} {l : List Wy.Way} (h : Goes R N w N' w') (hA : At R.C N w) (k : WaysAt N w G L v l) : WaysAt N' w' G L v l := k.go h.own (h.hd hA)
theorem Goes.part {N' : Nat → Prop} {t : Nd} {n g b : Nat} (h : Goes R N w N' w') (hA : At R.C N w) (k : PartAt N w t n g b) : PartAt N' w' t n g b := k.go h.own (h.hd hA)
/-- what a call of the closure leaves -/
def Flw (R : Rc) (N : Nat → Prop) (w : World) (σ : Fs Wy.Way) (e : Ending) (w' : World) : Prop :=
  e = .returned (.tuple #[]) ∧ ∃ N' vo vc, RpAt R N' w' vo vc σ ∧ Goes R N w N' w'
theorem RpAt.setOk (h : RpAt R N w vo vc σ) (ok : Bool) : RpAt R N (w.setCell ⟨R.B + 5, 0, none⟩ (.bool ok)) vo vc { σ with ok := ok } ∧ Goes R N w N (w.setCell ⟨R.B + 5, 0, none⟩ (.bool ok)) := by
  have hs := h.size
  have k : Kept (fun b => b = R.B + 5) w (w.setCell ⟨R.B + 5, 0, none⟩ (.bool ok)) := (Kept.refl (fun b => b = R.B + 5) _).setCell (p := ⟨R.B + 5, 0, none⟩) (fun _ => rfl) _
  have hd : ∀ b, b < w.heap.size → N b → ¬ (b = R.B + 5) ∧ N b := fun b _ hb => ⟨fun e => h.no5 (e ▸ hb), hb⟩
  have hA : At R.C N (w.setCell ⟨R.B + 5, 0, none⟩ (.bool ok)) := h.at_.go k hd ⟨by have := h.mbB; omega, h.at_.not⟩ (fun b hb => h.at_.new b (by simpa using hb))
  obtain ⟨cs, o1, o2⟩ := h.out
  have ho : ∀ g, vo.ownBlock = some g → ¬ g = R.B + 5 := fun g hg e => by have := h.outB g hg; omega
  have hc : ∀ g, vc.ownBlock = some g → ¬ g = R.B + 5 := fun g hg e => by have := h.cntB g hg; omega
  refine ⟨⟨hA, h.sub, h.mbB, Nat.le_trans hs k.size, h.no3, h.no4, h.no5, h.own, h.b0.kept k (by omega), h.b1.kept k (by omega), h.b2.kept k (by omega), h.b3.kept k (by omega), h.b4.kept k (by omega), ?_, h.b6.kept k (by omega),
    ⟨cs, ownsRow_go o1 k ho, o2.go k hd⟩, h.outN, ownsRow_go h.cnt k hc, h.cntN⟩, k.mono fun i _ e => .inr ⟨by omega, fun hn => h.no5 (e ▸ hn)⟩, fun _ _ hn => hn⟩
  exact h.b5.set 0 (.bool ok)
/-- counts: another zero -/
theorem RpAt.cntMore (h : RpAt R N w vo vc σ) {vc' : Value} {w1 : World} (hr : w1.ownsRow (R.B + 7) 3 1 vc' (σ.counts.length + 1) ((σ.counts.map fun c : Nat => .int .i64 c) ++ [.int .i64 0])) (hg : w.grownBy w1 vc.ownBlock) (hv : vc'.ownBlock = vc.ownBlock ∨ vc'.ownBlock = some w.heap.size) :
    RpAt R (fun b => N b ∧ vc'.ownBlock ≠ some b) (w1.setCell ⟨R.B + 4, 0, none⟩ vc') vo vc' { σ with counts := σ.counts ++ [0] } ∧ Goes R N w (fun b => N b ∧ vc'.ownBlock ≠ some b) (w1.setCell ⟨R.B + 4, 0, none⟩ vc') := by
  have hs := h.size
  have k1 : Kept (fun b => b = R.B + 4 ∨ vc.ownBlock = some b) w w1 := (Kept.of_grown hg).mono (fun _ _ e => .inr e)
  have k : Kept (fun b => b = R.B + 4 ∨ vc.ownBlock = some b) w (w1.setCell ⟨R.B + 4, 0, none⟩ vc') := k1.setCell (p := ⟨R.B + 4, 0, none⟩) (fun _ => .inl rfl) _
  have hv' : ∀ b, b < w.heap.size → vc'.ownBlock = some b → vc.ownBlock = some b := fun b hb e => by
    rcases hv with hv | hv
    · rw [← hv]; exact e
    · rw [hv] at e; simp only [Option.some.injEq] at e; omega
  have hd : ∀ b, b < w.heap.size → N b → ¬ (b = R.B + 4 ∨ vc.ownBlock = some b) ∧ (N b ∧ vc'.ownBlock ≠ some b) := fun b hb hn => by
    have : ¬ vc.ownBlock = some b := fun e => h.cntN b e hn
    exact ⟨fun e => e.elim (fun e => h.no4 (e ▸ hn)) this, hn, fun e => this (hv' b hb e)⟩
  have hmb : ¬ (R.C.mb = R.B + 4 ∨ vc.ownBlock = some R.C.mb) := fun e => e.elim (fun e => by have := h.mbB; omega) (fun e => by have := h.cntB _ e; have := h.mbB; omega)
  have hA : At R.C (fun b => N b ∧ vc'.ownBlock ≠ some b) (w1.setCell ⟨R.B + 4, 0, none⟩ vc') := h.at_.go k hd ⟨hmb, fun e => h.at_.not e.1⟩ (fun b hb => ⟨h.at_.new b (by have := hg.size; simp at hb; omega), fun e => by have := (hr.lt b e).2; simp at hb; omega⟩)
  obtain ⟨cs, o1, o2⟩ := h.out
  have ho : ∀ g, vo.ownBlock = some g → ¬ (g = R.B + 4 ∨ vc.ownBlock = some g) := fun g hg e => e.elim (fun e => by have := h.outB g hg; omega) (h.apart hg)
  have hx : ∀ b, b < R.B + 7 → ¬ b = R.B + 4 → ¬ (b = R.B + 4 ∨ vc.ownBlock = some b) := fun b hb hn e => e.elim hn (fun e => by have := h.cntB _ e; omega)
  have hb4 : Blk (w1.setCell ⟨R.B + 4, 0, none⟩ vc') (R.B + 4) #[vc'] 48 :=
    (h.b4.kept (Kept.of_grown hg) (fun e => by have := h.cntB _ e; omega)).set 0 vc'
  refine ⟨⟨hA, fun b hb => h.sub b hb.1, h.mbB, Nat.le_trans hs k.size, fun e => h.no3 e.1, fun e => h.no4 e.1, fun e => h.no5 e.1, ⟨(hd _ (by omega) h.own.1).2, (hd _ (by omega) h.own.2.1).2, (hd _ (by omega) h.own.2.2.1).2, (hd _ (by omega) h.own.2.2.2).2⟩,
    h.b0.kept k (hx _ (by omega) (by omega)), h.b1.kept k (hx _ (by omega) (by omega)), h.b2.kept k (hx _ (by omega) (by omega)), h.b3.kept k (hx _ (by omega) (by omega)), hb4, h.b5.kept k (hx _ (by omega) (by omega)), h.b6.kept k (hx _ (by omega) (by omega)),
    ⟨cs, ownsRow_go o1 k ho, o2.go k hd⟩, fun g hg e => h.outN g hg e.1, ?_, fun g hg e => e.2 hg⟩, k.mono fun i hi e => .inr ⟨e.elim (fun e => by omega) (fun e => by have := h.cntB _ e; omega), fun hn => (hd i hi hn).1 e⟩, fun b hb hn => (hd b hb hn).2⟩
  have hl : (σ.counts ++ [0]).length = σ.counts.length + 1 := by simp
  have hm : (σ.counts ++ [0]).map (fun c : Nat => Value.int .i64 c) = (σ.counts.map fun c : Nat => .int .i64 c) ++ [.int .i64 0] := by simp
  show (w1.setCell ⟨R.B + 4, 0, none⟩ vc').ownsRow _ 3 1 vc' (σ.counts ++ [0]).length ((σ.counts ++ [0]).map fun c : Nat => .int .i64 c)
  rw [hl, hm]
  exact ownsRow_go hr ((Kept.refl (fun b => b = R.B + 4) w1).setCell (p := ⟨R.B + 4, 0, none⟩) (fun _ => rfl) _) (fun g hg e => by have := hr.lt g hg; omega)
/-- counts: one more at a place -/
theorem RpAt.cntSet (h : RpAt R N w vo vc σ) {g c t : Nat} (hvc : vc = .slice (some ⟨g, 0, none⟩) σ.counts.length c) (ht : t < σ.counts.length) :
    RpAt R N (w.setCell ⟨g, t, none⟩ (.int .i64 (σ.counts[t] + 1))) vo vc { σ with counts := σ.counts.modify t (· + 1) } ∧ Goes R N w N (w.setCell ⟨g, t, none⟩ (.int .i64 (σ.counts[t] + 1))) := by
  have hs := h.size
  have hgv : vc.ownBlock = some g := by rw [hvc]; rfl
  have hgB := h.cntB g hgv
  have k : Kept (fun b => b = g) w (w.setCell ⟨g, t, none⟩ (.int .i64 (σ.counts[t] + 1))) := (Kept.refl (fun b => b = g) _).setCell (p := ⟨g, t, none⟩) (fun _ => rfl) _
  have hd : ∀ b, b < w.heap.size → N b → ¬ (b = g) ∧ N b := fun b _ hb => ⟨fun e => h.cntN g hgv (e ▸ hb), hb⟩
  have hA : At R.C N (w.setCell ⟨g, t, none⟩ (.int .i64 (σ.counts[t] + 1))) := h.at_.go k hd ⟨by have := h.mbB; omega, h.at_.not⟩ (fun b hb => h.at_.new b (by simpa using hb))
  obtain ⟨cs, o1, o2⟩ := h.out
  have ho : ∀ i, vo.ownBlock = some i → ¬ i = g := fun i hi e => h.apart hi (e ▸ hgv)
  refine ⟨⟨hA, h.sub, h.mbB, Nat.le_trans hs k.size, h.no3, h.no4, h.no5, h.own, h.b0.kept k (by omega), h.b1.kept k (by omega), h.b2.kept k (by omega), h.b3.kept k (by omega), h.b4.kept k (by omega), h.b5.kept k (by omega), h.b6.kept k (by omega),
    ⟨cs, ownsRow_go o1 k ho, o2.go k hd⟩, h.outN, ?_, h.cntN⟩, k.mono fun i _ e => .inr ⟨by omega, fun hn => h.cntN g hgv (e ▸ hn)⟩, fun _ _ hn => hn⟩
  have hr := h.cnt
  subst hvc
  have := (hr.stored t (.int .i64 (σ.counts[t] + 1))).1
  have hl : (σ.counts.modify t (· + 1)).length = σ.counts.length := by simp
  have hm : (σ.counts.modify t (· + 1)).map (fun c : Nat => Value.int .i64 c) = (σ.counts.map fun c : Nat => Value.int .i64 c).set t (.int .i64 (σ.counts[t] + 1)) := by
    refine List.ext_getElem? fun i => ?_
    simp only [List.getElem?_map, List.getElem?_modify, List.getElem?_set, List.length_map]
    by_cases hi : t = i
    · subst hi
      simp [List.getElem?_eq_getElem ht, ht]
    · simp only [hi, if_false]
      cases σ.counts[i]? <;> simp
  show (w.setCell _ _).ownsRow _ 3 1 _ (σ.counts.modify t (· + 1)).length ((σ.counts.modify t (· + 1)).map fun c : Nat => .int .i64 c)
  rw [hl, hm]
  exact this
/-- out: another way -/
theorem RpAt.outMore (h : RpAt R N w vo vc σ) {vo' sv : Value} {x : Wy.Way} {w1 : World} {cs : List Value} (hcs : WysAt N w R.C.G R.C.s.size σ.out cs) (hx1 : SpsAt N w sv x.spans) (hx2 : x.stop ≤ R.C.s.size) (hx3 : x.spans.length = R.C.G)
    (hr : w1.ownsRow (R.B + 7) 43 2 vo' (σ.out.length + 1) (cs ++ [.int .i64 x.stop, sv])) (hg : w.grownBy w1 vo.ownBlock) (hv : vo'.ownBlock = vo.ownBlock ∨ vo'.ownBlock = some w.heap.size) :
    RpAt R (fun b => N b ∧ vo'.ownBlock ≠ some b) (w1.setCell ⟨R.B + 3, 0, none⟩ vo') vo' vc { σ with out := σ.out ++ [x] } ∧ Goes R N w (fun b => N b ∧ vo'.ownBlock ≠ some b) (w1.setCell ⟨R.B + 3, 0, none⟩ vo') := by
  have hs := h.size
  have k1 : Kept (fun b => b = R.B + 3 ∨ vo.ownBlock = some b) w w1 := (Kept.of_grown hg).mono (fun _ _ e => .inr e)
  have k : Kept (fun b => b = R.B + 3 ∨ vo.ownBlock = some b) w (w1.setCell ⟨R.B + 3, 0, none⟩ vo') := k1.setCell (p := ⟨R.B + 3, 0, none⟩) (fun _ => .inl rfl) _
  have hv' : ∀ b, b < w.heap.size → vo'.ownBlock = some b → vo.ownBlock = some b := fun b hb e => by
    rcases hv with hv | hv
    · rw [← hv]; exact e
    · rw [hv] at e; simp only [Option.some.injEq] at e; omega
  have hd : ∀ b, b < w.heap.size → N b → ¬ (b = R.B + 3 ∨ vo.ownBlock = some b) ∧ (N b ∧ vo'.ownBlock ≠ some b) := fun b hb hn => by
    have : ¬ vo.ownBlock = some b := fun e => h.outN b e hn
    exact ⟨fun e => e.elim (fun e => h.no3 (e ▸ hn)) this, hn, fun e => this (hv' b hb e)⟩
  have hmb : ¬ (R.C.mb = R.B + 3 ∨ vo.ownBlock = some R.C.mb) := fun e => e.elim (fun e => by have := h.mbB; omega) (fun e => by have := h.outB _ e; have := h.mbB; omega)
  have hA : At R.C (fun b => N b ∧ vo'.ownBlock ≠ some b) (w1.setCell ⟨R.B + 3, 0, none⟩ vo') := h.at_.go k hd ⟨hmb, fun e => h.at_.not e.1⟩ (fun b hb => ⟨h.at_.new b (by have := hg.size; simp at hb; omega), fun e => by have := (hr.lt b e).2; simp at hb; omega⟩)
  have hc : ∀ g, vc.ownBlock = some g → ¬ (g = R.B + 3 ∨ vo.ownBlock = some g) := fun g hg e => e.elim (fun e => by have := h.cntB g hg; omega) (fun e => h.apart e hg)
  have hx : ∀ b, b < R.B + 7 → ¬ b = R.B + 3 → ¬ (b = R.B + 3 ∨ vo.ownBlock = some b) := fun b hb hn e => e.elim hn (fun e => by have := h.outB _ e; omega)
  have hb3 : Blk (w1.setCell ⟨R.B + 3, 0, none⟩ vo') (R.B + 3) #[vo'] 38 :=
    (h.b3.kept (Kept.of_grown hg) (fun e => by have := h.outB _ e; omega)).set 0 vo'
  refine ⟨⟨hA, fun b hb => h.sub b hb.1, h.mbB, Nat.le_trans hs k.size, fun e => h.no3 e.1, fun e => h.no4 e.1, fun e => h.no5 e.1, ⟨(hd _ (by omega) h.own.1).2, (hd _ (by omega) h.own.2.1).2, (hd _ (by omega) h.own.2.2.1).2, (hd _ (by omega) h.own.2.2.2).2⟩,
    h.b0.kept k (hx _ (by omega) (by omega)), h.b1.kept k (hx _ (by omega) (by omega)), h.b2.kept k (hx _ (by omega) (by omega)), hb3, h.b4.kept k (hx _ (by omega) (by omega)), h.b5.kept k (hx _ (by omega) (by omega)), h.b6.kept k (hx _ (by omega) (by omega)),
    ⟨cs ++ [.int .i64 x.stop, sv], ?_, (hcs.go k hd).append (WysAt.one (hx1.go k hd) hx2 hx3)⟩, fun g hg e => e.2 hg, ownsRow_go h.cnt k hc, fun g hg e => h.cntN g hg e.1⟩, k.mono fun i hi e => .inr ⟨e.elim (fun e => by omega) (fun e => by have := h.outB _ e; omega), fun hn => (hd i hi hn).1 e⟩, fun b hb hn => (hd b hb hn).2⟩
  have hl : (σ.out ++ [x]).length = σ.out.length + 1 := by simp
  show (w1.setCell ⟨R.B + 3, 0, none⟩ vo').ownsRow _ _ 2 vo' (σ.out ++ [x]).length _
  rw [hl]
  exact ownsRow_go hr ((Kept.refl (fun b => b = R.B + 3) w1).setCell (p := ⟨R.B + 3, 0, none⟩) (fun _ => rfl) _) (fun g hg e => by have := hr.lt g hg; omega)
end
end Go.Proofs.YtnhjakdmbfadlaaGreatDoor

/- Way that takes nothing. -/
namespace Go.Proofs.YtnhjakdmbfadlaaGreatDoor
open Go.RowKit Wy Mem Grow

theorem own_slice {w : World} {b1 : Nat} {e1 : TypeId} {s1 : Nat} {v1 : Value} {n1 : Nat} {xs1 : List Value} (h : w.ownsRow b1 e1 s1 v1 n1 xs1) : ∃ ob c, v1 = .slice ob n1 c := by
  rcases h.2 with ⟨rfl, rfl⟩ | ⟨g, cap, cur, rfl, _⟩ <;> exact ⟨_, _, rfl⟩
def Stl (place : Int) (G : Nat) (w : World) (e : Ending) (w' : World) : Prop :=
  ∃ v', e = .returned (.agg #[.int .i64 place, v']) ∧ w'.ownsRow w.heap.size 57 2 v' G ((List.replicate G (-1, -1)).flatMap spCs) ∧ Below w.heap.size w w'
def stlW (w W : World) (place : Int) (G : Nat) : List Value → World → Prop
  | [] => fun w' => w' = W.drew
  | [v] => fun w' => v = .slice (some ⟨W.heap.size, 0, none⟩) 1 1 ∧ Below W.heap.size W w' ∧ Blk w' W.heap.size #[.int .i64 (-1), .int .i64 (-1)] 57
  | [_, v] => fun w' => Below W.heap.size W w' ∧ w'.ownsRow W.heap.size 57 2 v G ((List.replicate G (-1, -1)).flatMap spCs)
  | [_, v, _] => fun w' => Below w.heap.size w w' ∧ Blk w' w.heap.size #[.int .i64 place, v] 43 ∧ w'.ownsRow W.heap.size 57 2 v G ((List.replicate G (-1, -1)).flatMap spCs)
  | _ => fun _ => False
set_option maxHeartbeats 4000000 in
set_option maxRecDepth 100000 in
theorem still_any {w : World} {m G : Nat} {s v : Value} {p place : Int} (hm : Blk w m #[s, .int .i64 G, .int .i64 p, v] 105) (hno : NoneAt w) (hG : G ≤ 64) :
    Calls Tryz.prog 66 #[.pointer (some ⟨m, 0, none⟩), .int .i64 place] w (Stl place G w) := by
  have hrp : ∀ (w' : World) (b : Nat), b < w'.heap.size → w'.cell? ⟨b, 0, none⟩ = some (.int .i64 (-1)) → w'.cell? ⟨b, 1, none⟩ = some (.int .i64 (-1)) → ∀ c, Calls Tryz.prog 88 #[.slice (some ⟨b, 0, none⟩) 1 c, .int .i64 G] w' (Rpt G w') := fun w' b hb h0 h1 c => repeat_any hb h0 h1 G hG
  have HRP := Lib.hid hrp
  have HM := Lib.hid hm
  have HNO := Lib.hid hno
  have mz := hm.lt
  clear hrp hm hno
  go_enter Tryz.func66, Tryz.ntmps66
  go_upto_region 1 with fail
  have B4 := Blk.new w #[.int .i64 0, .slice none 0 0] 43
  have hbW : Below w.heap.size w (w.alloc (.cells #[.int .i64 0, .slice none 0 0] 43)) := (Below.refl _ _).alloc (Nat.le_refl _) _
  have hzW : (w.alloc (.cells #[.int .i64 0, .slice none 0 0] 43)).heap.size = w.heap.size + 1 := by simp
  generalize (w.alloc (.cells #[.int .i64 0, .slice none 0 0] 43)) = W at B4 hbW hzW ⊢
  have HB4 := Lib.hid B4
  have HZW := Lib.hid hzW
  clear B4 hzW
  apply wp_flowL ?hm ?hok [0, 1, 3, 4, 5, 6, 2, 7, 8, 9] [2, 7, 9] [] ?hord (fun w' => Below w.heap.size w w') (stlW w W place G)
  case hm => rfl
  case hok => kernel_rfl
  case hord => kernel_rfl
  case hb =>
    intro L w' h hl
    match L with
    | [] => rw [h]; exact hbW.drew
    | [v] => exact hbW.trans (h.2.1.mono (by have := HZW.out; omega))
    | [_, v] => exact hbW.trans (h.1.mono (by have := HZW.out; omega))
    | [_, _, _] => exact h.1
    | _ :: _ :: _ :: _ :: _ => exact h.elim
  case hw => rfl
  case h =>
    apply flowL_read _ rfl rfl rfl rfl
    case h =>
      intro W1 hW K hK
      (skip)
      go_wp2_with fail
      exact hK
    simp only [Act.put, List.setIfInBounds_toArray, List.set_cons_zero, List.set_cons_succ, Nat.reduceAdd]
    apply flowL_read _ rfl rfl rfl rfl
    case h =>
      intro W1 hW K hK
      (obtain ⟨n0, n1, n2⟩ := HNO.out.below hW)
      go_wp2_with fail
      exact hK
    simp only [Act.put, List.setIfInBounds_toArray, List.set_cons_zero, List.set_cons_succ, Nat.reduceAdd]
    apply flowL_read _ rfl rfl rfl rfl
    case h =>
      intro W1 hW K hK
      (skip)
      go_wp2_with fail
      exact hK
    simp only [Act.put, List.setIfInBounds_toArray, List.set_cons_zero, List.set_cons_succ, Nat.reduceAdd]
    apply flowL_read _ rfl rfl rfl rfl
    case h =>
      intro W1 hW K hK
      (have hlt := hW.size)
      go_wp2_with fail
      exact hK
    simp only [Act.put, List.setIfInBounds_toArray, List.set_cons_zero, List.set_cons_succ, Nat.reduceAdd]
    apply flowL_read _ rfl rfl rfl rfl
    case h =>
      intro W1 hW K hK
      (have hlt := hW.size)
      go_wp2_with fail
      exact hK
    simp only [Act.put, List.setIfInBounds_toArray, List.set_cons_zero, List.set_cons_succ, Nat.reduceAdd]
    apply flowL_read _ rfl rfl rfl rfl
    case h =>
      intro W1 hW K hK
      (have m1 := (HM.out.below hW mz).cell 1)
      go_wp2_with fail
      exact hK
    simp only [Act.put, List.setIfInBounds_toArray, List.set_cons_zero, List.set_cons_succ, Nat.reduceAdd]
    apply flowL_act rfl rfl rfl
    case h =>
      intro W1 hW K hK
      obtain rfl : W1 = W.drew := hW
      go_wp2_with fail
      exact ⟨rfl, (Below.refl _ _).drew.alloc (Nat.le_refl _) _, Blk.new _ _ _⟩
    intro v hv
    obtain ⟨-, rfl, -⟩ := hv
    simp only [Act.put, List.setIfInBounds_toArray, List.set_cons_zero, List.set_cons_succ, Nat.reduceAdd]
    apply flowL_act rfl rfl rfl
    case h =>
      intro W1 hW K hK
      obtain ⟨-, hb1, hB⟩ := hW
      obtain ⟨g0, g1, -, -⟩ := hB.two
      go_wp2_with (go_at_call 88; refine (HRP.out _ _ hB.lt g0 g1 _).mono ?_; rintro e w' ⟨v', rfl, hown, hb⟩)
      exact ⟨hb1.trans (hb.mono hb1.size), own_weak hown hb1.size⟩
    intro v hv
    obtain ⟨_, -, hown⟩ : ∃ w', Below W.heap.size W w' ∧ w'.ownsRow W.heap.size 57 2 v G ((List.replicate G (-1, -1)).flatMap spCs) := hv
    obtain ⟨ob, c, rfl⟩ := own_slice hown
    simp only [Act.put, List.setIfInBounds_toArray, List.set_cons_zero, List.set_cons_succ, Nat.reduceAdd]
    apply flowL_read _ rfl rfl rfl rfl
    case h =>
      intro W1 hW K hK
      (skip)
      go_wp2_with fail
      exact hK
    simp only [Act.put, List.setIfInBounds_toArray, List.set_cons_zero, List.set_cons_succ, Nat.reduceAdd]
    apply flowL_act rfl rfl rfl
    case h =>
      intro W1 hW K hK
      obtain ⟨hb1, hown⟩ := hW
      have B := HB4.out.below hb1 (by have := HZW.out; omega)
      have HB := Lib.hid B
      obtain ⟨g0, g1, f0, f1⟩ := B.two
      have hend : stlW w W place G [.slice (some ⟨W.heap.size, 0, none⟩) 1 1, .slice ob G c, undef] ((W1.setCell ⟨w.heap.size, 0, none⟩ (.int .i64 place)).setCell ⟨w.heap.size, 1, none⟩ (.slice ob G c)) :=
        ⟨((hbW.trans (hb1.mono (by have := HZW.out; omega))).setCell (Nat.le_refl _) _).setCell (Nat.le_refl _) _, (B.set 0 _).set 1 _, ownsRow_setCell_below (ownsRow_setCell_below hown (by have := HZW.out; show w.heap.size < W.heap.size; omega) _) (by have := HZW.out; show w.heap.size < W.heap.size; omega) _⟩
      have HEND := Lib.hid hend
      clear B hend hown
      go_wp2_with fail
      exact hK undef _ HEND.out
    intro v hv
    simp only [Act.put, List.setIfInBounds_toArray, List.set_cons_zero, List.set_cons_succ, Nat.reduceAdd]
    refine flowL_end fun W7 h7 => ?_
    obtain ⟨hb7, B7, hown7⟩ := h7
    obtain ⟨g0, g1, -, -⟩ := B7.two
    have HOWN := Lib.hid hown7
    clear hown7
    go_wp2_with fail
    exact bodyPost_ret (v := .agg #[.int .i64 place, .slice ob G c]) (by simp [results, Tryz.results66, go_sem, g0, g1]) rfl ⟨_, rfl, own_weak HOWN.out hbW.size, hb7⟩
end Go.Proofs.YtnhjakdmbfadlaaGreatDoor

/- A list of ways that is being built, while others are found. -/
namespace Go.Proofs.YtnhjakdmbfadlaaGreatDoor
open Go.RowKit Wy Mem Grow

theorem SpsAt.still {N : Nat → Prop} {w : World} {base : Nat} {v : Value} {G : Nat} (h : w.ownsRow base 57 2 v G ((List.replicate G (-1, -1)).flatMap spCs)) (hN : ∀ b, base ≤ b → b < w.heap.size → N b) (hG : G ≤ 64) : SpsAt N w v (List.replicate G (-1, -1)) :=
  ⟨by rw [List.length_replicate]; exact Row.of_own h hN, fun s hs => by rw [List.eq_of_mem_replicate hs]; exact ⟨⟨by decide, by decide⟩, ⟨by decide, by decide⟩⟩, by rw [List.length_replicate]; exact hG⟩
theorem thenS_mem {a b : List (Int × Int)} {s : Int × Int} (h : s ∈ thenS a b) : s ∈ a ∨ s ∈ b := by
  unfold thenS at h
  obtain ⟨i, hi, rfl⟩ := List.getElem_of_mem h
  rw [List.length_zipWith] at hi
  rw [List.getElem_zipWith]
  split
  · exact .inl (List.getElem_mem _)
  · exact .inr (List.getElem_mem _)
theorem thenS_length {a b : List (Int × Int)} (h : a.length = b.length) : (thenS a b).length = b.length := by
  unfold thenS; rw [List.length_zipWith]; omega
theorem SpsAt.thn {N : Nat → Prop} {w w' : World} {base : Nat} {ws vs v' : Value} {a b : List (Int × Int)} (ha : SpsAt N w ws a) (hb : SpsAt N w vs b) (hab : a.length = b.length)
    (h : w'.ownsRow base 57 2 v' (thenS a b).length ((thenS a b).flatMap spCs)) {M : Nat → Prop} (hN : ∀ b, base ≤ b → b < w'.heap.size → M b) : SpsAt M w' v' (thenS a b) := by
  exact ⟨Row.of_own h hN, fun s hs => (thenS_mem hs).elim (ha.ok s) (hb.ok s), by rw [thenS_length hab]; exact hb.small⟩
theorem thn_eq (G : Nat) (x y : Wy.Way) : (wayA G).thn x y = ⟨y.stop, thenS x.spans y.spans⟩ := rfl
theorem still_eq (G p : Nat) : (wayA G).still p = ⟨p, List.replicate G (-1, -1)⟩ := rfl

def Cx.r (C : Cx) (B : Nat) : Rc := ⟨C, B, fun _ => True, 0, undef, undef, 0, 0, false⟩
structure GrAt (C : Cx) (B : Nat) (N0 N : Nat → Prop) (w : World) (v : Value) (l : List Wy.Way) : Prop where
  at_ : At C N w
  sub : ∀ b, N b → N0 b
  mbB : C.mb < B
  size : B ≤ w.heap.size
  row : ∃ cs, w.ownsRow B 43 2 v l.length cs ∧ WysAt N w C.G C.s.size l cs
  rowN : ∀ g, v.ownBlock = some g → ¬ N g
section
variable {C : Cx} {B : Nat} {N0 N N' : Nat → Prop} {w w' : World} {v : Value} {l : List Wy.Way}
theorem GrAt.nil (h : At C N w) (hs : ∀ b, N b → N0 b) (hB : C.mb < B) (hz : B ≤ w.heap.size) : GrAt C B N0 N w (.slice none 0 0) [] :=
  ⟨h, hs, hB, hz, ⟨[], World.ownsRow_nil _ _ _ _, rfl⟩, fun g hg => by simp [Value.ownBlock] at hg⟩
theorem GrAt.slice (h : GrAt C B N0 N w v l) : ∃ o c, v = .slice o l.length c := by
  obtain ⟨cs, h1, -⟩ := h.row
  exact own_slice h1
theorem GrAt.rowB (h : GrAt C B N0 N w v l) : ∀ g, v.ownBlock = some g → B ≤ g ∧ g < w.heap.size := by
  obtain ⟨cs, h1, -⟩ := h.row
  exact h1.lt
theorem GrAt.memo (h : GrAt C B N0 N w v l) (k : Kept (fun b => b = C.mb) w w') (hA : At C N w') : GrAt C B N0 N w' v l := by
  obtain ⟨cs, h1, h2⟩ := h.row
  exact ⟨hA, h.sub, h.mbB, Nat.le_trans h.size k.size, ⟨cs, ownsRow_go h1 k (fun g hg e => by have := h.rowB g hg; have := h.mbB; omega), h2.go k (fun b _ hb => ⟨fun e => h.at_.not (e ▸ hb), hb⟩)⟩, h.rowN⟩
theorem GrAt.below (h : GrAt C B N0 N w v l) (k : Below w.heap.size w w') : GrAt C B N0 N w' v l :=
  h.memo (Kept.of_below k _) (h.at_.below k)
theorem GrAt.more (h : GrAt C B N0 N w v l) {v' : Value} {m : List Wy.Way} {cs ns : List Value} (hcs : WysAt N w C.G C.s.size l cs) (hns : WysAt N w C.G C.s.size m ns)
    (hr : w'.ownsRow B 43 2 v' (l.length + m.length) (cs ++ ns)) (hg : w.grownBy w' v.ownBlock) (hv : v'.ownBlock = v.ownBlock ∨ v'.ownBlock = some w.heap.size) :
    GrAt C B N0 (fun b => N b ∧ v'.ownBlock ≠ some b) w' v' (l ++ m) ∧ Goes (C.r B) N w (fun b => N b ∧ v'.ownBlock ≠ some b) w' := by
  have k := Kept.of_grown hg
  have hv' : ∀ b, b < w.heap.size → v'.ownBlock = some b → v.ownBlock = some b := fun b hb e => by
    rcases hv with hv | hv
    · rw [← hv]; exact e
    · rw [hv] at e; simp only [Option.some.injEq] at e; omega
  have hd : ∀ b, b < w.heap.size → N b → ¬ (v.ownBlock = some b) ∧ (N b ∧ v'.ownBlock ≠ some b) := fun b hb hn => by
    have : ¬ v.ownBlock = some b := fun e => h.rowN b e hn
    exact ⟨this, hn, fun e => this (hv' b hb e)⟩
  have hmb : ¬ (v.ownBlock = some C.mb) := fun e => by have := h.rowB _ e; have := h.mbB; omega
  have hA : At C (fun b => N b ∧ v'.ownBlock ≠ some b) w' := h.at_.go k hd ⟨hmb, fun e => h.at_.not e.1⟩ (fun b hb => ⟨h.at_.new b (by have := hg.size; omega), fun e => by have := (hr.lt b e).2; omega⟩)
  refine ⟨⟨hA, fun b hb => h.sub b hb.1, h.mbB, Nat.le_trans h.size hg.size, ⟨cs ++ ns, by rw [List.length_append]; exact hr, (hcs.go k hd).append (hns.go k hd)⟩, fun g hg e => e.2 hg⟩, ?_, fun b hb hn => (hd b hb hn).2⟩
  exact k.mono fun i hi e => .inr ⟨(h.rowB i e).1, fun hn => (hd i hi hn).1 e⟩
/-- it is done: it may be read -/
theorem GrAt.done (h : GrAt C B N0 N w v l) (hN0 : ∀ b, B ≤ b → N0 b) : ∃ N', At C N' w ∧ (∀ b, N' b → N0 b) ∧ Goes (C.r B) N w N' w ∧ WaysAt N' w C.G C.s.size v l := by
  have hmb : ¬ (v.ownBlock = some C.mb) := fun e => by have := h.rowB _ e; have := h.mbB; omega
  refine ⟨fun b => N b ∨ v.ownBlock = some b, h.at_.mono (fun b hb => .inl hb) (fun e => e.elim h.at_.not hmb), fun b hb => hb.elim (h.sub b) (fun e => hN0 b (h.rowB b e).1), ⟨Kept.refl _ _, fun b _ hb => .inl hb⟩, ?_⟩
  obtain ⟨cs, h1, h2⟩ := h.row
  refine ⟨cs, ⟨h1.1, ?_⟩, h2.mono (fun b hb => .inl hb)⟩
  rcases h1.2 with ⟨rfl, h0⟩ | ⟨g, cap, cur, rfl, hb, hg, hnc, hcm, -, -⟩
  · exact .inl ⟨h0, none, 0, rfl⟩
  · refine .inr ⟨g, 0, cap, rfl, hnc, hcm, .inr rfl, (Array.getElem?_eq_some_iff.1 hg).1, fun j hj => ?_⟩
    rw [Nat.zero_add]
    exact h1.cellAt _ (by rw [← h1.1]; exact hj)
end

theorem Goes.kept {C : Cx} {N N' : Nat → Prop} {w w' : World} (h : Goes (C.r w.heap.size) N w N' w') : Kept (fun b => b = C.mb) w w' :=
  h.own.mono fun i hi e => e.elim id fun e => by have : w.heap.size ≤ i := e.1; omega
/-- a call of ways that finds too many; one that does not -/
theorem WaysSpec.no {C : Cx} {t : Nd} (h : WaysSpec C t) {N : Nat → Prop} {w : World} {num grp b place : Nat} (hA : At C N w) (hp : PartAt N w t num grp b) (ht : Tabd C.T t num grp) (hg : grp + opened t ≤ C.G) (hpl : place ≤ C.s.size) (ho : C.wy t grp place = none) :
    Calls Tryz.prog 43 #[.pointer (some ⟨C.m, 0, none⟩), .pointer (some ⟨b, 0, none⟩), .int .i64 place] w fun e w' => e = .returned (.tuple #[.slice none 0 0, .bool false]) ∧ Kept (fun b => b = C.mb) w w' ∧ At C N w' :=
  (h N w num grp b place hA hp ht hg hpl).mono fun e w' ⟨h1, h2, v, h3, h4, _⟩ => by
    rw [ho] at h3 h4
    rw [h4 rfl] at h3
    exact ⟨h3, h1, h2⟩
theorem WaysSpec.yes {C : Cx} {t : Nd} (h : WaysSpec C t) {N : Nat → Prop} {w : World} {num grp b place : Nat} (hA : At C N w) (hp : PartAt N w t num grp b) (ht : Tabd C.T t num grp) (hg : grp + opened t ≤ C.G) (hpl : place ≤ C.s.size) {m : List Wy.Way} (ho : C.wy t grp place = some m) :
    Calls Tryz.prog 43 #[.pointer (some ⟨C.m, 0, none⟩), .pointer (some ⟨b, 0, none⟩), .int .i64 place] w fun e w' => ∃ a c, e = .returned (.tuple #[.slice a m.length c, .bool true]) ∧ Kept (fun b => b = C.mb) w w' ∧ At C N w' ∧ WaysAt N w' C.G C.s.size (.slice a m.length c) m :=
  (h N w num grp b place hA hp ht hg hpl).mono fun e w' ⟨h1, h2, v, h3, _, h5⟩ => by
    rw [ho] at h3 h5
    have hw := h5 m rfl
    obtain ⟨a, c, rfl⟩ := hw.slice
    exact ⟨a, c, h3, h1, h2, hw⟩
/-- one way, built where it stands -/
theorem one_src {w : World} {st : Int} {sv : Value} : SrcAt (w.alloc (.cells #[.int .i64 st, sv] 43)) (.slice (some ⟨w.heap.size, 0, none⟩) 1 1) 1 [.int .i64 st, sv] := by
  have hB := Blk.new w #[.int .i64 st, sv] 43
  refine .inr ⟨_, _, rfl, fun j u hu => ?_⟩
  match j with
  | 0 => simp at hu; subst hu; simp [Addr.add, hB.cell]
  | 1 => simp at hu; subst hu; simp [Addr.add, hB.cell]
  | j + 2 => simp at hu

theorem wys_none {C : Cx} {N N' : Nat → Prop} {w w' : World} {o : Option (List Wy.Way)} (hA : At C N w) (hg : Goes (C.r w.heap.size) N w N' w') (hA' : At C N' w') (hs : ∀ b, N' b → N b) (ho : o = none) :
    Wys C N w o (.returned (.tuple #[.slice none 0 0, .bool false])) w' := by
  subst ho
  exact ⟨hg.kept, hA'.mono hs hA.not, _, rfl, ⟨_, _, _, rfl⟩, fun l hl => by cases hl⟩
theorem wys_some {C : Cx} {N N' : Nat → Prop} {w w' : World} {o : Option (List Wy.Way)} {v : Value} {l : List Wy.Way} (hA : At C N w) (hg : Goes (C.r w.heap.size) N w N' w') (hA' : At C N' w') (hs : ∀ b, N' b → N b) (hw : WaysAt N' w' C.G C.s.size v l) (ho : o = some l) :
    Wys C N w o (.returned (.tuple #[v, .bool true])) w' := by
  subst ho
  refine ⟨hg.kept, hA'.mono hs hA.not, _, rfl, ?_, fun l' hl' => ?_⟩
  · obtain ⟨a, c, rfl⟩ := hw.slice
    exact ⟨_, _, _, rfl⟩
  · simp only [Option.some.injEq] at hl'
    subst hl'
    exact hw.mono hs
end Go.Proofs.YtnhjakdmbfadlaaGreatDoor

/- The map of what is known: looked up, and stored into. -/
namespace Go.Proofs.YtnhjakdmbfadlaaGreatDoor
open Go.RowKit Wy Mem Grow
open Go.ChangeMaps (setBlock heap_setBlock_same heap_setBlock_other modify_eq_set)

theorem laidOut : laidOutB Tryz.prog = true := by kernel_rfl
theorem rowKey : (142 : TypeId) < Tryz.prog.types.size := of_decide_eq_true (by kernel_rfl)
theorem wideKey : (match Tryz.prog.underlying 142 with | some (.array _ _) | some (.struct _) => true | _ => false) = true := by kernel_rfl
set_option maxRecDepth 100000 in
theorem lawKey : WideMaps.KeyLaw Tryz.prog 142 :=
  deep_law_laid laidOut (m := 2) (by omega) rowKey (by kernel_rfl) wideKey

def keyV (n p : Nat) : Value := .agg #[.int .i64 n, .int .i64 p]

theorem keyV_inj {n p n' p' : Nat} (h : keyV n p = keyV n' p') : n = n' ∧ p = p' := by
  simp only [keyV, Value.agg.injEq, Array.mk.injEq, List.cons.injEq, Value.int.injEq, true_and, and_true] at h
  exact ⟨by omega, by omega⟩

set_option maxRecDepth 100000 in
theorem key_of (n p : Nat) (hn : n ≤ 1000000000) (hp : p ≤ 32) : ∃ l, keyOf Tryz.prog 142 (keyV n p) = some l := by
  have e1 : (Lit.int .i64 n).wf = true := by
    simp only [Lit.wf, show IntKind.min .i64 = -9223372036854775808 from rfl, show IntKind.max .i64 = 9223372036854775807 from rfl, Bool.and_eq_true, decide_eq_true_eq]; omega
  have e2 : (Lit.int .i64 p).wf = true := by
    simp only [Lit.wf, show IntKind.min .i64 = -9223372036854775808 from rfl, show IntKind.max .i64 = 9223372036854775807 from rfl, Bool.and_eq_true, decide_eq_true_eq]; omega
  have hc : Tryz.prog.cellsOf 142 = 2 := by kernel_rfl
  have hc3 : Tryz.prog.cellsOf 3 = 1 := by kernel_rfl
  have hkt : Tryz.prog.keyType 142 = true := by kernel_rfl
  obtain ⟨m, hm⟩ : ∃ m, Tryz.prog.types.size = m + 1 := ⟨Tryz.prog.types.size - 1, by have := rowKey; have h : (0 : Nat) < Tryz.prog.types.size := Nat.lt_of_le_of_lt (Nat.zero_le _) this; omega⟩
  unfold keyOf
  simp only [Tryz.underlying142]
  rw [if_pos (by simp [hkt, keyV, Value.formed, Tryz.underlying142, hc]), hm]
  unfold Program.keyLits
  simp only [Tryz.underlying142, keyV, Value.cells]
  rw [if_pos (by rw [hc]; simp)]
  simp [Program.keyLits, Tryz.underlying3, e1, e2, hc3]

section
variable {C : Cx} {N : Nat → Prop} {w : World}

theorem KnownAt.key {x : MapEntry} (hC : C.Ok) (h : KnownAt C N w x) : ∃ l, keyOf Tryz.prog 142 x.key = some l := by
  obtain ⟨n, p, t, g, l, h1, h2, h3, -⟩ := h
  rw [h1]
  exact key_of n p (hC.T n _ h3) h2

theorem look_known (hC : C.Ok) (h : At C N w) {n p : Nat} (hn : n ≤ 1000000000) (hp : p ≤ 32) :
    (Instr.lookup 103 (.map (some C.mb)) (.agg #[.int .i64 n, .int .i64 p]) true).run Tryz.prog w = .ok (.tuple #[.slice none 0 0, .bool false]) w ∨
    ∃ v t g l, (Instr.lookup 103 (.map (some C.mb)) (.agg #[.int .i64 n, .int .i64 p]) true).run Tryz.prog w = .ok (.tuple #[v, .bool true]) w ∧
      C.T n = some (t, g) ∧ C.wy t g p = some l ∧ WaysAt N w C.G C.s.size v l := by
  obtain ⟨es, clock, hb, hes⟩ := h.memo
  obtain ⟨kl, hkey⟩ := key_of n p hn hp
  have hz : (zeroValue 38).run Tryz.prog w = .ok (.slice none 0 0) w := by kernel_rfl
  rcases lawKey.find w hkey es.toList (fun e he => (hes e he).key hC) with ⟨h1, h2⟩ | ⟨j, e0, h1, h2, h3⟩
  · left
    simp only [keyV] at hkey h1
    simp [Instr.lookup, run_underlying Tryz.underlying103, MapKept.run_getObj_map hb, lawKey.check w _ hkey, h1, hz, Result.andThen]
  · right
    obtain ⟨n', p', t, g, l, k1, k2, k3, k4, k5⟩ := hes e0 (List.mem_of_getElem? h2)
    obtain ⟨rfl, rfl⟩ := keyV_inj (h3.symm.trans k1)
    refine ⟨e0.val, t, g, l, ?_, k3, k4, k5⟩
    simp only [keyV] at hkey h1
    simp [Instr.lookup, run_underlying Tryz.underlying103, MapKept.run_getObj_map hb, lawKey.check w _ hkey, h1, Result.andThen]

theorem store_known (hC : C.Ok) (h : At C N w) {n p g : Nat} {t : Nd} {l : List Wy.Way} {v : Value} (hp : p ≤ 32) (hT : C.T n = some (t, g))
    (hw : C.wy t g p = some l) (hv : WaysAt N w C.G C.s.size v l) :
    ∃ w', (Instr.mapUpdate 103 (.map (some C.mb)) (.agg #[.int .i64 n, .int .i64 p]) v).run Tryz.prog w = .ok () w' ∧
      Kept (fun b => b = C.mb) w w' ∧ w'.heap.size = w.heap.size ∧ At C N w' := by
  obtain ⟨es, clock, hb, hes⟩ := h.memo
  obtain ⟨kl, hkey⟩ := key_of n p (hC.T n _ hT) hp
  have key : ∀ es' clock', (∀ x ∈ es'.toList, x ∈ es.toList ∨ x.key = keyV n p ∧ x.val = v) →
      Kept (fun b => b = C.mb) w (setBlock w C.mb (.map es' clock')) ∧ (setBlock w C.mb (.map es' clock')).heap.size = w.heap.size ∧ At C N (setBlock w C.mb (.map es' clock')) := by
    intro es' clock' hes'
    have hk : Kept (fun b => b = C.mb) w (setBlock w C.mb (.map es' clock')) := ⟨rfl, rfl, rfl, by simp [setBlock], fun k _ hk => heap_setBlock_other hb _ hk⟩
    have hd : ∀ b, b < w.heap.size → N b → ¬ (b = C.mb) ∧ N b := fun b _ hn => ⟨fun e => h.not (e ▸ hn), hn⟩
    have hsz : (setBlock w C.mb (.map es' clock')).heap.size = w.heap.size := by simp [setBlock]
    have hl : ∀ b, b ≤ 2 → ¬ b = C.mb := fun b hb e => h.not (e ▸ h.low b hb)
    refine ⟨hk, hsz, tabs_kept h.tabs hk (hl 0 (by omega)) (hl 1 (by omega)) (by have := h.none.1; omega), h.none.kept hk (hl _ (Nat.le_refl _)), h.maker.kept hk (fun e => h.not (e ▸ h.own)), ⟨es', clock', heap_setBlock_same hb _, fun x hx => ?_⟩, fun b hb => h.new b (by omega), h.low, h.own, h.not⟩
    rcases hes' x hx with hx | ⟨e1, e2⟩
    · exact (hes x hx).go hk hd
    · exact ⟨n, p, t, g, l, e1, hp, hT, hw, e2 ▸ hv.go hk hd⟩
  rcases lawKey.find w hkey es.toList (fun e he => (hes e he).key hC) with ⟨h1, h2⟩ | ⟨j, e0, h1, h2, h3⟩
  · refine ⟨_, ?_, key (es.push ⟨keyV n p, v, clock⟩) (clock + 1) ?_⟩
    · simp only [keyV] at hkey h1 ⊢
      simp [Instr.mapUpdate, run_underlying Tryz.underlying103, MapKept.run_getObj_map hb, lawKey.check w false hkey, h1, MapKept.run_setObj_map _ hb, Result.andThen, setBlock]
    · intro x hx
      simp only [Array.toList_push, List.mem_append, List.mem_singleton] at hx
      rcases hx with hx | rfl
      · exact .inl hx
      · exact .inr ⟨rfl, rfl⟩
  · have hj : es[j]? = some e0 := by simpa using h2
    refine ⟨_, ?_, key (es.modify j (fun e' => { e' with key := keyV n p, val := v })) clock ?_⟩
    · have hst := lawKey.stays w hkey
      simp only [keyV] at hkey h1 h3 hst ⊢
      simp [Instr.mapUpdate, run_underlying Tryz.underlying103, MapKept.run_getObj_map hb, lawKey.check w false hkey, h1, hj, h3, hst, MapKept.run_setObj_map _ hb, Result.andThen, setBlock]
    · intro x hx
      rw [Array.toList_modify, modify_eq_set _ _ _ _ h2] at hx
      rcases List.mem_or_eq_of_mem_set hx with hx | rfl
      · exact .inl hx
      · exact .inr ⟨rfl, rfl⟩
end
end Go.Proofs.YtnhjakdmbfadlaaGreatDoor

/- A tree, as parts. -/
namespace Go.Proofs.YtnhjakdmbfadlaaGreatDoor
open Go.RowKit Wy Mem Grow

theorem infoP : (Tryz.prog.info? 106).map (fun i => (i.zero, i.size, i.bytes)) = some (some (.pointer none), 1, 8) := by kernel_rfl
def mkC (s mv : Value) (G0 P0 : Nat) : Array Value := #[s, .int .i64 G0, .int .i64 P0, mv]
def Prt (N : Nat → Prop) (w : World) (m : Nat) (s mv : Value) (t : Nd) (G0 P0 : Nat) (e : Ending) (w' : World) : Prop :=
  ∃ b, e = .returned (.pointer (some ⟨b, 0, none⟩)) ∧ PartAt N w' t P0 G0 b ∧ Blk w' m (mkC s mv (G0 + opened t) (P0 + nodes t)) 105 ∧ Kept (fun q => q = m) w w'
def PartSpec (t : Nd) : Prop := ∀ (N : Nat → Prop) (w : World) (m : Nat) (s mv : Value) (G0 P0 : Nat) (cs : List Value), Blk w m (mkC s mv G0 P0) 105 → NdAt N w t cs → (∀ q, w.heap.size ≤ q → N q) → ¬ N m →
  G0 + opened t ≤ 1000000000 → P0 + nodes t ≤ 1000000000 → Calls Tryz.prog 42 #[.pointer (some ⟨m, 0, none⟩), .agg cs.toArray] w (Prt N w m s mv t G0 P0)
/-- the parts made so far -/
def partC0 (k lo hi : Int) (lazy : Bool) (sv uv pv : Value) (num grp : Nat) : Array Value := #[.int .u8 k, sv, .int .i64 lo, .int .i64 hi, .bool lazy, uv, .int .i64 num, .int .i64 grp, pv]
structure PtAt (N : Nat → Prop) (m : Nat) (s mv : Value) (p : Nat) (k lo hi : Int) (lazy : Bool) (sv uv : Value) (G0 P0 : Nat) (W : World) (l : List Nd) (e : Nat) (N1 : Nat → Prop) (w : World) (pv : Value) : Prop where
  sub : ∀ q, N1 q → N q
  keep : ∀ q, q < W.heap.size → N q → N1 q
  new : ∀ q, w.heap.size ≤ q → N1 q
  noM : ¬ N1 m
  noP : ¬ N1 p
  pm : p ≠ m
  pz : W.heap.size ≤ p
  part : Blk w p (partC0 k lo hi lazy sv uv pv P0 G0) 140
  own : ∃ ps, w.ownsRow (p + 1) 106 1 pv l.length ps ∧ PartsAt N1 w l (P0 + 1) (G0 + e) ps
  ownN : ∀ g, pv.ownBlock = some g → ¬ N1 g
  maker : Blk w m (mkC s mv (G0 + e + openedL l) (P0 + 1 + nodesL l)) 105
  kept : Kept (fun q => q = m) W w
section
variable {N N1 : Nat → Prop} {m p G0 P0 e : Nat} {s mv sv uv pv : Value} {k lo hi : Int} {lazy : Bool} {W w w' : World} {l : List Nd}
theorem PtAt.below (h : PtAt N m s mv p k lo hi lazy sv uv G0 P0 W l e N1 w pv) (kb : Below w.heap.size w w') : PtAt N m s mv p k lo hi lazy sv uv G0 P0 W l e N1 w' pv := by
  obtain ⟨ps, hown, hps⟩ := h.own
  have kk : Kept (fun _ => False) w w' := Kept.of_below kb _
  exact ⟨h.sub, h.keep, fun q hq => h.new q (Nat.le_trans kb.size hq), h.noM, h.noP, h.pm, h.pz, h.part.kept kk id, ⟨ps, ownsRow_go hown kk (fun _ _ => id), PartsAt.go kk (fun q _ hn => ⟨id, hn⟩) hps⟩, h.ownN, h.maker.kept kk id, h.kept.trans (Kept.of_below kb _)⟩
theorem PtAt.ownM (h : PtAt N m s mv p k lo hi lazy sv uv G0 P0 W l e N1 w pv) : ¬ (pv.ownBlock = some m) := fun e => by
  obtain ⟨ps0, hown, -⟩ := h.own
  obtain ⟨-, h2⟩ := hown
  rcases h2 with ⟨rfl, -⟩ | ⟨g, c, cur, rfl, -, h3, -⟩
  · simp [Value.ownBlock] at e
  · simp only [Value.ownBlock, Option.some.injEq] at e
    subst e
    have := h.maker
    unfold Blk at this
    rw [h3] at this
    simp only [Option.some.injEq, Obj.cells.injEq] at this
    exact absurd this.2.1 (by decide)
/-- one part more: it was made, and was appended -/
theorem PtAt.more (h : PtAt N m s mv p k lo hi lazy sv uv G0 P0 W l e N1 w pv) {t : Nd} {b : Nat} {w3 w4 : World} {pv' : Value} {ps : List Value} (hps : PartsAt N1 w l (P0 + 1) (G0 + e) ps)
    (k3 : Kept (fun q => q = m) w w3) (hb : PartAt N1 w3 t (P0 + 1 + nodesL l) (G0 + e + openedL l) b) (hm : Blk w3 m (mkC s mv (G0 + e + openedL l + opened t) (P0 + 1 + nodesL l + nodes t)) 105)
    (hr : w4.ownsRow (p + 1) 106 1 pv' (l.length + 1) (ps ++ [.pointer (some ⟨b, 0, none⟩)])) (hg : w3.grownBy w4 pv.ownBlock) (hv : pv'.ownBlock = pv.ownBlock ∨ pv'.ownBlock = some w3.heap.size) :
    PtAt N m s mv p k lo hi lazy sv uv G0 P0 W (l ++ [t]) e (fun q => N1 q ∧ pv'.ownBlock ≠ some q) (w4.setCell ⟨p, 8, none⟩ pv') pv' := by
  obtain ⟨ps0, hown, -⟩ := h.own
  have hoB : ∀ g, pv.ownBlock = some g → p + 1 ≤ g ∧ g < w.heap.size := hown.lt
  have hplt := h.part.lt
  have hmlt := h.maker.lt
  have k4 := Kept.of_grown hg
  have hv' : ∀ q, q < w3.heap.size → pv'.ownBlock = some q → pv.ownBlock = some q := fun q hq e => by
    rcases hv with hv | hv
    · rw [← hv]; exact e
    · rw [hv] at e; simp only [Option.some.injEq] at e; omega
  have hmo : ¬ (pv.ownBlock = some m) := fun e => by
    have h1 := hoB m e
    obtain ⟨-, h2⟩ := hown
    rcases h2 with ⟨rfl, -⟩ | ⟨g, c, cur, rfl, -, h3, -⟩
    · simp [Value.ownBlock] at e
    · simp only [Value.ownBlock, Option.some.injEq] at e
      subst e
      have := h.maker
      unfold Blk at this
      rw [h3] at this
      simp only [Option.some.injEq, Obj.cells.injEq] at this
      exact absurd this.2.1 (by decide)
  have hpo : ¬ (pv.ownBlock = some p) := fun e => by have := hoB p e; omega
  -- w to the end
  have kA : Kept (fun q => q = m ∨ pv.ownBlock = some q ∨ q = p) w (w4.setCell ⟨p, 8, none⟩ pv') :=
    ((k3.mono (fun _ _ e => .inl e)).trans' (k4.mono (fun _ _ e => e)) (fun q _ e => .inr (.inl e))).setCell (p := ⟨p, 8, none⟩) (fun _ => .inr (.inr rfl)) _
  have kB : Kept (fun q => pv.ownBlock = some q ∨ q = p) w3 (w4.setCell ⟨p, 8, none⟩ pv') := (k4.mono (fun _ _ e => .inl e)).setCell (p := ⟨p, 8, none⟩) (fun _ => .inr rfl) _
  have hd : ∀ q, q < w.heap.size → N1 q → ¬ (q = m ∨ pv.ownBlock = some q ∨ q = p) ∧ (N1 q ∧ pv'.ownBlock ≠ some q) := fun q hq hn =>
    have h1 : ¬ pv.ownBlock = some q := fun e => h.ownN q e hn
    ⟨fun e => e.elim (fun e => h.noM (e ▸ hn)) (fun e => e.elim h1 (fun e => h.noP (e ▸ hn))), hn, fun e => h1 (hv' q (Nat.lt_of_lt_of_le hq k3.size) e)⟩
  have hd3 : ∀ q, q < w3.heap.size → N1 q → ¬ (pv.ownBlock = some q ∨ q = p) ∧ (N1 q ∧ pv'.ownBlock ≠ some q) := fun q hq hn =>
    have h1 : ¬ pv.ownBlock = some q := fun e => h.ownN q e hn
    ⟨fun e => e.elim h1 (fun e => h.noP (e ▸ hn)), hn, fun e => h1 (hv' q hq e)⟩
  have hpB : Blk (w4.setCell ⟨p, 8, none⟩ pv') p (partC0 k lo hi lazy sv uv pv' P0 G0) 140 :=
    ((h.part.kept k3 h.pm).kept k4 hpo).set 8 pv'
  refine ⟨fun q hq => h.sub q hq.1, fun q hq hn => (hd q (Nat.lt_of_lt_of_le hq h.kept.size) (h.keep q hq hn)).2, fun q hq => ⟨h.new q (Nat.le_trans kA.size hq), fun e => by have := (hr.lt q e).2; simp at hq; omega⟩, fun e => h.noM e.1, fun e => h.noP e.1, h.pm, h.pz, hpB, ?_, fun g hg e => e.2 hg, ?_, ?_⟩
  · refine ⟨ps ++ [.pointer (some ⟨b, 0, none⟩)], ?_, ?_⟩
    · rw [List.length_append, List.length_singleton]
      exact ownsRow_go hr ((Kept.refl (fun q => q = p) w4).setCell (p := ⟨p, 8, none⟩) (fun _ => rfl) _) (fun g hg e => by have := (hr.lt g hg).1; omega)
    · refine PartsAt.append (PartsAt.go kA hd hps) ?_
      rw [PartsAt]
      exact ⟨b, [], rfl, PartAt.go kB hd3 hb, by rw [PartsAt]⟩
  · have := hm.kept kB (fun e => e.elim hmo (fun e => h.pm e.symm))
    rw [openedL_append, openedL_one, nodesL_append, nodesL_one, ← Nat.add_assoc, ← Nat.add_assoc]
    exact this
  · exact h.kept.trans' kA (fun q hq e => e.elim id (fun e => e.elim (fun e => by have := hoB q e; have := h.pz; omega) (fun e => by have := h.pz; omega)))
end
end Go.Proofs.YtnhjakdmbfadlaaGreatDoor

/- awake's patterns: what the plain parser makes of them. -/
namespace Go.Proofs.YtnhjakdmbfadlaaGreatDoor
open Go.RowKit Wy

def chrA (c : Int) : Nd := .mk 2 [⟨c, c⟩] 0 0 false []
def patA (l : List UInt8) : ByteArray := ⟨l.toArray⟩
def t1A : Nd := .mk 4 [] 0 0 false [chrA 97, .mk 3 [] 0 0 false [chrA 97, chrA 98]]
def t2A : Nd := .mk 3 [] 0 0 false [.mk 6 [] 0 0 false [.mk 5 [] 0 (-1) false [chrA 97]], .mk 6 [] 0 0 false [.mk 5 [] 0 (-1) false [chrA 97]]]
def t3A : Nd := .mk 5 [] 0 (-1) true [chrA 97]
def t4A : Nd := .mk 5 [] 0 (-1) false [.mk 6 [] 0 0 false [.mk 4 [] 0 0 false [chrA 97, .mk 6 [] 0 0 false [chrA 98]]]]
def t5A : Nd := .mk 5 [] 1 (-1) false [chrA 233]
def t6A : Nd := .mk 3 [] 0 0 false [.mk 4 [] 0 0 false [chrA 97, .mk 3 [] 0 0 false [chrA 97, chrA 98]], .mk 5 [] 0 1 false [.mk 6 [] 0 0 false [.mk 4 [] 0 0 false [chrA 99, .mk 3 [] 0 0 false [chrA 98, chrA 99, chrA 100]]]], .mk 6 [] 0 0 false [.mk 5 [] 0 (-1) false [chrA 100]]]
theorem parse1A : parseM (patA [97, 124, 97, 98]) = some t1A := by kernel_rfl
theorem parse2A : parseM (patA [40, 97, 42, 41, 40, 97, 42, 41]) = some t2A := by kernel_rfl
theorem parse3A : parseM (patA [97, 42, 63]) = some t3A := by kernel_rfl
theorem parse4A : parseM (patA [40, 97, 124, 40, 98, 41, 41, 42]) = some t4A := by kernel_rfl
theorem parse5A : parseM (patA [195, 169, 43]) = some t5A := by kernel_rfl
theorem parse6A : parseM (patA [40, 63, 58, 97, 124, 97, 98, 41, 40, 99, 124, 98, 99, 100, 41, 63, 40, 100, 42, 41]) = some t6A := by kernel_rfl
theorem right1A : right t1A = true := by kernel_rfl
theorem right2A : right t2A = true := by kernel_rfl
theorem right3A : right t3A = true := by kernel_rfl
theorem right4A : right t4A = true := by kernel_rfl
theorem right5A : right t5A = true := by kernel_rfl
theorem right6A : right t6A = true := by kernel_rfl
theorem sizeA : ∀ t ∈ [t1A, t2A, t3A, t4A, t5A, t6A], opened t ≤ 30 ∧ nodes t ≤ 1000000 := by decide +kernel
end Go.Proofs.YtnhjakdmbfadlaaGreatDoor
