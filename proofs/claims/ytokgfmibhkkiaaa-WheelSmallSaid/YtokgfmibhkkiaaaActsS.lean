/- The state of a law's acts: a wheel, and the reference's beside it. -/
import Derived.Test.YtokgfmibhkkiaaaActs
namespace Go.Proofs.Ytokgfmibhkkiaaa
open Go.RowKit Wh Tw Mem Grow Flat

theorem not_foot {w : World} {pb mb : Nat} {nw : Int} {l : List Mb} (h : WheelAt w pb mb nw l) {b : Nat} {cs : Array Value} {t : TypeId} (hb : Blk w b cs t) (h1 : t ≠ 79) (h2 : t ≠ 83) : ¬ Foot pb mb l b := by
  intro hf
  unfold Blk at hb
  rcases hf with rfl | rfl | ⟨m, hm, rfl⟩
  · have := h.head
    unfold Blk at this
    rw [hb] at this
    simp at this
    exact h1 this.2
  · obtain ⟨es, clock, hm, -⟩ := h.map
    rw [hb] at hm
    cases hm
  · have := h.mem m hm
    unfold Blk at this
    rw [hb] at this
    simp at this
    exact h2 this.2
theorem row_not_foot {w : World} {pb mb : Nat} {nw : Int} {l l' : List Mb} {ob : Option Addr} {cap : Nat} (h : WheelAt w pb mb nw l) (hr : RowAt w ob cap l') : ∀ b, (Value.slice ob l'.length cap).ownBlock = some b → ¬ Foot pb mb l b := by
  intro b hb hf
  obtain ⟨cur, hc⟩ := own_blk hr hb
  exact not_foot h (show Blk w b cur 118 from hc) (by decide) (by decide) hf

/-- a wheel at pb, and the reference's in a variable at rb, alike -/
structure St (w0 w : World) (pb mb rb : Nat) (nw : Int) (l : List Mb) (ob : Option Addr) (cap : Nat) (n : Nat) : Prop where
  wh : WheelAt w pb mb nw l
  ref : Blk w rb #[.int .i64 nw, .slice ob l.length cap] 92
  row : RowAt w ob cap l
  sixty : ∀ m ∈ l, m.plan.every ≤ 60
  len : l.length ≤ n
  tick : Tick nw
  below : Below w0.heap.size w0 w
  fresh : ∀ b, Foot pb mb l b → w0.heap.size ≤ b
  rbf : w0.heap.size ≤ rb
theorem St.same {w0 w w' : World} {pb mb rb : Nat} {nw : Int} {l : List Mb} {ob : Option Addr} {cap n : Nat} (h : St w0 w pb mb rb nw l ob cap n) (hb : Below w.heap.size w w') : St w0 w' pb mb rb nw l ob cap n :=
  ⟨h.wh.below hb, h.ref.below hb h.ref.lt, h.row.below hb, h.sixty, h.len, h.tick, h.below.trans (hb.mono h.below.size), h.fresh, h.rbf⟩
/-- after the wheel's own operation: what lies beside it -/
theorem St.beside {w0 w w1 : World} {pb mb rb : Nat} {nw : Int} {l : List Mb} {ob : Option Addr} {cap n : Nat} (h : St w0 w pb mb rb nw l ob cap n) {X : Nat → Prop} (hk : Kept X w w1) (hX : ∀ b, b < w.heap.size → X b → Foot pb mb l b) :
    Blk w1 rb #[.int .i64 nw, .slice ob l.length cap] 92 ∧ RowAt w1 ob cap l ∧ Below w0.heap.size w0 w1 := by
  have hk2 := hk.mono hX
  refine ⟨h.ref.kept hk2 (not_foot h.wh h.ref (by decide) (by decide)), own_keep h.row hk2 (row_not_foot h.wh h.row), ?_⟩
  have := h.below
  exact ⟨hk.os.trans this.os, hk.tape.trans this.tape, hk.output.trans this.output, Nat.le_trans this.size hk.size, fun b hb => (hk2.block b (Nat.lt_of_lt_of_le hb this.size) (fun hf => by have := h.fresh b hf; omega)).trans (this.block b hb)⟩
theorem act_kept {w w1 : World} {pb mb : Nat} {nw : Int} {l : List Mb} (h : WheelAt w pb mb nw l) {X : Nat → Prop} (hk : Kept X w w1) (hX : ∀ b, b < w.heap.size → X b → Foot pb mb l b) {ab : Nat} {cs : Array Value} (hb : Blk w ab cs 66) : Blk w1 ab cs 66 :=
  hb.kept (hk.mono hX) (not_foot h hb (by decide) (by decide))
/-- the new state, once it is stored -/
theorem St.store {w0 w2 wx : World} {pb mb rb : Nat} {nw : Int} {l : List Mb} {ob : Option Addr} {cap n : Nat} {cs : Array Value} (hw : WheelAt w2 pb mb nw l) (hr : RowAt w2 ob cap l) (hrb : Blk w2 rb cs 92) (hk : Kept (fun b => b = rb) w2 wx)
    (hB : Blk wx rb #[.int .i64 nw, .slice ob l.length cap] 92) (h60 : ∀ m ∈ l, m.plan.every ≤ 60) (hl : l.length ≤ n) (ht : Tick nw) (hb : Below w0.heap.size w0 w2) (hf : ∀ b, Foot pb mb l b → w0.heap.size ≤ b) (hrf : w0.heap.size ≤ rb) : St w0 wx pb mb rb nw l ob cap n :=
  ⟨hw.kept hk (fun b hfb e => not_foot hw hrb (by decide) (by decide) (by rw [← e]; exact hfb)), hB, own_keep hr hk (fun b hb' e => by
    obtain ⟨cur, hc⟩ := own_blk hr hb'
    subst e
    unfold Blk at hrb
    rw [hrb] at hc
    simp at hc), h60, hl, ht, ⟨hk.os.trans hb.os, hk.tape.trans hb.tape, hk.output.trans hb.output, Nat.le_trans hb.size hk.size, fun b hlt => (hk.block b (Nat.lt_of_lt_of_le hlt hb.size) (fun e => by omega)).trans (hb.block b hlt)⟩, hf, hrf⟩
theorem sixty_setM {l : List Mb} {id : Int} {ph : Phase} (h : ∀ m ∈ l, m.plan.every ≤ 60) : ∀ m ∈ setM l id ph, m.plan.every ≤ 60 := by
  intro x hx
  obtain ⟨m, hm, rfl⟩ := mem_setM hx
  rw [(setM_blk m).2.2]
  exact h m hm
theorem wf64 {x : Int} (h : I64 x) : (Lit.int .i64 x).wf = true := WalkArith.wf_i64 (by unfold I64 at h; omega)
theorem movesAt_of_row {w : World} {base : Nat} {e : TypeId} {v : Value} {xs : List (Int × Report)} (h : w.ownsRow base e 4 v xs.length (xs.flatMap mvCells)) : MovesAt w v xs := by
  rcases slice_form h with ⟨rfl, hl, -⟩ | ⟨g, cap, rfl, -, hg⟩
  · exact .inl ⟨rfl, List.eq_nil_of_length_eq_zero hl⟩
  · refine .inr ⟨g, cap, rfl, hg, fun j hj => ?_⟩
    have key : ∀ i, i < 4 → w.cell? ⟨g, j * 4 + i, none⟩ = (mvCells xs[j])[i]? := fun i hi => by
      rw [h.cellAt _ (by omega), flat_at (n := 4) (fun _ => rfl) xs j i hj hi]
    exact ⟨key 0 (by omega), key 1 (by omega), key 2 (by omega), key 3 (by omega)⟩
theorem sixty_adv {l : List Mb} {a b : Int} (h : ∀ m ∈ l, m.plan.every ≤ 60) : ∀ m ∈ l.map (advM a b), m.plan.every ≤ 60 := by
  intro x hx
  obtain ⟨m, hm, rfl⟩ := List.mem_map.1 hx
  exact h m hm
theorem foot_adv {pb mb : Nat} {l : List Mb} {a b : Int} {k : Nat} (h : Foot pb mb (l.map (advM a b)) k) : Foot pb mb l k := by
  rcases h with h | h | ⟨x, hx, h⟩
  · exact .inl h
  · exact .inr (.inl h)
  · obtain ⟨m, hm, rfl⟩ := List.mem_map.1 hx
    exact .inr (.inr ⟨m, hm, h⟩)
theorem sixty_ins {l : List Mb} {x : Mb} (h : ∀ m ∈ l, m.plan.every ≤ 60) (hx : x.plan.every ≤ 60) : ∀ m ∈ ins x l, m.plan.every ≤ 60 := by
  intro m hm
  rcases mem_ins.1 hm with rfl | hm
  · exact hx
  · exact h m hm
theorem fresh_ins {pb mb N : Nat} {l : List Mb} {x : Mb} (h : ∀ b, Foot pb mb l b → N ≤ b) (hx : N ≤ x.blk) : ∀ b, Foot pb mb (ins x l) b → N ≤ b := by
  intro b hf
  rcases foot_ins hf with hf | rfl
  · exact h b hf
  · exact hx
theorem sixty_drop {l : List Mb} {id : Int} (h : ∀ m ∈ l, m.plan.every ≤ 60) : ∀ m ∈ dropM l id, m.plan.every ≤ 60 := fun m hm => h m (mem_dropM.1 hm).1
def acC (t : Ac) : Array Value := #[.int .u8 t.kind, .int .i64 t.id, .int .i64 t.n, .int .i64 t.plan.every, .int .i64 t.plan.offset, .int .i64 t.plan.timeout]
/-- the reference's new value, stored; the act is as it was -/
theorem stored {w0 w2 : World} {pb mb rb ab : Nat} {nw : Int} {l : List Mb} {ob : Option Addr} {cap n : Nat} {cs : Array Value} {t : Ac} {v0 v1 : Value} (hw : WheelAt w2 pb mb nw l) (hr : RowAt w2 ob cap l) (hcs : cs = #[v0, v1]) (hrb : Blk w2 rb cs 92) (h60 : ∀ m ∈ l, m.plan.every ≤ 60) (hl : l.length ≤ n) (ht : Tick nw)
    (hb : Below w0.heap.size w0 w2) (hf : ∀ b, Foot pb mb l b → w0.heap.size ≤ b) (hrf : w0.heap.size ≤ rb) (hab : Blk w2 ab (acC t) 66) :
    St w0 ((w2.setCell ⟨rb, 0, none⟩ (.int .i64 nw)).setCell ⟨rb, 1, none⟩ (.slice ob l.length cap)) pb mb rb nw l ob cap n ∧ Blk ((w2.setCell ⟨rb, 0, none⟩ (.int .i64 nw)).setCell ⟨rb, 1, none⟩ (.slice ob l.length cap)) ab (acC t) 66 := by
  subst hcs
  have hne : ab ≠ rb := hab.ne hrb (by simp [acC])
  refine ⟨St.store hw hr hrb (((Kept.refl (fun b => b = rb) w2).setCell (p := ⟨rb, 0, none⟩) (fun _ => rfl) _).setCell (p := ⟨rb, 1, none⟩) (fun _ => rfl) _) ((hrb.set 0 _).set 1 _) h60 hl ht hb hf hrf, ?_⟩
  exact (hab.setOther (p := ⟨rb, 0, none⟩) hne _).setOther (p := ⟨rb, 1, none⟩) hne _
/-- nothing has changed -/
theorem St.stored {w0 w : World} {pb mb rb ab : Nat} {nw : Int} {l : List Mb} {ob : Option Addr} {cap n m : Nat} {t : Ac} (h : St w0 w pb mb rb nw l ob cap n) (hab : Blk w ab (acC t) 66) (hm : n ≤ m) :
    St w0 ((w.setCell ⟨rb, 0, none⟩ (.int .i64 nw)).setCell ⟨rb, 1, none⟩ (.slice ob l.length cap)) pb mb rb nw l ob cap m ∧ Blk ((w.setCell ⟨rb, 0, none⟩ (.int .i64 nw)).setCell ⟨rb, 1, none⟩ (.slice ob l.length cap)) ab (acC t) 66 :=
  Go.Proofs.Ytokgfmibhkkiaaa.stored h.wh h.row rfl h.ref h.sixty (Nat.le_trans h.len hm) h.tick h.below h.fresh h.rbf hab
end Go.Proofs.Ytokgfmibhkkiaaa
