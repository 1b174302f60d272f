/- What the reference's pass does: one tick. -/
import Derived.Test.YtokgfmibhkkiaaaRefA
import Derived.Test.YtokgfmibhkkiaaaMem
import Derived.Lib.Hide
namespace Go.Proofs.Ytokgfmibhkkiaaa
open Go.RowKit Wh Tw Mem

def aggP (p : Plan) : Value := .agg #[.int .i64 p.every, .int .i64 p.offset, .int .i64 p.timeout]
def aggS (s : Phase) : Value := .agg #[.int .u8 s.state, .int .i64 s.since]
def aggQ (r : Report) : Value := .agg #[.int .i64 r.begun, .int .i64 r.failed, .int .i64 r.skipped]

theorem five_blks {W w1 : World} {p s r z1 z2 : Array Value} {t0 t1 t2 t3 t4 : TypeId}
    (hb : Below (((((W.alloc (.cells p t0)).alloc (.cells s t1)).alloc (.cells r t2)).alloc (.cells z1 t3)).alloc (.cells z2 t4)).heap.size (((((W.alloc (.cells p t0)).alloc (.cells s t1)).alloc (.cells r t2)).alloc (.cells z1 t3)).alloc (.cells z2 t4)) w1) :
    Blk w1 (W.heap.size + 1) s t1 ∧ Blk w1 (W.heap.size + 1 + 1) r t2 ∧ Blk w1 (W.heap.size + 1 + 1 + 1) z1 t3 ∧ Blk w1 (W.heap.size + 1 + 1 + 1 + 1) z2 t4 ∧ Below W.heap.size W w1 ∧ W.heap.size + 4 < w1.heap.size := by
  have hz := hb.size
  simp only [World.size_alloc] at hz
  refine ⟨((((Blk.new' (w := W.alloc _) s t1 (by simp)).alloc _).alloc _).alloc _).below hb (by simp), (((Blk.new' (w := (W.alloc _).alloc _) r t2 (by simp)).alloc _).alloc _).below hb (by simp), ((Blk.new' (w := ((W.alloc _).alloc _).alloc _) z1 t3 (by simp)).alloc _).below hb (by simp),
    (Blk.new' (w := (((W.alloc _).alloc _).alloc _).alloc _) z2 t4 (by simp)).below hb (by simp), ?_, by omega⟩
  exact ((((((Below.refl W.heap.size W).alloc (Nat.le_refl _) _).alloc (by simp) _).alloc (by simp; omega) _).alloc (by simp; omega) _).alloc (by simp; omega) _).trans (hb.mono (by simp; omega))
set_option maxHeartbeats 1000000 in
set_option maxRecDepth 100000 in
theorem pass_case (y o l st si b f k t : Int) (h : Right ⟨y, o, l⟩) (ht : Tick t) (hs0 : 0 ≤ si) (hs1 : si ≤ 281474976710656) (hk0 : 0 ≤ k) (hk1 : k ≤ 1152921504606846976) (W : World) :
    Calls Try.prog 67 #[.agg #[.int .i64 y, .int .i64 o, .int .i64 l], .agg #[.int .u8 st, .int .i64 si], .agg #[.int .i64 b, .int .i64 f, .int .i64 k], .int .i64 t] W fun e w' =>
      e = .returned (.tuple #[aggS (passP ⟨y, o, l⟩ ⟨st, si⟩ ⟨b, f, k⟩ t).1, aggQ (passP ⟨y, o, l⟩ ⟨st, si⟩ ⟨b, f, k⟩ t).2]) ∧ Below W.heap.size W w' := by
  have l1 : 1 ≤ l := h.2.2.1
  have l2 : l ≤ 1099511627776 := by have := h.2.2.2; have := h.1.2; dsimp only at *; omega
  have t0 := ht.1
  have t1 := ht.2
  obtain ⟨d, hd⟩ : ∃ d, decide (IsDue ⟨y, o, l⟩ t) = d := ⟨_, rfl⟩
  have HIS := Lib.hid (ris_is y o l t h ht hd)
  clear h ht
  have body : ∀ (v1 : Phase) (v2 : Report), passP ⟨y, o, l⟩ ⟨st, si⟩ ⟨b, f, k⟩ t = (v1, v2) → ((d = true ∧ st = 1 ∧ t = si + l ∧ v1 = ⟨2, si⟩ ∧ v2 = ⟨b, si, k + 1⟩) ∨ (d = true ∧ st = 1 ∧ t ≠ si + l ∧ v1 = ⟨1, si⟩ ∧ v2 = ⟨b, f, k + 1⟩) ∨
      (d = true ∧ st = 0 ∧ v1 = ⟨1, t⟩ ∧ v2 = ⟨t, f, k⟩) ∨ (d = true ∧ st ≠ 1 ∧ st ≠ 0 ∧ v1 = ⟨st, si⟩ ∧ v2 = ⟨b, f, k + 1⟩) ∨ (d = false ∧ st = 1 ∧ t = si + l ∧ v1 = ⟨2, si⟩ ∧ v2 = ⟨b, si, k⟩) ∨
      (d = false ∧ st = 1 ∧ t ≠ si + l ∧ v1 = ⟨1, si⟩ ∧ v2 = ⟨b, f, k⟩) ∨ (d = false ∧ st ≠ 1 ∧ v1 = ⟨st, si⟩ ∧ v2 = ⟨b, f, k⟩)) →
      Calls Try.prog 67 #[.agg #[.int .i64 y, .int .i64 o, .int .i64 l], .agg #[.int .u8 st, .int .i64 si], .agg #[.int .i64 b, .int .i64 f, .int .i64 k], .int .i64 t] W fun e w' => e = .returned (.tuple #[aggS v1, aggQ v2]) ∧ Below W.heap.size W w' := by
    intro v1 v2 hv hc
    clear hv hd
    rcases hc with ⟨rfl, rfl, rfl, rfl, rfl⟩ | ⟨rfl, rfl, hne, rfl, rfl⟩ | ⟨rfl, rfl, rfl, rfl⟩ | ⟨rfl, hne, hn0, rfl, rfl⟩ | ⟨rfl, rfl, rfl, rfl, rfl⟩ | ⟨rfl, rfl, hne, rfl, rfl⟩ | ⟨rfl, hne, rfl, rfl⟩
    all_goals
      go_enter Try.func67, Try.ntmps67
      go_wp2_with fail
      refine (HIS.out _).mono ?_
      rintro e w1 ⟨rfl, hb⟩
      obtain ⟨B5, B6, B8, B9, hbw, hsz⟩ := five_blks hb
      obtain ⟨c50, c51, f50, f51⟩ := B5.two
      obtain ⟨c60, c61, c62, f60, f61, f62⟩ := B6.three
      obtain ⟨c80, c81, f80, f81⟩ := B8.two
      obtain ⟨c90, c91, c92, f90, f91, f92⟩ := B9.three
      clear hb B5 B6 B8 B9
      go_wp2_with fail
      go_region
      all_goals
        go_wp2
        refine bodyPost_ret ?_ rfl ⟨rfl, ?_⟩
        · simp [results, Try.results67, go_sem, aggS, aggQ, *]
        · go_grown
  have nf : ¬ (st = 1 ∧ t = si + l) → failP ⟨y, o, l⟩ ⟨st, si⟩ ⟨b, f, k⟩ t = (⟨st, si⟩, ⟨b, f, k⟩) := fun g => Tw.fail_no g
  by_cases hdd : IsDue ⟨y, o, l⟩ t
  · have hdt : d = true := by rw [← hd]; exact decide_eq_true hdd
    by_cases hf : st = 1 ∧ t = si + l
    · have hv := pass_skip (p := ⟨y, o, l⟩) (s := ⟨st, si⟩) (r := ⟨b, f, k⟩) (Tw.fail_yes hf) hdd (by show ¬ (2 : Int) = 0; omega)
      rw [hv]
      exact body _ _ hv (.inl ⟨hdt, hf.1, hf.2, rfl, rfl⟩)
    · by_cases h0 : st = 0
      · have hv := pass_begin (nf hf) hdd h0
        rw [hv]
        exact body _ _ hv (.inr (.inr (.inl ⟨hdt, h0, rfl, rfl⟩)))
      · have hv := pass_skip (nf hf) hdd h0
        rw [hv]
        by_cases h1 : st = 1
        · exact body _ _ hv (.inr (.inl ⟨hdt, h1, fun e => hf ⟨h1, e⟩, by rw [h1], rfl⟩))
        · exact body _ _ hv (.inr (.inr (.inr (.inl ⟨hdt, h1, h0, rfl, rfl⟩))))
  · have hdf : d = false := by rw [← hd]; exact decide_eq_false hdd
    by_cases hf : st = 1 ∧ t = si + l
    · have hv := pass_no (p := ⟨y, o, l⟩) (s := ⟨st, si⟩) (r := ⟨b, f, k⟩) (Tw.fail_yes hf) hdd
      rw [hv]
      exact body _ _ hv (.inr (.inr (.inr (.inr (.inl ⟨hdf, hf.1, hf.2, rfl, rfl⟩)))))
    · have hv := pass_no (nf hf) hdd
      rw [hv]
      by_cases h1 : st = 1
      · exact body _ _ hv (.inr (.inr (.inr (.inr (.inr (.inl ⟨hdf, h1, fun e => hf ⟨h1, e⟩, by rw [h1], rfl⟩))))))
      · exact body _ _ hv (.inr (.inr (.inr (.inr (.inr (.inr ⟨hdf, h1, rfl, rfl⟩))))))
/-- pass, one tick. -/
theorem rpass_any (p : Plan) (s : Phase) (r : Report) (t : Int) (h : Right p) (ht : Tick t) (hs0 : 0 ≤ s.since) (hs1 : s.since ≤ 281474976710656) (hk0 : 0 ≤ r.skipped) (hk1 : r.skipped ≤ 1152921504606846976) (W : World) :
    Calls Try.prog 67 #[aggP p, aggS s, aggQ r, .int .i64 t] W fun e w' => e = .returned (.tuple #[aggS (passP p s r t).1, aggQ (passP p s r t).2]) ∧ Below W.heap.size W w' :=
  pass_case p.every p.offset p.timeout s.state s.since r.begun r.failed r.skipped t h ht hs0 hs1 hk0 hk1 W
end Go.Proofs.Ytokgfmibhkkiaaa
