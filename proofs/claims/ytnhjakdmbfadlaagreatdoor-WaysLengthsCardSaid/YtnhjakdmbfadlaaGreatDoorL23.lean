/- Parts of the proof: RdP. Conditions: none. -/
import Derived.Test.YtnhjakdmbfadlaaGreatDoorL21
import Derived.Deep.DeepCutAuto
set_option linter.all false
/- The reader: a node is put onto the items of the uppermost that is open. -/
namespace Go.Proofs.YtnhjakdmbfadlaaGreatDoor
open Go.RowKit Wy Mem Grow

/-- what holds in the midst of it: s7 .. s13: which operations have run -/
def rdP (B : Nat) (W : World) (v : Value) (m : Nat) (bs : List Value) (sv iv : Value) (gr : Bool) (n : Nat) (cs zs : List Value) (s7 s8 s9 s10 s13 : Bool) (u8 u9 : Value) (w' : World) : Prop :=
  (s8 = false → w' = if s7 then W.drew.alloc (.cells zero6.toArray 70) else W.drew) ∧
  (s8 = true → ∃ g c, u8 = .slice (some ⟨g, 0, none⟩) (n + 1) c ∧ (s9 = true → u9 = .pointer (some ⟨g, n * 6, none⟩)) ∧ (iv.ownBlock = some g ∨ W.heap.size ≤ g) ∧ g ≠ v.ownBlock.getD 0 ∧
    w'.ownsRow B 70 6 (.slice (some ⟨g, 0, none⟩) (n + 1) c) (n + 1) (cs ++ if s10 then zs else zero6) ∧ w'.ownsRow B 155 3 v (m + 1) (bs ++ [sv, if s13 then .slice (some ⟨g, 0, none⟩) (n + 1) c else iv, .bool gr]) ∧ Kept (fun b => iv.ownBlock = some b ∨ v.ownBlock = some b) W w')
theorem rdP_below {B : Nat} {W : World} {g0 c0 m : Nat} {bs : List Value} {sv iv : Value} {gr : Bool} {n : Nat} {cs zs : List Value} {s7 s8 s9 s10 s13 : Bool} {u8 u9 : Value} {w' : World} (h : rdP B W (.slice (some ⟨g0, 0, none⟩) (m + 1) c0) m bs sv iv gr n cs zs s7 s8 s9 s10 s13 u8 u9 w') (h8 : s8 = false) : Below W.heap.size W w' := by
  rw [h.1 h8]
  split
  · exact (Below.refl _ _).drew.alloc (Nat.le_refl _) _
  · exact (Below.refl _ _).drew
theorem rdP_app {B : Nat} {W : World} {g0 c0 m : Nat} {bs : List Value} {sv iv : Value} {gr : Bool} {n : Nat} {cs zs : List Value} {s7 s9 s10 s13 : Bool} {u9 : Value} {w' : World} {v' : Value} (h9 : s9 = false) (h10 : s10 = false) (h13 : s13 = false) (hrow : W.ownsRow B 155 3 (.slice (some ⟨g0, 0, none⟩) (m + 1) c0) (m + 1) (bs ++ [sv, iv, .bool gr])) (hne : iv.ownBlock ≠ some g0)
    (h1 : w'.ownsRow B 70 6 v' (n + 1) (cs ++ zero6)) (h2 : (W.drew.alloc (.cells zero6.toArray 70)).grownBy w' iv.ownBlock) (h3 : v'.ownBlock = iv.ownBlock ∨ v'.ownBlock = some (W.drew.alloc (.cells zero6.toArray 70)).heap.size) : rdP B W (.slice (some ⟨g0, 0, none⟩) (m + 1) c0) m bs sv iv gr n cs zs s7 true s9 s10 s13 v' u9 w' := by
  have h1' := h1
  rcases h1.2 with ⟨_, h0⟩ | ⟨g, c, cur, rfl, -⟩
  · omega
  have hz : (W.drew.alloc (.cells zero6.toArray 70)).heap.size = W.heap.size + 1 := by simp
  have hg0 : g0 < W.heap.size := (hrow.lt g0 rfl).2
  have k1 : Kept (fun b => iv.ownBlock = some b) W w' := ((Kept.refl _ W).drew.alloc _).trans (grownK h2)
  subst h9 h10 h13
  refine ⟨fun e => (by cases e), fun _ => ⟨g, c, rfl, fun e => (by cases e), ?_, ?_, h1', ownGo hrow k1 (fun b hb e => hne (by rw [e]; exact hb.symm)), k1.mono (fun _ _ h => .inl h)⟩⟩
  · rcases h3 with h3 | h3
    · exact .inl h3.symm
    · rw [hz] at h3; simp only [Value.ownBlock, Option.some.injEq] at h3; exact .inr (by omega)
  · show g ≠ g0
    intro e
    subst e
    rcases h3 with h3 | h3
    · exact hne h3.symm
    · rw [hz] at h3; simp only [Value.ownBlock, Option.some.injEq] at h3; omega
theorem rdP_ix {B : Nat} {W : World} {g0 c0 m : Nat} {bs : List Value} {sv iv : Value} {gr : Bool} {n : Nat} {cs zs : List Value} {s7 s9 s10 s13 : Bool} {u8 u9 : Value} {w' : World} {g c : Nat} (h : rdP B W (.slice (some ⟨g0, 0, none⟩) (m + 1) c0) m bs sv iv gr n cs zs s7 true s9 s10 s13 u8 u9 w') (hu : u8 = .slice (some ⟨g, 0, none⟩) (n + 1) c) : rdP B W (.slice (some ⟨g0, 0, none⟩) (m + 1) c0) m bs sv iv gr n cs zs s7 true true s10 s13 u8 (.pointer (some ⟨g, n * 6, none⟩)) w' := by
  obtain ⟨g', c', e, -, h3, h4, h5, h6, h7⟩ := h.2 rfl
  rw [hu] at e
  simp only [Value.slice.injEq, Option.some.injEq, Addr.mk.injEq, and_true, true_and] at e
  obtain ⟨rfl, rfl⟩ := e
  exact ⟨fun e => (by cases e), fun _ => ⟨g, c, hu, fun _ => rfl, h3, h4, h5, h6, h7⟩⟩
theorem rdP_st {k lo hi : Int} {lz : Bool} {o1 o2 : Option Addr} {n1 c1 n2 c2 : Nat} {B : Nat} {W : World} {g0 c0 m : Nat} {bs : List Value} {sv iv : Value} {gr : Bool} {n : Nat} {cs : List Value} {s7 s9 s13 : Bool} {u8 u9 : Value} {w' : World} {g c : Nat} (hcl : cs.length = n * 6)
    (h : rdP B W (.slice (some ⟨g0, 0, none⟩) (m + 1) c0) m bs sv iv gr n cs [.int .u8 k, .slice o1 n1 c1, .int .i64 lo, .int .i64 hi, .bool lz, .slice o2 n2 c2] s7 true s9 false s13 u8 u9 w') (hu : u8 = .slice (some ⟨g, 0, none⟩) (n + 1) c) :
    rdP B W (.slice (some ⟨g0, 0, none⟩) (m + 1) c0) m bs sv iv gr n cs [.int .u8 k, .slice o1 n1 c1, .int .i64 lo, .int .i64 hi, .bool lz, .slice o2 n2 c2] s7 true s9 true s13 u8 u9 ((((((w'.setCell ⟨g, n * 6, none⟩ (.int .u8 k)).setCell ⟨g, n * 6 + 1, none⟩ (.slice o1 n1 c1)).setCell ⟨g, n * 6 + 2, none⟩ (.int .i64 lo)).setCell ⟨g, n * 6 + 3, none⟩ (.int .i64 hi)).setCell ⟨g, n * 6 + 4, none⟩ (.bool lz)).setCell ⟨g, n * 6 + 5, none⟩ (.slice o2 n2 c2)) := by
  obtain ⟨g', c', e, h2, h3, h4, h5, h6, h7⟩ := h.2 rfl
  rw [hu] at e
  simp only [Value.slice.injEq, Option.some.injEq, Addr.mk.injEq, and_true, true_and] at e
  obtain ⟨rfl, rfl⟩ := e
  refine ⟨fun e => (by cases e), fun _ => ⟨g, c, hu, h2, h3, h4, ?_, ?_, ?_⟩⟩
  · exact set6rowR h5 hcl _ _ _ _ _ _
  · have k : Kept (fun b => b = g) w' _ := set6keptR (g := g) (Kept.refl (fun b => b = g) w') (fun _ => rfl) (.int .u8 k) (.slice o1 n1 c1) (.int .i64 lo) (.int .i64 hi) (.bool lz) (.slice o2 n2 c2) (m := n)
    exact ownGo h6 k (fun b hb e => h4 (by rw [← e]; rw [hb]; rfl))
  · exact set6keptR h7 (fun hg => (h3.resolve_right (by omega)) |> .inl) _ _ _ _ _ _
theorem rdP_put {B : Nat} {W : World} {g0 c0 m : Nat} {bs : List Value} {sv iv : Value} {gr : Bool} {n : Nat} {cs zs : List Value} {s7 s9 s10 : Bool} {u8 u9 : Value} {w' : World} {g c : Nat} (hbl : bs.length = m * 3) (h : rdP B W (.slice (some ⟨g0, 0, none⟩) (m + 1) c0) m bs sv iv gr n cs zs s7 true s9 s10 false u8 u9 w') (hu : u8 = .slice (some ⟨g, 0, none⟩) (n + 1) c) : rdP B W (.slice (some ⟨g0, 0, none⟩) (m + 1) c0) m bs sv iv gr n cs zs s7 true s9 s10 true u8 u9 (w'.setCell ⟨g0, m * 3 + 1, none⟩ (.slice (some ⟨g, 0, none⟩) (n + 1) c)) := by
  obtain ⟨g', c', e, h2, h3, h4, h5, h6, h7⟩ := h.2 rfl
  rw [hu] at e
  simp only [Value.slice.injEq, Option.some.injEq, Addr.mk.injEq, and_true, true_and] at e
  obtain ⟨rfl, rfl⟩ := e
  refine ⟨fun e => (by cases e), fun _ => ⟨g, c, hu, h2, h3, h4, ?_, (set3row h6 hbl _).2, h7.setCell (p := ⟨g0, m * 3 + 1, none⟩) (fun _ => .inr rfl) _⟩⟩
  exact ownGo h5 ((Kept.refl (fun b => b = g0) w').setCell (p := ⟨g0, m * 3 + 1, none⟩) (fun _ => rfl) _) (fun b hb e => h4 (by simp only [Value.ownBlock, Option.some.injEq] at hb; rw [hb, e]; rfl))
theorem rdP_fin {B : Nat} {W w' : World} {g0 c0 m : Nat} {pre : List Wy.Op} {ys : List OpV} {o : Wy.Op} {sv iv : Value} {t : Nd} {cs zs : List Value} {s7 s9 : Bool} {u8 u9 : Value} {n : Nat}
    (hst : StkAt 155 70 B W (.slice (some ⟨g0, 0, none⟩) (m + 1) c0) (pre ++ [o]) (ys ++ [⟨sv, iv⟩])) (hm : pre.length = m) (hn : n = o.items.length) (hB : B ≤ W.heap.size) (hnds : NdsAt (freeN B (.slice (some ⟨g0, 0, none⟩) (m + 1) c0) (ys ++ [⟨sv, iv⟩])) W o.items cs)
    (hnd : NdAt (freeN B (.slice (some ⟨g0, 0, none⟩) (m + 1) c0) (ys ++ [⟨sv, iv⟩])) W t zs)
    (h : rdP B W (.slice (some ⟨g0, 0, none⟩) (m + 1) c0) m (opCs pre ys) sv iv o.group n cs zs s7 true s9 true true u8 u9 w') :
    ∃ xs, StkAt 155 70 B w' (.slice (some ⟨g0, 0, none⟩) (m + 1) c0) (pre ++ [{ o with items := o.items ++ [t] }]) xs ∧ Below B W w' := by
  obtain ⟨g, c, -, -, h3, h4, h5, h6, h7⟩ := h.2 rfl
  simp only [if_true] at h5 h6
  have hlast := hst.last
  have hlt := hst.lt
  have hown : ∀ b, iv.ownBlock = some b → b ∈ ownL (ys ++ [(⟨sv, iv⟩ : OpV)]) := fun b hb => by rw [ownL_append, ownL_one]; exact List.mem_append.2 (.inr (List.mem_append.2 (.inr (mem_ownO.2 hb))))
  have hnd2 : (⟨sv, iv⟩ : OpV).own.Nodup := by
    have := hst.nodup
    rw [ownL_append, ownL_one, List.nodup_append] at this
    exact this.2.1
  have hsi : ∀ b, sv.ownBlock = some b → iv.ownBlock ≠ some b := fun b hb hi => by
    unfold OpV.own at hnd2
    rw [List.nodup_append] at hnd2
    exact hnd2.2.2 b (mem_ownO.2 hb) b (mem_ownO.2 hi) rfl
  have hsg : ∀ b, sv.ownBlock = some b → b ≠ g := fun b hb e => by
    subst e
    rcases h3 with h3 | h3
    · exact hsi b hb h3
    · have := (hlast.1.lt b hb).2; omega
  have hd : ∀ b, b < W.heap.size → freeN B (.slice (some ⟨g0, 0, none⟩) (m + 1) c0) (ys ++ [⟨sv, iv⟩]) b → ¬ (iv.ownBlock = some b ∨ (Value.slice (some ⟨g0, 0, none⟩) (m + 1) c0).ownBlock = some b) ∧ freeN B (.slice (some ⟨g0, 0, none⟩) (m + 1) c0) (ys ++ [⟨sv, .slice (some ⟨g, 0, none⟩) (n + 1) c⟩]) b := by
    intro b hb hf
    obtain ⟨f0, f1, f2⟩ := hf
    refine ⟨fun e => e.elim (fun e => f2 (hown b e)) f1, f0, f1, fun e => f2 ?_⟩
    rw [ownL_append, ownL_one] at e ⊢
    rcases List.mem_append.1 e with e | e
    · exact List.mem_append.2 (.inl e)
    · refine List.mem_append.2 (.inr ?_)
      rcases List.mem_append.1 e with e | e
      · exact List.mem_append.2 (.inl e)
      · have e' : g = b := by simpa [Value.ownBlock] using mem_ownO.1 e
        subst e'
        rcases h3 with h3 | h3
        · exact List.mem_append.2 (.inr (mem_ownO.2 h3))
        · omega
  refine ⟨ys ++ [⟨sv, .slice (some ⟨g, 0, none⟩) (n + 1) c⟩], hst.top (x' := ⟨sv, .slice (some ⟨g, 0, none⟩) (n + 1) c⟩) h7 (fun b _ hb => ?_) (by rw [hm]; exact h6) (fun b hb => ?_) ?_ ?_ ?_, h7.belowOf hB (fun b hb e => ?_)⟩
  · rcases hb with hb | hb
    · exact .inl (List.mem_append.2 (.inr (mem_ownO.2 hb)))
    · exact .inr hb
  · rcases List.mem_append.1 hb with hb | hb
    · exact .inl (List.mem_append.2 (.inl hb))
    · have e' : g = b := by simpa [Value.ownBlock] using mem_ownO.1 hb
      subst e'
      rcases h3 with h3 | h3
      · exact .inl (List.mem_append.2 (.inr (mem_ownO.2 h3)))
      · exact .inr h3
  · unfold OpV.own
    rw [List.nodup_append]
    refine ⟨?_, ?_, fun a ha b hb e => ?_⟩
    · unfold ownO; split <;> simp
    · unfold ownO; split <;> simp
    · have e' : g = b := by simpa [Value.ownBlock] using mem_ownO.1 hb
      exact hsg a (mem_ownO.1 ha) (by rw [e, e'])
  · refine hlast.1.go h7 (fun b hb e => ?_) hd
    rcases e with e | e
    · exact hsi b hb e
    · exact (hst.lastN b (List.mem_append.2 (.inl (mem_ownO.2 hb)))).2 e
  · refine ⟨cs ++ zs, ?_, NdsAt.append (NdsAt.go h7 hd hnds) (NdsAt.one (NdAt.go h7 hd hnd))⟩
    rw [List.length_append, List.length_singleton, ← hn]
    exact h5
  · rcases e with e | e
    · have := (hlt b (hown b e)).1; omega
    · have := (hst.row.lt b e).1; omega
set_option maxHeartbeats 8000000 in
set_option maxRecDepth 100000 in
theorem rd_put {B rb i g0 c0 m q : Nat} {s : ByteArray} {W : World} {pre : List Wy.Op} {ys : List OpV} {o : Wy.Op} {x : OpV} {t : Nd} {k lo hi : Int} {lz : Bool} {o1 o2 : Option Addr} {n1 c1 n2 c2 : Nat} {J : Act → World → Prop} {Q : Exit → Act → World → Prop} (e : Nat → Value)
    (hst : StkAt 155 70 B W (.slice (some ⟨g0, 0, none⟩) (m + 1) c0) (pre ++ [o]) (ys ++ [x])) (hm : pre.length = m) (hml : m ≤ 1000000)
    (hq : Blk W q #[.int .u8 k, .slice o1 n1 c1, .int .i64 lo, .int .i64 hi, .bool lz, .slice o2 n2 c2] 70)
    (hnd : NdAt (freeN B (.slice (some ⟨g0, 0, none⟩) (m + 1) c0) (ys ++ [x])) W t [.int .u8 k, .slice o1 n1 c1, .int .i64 lo, .int .i64 hi, .bool lz, .slice o2 n2 c2])
    (hB : B ≤ W.heap.size) (hil : o.items.length ≤ 1000000)
    (hJ : ∀ a' w', RdNext B rb s i (pre ++ [{ o with items := o.items ++ [t] }]) W a' w' → J a' w') :
    Code.wp Tryz.prog (rdC [1, 1, 1, 0, 0, 0, 1, 0, 1, 1, 1, 1, 1, 1]) (Exit.then J Q) ⟨#[.string s, e 1, .pointer (some ⟨rb, 0, none⟩), e 3, .slice (some ⟨g0, 0, none⟩) (m + 1) c0, .int .i64 i, .int .i64 m, .pointer (some ⟨q, 0, none⟩), e 8, e 9, e 10, e 11, e 12, e 13, e 14, e 15, e 16, e 17, e 18, e 19, e 20, e 21, e 22, e 23, e 24, e 25, e 26, e 27, e 28, e 29, e 30, e 31, e 32, e 33, e 34, e 35, e 36, e 37, e 38, e 39, e 40, e 41, e 42, e 43, e 44, e 45, e 46, e 47, e 48, e 49, e 50, e 51, e 52, e 53, e 54, e 55, e 56, e 57, e 58, e 59, e 60, e 61, e 62, e 63, e 64, e 65, e 66, e 67, e 68, e 69, e 70, e 71, e 72, e 73, e 74, e 75, e 76, e 77, e 78, e 79, e 80, e 81, e 82, e 83, e 84, e 85, e 86, e 87, e 88, e 89, e 90, e 91, e 92, e 93, e 94, e 95, e 96, e 97, e 98, e 99, e 100, e 101, e 102, e 103, e 104, e 105, e 106, e 107, e 108, e 109, e 110, e 111, e 112, e 113, e 114, e 115, e 116, e 117, e 118, e 119, e 120, e 121, e 122, e 123, e 124, e 125, e 126, e 127, e 128, e 129, e 130, e 131, e 132, e 133, e 134, e 135, e 136, e 137, e 138, e 139, e 140, e 141, e 142, e 143, e 144, e 145, e 146, e 147, e 148, e 149, e 150, e 151, e 152, e 153, e 154, e 155, e 156, e 157, e 158, e 159, e 160, e 161, e 162, e 163, e 164, e 165, e 166, e 167, e 168, e 169, e 170, e 171, e 172, e 173, e 174, e 175, e 176], []⟩ W := by
  have hlast := hst.last
  have hlow := hst.low
  obtain ⟨sv, iv⟩ := x
  obtain ⟨cs, hown, hnds⟩ := hlast.2
  obtain ⟨gi, ci, hiv⟩ := hlast.2.slice
  simp only at hiv hown
  subst hiv
  have hrow := hst.row
  rw [opCs_append _ _ _ _ hlow, List.length_append, List.length_singleton, hm] at hrow
  have hbs : (opCs pre ys).length = m * 3 := by rw [opCs_len pre ys hlow, hm]
  have hne : (Value.slice gi o.items.length ci).ownBlock ≠ some g0 := fun e => (hst.lastN g0 (List.mem_append.2 (.inr (mem_ownO.2 e)))).2 rfl
  obtain ⟨i0, hi0, hz0, hz1, hz2⟩ := info_parts info90
  obtain ⟨n, hn⟩ : ∃ n, n = o.items.length := ⟨_, rfl⟩
  rw [← hn] at hown hil hne hst hnd hnds hrow
  have hrow' : W.ownsRow B 155 3 (.slice (some ⟨g0, 0, none⟩) (m + 1) c0) (m + 1) (opCs pre ys ++ [sv, .slice gi n ci, .bool o.group]) := hrow
  have htop := last3 hrow' hbs
  have hcl : cs.length = n * 6 := hown.1
  have hm1 : (m : Int) < (m : Int) + 1 := by omega
  have hn1 : (n : Int) < (n : Int) + 1 := by omega
  have hmI : (m : Int) ≤ 1000000 := by omega
  have hnI : (n : Int) ≤ 1000000 := by omega
  have HTOP := Lib.hid htop
  have HQ := Lib.hid hq
  have HOWN := Lib.hid hown
  have HROW := Lib.hid hrow'
  have HBS := Lib.hid hbs
  have HCL := Lib.hid hcl
  have HNE := Lib.hid hne
  have HFIN := Lib.hid (fun s7 s9 u8 u9 w' => rdP_fin (zs := [.int .u8 k, .slice o1 n1 c1, .int .i64 lo, .int .i64 hi, .bool lz, .slice o2 n2 c2]) (s7 := s7) (s9 := s9) (u8 := u8) (u9 := u9) (w' := w') hst hm hn hB hnds hnd)
  have HJ := Lib.hid hJ
  have HB := Lib.hid hB
  clear hlast hlow hrow hrow' hbs htop hown hst hnds hnd hq hn hm hcl hJ hB hne
  conv => arg 2; whnf
  apply wp_flowX ?hm ?hok [some _, some _, some _, some _, some _, some _, some _, some _, none, none, some undef, some _, some _, some undef] (fun S u w' => rdP B W (.slice (some ⟨g0, 0, none⟩) (m + 1) c0) m (opCs pre ys) sv (.slice gi n ci) o.group n cs [.int .u8 k, .slice o1 n1 c1, .int .i64 lo, .int .i64 hi, .bool lz, .slice o2 n2 c2] (S 7) (S 8) (S 9) (S 10) (S 13) (u 8) (u 9) w') ?hw ?h
  case hm => rfl
  case hok => kernel_rfl
  case hw => exact ⟨fun _ => rfl, fun e => by cases e⟩
  case h =>
    intro u
    iterate 7
      apply flowX_read rfl
      case hs => exact fun _ _ _ h => h
      case h =>
        intro S w hS hW K hK
        have hb := rdP_below hW (hS.last 8 (by kernel_rfl)); have t := HTOP.out; have t1 := ((bcell hb).1 _ _ t.2.2.2.2).trans t.2.1; have tz : g0 < w.heap.size := Nat.lt_of_lt_of_le t.2.2.2.2 hb.size; have B := HQ.out.below hb HQ.out.lt; have b0 := B.cell 0; have b1 := B.cell 1; have b2 := B.cell 2; have b3 := B.cell 3; have b4 := B.cell 4; have b5 := B.cell 5; have bz := B.lt; clear B t hb hW hS
        go_wp2_with fail
        exact hK
      case' k => simp only [Act.put, List.setIfInBounds_toArray, List.set_cons_zero, List.set_cons_succ, Nat.reduceAdd]
    -- the zero node
    apply flowX_yes rfl
    case h =>
      intro S w hS hW K hK
      have h7 := hS.new
      have h8 := hS.last 8 (by kernel_rfl)
      have hw := hW.1 h8
      simp only [h7, Bool.false_eq_true, if_false] at hw
      subst hw
      have hK' := hK _ ⟨fun _ => rfl, fun e => Bool.noConfusion (h8.symm.trans e)⟩
      have HK := Lib.hid hK'
      clear hS hW hK hK' h7 h8
      go_wp2_with fail
      exact HK.out
    case' k => simp only [Act.put, List.setIfInBounds_toArray, List.set_cons_zero, List.set_cons_succ, Nat.reduceAdd]
    -- append
    apply flowX_open rfl
    case h =>
      intro S w hS hW K hK
      have h7 := hS.deps 7 (by kernel_rfl)
      have h8 := hS.new
      have hw := hW.1 h8
      simp only [h7, if_true] at hw
      subst hw
      refine wp_append_row _ _ 68 rfl Tryz.underlying68 hi0 hz0 hz1 hz2 rfl (.slice gi n ci) n cs rfl (ownGo HOWN.out ((Kept.refl (fun _ => False) W).drew.alloc _) (fun _ _ => id)) _ 1 zero6 rfl (srcN (by simp)) rfl (by simp [zero6, Value.oneCell']) (by unfold maxLen; omega) (by omega) (by have := HB.out; simp; omega) ?_
      intro v' w' h1 h2 h3 h4
      exact hK _ _ (rdP_app (hS.last 9 (by kernel_rfl)) (hS.last 10 (by kernel_rfl)) (hS.last 13 (by kernel_rfl)) HROW.out HNE.out h1 h2 h3)
    case' k => simp only [Act.put, List.setIfInBounds_toArray, List.set_cons_zero, List.set_cons_succ, Nat.reduceAdd]
    -- its place
    apply flowX_open rfl
    case h =>
      intro S w hS hW K hK
      have h8 := hS.deps 8 (by kernel_rfl)
      simp only [h8] at hW
      obtain ⟨g, c, hu, -⟩ := hW.2 rfl
      have hK' := hK _ _ (by show rdP _ _ _ _ _ _ _ _ _ _ _ (S 7) (S 8) true (S 10) (S 13) (u 8) _ w; rw [h8]; exact rdP_ix hW hu)
      rw [hu] at hK' ⊢
      have HK := Lib.hid hK'
      clear hS hW hK hK' h8 hu
      go_wp2_with fail
      exact HK.out
    case' k => simp only [Act.put, List.setIfInBounds_toArray, List.set_cons_zero, List.set_cons_succ, Nat.reduceAdd]
    -- the node is stored
    apply flowX_yes rfl
    case h =>
      intro S w hS hW K hK
      have h8 := hS.deps 8 (by kernel_rfl)
      have h9 := hS.deps 9 (by kernel_rfl)
      have h10 := hS.new
      simp only [h8, h9, h10] at hW
      obtain ⟨g, c, hu, hu9, -, -, hrow, -, -⟩ := hW.2 rfl
      have hu9 := hu9 rfl
      simp only [Bool.false_eq_true, if_false] at hrow
      obtain ⟨r0, r1, r2, r3, r4, r5, rf, rz⟩ := last6 hrow HCL.out
      have hK' := hK _ (by show rdP _ _ _ _ _ _ _ _ _ _ _ (S 7) (S 8) (S 9) true (S 13) (u 8) (u 9) _; rw [h8, h9]; exact rdP_st HCL.out hW hu)
      rw [hu9]
      rw [hu9] at hK'
      have HK := Lib.hid hK'
      clear hS hW hK hK' h8 h9 h10 hu hu9 hrow
      go_wp2_with fail
      exact HK.out
    case' k => simp only [Act.put, List.setIfInBounds_toArray, List.set_cons_zero, List.set_cons_succ, Nat.reduceAdd]
    iterate 2
      apply flowX_read rfl
      case hs => exact fun _ _ _ h => h
      case h =>
        intro S w hS hW K hK
        clear hS hW
        go_wp2_with fail
        exact hK
      case' k => simp only [Act.put, List.setIfInBounds_toArray, List.set_cons_zero, List.set_cons_succ, Nat.reduceAdd]
    -- and the slice
    apply flowX_yes rfl
    case h =>
      intro S w hS hW K hK
      have h8 := hS.deps 8 (by kernel_rfl)
      have h13 := hS.new
      simp only [h8, h13] at hW
      obtain ⟨g, c, hu, -, -, -, -, hrow, -⟩ := hW.2 rfl
      simp only [Bool.false_eq_true, if_false] at hrow
      obtain ⟨r0, r1, r2, rf, rz⟩ := last3 hrow HBS.out
      have hK' := hK _ (by show rdP _ _ _ _ _ _ _ _ _ _ _ (S 7) (S 8) (S 9) (S 10) true (u 8) (u 9) _; rw [h8]; exact rdP_put HBS.out hW hu)
      rw [hu]
      rw [hu] at hK'
      have HK := Lib.hid hK'
      clear hS hW hK hK' h8 h13 hu hrow
      go_wp2_with fail
      exact HK.out
    case' k => simp only [Act.put, List.setIfInBounds_toArray, List.set_cons_zero, List.set_cons_succ, Nat.reduceAdd]
    refine flowX_end ?_
    intro S w' hS hW
    have h8 := hS 8 (by decide)
    have h10 := hS 10 (by decide)
    have h13 := hS 13 (by decide)
    simp only [h8, h10, h13] at hW
    obtain ⟨xs, f1, f2⟩ := HFIN.out _ _ _ _ _ hW
    exact HJ.out _ _ ⟨_, _, xs, rfl, rfl, rfl, rfl, rfl, rfl, f1, f2⟩
theorem rd_put' {B rb i g0 c0 m q : Nat} {s : ByteArray} {W : World} {pre : List Wy.Op} {ys : List OpV} {o : Wy.Op} {x : OpV} {t : Nd} {k lo hi : Int} {lz : Bool} {o1 o2 : Option Addr} {n1 c1 n2 c2 : Nat} {J : Act → World → Prop} {Q : Exit → Act → World → Prop} {l : List Value} (hl : l.length = 177)
    (h0 : l[0]? = some (.string s)) (h2 : l[2]? = some (.pointer (some ⟨rb, 0, none⟩))) (h4 : l[4]? = some (.slice (some ⟨g0, 0, none⟩) (m + 1) c0)) (h5 : l[5]? = some (.int .i64 i)) (h6 : l[6]? = some (.int .i64 m)) (h7 : l[7]? = some (.pointer (some ⟨q, 0, none⟩)))
    (hst : StkAt 155 70 B W (.slice (some ⟨g0, 0, none⟩) (m + 1) c0) (pre ++ [o]) (ys ++ [x])) (hm : pre.length = m) (hml : m ≤ 1000000)
    (hq : Blk W q #[.int .u8 k, .slice o1 n1 c1, .int .i64 lo, .int .i64 hi, .bool lz, .slice o2 n2 c2] 70)
    (hnd : NdAt (freeN B (.slice (some ⟨g0, 0, none⟩) (m + 1) c0) (ys ++ [x])) W t [.int .u8 k, .slice o1 n1 c1, .int .i64 lo, .int .i64 hi, .bool lz, .slice o2 n2 c2])
    (hB : B ≤ W.heap.size) (hil : o.items.length ≤ 1000000)
    (hJ : ∀ a' w', RdNext B rb s i (pre ++ [{ o with items := o.items ++ [t] }]) W a' w' → J a' w') :
    Code.wp Tryz.prog (rdC [1, 1, 1, 0, 0, 0, 1, 0, 1, 1, 1, 1, 1, 1]) (Exit.then J Q) ⟨l.toArray, []⟩ W := by
  obtain ⟨e, rfl⟩ := frame177 hl
  have h0 := Option.some.inj h0
  have h2 := Option.some.inj h2
  have h4 := Option.some.inj h4
  have h5 := Option.some.inj h5
  have h6 := Option.some.inj h6
  have h7 := Option.some.inj h7
  rw [h0, h2, h4, h5, h6, h7]
  exact rd_put e hst hm hml hq hnd hB hil hJ
end Go.Proofs.YtnhjakdmbfadlaaGreatDoor
