/- Parts of the proof: Ins, Plc. Conditions: none. -/
import Derived.Test.YtnhjakdmbfadlaaGreatDoorY01
import Derived.Test.YtnhjakdmbfadlaaGreatDoorY39
import Derived.Laws.RangeAny
set_option linter.all false
/- What holds of each way: its end and its spans are places, and the spans lie in the way. -/
namespace Go.Proofs.Wy

/-- what holds of a way from a place, however it was made -/
structure Inv {W : Type} (A : Alg W) (S : Str) (Q : Nat → Prop) (I : Nat → W → Prop) : Prop where
  stop : ∀ p w, I p w → Q (A.stop w)
  still : ∀ p, Q p → I p (A.still p)
  set : ∀ p, Q p → 0 < (S.dec p).2 → I p (A.still (p + (S.dec p).2))
  thn : ∀ p w v, I p w → I (A.stop w) v → I p (A.thn w v)
  mark : ∀ g p w, Q p → I p w → I p (A.mark g p w)
theorem rep_inv {W : Type} {A : Alg W} {S : Str} {Q : Nat → Prop} {I : Nat → W → Prop} (hA : Inv A S Q I) {f : Nat → Option (List W)} (hf : ∀ p m, f p = some m → Q p → ∀ v ∈ m, I p v) {lo hi : Int} {lazy : Bool} {k p : Nat} {l : List W}
    (h : rep A f lo hi lazy k p = some l) (hp : Q p) : ∀ x ∈ l, I p x := by
  unfold rep at h
  simp only at h
  split at h
  · simp only [Option.some.injEq] at h
    subst h
    refine follow_inv (I := fun _ w => I p w) (P := fun x => I p x) ?_ ?_ k (A.still p) 0 ⟨[], [], true⟩ ?_ (by simp)
    · intro t w m hI hm v hv
      exact hA.thn p w v hI (hf _ m hm (hA.stop p w hI) v hv)
    · exact fun t w _ h2 => h2
    · exact hA.still p hp
  · cases h
mutual
theorem wy_inv {W : Type} {A : Alg W} {S : Str} {Q : Nat → Prop} {I : Nat → W → Prop} (hA : Inv A S Q I) :
    ∀ (t : Nd) (g p : Nat) (l : List W), wy A S t g p = some l → Q p → ∀ w ∈ l, I p w
  | .mk k set lo hi lazy subs, g, p, l, h, hp, w, hw => by
    rw [wy] at h
    have h1 := (most_len h).2
    by_cases k1 : k = 1
    · rw [if_pos k1] at h1
      cases h1
      simp only [List.mem_singleton] at hw
      subst hw
      exact hA.still p hp
    rw [if_neg k1] at h1
    by_cases k2 : k = 2
    · rw [if_pos k2] at h1
      split at h1
      · next hc =>
        cases h1
        simp only [List.mem_singleton] at hw
        subst hw
        exact hA.set p hp hc.1
      · cases h1; simp at hw
    rw [if_neg k2] at h1
    by_cases k3 : k = 3
    · rw [if_pos k3] at h1
      exact wyCat_inv hA subs g p [A.still p] l h1 (fun w hw => by simp only [List.mem_singleton] at hw; subst hw; exact hA.still p hp) w hw
    rw [if_neg k3] at h1
    by_cases k5 : k = 5
    · rw [if_pos k5] at h1
      exact wyRep_inv hA lo hi lazy subs g p l h1 hp w hw
    rw [if_neg k5] at h1
    by_cases k6 : k = 6
    · rw [if_pos k6] at h1
      cases ha : wyAlt A S subs (g + 1) p with
      | none => rw [ha] at h1; cases h1
      | some m =>
        rw [ha] at h1
        simp only [Option.map_some, Option.some.injEq] at h1
        subst h1
        obtain ⟨v, hv, rfl⟩ := List.mem_map.1 hw
        exact hA.mark g p v hp (wyAlt_inv hA subs (g + 1) p m ha hp v hv)
    · rw [if_neg k6] at h1
      exact wyAlt_inv hA subs g p l h1 hp w hw
theorem wyCat_inv {W : Type} {A : Alg W} {S : Str} {Q : Nat → Prop} {I : Nat → W → Prop} (hA : Inv A S Q I) :
    ∀ (subs : List Nd) (g p : Nat) (l m : List W), wyCat A S subs g l = some m → (∀ w ∈ l, I p w) → ∀ w ∈ m, I p w
  | [], g, p, l, m, h, hl, w, hw => by
    rw [wyCat] at h
    cases h
    exact hl w hw
  | s :: r, g, p, l, m, h, hl, w, hw => by
    have hs := wy_inv hA s g
    rw [wyCat] at h
    split at h
    · next n hn =>
      have hn1 : ∀ x ∈ n, I p x := by
        intro x hx
        obtain ⟨u, hu, q, hq, v, hv, rfl⟩ := goOn_mem hn x hx
        exact hA.thn p u v (hl u hu) (hs _ q hq (hA.stop p u (hl u hu)) v hv)
      exact wyCat_inv hA r _ p n m h hn1 w hw
    · cases h
theorem wyRep_inv {W : Type} {A : Alg W} {S : Str} {Q : Nat → Prop} {I : Nat → W → Prop} (hA : Inv A S Q I) (lo hi : Int) (lazy : Bool) :
    ∀ (subs : List Nd) (g p : Nat) (l : List W), wyRep A S lo hi lazy subs g p = some l → Q p → ∀ w ∈ l, I p w
  | [], g, p, l, h, _, w, hw => by rw [wyRep] at h; cases h
  | s :: r, g, p, l, h, hp, w, hw => by
    rw [wyRep] at h
    exact rep_inv hA (fun q m hm hq v hv => wy_inv hA s g q m hm hq v hv) h hp w hw
theorem wyAlt_inv {W : Type} {A : Alg W} {S : Str} {Q : Nat → Prop} {I : Nat → W → Prop} (hA : Inv A S Q I) :
    ∀ (subs : List Nd) (g p : Nat) (m : List W), wyAlt A S subs g p = some m → Q p → ∀ w ∈ m, I p w
  | [], g, p, m, h, _, w, hw => by
    rw [wyAlt] at h
    cases h
    simp at hw
  | s :: r, g, p, m, h, hp, w, hw => by
    have hs := wy_inv hA s g p
    rw [wyAlt] at h
    split at h
    · next x y hx hy =>
      cases h
      rcases List.mem_append.1 hw with hw | hw
      · exact hs x hx hp w hw
      · exact wyAlt_inv hA r _ p y hy hp w hw
    · cases h
end
theorem mem_zw {α β γ : Type} {f : α → β → γ} : ∀ {l : List α} {m : List β} {x : γ}, x ∈ List.zipWith f l m → ∃ a ∈ l, ∃ b ∈ m, x = f a b
  | [], _, x, h => by simp at h
  | _ :: _, [], x, h => by simp at h
  | a :: l, b :: m, x, h => by
    rw [List.zipWith_cons_cons] at h
    rcases List.mem_cons.1 h with h | h
    · exact ⟨a, List.mem_cons_self, b, List.mem_cons_self, h⟩
    · obtain ⟨a', h1, b', h2, h3⟩ := mem_zw h
      exact ⟨a', List.mem_cons_of_mem _ h1, b', List.mem_cons_of_mem _ h2, h3⟩
/-- a way from a place: its end and its spans are places, and the spans lie before its end -/
def WIn (Q : Nat → Prop) (G p : Nat) (w : Way) : Prop := Q w.stop ∧ p ≤ w.stop ∧ w.spans.length = G ∧ ∀ x ∈ w.spans, x = (-1, -1) ∨ ∃ a b : Nat, x = ((a : Int), (b : Int)) ∧ Q a ∧ Q b ∧ a ≤ b ∧ b ≤ w.stop
theorem win_inv {S : Str} {Q : Nat → Prop} (hQ : ∀ p, Q p → 0 < (S.dec p).2 → Q (p + (S.dec p).2)) (G : Nat) : Inv (wayA G) S Q (WIn Q G) := by
  refine ⟨fun p w h => h.1, fun p hp => ⟨hp, Nat.le_refl _, List.length_replicate, fun x hx => .inl (List.eq_of_mem_replicate hx)⟩, fun p hp h0 => ⟨hQ p hp h0, Nat.le_add_right _ _, List.length_replicate, fun x hx => .inl (List.eq_of_mem_replicate hx)⟩, ?_, ?_⟩
  · rintro p w v ⟨h1, h2, h3, h4⟩ ⟨g1, g2, g3, g4⟩
    refine ⟨g1, Nat.le_trans h2 g2, ?_, fun x hx => ?_⟩
    · show (List.zipWith _ w.spans v.spans).length = G
      rw [List.length_zipWith, h3, g3, Nat.min_self]
    · obtain ⟨y, hy, z, hz, rfl⟩ := mem_zw (show x ∈ List.zipWith (fun p q => if q.1 = -1 ∧ q.2 = -1 then p else q) w.spans v.spans from hx)
      split
      · rcases h4 y hy with e | ⟨a, b, e, ha, hb, hab, hbs⟩
        · exact .inl e
        · exact .inr ⟨a, b, e, ha, hb, hab, Nat.le_trans hbs g2⟩
      · exact g4 z hz
  · rintro g p w hp ⟨h1, h2, h3, h4⟩
    refine ⟨h1, h2, ?_, fun x hx => ?_⟩
    · show (w.spans.set g _).length = G
      rw [List.length_set, h3]
    · rcases List.mem_or_eq_of_mem_set (show x ∈ w.spans.set g ((p : Int), (w.stop : Int)) from hx) with hx | rfl
      · exact h4 x hx
      · exact .inr ⟨p, w.stop, rfl, hp, h1, h2, Nat.le_refl _⟩
theorem ways_in {S : Str} {Q : Nat → Prop} (hQ : ∀ p, Q p → 0 < (S.dec p).2 → Q (p + (S.dec p).2)) {t : Nd} {l : List Way} (h : ways S t = some l) (h0 : Q 0) : ∀ w ∈ l, WIn Q (opened t) 0 w :=
  wy_inv (win_inv hQ (opened t)) t 0 0 l h h0
end Go.Proofs.Wy

/- The places of a string: where its code points begin, and its end. -/
namespace Go.Proofs.YtnhjakdmbfadlaaGreatDoor
open Go.RowKit Wy Mem Grow

theorem dec_utf8 (s : ByteArray) (p : Nat) : Utf8.decode s p = Lib.decodeL (s.data.toList.drop p) := by
  rw [Lib.decode_N, Lib.decodeL_N]
  simp only [List.length_drop, List.getD_eq_getElem?_getD, List.getElem?_drop, Nat.add_zero]
theorem rest_list (s : ByteArray) (p : Nat) : restS s p = ⟨(s.data.toList.drop p).toArray⟩ := by
  unfold restS
  apply ByteArray.ext
  apply Array.ext'
  rw [ByteArray.data_extract, Array.toList_extract, List.extract_eq_take_drop]
  have e : s.size = s.data.toList.length := by rw [Array.length_toList]; rfl
  rw [e]
  apply List.take_of_length_le
  rw [List.length_drop]
  exact Nat.le_refl _
theorem dec_drop (s : ByteArray) (p : Nat) (hp : p < s.size) : (strS s).dec p = (((Lib.decodeL (s.data.toList.drop p)).1 : Int), (Lib.decodeL (s.data.toList.drop p)).2) := by
  have e : s.extract p s.size = ⟨(s.data.toList.drop p).toArray⟩ := rest_list s p
  have hsz : (s.extract p s.size).size ≠ 0 := by simp; omega
  show (((Lib.decodeGo (s.extract p s.size)).1 : Int), (Lib.decodeGo (s.extract p s.size)).2) = _
  unfold Lib.decodeGo Lib.decodeL
  rw [if_neg hsz, e]
theorem dec_strS (s : ByteArray) (p : Nat) (hp : p < s.size) : ((strS s).dec p).2 = (Utf8.decode s p).2 := by
  rw [dec_drop s p hp, dec_utf8]
theorem dec_past (s : ByteArray) (p : Nat) (hp : ¬ p < s.size) : ((strS s).dec p).2 = 0 := by
  have hsz : (s.extract p s.size).size = 0 := by simp; omega
  show (Lib.decodeGo (s.extract p s.size)).2 = 0
  unfold Lib.decodeGo
  rw [if_pos hsz]
theorem dec_width (s : ByteArray) (p : Nat) (hp : p < s.size) : 1 ≤ (Utf8.decode s p).2 ∧ p + (Utf8.decode s p).2 ≤ s.size := by
  have hl : (s.data.toList.drop p).length = s.size - p := by rw [List.length_drop, Array.length_toList]; rfl
  have hne : s.data.toList.drop p ≠ [] := by intro e; rw [e] at hl; simp at hl; omega
  have hle := Lib.decodeL_le _ hne
  rw [dec_utf8]
  refine ⟨?_, by omega⟩
  rw [← dec_utf8]
  by_cases ha : (s[p]'hp).toNat < 128
  · rw [decode_ascii s p hp ha]
    exact Nat.le_refl _
  · exact (decode_high s p hp (by omega)).2
/-- the places that a range over the string has found, up to one -/
structure Pla (s : ByteArray) (pos : Nat) (P : List Nat) : Prop where
  last : s.size ∈ P
  first : pos = 0 ∨ 0 ∈ P
  next : ∀ p ∈ P, p = s.size ∨ p < s.size ∧ (p + (Utf8.decode s p).2 = pos ∨ p + (Utf8.decode s p).2 ∈ P)
  le : pos ≤ s.size
  len : P.length ≤ pos + 1
theorem Pla.start (s : ByteArray) : Pla s 0 [s.size] := ⟨by simp, .inl rfl, fun p hp => .inl (by simpa using hp), Nat.zero_le _, by simp⟩
theorem Pla.more {s : ByteArray} {pos : Nat} {P : List Nat} (h : Pla s pos P) (hp : pos < s.size) : Pla s (pos + (Utf8.decode s pos).2) (P ++ [pos]) := by
  obtain ⟨hw, hl⟩ := dec_width s pos hp
  refine ⟨List.mem_append_left _ h.last, .inr ?_, fun p hm => ?_, hl, by have := h.len; rw [List.length_append]; simp; omega⟩
  · rcases h.first with e | e
    · rw [e]; simp
    · exact List.mem_append_left _ e
  · rcases List.mem_append.1 hm with hm | hm
    · rcases h.next p hm with e | ⟨e1, e2 | e2⟩
      · exact .inl e
      · exact .inr ⟨e1, .inr (by rw [e2]; simp)⟩
      · exact .inr ⟨e1, .inr (List.mem_append_left _ e2)⟩
    · obtain rfl : p = pos := by simpa using hm
      exact .inr ⟨hp, .inl rfl⟩
theorem Pla.done {s : ByteArray} {pos : Nat} {P : List Nat} (h : Pla s pos P) (hp : ¬ pos < s.size) : 0 ∈ P ∧ ∀ p, p ∈ P → 0 < ((strS s).dec p).2 → p + ((strS s).dec p).2 ∈ P := by
  have hps : pos = s.size := by have := h.le; omega
  refine ⟨?_, fun p hm hw => ?_⟩
  · rcases h.first with e | e
    · have := h.last
      rwa [← hps, e] at this
    · exact e
  · rcases h.next p hm with e | ⟨e1, e2⟩
    · rw [dec_past s p (by omega)] at hw
      omega
    · rw [dec_strS s p e1]
      rcases e2 with e2 | e2
      · rw [e2, hps]; exact h.last
      · exact e2
/-- what is so of each way, at the places of the string -/
theorem ways_at {s : ByteArray} {t : Nd} {P : List Nat} (h0 : 0 ∈ P) (hP : ∀ p, p ∈ P → 0 < ((strS s).dec p).2 → p + ((strS s).dec p).2 ∈ P) : ∀ w ∈ lA s t, WIn (· ∈ P) (opened t) 0 w := by
  unfold lA
  cases ho : Wy.ways (strS s) t with
  | none => intro w hw; simp at hw
  | some l => exact ways_in hP ho h0
/-- the iterator of a range over a string, set on -/
def iterW (w : World) (b : Nat) (s : ByteArray) (p : Nat) : World := { w with heap := w.heap.setIfInBounds b (.stringIter s p) }
/-- the next place of a range over a string, wherever its iterator lies -/
theorem run_next_at {P : Program} {w : World} {b : Nat} {s : ByteArray} {pos : Nat} (ty : TypeId) (hb : w.heap[b]? = some (.stringIter s pos)) (h : pos < s.size) :
    (Instr.next (.pointer (some ⟨b, 0, none⟩)) true ty).run P w = .ok (.tuple #[.bool true, .int .i64 pos, .int .i32 (Utf8.decode s pos).1]) (iterW w b s (pos + (Utf8.decode s pos).2)) := by
  simp only [Instr.next, getObj, setObj, Sem.run_bind, Sem.run, hb, Result.andThen, h, if_true]
  simp [goInt, iterW]
theorem run_next_last {P : Program} {w : World} {b : Nat} {s : ByteArray} {pos : Nat} (ty : TypeId) (hb : w.heap[b]? = some (.stringIter s pos)) (h : ¬ pos < s.size) :
    (Instr.next (.pointer (some ⟨b, 0, none⟩)) true ty).run P w = .ok (.tuple #[.bool false]) w := by
  simp [Instr.next, getObj, Sem.run, hb, h]
theorem iter_kept (w : World) (b : Nat) (s : ByteArray) (p : Nat) : Kept (fun q => q = b) w (iterW w b s p) := by
  refine ⟨rfl, rfl, rfl, by simp [iterW], fun k hk hx => ?_⟩
  show (w.heap.setIfInBounds b _)[k]? = _
  rw [Array.getElem?_setIfInBounds, if_neg (fun e => hx e.symm)]
theorem iter_at {w : World} {b : Nat} (s : ByteArray) (p : Nat) (hb : b < w.heap.size) : (iterW w b s p).heap[b]? = some (.stringIter s p) := by
  show (w.heap.setIfInBounds b _)[b]? = _
  rw [Array.getElem?_setIfInBounds, if_pos rfl, if_pos hb]
end Go.Proofs.YtnhjakdmbfadlaaGreatDoor
