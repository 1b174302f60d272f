/- Parts of the proof: Ppb, Pab, Pbb, Pcb, Pdb. Conditions: none. -/
import Derived.Test.YtnhjakdmbfadlaaDoorS40
import Derived.Test.YtnhjakdmbfadlaaDoorS05
import Derived.Test.YtnhjakdmbfadlaaDoorS38
import Derived.Test.YtnhjakdmbfadlaaDoorS08
import Derived.Lib.ValidLaws
import Derived.Lib.MapLaws
import Derived.Test.YtnhjakdmbfadlaaDoorS35
set_option linter.all false
namespace Go.Proofs.YtnhjakdmbfadlaaDoor
open Go.RowKit Wy Mem

theorem rest_toList (s : ByteArray) (p : Nat) : (restS s p).data.toList = s.data.toList.drop p := by rw [rest_list]
theorem rest_rest (s : ByteArray) (a p : Nat) : restS (restS s a) p = restS s (a + p) := by
  rw [rest_list, rest_list s (a + p), rest_toList, List.drop_drop]
theorem rest_dec (s : ByteArray) (a p : Nat) : (strS (restS s a)).dec p = (strS s).dec (a + p) := by
  have h : (restS s a).extract p (restS s a).size = s.extract (a + p) s.size := rest_rest s a p
  unfold strS
  simp only [h]
def Vp (s : ByteArray) (p : Nat) : Prop := p ≤ s.size ∧ Lib.validD (s.data.toList.drop p) = true
theorem vp_step (s : ByteArray) (p : Nat) (h : Vp s p) (hw : 0 < ((strS s).dec p).2) : Vp s (p + ((strS s).dec p).2) := by
  obtain ⟨h1, h2⟩ := h
  by_cases hp : p < s.size
  · have hl : (s.data.toList.drop p).length = s.size - p := by rw [List.length_drop, Array.length_toList]; rfl
    have hne : s.data.toList.drop p ≠ [] := by intro e; rw [e] at hl; simp at hl; omega
    rw [dec_drop s p hp]
    have hle := Lib.decodeL_le _ hne
    rw [Lib.validD_step _ hne] at h2
    split at h2
    · cases h2
    · rw [List.drop_drop] at h2
      exact ⟨by simp only; omega, h2⟩
  · exfalso
    obtain rfl : p = s.size := by omega
    have hsz : (s.extract s.size s.size).size = 0 := by simp
    revert hw
    show ¬ 0 < (Lib.decodeGo (s.extract s.size s.size)).2
    unfold Lib.decodeGo
    rw [if_pos hsz]
    simp
theorem er_cases (s : ByteArray) (t : Nd) : erW s t = 0 ∨ erW s t = 5 := by
  rcases ends_eE s t with ⟨-, h⟩ | ⟨-, h⟩
  · exact .inr h
  · exact .inl h
theorem er_of {s : ByteArray} {t : Nd} (h : Wy.ends (strS s) t 0 = none) : erW s t = 5 := by
  rcases ends_eE s t with ⟨-, h2⟩ | ⟨h1, -⟩
  · exact h2
  · rw [h] at h1; cases h1
theorem none_of {s : ByteArray} {t : Nd} (h : erW s t = 5) : Wy.ends (strS s) t 0 = none := by
  rcases ends_eE s t with ⟨h1, -⟩ | ⟨-, h2⟩
  · exact h1
  · rw [h] at h2; cases h2
def altT (x y : Nd) : Nd := .mk 4 [] 0 0 false [x, y]
theorem alt_both {s : ByteArray} {x y : Nd} (hx : erW s x = 0) (hy : erW s y = 0) (hl : (eE s x).length + (eE s y).length ≤ 500) : eE s (altT x y) = eE s x ++ eE s y ∧ erW s (altT x y) = 0 := by
  refine eE_of ?_
  unfold altT
  rw [ends_alt, some_of hx, some_of hy]
  exact most_some (by rw [List.length_append]; exact hl)
theorem alt_many {s : ByteArray} {x y : Nd} (hx : erW s x = 0) (hy : erW s y = 0) (hl : ¬ (eE s x).length + (eE s y).length ≤ 500) : erW s (altT x y) = 5 := by
  refine er_of ?_
  unfold altT
  rw [ends_alt, some_of hx, some_of hy]
  simp [most, hl]
theorem alt_no {s : ByteArray} {x y : Nd} (h : erW s x = 5 ∨ erW s y = 5) : erW s (altT x y) = 5 := by
  refine er_of ?_
  unfold altT
  rw [ends_alt]
  rcases h with h | h
  · rw [none_of h]
  · rw [none_of h]; cases ends (strS s) x 0 <;> rfl
theorem cat_no {s : ByteArray} {x y : Nd} (h : erW s x = 5) : erW s (catT x y) = 5 := by
  refine er_of ?_
  unfold catT
  rw [ends_cat, none_of h]
theorem allOf_snoc {α β : Type} (f : α → Option (List β)) : ∀ (l : List α) (a : α), allOf f (l ++ [a]) = match allOf f l, f a with | some x, some y => some (x ++ y) | _, _ => none
  | [], a => by simp only [List.nil_append, allOf]; cases f a <;> simp
  | b :: l, a => by
    simp only [List.cons_append, allOf, allOf_snoc f l a]
    cases f b <;> cases allOf f l <;> cases f a <;> simp
theorem allOf_none {α β : Type} (f : α → Option (List β)) : ∀ (l : List α) (a : α), a ∈ l → f a = none → allOf f l = none
  | b :: l, a, h, e => by
    rcases List.mem_cons.1 h with rfl | h
    · simp only [allOf, e]
    · simp only [allOf, allOf_none f l a h e]; cases f b <;> rfl
/-- where the first tree ends, the rest of the string is valid -/
theorem eE_valid {s : ByteArray} {x : Nd} (hv : Lib.validD s.data.toList = true) (hx : erW s x = 0) {p : Nat} (hp : p ∈ eE s x) : p ≤ s.size ∧ Lib.validD (restS s p).data.toList = true := by
  have := ends_reach (S := strS s) (Q := Vp s) (vp_step s) (some_of hx) ⟨Nat.zero_le _, by simpa using hv⟩ p hp
  rw [rest_toList]
  exact this
theorem rest_ends (s : ByteArray) (y : Nd) (p : Nat) : Wy.ends (strS s) y p = (Wy.ends (strS (restS s p)) y 0).map (List.map (p + ·)) :=
  (ends_shift (S' := strS (restS s p)) (S := strS s) (at_ := p) (fun q => rest_dec s p q) y 0).symm
/-- what the loop has gathered -/
def Gat (s : ByteArray) (x y : Nd) (i : Nat) (want : List Nat) : Prop := allOf (Wy.ends (strS s) y) ((eE s x).take i) = some want
theorem gat_zero (s : ByteArray) (x y : Nd) : Gat s x y 0 [] := rfl
theorem gat_len {s : ByteArray} {x y : Nd} : ∀ {i : Nat} {want : List Nat}, i ≤ (eE s x).length → Gat s x y i want → want.length ≤ 500 * i
  | 0, want, _, h => by
    unfold Gat at h
    rw [List.take_zero] at h
    simp only [allOf, Option.some.injEq] at h
    subst h; simp
  | i + 1, want, hi, h => by
    unfold Gat at h
    rw [List.take_succ_eq_append_getElem (by omega), allOf_snoc] at h
    cases e1 : allOf (Wy.ends (strS s) y) ((eE s x).take i) with
    | none => rw [e1] at h; cases h
    | some a =>
      cases e2 : Wy.ends (strS s) y ((eE s x)[i]'(by omega)) with
      | none => rw [e1, e2] at h; cases h
      | some b =>
        rw [e1, e2] at h
        simp only [Option.some.injEq] at h
        subst h
        have h1 := gat_len (i := i) (by omega) e1
        have h2 := ends_len e2
        rw [List.length_append]
        omega
theorem gat_next {s : ByteArray} {x y : Nd} {i : Nat} {want : List Nat} (h : Gat s x y i want) (hi : i < (eE s x).length) (hr : erW (restS s ((eE s x)[i]'hi)) y = 0) : Gat s x y (i + 1) (want ++ (eE (restS s ((eE s x)[i]'hi)) y).map ((eE s x)[i]'hi + ·)) := by
  unfold Gat at h ⊢
  rw [List.take_succ_eq_append_getElem hi, allOf_snoc, h, rest_ends, some_of hr]
  rfl
theorem gat_stop {s : ByteArray} {x y : Nd} {i : Nat} (hx : erW s x = 0) (hi : i < (eE s x).length) (hr : erW (restS s ((eE s x)[i]'hi)) y = 5) : erW s (catT x y) = 5 := by
  refine er_of ?_
  unfold catT
  rw [ends_cat, some_of hx]
  have : Wy.ends (strS s) y ((eE s x)[i]'hi) = none := by rw [rest_ends, none_of hr]; rfl
  simp only [allOf_none _ _ _ (List.getElem_mem hi) this, most]
theorem gat_many {s : ByteArray} {x y : Nd} {want : List Nat} (hx : erW s x = 0) (h : Gat s x y (eE s x).length want) (hw : ¬ want.length ≤ 500) : erW s (catT x y) = 5 := by
  refine er_of ?_
  unfold catT
  unfold Gat at h
  rw [List.take_length] at h
  rw [ends_cat, some_of hx]
  simp [h, most, hw]
theorem gat_end {s : ByteArray} {x y : Nd} {want : List Nat} (hx : erW s x = 0) (h : Gat s x y (eE s x).length want) (hw : want.length ≤ 500) : eE s (catT x y) = want ∧ erW s (catT x y) = 0 := by
  refine eE_of ?_
  unfold catT
  unfold Gat at h
  rw [List.take_length] at h
  rw [ends_cat, some_of hx]
  simp [h, most, hw]
end Go.Proofs.YtnhjakdmbfadlaaDoor

namespace Go.Proofs.YtnhjakdmbfadlaaDoor
open Go.RowKit Wy Mem Grow

noncomputable def paC (p : List Nat) : Code := pieceC (way p) (Tryd.f5.body.getD .skip)
theorem frame174 {l : List Value} (h : l.length = 174) : ∃ e : Nat → Value, l = [e 0, e 1, e 2, e 3, e 4, e 5, e 6, e 7, e 8, e 9, e 10, e 11, e 12, e 13, e 14, e 15, e 16, e 17, e 18, e 19, e 20, e 21, e 22, e 23, e 24, e 25, e 26, e 27, e 28, e 29, e 30, e 31, e 32, e 33, e 34, e 35, e 36, e 37, e 38, e 39, e 40, e 41, e 42, e 43, e 44, e 45, e 46, e 47, e 48, e 49, e 50, e 51, e 52, e 53, e 54, e 55, e 56, e 57, e 58, e 59, e 60, e 61, e 62, e 63, e 64, e 65, e 66, e 67, e 68, e 69, e 70, e 71, e 72, e 73, e 74, e 75, e 76, e 77, e 78, e 79, e 80, e 81, e 82, e 83, e 84, e 85, e 86, e 87, e 88, e 89, e 90, e 91, e 92, e 93, e 94, e 95, e 96, e 97, e 98, e 99, e 100, e 101, e 102, e 103, e 104, e 105, e 106, e 107, e 108, e 109, e 110, e 111, e 112, e 113, e 114, e 115, e 116, e 117, e 118, e 119, e 120, e 121, e 122, e 123, e 124, e 125, e 126, e 127, e 128, e 129, e 130, e 131, e 132, e 133, e 134, e 135, e 136, e 137, e 138, e 139, e 140, e 141, e 142, e 143, e 144, e 145, e 146, e 147, e 148, e 149, e 150, e 151, e 152, e 153, e 154, e 155, e 156, e 157, e 158, e 159, e 160, e 161, e 162, e 163, e 164, e 165, e 166, e 167, e 168, e 169, e 170, e 171, e 172, e 173] := by
  refine ⟨fun k => l.getD k undef, ?_⟩
  have h2 : l = (List.range 174).map fun k => l.getD k undef := by
    apply List.ext_getElem
    · simp [h]
    · intro i h1 h2
      simp [List.getD_eq_getElem?_getD, h1]
  exact h2
theorem intCs_snoc (L : List Nat) (x y : Nat) : intCs L ++ [.int .i64 ((x : Int) + (y : Int))] = intCs (L ++ [x + y]) := by
  simp [intCs]
def Apart (v : Value) (b : Nat) : Prop := v.ownBlock ≠ some b
set_option maxHeartbeats 8000000 in
set_option maxRecDepth 100000 in
theorem pa_in {B at_ rr k nr rb ro cr n cv : Nat} {ov : Option Addr} {L r : List Nat} {W : World} {J : Act → World → Prop} {Q : Exit → Act → World → Prop} (e : Nat → Value) (hk : k < nr) (hnr : nr ≤ 500) (hat : at_ ≤ 64) (hrr : rr ≤ 64) (hn : n ≤ 300000) (hB : B ≤ W.heap.size)
    (hown : W.ownsRow B 3 1 (.slice ov n cv) n (intCs L))
    (d : W.cell? ⟨rb, ro + k, none⟩ = some (.int .i64 rr)) (z : rb < W.heap.size) (hcr : nr ≤ cr)
    (hR : Row (Apart (.slice ov n cv)) W (.slice (some ⟨rb, ro, none⟩) nr cr) nr 1 (intCs r))
    (hJ : ∀ (m : List Value) (w' : World) (o' : Option Addr) (c' : Nat), m.length = 174 → (m[8]? = some (e 8) ∧ m[9]? = some (e 9) ∧ m[17]? = some (e 17) ∧ m[18]? = some (e 18) ∧ m[125]? = some (e 125) ∧ m[126]? = some (e 126) ∧ m[127]? = some (e 127)) → m[19]? = some (.slice o' (n + 1) c') → m[21]? = some (.int .i64 at_) → m[148]? = some (.slice (some ⟨rb, ro, none⟩) nr cr) → m[149]? = some (.int .i64 nr) → m[150]? = some (.int .i64 ((k + 1 : Nat) : Int)) →
      w'.ownsRow B 3 1 (.slice o' (n + 1) c') (n + 1) (intCs (L ++ [at_ + rr])) → Row (Apart (.slice o' (n + 1) c')) w' (.slice (some ⟨rb, ro, none⟩) nr cr) nr 1 (intCs r) → Below B W w' → J ⟨m.toArray, []⟩ w') :
    Code.wp Tryd.prog (paC [1, 1, 1, 1, 1, 1, 1, 1, 1, 1, 1, 0, 1, 0, 0, 1, 1, 0, 0, 1, 1, 1, 1, 0, 0]) (Exit.then J Q) ⟨#[e 0, e 1, e 2, e 3, e 4, e 5, e 6, e 7, e 8, e 9, e 10, e 11, e 12, e 13, e 14, e 15, e 16, e 17, e 18, .slice ov n cv, e 20, .int .i64 at_, e 22, e 23, e 24, e 25, e 26, e 27, e 28, e 29, e 30, e 31, e 32, e 33, e 34, e 35, e 36, e 37, e 38, e 39, e 40, e 41, e 42, e 43, e 44, e 45, e 46, e 47, e 48, e 49, e 50, e 51, e 52, e 53, e 54, e 55, e 56, e 57, e 58, e 59, e 60, e 61, e 62, e 63, e 64, e 65, e 66, e 67, e 68, e 69, e 70, e 71, e 72, e 73, e 74, e 75, e 76, e 77, e 78, e 79, e 80, e 81, e 82, e 83, e 84, e 85, e 86, e 87, e 88, e 89, e 90, e 91, e 92, e 93, e 94, e 95, e 96, e 97, e 98, e 99, e 100, e 101, e 102, e 103, e 104, e 105, e 106, e 107, e 108, e 109, e 110, e 111, e 112, e 113, e 114, e 115, e 116, e 117, e 118, e 119, e 120, e 121, e 122, e 123, e 124, e 125, e 126, e 127, e 128, e 129, e 130, e 131, e 132, e 133, e 134, e 135, e 136, e 137, e 138, e 139, e 140, e 141, e 142, e 143, e 144, e 145, e 146, e 147, .slice (some ⟨rb, ro, none⟩) nr cr, .int .i64 nr, .int .i64 k, e 151, e 152, e 153, e 154, e 155, e 156, e 157, e 158, e 159, e 160, e 161, e 162, e 163, e 164, e 165, e 166, e 167, e 168, e 169, e 170, e 171, e 172, e 173], []⟩ W := by
  have hkI : (k : Int) < nr := by omega
  have hnI : (nr : Int) ≤ 500 := by omega
  have hcI : (nr : Int) ≤ cr := by omega
  have haI : (at_ : Int) ≤ 64 := by omega
  have hrI : (rr : Int) ≤ 64 := by omega
  obtain ⟨i0, hi0, hz0, hz1, hz2⟩ := info_parts info3
  have hr2 : (W.alloc (.cells #[.int .i64 ((at_ : Int) + (rr : Int))] 3)).ownsRow B 3 1 (.slice ov n cv) n (intCs L) := ownsRow_go hown ((Kept.refl (fun _ => False) W).alloc _) (fun _ _ => id)
  have hbs : B ≤ (W.alloc (.cells #[.int .i64 ((at_ : Int) + (rr : Int))] 3)).heap.size := by simp; omega
  have hsr : SrcAt (W.alloc (.cells #[.int .i64 ((at_ : Int) + (rr : Int))] 3)) (.slice (some ⟨W.heap.size, 0, none⟩) 1 1) 1 [.int .i64 ((at_ : Int) + (rr : Int))] := src_int rfl
  have hmx : n + 1 ≤ maxLen := by unfold maxLen; omega
  have hby : (n + 1) * 8 ≤ 140737488355328 := by omega
  have hR1 : Row (Apart (.slice ov n cv)) (W.alloc (.cells #[.int .i64 ((at_ : Int) + (rr : Int))] 3)) (.slice (some ⟨rb, ro, none⟩) nr cr) nr 1 (intCs r) := RowGo hR ((Kept.refl (fun _ => False) W).alloc _) (fun _ _ h => ⟨id, h⟩)
  have hfin : ∀ (v' : Value) w4, (W.alloc (.cells #[.int .i64 ((at_ : Int) + (rr : Int))] 3)).grownBy w4 (Value.slice ov n cv).ownBlock → (v'.ownBlock = (Value.slice ov n cv).ownBlock ∨ v'.ownBlock = some (W.alloc (.cells #[.int .i64 ((at_ : Int) + (rr : Int))] 3)).heap.size) → Below B W w4 ∧ Row (Apart v') w4 (.slice (some ⟨rb, ro, none⟩) nr cr) nr 1 (intCs r) := fun v' w4 hg ho => by
    have k4 := Kept.of_grown hg
    refine ⟨((Below.refl B W).alloc hB _).grown hg (by simp; omega) (fun q e => (hown.lt q e).1), ?_⟩
    refine RowGo hR1 k4 (fun b hb hN => ⟨hN, fun e => ?_⟩)
    rcases ho with ho | ho
    · exact hN (ho.symm.trans e)
    · rw [ho] at e
      simp only [Option.some.injEq] at e
      omega
  have HR2 := Lib.hid hr2
  have HBS := Lib.hid hbs
  have HSR := Lib.hid hsr
  have HFIN := Lib.hid hfin
  have HJ := Lib.hid hJ
  clear hJ hr2 hbs hsr hfin hR hR1 hown hB
  conv => arg 2; whnf
  go_wp2_with (first | (at_builtin; go_loud (refine wpList_append_row rfl _ _ 35 rfl Tryd.underlying35 hi0 hz0 hz1 hz2 rfl (.slice ov n cv) n (intCs L) rfl HR2.out _ 1 _ rfl HSR.out rfl (by simp [Value.oneCell']) hmx hby HBS.out ?_; intro v' w4 hown' hgrow h3' h4'; obtain ⟨o', c', rfl⟩ := own_slice hown'; rw [intCs_snoc] at hown'; have HO := Lib.hid hown'; have HF := Lib.hid (HFIN.out _ w4 hgrow h3'); clear hown' hgrow h3' h4')))
  exact HJ.out _ _ _ _ rfl ⟨rfl, rfl, rfl, rfl, rfl, rfl, rfl⟩ rfl rfl rfl rfl rfl HO.out HF.out.2 HF.out.1
set_option maxHeartbeats 8000000 in
set_option maxRecDepth 100000 in
theorem pa_inx {at_ nr cr : Nat} {orr : Option Addr} {W : World} {J : Act → World → Prop} {Q : Exit → Act → World → Prop} (e : Nat → Value)
    (hJ : ∀ (m : List Value), m.length = 174 → (m[8]? = some (e 8) ∧ m[9]? = some (e 9) ∧ m[17]? = some (e 17) ∧ m[18]? = some (e 18) ∧ m[125]? = some (e 125) ∧ m[126]? = some (e 126) ∧ m[127]? = some (e 127)) → m[19]? = some (e 19) → Q (.exit 2) ⟨m.toArray, []⟩ W) :
    Code.wp Tryd.prog (paC [1, 1, 1, 1, 1, 1, 1, 1, 1, 1, 1, 0, 1, 0, 0, 1, 1, 0, 0, 1, 1, 1, 1, 0, 0]) (Exit.then J Q) ⟨#[e 0, e 1, e 2, e 3, e 4, e 5, e 6, e 7, e 8, e 9, e 10, e 11, e 12, e 13, e 14, e 15, e 16, e 17, e 18, e 19, e 20, .int .i64 at_, e 22, e 23, e 24, e 25, e 26, e 27, e 28, e 29, e 30, e 31, e 32, e 33, e 34, e 35, e 36, e 37, e 38, e 39, e 40, e 41, e 42, e 43, e 44, e 45, e 46, e 47, e 48, e 49, e 50, e 51, e 52, e 53, e 54, e 55, e 56, e 57, e 58, e 59, e 60, e 61, e 62, e 63, e 64, e 65, e 66, e 67, e 68, e 69, e 70, e 71, e 72, e 73, e 74, e 75, e 76, e 77, e 78, e 79, e 80, e 81, e 82, e 83, e 84, e 85, e 86, e 87, e 88, e 89, e 90, e 91, e 92, e 93, e 94, e 95, e 96, e 97, e 98, e 99, e 100, e 101, e 102, e 103, e 104, e 105, e 106, e 107, e 108, e 109, e 110, e 111, e 112, e 113, e 114, e 115, e 116, e 117, e 118, e 119, e 120, e 121, e 122, e 123, e 124, e 125, e 126, e 127, e 128, e 129, e 130, e 131, e 132, e 133, e 134, e 135, e 136, e 137, e 138, e 139, e 140, e 141, e 142, e 143, e 144, e 145, e 146, e 147, .slice orr nr cr, .int .i64 nr, .int .i64 nr, e 151, e 152, e 153, e 154, e 155, e 156, e 157, e 158, e 159, e 160, e 161, e 162, e 163, e 164, e 165, e 166, e 167, e 168, e 169, e 170, e 171, e 172, e 173], []⟩ W := by
  have HJ := Lib.hid hJ
  clear hJ
  conv => arg 2; whnf
  go_wp2_with fail
  exact HJ.out _ rfl ⟨rfl, rfl, rfl, rfl, rfl, rfl, rfl⟩ rfl
def Lin (B at_ nr cr : Nat) (orr : Option Addr) (r L0 : List Nat) (q : Nat → Value) (W1 : World) (j : Nat) (a : Act) (w : World) : Prop := ∃ (m : List Value) (k c : Nat) (o : Option Addr), a = ⟨m.toArray, []⟩ ∧ m.length = 174 ∧ (m[8]? = some (q 8) ∧ m[9]? = some (q 9) ∧ m[17]? = some (q 17) ∧ m[18]? = some (q 18) ∧ m[125]? = some (q 125) ∧ m[126]? = some (q 126) ∧ m[127]? = some (q 127)) ∧ m[19]? = some (.slice o (L0.length + k) c) ∧ m[21]? = some (.int .i64 at_) ∧ m[148]? = some (.slice orr nr cr) ∧ m[149]? = some (.int .i64 nr) ∧ m[150]? = some (.int .i64 k) ∧ k ≤ nr ∧ j = nr - k ∧
  w.ownsRow B 3 1 (.slice o (L0.length + k) c) (L0.length + k) (intCs (L0 ++ (r.take k).map (at_ + ·))) ∧ Row (Apart (.slice o (L0.length + k) c)) w (.slice orr nr cr) nr 1 (intCs r) ∧ Below B W1 w ∧ B ≤ w.heap.size
set_option maxRecDepth 100000 in
theorem pa_inloop {B at_ nr cr j : Nat} {orr : Option Addr} {r L0 : List Nat} {q : Nat → Value} {W1 w : World} {a : Act} {Q : Exit → Act → World → Prop} (hI : Lin B at_ nr cr orr r L0 q W1 j a w) (hr : r.length = nr) (hnr : nr ≤ 500) (hat : at_ ≤ 64) (hrr : ∀ x ∈ r, x ≤ 64) (hL : L0.length ≤ 250000)
    (hQ : ∀ (m : List Value) (w' : World) (o : Option Addr) (c : Nat), m.length = 174 → (m[8]? = some (q 8) ∧ m[9]? = some (q 9) ∧ m[17]? = some (q 17) ∧ m[18]? = some (q 18) ∧ m[125]? = some (q 125) ∧ m[126]? = some (q 126) ∧ m[127]? = some (q 127)) → m[19]? = some (.slice o (L0 ++ r.map (at_ + ·)).length c) → w'.ownsRow B 3 1 (.slice o (L0 ++ r.map (at_ + ·)).length c) (L0 ++ r.map (at_ + ·)).length (intCs (L0 ++ r.map (at_ + ·))) → Below B W1 w' → B ≤ w'.heap.size → Q (.exit 2) ⟨m.toArray, []⟩ w') :
    Code.wp Tryd.prog (paC [1, 1, 1, 1, 1, 1, 1, 1, 1, 1, 1, 0, 1, 0, 0, 1, 1, 0, 0, 1, 1, 1, 1, 0, 0]) (Exit.then (fun a' w' => ∃ j', j' < j ∧ Lin B at_ nr cr orr r L0 q W1 j' a' w') Q) a w := by
  obtain ⟨m, k, c, o, rfl, hm, hkp, h19, h21, h148, h149, h150, hk, hj, hown, hR, hb, hB⟩ := hI
  obtain ⟨e, rfl⟩ := frame174 hm
  have h19 := Option.some.inj h19
  have h21 := Option.some.inj h21
  have h148 := Option.some.inj h148
  have h149 := Option.some.inj h149
  have h150 := Option.some.inj h150
  obtain ⟨g8, g9, g17, g18, g125, g126, g127⟩ := hkp
  have g8 := Option.some.inj g8
  have g9 := Option.some.inj g9
  have g17 := Option.some.inj g17
  have g18 := Option.some.inj g18
  have g125 := Option.some.inj g125
  have g126 := Option.some.inj g126
  have g127 := Option.some.inj g127
  by_cases hkn : k < nr
  · rcases hR.at_ with ⟨h0, _⟩ | ⟨rb, ro, cr', he, h1, h2, h3, h4, h5⟩
    · omega
    simp only [Value.slice.injEq, true_and] at he
    obtain ⟨rfl, rfl⟩ := he
    have hd := h5 k (by simp [intCs]; omega)
    have hrk : (intCs r)[k]? = some (.int .i64 ((r[k]'(by omega) : Nat) : Int)) := by simp [intCs, hr, hkn]
    rw [hrk] at hd
    rw [h19, h21, h148, h149, h150]
    refine pa_in (rr := r[k]'(by omega)) (L := L0 ++ (r.take k).map (at_ + ·)) (r := r) e hkn hnr hat (hrr _ (List.getElem_mem _)) (by omega) hB hown hd h4 h1 hR (fun m w' o' c' k0 k1 k2 k3 k4 k5 k6 k7 k8 k9 => ?_)
    refine ⟨nr - (k + 1), by omega, m, k + 1, c', o', rfl, k0, ?_, k2, k3, k4, k5, k6, by omega, rfl, ?_, k8, hb.trans k9, Nat.le_trans hB k9.size⟩
    · rw [show e 8 = q 8 from g8, show e 9 = q 9 from g9, show e 17 = q 17 from g17, show e 18 = q 18 from g18, show e 125 = q 125 from g125, show e 126 = q 126 from g126, show e 127 = q 127 from g127] at k1; exact k1
    · rw [List.take_succ_eq_append_getElem (by omega), List.map_append, ← List.append_assoc]
      exact k7
  · obtain rfl : k = nr := by omega
    rw [h21, h148, h149, h150]
    rw [List.take_of_length_le (by omega)] at hown
    have hlen : (L0 ++ r.map (at_ + ·)).length = L0.length + k := by rw [List.length_append, List.length_map, hr]
    refine pa_inx e (fun m k0 k1 k2 => hQ m w o c k0 ?_ ?_ ?_ hb hB)
    · rw [show e 8 = q 8 from g8, show e 9 = q 9 from g9, show e 17 = q 17 from g17, show e 18 = q 18 from g18, show e 125 = q 125 from g125, show e 126 = q 126 from g126, show e 127 = q 127 from g127] at k1; exact k1
    · rw [hlen, k2, h19]
    · rw [hlen]; exact hown
end Go.Proofs.YtnhjakdmbfadlaaDoor

namespace Go.Proofs.YtnhjakdmbfadlaaDoor
open Go.RowKit Wy Mem Grow

/-- what holds in region 20: which operations have run -/
def pb20 (W : World) (n : Nat) (l : List Nat) (er : Int) (s4 s5 s6 s8 : Bool) (u4 u5 u6 u8 : Value) (w' : World) : Prop :=
  Below W.heap.size W w' ∧ (s4 = true → ∃ o c, u4 = .tuple #[.slice o n c, .int .i64 er] ∧ Row (fun b => W.heap.size ≤ b) w' (.slice o n c) n 1 (intCs l) ∧ (s5 = true → u5 = .tuple #[.slice o n c, .int .i64 er]) ∧ (s6 = true → u6 = .slice o n c) ∧ (s8 = true → u8 = .slice o n c))
set_option maxHeartbeats 8000000 in
set_option maxRecDepth 100000 in
theorem pb_round {B i np pb po cp nL cw at_ nr yb n1 d1 n2 d2 : Nat} {ow p1 p2 : Option Addr} {k lo hi er er4 : Int} {lz : Bool} {s : ByteArray} {L0 r : List Nat} {W : World} {J : Act → World → Prop} {Q : Exit → Act → World → Prop} (e : Nat → Value)
    (hin : i < np) (hnp : np ≤ 500) (hcp : np ≤ cp) (hat : at_ ≤ s.size) (hss : s.size ≤ 32) (hr : r.length = nr) (hnr : nr ≤ 500) (hrr : ∀ x ∈ r, x ≤ 64) (hnL : L0.length = nL) (hL : nL ≤ 250000) (hB : B ≤ W.heap.size) (her : er = 0 ∨ er = 5 ∧ er4 = 5)
    (hown : W.ownsRow B 3 1 (.slice ow nL cw) nL (intCs L0))
    (dp : W.cell? ⟨pb, po + i, none⟩ = some (.int .i64 at_)) (zp : pb < W.heap.size)
    (hy : Blk W yb #[.int .u8 k, .slice p1 n1 d1, .int .i64 lo, .int .i64 hi, .bool lz, .slice p2 n2 d2] 28)
    (hcall : ∀ w', Below W.heap.size W w' → Calls Tryd.prog 10 #[.agg #[.int .u8 k, .slice p1 n1 d1, .int .i64 lo, .int .i64 hi, .bool lz, .slice p2 n2 d2], .string (s.extract at_ s.size)] w' (Eoc nr r er w'))
    (hRet : ∀ (m : List Value) (w' : World), m.length = 174 → m[6]? = some (.bool true) → Below B W w' → Q .ret ⟨m.toArray, []⟩ w')
    (hJ : er = 0 → ∀ (m : List Value) (w' : World) (o' : Option Addr) (c' : Nat), m.length = 174 → m[8]? = some (.pointer (some ⟨yb, 0, none⟩)) → m[9]? = some (.string s) → m[17]? = some (e 17) → m[18]? = some (.int .i64 er4) → m[125]? = some (.slice (some ⟨pb, po, none⟩) np cp) → m[126]? = some (.int .i64 np) → m[127]? = some (.int .i64 ((i + 1 : Nat) : Int)) →
      m[19]? = some (.slice o' (L0 ++ r.map (at_ + ·)).length c') → w'.ownsRow B 3 1 (.slice o' (L0 ++ r.map (at_ + ·)).length c') (L0 ++ r.map (at_ + ·)).length (intCs (L0 ++ r.map (at_ + ·))) → Below B W w' → B ≤ w'.heap.size → J ⟨m.toArray, []⟩ w') :
    Code.wp Tryd.prog (paC [1, 1, 1, 1, 1, 1, 1, 1, 1, 1, 1, 0, 1, 0, 0]) (Exit.then J Q) ⟨#[e 0, e 1, e 2, e 3, e 4, e 5, e 6, e 7, .pointer (some ⟨yb, 0, none⟩), .string s, e 10, e 11, e 12, e 13, e 14, e 15, e 16, e 17, .int .i64 er4, .slice ow nL cw, e 20, e 21, e 22, e 23, e 24, e 25, e 26, e 27, e 28, e 29, e 30, e 31, e 32, e 33, e 34, e 35, e 36, e 37, e 38, e 39, e 40, e 41, e 42, e 43, e 44, e 45, e 46, e 47, e 48, e 49, e 50, e 51, e 52, e 53, e 54, e 55, e 56, e 57, e 58, e 59, e 60, e 61, e 62, e 63, e 64, e 65, e 66, e 67, e 68, e 69, e 70, e 71, e 72, e 73, e 74, e 75, e 76, e 77, e 78, e 79, e 80, e 81, e 82, e 83, e 84, e 85, e 86, e 87, e 88, e 89, e 90, e 91, e 92, e 93, e 94, e 95, e 96, e 97, e 98, e 99, e 100, e 101, e 102, e 103, e 104, e 105, e 106, e 107, e 108, e 109, e 110, e 111, e 112, e 113, e 114, e 115, e 116, e 117, e 118, e 119, e 120, e 121, e 122, e 123, e 124, .slice (some ⟨pb, po, none⟩) np cp, .int .i64 np, .int .i64 i, e 128, e 129, e 130, e 131, e 132, e 133, e 134, e 135, e 136, e 137, e 138, e 139, e 140, e 141, e 142, e 143, e 144, e 145, e 146, e 147, e 148, e 149, e 150, e 151, e 152, e 153, e 154, e 155, e 156, e 157, e 158, e 159, e 160, e 161, e 162, e 163, e 164, e 165, e 166, e 167, e 168, e 169, e 170, e 171, e 172, e 173], []⟩ W := by
  have hiI : (i : Int) < np := by omega
  have hnI : (np : Int) ≤ 500 := by omega
  have hcI : (np : Int) ≤ cp := by omega
  have haI : (at_ : Int) ≤ s.size := by omega
  have hsI : (s.size : Int) ≤ 32 := by omega
  have HY := Lib.hid hy
  have HC := Lib.hid hcall
  have HRET := Lib.hid hRet
  have HJ := Lib.hid hJ
  have HOWN := Lib.hid hown
  have HRR := Lib.hid hrr
  have HR := Lib.hid hr
  have HER := Lib.hid her
  have HNL := Lib.hid hnL
  have HB := Lib.hid hB
  clear hJ hRet hy hcall hown hrr hr her hnL hB
  conv => arg 2; whnf
  go_upto_region 20 with fail
  apply wp_flowX ?hm ?hok [some _, some _, some _, some _, none, none, none, some (.int .i64 er), none, some (.int .i64 er)] (fun S u w' => pb20 W nr r er (S 4) (S 5) (S 6) (S 8) (u 4) (u 5) (u 6) (u 8) w') ?hw ?h
  case hm => rfl
  case hok => kernel_rfl
  case hw => exact ⟨(Below.refl _ _).drew, fun e => (by cases e)⟩
  case h =>
    intro u
    iterate 4
      apply flowX_read rfl
      case hs => exact fun _ _ _ h => h
      case h =>
        intro S w hS hW K hK
        have BY := HY.out.below hW.1 HY.out.lt
        have b0 := BY.cell 0
        have b1 := BY.cell 1
        have b2 := BY.cell 2
        have b3 := BY.cell 3
        have b4 := BY.cell 4
        have b5 := BY.cell 5
        have bz := BY.lt
        clear BY hW hS
        go_wp2_with fail
        exact hK
      case' k => simp only [Act.put, List.setIfInBounds_toArray, List.set_cons_zero, List.set_cons_succ, Nat.reduceAdd]
    -- the call
    apply flowX_open rfl
    case h =>
      intro S w hS hW K hK
      have h5 := hS.last 5 (by kernel_rfl)
      have h6 := hS.last 6 (by kernel_rfl)
      have h8 := hS.last 8 (by kernel_rfl)
      have hC := HC.out w hW.1
      have hK' := fun o c w' (hx : Row (fun b => w.heap.size ≤ b) w' (.slice o nr c) nr 1 (intCs r)) hb => hK (.tuple #[.slice o nr c, .int .i64 er]) w' (by
        show pb20 W nr r er true (S 5) (S 6) (S 8) (.tuple #[.slice o nr c, .int .i64 er]) (u 5) (u 6) (u 8) w'
        exact ⟨hW.1.trans (Below.mono hb hW.1.size), fun _ => ⟨o, c, rfl, hx.mono (fun b hb => Nat.le_trans hW.1.size hb), fun e => Bool.noConfusion (h5.symm.trans e), fun e => Bool.noConfusion (h6.symm.trans e), fun e => Bool.noConfusion (h8.symm.trans e)⟩⟩)
      have HK := Lib.hid hK'
      have HC' := Lib.hid hC
      clear hS hW hK hK' h5 h6 h8 hC
      go_wp2_with (go_at_call 10; go_loud (refine HC'.out.mono ?_; rintro ee w' ⟨o, c, rfl, hx, hb'⟩))
      exact HK.out o c _ hx hb'
    case' k => simp only [Act.put, List.setIfInBounds_toArray, List.set_cons_zero, List.set_cons_succ, Nat.reduceAdd]
    -- the tuple
    apply flowX_open rfl
    case h =>
      intro S w hS hW K hK
      have h4 := hS.deps 4 (by kernel_rfl)
      have h6 := hS.last 6 (by kernel_rfl)
      have h8 := hS.last 8 (by kernel_rfl)
      obtain ⟨o, c, hu4, hx, -, -, -⟩ := hW.2 h4
      have hK' := hK (.tuple #[.slice o nr c, .int .i64 er]) w (by
        show pb20 W nr r er (S 4) true (S 6) (S 8) (u 4) (.tuple #[.slice o nr c, .int .i64 er]) (u 6) (u 8) w
        exact ⟨hW.1, fun _ => ⟨o, c, hu4, hx, fun _ => rfl, fun e => Bool.noConfusion (h6.symm.trans e), fun e => Bool.noConfusion (h8.symm.trans e)⟩⟩)
      rw [hu4] at hK' ⊢
      have HK := Lib.hid hK'
      clear hS hW hK hK' h4 h6 h8 hu4 hx
      go_wp2_with fail
      exact HK.out
    case' k => simp only [Act.put, List.setIfInBounds_toArray, List.set_cons_zero, List.set_cons_succ, Nat.reduceAdd]
    -- the ends
    apply flowX_open rfl
    case h =>
      intro S w hS hW K hK
      have h4 := hS.deps 4 (by kernel_rfl)
      have h5 := hS.deps 5 (by kernel_rfl)
      have h8 := hS.last 8 (by kernel_rfl)
      obtain ⟨o, c, hu4, hx, hu5, -, -⟩ := hW.2 h4
      have hu5 := hu5 h5
      have hK' := hK (.slice o nr c) w (by
        show pb20 W nr r er (S 4) (S 5) true (S 8) (u 4) (u 5) (.slice o nr c) (u 8) w
        exact ⟨hW.1, fun _ => ⟨o, c, hu4, hx, fun _ => hu5, fun _ => rfl, fun e => Bool.noConfusion (h8.symm.trans e)⟩⟩)
      rw [hu5] at hK' ⊢
      have HK := Lib.hid hK'
      clear hS hW hK hK' h4 h5 h8 hu4 hu5 hx
      go_wp2_with fail
      exact HK.out
    case' k => simp only [Act.put, List.setIfInBounds_toArray, List.set_cons_zero, List.set_cons_succ, Nat.reduceAdd]
    -- the error
    apply flowX_read rfl
    case hs => exact fun _ _ _ h => h
    case h =>
      intro S w hS hW K hK
      have h4 := hS.deps 4 (by kernel_rfl)
      have h5 := hS.deps 5 (by kernel_rfl)
      obtain ⟨o, c, hu4, hx, hu5, -, -⟩ := hW.2 h4
      have hu5 := hu5 h5
      rw [hu5] at hK ⊢
      have HK := Lib.hid hK
      clear hS hW hK h4 h5 hu4 hu5 hx
      go_wp2_with fail
      exact HK.out
    case' k => simp only [Act.put, List.setIfInBounds_toArray, List.set_cons_zero, List.set_cons_succ, Nat.reduceAdd]
    apply flowX_open rfl
    case h =>
      intro S w hS hW K hK
      have h4 := hS.deps 4 (by kernel_rfl)
      have h6 := hS.deps 6 (by kernel_rfl)
      obtain ⟨o, c, hu4, hx, hu5, hu6, -⟩ := hW.2 h4
      have hu6' := hu6 h6
      have hK' := hK (u 6) w (by
        show pb20 W nr r er (S 4) (S 5) (S 6) true (u 4) (u 5) (u 6) (u 6) w
        exact ⟨hW.1, fun _ => ⟨o, c, hu4, hx, hu5, hu6, fun _ => hu6'⟩⟩)
      have HK := Lib.hid hK'
      clear hS hW hK hK' h4 h6 hu4 hu5 hu6 hu6' hx
      go_wp2_with fail
      exact HK.out
    case' k => simp only [Act.put, List.setIfInBounds_toArray, List.set_cons_zero, List.set_cons_succ, Nat.reduceAdd]
    apply flowX_read rfl
    case hs => exact fun _ _ _ h => h
    case h =>
      intro S w hS hW K hK
      clear hS hW
      go_wp2_with fail
      exact hK
    case' k => simp only [Act.put, List.setIfInBounds_toArray, List.set_cons_zero, List.set_cons_succ, Nat.reduceAdd]
    refine flowX_end ?_
    intro S W2 hS hW
    obtain ⟨o, c, -, hx, -, -, hu8⟩ := hW.2 (hS 4 (by decide))
    have hu8 := hu8 (hS 8 (by decide))
    have hb2 := hW.1
    rw [hu8]
    have HX := Lib.hid hx
    have HB2 := Lib.hid hb2
    clear hS hW hu8 hx hb2
    rcases HER.out with rfl | ⟨rfl, rfl⟩
    · have HJ' := Lib.hid (HJ.out rfl)
      clear HJ
      go_wp2_with fail
      rename_i K1 hK1
      have hz := HB2.out.size
      have hbB := HB2.out.mono HB.out
      have hown2 : W2.ownsRow B 3 1 (.slice ow nL cw) nL (intCs L0) := ownsRow_go HOWN.out (Kept.of_below HB2.out (fun _ => False)) (fun _ _ => id)
      have hrow : Row (Apart (.slice ow nL cw)) W2 (.slice o nr c) nr 1 (intCs r) := HX.out.mono (fun b hb e => by have := (HOWN.out.lt b e).2; omega)
      have hBz : B ≤ W2.heap.size := Nat.le_trans HB.out hz
      have hnL := HNL.out
      subst hnL
      refine wp_loop_ghost (Lin B at_ nr c o r L0 (fun k => if k = 8 then .pointer (some ⟨yb, 0, none⟩) else if k = 9 then .string s else if k = 17 then e 17 else if k = 18 then .int .i64 er4 else if k = 125 then .slice (some ⟨pb, po, none⟩) np cp else if k = 126 then .int .i64 np else if k = 127 then .int .i64 i else undef) W2) (nr - 0) ?_ (fun j a w' hI => pa_inloop hI HR.out hnr (by omega) HRR.out hL ?_)
      · exact ⟨_, 0, cw, ow, rfl, rfl, ⟨rfl, rfl, rfl, rfl, rfl, rfl, rfl⟩, rfl, rfl, rfl, rfl, rfl, by omega, rfl, by simpa using hown2, hrow, Below.refl _ _, hBz⟩
      · intro m w' o' c' hm hkp h19 hown' hb' hz'
        obtain ⟨f, rfl⟩ := frame174 hm
        obtain ⟨g8, g9, g17, g18, g125, g126, g127⟩ := hkp
        have g8 := Option.some.inj g8
        have g9 := Option.some.inj g9
        have g17 := Option.some.inj g17
        have g18 := Option.some.inj g18
        have g125 := Option.some.inj g125
        have g126 := Option.some.inj g126
        have g127 := Option.some.inj g127
        have h19 := Option.some.inj h19
        have HF := Lib.hid (show _ ∧ _ ∧ _ from ⟨hown', hbB.trans hb', hz'⟩)
        have HG := Lib.hid (show _ ∧ _ ∧ _ ∧ _ ∧ _ ∧ _ ∧ _ from ⟨g8, g9, g17, g18, g125, g126, h19⟩)
        clear hown' hb' hz' hm g8 g9 g17 g18 g125 g126 h19 hown2 hrow hbB
        rw [g127]
        refine hK1 _ _ ?_
        go_wp2_with fail
        have G := HG.out
        exact HJ'.out _ _ _ _ rfl (congrArg some G.1) (congrArg some G.2.1) (congrArg some G.2.2.1) (congrArg some G.2.2.2.1) (congrArg some G.2.2.2.2.1) (congrArg some G.2.2.2.2.2.1) rfl (congrArg some G.2.2.2.2.2.2) HF.out.1 HF.out.2.1 HF.out.2.2
    · have HRET' := Lib.hid (fun (m : List Value) hm h6 => HRET.out m W2 hm h6 (HB2.out.mono HB.out))
      go_wp2_with fail
      exact HRET'.out _ rfl rfl
end Go.Proofs.YtnhjakdmbfadlaaDoor

namespace Go.Proofs.YtnhjakdmbfadlaaDoor
open Go.RowKit Wy Mem Grow

theorem eE_none {s : ByteArray} {t : Nd} (h : erW s t = 5) : eE s t = [] := by
  have h1 := none_of h
  rw [ends_ways] at h1
  unfold eE lA
  cases hw : Wy.ways (strS s) t with
  | none => rfl
  | some l => rw [hw] at h1; cases h1
theorem eE_le {s : ByteArray} {t : Nd} (hv : Lib.validD s.data.toList = true) : ∀ q ∈ eE s t, q ≤ s.size := by
  intro q hq
  rcases er_cases s t with h | h
  · exact (eE_valid hv h hq).1
  · rw [eE_none h] at hq; cases hq
set_option maxHeartbeats 8000000 in
set_option maxRecDepth 100000 in
theorem pb_exit {np : Nat} {W : World} {J : Act → World → Prop} {Q : Exit → Act → World → Prop} (e : Nat → Value)
    (hJ : ∀ (m : List Value), m.length = 174 → m[17]? = some (e 17) → m[18]? = some (e 18) → m[19]? = some (e 19) → Q (.exit 0) ⟨m.toArray, []⟩ W) :
    Code.wp Tryd.prog (paC [1, 1, 1, 1, 1, 1, 1, 1, 1, 1, 1, 0, 1, 0, 0]) (Exit.then J Q) ⟨#[e 0, e 1, e 2, e 3, e 4, e 5, e 6, e 7, e 8, e 9, e 10, e 11, e 12, e 13, e 14, e 15, e 16, e 17, e 18, e 19, e 20, e 21, e 22, e 23, e 24, e 25, e 26, e 27, e 28, e 29, e 30, e 31, e 32, e 33, e 34, e 35, e 36, e 37, e 38, e 39, e 40, e 41, e 42, e 43, e 44, e 45, e 46, e 47, e 48, e 49, e 50, e 51, e 52, e 53, e 54, e 55, e 56, e 57, e 58, e 59, e 60, e 61, e 62, e 63, e 64, e 65, e 66, e 67, e 68, e 69, e 70, e 71, e 72, e 73, e 74, e 75, e 76, e 77, e 78, e 79, e 80, e 81, e 82, e 83, e 84, e 85, e 86, e 87, e 88, e 89, e 90, e 91, e 92, e 93, e 94, e 95, e 96, e 97, e 98, e 99, e 100, e 101, e 102, e 103, e 104, e 105, e 106, e 107, e 108, e 109, e 110, e 111, e 112, e 113, e 114, e 115, e 116, e 117, e 118, e 119, e 120, e 121, e 122, e 123, e 124, e 125, .int .i64 np, .int .i64 np, e 128, e 129, e 130, e 131, e 132, e 133, e 134, e 135, e 136, e 137, e 138, e 139, e 140, e 141, e 142, e 143, e 144, e 145, e 146, e 147, e 148, e 149, e 150, e 151, e 152, e 153, e 154, e 155, e 156, e 157, e 158, e 159, e 160, e 161, e 162, e 163, e 164, e 165, e 166, e 167, e 168, e 169, e 170, e 171, e 172, e 173], []⟩ W := by
  have HJ := Lib.hid hJ
  clear hJ
  conv => arg 2; whnf
  go_wp2_with fail
  exact HJ.out _ rfl rfl rfl rfl
def Lout (np cp yb : Nat) (opp : Option Addr) (er4 : Int) (vcat : Value) (s : ByteArray) (x y : Nd) (W1 : World) (j : Nat) (a : Act) (w : World) : Prop := ∃ (m : List Value) (i c : Nat) (o : Option Addr) (L0 : List Nat), a = ⟨m.toArray, []⟩ ∧ m.length = 174 ∧ m[8]? = some (.pointer (some ⟨yb, 0, none⟩)) ∧ m[9]? = some (.string s) ∧ m[17]? = some vcat ∧ m[18]? = some (.int .i64 er4) ∧ m[125]? = some (.slice opp np cp) ∧ m[126]? = some (.int .i64 np) ∧ m[127]? = some (.int .i64 i) ∧ m[19]? = some (.slice o L0.length c) ∧ i ≤ np ∧ j = np - i ∧ Gat s x y i L0 ∧
  w.ownsRow W1.heap.size 3 1 (.slice o L0.length c) L0.length (intCs L0) ∧ Below W1.heap.size W1 w ∧ W1.heap.size ≤ w.heap.size
set_option maxRecDepth 100000 in
theorem pb_loop {np cp yb n1 d1 n2 d2 j : Nat} {opp p1 p2 : Option Addr} {k lo hi er4 : Int} {lz : Bool} {s : ByteArray} {x y : Nd} {vcat : Value} {W1 w : World} {a : Act} {Q : Exit → Act → World → Prop} (hI : Lout np cp yb opp er4 vcat s x y W1 j a w)
    (hp : Row (fun _ => True) W1 (.slice opp np cp) np 1 (intCs (eE s x))) (hnp : np = (eE s x).length) (hx : erW s x = 0) (hv : Lib.validD s.data.toList = true) (hss : s.size ≤ 24) (her4 : er4 = erW s (catT x y))
    (hy : Blk W1 yb #[.int .u8 k, .slice p1 n1 d1, .int .i64 lo, .int .i64 hi, .bool lz, .slice p2 n2 d2] 28) (hnd : NdAt (fun _ => True) W1 y [.int .u8 k, .slice p1 n1 d1, .int .i64 lo, .int .i64 hi, .bool lz, .slice p2 n2 d2]) (hry : right y = true) (hno : nodes y ≤ 1000000) (htab : Lib.Utf8Tabs 0 1 W1) (hnone : NoneAt W1)
    (hRet : ∀ (m : List Value) (w' : World), m.length = 174 → m[6]? = some (.bool true) → Below W1.heap.size W1 w' → Q .ret ⟨m.toArray, []⟩ w')
    (hQ : ∀ (m : List Value) (w' : World) (L0 : List Nat) (o : Option Addr) (c : Nat), m.length = 174 → m[17]? = some vcat → m[18]? = some (.int .i64 er4) → m[19]? = some (.slice o L0.length c) → Gat s x y np L0 → w'.ownsRow W1.heap.size 3 1 (.slice o L0.length c) L0.length (intCs L0) → Below W1.heap.size W1 w' → Q (.exit 0) ⟨m.toArray, []⟩ w') :
    Code.wp Tryd.prog (paC [1, 1, 1, 1, 1, 1, 1, 1, 1, 1, 1, 0, 1, 0, 0]) (Exit.then (fun a' w' => ∃ j', j' < j ∧ Lout np cp yb opp er4 vcat s x y W1 j' a' w') Q) a w := by
  obtain ⟨m, i, c, o, L0, rfl, hm, h8, h9, h17, h18, h125, h126, h127, h19, hi', hj, hg, hown, hb, hB⟩ := hI
  obtain ⟨e, rfl⟩ := frame174 hm
  have h8 := Option.some.inj h8
  have h9 := Option.some.inj h9
  have h17 := Option.some.inj h17
  have h18 := Option.some.inj h18
  have h125 := Option.some.inj h125
  have h126 := Option.some.inj h126
  have h127 := Option.some.inj h127
  have h19 := Option.some.inj h19
  have hnp5 : np ≤ 500 := by rw [hnp]; exact eE_len _ _
  by_cases hin : i < np
  · rcases hp.at_ with ⟨h0, _⟩ | ⟨pb, po, cp', he, g1, g2, g3, g4, g5⟩
    · omega
    simp only [Value.slice.injEq, true_and] at he
    obtain ⟨rfl, rfl⟩ := he
    have hil : i < (eE s x).length := by omega
    have hd := g5 i (by simp [intCs]; omega)
    have hrk : (intCs (eE s x))[i]? = some (.int .i64 (((eE s x)[i]'hil : Nat) : Int)) := by simp [intCs, hil]
    rw [hrk] at hd
    obtain ⟨hle, hva⟩ := eE_valid hv hx (List.getElem_mem hil)
    obtain ⟨at_, hat⟩ : ∃ z, z = (eE s x)[i]'hil := ⟨_, rfl⟩
    rw [← hat] at hd hle hva
    have hrs : (restS s at_).size ≤ 24 := by rw [restS_size s at_ hle]; omega
    have hgl := gat_len (by omega) hg
    have hL : L0.length ≤ 250000 := by have : 500 * i ≤ 500 * 500 := Nat.mul_le_mul_left _ (by omega); omega
    have her : erW (restS s at_) y = 0 ∨ erW (restS s at_) y = 5 ∧ er4 = 5 := by
      rcases er_cases (restS s at_) y with h | h
      · exact .inl h
      · exact .inr ⟨h, by rw [her4]; exact gat_stop hx hil (by rw [← hat]; exact h)⟩
    have kb := Kept.of_below hb (fun _ => False)
    rw [h8, h9, h18, h19, h125, h126, h127]
    refine pb_round (at_ := at_) (r := eE (restS s at_) y) (er := erW (restS s at_) y) (L0 := L0) e hin hnp5 g1 hle (by omega) rfl (eE_len _ _) (fun q hq => by have := eE_le hva q hq; omega) rfl hL hB her hown ((hb.cell (p := ⟨pb, po + i, none⟩) g4).trans hd) (Nat.lt_of_lt_of_le g4 hB) (hy.below hb hy.lt)
      (fun w' hb' => eoc_any (NdAt.go (Kept.of_below (hb.trans (hb'.mono hB)) (fun _ => False)) (fun _ _ h => ⟨id, h⟩) hnd) hry hno (by show (restS s at_).size ≤ 32; omega) hva (tabs_below htab hnone (hb.trans (hb'.mono hB))) (hnone.below (hb.trans (hb'.mono hB))) rfl rfl rfl)
      (fun m w' k0 k1 k2 => hRet m w' k0 k1 (hb.trans k2))
      (fun her0 m w' o' c' k0 k1 k2 k3 k4 k5 k6 k7 k8 k9 k10 k11 => ?_)
    have hg2 := gat_next hg hil (by rw [← hat]; exact her0)
    rw [← hat] at hg2
    exact ⟨np - (i + 1), by omega, m, i + 1, c', o', L0 ++ (eE (restS s at_) y).map (at_ + ·), rfl, k0, k1, k2, by rw [k3, h17], k4, k5, k6, k7, k8, by omega, rfl, hg2, k9, hb.trans k10, k11⟩
  · obtain rfl : i = np := by omega
    rw [h126, h127]
    exact pb_exit e (fun m k0 k1 k2 k3 => hQ m w L0 o c k0 (by rw [k1, h17]) (by rw [k2, h18]) (by rw [k3, h19]) hg hown hb)
set_option maxHeartbeats 8000000 in
set_option maxRecDepth 100000 in
theorem pc_tail {np cp yb n1 d1 n2 d2 nc cc : Nat} {opp oc p1 p2 : Option Addr} {k lo hi er4 : Int} {lz : Bool} {s : ByteArray} {x y : Nd} {W1 : World} {Q : Exit → Act → World → Prop} (e : Nat → Value)
    (hp : Row (fun _ => True) W1 (.slice opp np cp) np 1 (intCs (eE s x))) (hnp : np = (eE s x).length) (hx : erW s x = 0) (hv : Lib.validD s.data.toList = true) (hss : s.size ≤ 24) (her4 : er4 = erW s (catT x y))
    (hc : Row (fun _ => True) W1 (.slice oc nc cc) nc 1 (intCs (eE s (catT x y)))) (hnc : nc = (eE s (catT x y)).length)
    (hy : Blk W1 yb #[.int .u8 k, .slice p1 n1 d1, .int .i64 lo, .int .i64 hi, .bool lz, .slice p2 n2 d2] 28) (hnd : NdAt (fun _ => True) W1 y [.int .u8 k, .slice p1 n1 d1, .int .i64 lo, .int .i64 hi, .bool lz, .slice p2 n2 d2]) (hry : right y = true) (hno : nodes y ≤ 1000000) (htab : Lib.Utf8Tabs 0 1 W1) (hnone : NoneAt W1)
    (hRet : ∀ (m : List Value) (w' : World), m.length = 174 → m[6]? = some (.bool true) → Below W1.heap.size W1 w' → Q .ret ⟨m.toArray, []⟩ w') :
    Code.wp Tryd.prog (paC [1, 1, 1, 1, 1, 1, 1, 1, 1, 1]) Q ⟨#[e 0, e 1, e 2, e 3, e 4, e 5, e 6, e 7, .pointer (some ⟨yb, 0, none⟩), .string s, .slice opp np cp, e 11, e 12, e 13, e 14, e 15, e 16, .slice oc nc cc, .int .i64 er4, e 19, e 20, e 21, e 22, e 23, e 24, e 25, e 26, e 27, e 28, e 29, e 30, e 31, e 32, e 33, e 34, e 35, e 36, e 37, e 38, e 39, e 40, e 41, e 42, e 43, e 44, e 45, e 46, e 47, e 48, e 49, e 50, e 51, e 52, e 53, e 54, e 55, e 56, e 57, e 58, e 59, e 60, e 61, e 62, e 63, e 64, e 65, e 66, e 67, e 68, e 69, e 70, e 71, e 72, e 73, e 74, e 75, e 76, e 77, e 78, e 79, e 80, e 81, e 82, e 83, e 84, e 85, e 86, e 87, e 88, e 89, e 90, e 91, e 92, e 93, e 94, e 95, e 96, e 97, e 98, e 99, e 100, e 101, e 102, e 103, e 104, e 105, e 106, e 107, e 108, e 109, e 110, e 111, e 112, e 113, e 114, e 115, e 116, e 117, e 118, e 119, e 120, e 121, e 122, e 123, e 124, e 125, e 126, e 127, e 128, e 129, e 130, e 131, e 132, e 133, e 134, e 135, e 136, e 137, e 138, e 139, e 140, e 141, e 142, e 143, e 144, e 145, e 146, e 147, e 148, e 149, e 150, e 151, e 152, e 153, e 154, e 155, e 156, e 157, e 158, e 159, e 160, e 161, e 162, e 163, e 164, e 165, e 166, e 167, e 168, e 169, e 170, e 171, e 172, e 173], []⟩ W1 := by
  have H := Lib.hid (show _ ∧ _ ∧ _ ∧ _ ∧ _ ∧ _ ∧ _ ∧ _ ∧ _ ∧ _ from ⟨hp, hx, hv, her4, hc, hnc, hy, hnd, htab, hnone⟩)
  have HNP := Lib.hid hnp
  have HRY := Lib.hid hry
  have HNO := Lib.hid hno
  have HRET := Lib.hid hRet
  have HS := Lib.hid hss
  clear hp hnp hx hv hss her4 hc hnc hy hnd hry hno htab hnone hRet
  conv => arg 2; whnf
  go_wp2_with fail
  rename_i K1 hK1
  obtain ⟨hp, hx, hv, her4, hc, hnc, hy, hnd, htab, hnone⟩ := H.out
  refine wp_loop_ghost (Lout np cp yb opp er4 (.slice oc nc cc) s x y W1) (np - 0) ?_ (fun j a w' hI => pb_loop hI hp HNP.out hx hv HS.out her4 hy hnd HRY.out HNO.out htab hnone (fun m w' k0 k1 k2 => HRET.out m w' k0 k1 k2) ?_)
  · exact ⟨_, 0, 0, none, [], rfl, rfl, rfl, rfl, rfl, rfl, rfl, rfl, rfl, rfl, by omega, rfl, gat_zero s x y, World.ownsRow_nil _ _ _ _, Below.refl _ _, Nat.le_refl _⟩
  · intro m w' L0 o c hm h17 h18 h19 hg hown hb
    obtain ⟨f, rfl⟩ := frame174 hm
    have h17 := Option.some.inj h17
    have h18 := Option.some.inj h18
    have h19 := Option.some.inj h19
    rw [HNP.out] at hg
    have hgl := gat_len (Nat.le_refl _) hg
    have hxl := eE_len s x
    have hL : L0.length ≤ 250000 := by have : 500 * (eE s x).length ≤ 500 * 500 := Nat.mul_le_mul_left _ hxl; omega
    have hcl := eE_len s (catT x y)
    rw [h17, h18, h19]
    have HB := Lib.hid hb
    obtain ⟨nL, hnL⟩ : ∃ z, z = L0.length := ⟨_, rfl⟩
    refine hK1 _ _ ?_
    by_cases h5 : L0.length ≤ 500
    · obtain ⟨hce, he0⟩ := gat_end hx hg h5
      rw [he0] at her4
      subst her4
      have hr1 : Row (fun _ => True) w' (.slice oc nc cc) L0.length 1 (intCs L0) := by
        have := RowGo hc (Kept.of_below hb (fun _ => False)) (M := fun _ => True) (fun _ _ h => ⟨id, h⟩)
        rw [hce] at this hnc
        rw [hnc] at this ⊢
        exact this
      have hr2 : Row (fun _ => True) w' (.slice o L0.length c) L0.length 1 (intCs L0) := rowOwn hown (fun _ _ => trivial)
      have heq := equalI_any hr1 hr2 (by omega) (by omega)
      rw [decide_eq_true rfl] at heq
      have hnLI : (nL : Int) ≤ 500 := by omega
      rw [← hnL] at heq ⊢
      have HEQ := Lib.hid heq
      clear hp hx hv hc hnc hy hnd htab hnone H HNP HRY HNO HS hm h17 h18 h19 hg hown hb hgl hxl hL hcl hce he0 hr1 hr2 heq h5 hnL
      go_wp2_with (go_at_call 12; go_loud (refine HEQ.out.mono ?_; rintro ee w12 ⟨rfl, hb12⟩; have HB2 := Lib.hid (HB.out.trans (hb12.mono HB.out.size)); clear hb12))
      exact HRET.out _ _ rfl rfl HB2.out
    · have he5 := gat_many hx hg h5
      rw [he5] at her4
      subst her4
      have hnLI : (500 : Int) < nL := by omega
      rw [← hnL]
      clear hp hx hv hc hnc hy hnd htab hnone H HNP HRY HNO HS hm h17 h18 h19 hg hown hb hgl hxl hL hcl he5 h5 hnL
      go_wp2_with fail
      exact HRET.out _ _ rfl rfl HB.out
end Go.Proofs.YtnhjakdmbfadlaaDoor

namespace Go.Proofs.YtnhjakdmbfadlaaDoor
open Go.RowKit Wy Mem Grow

set_option maxHeartbeats 8000000 in
set_option maxRecDepth 100000 in
theorem pc_mid1 {np cp nq cq na ca : Nat} {opp oq oa : Option Addr} {er3 : Int} {l1 l2 l3 : List Nat} {W1 : World} {J : Act → World → Prop} {Q : Exit → Act → World → Prop} (e : Nat → Value)
    (hp : Row (fun _ => True) W1 (.slice opp np cp) np 1 (intCs l1)) (hnp : np = l1.length) (hq : Row (fun _ => True) W1 (.slice oq nq cq) nq 1 (intCs l2)) (hnq : nq = l2.length) (ha : Row (fun _ => True) W1 (.slice oa na ca) na 1 (intCs l3)) (hna : na = l3.length)
    (h1 : np ≤ 500) (h2 : nq ≤ 500) (h3 : na ≤ 500) (her : (np + nq ≤ 500 ∧ er3 = 0 ∧ l3 = l1 ++ l2) ∨ (¬ np + nq ≤ 500 ∧ er3 = 5))
    (hJ : ∀ (m : List Value) (w' : World), m.length = 174 → (m[8]? = some (e 8) ∧ m[9]? = some (e 9) ∧ m[10]? = some (.slice opp np cp) ∧ m[17]? = some (e 17) ∧ m[18]? = some (e 18)) → Below W1.heap.size W1 w' → J ⟨m.toArray, []⟩ w') :
    Code.wp Tryd.prog (paC [1, 1, 1, 1, 1, 1, 1, 1, 1, 0]) (Exit.then J Q) ⟨#[e 0, e 1, e 2, e 3, e 4, e 5, e 6, e 7, e 8, e 9, .slice opp np cp, e 11, .slice oq nq cq, e 13, e 14, .slice oa na ca, .int .i64 er3, e 17, e 18, e 19, e 20, e 21, e 22, e 23, e 24, e 25, e 26, e 27, e 28, e 29, e 30, e 31, e 32, e 33, e 34, e 35, e 36, e 37, e 38, e 39, e 40, e 41, e 42, e 43, e 44, e 45, e 46, e 47, e 48, e 49, e 50, e 51, e 52, e 53, e 54, e 55, e 56, e 57, e 58, e 59, e 60, e 61, e 62, e 63, e 64, e 65, e 66, e 67, e 68, e 69, e 70, e 71, e 72, e 73, e 74, e 75, e 76, e 77, e 78, e 79, e 80, e 81, e 82, e 83, e 84, e 85, e 86, e 87, e 88, e 89, e 90, e 91, e 92, e 93, e 94, e 95, e 96, e 97, e 98, e 99, e 100, e 101, e 102, e 103, e 104, e 105, e 106, e 107, e 108, e 109, e 110, e 111, e 112, e 113, e 114, e 115, e 116, e 117, e 118, e 119, e 120, e 121, e 122, e 123, e 124, e 125, e 126, e 127, e 128, e 129, e 130, e 131, e 132, e 133, e 134, e 135, e 136, e 137, e 138, e 139, e 140, e 141, e 142, e 143, e 144, e 145, e 146, e 147, e 148, e 149, e 150, e 151, e 152, e 153, e 154, e 155, e 156, e 157, e 158, e 159, e 160, e 161, e 162, e 163, e 164, e 165, e 166, e 167, e 168, e 169, e 170, e 171, e 172, e 173], []⟩ W1 := by
  have HJ := Lib.hid hJ
  clear hJ
  rcases her with ⟨hs, rfl, rfl⟩ | ⟨hs, rfl⟩
  · have hsI : (np : Int) + nq ≤ 500 := by omega
    have hB : Blk (W1.alloc (.cells #[.slice opp np cp, .slice oq nq cq] 35)) W1.heap.size #[.slice opp np cp, .slice oq nq cq] 35 := Blk.new _ _ _
    have kb := (Kept.refl (fun _ => False) W1).alloc (.cells #[.slice opp np cp, .slice oq nq cq] 35)
    have hp1 := RowGo hp kb (M := fun _ => True) (fun _ _ h => ⟨id, h⟩)
    have hq1 := RowGo hq kb (M := fun _ => True) (fun _ _ h => ⟨id, h⟩)
    have hb0 : Below W1.heap.size W1 (W1.alloc (.cells #[.slice opp np cp, .slice oq nq cq] 35)) := (Below.refl _ _).alloc (Nat.le_refl _) _
    have hcon := concat_any hB (by rw [← hnp]; exact hp1) (by rw [← hnq]; exact hq1) (by omega) (by omega)
    rw [show intCs l1 ++ intCs l2 = intCs (l1 ++ l2) by simp [intCs]] at hcon
    have heq : ∀ (w' : World) (v : Value) (b' : Nat), Below W1.heap.size W1 w' → w'.ownsRow b' 3 1 v (intCs (l1 ++ l2)).length (intCs (l1 ++ l2)) → Calls Tryd.prog 12 #[.slice oa na ca, v] w' (Eqs true w') := fun w' v b' hb ho => by
      have hr := RowGo ha (Kept.of_below hb (fun _ => False)) (M := fun _ => True) (fun _ _ h => ⟨id, h⟩)
      have hr2 : Row (fun _ => True) w' v (intCs (l1 ++ l2)).length 1 (intCs (l1 ++ l2)) := rowOwn ho (fun _ _ => trivial)
      rw [show (intCs (l1 ++ l2)).length = (l1 ++ l2).length by simp [intCs]] at hr2
      have := equalI_any (l := l1 ++ l2) (m := l1 ++ l2) (by rw [← hna]; exact hr) hr2 (by omega) (by omega)
      rw [decide_eq_true rfl] at this
      exact this
    have HC := Lib.hid hcon
    have HE := Lib.hid heq
    have HB0 := Lib.hid hb0
    clear hp hq ha hB kb hp1 hq1 hb0 hcon heq hnp hnq hna
    conv => arg 2; whnf
    go_wp2_with (first
      | (go_at_call 20; go_loud (refine HC.out.mono ?_; rintro ee w2 ⟨v, rfl, ho, hb2⟩; have HO := Lib.hid ho; have HB2 := Lib.hid (HB0.out.trans (hb2.mono HB0.out.size)); clear ho hb2))
      | (go_at_call 12; go_loud (refine (HE.out _ _ _ HB2.out HO.out).mono ?_; rintro ee w3 ⟨rfl, hb3⟩; have HB3 := Lib.hid (HB2.out.trans (hb3.mono HB2.out.size)); clear hb3)))
    exact HJ.out _ _ rfl ⟨rfl, rfl, rfl, rfl, rfl⟩ HB3.out
  · have hsI : (500 : Int) < (np : Int) + nq := by omega
    clear hp hq ha hnp hnq hna
    conv => arg 2; whnf
    go_wp2_with fail
    exact HJ.out _ _ rfl ⟨rfl, rfl, rfl, rfl, rfl⟩ (Below.refl _ _)
set_option maxHeartbeats 8000000 in
set_option maxRecDepth 100000 in
theorem pc_mid0 {er1 er2 er3 er4 : Int} {W1 : World} {J : Act → World → Prop} {Q : Exit → Act → World → Prop} (e : Nat → Value)
    (her : (er1 = 5 ∧ er3 = 5 ∧ er4 = 5 ∧ (er2 = 0 ∨ er2 = 5)) ∨ (er1 = 0 ∧ er2 = 5 ∧ er3 = 5) ∨ (er1 = 0 ∧ er2 = 0))
    (hRet : ∀ (m : List Value), m.length = 174 → m[6]? = some (.bool true) → Q .ret ⟨m.toArray, []⟩ W1)
    (hJ : er1 = 0 → er2 = 0 → ∀ (m : List Value), m.length = 174 → (m[8]? = some (e 8) ∧ m[9]? = some (e 9) ∧ m[10]? = some (e 10) ∧ m[12]? = some (e 12) ∧ m[15]? = some (e 15) ∧ m[16]? = some (.int .i64 er3) ∧ m[17]? = some (e 17) ∧ m[18]? = some (.int .i64 er4)) → J ⟨m.toArray, []⟩ W1) :
    Code.wp Tryd.prog (paC [1, 1, 1, 1, 1, 1, 1, 1, 0]) (Exit.then J Q) ⟨#[e 0, e 1, e 2, e 3, e 4, e 5, e 6, e 7, e 8, e 9, e 10, .int .i64 er1, e 12, .int .i64 er2, e 14, e 15, .int .i64 er3, e 17, .int .i64 er4, e 19, e 20, e 21, e 22, e 23, e 24, e 25, e 26, e 27, e 28, e 29, e 30, e 31, e 32, e 33, e 34, e 35, e 36, e 37, e 38, e 39, e 40, e 41, e 42, e 43, e 44, e 45, e 46, e 47, e 48, e 49, e 50, e 51, e 52, e 53, e 54, e 55, e 56, e 57, e 58, e 59, e 60, e 61, e 62, e 63, e 64, e 65, e 66, e 67, e 68, e 69, e 70, e 71, e 72, e 73, e 74, e 75, e 76, e 77, e 78, e 79, e 80, e 81, e 82, e 83, e 84, e 85, e 86, e 87, e 88, e 89, e 90, e 91, e 92, e 93, e 94, e 95, e 96, e 97, e 98, e 99, e 100, e 101, e 102, e 103, e 104, e 105, e 106, e 107, e 108, e 109, e 110, e 111, e 112, e 113, e 114, e 115, e 116, e 117, e 118, e 119, e 120, e 121, e 122, e 123, e 124, e 125, e 126, e 127, e 128, e 129, e 130, e 131, e 132, e 133, e 134, e 135, e 136, e 137, e 138, e 139, e 140, e 141, e 142, e 143, e 144, e 145, e 146, e 147, e 148, e 149, e 150, e 151, e 152, e 153, e 154, e 155, e 156, e 157, e 158, e 159, e 160, e 161, e 162, e 163, e 164, e 165, e 166, e 167, e 168, e 169, e 170, e 171, e 172, e 173], []⟩ W1 := by
  rcases her with ⟨rfl, rfl, rfl, rfl | rfl⟩ | ⟨rfl, rfl, rfl⟩ | ⟨rfl, rfl⟩
  · have HR := Lib.hid hRet
    clear hRet hJ
    conv => arg 2; whnf
    go_wp2_with fail
    exact HR.out _ rfl rfl
  · have HR := Lib.hid hRet
    clear hRet hJ
    conv => arg 2; whnf
    go_wp2_with fail
    exact HR.out _ rfl rfl
  · have HR := Lib.hid hRet
    clear hRet hJ
    conv => arg 2; whnf
    go_wp2_with fail
    exact HR.out _ rfl rfl
  · have HJ := Lib.hid (hJ rfl rfl)
    clear hRet hJ
    conv => arg 2; whnf
    go_wp2_with fail
    exact HJ.out _ rfl ⟨rfl, rfl, rfl, rfl, rfl, rfl, rfl, rfl⟩
set_option maxRecDepth 100000 in
theorem pc_mid {np cp nq cq na ca nc cc yb n1 d1 n2 d2 : Nat} {opp oq oa oc p1 p2 : Option Addr} {k lo hi er1 er2 er3 er4 : Int} {lz : Bool} {s : ByteArray} {x y : Nd} {W1 : World} {Q : Exit → Act → World → Prop} (m : List Value) (hm : m.length = 174)
    (g8 : m[8]? = some (.pointer (some ⟨yb, 0, none⟩))) (g9 : m[9]? = some (.string s)) (g10 : m[10]? = some (.slice opp np cp)) (g11 : m[11]? = some (.int .i64 er1)) (g12 : m[12]? = some (.slice oq nq cq)) (g13 : m[13]? = some (.int .i64 er2)) (g15 : m[15]? = some (.slice oa na ca)) (g16 : m[16]? = some (.int .i64 er3)) (g17 : m[17]? = some (.slice oc nc cc)) (g18 : m[18]? = some (.int .i64 er4))
    (hp : Row (fun _ => True) W1 (.slice opp np cp) np 1 (intCs (eE s x))) (hnp : np = (eE s x).length) (hq : Row (fun _ => True) W1 (.slice oq nq cq) nq 1 (intCs (eE s y))) (hnq : nq = (eE s y).length) (ha : Row (fun _ => True) W1 (.slice oa na ca) na 1 (intCs (eE s (altT x y)))) (hna : na = (eE s (altT x y)).length) (hc : Row (fun _ => True) W1 (.slice oc nc cc) nc 1 (intCs (eE s (catT x y)))) (hnc : nc = (eE s (catT x y)).length)
    (her1 : er1 = erW s x) (her2 : er2 = erW s y) (her3 : er3 = erW s (altT x y)) (her4 : er4 = erW s (catT x y)) (hv : Lib.validD s.data.toList = true) (hss : s.size ≤ 24)
    (hy : Blk W1 yb #[.int .u8 k, .slice p1 n1 d1, .int .i64 lo, .int .i64 hi, .bool lz, .slice p2 n2 d2] 28) (hnd : NdAt (fun _ => True) W1 y [.int .u8 k, .slice p1 n1 d1, .int .i64 lo, .int .i64 hi, .bool lz, .slice p2 n2 d2]) (hry : right y = true) (hno : nodes y ≤ 1000000) (htab : Lib.Utf8Tabs 0 1 W1) (hnone : NoneAt W1)
    (hRet : ∀ (m : List Value) (w' : World), m.length = 174 → m[6]? = some (.bool true) → Below W1.heap.size W1 w' → Q .ret ⟨m.toArray, []⟩ w') :
    Code.wp Tryd.prog (paC [1, 1, 1, 1, 1, 1, 1, 1]) Q ⟨m.toArray, []⟩ W1 := by
  obtain ⟨e, rfl⟩ := frame174 hm
  have g8 := Option.some.inj g8
  have g9 := Option.some.inj g9
  have g10 := Option.some.inj g10
  have g11 := Option.some.inj g11
  have g12 := Option.some.inj g12
  have g13 := Option.some.inj g13
  have g15 := Option.some.inj g15
  have g16 := Option.some.inj g16
  have g17 := Option.some.inj g17
  have g18 := Option.some.inj g18
  rw [g11, g13, g16, g18]
  show Code.wp Tryd.prog (Code.seq (paC [1, 1, 1, 1, 1, 1, 1, 1, 0]) (paC [1, 1, 1, 1, 1, 1, 1, 1, 1])) Q _ _
  refine wp_seq (pc_mid0 e ?_ (fun m k0 k1 => hRet m W1 k0 k1 (Below.refl _ _)) (fun h1 h2 m k0 k1 => ?_))
  · rcases er_cases s x with h1 | h1 <;> rcases er_cases s y with h2 | h2
    · exact .inr (.inr ⟨her1.trans h1, her2.trans h2⟩)
    · exact .inr (.inl ⟨her1.trans h1, her2.trans h2, her3.trans (alt_no (.inr h2))⟩)
    · exact .inl ⟨her1.trans h1, her3.trans (alt_no (.inl h1)), her4.trans (cat_no h1), .inl (her2.trans h2)⟩
    · exact .inl ⟨her1.trans h1, her3.trans (alt_no (.inl h1)), her4.trans (cat_no h1), .inr (her2.trans h2)⟩
  · obtain ⟨f, rfl⟩ := frame174 k0
    obtain ⟨j8, j9, j10, j12, j15, j16, j17, j18⟩ := k1
    have j8 := Option.some.inj j8
    have j9 := Option.some.inj j9
    have j10 := Option.some.inj j10
    have j12 := Option.some.inj j12
    have j15 := Option.some.inj j15
    have j16 := Option.some.inj j16
    have j17 := Option.some.inj j17
    have j18 := Option.some.inj j18
    have hx0 : erW s x = 0 := her1.symm.trans h1
    have hy0 : erW s y = 0 := her2.symm.trans h2
    have l1 := eE_len s x
    have l2 := eE_len s y
    have l3 := eE_len s (altT x y)
    rw [j10, j12, j15, j16, g10, g12, g15]
    show Code.wp Tryd.prog (Code.seq (paC [1, 1, 1, 1, 1, 1, 1, 1, 1, 0]) (paC [1, 1, 1, 1, 1, 1, 1, 1, 1, 1])) Q _ _
    refine wp_seq (pc_mid1 f hp hnp hq hnq ha hna (by omega) (by omega) (by omega) ?_ (fun m w' k0 k1 hb => ?_))
    · by_cases hs : (eE s x).length + (eE s y).length ≤ 500
      · obtain ⟨ha1, ha2⟩ := alt_both hx0 hy0 hs
        exact .inl ⟨by omega, her3.trans ha2, ha1⟩
      · exact .inr ⟨by omega, her3.trans (alt_many hx0 hy0 hs)⟩
    · obtain ⟨z, rfl⟩ := frame174 k0
      obtain ⟨i8, i9, i10, i17, i18⟩ := k1
      have i8 := Option.some.inj i8
      have i9 := Option.some.inj i9
      have i10 := Option.some.inj i10
      have i17 := Option.some.inj i17
      have i18 := Option.some.inj i18
      rw [i8, i9, i10, i17, i18, j8, j9, j17, j18, g8, g9, g17]
      have kb := Kept.of_below hb (fun _ => False)
      exact pc_tail z (RowGo hp kb (fun _ _ h => ⟨id, h⟩)) hnp hx0 hv hss her4 (RowGo hc kb (fun _ _ h => ⟨id, h⟩)) hnc (hy.below hb hy.lt) (NdAt.go kb (fun _ _ h => ⟨id, h⟩) hnd) hry hno (tabs_below htab hnone hb) (hnone.below hb) (fun m w'' k0 k1 k2 => hRet m w'' k0 k1 (hb.trans (k2.mono hb.size)))
end Go.Proofs.YtnhjakdmbfadlaaDoor
