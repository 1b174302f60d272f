/- Parts of the proof: Wlb, Wlc. Conditions: none. -/
import Derived.Test.YtnhjakdmbfadlaaGreatDoorL48
import Derived.Test.YtnhjakdmbfadlaaGreatDoorL43
import Derived.Test.YtnhjakdmbfadlaaGreatDoorL36
set_option linter.all false
/- WaysLengths: the loop over the ends, and the end. -/
namespace Go.Proofs.YtnhjakdmbfadlaaGreatDoor
open Go.RowKit Wy Mem Grow

set_option maxHeartbeats 8000000 in
set_option maxRecDepth 100000 in
theorem wl_out {ne i : Nat} {W : World} {J : Act → World → Prop} {Q : Exit → Act → World → Prop} (e : Nat → Value) (hi : i = ne) (hn : ne ≤ 500) (hJ : ∀ (m : List Value), m.length = 88 → (m[6]? = some (e 6) ∧ m[7]? = some (e 7) ∧ m[8]? = some (e 8) ∧ m[10]? = some (e 10) ∧ m[12]? = some (e 12) ∧ m[52]? = some (e 52) ∧ m[53]? = some (.int .i64 ne)) → Q (.exit 0) ⟨m.toArray, []⟩ W) :
    Code.wp Tryz.prog (wlC [1, 1, 1, 1, 1, 1, 1, 1, 0, 1, 0, 0]) (Exit.then J Q) ⟨#[e 0, e 1, e 2, e 3, e 4, e 5, e 6, e 7, e 8, e 9, e 10, e 11, e 12, e 13, e 14, e 15, e 16, e 17, e 18, e 19, e 20, e 21, e 22, e 23, e 24, e 25, e 26, e 27, e 28, e 29, e 30, e 31, e 32, e 33, e 34, e 35, e 36, e 37, e 38, e 39, e 40, e 41, e 42, e 43, e 44, e 45, e 46, e 47, e 48, e 49, e 50, e 51, e 52, .int .i64 ne, .int .i64 i, e 55, e 56, e 57, e 58, e 59, e 60, e 61, e 62, e 63, e 64, e 65, e 66, e 67, e 68, e 69, e 70, e 71, e 72, e 73, e 74, e 75, e 76, e 77, e 78, e 79, e 80, e 81, e 82, e 83, e 84, e 85, e 86, e 87], []⟩ W := by
  have HJ := Lib.hid hJ
  subst hi
  clear hJ
  conv => arg 2; whnf
  go_wp2_with fail
  exact HJ.out _ rfl ⟨rfl, rfl, rfl, rfl, rfl, rfl, rfl⟩
/-- the loop over the ends: its round's invariant -/
def Lei (ne : Nat) (q : Nat → Value) (W1 : World) (n : Nat) (a : Act) (w : World) : Prop := ∃ (m : List Value) (i : Nat), a = ⟨m.toArray, []⟩ ∧ m.length = 88 ∧ (m[6]? = some (q 6) ∧ m[7]? = some (q 7) ∧ m[8]? = some (q 8) ∧ m[10]? = some (q 10) ∧ m[12]? = some (q 12) ∧ m[52]? = some (q 52) ∧ m[53]? = some (q 53)) ∧ m[54]? = some (.int .i64 i) ∧ i ≤ ne ∧ n = ne - i ∧ Below W1.heap.size W1 w
set_option maxHeartbeats 4000000 in
set_option maxRecDepth 100000 in
theorem wl_loop {zs : List Int} {c n : Nat} {o : Option Addr} {s : ByteArray} {lm : Int × Int} {q : Nat → Value} {W1 w : World} {a : Act} {Q : Exit → Act → World → Prop} (hI : Lei zs.length q W1 n a w)
    (hq : q 6 = .string s ∧ q 7 = .int .i64 lm.1 ∧ q 8 = .int .i64 lm.2 ∧ q 12 = .slice o zs.length c ∧ q 52 = .slice o zs.length c ∧ q 53 = .int .i64 zs.length)
    (hs : s.size ≤ 32) (hE : Row (fun _ => True) W1 (.slice o zs.length c) zs.length 1 (intZs zs)) (hz5 : zs.length ≤ 500)
    (hin : ∀ z ∈ zs, ∃ q : Nat, z = (q : Int) ∧ q ≤ s.size ∧ (Conv.runesFrom (s.extract 0 q) (s.extract 0 q).size 0 #[]).size ≤ 32 ∧ Bnd lm (Conv.runesFrom (s.extract 0 q) (s.extract 0 q).size 0 #[]).size)
    (hQ : ∀ (m : List Value) (w' : World), m.length = 88 → (m[6]? = some (q 6) ∧ m[7]? = some (q 7) ∧ m[8]? = some (q 8) ∧ m[10]? = some (q 10) ∧ m[12]? = some (q 12) ∧ m[52]? = some (q 52) ∧ m[53]? = some (q 53)) → Below W1.heap.size W1 w' → Q (.exit 0) ⟨m.toArray, []⟩ w') :
    Code.wp Tryz.prog (wlC [1, 1, 1, 1, 1, 1, 1, 1, 0, 1, 0, 0]) (Exit.then (fun a' w' => ∃ n', n' < n ∧ Lei zs.length q W1 n' a' w') Q) a w := by
  obtain ⟨m, i, rfl, hm, hkq, h54, hi, hn, hb⟩ := hI
  obtain ⟨e, rfl⟩ := frame88 hm
  obtain ⟨g6, g7, g8, g10, g12, g52, g53⟩ := hkq
  have g6 : e 6 = q 6 := Option.some.inj g6
  have g7 : e 7 = q 7 := Option.some.inj g7
  have g8 : e 8 = q 8 := Option.some.inj g8
  have g10 : e 10 = q 10 := Option.some.inj g10
  have g12 : e 12 = q 12 := Option.some.inj g12
  have g52 : e 52 = q 52 := Option.some.inj g52
  have g53 : e 53 = q 53 := Option.some.inj g53
  have h54 : e 54 = _ := Option.some.inj h54
  have hkk : ∀ {m : List Value}, (m[6]? = some (e 6) ∧ m[7]? = some (e 7) ∧ m[8]? = some (e 8) ∧ m[10]? = some (e 10) ∧ m[12]? = some (e 12) ∧ m[52]? = some (e 52) ∧ m[53]? = some (e 53)) → (m[6]? = some (q 6) ∧ m[7]? = some (q 7) ∧ m[8]? = some (q 8) ∧ m[10]? = some (q 10) ∧ m[12]? = some (q 12) ∧ m[52]? = some (q 52) ∧ m[53]? = some (q 53)) := fun h => by rw [g6, g7, g8, g10, g12, g52, g53] at h; exact h
  obtain ⟨q6, q7, q8, q12, q52, q53⟩ := hq
  have e53 : e 53 = .int .i64 zs.length := g53.trans q53
  by_cases hil : ¬ i < zs.length
  · have hie : i = zs.length := by omega
    rw [h54, e53]
    exact wl_out e hie hz5 (fun m k0 k1 => hQ m w k0 (hkk (by rw [e53]; exact k1)) hb)
  · have hil : i < zs.length := by omega
    rcases hE.at_ with ⟨h0, _⟩ | ⟨eb, eo, cap, hve, hc1, hc2, -, hbz, hcell⟩
    · omega
    simp only [Value.slice.injEq, true_and] at hve
    obtain ⟨rfl, rfl⟩ := hve
    have hbz' := Nat.lt_of_lt_of_le hbz hb.size
    obtain ⟨y, hy, hys, hk32, hbn⟩ := hin _ (List.getElem_mem hil)
    have hc : w.cell? ⟨eb, eo + i, none⟩ = some (.int .i64 y) := by
      refine (hb.cell (p := ⟨eb, eo + i, none⟩) hbz).trans ((hcell i (by simpa [intZs] using hil)).trans ?_)
      simp [intZs, hil, hy]
    have e6 : e 6 = _ := g6.trans q6
    have e7 : e 7 = _ := g7.trans q7
    have e8 : e 8 = _ := g8.trans q8
    have e52 : e 52 = _ := g52.trans q52
    have hJ : ∀ (m : List Value) (w' : World), m.length = 88 → (m[6]? = some (.string s) ∧ m[7]? = some (.int .i64 lm.1) ∧ m[8]? = some (.int .i64 lm.2) ∧ m[10]? = some (e 10) ∧ m[12]? = some (e 12) ∧ m[52]? = some (.slice (some ⟨eb, eo, none⟩) zs.length c) ∧ m[53]? = some (.int .i64 zs.length)) → m[54]? = some (.int .i64 (i + 1 : Nat)) → Below w.heap.size w w' → ∃ n', n' < n ∧ Lei zs.length q W1 n' ⟨m.toArray, []⟩ w' := fun m w' k0 k1 k2 k3 =>
      ⟨zs.length - (i + 1), by omega, m, i + 1, rfl, k0, hkk (by rw [e6, e7, e8, e52, e53]; exact k1), k2, by omega, rfl, hb.trans (k3.mono hb.size)⟩
    have hrun := run_runes_of_string (P := Tryz.prog) w 9 66 21 (s.extract 0 y) (by rfl) (by rfl) (by rfl) (by omega)
    have hb2 := ((Below.refl w.heap.size w).drew).alloc (Nat.le_refl _) (.cells (Conv.runesFrom (s.extract 0 y) (s.extract 0 y).size 0 #[] ++ Array.replicate (grownCap w (Conv.runesFrom (s.extract 0 y) (s.extract 0 y).size 0 #[]).size 0 21 - (Conv.runesFrom (s.extract 0 y) (s.extract 0 y).size 0 #[]).size) (.int .i32 0)) 21)
    rw [e6, e7, e8, e52, e53, h54]
    obtain ⟨hl1, hl2⟩ := hbn
    rcases hl2 with hl2 | hl2
    · exact wl_none e hil hz5 hc1 hbz' hs hys hk32 hc hrun hb2 hl1 hl2 hJ
    · exact wl_some e hil hz5 hc1 hbz' hs hys hk32 hc hrun hb2 hl1 hl2 hJ
set_option maxHeartbeats 8000000 in
set_option maxRecDepth 100000 in
theorem wl12 {zs : List Int} {c : Nat} {o : Option Addr} {s : ByteArray} {lm : Int × Int} {W : World} {J : Act → World → Prop} {Q : Exit → Act → World → Prop} (e : Nat → Value)
    (hs : s.size ≤ 32) (hE : Row (fun _ => True) W (.slice o zs.length c) zs.length 1 (intZs zs)) (hz5 : zs.length ≤ 500)
    (hin : ∀ z ∈ zs, ∃ q : Nat, z = (q : Int) ∧ q ≤ s.size ∧ (Conv.runesFrom (s.extract 0 q) (s.extract 0 q).size 0 #[]).size ≤ 32 ∧ Bnd lm (Conv.runesFrom (s.extract 0 q) (s.extract 0 q).size 0 #[]).size)
    (hJ : ∀ (m : List Value) (w' : World), m.length = 88 → (m[10]? = some (e 10) ∧ m[12]? = some (.slice o zs.length c) ∧ True) → Below W.heap.size W w' → J ⟨m.toArray, []⟩ w') :
    Code.wp Tryz.prog (wlC [1, 1, 1, 1, 1, 1, 1, 1, 0]) (Exit.then J Q) ⟨#[e 0, e 1, e 2, e 3, e 4, e 5, .string s, .int .i64 lm.1, .int .i64 lm.2, e 9, e 10, e 11, .slice o zs.length c, e 13, e 14, e 15, e 16, e 17, e 18, e 19, e 20, e 21, e 22, e 23, e 24, e 25, e 26, e 27, e 28, e 29, e 30, e 31, e 32, e 33, e 34, e 35, e 36, e 37, e 38, e 39, e 40, e 41, e 42, e 43, e 44, e 45, e 46, e 47, e 48, e 49, e 50, e 51, e 52, e 53, e 54, e 55, e 56, e 57, e 58, e 59, e 60, e 61, e 62, e 63, e 64, e 65, e 66, e 67, e 68, e 69, e 70, e 71, e 72, e 73, e 74, e 75, e 76, e 77, e 78, e 79, e 80, e 81, e 82, e 83, e 84, e 85, e 86, e 87], []⟩ W := by
  have HJ := Lib.hid hJ
  have HE := Lib.hid (show _ ∧ _ from ⟨hE, hin⟩)
  have hlI : (zs.length : Int) ≤ 500 := by omega
  clear hJ hE hin
  conv => arg 2; whnf
  go_wp2_with fail
  refine wp_loop_ghost (Lei zs.length (fun k => if k = 6 then .string s else if k = 7 then .int .i64 lm.1 else if k = 8 then .int .i64 lm.2 else if k = 12 then .slice o zs.length c else if k = 52 then .slice o zs.length c else if k = 53 then .int .i64 zs.length else e k) W) (zs.length - 0) ?_ (fun z a w' hI => wl_loop hI ⟨rfl, rfl, rfl, rfl, rfl, rfl⟩ hs HE.out.1 hz5 HE.out.2 ?_)
  · exact ⟨_, 0, rfl, rfl, ⟨rfl, rfl, rfl, rfl, rfl, rfl, rfl⟩, rfl, Nat.zero_le _, rfl, Below.refl _ _⟩
  · intro m w2 k0 k1 k3
    exact HJ.out m w2 k0 ⟨k1.2.2.2.1, k1.2.2.2.2.1, trivial⟩ k3
set_option maxHeartbeats 8000000 in
set_option maxRecDepth 100000 in
theorem wl20t {v : Value} {W : World} {Q : Exit → Act → World → Prop} (e : Nat → Value)
    (hc : Calls Tryz.prog 19 #[v, .int .i64 0] W fun e w'' => e = .returned (.bool true) ∧ w'' = W)
    (hRet : ∀ (m : List Value), m.length = 88 → m[4]? = some (.bool true) → Q .ret ⟨m.toArray, []⟩ W) :
    Code.wp Tryz.prog (wlC [1, 1, 1, 1, 1, 1, 1, 1, 1]) Q ⟨#[e 0, e 1, e 2, e 3, e 4, e 5, e 6, e 7, e 8, e 9, .bool true, e 11, v, e 13, e 14, e 15, e 16, e 17, e 18, e 19, e 20, e 21, e 22, e 23, e 24, e 25, e 26, e 27, e 28, e 29, e 30, e 31, e 32, e 33, e 34, e 35, e 36, e 37, e 38, e 39, e 40, e 41, e 42, e 43, e 44, e 45, e 46, e 47, e 48, e 49, e 50, e 51, e 52, e 53, e 54, e 55, e 56, e 57, e 58, e 59, e 60, e 61, e 62, e 63, e 64, e 65, e 66, e 67, e 68, e 69, e 70, e 71, e 72, e 73, e 74, e 75, e 76, e 77, e 78, e 79, e 80, e 81, e 82, e 83, e 84, e 85, e 86, e 87], []⟩ W := by
  have HC := Lib.hid hc
  have HR := Lib.hid hRet
  clear hc hRet
  conv => arg 2; whnf
  go_wp2_with (go_at_call 19; go_loud (refine HC.out.mono ?_; rintro ee w2 ⟨rfl, rfl⟩))
  exact HR.out _ rfl rfl
set_option maxHeartbeats 8000000 in
set_option maxRecDepth 100000 in
theorem wl20f {v : Value} {W : World} {Q : Exit → Act → World → Prop} (e : Nat → Value)
    (hc : Calls Tryz.prog 19 #[v, .int .i64 0] W fun e w'' => e = .returned (.bool false) ∧ w'' = W)
    (hRet : ∀ (m : List Value), m.length = 88 → m[4]? = some (.bool true) → Q .ret ⟨m.toArray, []⟩ W) :
    Code.wp Tryz.prog (wlC [1, 1, 1, 1, 1, 1, 1, 1, 1]) Q ⟨#[e 0, e 1, e 2, e 3, e 4, e 5, e 6, e 7, e 8, e 9, .bool false, e 11, v, e 13, e 14, e 15, e 16, e 17, e 18, e 19, e 20, e 21, e 22, e 23, e 24, e 25, e 26, e 27, e 28, e 29, e 30, e 31, e 32, e 33, e 34, e 35, e 36, e 37, e 38, e 39, e 40, e 41, e 42, e 43, e 44, e 45, e 46, e 47, e 48, e 49, e 50, e 51, e 52, e 53, e 54, e 55, e 56, e 57, e 58, e 59, e 60, e 61, e 62, e 63, e 64, e 65, e 66, e 67, e 68, e 69, e 70, e 71, e 72, e 73, e 74, e 75, e 76, e 77, e 78, e 79, e 80, e 81, e 82, e 83, e 84, e 85, e 86, e 87], []⟩ W := by
  have HC := Lib.hid hc
  have HR := Lib.hid hRet
  clear hc hRet
  conv => arg 2; whnf
  go_wp2_with (go_at_call 19; go_loud (refine HC.out.mono ?_; rintro ee w2 ⟨rfl, rfl⟩))
  exact HR.out _ rfl rfl
end Go.Proofs.YtnhjakdmbfadlaaGreatDoor

/- WaysLengths whole. -/
namespace Go.Proofs.YtnhjakdmbfadlaaGreatDoor
open Go.RowKit Wy Mem Grow

theorem redo_ok {s : ByteArray} {x : Nd} {w : World} {e : Ending} {w' : World} (h : Edo s x w e w') : ∃ (o : Option Addr) (c : Nat), e = .returned (.tuple #[.slice o (zsE s x).length c, .int .i64 (erW s x)]) ∧ Row (fun _ => True) w' (.slice o (zsE s x).length c) (zsE s x).length 1 (intZs (zsE s x)) ∧ Below w.heap.size w w' := by
  obtain ⟨o, c, h1, h2, h3⟩ := h
  exact ⟨o, c, h1, h2.mono (fun _ _ => trivial), h3⟩
set_option maxHeartbeats 8000000 in
set_option maxRecDepth 100000 in
theorem wl_rest {xb : Nat} {s : ByteArray} {x : Nd} {k lo hi : Int} {lz : Bool} {p1 p2 : Option Addr} {n1 d1 n2 d2 : Nat} {W0 W : World} {Q : Exit → Act → World → Prop} (m : List Value) (hm : m.length = 88) (g5 : m[5]? = some (.pointer (some ⟨xb, 0, none⟩))) (g6 : m[6]? = some (.string s))
    (hB : Blk W xb #[.int .u8 k, .slice p1 n1 d1, .int .i64 lo, .int .i64 hi, .bool lz, .slice p2 n2 d2] 27) (hx : NdAt (fun _ => True) W x [.int .u8 k, .slice p1 n1 d1, .int .i64 lo, .int .i64 hi, .bool lz, .slice p2 n2 d2]) (gx : Wy.Good x 15 14) (nx : nodes x ≤ 21) (hss : s.size ≤ 24) (hv : Lib.validD s.data.toList = true) (htab : Lib.Utf8Tabs 0 1 W0) (hnone : NoneAt W0) (hb : Below W0.heap.size W0 W)
    (hRet : ∀ (m : List Value) (w' : World), m.length = 88 → m[4]? = some (.bool true) → Below W0.heap.size W0 w' → Q .ret ⟨m.toArray, []⟩ w') :
    Code.wp Tryz.prog (wlC [1, 1, 1]) Q ⟨m.toArray, []⟩ W := by
  obtain ⟨e0, rfl⟩ := frame88 hm
  have h5_0 : e0 5 = .pointer (some ⟨xb, 0, none⟩) := Option.some.inj g5
  have h6_0 : e0 6 = .string s := Option.some.inj g6
  have rx : right x = true := gx.right (by omega) (by omega)
  have nx' : nodes x ≤ 1000000 := by omega
  have hs32 : s.size ≤ 32 := by omega
  have hlen := lA_len s x
  have hzle : (zsE s x).length ≤ 500 := by have := endsI_len ((lA s x).map Wy.Way.stop); rw [List.length_map] at this; unfold zsE; omega
  obtain ⟨hsh, hfi, -⟩ := right_parts rx
  have go : ∀ {w w' : World} {t : Nd} {cs : List Value}, Below w.heap.size w w' → NdAt (fun _ => True) w t cs → NdAt (fun _ => True) w' t cs := fun hb hn => NdAt.go (Kept.of_below hb (fun _ => False)) (fun _ _ h => ⟨id, h⟩) hn
  have tb : ∀ {w}, Below W0.heap.size W0 w → Lib.Utf8Tabs 0 1 w := fun h => tabs_below htab hnone h
  have nb : ∀ {w}, Below W0.heap.size W0 w → NoneAt w := fun h => hnone.below h
  have hb00 := hb
  have B0 := hB
  have X0 := hx
  show Code.wp Tryz.prog (Code.seq (wlC [1, 1, 1, 0]) (wlC [1, 1, 1, 1])) Q _ _
  rw [h5_0, h6_0]
  refine wp_seq (wl4 e0 B0 (lengths_any X0 nx' rx) (fun m w1 k0 kk k7 k8 k9 hb1 => ?_))
  obtain ⟨e1, rfl⟩ := frame88 k0
  obtain ⟨q5, q6, -⟩ := kk
  have h5_1 : e1 5 = .pointer (some ⟨xb, 0, none⟩) := (Option.some.inj q5)
  have h6_1 : e1 6 = .string s := (Option.some.inj q6)
  have h7_1 : e1 7 = .int .i64 (lens x).1 := Option.some.inj k7
  have h8_1 : e1 8 = .int .i64 (lens x).2 := Option.some.inj k8
  have h9_1 : e1 9 = .int .i64 0 := Option.some.inj k9
  have hb01 := hb00.trans (hb1.mono hb00.size)
  have B1 := B0.below hb1 B0.lt
  have X1 := go hb1 X0
  show Code.wp Tryz.prog (Code.seq (wlC [1, 1, 1, 1, 0]) (wlC [1, 1, 1, 1, 1])) Q _ _
  rw [h5_1, h6_1]
  refine wp_seq (wl5 e1 B1 (nullable_any X1 nx' rx) (fun m w2 k0 kk k10 k11 hb2 => ?_))
  obtain ⟨e2, rfl⟩ := frame88 k0
  obtain ⟨q5, q6, q7, q8, q9, -⟩ := kk
  have h5_2 : e2 5 = .pointer (some ⟨xb, 0, none⟩) := (Option.some.inj q5)
  have h6_2 : e2 6 = .string s := (Option.some.inj q6)
  have h7_2 : e2 7 = .int .i64 (lens x).1 := (Option.some.inj q7).trans h7_1
  have h8_2 : e2 8 = .int .i64 (lens x).2 := (Option.some.inj q8).trans h8_1
  have h9_2 : e2 9 = .int .i64 0 := (Option.some.inj q9).trans h9_1
  have h10_2 : e2 10 = .bool (Wy.look x).nullable := Option.some.inj k10
  have h11_2 : e2 11 = .int .i64 0 := Option.some.inj k11
  have hb02 := hb01.trans (hb2.mono hb01.size)
  have B2 := B1.below hb2 B1.lt
  have X2 := go hb2 X1
  show Code.wp Tryz.prog (Code.seq (wlC [1, 1, 1, 1, 1, 0]) (wlC [1, 1, 1, 1, 1, 1])) Q _ _
  rw [h5_2, h6_2]
  refine wp_seq (wl6 e2 B2 ((ends_ok X2 rx nx' hs32 hv (tb hb02) (nb hb02)).mono fun _ _ h => redo_ok h) (fun m w3 o c k0 kk k12 k13 hr hb3 => ?_))
  obtain ⟨e3, rfl⟩ := frame88 k0
  obtain ⟨q6, q7, q8, q9, q10, q11, -⟩ := kk
  have h6_3 : e3 6 = .string s := (Option.some.inj q6)
  have h7_3 : e3 7 = .int .i64 (lens x).1 := (Option.some.inj q7).trans h7_2
  have h8_3 : e3 8 = .int .i64 (lens x).2 := (Option.some.inj q8).trans h8_2
  have h9_3 : e3 9 = .int .i64 0 := (Option.some.inj q9).trans h9_2
  have h10_3 : e3 10 = .bool (Wy.look x).nullable := (Option.some.inj q10).trans h10_2
  have h11_3 : e3 11 = .int .i64 0 := (Option.some.inj q11).trans h11_2
  have h12_3 : e3 12 = .slice o (zsE s x).length c := Option.some.inj k12
  have h13_3 : e3 13 = .int .i64 (erW s x) := Option.some.inj k13
  have hb03 := hb02.trans (hb3.mono hb02.size)
  show Code.wp Tryz.prog (Code.seq (wlC [1, 1, 1, 1, 1, 1, 0]) (wlC [1, 1, 1, 1, 1, 1, 1])) Q _ _
  rw [h9_3, h11_3]
  refine wp_seq (wl7 e3 (fun m k0 kk => ?_))
  obtain ⟨e4, rfl⟩ := frame88 k0
  obtain ⟨q6, q7, q8, q10, q12, q13, -⟩ := kk
  have h6_4 : e4 6 = .string s := (Option.some.inj q6).trans h6_3
  have h7_4 : e4 7 = .int .i64 (lens x).1 := (Option.some.inj q7).trans h7_3
  have h8_4 : e4 8 = .int .i64 (lens x).2 := (Option.some.inj q8).trans h8_3
  have h10_4 : e4 10 = .bool (Wy.look x).nullable := (Option.some.inj q10).trans h10_3
  have h12_4 : e4 12 = .slice o (zsE s x).length c := (Option.some.inj q12).trans h12_3
  have h13_4 : e4 13 = .int .i64 (erW s x) := (Option.some.inj q13).trans h13_3
  rcases erW_or s x with her | ⟨her, hl0⟩
  · rw [her] at h13_4
    show Code.wp Tryz.prog (Code.seq (wlC [1, 1, 1, 1, 1, 1, 1, 0]) (wlC [1, 1, 1, 1, 1, 1, 1, 1])) Q _ _
    rw [h13_4]
    refine wp_seq (wl9 e4 (fun m k0 kk => ?_))
    obtain ⟨e5, rfl⟩ := frame88 k0
    obtain ⟨q6, q7, q8, q10, q12, -⟩ := kk
    have h6_5 : e5 6 = .string s := (Option.some.inj q6).trans h6_4
    have h7_5 : e5 7 = .int .i64 (lens x).1 := (Option.some.inj q7).trans h7_4
    have h8_5 : e5 8 = .int .i64 (lens x).2 := (Option.some.inj q8).trans h8_4
    have h10_5 : e5 10 = .bool (Wy.look x).nullable := (Option.some.inj q10).trans h10_4
    have h12_5 : e5 12 = .slice o (zsE s x).length c := (Option.some.inj q12).trans h12_4
    show Code.wp Tryz.prog (Code.seq (wlC [1, 1, 1, 1, 1, 1, 1, 1, 0]) (wlC [1, 1, 1, 1, 1, 1, 1, 1, 1])) Q _ _
    rw [h6_5, h7_5, h8_5, h12_5]
    refine wp_seq (wl12 e5 hs32 hr hzle (fun z hz => len_end hs32 hv hsh hz) (fun m w4 k0 kk hb4 => ?_))
    obtain ⟨e6, rfl⟩ := frame88 k0
    obtain ⟨q10, q12, -⟩ := kk
    have h10_6 : e6 10 = .bool (Wy.look x).nullable := (Option.some.inj q10).trans h10_5
    have h12_6 : e6 12 = .slice o (zsE s x).length c := (Option.some.inj q12)
    have hb04 := hb03.trans (hb4.mono hb03.size)
    have hct : Calls Tryz.prog 19 #[.slice o (zsE s x).length c, .int .i64 0] w4 fun e w'' => e = .returned (.bool (Wy.look x).nullable) ∧ w'' = w4 := by
      have := contI_any (x := (0 : Int)) (RowGo hr (Kept.of_below hb4 (fun _ => False)) (M := fun _ => True) (fun _ _ h => ⟨id, h⟩)) (by omega)
      rw [null_end her hsh hfi] at this
      exact this
    show Code.wp Tryz.prog (wlC [1, 1, 1, 1, 1, 1, 1, 1, 1]) Q _ _
    rw [h10_6, h12_6]
    generalize (Wy.look x).nullable = nu at hct
    cases nu
    · exact wl20f e6 hct (fun m k0 k4 => hRet m w4 k0 k4 hb04)
    · exact wl20t e6 hct (fun m k0 k4 => hRet m w4 k0 k4 hb04)
  · rw [her] at h13_4
    show Code.wp Tryz.prog (Code.seq (wlC [1, 1, 1, 1, 1, 1, 1, 0]) (wlC [1, 1, 1, 1, 1, 1, 1, 1])) Q _ _
    rw [h13_4]
    exact wp_seq (wl9b e4 (fun m k0 k4 => hRet m w3 k0 k4 hb03))
theorem min_takeL {α : Type} (L : List α) (k : Nat) : L.take (min L.length k) = L.take k := by
  by_cases h : L.length ≤ k
  · rw [Nat.min_eq_left h, List.take_of_length_le (Nat.le_refl _), List.take_of_length_le h]
  · rw [Nat.min_eq_right (by omega)]
theorem sms_takeL {N : Nat → Prop} {w : World} {o : Option Addr} {c : Nat} {L : List Sm} (h : SmsAt N w (.slice o L.length c) L) : L.length ≤ c ∧ SmsAt N w (.slice o (min (L.length : Int) 14).toNat c) (L.take 14) := by
  refine ⟨?_, ?_⟩
  · rcases h.row.at_ with ⟨h0, _⟩ | ⟨b, off, cap, he, h1, _⟩
    · omega
    · simp only [Value.slice.injEq, true_and] at he
      omega
  · have := h.take (n := min L.length 14) rfl (by omega)
    rw [min_takeL] at this
    rwa [show (min (L.length : Int) 14).toNat = min L.length 14 by omega]
set_option maxRecDepth 100000 in
theorem wl3m {m1 c1 : Nat} {o1 : Option Addr} {vb : Value} {s : ByteArray} {x : Nd} {W : World} {J : Act → World → Prop} {Q : Exit → Act → World → Prop} (m : List Value) (hm : m.length = 88) (g0 : m[0]? = some (.slice o1 m1 c1)) (g1 : m[1]? = some vb) (h1 : m1 ≤ c1)
    (hmx : Calls Tryz.prog 9 #[.slice o1 (min (m1 : Int) 14).toNat c1] W (Mdx x W))
    (htx : ∀ w', Below W.heap.size W w' → Calls Tryz.prog 12 #[vb, .int .i64 8] w' (fun e w'' => e = .returned (.string s) ∧ Below w'.heap.size w' w''))
    (hJ : ∀ (m : List Value) (w' : World) (b : Nat) (xs : List Value), m.length = 88 → m[5]? = some (.pointer (some ⟨b, 0, none⟩)) → m[6]? = some (.string s) → Blk w' b xs.toArray 27 → NdAt (fun _ => True) w' x xs → Below W.heap.size W w' → J ⟨m.toArray, []⟩ w') :
    Code.wp Tryz.prog (wlC [1, 1, 0]) (Exit.then J Q) ⟨m.toArray, []⟩ W := by
  obtain ⟨e, rfl⟩ := frame88 hm
  have g0 : e 0 = .slice o1 m1 c1 := Option.some.inj g0
  have g1 : e 1 = vb := Option.some.inj g1
  rw [g0, g1]
  exact wl3 e h1 hmx htx hJ
set_option maxHeartbeats 8000000 in
set_option maxRecDepth 100000 in
theorem lengths_law {N M : Nat → Prop} {w : World} {v1 v2 : Value} {L : List Sm} {B : List Nat} (h1 : SmsAt N w v1 L) (h2 : U8At M w v2 B) (hL : L.length ≤ 9223372036854775807) (hB : B.length ≤ 9223372036854775807) (htab : Lib.Utf8Tabs 0 1 w) (hnone : NoneAt w) :
    Calls Tryz.prog 7 #[v1, v2] w fun e w' => e = .returned (.bool true) ∧ Below w.heap.size w w' := by
  obtain ⟨o1, c1, rfl⟩ := h1.row.slice
  obtain ⟨hc1, hs1⟩ := sms_takeL h1
  have hmx : ∀ w', Below w.heap.size w w' → Calls Tryz.prog 9 #[.slice o1 (min (L.length : Int) 14).toNat c1] w' (Mdx (madeT (L.take 14)) w') := fun w' hb => (made_any (hs1.below hb) (by rw [List.length_take]; omega)).mono fun e w' ⟨cs, h1, h2, h3⟩ => by
    obtain ⟨k, lo, hi, lz, p1, p2, n1, d1, n2, d2, rfl⟩ := nd6k h2
    exact ⟨k, lo, hi, lz, p1, p2, n1, d1, n2, d2, h1, NdAt.mono (fun _ _ => trivial) h2, h3⟩
  have htx : ∀ w', Below w.heap.size w w' → Calls Tryz.prog 12 #[v2, .int .i64 8] w' fun e w'' => e = .returned (.string (strB (textL (B.take 8)))) ∧ Below w'.heap.size w' w'' := fun w' hb => text_any (m := 8) (h2.below hb) (by omega) hB
  have haw := awake_any w htab hnone
  have HMX := Lib.hid hmx
  have HTX := Lib.hid htx
  have HAW := Lib.hid haw
  have HT := Lib.hid htab
  have HN := Lib.hid hnone
  clear h1 h2 hs1 hmx htx haw htab hnone hL hB
  go_enter Tryz.func7, Tryz.ntmps7
  go_upto_region 3 with (go_at_call 10; go_loud (refine HAW.out.mono ?_; rintro ee w1 ⟨rfl, hb1⟩; have HB1 := Lib.hid hb1; clear hb1))
  rename_i K1 hK1
  have hss : (strB (textL (B.take 8))).size ≤ 24 := text_size B 8 (by omega)
  have hsv : Lib.validD (strB (textL (B.take 8))).data.toList = true := text_valid _
  have gx : Wy.Good (madeT (L.take 14)) 15 14 := made_good _ (take_le20 L 14)
  generalize strB (textL (B.take 8)) = s at HTX hss hsv
  have nx : nodes (madeT (L.take 14)) ≤ 21 := nodes_made _
  refine wl3m _ rfl rfl rfl hc1 (HMX.out _ HB1.out) (fun w' hb => HTX.out w' (HB1.out.trans (hb.mono HB1.out.size))) (fun m w2 b xs k0 k5 k6 B9 X hb2 => hK1 _ _ ?_)
  have hb12 := HB1.out.trans (hb2.mono HB1.out.size)
  obtain ⟨kx, lox, hix, lzx, px1, px2, nx1, dx1, nx2, dx2, rfl⟩ := nd6k X
  refine wl_rest (W0 := w) m k0 k5 k6 B9 X gx nx hss hsv HT.out HN.out hb12 (fun m w3 h0 h4 hb3 => ?_)
  obtain ⟨f, rfl⟩ := frame88 h0
  have h4 : f 4 = .bool true := Option.some.inj h4
  rw [h4]
  exact bodyPost_ret (v := .bool true) (by simp [results, Tryz.results7, go_sem]) rfl ⟨rfl, hb3⟩
end Go.Proofs.YtnhjakdmbfadlaaGreatDoor
