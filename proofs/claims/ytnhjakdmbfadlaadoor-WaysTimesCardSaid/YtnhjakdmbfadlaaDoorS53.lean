/- Parts of the proof: Tc. Conditions: none. -/
import Derived.Test.YtnhjakdmbfadlaaDoorS52
set_option linter.all false
/- WaysTimes: the calls. -/
namespace Go.Proofs.YtnhjakdmbfadlaaDoor
open Go.RowKit Wy Mem Grow

/-- a tree, made -/
def Trt (T : Nd) (w : World) (e : Ending) (w' : World) : Prop := ∃ cs : List Value, e = .returned (.agg cs.toArray) ∧ NdAt (fun _ => True) w' T cs ∧ Below w.heap.size w w'
theorem trt_any {w : World} {x : Nd} {b : Nat} {cs : List Value} (hB : Blk w b cs.toArray 28) (h : NdAt (fun _ => True) w x cs) {lo hi : Int} (hlo : I64 lo) (hhi : I64 hi) (lz : Bool) :
    Calls Tryd.prog 17 #[.int .i64 lo, .int .i64 hi, .bool lz, .pointer (some ⟨b, 0, none⟩)] w (Trt (rpT lo hi lz x) w) :=
  (times1_any hB h hlo hhi lz).mono fun e w' ⟨cs, h1, h2, h3⟩ => ⟨cs, h1, NdAt.mono (fun _ _ => trivial) h2, h3⟩
/-- what a call of endsOf gives, its row one's own -/
def Eoo (n : Nat) (l : List Nat) (er : Int) (w : World) (e : Ending) (w' : World) : Prop := ∃ o c, e = .returned (.tuple #[.slice o n c, .int .i64 er]) ∧ w'.ownsRow w.heap.size 3 1 (.slice o n c) n (intCs l) ∧ Below w.heap.size w w'
theorem eoo_any {w : World} {t : Nd} {cs : List Value} {s : ByteArray} {n : Nat} {l : List Nat} {er : Int} (h : NdAt (fun _ => True) w t cs) (hr : right t = true) (hno : nodes t ≤ 1000000) (hs : s.size ≤ 32) (hv : Lib.validD s.data.toList = true) (htab : Lib.Utf8Tabs 0 1 w) (hnone : NoneAt w) (hl : l = eE s t) (hn : n = l.length) (he : er = erW s t) :
    Calls Tryd.prog 10 #[.agg cs.toArray, .string s] w (Eoo n l er w) :=
  (eou_any h hr hno hs hv htab hnone).mono fun e w' ⟨v, h1, h2, h3, h4⟩ => by
    obtain ⟨o, c, rfl⟩ := own_slice h3
    refine ⟨o, c, ?_, ?_, h4⟩
    · rw [hn, hl, he]; exact h1
    · rw [hn, hl]; exact h3
set_option maxHeartbeats 8000000 in
set_option maxRecDepth 100000 in
theorem tm15 {xb n : Nat} {l : List Nat} {er : Int} {s : ByteArray} {T : Nd} {a z : Int} {W : World} {J : Act → World → Prop} {Q : Exit → Act → World → Prop} (e : Nat → Value) 
    (hcl : Calls Tryd.prog 17 #[.int .i64 a, .int .i64 z, .bool false, .pointer (some ⟨xb, 0, none⟩)] W (Trt T W))
    (hcall : ∀ w' cs, Below W.heap.size W w' → NdAt (fun _ => True) w' T cs → Calls Tryd.prog 10 #[.agg cs.toArray, .string s] w' (Eoc n l er w'))
    (hJ : ∀ (m : List Value) (w' : World) (o : Option Addr) (c : Nat), m.length = 182 → (m[9]? = some (e 9) ∧ m[10]? = some (.string s) ∧ m[13]? = some (.func (.func 17) #[] #[.pointer (some ⟨xb, 0, none⟩)]) ∧ m[14]? = some (.int .i64 a) ∧ m[15]? = some (.int .i64 z) ∧ m[16]? = some (e 16) ∧ True) → m[17]? = some (.slice o n c) → m[18]? = some (.int .i64 er) → Row (fun _ => True) w' (.slice o n c) n 1 (intCs l) → Below W.heap.size W w' → J ⟨m.toArray, []⟩ w') :
    Code.wp Tryd.prog (tmC [1, 1, 1, 1, 1, 1, 1, 1, 1, 1, 1, 0]) (Exit.then J Q) ⟨#[e 0, e 1, e 2, e 3, e 4, e 5, e 6, e 7, e 8, e 9, .string s, e 11, e 12, .func (.func 17) #[] #[.pointer (some ⟨xb, 0, none⟩)], .int .i64 a, .int .i64 z, e 16, e 17, e 18, e 19, e 20, e 21, e 22, e 23, e 24, e 25, e 26, e 27, e 28, e 29, e 30, e 31, e 32, e 33, e 34, e 35, e 36, e 37, e 38, e 39, e 40, e 41, e 42, e 43, e 44, e 45, e 46, e 47, e 48, e 49, e 50, e 51, e 52, e 53, e 54, e 55, e 56, e 57, e 58, e 59, e 60, e 61, e 62, e 63, e 64, e 65, e 66, e 67, e 68, e 69, e 70, e 71, e 72, e 73, e 74, e 75, e 76, e 77, e 78, e 79, e 80, e 81, e 82, e 83, e 84, e 85, e 86, e 87, e 88, e 89, e 90, e 91, e 92, e 93, e 94, e 95, e 96, e 97, e 98, e 99, e 100, e 101, e 102, e 103, e 104, e 105, e 106, e 107, e 108, e 109, e 110, e 111, e 112, e 113, e 114, e 115, e 116, e 117, e 118, e 119, e 120, e 121, e 122, e 123, e 124, e 125, e 126, e 127, e 128, e 129, e 130, e 131, e 132, e 133, e 134, e 135, e 136, e 137, e 138, e 139, e 140, e 141, e 142, e 143, e 144, e 145, e 146, e 147, e 148, e 149, e 150, e 151, e 152, e 153, e 154, e 155, e 156, e 157, e 158, e 159, e 160, e 161, e 162, e 163, e 164, e 165, e 166, e 167, e 168, e 169, e 170, e 171, e 172, e 173, e 174, e 175, e 176, e 177, e 178, e 179, e 180, e 181], []⟩ W := by
  have HL := Lib.hid hcl
  have HC := Lib.hid hcall
  have HJ := Lib.hid hJ
  clear hcl hcall hJ
  conv => arg 2; whnf
  go_wp2_with (first
    | (go_at_call 17; go_loud (refine HL.out.mono ?_; rintro ee w2 ⟨cs2, rfl, hn, hb⟩; have HN := Lib.hid hn; have HB := Lib.hid hb; clear hn hb))
    | (go_at_call 10; go_loud (refine (HC.out _ _ HB.out HN.out).mono ?_; rintro ee w3 ⟨o, c, rfl, hr, hb⟩; have HR := Lib.hid (Row.mono (M := fun _ => True) hr (fun _ _ => trivial)); have HB3 := Lib.hid (HB.out.trans (hb.mono HB.out.size)); clear hr hb)))
  exact HJ.out _ _ _ _ rfl ⟨rfl, rfl, rfl, rfl, rfl, rfl, trivial⟩ rfl rfl HR.out HB3.out
set_option maxHeartbeats 8000000 in
set_option maxRecDepth 100000 in
theorem tm17 {np cp nq cq : Nat} {op oq : Option Addr} {e1 e2 : Int} {l1 l2 : List Nat} {W : World} {J : Act → World → Prop} {Q : Exit → Act → World → Prop} (e : Nat → Value)
    (hp : Row (fun _ => True) W (.slice op np cp) np 1 (intCs l1)) (hnp : np = l1.length) (hq : Row (fun _ => True) W (.slice oq nq cq) nq 1 (intCs l2)) (hnq : nq = l2.length) (h1 : np ≤ 500) (h2 : nq ≤ 500) (he1 : e1 = 0 ∨ e1 = 5) (he2 : e2 = 0 ∨ e2 = 5) (heq : e1 = 0 → e2 = 0 → l1 = l2)
    (hJ : ∀ (m : List Value) (w' : World), m.length = 182 → (m[9]? = some (e 9) ∧ m[10]? = some (e 10) ∧ m[13]? = some (e 13) ∧ m[14]? = some (e 14) ∧ m[15]? = some (e 15) ∧ True) → Below W.heap.size W w' → J ⟨m.toArray, []⟩ w') :
    Code.wp Tryd.prog (tmC [1, 1, 1, 1, 1, 1, 1, 1, 1, 1, 1, 1, 1, 0]) (Exit.then J Q) ⟨#[e 0, e 1, e 2, e 3, e 4, e 5, e 6, e 7, e 8, e 9, e 10, e 11, e 12, e 13, e 14, e 15, e 16, .slice op np cp, .int .i64 e1, .slice oq nq cq, .int .i64 e2, e 21, e 22, e 23, e 24, e 25, e 26, e 27, e 28, e 29, e 30, e 31, e 32, e 33, e 34, e 35, e 36, e 37, e 38, e 39, e 40, e 41, e 42, e 43, e 44, e 45, e 46, e 47, e 48, e 49, e 50, e 51, e 52, e 53, e 54, e 55, e 56, e 57, e 58, e 59, e 60, e 61, e 62, e 63, e 64, e 65, e 66, e 67, e 68, e 69, e 70, e 71, e 72, e 73, e 74, e 75, e 76, e 77, e 78, e 79, e 80, e 81, e 82, e 83, e 84, e 85, e 86, e 87, e 88, e 89, e 90, e 91, e 92, e 93, e 94, e 95, e 96, e 97, e 98, e 99, e 100, e 101, e 102, e 103, e 104, e 105, e 106, e 107, e 108, e 109, e 110, e 111, e 112, e 113, e 114, e 115, e 116, e 117, e 118, e 119, e 120, e 121, e 122, e 123, e 124, e 125, e 126, e 127, e 128, e 129, e 130, e 131, e 132, e 133, e 134, e 135, e 136, e 137, e 138, e 139, e 140, e 141, e 142, e 143, e 144, e 145, e 146, e 147, e 148, e 149, e 150, e 151, e 152, e 153, e 154, e 155, e 156, e 157, e 158, e 159, e 160, e 161, e 162, e 163, e 164, e 165, e 166, e 167, e 168, e 169, e 170, e 171, e 172, e 173, e 174, e 175, e 176, e 177, e 178, e 179, e 180, e 181], []⟩ W := by
  have HJ := Lib.hid hJ
  clear hJ
  rcases he1 with rfl | rfl
  · rcases he2 with rfl | rfl
    · have hl := heq rfl rfl
      subst hl
      have hnn : nq = np := by omega
      have he := equalI_any (l := l1) (m := l1) (by rw [← hnp]; exact hp) (by rw [← hnq]; exact hq) (by omega) (by omega)
      rw [decide_eq_true rfl] at he
      have HE := Lib.hid he
      clear he hp hq hnp hnq heq hnn
      conv => arg 2; whnf
      go_wp2_with (go_at_call 12; go_loud (refine HE.out.mono ?_; rintro ee w2 ⟨rfl, hb⟩; have HB := Lib.hid hb; clear hb))
      exact HJ.out _ _ rfl ⟨rfl, rfl, rfl, rfl, rfl, trivial⟩ HB.out
    · clear hp hq hnp hnq heq
      conv => arg 2; whnf
      go_wp2_with fail
      exact HJ.out _ _ rfl ⟨rfl, rfl, rfl, rfl, rfl, trivial⟩ (Below.refl _ _)
  · clear hp hq hnp hnq heq
    conv => arg 2; whnf
    go_wp2_with fail
    exact HJ.out _ _ rfl ⟨rfl, rfl, rfl, rfl, rfl, trivial⟩ (Below.refl _ _)
set_option maxHeartbeats 8000000 in
set_option maxRecDepth 100000 in
theorem tm19 {xb n : Nat} {l : List Nat} {er : Int} {s : ByteArray} {k lo hi : Int} {lz : Bool} {p1 p2 : Option Addr} {n1 d1 n2 d2 : Nat} {W : World} {J : Act → World → Prop} {Q : Exit → Act → World → Prop} (e : Nat → Value) (hB : Blk W xb #[.int .u8 k, .slice p1 n1 d1, .int .i64 lo, .int .i64 hi, .bool lz, .slice p2 n2 d2] 28)
    (hcall : Calls Tryd.prog 10 #[.agg #[.int .u8 k, .slice p1 n1 d1, .int .i64 lo, .int .i64 hi, .bool lz, .slice p2 n2 d2], .string s] W (Eoc n l er W))
    (hJ : ∀ (m : List Value) (w' : World) (o : Option Addr) (c : Nat), m.length = 182 → (m[9]? = some (.pointer (some ⟨xb, 0, none⟩)) ∧ m[10]? = some (.string s) ∧ m[13]? = some (e 13) ∧ m[14]? = some (e 14) ∧ m[15]? = some (e 15) ∧ True) → m[21]? = some (.slice o n c) → m[22]? = some (.int .i64 er) → Row (fun _ => True) w' (.slice o n c) n 1 (intCs l) → Below W.heap.size W w' → J ⟨m.toArray, []⟩ w') :
    Code.wp Tryd.prog (tmC [1, 1, 1, 1, 1, 1, 1, 1, 1, 1, 1, 1, 1, 1, 0]) (Exit.then J Q) ⟨#[e 0, e 1, e 2, e 3, e 4, e 5, e 6, e 7, e 8, .pointer (some ⟨xb, 0, none⟩), .string s, e 11, e 12, e 13, e 14, e 15, e 16, e 17, e 18, e 19, e 20, e 21, e 22, e 23, e 24, e 25, e 26, e 27, e 28, e 29, e 30, e 31, e 32, e 33, e 34, e 35, e 36, e 37, e 38, e 39, e 40, e 41, e 42, e 43, e 44, e 45, e 46, e 47, e 48, e 49, e 50, e 51, e 52, e 53, e 54, e 55, e 56, e 57, e 58, e 59, e 60, e 61, e 62, e 63, e 64, e 65, e 66, e 67, e 68, e 69, e 70, e 71, e 72, e 73, e 74, e 75, e 76, e 77, e 78, e 79, e 80, e 81, e 82, e 83, e 84, e 85, e 86, e 87, e 88, e 89, e 90, e 91, e 92, e 93, e 94, e 95, e 96, e 97, e 98, e 99, e 100, e 101, e 102, e 103, e 104, e 105, e 106, e 107, e 108, e 109, e 110, e 111, e 112, e 113, e 114, e 115, e 116, e 117, e 118, e 119, e 120, e 121, e 122, e 123, e 124, e 125, e 126, e 127, e 128, e 129, e 130, e 131, e 132, e 133, e 134, e 135, e 136, e 137, e 138, e 139, e 140, e 141, e 142, e 143, e 144, e 145, e 146, e 147, e 148, e 149, e 150, e 151, e 152, e 153, e 154, e 155, e 156, e 157, e 158, e 159, e 160, e 161, e 162, e 163, e 164, e 165, e 166, e 167, e 168, e 169, e 170, e 171, e 172, e 173, e 174, e 175, e 176, e 177, e 178, e 179, e 180, e 181], []⟩ W := by
  have HC := Lib.hid hcall
  have HJ := Lib.hid hJ
  have b0 := hB.cell 0
  have b1 := hB.cell 1
  have b2 := hB.cell 2
  have b3 := hB.cell 3
  have b4 := hB.cell 4
  have b5 := hB.cell 5
  have bz := hB.lt
  clear hB
  clear hcall hJ
  conv => arg 2; whnf
  go_wp2_with (go_at_call 10; go_loud (refine HC.out.mono ?_; rintro ee w2 ⟨o, c, rfl, hr, hb⟩; have HR := Lib.hid (Row.mono (M := fun _ => True) hr (fun _ _ => trivial)); have HB := Lib.hid hb; clear hr hb))
  exact HJ.out _ _ _ _ rfl ⟨rfl, rfl, rfl, rfl, rfl, trivial⟩ rfl rfl HR.out HB.out
set_option maxHeartbeats 8000000 in
set_option maxRecDepth 100000 in
theorem tm20 {xb n : Nat} {l : List Nat} {er : Int} {s : ByteArray} {T : Nd}  {W : World} {J : Act → World → Prop} {Q : Exit → Act → World → Prop} (e : Nat → Value) 
    (hcl : Calls Tryd.prog 17 #[.int .i64 0, .int .i64 1, .bool false, .pointer (some ⟨xb, 0, none⟩)] W (Trt T W))
    (hcall : ∀ w' cs, Below W.heap.size W w' → NdAt (fun _ => True) w' T cs → Calls Tryd.prog 10 #[.agg cs.toArray, .string s] w' (Eoc n l er w'))
    (hJ : ∀ (m : List Value) (w' : World) (o : Option Addr) (c : Nat), m.length = 182 → (m[9]? = some (e 9) ∧ m[10]? = some (.string s) ∧ m[13]? = some (.func (.func 17) #[] #[.pointer (some ⟨xb, 0, none⟩)]) ∧ m[14]? = some (e 14) ∧ m[15]? = some (e 15) ∧ m[21]? = some (e 21) ∧ m[22]? = some (e 22) ∧ True) → m[23]? = some (.slice o n c) → m[24]? = some (.int .i64 er) → Row (fun _ => True) w' (.slice o n c) n 1 (intCs l) → Below W.heap.size W w' → J ⟨m.toArray, []⟩ w') :
    Code.wp Tryd.prog (tmC [1, 1, 1, 1, 1, 1, 1, 1, 1, 1, 1, 1, 1, 1, 1, 0]) (Exit.then J Q) ⟨#[e 0, e 1, e 2, e 3, e 4, e 5, e 6, e 7, e 8, e 9, .string s, e 11, e 12, .func (.func 17) #[] #[.pointer (some ⟨xb, 0, none⟩)], e 14, e 15, e 16, e 17, e 18, e 19, e 20, e 21, e 22, e 23, e 24, e 25, e 26, e 27, e 28, e 29, e 30, e 31, e 32, e 33, e 34, e 35, e 36, e 37, e 38, e 39, e 40, e 41, e 42, e 43, e 44, e 45, e 46, e 47, e 48, e 49, e 50, e 51, e 52, e 53, e 54, e 55, e 56, e 57, e 58, e 59, e 60, e 61, e 62, e 63, e 64, e 65, e 66, e 67, e 68, e 69, e 70, e 71, e 72, e 73, e 74, e 75, e 76, e 77, e 78, e 79, e 80, e 81, e 82, e 83, e 84, e 85, e 86, e 87, e 88, e 89, e 90, e 91, e 92, e 93, e 94, e 95, e 96, e 97, e 98, e 99, e 100, e 101, e 102, e 103, e 104, e 105, e 106, e 107, e 108, e 109, e 110, e 111, e 112, e 113, e 114, e 115, e 116, e 117, e 118, e 119, e 120, e 121, e 122, e 123, e 124, e 125, e 126, e 127, e 128, e 129, e 130, e 131, e 132, e 133, e 134, e 135, e 136, e 137, e 138, e 139, e 140, e 141, e 142, e 143, e 144, e 145, e 146, e 147, e 148, e 149, e 150, e 151, e 152, e 153, e 154, e 155, e 156, e 157, e 158, e 159, e 160, e 161, e 162, e 163, e 164, e 165, e 166, e 167, e 168, e 169, e 170, e 171, e 172, e 173, e 174, e 175, e 176, e 177, e 178, e 179, e 180, e 181], []⟩ W := by
  have HL := Lib.hid hcl
  have HC := Lib.hid hcall
  have HJ := Lib.hid hJ
  clear hcl hcall hJ
  conv => arg 2; whnf
  go_wp2_with (first
    | (go_at_call 17; go_loud (refine HL.out.mono ?_; rintro ee w2 ⟨cs2, rfl, hn, hb⟩; have HN := Lib.hid hn; have HB := Lib.hid hb; clear hn hb))
    | (go_at_call 10; go_loud (refine (HC.out _ _ HB.out HN.out).mono ?_; rintro ee w3 ⟨o, c, rfl, hr, hb⟩; have HR := Lib.hid (Row.mono (M := fun _ => True) hr (fun _ _ => trivial)); have HB3 := Lib.hid (HB.out.trans (hb.mono HB.out.size)); clear hr hb)))
  exact HJ.out _ _ _ _ rfl ⟨rfl, rfl, rfl, rfl, rfl, rfl, rfl, trivial⟩ rfl rfl HR.out HB3.out
set_option maxHeartbeats 8000000 in
set_option maxRecDepth 100000 in
theorem tm21 {xb n : Nat} {l : List Nat} {er : Int} {s : ByteArray} {T : Nd}  {W : World} {J : Act → World → Prop} {Q : Exit → Act → World → Prop} (e : Nat → Value) 
    (hcl : Calls Tryd.prog 17 #[.int .i64 0, .int .i64 1, .bool true, .pointer (some ⟨xb, 0, none⟩)] W (Trt T W))
    (hcall : ∀ w' cs, Below W.heap.size W w' → NdAt (fun _ => True) w' T cs → Calls Tryd.prog 10 #[.agg cs.toArray, .string s] w' (Eoc n l er w'))
    (hJ : ∀ (m : List Value) (w' : World) (o : Option Addr) (c : Nat), m.length = 182 → (m[9]? = some (e 9) ∧ m[10]? = some (.string s) ∧ m[13]? = some (.func (.func 17) #[] #[.pointer (some ⟨xb, 0, none⟩)]) ∧ m[14]? = some (e 14) ∧ m[15]? = some (e 15) ∧ m[21]? = some (e 21) ∧ m[22]? = some (e 22) ∧ m[23]? = some (e 23) ∧ m[24]? = some (e 24) ∧ True) → m[25]? = some (.slice o n c) → m[26]? = some (.int .i64 er) → Row (fun _ => True) w' (.slice o n c) n 1 (intCs l) → Below W.heap.size W w' → J ⟨m.toArray, []⟩ w') :
    Code.wp Tryd.prog (tmC [1, 1, 1, 1, 1, 1, 1, 1, 1, 1, 1, 1, 1, 1, 1, 1, 0]) (Exit.then J Q) ⟨#[e 0, e 1, e 2, e 3, e 4, e 5, e 6, e 7, e 8, e 9, .string s, e 11, e 12, .func (.func 17) #[] #[.pointer (some ⟨xb, 0, none⟩)], e 14, e 15, e 16, e 17, e 18, e 19, e 20, e 21, e 22, e 23, e 24, e 25, e 26, e 27, e 28, e 29, e 30, e 31, e 32, e 33, e 34, e 35, e 36, e 37, e 38, e 39, e 40, e 41, e 42, e 43, e 44, e 45, e 46, e 47, e 48, e 49, e 50, e 51, e 52, e 53, e 54, e 55, e 56, e 57, e 58, e 59, e 60, e 61, e 62, e 63, e 64, e 65, e 66, e 67, e 68, e 69, e 70, e 71, e 72, e 73, e 74, e 75, e 76, e 77, e 78, e 79, e 80, e 81, e 82, e 83, e 84, e 85, e 86, e 87, e 88, e 89, e 90, e 91, e 92, e 93, e 94, e 95, e 96, e 97, e 98, e 99, e 100, e 101, e 102, e 103, e 104, e 105, e 106, e 107, e 108, e 109, e 110, e 111, e 112, e 113, e 114, e 115, e 116, e 117, e 118, e 119, e 120, e 121, e 122, e 123, e 124, e 125, e 126, e 127, e 128, e 129, e 130, e 131, e 132, e 133, e 134, e 135, e 136, e 137, e 138, e 139, e 140, e 141, e 142, e 143, e 144, e 145, e 146, e 147, e 148, e 149, e 150, e 151, e 152, e 153, e 154, e 155, e 156, e 157, e 158, e 159, e 160, e 161, e 162, e 163, e 164, e 165, e 166, e 167, e 168, e 169, e 170, e 171, e 172, e 173, e 174, e 175, e 176, e 177, e 178, e 179, e 180, e 181], []⟩ W := by
  have HL := Lib.hid hcl
  have HC := Lib.hid hcall
  have HJ := Lib.hid hJ
  clear hcl hcall hJ
  conv => arg 2; whnf
  go_wp2_with (first
    | (go_at_call 17; go_loud (refine HL.out.mono ?_; rintro ee w2 ⟨cs2, rfl, hn, hb⟩; have HN := Lib.hid hn; have HB := Lib.hid hb; clear hn hb))
    | (go_at_call 10; go_loud (refine (HC.out _ _ HB.out HN.out).mono ?_; rintro ee w3 ⟨o, c, rfl, hr, hb⟩; have HR := Lib.hid (Row.mono (M := fun _ => True) hr (fun _ _ => trivial)); have HB3 := Lib.hid (HB.out.trans (hb.mono HB.out.size)); clear hr hb)))
  exact HJ.out _ _ _ _ rfl ⟨rfl, rfl, rfl, rfl, rfl, rfl, rfl, rfl, rfl, trivial⟩ rfl rfl HR.out HB3.out
set_option maxHeartbeats 8000000 in
set_option maxRecDepth 100000 in
theorem tm25 {xb n : Nat} {l : List Nat} {er : Int} {s : ByteArray} {T : Nd} {a z : Int} {W : World} {J : Act → World → Prop} {Q : Exit → Act → World → Prop} (e : Nat → Value) (ha0 : 1 ≤ a) (ha : a ≤ 3)
    (hcl : Calls Tryd.prog 17 #[.int .i64 (a - 1), .int .i64 z, .bool false, .pointer (some ⟨xb, 0, none⟩)] W (Trt T W))
    (hcall : ∀ w' cs, Below W.heap.size W w' → NdAt (fun _ => True) w' T cs → Calls Tryd.prog 10 #[.agg cs.toArray, .string s] w' (Eoc n l er w'))
    (hJ : ∀ (m : List Value) (w' : World) (o : Option Addr) (c : Nat), m.length = 182 → (m[9]? = some (e 9) ∧ m[10]? = some (.string s) ∧ m[13]? = some (.func (.func 17) #[] #[.pointer (some ⟨xb, 0, none⟩)]) ∧ m[14]? = some (.int .i64 a) ∧ m[15]? = some (.int .i64 z) ∧ True) → m[17]? = some (.slice o n c) → m[18]? = some (.int .i64 er) → Row (fun _ => True) w' (.slice o n c) n 1 (intCs l) → Below W.heap.size W w' → J ⟨m.toArray, []⟩ w') :
    Code.wp Tryd.prog (tmC [1, 1, 1, 1, 1, 1, 1, 1, 1, 1, 1, 1, 1, 1, 1, 1, 1, 1, 1, 0]) (Exit.then J Q) ⟨#[e 0, e 1, e 2, e 3, e 4, e 5, e 6, e 7, e 8, e 9, .string s, e 11, e 12, .func (.func 17) #[] #[.pointer (some ⟨xb, 0, none⟩)], .int .i64 a, .int .i64 z, e 16, e 17, e 18, e 19, e 20, e 21, e 22, e 23, e 24, e 25, e 26, e 27, e 28, e 29, e 30, e 31, e 32, e 33, e 34, e 35, e 36, e 37, e 38, e 39, e 40, e 41, e 42, e 43, e 44, e 45, e 46, e 47, e 48, e 49, e 50, e 51, e 52, e 53, e 54, e 55, e 56, e 57, e 58, e 59, e 60, e 61, e 62, e 63, e 64, e 65, e 66, e 67, e 68, e 69, e 70, e 71, e 72, e 73, e 74, e 75, e 76, e 77, e 78, e 79, e 80, e 81, e 82, e 83, e 84, e 85, e 86, e 87, e 88, e 89, e 90, e 91, e 92, e 93, e 94, e 95, e 96, e 97, e 98, e 99, e 100, e 101, e 102, e 103, e 104, e 105, e 106, e 107, e 108, e 109, e 110, e 111, e 112, e 113, e 114, e 115, e 116, e 117, e 118, e 119, e 120, e 121, e 122, e 123, e 124, e 125, e 126, e 127, e 128, e 129, e 130, e 131, e 132, e 133, e 134, e 135, e 136, e 137, e 138, e 139, e 140, e 141, e 142, e 143, e 144, e 145, e 146, e 147, e 148, e 149, e 150, e 151, e 152, e 153, e 154, e 155, e 156, e 157, e 158, e 159, e 160, e 161, e 162, e 163, e 164, e 165, e 166, e 167, e 168, e 169, e 170, e 171, e 172, e 173, e 174, e 175, e 176, e 177, e 178, e 179, e 180, e 181], []⟩ W := by
  have HL := Lib.hid hcl
  have HC := Lib.hid hcall
  have HJ := Lib.hid hJ
  clear hcl hcall hJ
  conv => arg 2; whnf
  go_wp2_with (first
    | (go_at_call 17; go_loud (refine HL.out.mono ?_; rintro ee w2 ⟨cs2, rfl, hn, hb⟩; have HN := Lib.hid hn; have HB := Lib.hid hb; clear hn hb))
    | (go_at_call 10; go_loud (refine (HC.out _ _ HB.out HN.out).mono ?_; rintro ee w3 ⟨o, c, rfl, hr, hb⟩; have HR := Lib.hid (Row.mono (M := fun _ => True) hr (fun _ _ => trivial)); have HB3 := Lib.hid (HB.out.trans (hb.mono HB.out.size)); clear hr hb)))
  exact HJ.out _ _ _ _ rfl ⟨rfl, rfl, rfl, rfl, rfl, trivial⟩ rfl rfl HR.out HB3.out
set_option maxHeartbeats 8000000 in
set_option maxRecDepth 100000 in
theorem tm26 {xb n : Nat} {l : List Nat} {er : Int} {s : ByteArray} {T : Nd} {a z : Int} {W : World} {J : Act → World → Prop} {Q : Exit → Act → World → Prop} (e : Nat → Value) (ha0 : 1 ≤ a) (ha : a ≤ 3)
    (hcl : Calls Tryd.prog 17 #[.int .i64 (a - 1), .int .i64 z, .bool true, .pointer (some ⟨xb, 0, none⟩)] W (Trt T W))
    (hcall : ∀ w' cs, Below W.heap.size W w' → NdAt (fun _ => True) w' T cs → Calls Tryd.prog 10 #[.agg cs.toArray, .string s] w' (Eoo n l er w'))
    (hJ : ∀ (m : List Value) (w' : World) (o : Option Addr) (c B : Nat), m.length = 182 → (m[17]? = some (e 17) ∧ m[18]? = some (e 18) ∧ True) → m[19]? = some (.slice o n c) → m[20]? = some (.int .i64 er) → w'.ownsRow B 3 1 (.slice o n c) n (intCs l) → W.heap.size ≤ B → Below W.heap.size W w' → J ⟨m.toArray, []⟩ w') :
    Code.wp Tryd.prog (tmC [1, 1, 1, 1, 1, 1, 1, 1, 1, 1, 1, 1, 1, 1, 1, 1, 1, 1, 1, 1, 0]) (Exit.then J Q) ⟨#[e 0, e 1, e 2, e 3, e 4, e 5, e 6, e 7, e 8, e 9, .string s, e 11, e 12, .func (.func 17) #[] #[.pointer (some ⟨xb, 0, none⟩)], .int .i64 a, .int .i64 z, e 16, e 17, e 18, e 19, e 20, e 21, e 22, e 23, e 24, e 25, e 26, e 27, e 28, e 29, e 30, e 31, e 32, e 33, e 34, e 35, e 36, e 37, e 38, e 39, e 40, e 41, e 42, e 43, e 44, e 45, e 46, e 47, e 48, e 49, e 50, e 51, e 52, e 53, e 54, e 55, e 56, e 57, e 58, e 59, e 60, e 61, e 62, e 63, e 64, e 65, e 66, e 67, e 68, e 69, e 70, e 71, e 72, e 73, e 74, e 75, e 76, e 77, e 78, e 79, e 80, e 81, e 82, e 83, e 84, e 85, e 86, e 87, e 88, e 89, e 90, e 91, e 92, e 93, e 94, e 95, e 96, e 97, e 98, e 99, e 100, e 101, e 102, e 103, e 104, e 105, e 106, e 107, e 108, e 109, e 110, e 111, e 112, e 113, e 114, e 115, e 116, e 117, e 118, e 119, e 120, e 121, e 122, e 123, e 124, e 125, e 126, e 127, e 128, e 129, e 130, e 131, e 132, e 133, e 134, e 135, e 136, e 137, e 138, e 139, e 140, e 141, e 142, e 143, e 144, e 145, e 146, e 147, e 148, e 149, e 150, e 151, e 152, e 153, e 154, e 155, e 156, e 157, e 158, e 159, e 160, e 161, e 162, e 163, e 164, e 165, e 166, e 167, e 168, e 169, e 170, e 171, e 172, e 173, e 174, e 175, e 176, e 177, e 178, e 179, e 180, e 181], []⟩ W := by
  have HL := Lib.hid hcl
  have HC := Lib.hid hcall
  have HJ := Lib.hid hJ
  clear hcl hcall hJ
  conv => arg 2; whnf
  go_wp2_with (first
    | (go_at_call 17; go_loud (refine HL.out.mono ?_; rintro ee w2 ⟨cs2, rfl, hn, hb⟩; have HN := Lib.hid hn; have HB := Lib.hid hb; clear hn hb))
    | (go_at_call 10; go_loud (refine (HC.out _ _ HB.out HN.out).mono ?_; rintro ee w3 ⟨o, c, rfl, hr, hb⟩; have HR := Lib.hid hr; have HB3 := Lib.hid (HB.out.trans (hb.mono HB.out.size)); clear hr hb)))
  exact HJ.out _ _ _ _ _ rfl ⟨rfl, rfl, trivial⟩ rfl rfl HR.out HB.out.size HB3.out
end Go.Proofs.YtnhjakdmbfadlaaDoor
