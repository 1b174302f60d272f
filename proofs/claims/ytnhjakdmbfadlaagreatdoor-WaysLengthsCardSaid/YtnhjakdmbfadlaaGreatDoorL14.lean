/- Parts of the proof: Fol. Conditions: none. -/
import Derived.Test.YtnhjakdmbfadlaaGreatDoorL12
import Derived.Deep.DeepCutAuto
import Derived.Deep.CutRange
set_option linter.all false
/- A repetition's closure. -/
namespace Go.Proofs.YtnhjakdmbfadlaaGreatDoor
open Go.RowKit Wy Mem Grow

theorem info3 : (Tryz.prog.info? 3).map (fun i => (i.zero, i.size, i.bytes)) = some (some (.int .i64 0), 1, 8) := by kernel_rfl
theorem RpAt.b4g {R : Rc} {N : Nat → Prop} {w w1 : World} {vo vc : Value} {σ : Fs Wy.Way} (h : RpAt R N w vo vc σ) (hg : w.grownBy w1 vc.ownBlock) : Blk w1 (R.B + 4) #[vc] 48 :=
  h.b4.kept (Kept.of_grown hg) (fun e => by have := h.cntB _ e; omega)
theorem RpAt.b3g {R : Rc} {N : Nat → Prop} {w w1 : World} {vo vc : Value} {σ : Fs Wy.Way} (h : RpAt R N w vo vc σ) (hg : w.grownBy w1 vo.ownBlock) : Blk w1 (R.B + 3) #[vo] 38 :=
  h.b3.kept (Kept.of_grown hg) (fun e => by have := h.outB _ e; omega)
theorem follow_eq {W : Type} (A : Alg W) (f : Nat → Option (List W)) (lo hi : Int) (lazy : Bool) (k : Nat) (w : W) (t : Nat) (σ : Fs W) {st ok1 lz : Bool} (hst : decide (lo ≤ (t : Int)) = st) (hlz : lazy = lz) (hok : (σ.ok && decide ((bump σ.counts t).getD t 0 ≤ 500)) = ok1) :
    Wy.follow A f lo hi lazy (k + 1) w t σ = if (ok1 && (decide (hi = -1) || decide ((t : Int) < hi))) = true then
        (let q := loopF (fun v σ => Wy.follow A f lo hi lazy k (A.thn w v) (t + 1) σ) ((f (A.stop w)).getD []) { finF (st && lz) w ⟨σ.out, bump σ.counts t, ok1⟩ with ok := (finF (st && lz) w ⟨σ.out, bump σ.counts t, ok1⟩).ok && (f (A.stop w)).isSome }
         if q.2 then q.1 else finF (st && !lz) w q.1)
      else finF (st && !lz) w (finF (st && lz) w ⟨σ.out, bump σ.counts t, ok1⟩) := by
  subst hst hok hlz
  rw [Wy.follow]
  simp only
  split
  · cases f (A.stop w) with
    | none => simp [loopF]
    | some m => simp
  · rfl
theorem WaysSpec.any {C : Cx} {t : Nd} (h : WaysSpec C t) {N : Nat → Prop} {w : World} {num grp b place : Nat} (hA : At C N w) (hp : PartAt N w t num grp b) (ht : Tabd C.T t num grp) (hg : grp + opened t ≤ C.G) (hpl : place ≤ C.s.size) :
    Calls Tryz.prog 43 #[.pointer (some ⟨C.m, 0, none⟩), .pointer (some ⟨b, 0, none⟩), .int .i64 place] w fun e w' => ∃ a c, e = .returned (.tuple #[.slice a ((C.wy t grp place).getD []).length c, .bool (C.wy t grp place).isSome]) ∧ Kept (fun b => b = C.mb) w w' ∧ At C N w' ∧ WaysAt N w' C.G C.s.size (.slice a ((C.wy t grp place).getD []).length c) ((C.wy t grp place).getD []) := by
  cases ho : C.wy t grp place with
  | none => exact (h.no hA hp ht hg hpl ho).mono fun e w' ⟨h1, h2, h3⟩ => ⟨none, 0, h1, h2, h3, WaysAt.nil _ _ _ _ _ _⟩
  | some m => exact (h.yes hA hp ht hg hpl ho).mono fun e w' ⟨a, c, h1, h2, h3, h4⟩ => ⟨a, c, h1, h2, h3, h4⟩
def folW (R : Rc) (N5 : Nat → Prop) (W5 : World) (more : List Wy.Way) (fine : Bool) : List Value → World → Prop
  | [] => fun w' => w' = W5.drew
  | [v] => fun w' => ∃ a c, v = .tuple #[.slice a more.length c, .bool fine] ∧ Kept (fun b => b = R.C.mb) W5 w' ∧ At R.C N5 w' ∧ WaysAt N5 w' R.C.G R.C.s.size (.slice a more.length c) more
  | _ => fun _ => False
def folV (R : Rc) (N6 : Nat → Prop) (Wb : World) (y : Int) (sp : List (Int × Int)) (σ : Fs Wy.Way) : List Value → World → Prop
  | [] => fun w' => w' = Wb.drew
  | [v] => fun w' => Below Wb.heap.size Wb w' ∧ ∃ o c, v = .agg #[.int .i64 y, .slice o sp.length c] ∧ SpsAt N6 w' (.slice o sp.length c) sp
  | [_, _] => fun w' => ∃ N' vo vc, RpAt R N' w' vo vc σ ∧ Goes R N6 Wb N' w'
  | _ => fun _ => False
def FolSpec (R : Rc) (s : Nd) (grp : Nat) (Pt : (Nat → Prop) → World → Prop) (k : Nat) : Prop :=
  ∀ (N : Nat → Prop) (w : World) (vo vc sv : Value) (σ : Fs Wy.Way) (x : Wy.Way) (t : Nat), t + k = 36 → RpAt R N w vo vc σ → Pt N w → SpsAt N w sv x.spans → x.spans.length = R.C.G → x.stop ≤ R.C.s.size → σ.ok = true → FsOk t 500 σ →
    ((dN s = 1 ∧ t ≤ x.stop) ∨ (0 ≤ R.hi ∧ R.hi ≤ 1 ∧ t ≤ 1)) →
    Calls Tryz.prog 92 #[.agg #[.int .i64 x.stop, sv], .int .i64 t, .pointer (some ⟨R.B + 4, 0, none⟩), .pointer (some ⟨R.B + 5, 0, none⟩), .pointer (some ⟨R.B + 2, 0, none⟩), .pointer (some ⟨R.B + 3, 0, none⟩), .pointer (some ⟨R.B, 0, none⟩), .pointer (some ⟨R.B + 1, 0, none⟩), .pointer (some ⟨R.B + 6, 0, none⟩)] w (Flw R N w (Wy.follow (wayA R.C.G) (fun q => R.C.wy s grp q) R.lo R.hi R.lazy k x t σ))

set_option maxHeartbeats 4000000 in
set_option maxRecDepth 100000 in
theorem fol_step {R : Rc} (hC : R.C.Ok) {set : List Rg} {s : Nd} {num grp : Nat} (hsp : WaysSpec R.C s) (hfit : Fit s) (ht : Tabd R.C.T s (num + 1) grp) (hg : grp + opened s ≤ R.C.G) (hlo : 0 ≤ R.lo ∧ R.lo ≤ 1000) (hhi : -1 ≤ R.hi ∧ R.hi ≤ 1000) (hnul : (Wy.look s).nullable = true → 0 ≤ R.hi ∧ R.hi ≤ 1) (k : Nat)
    (ih : FolSpec R s grp (fun N w => PartAt N w (.mk 5 set R.lo R.hi R.lazy [s]) num grp R.b) k) : FolSpec R s grp (fun N w => PartAt N w (.mk 5 set R.lo R.hi R.lazy [s]) num grp R.b) (k + 1) := by
  intro N w vo vc sv σ x t htk hR hP hS hxG hxl hok hF hfu
  obtain ⟨so, sc, rfl⟩ := hS.row.slice
  have HR := Lib.hid hR
  have HP := Lib.hid hP
  have HS := Lib.hid hS
  have HXG := Lib.hid hxG
  have HF := Lib.hid hF
  have HIH := Lib.hid ih
  have HSP := Lib.hid hsp
  have hx32 : (x.stop : Int) ≤ 32 := by have := hC.len; omega
  have ht36 : (t : Int) < 36 := by omega
  have hc36 : (σ.counts.length : Int) ≤ 36 := by have := hF.short; omega
  obtain ⟨oc, cc, rfl⟩ := own_slice hR.cnt
  obtain ⟨e4, f4⟩ := hR.b4.one
  have z4 := hR.b4.lt
  have hbw : Below w.heap.size w (w.alloc (.cells #[.int .i64 x.stop, .slice so x.spans.length sc] 43)) := (Below.refl _ _).alloc (Nat.le_refl _) _
  have HBW := Lib.hid hbw
  have HR1 := Lib.hid (HR.out.below hbw)
  have HE4 := Lib.hid hR.b4
  clear hR hP hS hxG hF ih hsp hbw
  go_enter Tryz.func92, Tryz.ntmps92
  go_upto_if 19 with fail
  have hB9 : Blk (w.alloc (.cells #[.int .i64 x.stop, .slice so x.spans.length sc] 43)) w.heap.size #[.int .i64 x.stop, .slice so x.spans.length sc] 43 := Blk.new _ _ _
  have hg1 : Goes R N w N (w.alloc (.cells #[.int .i64 x.stop, .slice so x.spans.length sc] 43)) := Goes.below HBW.out
  generalize (w.alloc (.cells #[.int .i64 x.stop, .slice so x.spans.length sc] 43)) = W1 at hB9 hg1 HR1 ⊢
  have HB9 := Lib.hid hB9
  have HG1 := Lib.hid hg1
  have hN9 : N w.heap.size := HR.out.at_.new _ (Nat.le_refl _)
  obtain ⟨c0, hc0⟩ : ∃ c0, c0 = if σ.counts.length = t then σ.counts ++ [0] else σ.counts := ⟨_, rfl⟩
  have HC0 := Lib.hid hc0
  clear hB9 hg1 hc0 e4 f4 z4 HE4
  go_cut [] (fun wx => ∃ N2 vc2, RpAt R N2 wx vo vc2 { σ with counts := c0 } ∧ Goes R N W1 N2 wx)
  case first =>
    by_cases hct : σ.counts.length = t
    · obtain ⟨e4, f4⟩ := HR1.out.b4.one
      have z4 := HR1.out.b4.lt
      have hb3 : Below W1.heap.size W1 (W1.alloc (.cells #[.int .i64 0] 3)) := (Below.refl _ _).alloc (Nat.le_refl _) _
      have HR3 := Lib.hid (HR1.out.below hb3)
      have hsrc : SrcAt (W1.alloc (.cells #[.int .i64 0] 3)) (.slice (some ⟨W1.heap.size, 0, none⟩) 1 1) 1 [.int .i64 0] := .inr ⟨_, _, rfl, fun j u hu => by
        match j with
        | 0 => simp at hu; subst hu; simp [Addr.add, (Blk.new W1 #[.int .i64 0] 3).cell]
        | j + 1 => simp at hu⟩
      have HSRC := Lib.hid hsrc
      obtain ⟨i0, hi, hz0, hz1, hz2⟩ := info_parts info3
      have hmx1 : σ.counts.length + 1 ≤ maxLen := by unfold maxLen; omega
      have hmx2 : (σ.counts.length + 1) * 8 ≤ 140737488355328 := by omega
      have hctI : (σ.counts.length : Int) = t := by omega
      have HB3 := Lib.hid hb3
      have HCT := Lib.hid hct
      clear hsrc hb3 hct
      go_wp2_with (first | (at_builtin; refine wpList_append_row rfl _ _ 48 rfl Tryz.underlying48 hi hz0 hz1 hz2 rfl (.slice oc σ.counts.length cc) σ.counts.length _ rfl HR3.out.cnt _ 1 _ rfl HSRC.out rfl (by simp [Value.oneCell']) hmx1 hmx2 (Nat.le_trans HR1.out.size HB3.out.size) ?_; intro v7 w7 hown7 hgrow7 h37 h47; obtain ⟨ov, cv, rfl⟩ := own_slice hown7; have HO7 := Lib.hid hown7; have HG7 := Lib.hid hgrow7; have HV7 := Lib.hid h37; obtain ⟨q4, r4⟩ := (HR3.out.b4g hgrow7).one; clear hown7 hgrow7))
      go_meet
      obtain ⟨hr8, hg8⟩ := HR3.out.cntMore HO7.out HG7.out HV7.out
      exact ⟨_, _, by rw [HC0.out, if_pos HCT.out]; exact hr8, (Goes.below HB3.out).trans hg8⟩
    · have hctI : ¬ (σ.counts.length : Int) = t := by omega
      obtain ⟨e4, f4⟩ := HR1.out.b4.one
      have z4 := HR1.out.b4.lt
      go_wp2_with fail
      go_meet
      exact ⟨N, _, by rw [HC0.out, if_neg hct]; exact HR1.out, Goes.refl _ _ _⟩
  case rest =>
    rename World => W2
    obtain ⟨N2, vc2, hr2, hg2⟩ := hcut
    have hcl : t < c0.length := by
      have := HF.out.long
      rw [HC0.out]
      split
      · rw [List.length_append]; simp; omega
      · omega
    have hcl36 : c0.length ≤ 36 := by
      have := HF.out.short
      rw [HC0.out]
      split
      · rw [List.length_append]; simp; omega
      · omega
    have hcb : c0.modify t (· + 1) = bump σ.counts t := by rw [HC0.out]; rfl
    obtain ⟨g2, cc2, rfl, -, hg2z, -⟩ := own_some hr2.cnt (show 0 < c0.length by omega)
    have hcell : W2.cell? ⟨g2, t, none⟩ = some (.int .i64 c0[t]) := by
      rw [hr2.cnt.cellAt t (by simpa using hcl)]
      simp [hcl]
    have hfz : W2.frozen? ⟨g2, t, none⟩ = false := hr2.cnt.frozenAt t
    have hc501 : c0[t] ≤ 500 := by
      have h1 := HF.out.ok hok
      have h2 : ∀ c ∈ c0, c ≤ 500 := by
        rw [HC0.out]
        split
        · intro c hc
          rcases List.mem_append.1 hc with hc | hc
          · exact h1 c hc
          · simp only [List.mem_singleton] at hc; omega
        · exact h1
      exact h2 _ (List.getElem_mem hcl)
    obtain ⟨hr3, hg3⟩ := hr2.cntSet rfl hcl
    obtain ⟨ok1, hok1⟩ : ∃ ok1 : Bool, decide ((c0[t] : Int) + 1 ≤ 500) = ok1 := ⟨_, rfl⟩
    obtain ⟨hr40, hg4⟩ := hr3.setOk ok1
    obtain ⟨e4, f4⟩ := hr2.b4.one
    obtain ⟨e5, f5⟩ := hr2.b5.one
    have z2 := hr2.size
    have hgB : R.B + 7 ≤ g2 := (hr2.cntB g2 rfl).1
    have n45 : R.B + 4 ≠ g2 := by omega
    have n55 : R.B + 5 ≠ g2 := by omega
    have hclI : (t : Int) < c0.length := by omega
    have hclJ : (c0.length : Int) ≤ 36 := by omega
    have hc5 : (c0[t] : Int) ≤ 500 := by omega
    have hokI : σ.ok = true := hok
    have hr4 : RpAt R N2 ((W2.setCell ⟨g2, t, none⟩ (.int .i64 (c0[t] + 1))).setCell ⟨R.B + 5, 0, none⟩ (.bool ok1)) vo (.slice (some ⟨g2, 0, none⟩) c0.length cc2) ⟨σ.out, bump σ.counts t, ok1⟩ := by rw [← hcb]; exact hr40
    have HR4 := Lib.hid hr4
    have HG4 := Lib.hid (hg2.trans (hg3.trans hg4))
    have HOK1 := Lib.hid hok1
    clear hr2 hr3 hr4 hr40 hg2 hg3 hg4
    go_upto_region 5 with fail
    generalize ((W2.setCell ⟨g2, t, none⟩ (.int .i64 (c0[t] + 1))).setCell ⟨R.B + 5, 0, none⟩ (.bool ok1)) = W4 at HR4 HG4 ⊢
    generalize (Value.slice (some ⟨g2, 0, none⟩) c0.length cc2) = vc4 at HR4 ⊢
    clear e4 f4 e5 f5 z2 hgB n45 n55 hcell hfz hg2z W2
    have hokc : (σ.ok && decide ((bump σ.counts t).getD t 0 ≤ 500)) = ok1 := by
      rw [hok, ← HOK1.out, ← hcb]
      simp [hcl]
      omega
    have HOKC := Lib.hid hokc
    obtain ⟨st, hst⟩ : ∃ st : Bool, decide (R.lo ≤ (t : Int)) = st := ⟨_, rfl⟩
    obtain ⟨lz, hlz⟩ : ∃ lz : Bool, R.lazy = lz := ⟨_, rfl⟩
    have e22 : W4.cell? ⟨R.B + 2, 2, none⟩ = some (.int .i64 R.lo) := HR4.out.b2.cell 2
    have e24 : W4.cell? ⟨R.B + 2, 4, none⟩ = some (.bool lz) := hlz ▸ HR4.out.b2.cell 4
    have z22 := HR4.out.b2.lt
    have HLZ := Lib.hid hlz
    clear hokc hlz
    go_upto_region 6 with fail
    go_cut [45] (fun s45 wx => s45 = .bool (st && lz) ∧ wx = W4)
    case first =>
      cases st <;> cases lz <;> (go_wp2_with fail; go_meet; exact ⟨rfl, rfl⟩)
    case rest =>
      obtain ⟨rfl, rfl⟩ := hcut
      rename World => W4
      go_upto_if 45 with fail
      go_cut [] (fun wx => ∃ N5 vo5, RpAt R N5 wx vo5 vc4 (finF (st && lz) x ⟨σ.out, bump σ.counts t, ok1⟩) ∧ Goes R N W1 N5 wx)
      case first =>
        cases hb : (st && lz)
        · go_wp2_with fail
          go_meet
          have hr6 : RpAt R N2 W4 vo vc4 (finF (st && lz) x ⟨σ.out, bump σ.counts t, ok1⟩) := by rw [hb]; exact HR4.out
          exact ⟨N2, vo, hr6, HG4.out⟩
        · obtain ⟨cs, hcs1, hcs2⟩ := HR4.out.out
          obtain ⟨oo, co, rfl⟩ := own_slice hcs1
          obtain ⟨e3, f3⟩ := HR4.out.b3.one
          have z3 := HR4.out.b3.lt
          have hB9 := HG4.out.blk HR1.out.at_ HB9.out hN9
          obtain ⟨e90, e91, -, -⟩ := hB9.two
          have z9 := hB9.lt
          have hS4 := ((HG1.out.trans HG4.out).spans HR.out.at_ HS.out)
          have hb5 : Below W4.heap.size W4 (W4.alloc (.cells #[.int .i64 x.stop, .slice so x.spans.length sc] 43)) := (Below.refl _ _).alloc (Nat.le_refl _) _
          have HB5 := Lib.hid hb5
          have HR5 := Lib.hid (HR4.out.below hb5)
          have HC5 := Lib.hid (hcs2.go (Kept.of_below hb5 (fun _ => False)) (fun _ _ hn => ⟨id, hn⟩))
          have HS5 := Lib.hid ((Goes.below (R := R) (N := N2) hb5).spans HR4.out.at_ hS4)
          have HO5 := Lib.hid (ownsRow_go hcs1 (Kept.of_below hb5 (fun _ => False)) (fun _ _ => id))
          have HSRC := Lib.hid (one_src (w := W4) (st := x.stop) (sv := .slice so x.spans.length sc))
          obtain ⟨i0, hi, hz0, hz1, hz2⟩ := info_parts info43
          have ho5 := HF.out.out
          have hmx1 : σ.out.length + 1 ≤ maxLen := by unfold maxLen; omega
          have hmx2 : (σ.out.length + 1) * 32 ≤ 140737488355328 := by omega
          have hbase : R.B + 7 ≤ (W4.alloc (.cells #[.int .i64 x.stop, .slice so x.spans.length sc] 43)).heap.size := HR5.out.size
          clear hB9 hS4 hb5 hcs1 hcs2
          go_wp2_with (first | (at_builtin; refine wpList_append_row rfl _ _ 38 rfl Tryz.underlying38 hi hz0 hz1 hz2 rfl (.slice oo σ.out.length co) σ.out.length _ rfl HO5.out _ 1 _ rfl HSRC.out rfl (by simp [Value.oneCell']) hmx1 hmx2 hbase ?_; intro v7 w7 hown7 hgrow7 h37 h47; obtain ⟨ov, cv, rfl⟩ := own_slice hown7; have HO7 := Lib.hid hown7; have HG7 := Lib.hid hgrow7; have HV7 := Lib.hid h37; obtain ⟨q3, r3⟩ := (HR5.out.b3g hgrow7).one; clear hown7 hgrow7))
          go_meet
          obtain ⟨hr8, hg8⟩ := HR5.out.outMore HC5.out HS5.out hxl HXG.out HO7.out HG7.out HV7.out
          have hgo8 := HG4.out.trans ((Goes.below HB5.out).trans hg8)
          refine ⟨_, .slice ov (σ.out.length + 1) cv, ?_, hgo8⟩
          rw [hb]
          exact hr8
      case rest =>
        rename World => W5
        obtain ⟨N5, vo5, hr5, hg5⟩ := hcut
        have hF1 : FsOk (t + 1) 501 (finF (st && lz) x (⟨σ.out, bump σ.counts t, ok1⟩ : Fs Wy.Way)) := by
          have h1 := HF.out.bump (by omega) hok
          rw [HOKC.out] at h1
          exact (h1.fin _ _).mono (Nat.le_refl _) (Nat.le_refl 501)
        have heq := follow_eq (wayA R.C.G) (fun q => R.C.wy s grp q) R.lo R.hi R.lazy k x t σ hst HLZ.out HOKC.out
        have hok1' : (finF (st && lz) x (⟨σ.out, bump σ.counts t, ok1⟩ : Fs Wy.Way)).ok = ok1 := by rw [finF_ok]
        generalize (finF (st && lz) x (⟨σ.out, bump σ.counts t, ok1⟩ : Fs Wy.Way)) = σ1 at hr5 hF1 heq hok1'
        have HR5 := Lib.hid hr5
        have HG5 := Lib.hid hg5
        have HF1 := Lib.hid hF1
        have HEQ := Lib.hid heq
        have e5 : W5.cell? ⟨R.B + 5, 0, none⟩ = some (.bool ok1) := hok1' ▸ hr5.b5.cell 0
        obtain ⟨hi, hhi'⟩ : ∃ hi, R.hi = hi := ⟨_, rfl⟩
        have e23 : W5.cell? ⟨R.B + 2, 3, none⟩ = some (.int .i64 hi) := hhi' ▸ hr5.b2.cell 3
        have z2 := hr5.b2.lt
        have HHI := Lib.hid hhi'
        have HOK1' := Lib.hid hok1'
        clear hr5 hg5 hF1 heq hok1' hhi' e22 e24 z22
        go_upto_region 8 with fail
        go_cut [61] (fun s61 wx => s61 = .bool (ok1 && (decide (hi = -1) || decide ((t : Int) < hi))) ∧ wx = W5)
        case first =>
          cases ok1
          · go_wp2_with fail
            go_meet
            exact ⟨rfl, rfl⟩
          · by_cases h1 : hi = -1
            · subst h1
              go_wp2_with fail
              go_meet
              exact ⟨rfl, rfl⟩
            · have h1b : (hi == -1) = false := by simpa using h1
              by_cases h2 : (t : Int) < hi
              · go_wp2_with fail
                go_meet
                exact ⟨by simp [h2], rfl⟩
              · have h2b : decide ((t : Int) < hi) = false := by simpa using h2
                go_wp2_with fail
                go_meet
                exact ⟨by simp [h1, h2], rfl⟩
        case rest =>
          obtain ⟨rfl, rfl⟩ := hcut
          rename World => W5
          obtain ⟨cont, hcont⟩ : ∃ cont : Bool, (ok1 && (decide (hi = -1) || decide ((t : Int) < hi))) = cont := ⟨_, rfl⟩
          have heq := HEQ.out
          rw [HHI.out, hcont] at heq
          clear HEQ
          have HEQ := Lib.hid heq
          clear heq
          go_upto_if 61 with fail
          rw [hcont]
          go_cut [] (fun wx => ∃ N6 vo6 vc6 σ6, RpAt R N6 wx vo6 vc6 σ6 ∧ Goes R N W1 N6 wx ∧ FsOk (t + 1) (502 + k) σ6 ∧ Wy.follow (wayA R.C.G) (fun q => R.C.wy s grp q) R.lo R.hi R.lazy (k + 1) x t σ = finF (st && !lz) x σ6)
          case first =>
            cases cont
            · go_wp2_with fail
              go_meet
              exact ⟨N5, vo5, vc4, σ1, HR5.out, HG5.out, HF1.out.mono (Nat.le_refl _) (by omega), by have := HEQ.out; rw [HHI.out]; simpa using this⟩
            · have hok1t : ok1 = true := by cases ok1 with
                | true => rfl
                | false => simp at hcont
              subst hok1t
              have hP5 := (HG1.out.trans HG5.out).part HR.out.at_ HP.out
              obtain ⟨sv5, uv5, pv5, ps5, B5, hNb5, -, -, -, -, -, hrow5, hparts5⟩ := part_open hP5
              obtain ⟨pb, po, pc, rfl, hpc1, hpc2, hNpb, hpbz, hcell5⟩ := parts_cells hrow5 hparts5 (by simp)
              obtain ⟨sb, hsb, hspt⟩ := hcell5 0 (by simp)
              simp only [List.getElem_cons_zero, List.take_zero, nodesL, openedL, Nat.add_zero, show ¬ ((5 : Int) = 6) by omega, if_false] at hsb hspt
              have hpcI : (1 : Int) ≤ pc := by simp at hpc1; omega
              have q8 : W5.cell? ⟨R.b, 8, none⟩ = some (.slice (some ⟨pb, po, none⟩) 1 pc) := B5.cell 8
              have zb := B5.lt
              have hb9 := HG5.out.blk HR1.out.at_ HB9.out hN9
              have hdr : Below W5.heap.size W5 W5.drew := (Below.refl _ _).drew
              have hcall := HSP.out.any (HR5.out.at_.below hdr) ((Goes.below (R := R) (N := N5) hdr).part HR5.out.at_ hspt) ht hg hxl
              obtain ⟨o, ho⟩ : ∃ o, o = R.C.wy s grp x.stop := ⟨_, rfl⟩
              rw [← ho] at hcall
              have heq : Wy.follow (wayA R.C.G) (fun q => R.C.wy s grp q) R.lo hi R.lazy (k + 1) x t σ = (let q := loopF (fun v σ => Wy.follow (wayA R.C.G) (fun q => R.C.wy s grp q) R.lo hi R.lazy k ((wayA R.C.G).thn x v) (t + 1) σ) (o.getD []) { σ1 with ok := o.isSome }
                  if q.2 then q.1 else finF (st && !lz) x q.1) := by
                rw [HEQ.out, if_pos rfl, HOK1'.out, Bool.true_and, ho]
                rfl
              clear HEQ
              have HEQ := Lib.hid heq
              have HO := Lib.hid ho
              have HCALL := Lib.hid hcall
              have HSB := Lib.hid hsb
              have HB5 := Lib.hid B5
              have HB95 := Lib.hid hb9
              obtain ⟨fine, hfine⟩ : ∃ fine, fine = o.isSome := ⟨_, rfl⟩
              obtain ⟨more, hmore⟩ : ∃ more, more = o.getD [] := ⟨_, rfl⟩
              rw [← hfine, ← hmore] at HCALL HEQ
              have HFINE := Lib.hid hfine
              have HMORE := Lib.hid hmore
              obtain ⟨b60, -⟩ := HR5.out.b0.one
              obtain ⟨b71, -⟩ := HR5.out.b1.one
              have z60 := HR5.out.b0.lt
              have z71 := HR5.out.b1.lt
              obtain ⟨b90, b91, -, -⟩ := hb9.two
              have z90 := hb9.lt
              clear heq ho hcall hspt B5 hb9 hcell5 hparts5 hrow5 hP5 hfine hmore e5 e23 z2
              go_upto_region 9 with fail
              apply wp_flowL ?hm ?hok [0, 1, 2, 3, 4, 5, 6, 7, 8, 9, 10, 11, 12, 13, 14] [9] [10, 11, 12, 13, 14] ?hord (fun w' => w' = W5.drew) (folW R N5 W5 more fine)
              case hm => rfl
              case hok => kernel_rfl
              case hord => kernel_rfl
              case hb =>
                intro L w' h hl
                match L with
                | [] => exact h
                | _ :: _ => simp at hl
              case hw => rfl
              case h =>
                iterate 9
                  apply flowL_read _ rfl rfl rfl rfl
                  case h =>
                    intro W1 hW K hK
                    (obtain rfl := hW)
                    go_wp2_with fail
                    exact hK
                  simp only [Act.put, List.setIfInBounds_toArray, List.set_cons_zero, List.set_cons_succ, Nat.reduceAdd]
                apply flowL_act rfl rfl rfl
                case h =>
                  intro W8 hW K hK
                  obtain rfl : W8 = W5.drew := hW
                  go_wp2_with (go_at_call 43; refine (HCALL.out).mono ?_; rintro e w' ⟨a8, c8, rfl, hk8, hA8, hW8⟩)
                  exact ⟨a8, c8, rfl, (Kept.of_below ((Below.refl _ _).drew) _).trans hk8, hA8, hW8⟩
                intro v8 hv8
                obtain ⟨_, a8, c8, rfl, -⟩ : ∃ (w' : World) (a : Option Addr) (c : Nat), v8 = .tuple #[.slice a more.length c, .bool fine] ∧ Kept (fun b => b = R.C.mb) W5 w' ∧ At R.C N5 w' ∧ WaysAt N5 w' R.C.G R.C.s.size (.slice a more.length c) more := hv8
                simp only [Act.put, List.setIfInBounds_toArray, List.set_cons_zero, List.set_cons_succ, Nat.reduceAdd]
                iterate 5
                  apply flowL_pin _ rfl rfl rfl rfl
                  case h =>
                    intro W1 hW K hK
                    (skip)
                    go_wp2_with fail
                    exact hK
                  simp only [Act.put, List.setIfInBounds_toArray, List.set_cons_zero, List.set_cons_succ, Nat.reduceAdd]
                refine flowL_end fun W8 h8 => ?_
                obtain ⟨a8', c8', he8, hk8, hA8, hW8⟩ := h8
                simp only [Value.tuple.injEq, Array.mk.injEq, List.cons.injEq, Value.slice.injEq, true_and, and_true] at he8
                obtain ⟨rfl, rfl⟩ := he8
                obtain ⟨hr9, hg9⟩ := (HR5.out.memo hk8 hA8).setOk fine
                obtain ⟨e95, f95⟩ := (HR5.out.memo hk8 hA8).b5.one
                rw [HOK1'.out] at e95
                have z95 := (HR5.out.memo hk8 hA8).b5.lt
                have HR9 := Lib.hid hr9
                have HG9 := Lib.hid (HG5.out.trans ((Goes.memo hk8).trans hg9))
                have HW9 := Lib.hid (hg9.ways (HR5.out.memo hk8 hA8).at_ hW8)
                clear hr9 hg9 hk8 hA8 hW8
                go_upto_region 11 with fail
                generalize (W8.setCell ⟨R.B + 5, 0, none⟩ (.bool fine)) = W9 at HR9 HG9 HW9 ⊢
                have hml : more.length ≤ 500 := by
                  rw [HMORE.out]
                  cases e : o with
                  | none => simp
                  | some l => exact wy_len (HO.out.symm.trans e)
                have hmlI : (more.length : Int) ≤ 500 := by omega
                obtain ⟨gF, hgF⟩ : ∃ gF, gF = fun v σ => Wy.follow (wayA R.C.G) (fun q => R.C.wy s grp q) R.lo hi R.lazy k ((wayA R.C.G).thn x v) (t + 1) σ := ⟨_, rfl⟩
                have heq := HEQ.out
                rw [← hgF] at heq
                clear HEQ
                have HEQ := Lib.hid heq
                have HGF := Lib.hid hgF
                have hF2 : FsOk (t + 1) (502 + k) ({ σ1 with ok := fine } : Fs Wy.Way) := by
                  have h1 := HF1.out
                  exact ⟨h1.long, h1.short, h1.counts, fun _ => h1.ok HOK1'.out, Nat.le_trans h1.out (by omega)⟩
                have HF2 := Lib.hid hF2
                clear heq hgF hF2 e95 f95 z95
                go_wp2_with fail
                go_loopw [81] (fun i wx => ∃ (p : Nat) (N6 : Nat → Prop) (vo6 vc6 : Value) (σp : Fs Wy.Way), p ≤ more.length ∧ i = .int .i64 p ∧ RpAt R N6 wx vo6 vc6 σp ∧ Goes R N5 W9 N6 wx ∧ FsOk (t + 1) (502 + k) σp ∧ loopF gF more { σ1 with ok := fine } = loopF gF (more.drop p) σp) (fun i _ => more.length - (intOf i).toNat)
                case atStart => exact ⟨0, N5, vo5, vc4, _, by omega, rfl, HR9.out, Goes.refl _ _ _, HF2.out, by rw [List.drop_zero]⟩
                case round =>
                  rename World => Wa
                  obtain ⟨p, N6, vo6, vc6, σp, hp, rfl, hrp, hgp, hfp, hlp⟩ := hrel
                  obtain ⟨cso, hso, -⟩ := hrp.out
                  obtain ⟨oo6, co6, rfl⟩ := own_slice hso
                  have HRP := Lib.hid hrp
                  have HGP := Lib.hid hgp
                  have HFP := Lib.hid hfp
                  have HLP := Lib.hid hlp
                  have HG6 := Lib.hid (HG1.out.trans (HG9.out.trans hgp))
                  have hol : (σp.out.length : Int) ≤ 600 := by have := hfp.out; omega
                  clear hrp hgp hfp hlp hso
                  by_cases hpm : p < more.length
                  · obtain ⟨lb, off, cap, he, hcap, hmax, hNlb, hlbz, hlc⟩ := (HGP.out.ways HR9.out.at_ HW9.out).cells (by omega)
                    simp only [Value.slice.injEq] at he
                    obtain ⟨rfl, -, rfl⟩ := he
                    obtain ⟨svy, hy0, hy1, hys, hyl, hyG⟩ := hlc p hpm
                    obtain ⟨y, hy⟩ : ∃ y, y = more[p] := ⟨_, rfl⟩
                    rw [← hy] at hy0 hys hyl hyG
                    obtain ⟨sy, scy, rfl⟩ := hys.row.slice
                    have HY := Lib.hid hy
                    have HYS := Lib.hid hys
                    have HYG := Lib.hid hyG
                    have hpmI : (p : Int) < more.length := by omega
                    have hmcI : (more.length : Int) ≤ c8 := by omega
                    obtain ⟨r5, -⟩ := HRP.out.b5.one
                    obtain ⟨r3, -⟩ := HRP.out.b3.one
                    have z5 := HRP.out.b5.lt
                    have z3 := HRP.out.b3.lt
                    clear hlc hys hy hyG
                    have hstep : loopF gF (more.drop p) σp = if (!σp.ok || decide (500 < σp.out.length)) = true then (σp, true) else loopF gF (more.drop (p + 1)) (gF y σp) := by
                      rw [List.drop_eq_getElem_cons hpm, loopF, ← HY.out]
                    have HSTEP := Lib.hid hstep
                    clear hstep
                    by_cases hgo : σp.ok = true ∧ σp.out.length ≤ 500
                    · obtain ⟨hokp, hlenp⟩ := hgo
                      rw [hokp] at r5
                      have hlenI : (σp.out.length : Int) ≤ 500 := by omega
                      go_upto_region 15 with fail
                      have hbA : Below Wa.heap.size Wa (Wa.alloc (.cells #[.int .i64 y.stop, .slice sy y.spans.length scy] 43)) := (Below.refl _ _).alloc (Nat.le_refl _) _
                      have hB15 : Blk (Wa.alloc (.cells #[.int .i64 y.stop, .slice sy y.spans.length scy] 43)) Wa.heap.size #[.int .i64 y.stop, .slice sy y.spans.length scy] 43 := Blk.new _ _ _
                      have hrb := HRP.out.below hbA
                      have hgb : Goes R N5 W9 N6 (Wa.alloc (.cells #[.int .i64 y.stop, .slice sy y.spans.length scy] 43)) := HGP.out.trans (Goes.below hbA)
                      have hyb : SpsAt N6 (Wa.alloc (.cells #[.int .i64 y.stop, .slice sy y.spans.length scy] 43)) (.slice sy y.spans.length scy) y.spans := (Goes.below (R := R) (N := N6) hbA).spans HRP.out.at_ HYS.out
                      have hzb : (Wa.alloc (.cells #[.int .i64 y.stop, .slice sy y.spans.length scy] 43)).heap.size = Wa.heap.size + 1 := by simp
                      generalize (Wa.alloc (.cells #[.int .i64 y.stop, .slice sy y.spans.length scy] 43)) = Wb at hB15 hrb hgb hyb hzb ⊢
                      have hB9b := (HG9.out.trans hgb).blk HR1.out.at_ HB9.out hN9
                      have hxb := (HG1.out.trans (HG9.out.trans hgb)).spans HR.out.at_ HS.out
                      have hdr : Below Wb.heap.size Wb Wb.drew := (Below.refl _ _).drew
                      have hth := then_any (we := x.stop) (ve := y.stop) ((Goes.below (R := R) (N := N6) hdr).spans hrb.at_ hxb) ((Goes.below (R := R) (N := N6) hdr).spans hrb.at_ hyb) (by rw [HXG.out, HYG.out]) (hrb.at_.below hdr).none
                      have hfu2 : (dN s = 1 ∧ t + 1 ≤ y.stop) ∨ (0 ≤ R.hi ∧ R.hi ≤ 1 ∧ t + 1 ≤ 1) := by
                        rcases hfu with ⟨h1, h2⟩ | ⟨h1, h2, h3⟩
                        · refine .inl ⟨h1, ?_⟩
                          have hym : y ∈ more := by rw [HY.out]; exact List.getElem_mem hpm
                          cases e : o with
                          | none => rw [HMORE.out, e] at hym; simp at hym
                          | some l =>
                            rw [HMORE.out, e] at hym
                            have := wy_adv (wayA_lawful R.C.G) (strS R.C.s) s hfit.shaped grp x.stop l (HO.out.symm.trans e) y hym
                            rw [h1] at this
                            exact Nat.le_trans (Nat.succ_le_succ h2) this
                        · refine .inr ⟨h1, h2, ?_⟩
                          have hc := hcont
                          rw [HHI.out] at h1 h2
                          simp at hc
                          omega
                      have hrec : ∀ (w5 : World) (sv5 : Value), Below Wb.heap.size Wb w5 → SpsAt N6 w5 sv5 (thenS x.spans y.spans) → Calls Tryz.prog 92 #[.agg #[.int .i64 y.stop, sv5], .int .i64 ((t : Int) + 1), .pointer (some ⟨R.B + 4, 0, none⟩), .pointer (some ⟨R.B + 5, 0, none⟩), .pointer (some ⟨R.B + 2, 0, none⟩), .pointer (some ⟨R.B + 3, 0, none⟩), .pointer (some ⟨R.B, 0, none⟩), .pointer (some ⟨R.B + 1, 0, none⟩), .pointer (some ⟨R.B + 6, 0, none⟩)] w5 (Flw R N6 w5 (gF y σp)) := by
                        intro w5 sv5 hb5 hs5
                        have hpt := (HG1.out.trans (HG9.out.trans (hgb.trans (Goes.below (R := R) (N := N6) hb5)))).part HR.out.at_ HP.out
                        have := HIH.out N6 w5 _ _ sv5 σp ⟨y.stop, thenS x.spans y.spans⟩ (t + 1) (by omega) (hrb.below hb5) hpt hs5 (by rw [thenS_length (by rw [HXG.out, HYG.out])]; exact HYG.out) hyl hokp ⟨HFP.out.long, HFP.out.short, HFP.out.counts, HFP.out.ok, hlenp⟩ hfu2
                        rw [show ((t + 1 : Nat) : Int) = (t : Int) + 1 by omega, HHI.out] at this
                        rw [HGF.out]
                        exact this
                      have hfs : FsOk (t + 1) (502 + k) (gF y σp) := by
                        rw [HGF.out]
                        exact (follow_ok (wayA R.C.G) (fun q => R.C.wy s grp q) R.lo hi R.lazy k _ (t + 1) σp (by omega) hokp ⟨HFP.out.long, HFP.out.short, HFP.out.counts, HFP.out.ok, hlenp⟩).mono (by split <;> omega) (Nat.le_refl _)
                      have HTH := Lib.hid hth
                      have HREC := Lib.hid hrec
                      have HFS := Lib.hid hfs
                      have HB15 := Lib.hid hB15
                      have HB9B := Lib.hid hB9b
                      have HRB := Lib.hid hrb
                      have HGB := Lib.hid hgb
                      have HXB := Lib.hid hxb
                      have HYB := Lib.hid hyb
                      clear hth hrec hfs hB15 hB9b hrb hgb hxb hyb hzb hdr hbA r5 r3 z5 z3
                      apply wp_flowL ?hm ?hok [0, 1, 2, 4, 5, 3, 6] [3, 6] [] ?hord (fun w' => Below Wb.heap.size Wb w') (folV R N6 Wb y.stop (thenS x.spans y.spans) (gF y σp))
                      case hm => rfl
                      case hok => kernel_rfl
                      case hord => kernel_rfl
                      case hb =>
                        intro L w' h hl
                        match L with
                        | [] => obtain rfl : w' = Wb.drew := h; exact (Below.refl _ _).drew
                        | [_] => exact h.1
                        | _ :: _ :: _ =>
                          exfalso
                          rw [show (List.filter (fun j => [3, 6].contains j) [0, 1, 2, 4, 5, 3, 6]).length = 2 by decide] at hl
                          simp only [List.length_cons] at hl
                          omega
                      case hw => rfl
                      case h =>
                        apply flowL_read _ rfl rfl rfl rfl
                        case h =>
                          intro W1 hW K hK
                          (have b6 := HRB.out.b6.below hW HRB.out.b6.lt; obtain ⟨b60, -⟩ := b6.one; have z6 := b6.lt; simp only [Rc.caps] at b60)
                          go_wp2_with fail
                          exact hK
                        simp only [Act.put, List.setIfInBounds_toArray, List.set_cons_zero, List.set_cons_succ, Nat.reduceAdd]
                        apply flowL_read _ rfl rfl rfl rfl
                        case h =>
                          intro W1 hW K hK
                          (have b9 := HB9B.out.below hW HB9B.out.lt; obtain ⟨b90, b91, -, -⟩ := b9.two; have z9 := b9.lt)
                          go_wp2_with fail
                          exact hK
                        simp only [Act.put, List.setIfInBounds_toArray, List.set_cons_zero, List.set_cons_succ, Nat.reduceAdd]
                        apply flowL_read _ rfl rfl rfl rfl
                        case h =>
                          intro W1 hW K hK
                          (have b15 := HB15.out.below hW HB15.out.lt; obtain ⟨b150, b151, -, -⟩ := b15.two; have z15 := b15.lt)
                          go_wp2_with fail
                          exact hK
                        simp only [Act.put, List.setIfInBounds_toArray, List.set_cons_zero, List.set_cons_succ, Nat.reduceAdd]
                        apply flowL_read _ rfl rfl rfl rfl
                        case h =>
                          intro W1 hW K hK
                          (skip)
                          go_wp2_with fail
                          exact hK
                        simp only [Act.put, List.setIfInBounds_toArray, List.set_cons_zero, List.set_cons_succ, Nat.reduceAdd]
                        apply flowL_read _ rfl rfl rfl rfl
                        case h =>
                          intro W1 hW K hK
                          (skip)
                          go_wp2_with fail
                          exact hK
                        simp only [Act.put, List.setIfInBounds_toArray, List.set_cons_zero, List.set_cons_succ, Nat.reduceAdd]
                        apply flowL_act rfl rfl rfl
                        case h =>
                          intro W10 hW K hK
                          obtain rfl : W10 = Wb.drew := hW
                          go_wp2_with (go_at_call 91; refine (HTH.out).mono ?_; rintro e w' ⟨v', rfl, hown, hb⟩; obtain ⟨ov, cv, rfl⟩ := own_slice hown)
                          exact ⟨((Below.refl _ _).drew).trans hb, ov, cv, rfl, HXB.out.thn HYB.out (by rw [HXG.out, HYG.out]) hown (fun q hq _ => HRB.out.at_.new q hq)⟩
                        intro v10 hv10
                        obtain ⟨_, -, ov, cv, rfl, -⟩ : ∃ w', Below Wb.heap.size Wb w' ∧ ∃ o c, v10 = .agg #[.int .i64 y.stop, .slice o (thenS x.spans y.spans).length c] ∧ SpsAt N6 w' (.slice o (thenS x.spans y.spans).length c) (thenS x.spans y.spans) := hv10
                        simp only [Act.put, List.setIfInBounds_toArray, List.set_cons_zero, List.set_cons_succ, Nat.reduceAdd]
                        apply flowL_act rfl rfl rfl
                        case h =>
                          intro W10 hW K hK
                          obtain ⟨hb10, ov', cv', he, hs10⟩ := hW
                          simp only [Value.agg.injEq, Array.mk.injEq, List.cons.injEq, Value.slice.injEq, true_and, and_true] at he
                          obtain ⟨rfl, rfl⟩ := he
                          have HCR := Lib.hid (HREC.out W10 _ hb10 hs10)
                          clear hs10
                          go_wp2_with (go_at_call 92; refine (HCR.out).mono ?_; rintro e w' ⟨rfl, N', vo', vc', hr', hg'⟩)
                          exact ⟨N', vo', vc', hr', (Goes.below hb10).trans hg'⟩
                        intro v11 hv11
                        simp only [Act.put, List.setIfInBounds_toArray, List.set_cons_zero, List.set_cons_succ, Nat.reduceAdd]
                        refine flowL_end fun W11 h11 => ?_
                        obtain ⟨N', vo', vc', hr', hg'⟩ := h11
                        have HR' := Lib.hid hr'
                        have HG' := Lib.hid (HGB.out.trans hg')
                        clear hr' hg'
                        go_wp2_with fail
                        go_roundw
                        case rel =>
                          refine ⟨p + 1, N', vo', vc', gF y σp, by omega, by go_num, HR'.out, HG'.out, HFS.out, ?_⟩
                          rw [HLP.out, HSTEP.out, if_neg (by simp [hokp]; omega)]
                        case measure => simp [intOf]; omega
                    · have hbad : (!σp.ok || decide (500 < σp.out.length)) = true := by
                        cases e : σp.ok with
                        | false => rfl
                        | true => simpa using Nat.lt_of_not_le (fun h => hgo ⟨e, h⟩)
                      have hfin : Wy.follow (wayA R.C.G) (fun q => R.C.wy s grp q) R.lo R.hi R.lazy (k + 1) x t σ = σp := by
                        have h1 := HEQ.out
                        rw [HLP.out, HSTEP.out, if_pos hbad] at h1
                        rw [HHI.out]
                        exact h1
                      have HFIN := Lib.hid hfin
                      clear hfin
                      have hbA : Below Wa.heap.size Wa (Wa.alloc (.cells #[.int .i64 y.stop, .slice sy y.spans.length scy] 43)) := (Below.refl _ _).alloc (Nat.le_refl _) _
                      have HBA := Lib.hid hbA
                      have hend : Flw R N w (Wy.follow (wayA R.C.G) (fun q => R.C.wy s grp q) R.lo R.hi R.lazy (k + 1) x t σ) (.returned (.tuple #[])) (Wa.alloc (.cells #[.int .i64 y.stop, .slice sy y.spans.length scy] 43)) := by
                        rw [HFIN.out]
                        exact ⟨rfl, _, _, _, HRP.out.below hbA, HG6.out.trans (Goes.below hbA)⟩
                      have HEND := Lib.hid hend
                      clear hbA hend
                      cases hpo : σp.ok with
                      | false =>
                        rw [hpo] at r5
                        go_wp2_with fail
                        exact bodyPost_ret (v := .tuple #[]) (by simp [results, Tryz.results92, go_sem]) rfl HEND.out
                      | true =>
                        rw [hpo] at r5
                        have hlong : (500 : Int) < σp.out.length := by
                          have := Nat.lt_of_not_le (fun h => hgo ⟨hpo, h⟩)
                          omega
                        go_wp2_with fail
                        exact bodyPost_ret (v := .tuple #[]) (by simp [results, Tryz.results92, go_sem]) rfl HEND.out
                  · obtain rfl : p = more.length := by omega
                    go_wp2_with fail
                    go_meet
                    have hfin : Wy.follow (wayA R.C.G) (fun q => R.C.wy s grp q) R.lo R.hi R.lazy (k + 1) x t σ = finF (st && !lz) x σp := by
                      have h1 := HEQ.out
                      rw [HLP.out, List.drop_length, loopF] at h1
                      rw [HHI.out]
                      simpa using h1
                    exact ⟨N6, _, vc6, σp, HRP.out, HG9.out.trans HGP.out, HFP.out, hfin⟩
          case rest =>
            rename World => W6
            obtain ⟨N6, vo6, vc6, σ6, hr6, hg6, hf6, heq6⟩ := hcut
            have e24 : W6.cell? ⟨R.B + 2, 4, none⟩ = some (.bool lz) := HLZ.out ▸ hr6.b2.cell 4
            have z22 := hr6.b2.lt
            have HR6 := Lib.hid hr6
            have HG6 := Lib.hid hg6
            have HEQ6 := Lib.hid heq6
            have ho6 : σ6.out.length ≤ 600 := by have := hf6.out; omega
            clear hr6 hg6 hf6 heq6
            go_upto_region 17 with fail
            go_cut [105] (fun s105 wx => s105 = .bool (st && !lz) ∧ wx = W6)
            case first =>
              cases st <;> cases lz <;> (go_wp2_with fail; go_meet; exact ⟨rfl, rfl⟩)
            case rest =>
              obtain ⟨rfl, rfl⟩ := hcut
              rename World => W6
              cases hb : (st && !lz)
              · have hend : Flw R N w (Wy.follow (wayA R.C.G) (fun q => R.C.wy s grp q) R.lo R.hi R.lazy (k + 1) x t σ) (.returned (.tuple #[])) W6 := by
                  rw [HEQ6.out, hb]
                  exact ⟨rfl, _, _, _, HR6.out, HG1.out.trans HG6.out⟩
                have HEND := Lib.hid hend
                clear hend
                go_wp2_with fail
                exact bodyPost_ret (v := .tuple #[]) (by simp [results, Tryz.results92, go_sem]) rfl HEND.out
              · obtain ⟨cs, hcs1, hcs2⟩ := HR6.out.out
                obtain ⟨oo, co, rfl⟩ := own_slice hcs1
                obtain ⟨e3, f3⟩ := HR6.out.b3.one
                have z3 := HR6.out.b3.lt
                have hB9 := HG6.out.blk HR1.out.at_ HB9.out hN9
                obtain ⟨e90, e91, -, -⟩ := hB9.two
                have z9 := hB9.lt
                have hS4 := ((HG1.out.trans HG6.out).spans HR.out.at_ HS.out)
                have hb5 : Below W6.heap.size W6 (W6.alloc (.cells #[.int .i64 x.stop, .slice so x.spans.length sc] 43)) := (Below.refl _ _).alloc (Nat.le_refl _) _
                have HB5 := Lib.hid hb5
                have HR5 := Lib.hid (HR6.out.below hb5)
                have HC5 := Lib.hid (hcs2.go (Kept.of_below hb5 (fun _ => False)) (fun _ _ hn => ⟨id, hn⟩))
                have HS5 := Lib.hid ((Goes.below (R := R) (N := N6) hb5).spans HR6.out.at_ hS4)
                have HO5 := Lib.hid (ownsRow_go hcs1 (Kept.of_below hb5 (fun _ => False)) (fun _ _ => id))
                have HSRC := Lib.hid (one_src (w := W6) (st := x.stop) (sv := .slice so x.spans.length sc))
                obtain ⟨i0, hi0, hz0, hz1, hz2⟩ := info_parts info43
                have hmx1 : σ6.out.length + 1 ≤ maxLen := by unfold maxLen; omega
                have hmx2 : (σ6.out.length + 1) * 32 ≤ 140737488355328 := by omega
                have hbase : R.B + 7 ≤ (W6.alloc (.cells #[.int .i64 x.stop, .slice so x.spans.length sc] 43)).heap.size := HR5.out.size
                clear hB9 hS4 hb5 hcs1 hcs2
                go_wp2_with (first | (at_builtin; refine wpList_append_row rfl _ _ 38 rfl Tryz.underlying38 hi0 hz0 hz1 hz2 rfl (.slice oo σ6.out.length co) σ6.out.length _ rfl HO5.out _ 1 _ rfl HSRC.out rfl (by simp [Value.oneCell']) hmx1 hmx2 hbase ?_; intro v7 w7 hown7 hgrow7 h37 h47; obtain ⟨ov, cv, rfl⟩ := own_slice hown7; have HO7 := Lib.hid hown7; have HG7 := Lib.hid hgrow7; have HV7 := Lib.hid h37; obtain ⟨q3, r3⟩ := (HR5.out.b3g hgrow7).one; clear hown7 hgrow7))
                obtain ⟨hr8, hg8⟩ := HR5.out.outMore HC5.out HS5.out hxl HXG.out HO7.out HG7.out HV7.out
                have hgo8 := HG1.out.trans (HG6.out.trans ((Goes.below HB5.out).trans hg8))
                refine bodyPost_ret (v := .tuple #[]) (by simp [results, Tryz.results92, go_sem]) rfl ?_
                rw [HEQ6.out, hb]
                exact ⟨rfl, _, _, _, hr8, hgo8⟩
end Go.Proofs.YtnhjakdmbfadlaaGreatDoor
