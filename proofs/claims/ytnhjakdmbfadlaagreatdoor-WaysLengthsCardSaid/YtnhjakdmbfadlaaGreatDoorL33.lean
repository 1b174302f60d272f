/- Parts of the proof: Td, Tre. Conditions: none. -/
import Derived.Test.YtnhjakdmbfadlaaGreatDoorL21
import Derived.Test.YtnhjakdmbfadlaaGreatDoorL07
import Derived.Test.YtnhjakdmbfadlaaGreatDoorL04
import Derived.Test.YtnhjakdmbfadlaaGreatDoorL31
set_option linter.all false
/- gaugerlaw07.Turned: a copy of a tree. -/
namespace Go.Proofs.YtnhjakdmbfadlaaGreatDoor
open Go.RowKit Wy Mem Grow

theorem info28t : (Tryz.prog.info? 27).map (fun i => (i.zero, i.size, i.bytes)) = some (some (.agg #[.int .u8 0, .slice none 0 0, .int .i64 0, .int .i64 0, .bool false, .slice none 0 0]), 6, 80) := by kernel_rfl
def TurSpec (t : Nd) : Prop := ∀ (N : Nat → Prop) (w : World) (cs : List Value), NdAt N w t cs →
  Calls Tryz.prog 26 #[.agg cs.toArray] w (Trd (fun q => w.heap.size ≤ q) t w)
theorem own_blk {w : World} {base sz n q : Nat} {e t : TypeId} {v : Value} {xs : List Value} {cs : Array Value} (h : w.ownsRow base e sz v n xs) (hB : Blk w q cs t) (he : e ≠ t) : v.ownBlock ≠ some q := by
  intro e'
  rcases h.2 with ⟨rfl, -⟩ | ⟨g, c, cur, rfl, -, hg, -⟩
  · simp [Value.ownBlock] at e'
  · simp only [Value.ownBlock, Option.some.injEq] at e'
    subst e'
    unfold Blk at hB
    rw [hg] at hB
    simp only [Option.some.injEq, Obj.cells.injEq] at hB
    exact he hB.2.1
theorem ownsRow_mono' {w : World} {b b' sz n : Nat} {e : TypeId} {v : Value} {xs : List Value} (h : w.ownsRow b e sz v n xs) (hb : b' ≤ b) : w.ownsRow b' e sz v n xs := by
  refine ⟨h.1, ?_⟩
  rcases h.2 with hn | ⟨g, c, cur, hv, hg, rest⟩
  · exact .inl hn
  · exact .inr ⟨g, c, cur, hv, by omega, rest⟩
/-- the values of the region that makes the node -/
def tuV (W : World) (k lo hi : Int) (lazy : Bool) (set : List Rg) (i : Nat) (v : Value) (w' : World) : Prop :=
  (i = 10 → ∃ o c, v = .slice o set.length c ∧ w'.ownsRow W.heap.size 122 2 (.slice o set.length c) set.length (set.flatMap rgCs)) ∧
  (i = 11 → ∃ o c, v = .agg #[.int .u8 k, .slice o set.length c, .int .i64 lo, .int .i64 hi, .bool lazy, .slice none 0 0] ∧ w'.ownsRow W.heap.size 122 2 (.slice o set.length c) set.length (set.flatMap rgCs)) ∧
  (i = 12 → ∃ q, v = .pointer (some ⟨q, 0, none⟩) ∧ W.heap.size ≤ q ∧ Blk w' q #[.int .u8 0, .slice none 0 0, .int .i64 0, .int .i64 0, .bool false, .slice none 0 0] 27)
set_option maxHeartbeats 8000000 in
set_option maxRecDepth 100000 in
theorem turned_step {k : Int} {set : List Rg} {lo hi : Int} {lazy : Bool} {subs : List Nd} (ih : ∀ s ∈ subs, TurSpec s) : TurSpec (.mk k set lo hi lazy subs) := by
  intro N w cs hnd
  rw [NdAt] at hnd
  obtain ⟨sv, uv, ucs, rfl, hk, hlo, hhi, hset, hrow, hsubs⟩ := hnd
  obtain ⟨os, cs, rfl⟩ := hset.row.slice
  obtain ⟨ou, cu, rfl⟩ := hrow.slice
  have HIH := Lib.hid ih
  have HSET := Lib.hid hset
  have HROW := Lib.hid hrow
  have HSUBS := Lib.hid hsubs
  have hsl : (subs.length : Int) ≤ 1048576 := by omega
  clear ih hset hrow hsubs
  obtain ⟨i0, hi0, hz0, hz1, hz2⟩ := info_parts info28t
  go_enter Tryz.func26, Tryz.ntmps26
  go_upto_region 1 with fail
  have hBp : Blk ((w.alloc (.cells #[.int .u8 k, .slice os set.length cs, .int .i64 lo, .int .i64 hi, .bool lazy, .slice ou subs.length cu] 70)).alloc (.cells #[.int .u8 0, .slice none 0 0, .int .i64 0, .int .i64 0, .bool false, .slice none 0 0] 27)) w.heap.size #[.int .u8 k, .slice os set.length cs, .int .i64 lo, .int .i64 hi, .bool lazy, .slice ou subs.length cu] 70 := (Blk.new _ _ _).alloc _
  have hBr : Blk ((w.alloc (.cells #[.int .u8 k, .slice os set.length cs, .int .i64 lo, .int .i64 hi, .bool lazy, .slice ou subs.length cu] 70)).alloc (.cells #[.int .u8 0, .slice none 0 0, .int .i64 0, .int .i64 0, .bool false, .slice none 0 0] 27)) (w.heap.size + 1) #[.int .u8 0, .slice none 0 0, .int .i64 0, .int .i64 0, .bool false, .slice none 0 0] 27 := Blk.new' _ _ (by simp)
  have hbW : Below w.heap.size w ((w.alloc (.cells #[.int .u8 k, .slice os set.length cs, .int .i64 lo, .int .i64 hi, .bool lazy, .slice ou subs.length cu] 70)).alloc (.cells #[.int .u8 0, .slice none 0 0, .int .i64 0, .int .i64 0, .bool false, .slice none 0 0] 27)) := ((Below.refl _ _).alloc (Nat.le_refl _) _).alloc (by simp) _
  have hzW : ((w.alloc (.cells #[.int .u8 k, .slice os set.length cs, .int .i64 lo, .int .i64 hi, .bool lazy, .slice ou subs.length cu] 70)).alloc (.cells #[.int .u8 0, .slice none 0 0, .int .i64 0, .int .i64 0, .bool false, .slice none 0 0] 27)).heap.size = w.heap.size + 2 := by simp
  generalize ((w.alloc (.cells #[.int .u8 k, .slice os set.length cs, .int .i64 lo, .int .i64 hi, .bool lazy, .slice ou subs.length cu] 70)).alloc (.cells #[.int .u8 0, .slice none 0 0, .int .i64 0, .int .i64 0, .bool false, .slice none 0 0] 27)) = W at hBp hBr hbW hzW ⊢
  have HBP := Lib.hid hBp
  have HBR := Lib.hid hBr
  have HBW := Lib.hid hbW
  have HZW := Lib.hid hzW
  have hts : ∀ w', Below W.heap.size W w' → Calls Tryz.prog 57 #[.slice os set.length cs] w' _ := fun w' hb => turned6_any (RgsGo (M := N) HSET.out (Kept.of_below (hbW.trans (hb.mono hbW.size)) (fun _ => False)) (fun q _ hq => ⟨id, hq⟩))
  have HTS := Lib.hid hts
  clear hBp hBr hbW hzW hts
  have fin : ∀ (Wf : World) (c0 c1 c2 c3 c4 c5 : Value), Below w.heap.size w Wf → Blk Wf (w.heap.size + 1) #[.int .u8 0, .slice none 0 0, .int .i64 0, .int .i64 0, .bool false, .slice none 0 0] 27 → NdAt (fun q => w.heap.size ≤ q ∧ q ≠ w.heap.size + 1) Wf (.mk k set lo hi lazy subs) [c0, c1, c2, c3, c4, c5] →
      Trd (fun q => w.heap.size ≤ q) (.mk k set lo hi lazy subs) w (.returned (.agg #[c0, c1, c2, c3, c4, c5])) ((((((Wf.setCell ⟨w.heap.size + 1, 0, none⟩ c0).setCell ⟨w.heap.size + 1, 1, none⟩ c1).setCell ⟨w.heap.size + 1, 2, none⟩ c2).setCell ⟨w.heap.size + 1, 3, none⟩ c3).setCell ⟨w.heap.size + 1, 4, none⟩ c4).setCell ⟨w.heap.size + 1, 5, none⟩ c5) ∧
      Blk ((((((Wf.setCell ⟨w.heap.size + 1, 0, none⟩ c0).setCell ⟨w.heap.size + 1, 1, none⟩ c1).setCell ⟨w.heap.size + 1, 2, none⟩ c2).setCell ⟨w.heap.size + 1, 3, none⟩ c3).setCell ⟨w.heap.size + 1, 4, none⟩ c4).setCell ⟨w.heap.size + 1, 5, none⟩ c5) (w.heap.size + 1) #[c0, c1, c2, c3, c4, c5] 27 := by
    intro Wf c0 c1 c2 c3 c4 c5 hb hB hn
    have hk := set6k (W := Wf) (b := w.heap.size + 1) c0 c1 c2 c3 c4 c5
    exact ⟨⟨_, rfl, NdAt.go hk (fun q _ hq => ⟨hq.2, hq.1⟩) hn, ((Kept.of_below hb (fun q => q = w.heap.size + 1)).trans hk).below (fun q hq e => by omega)⟩, set6blk hB c0 c1 c2 c3 c4 c5⟩
  have FIN := Lib.hid fin
  clear fin
  go_cut [3] (fun s3 wx => ∃ (p : Nat) (so : Option Addr) (sc : Nat), s3 = .pointer (some ⟨p, 0, none⟩) ∧ W.heap.size ≤ p ∧ Blk wx p #[.int .u8 k, .slice so set.length sc, .int .i64 lo, .int .i64 hi, .bool lazy, .slice none 0 0] 27 ∧ RgsAt (fun q => (w.heap.size ≤ q ∧ q ≠ w.heap.size + 1) ∧ q ≠ p ∧ q < wx.heap.size) wx (.slice so set.length sc) set ∧ Below W.heap.size W wx)
  case first =>
    apply wp_flowM2 ?hm ?hok ?hlast [some _, some _, some _, some _, some _, some _, some _, some _, some _, some _, none, none, none] [10, 11, 12] [11] (tuV W k lo hi lazy set) ?hokN ?hnd ?hnl ?hV _ rfl ?h
    case hm => rfl
    case hok => kernel_rfl
    case hlast => kernel_rfl
    case hokN => kernel_rfl
    case hnd => simp
    case hnl => simp
    case hV =>
      rintro i v w1 w2 ⟨h1, h2, h3⟩ hb
      have kk := Kept.of_below hb (fun _ => False)
      refine ⟨fun e => ?_, fun e => ?_, fun e => ?_⟩
      · obtain ⟨o, c, h, h'⟩ := h1 e; exact ⟨o, c, h, ownGo h' kk (fun _ _ => id)⟩
      · obtain ⟨o, c, h, h'⟩ := h2 e; exact ⟨o, c, h, ownGo h' kk (fun _ _ => id)⟩
      · obtain ⟨q, h, h', h''⟩ := h3 e; exact ⟨q, h, h', h''.below hb h''.lt⟩
    case h =>
      intro u
      simp only [List.dropLast]
      iterate 10
        apply flowN_yes rfl
        case h =>
          intro W1 hW K hK
          have d := HBP.out.below hW HBP.out.lt
          have e0 := d.cell 0; have e1 := d.cell 1; have e2 := d.cell 2; have e3 := d.cell 3; have e4 := d.cell 4; have e5 := d.cell 5; have ez := d.lt
          clear d
          go_wp2_with fail
          first | exact Below.refl _ _ | exact hK _ (Below.refl _ _)
        simp only [Act.put, List.setIfInBounds_toArray, List.set_cons_zero, List.set_cons_succ, Nat.reduceAdd]
      apply flowN_open rfl
      case h =>
        intro W1 hW hF K hK
        go_wp2_with (go_at_call 57; go_loud (refine (HTS.out _ hW).mono ?_; rintro e w' ⟨v', rfl, hr, hb⟩))
        obtain ⟨o, c, rfl⟩ := ownSlice hr
        have hr' := ownsRow_mono' hr hW.size
        first | exact ⟨hb, ⟨fun _ => ⟨o, c, rfl, hr'⟩, fun e => by omega, fun e => by omega⟩⟩ | exact hK _ _ hb ⟨fun _ => ⟨o, c, rfl, hr'⟩, fun e => by omega, fun e => by omega⟩
      simp only [Act.put, List.setIfInBounds_toArray, List.set_cons_zero, List.set_cons_succ, Nat.reduceAdd]
      apply flowN_open rfl
      case h =>
        intro W1 hW hF K hK
        obtain ⟨o, c, hu, hr⟩ := (hF (by simp) 10 (by simp) (by omega)).1 rfl
        rw [hu] at hK ⊢
        go_wp2_with fail
        first | exact ⟨Below.refl _ _, ⟨fun e => by omega, fun _ => ⟨o, c, rfl, hr⟩, fun e => by omega⟩⟩ | exact hK _ _ (Below.refl _ _) ⟨fun e => by omega, fun _ => ⟨o, c, rfl, hr⟩, fun e => by omega⟩
      simp only [Act.put, List.setIfInBounds_toArray, List.set_cons_zero, List.set_cons_succ, Nat.reduceAdd]
      apply flowN_open rfl
      case h =>
        intro W1 hW hF K hK
        go_wp2_with fail
        first | exact ⟨(Below.refl _ _).alloc (Nat.le_refl _) _, ⟨fun e => by omega, fun e => by omega, fun _ => ⟨_, rfl, hW.size, Blk.new _ _ _⟩⟩⟩ | exact hK _ _ ((Below.refl _ _).alloc (Nat.le_refl _) _) ⟨fun e => by omega, fun e => by omega, fun _ => ⟨_, rfl, hW.size, Blk.new _ _ _⟩⟩
      simp only [Act.put, List.setIfInBounds_toArray, List.set_cons_zero, List.set_cons_succ, Nat.reduceAdd]
      refine flowN_end fun W7 hb7 hV7 => ?_
      obtain ⟨so, sc, hu1, hr⟩ := (hV7 11 (by simp)).2.1 rfl
      obtain ⟨p, hu2, hp, hB⟩ := (hV7 12 (by simp)).2.2 rfl
      refine ⟨rfl, ?_⟩
      rw [hu1, hu2]
      have x0 := hB.cell 0; have x1 := hB.cell 1; have x2 := hB.cell 2; have x3 := hB.cell 3; have x4 := hB.cell 4; have x5 := hB.cell 5; have xz := hB.lt
      have xf : ∀ i, W7.frozen? ⟨p, i, none⟩ = false := hB.frozen
      have hne := own_blk hr hB (by decide)
      have HB7 := Lib.hid hB
      have HR7 := Lib.hid hr
      have HNE := Lib.hid hne
      clear hB hr hV7 hu1 hu2 hne
      go_wp2_with fail
      go_meet
      have hk6 := set6k (W := W7) (b := p) (.int .u8 k) (.slice so set.length sc) (.int .i64 lo) (.int .i64 hi) (.bool lazy) (.slice none 0 0)
      have hz := HZW.out
      refine ⟨p, so, sc, rfl, hp, set6blk HB7.out _ _ _ _ _ _, ⟨rowOwn (ownGo HR7.out hk6 (fun g hg e => HNE.out (e ▸ hg))) (fun q hq => ?_), HSET.out.ok, HSET.out.small⟩, ((Kept.of_below hb7 (fun q => q = p)).trans hk6).below (fun q hq e => by omega)⟩
      have hq1 := HR7.out.lt q hq
      exact ⟨⟨by omega, by omega⟩, fun e => HNE.out (e ▸ hq), Nat.lt_of_lt_of_le hq1.2 hk6.size⟩
  case rest =>
    rename World => W0
    obtain ⟨p, so, sc, rfl, hpW, hBp, hset', hbW0⟩ := hcut
    obtain ⟨pz, hpz⟩ : ∃ pz, pz = W0.heap.size := ⟨_, rfl⟩
    have hz := HZW.out
    have hppz : p < pz := by rw [hpz]; exact hBp.lt
    have hbw0 : Below w.heap.size w W0 := HBW.out.trans (hbW0.mono HBW.out.size)
    have hbr0 : BrAt w (fun x => w.heap.size ≤ x ∧ x ≠ w.heap.size + 1) pz p k lo hi lazy (.slice so set.length sc) W0 [] (.slice none 0 0) :=
      ⟨hBp, ⟨[], World.ownsRow_nil _ _ _ _, by rw [NdsAt]⟩, hppz, by omega, hbw0⟩
    rw [← hpz] at hset'
    have HBR0 := Lib.hid hbr0
    have HSET0 := Lib.hid hset'
    have HRES0 := Lib.hid (HBR.out.below hbW0 HBR.out.lt)
    have hpw2 : w.heap.size + 2 ≤ p := by omega
    have HPZ := Lib.hid (show pz ≤ W0.heap.size by omega)
    have hB0 := HBP.out.below hbW0 HBP.out.lt
    have c5 : W0.cell? ⟨w.heap.size, 5, none⟩ = some (.slice ou subs.length cu) := hB0.cell 5
    have c5z := hB0.lt
    clear hbr0 hset' hBp hbW0 hbw0 hB0 hz hpW hpz
    go_wp2_with fail
    go_loopw [21] (fun s21 wx => ∃ (i : Nat) (pv : Value), i ≤ subs.length ∧ pz ≤ wx.heap.size ∧ s21 = .int .i64 i ∧ BrAt w (fun x => w.heap.size ≤ x ∧ x ≠ w.heap.size + 1) pz p k lo hi lazy (.slice so set.length sc) wx (subs.take i) pv ∧ RgsAt (fun q => (w.heap.size ≤ q ∧ q ≠ w.heap.size + 1) ∧ q ≠ p ∧ q < pz) wx (.slice so set.length sc) set ∧ Blk wx (w.heap.size + 1) #[.int .u8 0, .slice none 0 0, .int .i64 0, .int .i64 0, .bool false, .slice none 0 0] 27) (fun s21 _ => subs.length - (intOf s21).toNat)
    case atStart => exact ⟨0, _, by omega, HPZ.out, rfl, by rw [List.take_zero]; exact HBR0.out, HSET0.out, HRES0.out⟩
    case round =>
      rename World => Wa
      obtain ⟨i, pv, hi', hpza, rfl, hbr, hsr, hres⟩ := hrel
      have HSR := Lib.hid hsr
      have HBRA := Lib.hid hbr
      have HRES := Lib.hid hres
      by_cases hil : i < subs.length
      · obtain ⟨ub, uo, uc, hue, huc, hum, hNub, hubz, hucell⟩ := HROW.out.parts HSUBS.out (by omega)
        simp only [Value.slice.injEq, true_and] at hue
        obtain ⟨rfl, rfl⟩ := hue
        obtain ⟨tsv, tuv, hnt, t0, t1, t2, t3, t4, t5⟩ := hucell i hil
        obtain ⟨k', lo', hi'', lz', o1, o2, n1, c1, n2, c2, he⟩ := nd6k hnt
        simp only [List.cons.injEq, Value.int.injEq, Value.bool.injEq, true_and, and_true] at he
        obtain ⟨rfl, rfl, rfl, rfl, rfl, rfl⟩ := he
        obtain ⟨ts, hts⟩ : ∃ ts, ts = subs[i] := ⟨_, rfl⟩
        have hbz : Below w.heap.size w Wa := hbr.below
        have hsnoc : subs.take i ++ [ts] = subs.take (i + 1) := by rw [List.take_succ_eq_append_getElem hil, hts]
        have g0 := (hbz.cell (p := ⟨ub, uo + i * 6, none⟩) hubz).trans t0
        have g1 := (hbz.cell (p := ⟨ub, uo + i * 6 + 1, none⟩) hubz).trans t1
        have g2 := (hbz.cell (p := ⟨ub, uo + i * 6 + 2, none⟩) hubz).trans t2
        have g3 := (hbz.cell (p := ⟨ub, uo + i * 6 + 3, none⟩) hubz).trans t3
        have g4 := (hbz.cell (p := ⟨ub, uo + i * 6 + 4, none⟩) hubz).trans t4
        have g5 := (hbz.cell (p := ⟨ub, uo + i * 6 + 5, none⟩) hubz).trans t5
        have hubza : ub < Wa.heap.size := by have := hbz.size; omega
        have hilI : (i : Int) < subs.length := by omega
        have hucI : (subs.length : Int) ≤ cu := by omega
        rw [← hts] at g0 g2 g3 g4 hnt
        have hih := HIH.out ts (by rw [hts]; exact List.getElem_mem hil) N
        have HSN := Lib.hid hsnoc
        have HNT := Lib.hid hnt
        have HIHT := Lib.hid hih
        clear hucell t0 t1 t2 t3 t4 t5 hbr hsr hres hbz hnt hts hih hsnoc
        go_upto_region 5 with fail
        have hbC : Below Wa.heap.size Wa (Wa.alloc (.cells #[.int .u8 ts.kind, .slice o1 n1 c1, .int .i64 ts.lo, .int .i64 ts.hi, .bool ts.lazy, .slice o2 n2 c2] 70)) := (Below.refl _ _).alloc (Nat.le_refl _) _
        have hBe : Blk (Wa.alloc (.cells #[.int .u8 ts.kind, .slice o1 n1 c1, .int .i64 ts.lo, .int .i64 ts.hi, .bool ts.lazy, .slice o2 n2 c2] 70)) Wa.heap.size #[.int .u8 ts.kind, .slice o1 n1 c1, .int .i64 ts.lo, .int .i64 ts.hi, .bool ts.lazy, .slice o2 n2 c2] 70 := Blk.new _ _ _
        generalize (Wa.alloc (.cells #[.int .u8 ts.kind, .slice o1 n1 c1, .int .i64 ts.lo, .int .i64 ts.hi, .bool ts.lazy, .slice o2 n2 c2] 70)) = Wc at hbC hBe ⊢
        have hbrc := HBRA.out.go hbC
        have hresc := HRES.out.below hbC HRES.out.lt
        obtain ⟨ps, hro, hrn⟩ := hbrc.row
        obtain ⟨ov, cv, rfl⟩ := ownSlice hro
        have hlt : (subs.take i).length = i := by rw [List.length_take]; omega
        rw [hlt] at hro
        have hez : Wa.heap.size < Wc.heap.size := hBe.lt
        have hownlt : ∀ q, (Value.slice ov i cv).ownBlock = some q → pz ≤ q ∧ q < Wa.heap.size := fun q hq => by
          obtain ⟨ps', hh, -⟩ := HBRA.out.row
          have h1 := hh.lt q (by rw [hlt]; exact hq)
          exact h1
        have hcall := HIHT.out Wc.drew _ (NdAt.go (Kept.of_below ((HBRA.out.below.trans (hbC.mono HBRA.out.below.size)).drew) (fun _ => False)) (fun q _ hn => ⟨id, hn⟩) HNT.out)
        have HCALL := Lib.hid hcall
        have HBRC := Lib.hid hbrc
        have HSRC := Lib.hid (RgsGo (M := fun q => (w.heap.size ≤ q ∧ q ≠ w.heap.size + 1) ∧ q ≠ p ∧ q < pz) HSR.out (Kept.of_below hbC (fun _ => False)) (fun q _ hq => ⟨id, hq⟩))
        have HRESC := Lib.hid hresc
        have HRO := Lib.hid hro
        have HRN := Lib.hid hrn
        have HLT := Lib.hid hlt
        have HBE := Lib.hid hBe
        have HOWN := Lib.hid hownlt
        have HEZ := Lib.hid hez
        have hmx1 : i + 1 ≤ maxLen := by unfold maxLen; omega
        have hmx2 : (i + 1) * 80 ≤ 140737488355328 := by omega
        rw [hlt] at HBRC
        clear hcall hbrc hresc hro hrn hBe hownlt hbC g0 g1 g2 g3 g4 g5 hez
        have hwz : w.heap.size + 2 ≤ Wa.heap.size ∧ p < Wa.heap.size := by have := HRES.out.lt; have := HBRA.out.node.lt; omega
        apply wp_flowL ?hm ?hok [0, 1, 2, 3, 4, 5, 6, 7] [3, 4, 5, 7] [] ?hord (fun w' => Blk w' p #[.int .u8 k, .slice so set.length sc, .int .i64 lo, .int .i64 hi, .bool lazy, .slice ov i cv] 27 ∧ Blk w' Wa.heap.size #[.int .u8 ts.kind, .slice o1 n1 c1, .int .i64 ts.lo, .int .i64 ts.hi, .bool ts.lazy, .slice o2 n2 c2] 70)
          (brW w (fun x => w.heap.size ≤ x ∧ x ≠ w.heap.size + 1) pz p k lo hi lazy (.slice so set.length sc) Wc (subs.take i) (ts) (.slice ov i cv))
        case hm => rfl
        case hok => kernel_rfl
        case hord => kernel_rfl
        case hb =>
          intro L w' h hl
          have hkP : ∀ {w' : World}, Kept (fun q => (Value.slice ov i cv).ownBlock = some q) Wc w' → _ := fun {w'} (hk : Kept (fun q => (Value.slice ov i cv).ownBlock = some q) Wc w') => And.intro (HBRC.out.node.kept hk (fun e => by have := HOWN.out _ e; omega)) (HBE.out.kept hk (fun e => by have := HOWN.out _ e; omega))
          match L with
          | [] => obtain rfl : w' = Wc.drew := h; exact ⟨HBRC.out.node, HBE.out⟩
          | [_] => obtain ⟨_, _, _, _, _, _, _, _, _, _, _, _, h⟩ := h; exact hkP (Kept.of_below h _)
          | [_, _] => obtain ⟨_, _, _, _, _, _, _, _, _, _, _, _, _, _, _, h⟩ := h; exact hkP (Kept.of_below h _)
          | [_, _, _] => obtain ⟨_, _, _, _, h⟩ := h; exact hkP h
          | _ :: _ :: _ :: _ :: _ =>
            exfalso
            rw [show (List.filter (fun j => [3, 4, 5, 7].contains j) [0, 1, 2, 3, 4, 5, 6, 7]).length = 4 by decide] at hl
            simp only [List.length_cons] at hl
            omega
        case hw => rfl
        case h =>
          iterate 3
            apply flowL_read _ rfl rfl rfl rfl
            case h =>
              intro W1 hW K hK
              (obtain ⟨hWp, hW7⟩ := hW; have w8 : W1.cell? ⟨p, 5, none⟩ = some (.slice ov i cv) := hWp.cell 5; have w8z := hWp.lt; have x0 := hW7.cell 0; have x1 := hW7.cell 1; have x2 := hW7.cell 2; have x3 := hW7.cell 3; have x4 := hW7.cell 4; have x5 := hW7.cell 5; have x7z := hW7.lt; clear hWp hW7)
              go_wp2_with fail
              exact hK
            simp only [Act.put, List.setIfInBounds_toArray, List.set_cons_zero, List.set_cons_succ, Nat.reduceAdd]
          apply flowL_act rfl rfl rfl
          case h =>
            intro W10 hW K hK
            obtain rfl : W10 = Wc.drew := hW
            go_wp2_with (go_at_call 26; go_loud (refine HCALL.out.mono ?_; rintro e w' ⟨cs5, rfl, hn5, hb5⟩))
            obtain ⟨k5, lo5, hi5, lz5, o15, o25, n15, c15, n25, c25, rfl⟩ := nd6k hn5
            refine ⟨k5, lo5, hi5, lz5, o15, o25, n15, c15, n25, c25, rfl, NdAt.mono (fun q hq => ?_) hn5, ((Below.refl _ _).drew).trans hb5⟩
            have hez := HEZ.out
            have hq' : Wc.heap.size ≤ q := hq
            have := hwz.1
            have := hwz.2
            exact ⟨⟨by omega, by omega⟩, by omega, fun e => by have := HOWN.out _ e; omega⟩
          intro v3 hv3
          obtain ⟨_, k6, lo6, hi6, lz6, o61, o62, n61, c61, n62, c62, rfl, -⟩ := hv3
          simp only [six]
          simp only [Act.put, List.setIfInBounds_toArray, List.set_cons_zero, List.set_cons_succ, Nat.reduceAdd]
          apply flowL_act rfl rfl rfl
          case h =>
            intro W1 hW K hK
            obtain ⟨k, lo, hi, lz, o1, o2, n1, c1, n2, c2, he, hn, hb⟩ := hW
            have HE := Lib.hid he
            have HN := Lib.hid hn
            have HB := Lib.hid hb
            clear he hn hb
            go_wp2_with fail
            have he := HE.out
            simp only [six, Value.agg.injEq, List.toArray_eq_toArray_eq, List.toArray_inj, List.cons.injEq, Value.int.injEq, Value.slice.injEq, Value.bool.injEq, true_and, and_true] at he
            obtain ⟨rfl, ⟨rfl, rfl, rfl⟩, rfl, rfl, rfl, rfl, rfl, rfl⟩ := he
            have k1 : Kept (fun _ => False) W1 (W1.alloc (.cells #[.int .u8 k6, .slice o61 n61 c61, .int .i64 lo6, .int .i64 hi6, .bool lz6, .slice o62 n62 c62] 27)) := (Kept.refl _ _).alloc _
            exact ⟨k6, lo6, hi6, lz6, o61, o62, n61, c61, n62, c62, W1.heap.size, rfl, rfl, srcN rfl, NdAt.go k1 (fun q _ hq => ⟨id, hq⟩) HN.out, HB.out.alloc HB.out.size _⟩
          intro v4 hv4
          obtain ⟨_, _, _, _, _, _, _, _, _, _, _, q7, -, rfl, -⟩ := hv4
          simp only [Act.put, List.setIfInBounds_toArray, List.set_cons_zero, List.set_cons_succ, Nat.reduceAdd]
          apply flowL_act rfl rfl rfl
          case h =>
            intro W1 hW K hK
            obtain ⟨k9, lo9, hi9, lz9, o1, o2, n1, c1, n2, c2, q, he, hq, hsr, hn, hb⟩ := hW
            simp only [Value.slice.injEq, Option.some.injEq, Addr.mk.injEq, true_and, and_true] at hq
            subst hq
            have hbr1 := HBRC.out.go hb
            have hro1 := ownGo HRO.out (Kept.of_below hb (fun _ => False)) (fun _ _ => id)
            have hrn1 := NdsAt.go (M := fun q => (w.heap.size ≤ q ∧ q ≠ w.heap.size + 1) ∧ q ≠ p ∧ (Value.slice ov i cv).ownBlock ≠ some q) (Kept.of_below hb (fun _ => False)) (fun q _ hq => ⟨id, by simpa [HLT.out] using hq⟩) HRN.out
            refine wp_append_row _ _ 25 rfl Tryz.underlying25 hi0 hz0 hz1 hz2 rfl (.slice ov i cv) i ps rfl hro1 _ 1 _ rfl hsr rfl (by simp [six, Value.oneCell']) hmx1 hmx2 (by have := hb.size; have := HEZ.out; omega) ?_
            intro v' w' h1 h2 h3 h4
            obtain ⟨ov', cv', rfl⟩ := ownSlice h1
            have hm := hbr1.more (t := ts) (by rw [HLT.out]; exact hro1) hrn1 hn (by rw [HLT.out]; exact h1) h2 h3
            refine hK _ _ ⟨ov', cv', by rw [HLT.out], by rw [HLT.out]; exact hm, (Kept.of_below hb _).trans (grownK h2)⟩
          intro v5 hv5
          obtain ⟨_, o3, c3, rfl, -⟩ := hv5
          rw [HLT.out]
          simp only [Act.put, List.setIfInBounds_toArray, List.set_cons_zero, List.set_cons_succ, Nat.reduceAdd]
          iterate 1
            apply flowL_read _ rfl rfl rfl rfl
            case h =>
              intro W1 hW K hK
              (obtain ⟨hWp, hW7⟩ := hW; have w8 : W1.cell? ⟨p, 5, none⟩ = some (.slice ov i cv) := hWp.cell 5; have w8z := hWp.lt; have x0 := hW7.cell 0; have x1 := hW7.cell 1; have x2 := hW7.cell 2; have x3 := hW7.cell 3; have x4 := hW7.cell 4; have x5 := hW7.cell 5; have x7z := hW7.lt; clear hWp hW7)
              go_wp2_with fail
              exact hK
            simp only [Act.put, List.setIfInBounds_toArray, List.set_cons_zero, List.set_cons_succ, Nat.reduceAdd]
          apply flowL_act rfl rfl rfl
          case h =>
            intro W10 hW K hK
            obtain ⟨o4, c4, he4, hbr4, hk4⟩ := hW
            rw [HLT.out] at he4 hbr4
            simp only [Value.slice.injEq, true_and] at he4
            obtain ⟨rfl, rfl⟩ := he4
            have hPP := HBRC.out.node.kept hk4 (fun e => by have := HOWN.out _ e; omega)
            have w8 : W10.cell? ⟨p, 5, none⟩ = some (.slice ov i cv) := hPP.cell 5
            have w8z := hPP.lt
            have w8f := hPP.frozen 5
            have HEND := Lib.hid hbr4
            have HK4 := Lib.hid ((hk4.mono (fun q _ e => Or.inl e)).setCell (X := fun q => (Value.slice ov i cv).ownBlock = some q ∨ q = p) (p := ⟨p, 5, none⟩) (fun _ => Or.inr rfl) (.slice o3 (i + 1) c3))
            clear hbr4 hk4 hPP
            go_wp2_with fail
            exact hK undef _ ⟨o3, c3, by rw [HLT.out]; exact HEND.out, HK4.out⟩
          intro v6 hv6
          simp only [Act.put, List.setIfInBounds_toArray, List.set_cons_zero, List.set_cons_succ, Nat.reduceAdd]
          refine flowL_end fun W11 h11 => ?_
          obtain ⟨o4, c4, hbr4, hk4⟩ := h11
          rw [HSN.out] at hbr4
          have HBR4 := Lib.hid hbr4
          have HR4 := Lib.hid (HRESC.out.kept hk4 (fun e => by
            rcases e with e | e
            · have := (HOWN.out _ e).1; omega
            · omega))
          have HZ4 := Lib.hid (show pz ≤ W11.heap.size by have := hk4.size; have := HEZ.out; omega)
          have HS4 := Lib.hid (RgsGo (M := fun q => (w.heap.size ≤ q ∧ q ≠ w.heap.size + 1) ∧ q ≠ p ∧ q < pz) HSRC.out hk4 (fun q _ hq => ⟨fun e => e.elim (fun e => by have := HOWN.out _ e; omega) hq.2.1, hq⟩))
          clear hbr4 hk4
          go_wp2_with fail
          go_roundw
          case rel => exact ⟨i + 1, _, by omega, HZ4.out, by go_num, HBR4.out, HS4.out, HR4.out⟩
          case measure => simp [intOf]; omega
      · obtain rfl : i = subs.length := by omega
        rw [List.take_length] at hbr
        obtain ⟨ps, hro, hrn⟩ := hbr.row
        obtain ⟨ov, cv, rfl⟩ := ownSlice hro
        have hnode := hbr.node
        obtain ⟨e0, e1, e2, e3, e4, e5⟩ : Wa.cell? ⟨p, 0, none⟩ = some (.int .u8 k) ∧ Wa.cell? ⟨p, 1, none⟩ = some (.slice so set.length sc) ∧ Wa.cell? ⟨p, 2, none⟩ = some (.int .i64 lo) ∧ Wa.cell? ⟨p, 3, none⟩ = some (.int .i64 hi) ∧ Wa.cell? ⟨p, 4, none⟩ = some (.bool lazy) ∧ Wa.cell? ⟨p, 5, none⟩ = some (.slice ov subs.length cv) :=
          ⟨hnode.cell 0, hnode.cell 1, hnode.cell 2, hnode.cell 3, hnode.cell 4, hnode.cell 5⟩
        have ez := hnode.lt
        have r0 := hres.cell 0; have r1 := hres.cell 1; have r2 := hres.cell 2; have r3 := hres.cell 3; have r4 := hres.cell 4; have r5 := hres.cell 5
        have rz := hres.lt
        have rf : ∀ i, Wa.frozen? ⟨w.heap.size + 1, i, none⟩ = false := hres.frozen
        have hnd : NdAt (fun q => w.heap.size ≤ q ∧ q ≠ w.heap.size + 1) Wa (.mk k set lo hi lazy subs) [.int .u8 k, .slice so set.length sc, .int .i64 lo, .int .i64 hi, .bool lazy, .slice ov subs.length cv] := by
          rw [NdAt]
          refine ⟨_, _, ps, rfl, ⟨hk.1, hk.2.1, hk.2.2⟩, hlo, hhi, RgsGo hsr (Kept.refl (fun _ => False) Wa) (fun q _ hq => ⟨id, hq.1⟩), rowOwn hro (fun q hq => ?_), NdsAt.mono (fun q hq => hq.1) hrn⟩
          have := (hro.lt q hq).1
          exact ⟨by omega, by omega⟩
        have hF := FIN.out Wa _ _ _ _ _ _ hbr.below hres hnd
        have HF := Lib.hid hF
        clear hF hnd hbr hres hro hrn hnode hsr
        go_wp2_with fail
        have hF := HF.out
        exact bodyPost_ret (v := .agg #[.int .u8 k, .slice so set.length sc, .int .i64 lo, .int .i64 hi, .bool lazy, .slice ov subs.length cv]) (by simp [results, Tryz.results26, go_sem, hF.2.cell]) rfl hF.1
theorem turned_all : ∀ t : Nd, TurSpec t
  | .mk k set lo hi lazy subs => turned_step (fun s hs => turned_all s)
termination_by t => SizeOf.sizeOf t
decreasing_by
  have := List.sizeOf_lt_of_mem hs
  simp
  omega
end Go.Proofs.YtnhjakdmbfadlaaGreatDoor

/- gaugerlaw08.tree, where read is known. -/
namespace Go.Proofs.YtnhjakdmbfadlaaGreatDoor
open Go.RowKit Wy Mem Grow

set_option maxHeartbeats 4000000 in
set_option maxRecDepth 100000 in
theorem tree_any {s : ByteArray} {t : Nd} (hr : RdSpec s t) (hs : s.size ≤ 1024) (hsh : (Wy.look t).shaped = true) (hfi : (Wy.look t).firm = true) (hop : opened t ≤ 30) (hdp : (Wy.look t).depth ≤ 40) (hno : nodes t ≤ 1000000) (w : World) :
    Calls Tryz.prog 11 #[.string s] w (Trd (fun q => w.heap.size ≤ q) t w) := by
  have HP := Lib.hid (parse_any hr hs hsh hfi hop hdp hno)
  have HT := Lib.hid (turned_all t)
  clear hr hs hsh hfi hop hdp hno
  go_enter Tryz.func11, Tryz.ntmps11
  go_upto_region 1 with fail
  have hB : Blk (w.alloc (.cells #[.int .u8 0, .slice none 0 0, .int .i64 0, .int .i64 0, .bool false, .slice none 0 0] 27)) w.heap.size #[.int .u8 0, .slice none 0 0, .int .i64 0, .int .i64 0, .bool false, .slice none 0 0] 27 := Blk.new _ _ _
  have hbW : Below w.heap.size w (w.alloc (.cells #[.int .u8 0, .slice none 0 0, .int .i64 0, .int .i64 0, .bool false, .slice none 0 0] 27)) := (Below.refl _ _).alloc (Nat.le_refl _) _
  have hzW : (w.alloc (.cells #[.int .u8 0, .slice none 0 0, .int .i64 0, .int .i64 0, .bool false, .slice none 0 0] 27)).heap.size = w.heap.size + 1 := by simp
  generalize (w.alloc (.cells #[.int .u8 0, .slice none 0 0, .int .i64 0, .int .i64 0, .bool false, .slice none 0 0] 27)) = W at hB hbW hzW ⊢
  have HB := Lib.hid hB
  have HBW := Lib.hid hbW
  have HZW := Lib.hid hzW
  clear hB hbW hzW
  go_upto_region 2 with (go_at_call 39; go_loud (refine (HP.out _).mono ?_; rintro ee w5 ⟨cs, rfl, hnt, hb5⟩; obtain ⟨tk, tl, th, tz, o1, o2, n1, c1, n2, c2, rfl⟩ := nd6k hnt; have HNT := Lib.hid hnt; have HB5 := Lib.hid hb5; clear hnt hb5))
  have hB4 : Blk (w5.alloc (.cells #[.int .u8 tk, .slice o1 n1 c1, .int .i64 tl, .int .i64 th, .bool tz, .slice o2 n2 c2] 70)) w5.heap.size #[.int .u8 tk, .slice o1 n1 c1, .int .i64 tl, .int .i64 th, .bool tz, .slice o2 n2 c2] 70 := Blk.new _ _ _
  have hb4 : Below w.heap.size w (w5.alloc (.cells #[.int .u8 tk, .slice o1 n1 c1, .int .i64 tl, .int .i64 th, .bool tz, .slice o2 n2 c2] 70)) := (HBW.out.trans (HB5.out.mono HBW.out.size)).alloc (by have := HBW.out.size; have := HB5.out.size; omega) _
  have hB2 : Blk (w5.alloc (.cells #[.int .u8 tk, .slice o1 n1 c1, .int .i64 tl, .int .i64 th, .bool tz, .slice o2 n2 c2] 70)) w.heap.size #[.int .u8 0, .slice none 0 0, .int .i64 0, .int .i64 0, .bool false, .slice none 0 0] 27 := (HB.out.below HB5.out HB.out.lt).alloc _
  have hnt4 : NdAt (fun q => W.heap.size ≤ q) (w5.alloc (.cells #[.int .u8 tk, .slice o1 n1 c1, .int .i64 tl, .int .i64 th, .bool tz, .slice o2 n2 c2] 70)) t [.int .u8 tk, .slice o1 n1 c1, .int .i64 tl, .int .i64 th, .bool tz, .slice o2 n2 c2] := NdAt.go ((Kept.refl (fun _ => False) w5).alloc _) (fun q hq hn => ⟨id, hn⟩) HNT.out
  have hs4 : w.heap.size < (w5.alloc (.cells #[.int .u8 tk, .slice o1 n1 c1, .int .i64 tl, .int .i64 th, .bool tz, .slice o2 n2 c2] 70)).heap.size := hB2.lt
  generalize (w5.alloc (.cells #[.int .u8 tk, .slice o1 n1 c1, .int .i64 tl, .int .i64 th, .bool tz, .slice o2 n2 c2] 70)) = V at hB4 hb4 hB2 hnt4 hs4 ⊢
  generalize w5.heap.size = q at hB4 hb4 hB2 hnt4 ⊢
  have hc := HT.out _ V _ hnt4
  have fin : ∀ w' c0 c1 c2 c3 c4 c5, Below V.heap.size V w' → NdAt (fun q => V.heap.size ≤ q) w' t [c0, c1, c2, c3, c4, c5] → Trd (fun q => w.heap.size ≤ q) t w (.returned (.agg #[c0, c1, c2, c3, c4, c5])) ((((((w'.setCell ⟨w.heap.size, 0, none⟩ c0).setCell ⟨w.heap.size, 1, none⟩ c1).setCell ⟨w.heap.size, 2, none⟩ c2).setCell ⟨w.heap.size, 3, none⟩ c3).setCell ⟨w.heap.size, 4, none⟩ c4).setCell ⟨w.heap.size, 5, none⟩ c5) ∧ Blk ((((((w'.setCell ⟨w.heap.size, 0, none⟩ c0).setCell ⟨w.heap.size, 1, none⟩ c1).setCell ⟨w.heap.size, 2, none⟩ c2).setCell ⟨w.heap.size, 3, none⟩ c3).setCell ⟨w.heap.size, 4, none⟩ c4).setCell ⟨w.heap.size, 5, none⟩ c5) w.heap.size #[c0, c1, c2, c3, c4, c5] 27 := by
    intro w' c0 c1 c2 c3 c4 c5 hb hn
    have hk := set6k (W := w') (b := w.heap.size) c0 c1 c2 c3 c4 c5
    have h2 := NdAt.go (M := fun q => w.heap.size ≤ q) hk (fun q _ hq => ⟨fun e => by omega, by omega⟩) hn
    exact ⟨⟨_, rfl, h2, ((Kept.of_below (hb4.trans (hb.mono hb4.size)) (fun q => q = w.heap.size)).trans hk).below (fun q hq e => by omega)⟩, set6blk (hB2.below hb hB2.lt) _ _ _ _ _ _⟩
  have HC := Lib.hid hc
  have HFIN := Lib.hid fin
  have HB2 := Lib.hid hB2
  have b0 := hB4.cell 0
  have b1 := hB4.cell 1
  have b2 := hB4.cell 2
  have b3 := hB4.cell 3
  have b4 := hB4.cell 4
  have b5 := hB4.cell 5
  have bz := hB4.lt
  clear hc fin hB4 hb4 hB2 hnt4 hs4 HNT HB5 HB HBW HZW HP HT
  go_wp2_with (go_at_call 26; go_loud (refine HC.out.mono ?_; rintro ee w8 ⟨ds, rfl, hnt, hb8⟩; obtain ⟨sk, sl, sh, sz, p1, p2, m1, d1, m2, d2, rfl⟩ := nd6k hnt; have HNT := Lib.hid hnt; have HB8 := Lib.hid hb8; have A := HB2.out.below HB8.out HB2.out.lt; have a0 := A.cell 0; have a1 := A.cell 1; have a2 := A.cell 2; have a3 := A.cell 3; have a4 := A.cell 4; have a5 := A.cell 5; have az := A.lt; have af : ∀ i, w8.frozen? ⟨w.heap.size, i, none⟩ = false := A.frozen; clear A hnt hb8))
  have hF := HFIN.out _ _ _ _ _ _ _ HB8.out HNT.out
  exact bodyPost_ret (v := .agg #[.int .u8 sk, .slice p1 m1 d1, .int .i64 sl, .int .i64 sh, .bool sz, .slice p2 m2 d2]) (by simp [results, Tryz.results11, go_sem, hF.2.cell]) rfl hF.1
end Go.Proofs.YtnhjakdmbfadlaaGreatDoor
