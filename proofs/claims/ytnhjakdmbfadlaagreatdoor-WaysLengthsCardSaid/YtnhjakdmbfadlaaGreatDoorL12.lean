/- Parts of the proof: Cat. Conditions: none. -/
import Derived.Test.YtnhjakdmbfadlaaGreatDoorL11
set_option linter.all false
/- One part after the other. -/
namespace Go.Proofs.YtnhjakdmbfadlaaGreatDoor
open Go.RowKit Wy Mem Grow

def partC (k lo hi : Int) (lazy : Bool) (sv uv pv : Value) (num grp : Nat) : Array Value := #[.int .u8 k, sv, .int .i64 lo, .int .i64 hi, .bool lazy, uv, .int .i64 num, .int .i64 grp, pv]
theorem part_open {N : Nat → Prop} {w : World} {k : Int} {set : List Rg} {lo hi : Int} {lazy : Bool} {subs : List Nd} {num grp b : Nat} (h : PartAt N w (.mk k set lo hi lazy subs) num grp b) :
    ∃ sv uv pv ps, Blk w b (partC k lo hi lazy sv uv pv num grp) 140 ∧ N b ∧ (0 ≤ k ∧ k ≤ 255 ∧ subs.length ≤ 1048576) ∧ (∃ (a : Option Addr) (n c : Nat), uv = .slice a n c) ∧ I64 lo ∧ I64 hi ∧ RgsAt N w sv set ∧ Row N w pv subs.length 1 ps ∧ PartsAt N w subs (num + 1) (grp + if k = 6 then 1 else 0) ps := by
  rw [PartAt] at h
  obtain ⟨sv, uv, pv, ps, h1, h2, h3, h4, h5, h6, h7, h8⟩ := h
  exact ⟨sv, uv, pv, ps, h1, h2, ⟨h3.1, h3.2.1, h3.2.2.1⟩, h3.2.2.2, h4, h5, h6, h7, h8⟩
/-- the parts' pointers -/
theorem parts_cells {N : Nat → Prop} {w : World} {subs : List Nd} {n g : Nat} {pv : Value} {ps : List Value} (hr : Row N w pv subs.length 1 ps) (hp : PartsAt N w subs n g ps) (hne : 0 < subs.length) :
    ∃ pb po pc : Nat, pv = .slice (some ⟨pb, po, none⟩) subs.length pc ∧ subs.length ≤ pc ∧ pc ≤ maxLen ∧ N pb ∧ pb < w.heap.size ∧ ∀ i (hi : i < subs.length), ∃ b, w.cell? ⟨pb, po + i, none⟩ = some (.pointer (some ⟨b, 0, none⟩)) ∧ PartAt N w subs[i] (n + nodesL (subs.take i)) (g + openedL (subs.take i)) b := by
  rcases hr.at_ with ⟨h0, _⟩ | ⟨pb, po, pc, rfl, h1, h2, h3, h4, h5⟩
  · omega
  · refine ⟨pb, po, pc, rfl, h1, h2, h3, h4, fun i hi => ?_⟩
    obtain ⟨b, hb, hpt⟩ := hp.get i hi
    refine ⟨b, ?_, hpt⟩
    rw [h5 i (by rw [hp.length]; exact hi)]
    exact hb
theorem tabd_subs {T : Nat → Option (Nd × Nat)} {k : Int} {set : List Rg} {lo hi : Int} {lazy : Bool} {subs : List Nd} {n g : Nat} (h : Tabd T (.mk k set lo hi lazy subs) n g) : TabdL T subs (n + 1) (g + if k = 6 then 1 else 0) := by
  rw [Tabd] at h
  exact h.2
theorem Goes.blk {R : Rc} {N N' : Nat → Prop} {w w' : World} {b : Nat} {cs : Array Value} {t : TypeId} (h : Goes R N w N' w') (hA : At R.C N w) (hb : Blk w b cs t) (hN : N b) : Blk w' b cs t :=
  hb.kept h.own (h.hd hA b hb.lt hN).1
theorem Goes.cell {R : Rc} {N N' : Nat → Prop} {w w' : World} {b : Nat} (h : Goes R N w N' w') (hA : At R.C N w) (hb : b < w.heap.size) (hN : N b) (o : Nat) : w'.cell? ⟨b, o, none⟩ = w.cell? ⟨b, o, none⟩ :=
  World.cell?_of_block (h.own.block b hb (h.hd hA b hb hN).1)

set_option maxHeartbeats 4000000 in
set_option maxRecDepth 100000 in
theorem cat_any {C : Cx} (hC : C.Ok) {set : List Rg} {lo hi : Int} {lazy : Bool} {subs : List Nd} {num grp b place : Nat} {N : Nat → Prop} {w : World} (h : At C N w) (hp : PartAt N w (.mk 3 set lo hi lazy subs) num grp b)
    (ht : Tabd C.T (.mk 3 set lo hi lazy subs) num grp) (hg : grp + openedL subs ≤ C.G) (hpl : place ≤ C.s.size) (hne : 0 < subs.length) (ih : ∀ s ∈ subs, WaysSpec C s) :
    Calls Tryz.prog 69 #[.pointer (some ⟨C.m, 0, none⟩), .pointer (some ⟨b, 0, none⟩), .int .i64 place] w (Wys C N w (wyCat (wayA C.G) (strS C.s) subs grp [(wayA C.G).still place])) := by
  obtain ⟨sv, uv, pv, ps, B0, hNb, hk, hu, hlo, hhi, hset, hrow, hparts⟩ := part_open hp
  simp only [show ¬ ((3 : Int) = 6) by omega, if_false, Nat.add_zero] at hparts
  have htab := tabd_subs ht
  simp only [show ¬ ((3 : Int) = 6) by omega, if_false, Nat.add_zero] at htab
  obtain ⟨pb, po, pc, rfl, hpc1, hpc2, hNpb, hpbz, hcell⟩ := parts_cells hrow hparts hne
  have hst := still_any (place := place) h.maker h.none (by have := hC.G; omega)
  have HST := Lib.hid hst
  have HA := Lib.hid h
  have HC := Lib.hid hcell
  have HB0 := Lib.hid B0
  have HIH := Lib.hid ih
  have HTAB := Lib.hid htab
  have hbz := B0.lt
  have hsl : (subs.length : Int) ≤ 1048576 := by have := hk.2.2; omega
  have hplI : (place : Int) ≤ 32 := by have := hC.len; omega
  have hpci : (subs.length : Int) ≤ pc := by omega
  clear hst h hcell B0 ih htab ht hparts hrow hp hset hu hlo hhi hk
  go_enter Tryz.func69, Tryz.ntmps69
  go_wp2_with (go_at_call 66; refine HST.out.mono ?_; rintro e w1 ⟨v', rfl, hown, hb1⟩; obtain ⟨ob, c, rfl⟩ := own_slice hown; have e8 : w1.cell? ⟨b, 8, none⟩ = some (.slice (some ⟨pb, po, none⟩) subs.length pc) := (HB0.out.below hb1 hbz).cell 8; have hbz1 : b < w1.heap.size := (HB0.out.below hb1 hbz).lt)
  have hb2 : Below w.heap.size w (w1.alloc (.cells #[.int .i64 place, .slice ob C.G c] 43)) := hb1.alloc hb1.size _
  have hA2 := HA.out.below hb2
  have hway2 : WaysAt N (w1.alloc (.cells #[.int .i64 place, .slice ob C.G c] 43)) C.G C.s.size (.slice (some ⟨w1.heap.size, 0, none⟩) 1 1) [(wayA C.G).still place] := by
    have hB := Blk.new w1 #[.int .i64 place, .slice ob C.G c] 43
    refine ⟨[.int .i64 place, .slice ob C.G c], ⟨rfl, .inr ⟨w1.heap.size, 0, 1, rfl, Nat.le_refl _, by decide, HA.out.new _ hb1.size, by simp, fun j hj => ?_⟩⟩, WysAt.one (x := (wayA C.G).still place) (SpsAt.still (ownsRow_go hown ((Kept.refl (fun _ => False) w1).alloc _) (fun _ _ => id)) (fun q hq _ => HA.out.new q hq) (by have := hC.G; omega)) hpl (by rw [still_eq]; simp)⟩
    rw [hB.cell, Nat.zero_add]
    simp
  have hgo2 : Goes (C.r w.heap.size) N w N (w1.alloc (.cells #[.int .i64 place, .slice ob C.G c] 43)) := Goes.below hb2
  have hz2 : w1.heap.size < (w1.alloc (.cells #[.int .i64 place, .slice ob C.G c] 43)).heap.size := by simp
  generalize (w1.alloc (.cells #[.int .i64 place, .slice ob C.G c] 43)) = W2 at hA2 hway2 hgo2 hz2 ⊢
  have HA2 := Lib.hid hA2
  have HWAY2 := Lib.hid hway2
  clear hown e8 hb2 hA2 hway2
  go_loopw [27, 8] (fun i v8 wr => ∃ (k : Nat) (N1 : Nat → Prop) (l : List Wy.Way), k ≤ subs.length ∧ i = .int .i64 k ∧ At C N1 wr ∧ (∀ q, N1 q → N q) ∧ Goes (C.r w.heap.size) N w N1 wr ∧ WaysAt N1 wr C.G C.s.size v8 l ∧ wyCat (wayA C.G) (strS C.s) subs grp [(wayA C.G).still place] = catFrom (wayA C.G) (strS C.s) subs grp k l) (fun i _ _ => subs.length - (intOf i).toNat)
  case atStart => exact ⟨0, N, _, by omega, rfl, HA2.out, fun _ hq => hq, hgo2, HWAY2.out, (catFrom_zero _ _ _ _ _).symm⟩
  case round =>
    rename World => wa
    obtain ⟨k, N1, l, hk, rfl, hA1, hN1, hgo1, hw1, hcat⟩ := hrel
    obtain ⟨lo8, lc8, rfl⟩ := hw1.slice
    have HA1 := Lib.hid hA1
    have HN1 := Lib.hid hN1
    have HGO1 := Lib.hid hgo1
    have HW1 := Lib.hid hw1
    have HCAT := Lib.hid hcat
    clear hA1 hN1 hgo1 hw1 hcat
    by_cases hkl : k < subs.length
    · obtain ⟨sb, hsb, hspt⟩ := HC.out k hkl
      have c1 : wa.cell? ⟨pb, po + k, none⟩ = some (.pointer (some ⟨sb, 0, none⟩)) := (HGO1.out.cell HA.out hpbz hNpb _).trans hsb
      have HPT := Lib.hid (HGO1.out.part HA.out hspt)
      have HTB := Lib.hid (TabdL.get HTAB.out k hkl)
      have HOG := Lib.hid (openedL_at hkl)
      obtain ⟨f, hf⟩ : ∃ f : Nat → Option (List Wy.Way), f = fun q => wy (wayA C.G) (strS C.s) subs[k] (grp + openedL (subs.take k)) q := ⟨_, rfl⟩
      have HF := Lib.hid hf
      have HSI := Lib.hid (HIH.out subs[k] (List.getElem_mem hkl))
      have hklI : (k : Int) < subs.length := by omega
      have hll : l.length ≤ maxLen := by obtain ⟨cs, h1, -⟩ := HW1.out; exact h1.len_le
      have hllI : (l.length : Int) ≤ 9223372036854775807 := by unfold maxLen at hll; omega
      clear hspt hf hsb
      go_wp2_with fail
      go_loopw [33, 11] (fun i v11 wx => ∃ (j : Nat) (N2 : Nat → Prop) (nl : List Wy.Way), j ≤ l.length ∧ i = .int .i64 j ∧ GrAt C w.heap.size N N2 wx v11 nl ∧ nl.length ≤ 500 ∧ allOf (stepF (wayA C.G) f) (l.take j) = some nl ∧ Goes (C.r w.heap.size) N1 wa N2 wx) (fun i _ _ => l.length - (intOf i).toNat)
      case atStart => exact ⟨0, N1, [], by omega, rfl, GrAt.nil HA1.out HN1.out HA.out.mbLt HGO1.out.own.size, by simp, rfl, Goes.refl _ _ _⟩
      case round =>
        rename World => wb
        obtain ⟨j, N2, nl, hj, rfl, hgr2, hnl, hall, hgo2'⟩ := hrel
        obtain ⟨o11, c11, rfl⟩ := hgr2.slice
        have hbw : w.heap.size ≤ wb.heap.size := hgr2.size
        have HGR2 := Lib.hid hgr2
        have HALL := Lib.hid hall
        have HGO2 := Lib.hid hgo2'
        clear hgr2 hall hgo2'
        by_cases hjl : j < l.length
        · obtain ⟨lb, off, cap, he, hcap, hmax, hNlb, hlbz, hlc⟩ := (HGO2.out.ways HA1.out HW1.out).cells (by omega)
          simp only [Value.slice.injEq] at he
          obtain ⟨rfl, -, rfl⟩ := he
          obtain ⟨svx, hx0, hx1, hxs, hxl, hxG⟩ := hlc j hjl
          obtain ⟨x, hx⟩ : ∃ x, x = l[j] := ⟨_, rfl⟩
          rw [← hx] at hx0 hxs hxl hxG
          obtain ⟨so, sc, rfl⟩ := hxs.row.slice
          have HX := Lib.hid hx
          have HXG := Lib.hid hxG
          have HXS := Lib.hid hxs
          have hjlI : (j : Int) < l.length := by omega
          have hxI : (x.stop : Int) ≤ 32 := by have := hC.len; omega
          have hxl' := hxl
          have hcI : (l.length : Int) ≤ lc8 := by omega
          clear hlc hxs hx hxG
          have hbx : Below wb.heap.size wb (wb.alloc (.cells #[.int .i64 x.stop, (.slice so x.spans.length sc)] 43)) := (Below.refl _ _).alloc (Nat.le_refl _) _
          have HAX := Lib.hid (HGR2.out.at_.below hbx)
          have hpx : PartAt N2 (wb.alloc (.cells #[.int .i64 x.stop, (.slice so x.spans.length sc)] 43)) subs[k] (num + 1 + nodesL (subs.take k)) (grp + openedL (subs.take k)) sb := (HGO2.out.trans (Goes.below hbx)).part HA1.out HPT.out
          have HPX := Lib.hid hpx
          have hog : grp + openedL (subs.take k) + opened subs[k] ≤ C.G := by have := HOG.out; omega
          have HOGG := Lib.hid hog
          clear hpx hog
          have hgx : Goes (C.r w.heap.size) N w N2 (wb.alloc (.cells #[.int .i64 x.stop, (.slice so x.spans.length sc)] 43)) := HGO1.out.trans (HGO2.out.trans (Goes.below hbx))
          have HGX := Lib.hid hgx
          have hB13 : Blk (wb.alloc (.cells #[.int .i64 x.stop, (.slice so x.spans.length sc)] 43)) wb.heap.size #[.int .i64 x.stop, (.slice so x.spans.length sc)] 43 := Blk.new _ _ _
          have HB13 := Lib.hid hB13
          have HBX := Lib.hid hbx
          have hmbB : C.mb < w.heap.size := HA.out.mbLt
          clear hgx hB13 hbx
          have hfx : f x.stop = C.wy subs[k] (grp + openedL (subs.take k)) x.stop := by rw [HF.out]; rfl
          cases ho : C.wy subs[k] (grp + openedL (subs.take k)) x.stop with
          | none =>
            have HCALL := Lib.hid (HSI.out.no HAX.out HPX.out HTB.out HOGG.out hxl ho)
            have hno : wyCat (wayA C.G) (strS C.s) subs grp [(wayA C.G).still place] = none := by
              rw [HCAT.out]
              refine catFrom_none _ _ hkl (goOn_stop (i := j) hjl ?_)
              have : f l[j].stop = none := by rw [← HX.out, hfx, ho]
              rw [HF.out] at this
              exact this
            have HNO := Lib.hid hno
            clear hno hfx ho
            go_wp2_with (go_at_call 43; refine HCALL.out.mono ?_; rintro e w3 ⟨rfl, hk3, hA3⟩)
            exact bodyPost_ret (v := .tuple #[.slice none 0 0, .bool false]) (by simp [results, Tryz.results69, go_sem]) rfl (wys_none HA.out (HGX.out.trans (Goes.memo hk3)) hA3 HGR2.out.sub HNO.out)
          | some m =>
            have HCALL := Lib.hid (HSI.out.yes HAX.out HPX.out HTB.out HOGG.out hxl ho)
            have hml : m.length ≤ 500 := wy_len ho
            have hmlI : (m.length : Int) ≤ 500 := by omega
            have hnlI : (nl.length : Int) ≤ 500 := by omega
            have hfm : f l[j].stop = some m := by rw [← HX.out, hfx, ho]
            have HFM := Lib.hid hfm
            clear hfm hfx ho
            by_cases hlen : nl.length + m.length ≤ 500
            · have hlenI : (nl.length : Int) + m.length ≤ 500 := by omega
              go_wp2_with (go_at_call 43; refine HCALL.out.mono ?_; rintro e w3 ⟨am, cm, rfl, hk3, hA3, hWm⟩)
              have hgm : Goes (C.r w.heap.size) N2 wb N2 w3 := (Goes.below HBX.out).trans (Goes.memo hk3)
              have hgr3 := (HGR2.out.below HBX.out).memo hk3 hA3
              have hB3 : Blk w3 wb.heap.size #[.int .i64 x.stop, .slice so x.spans.length sc] 43 := HB13.out.kept hk3 (by omega)
              have hN13 : N2 wb.heap.size := HGR2.out.at_.new _ (Nat.le_refl _)
              have HXS3 := Lib.hid (hgm.spans HGR2.out.at_ HXS.out)
              have HGM := Lib.hid hgm
              have HGR3 := Lib.hid hgr3
              have HB3 := Lib.hid hB3
              have HA3 := Lib.hid hA3
              have HWM := Lib.hid hWm
              clear hgm hgr3 hB3 hA3 hWm hk3 hx0 hx1
              go_loopw [57, 11] (fun i v11 wx => ∃ (p : Nat) (N3 : Nat → Prop) (nl3 : List Wy.Way), p ≤ m.length ∧ i = .int .i64 p ∧ nl3 = nl ++ (m.take p).map ((wayA C.G).thn x) ∧ GrAt C w.heap.size N N3 wx v11 nl3 ∧ Goes (C.r w.heap.size) N2 w3 N3 wx) (fun i _ _ => m.length - (intOf i).toNat)
              case atStart => exact ⟨0, N2, nl, by omega, rfl, by simp, HGR3.out, Goes.refl _ _ _⟩
              case round =>
                rename World => wc
                obtain ⟨p, N3, nl3, hp, rfl, hnl3, hgr4, hgo4⟩ := hrel
                obtain ⟨o12, c12, rfl⟩ := hgr4.slice
                have hl3 : nl3.length = nl.length + p := by rw [hnl3]; simp; omega
                have HNL3 := Lib.hid hnl3
                have HL3 := Lib.hid hl3
                have HGR4 := Lib.hid hgr4
                have HGO4 := Lib.hid hgo4
                clear hnl3 hl3 hgr4 hgo4
                by_cases hpm : p < m.length
                · obtain ⟨mb', moff, mcap, he, hmcap, hmmax, hNmb, hmbz, hmc⟩ := (HGO4.out.ways HA3.out HWM.out).cells (by omega)
                  simp only [Value.slice.injEq] at he
                  obtain ⟨rfl, -, rfl⟩ := he
                  obtain ⟨svy, hy0, hy1, hys, hyl, hyG⟩ := hmc p hpm
                  obtain ⟨y, hy⟩ : ∃ y, y = m[p] := ⟨_, rfl⟩
                  rw [← hy] at hy0 hys hyl hyG
                  obtain ⟨sy, scy, rfl⟩ := hys.row.slice
                  have HY := Lib.hid hy
                  have HYS := Lib.hid hys
                  have HYG := Lib.hid hyG
                  have hpmI : (p : Int) < m.length := by omega
                  have hmcI : (m.length : Int) ≤ cm := by omega
                  obtain ⟨cs, hr1, hr2⟩ := HGR4.out.row
                  have HR1 := Lib.hid hr1
                  have HR2 := Lib.hid hr2
                  clear hmc hys hy hyG hr1 hr2
                  have hB4 := HGO4.out.blk HA3.out HB3.out hN13
                  obtain ⟨g0, g1, -, -⟩ := hB4.two
                  have g2 := hB4.lt
                  have hbc : Below wc.heap.size wc (wc.alloc (.cells #[.int .i64 y.stop, .slice sy y.spans.length scy] 43)) := (Below.refl _ _).alloc (Nat.le_refl _) _
                  have hgc : Goes (C.r w.heap.size) N3 wc N3 (wc.alloc (.cells #[.int .i64 y.stop, .slice sy y.spans.length scy] 43)) := Goes.below hbc
                  have hsx := (HGO4.out.trans hgc).spans HA3.out HXS3.out
                  have hsy := hgc.spans HGR4.out.at_ HYS.out
                  have hth := then_any (we := x.stop) (ve := y.stop) hsx hsy (by rw [HXG.out, HYG.out]) (HGR4.out.at_.below hbc).none
                  have HTH := Lib.hid hth
                  have HSX := Lib.hid hsx
                  have HSY := Lib.hid hsy
                  have HBC := Lib.hid hbc
                  obtain ⟨i0, hi, hz0, hz1, hz2⟩ := info_parts info43
                  have hbase : w.heap.size ≤ wc.heap.size := HGR4.out.size
                  have hn1 : nl3.length + 1 ≤ 500 := by have := HL3.out; omega
                  have hmx1 : nl3.length + 1 ≤ maxLen := by unfold maxLen; omega
                  have hmx2 : (nl3.length + 1) * 32 ≤ 140737488355328 := by omega
                  clear hB4 hth hsx hsy hgc hbc
                  go_wp2_with (first | (go_at_call 91; refine HTH.out.mono ?_; rintro e w5 ⟨v', rfl, hown5, hb5⟩; obtain ⟨ov, cv, rfl⟩ := own_slice hown5; have HO5 := Lib.hid hown5; have HB5 := Lib.hid (HBC.out.trans (hb5.mono (by simp))); have HB6 := Lib.hid (HB5.out.alloc HB5.out.size (.cells #[.int .i64 y.stop, .slice ov (thenS x.spans y.spans).length cv] 43)); have HR6 := Lib.hid (ownsRow_go HR1.out (Kept.of_below HB6.out (fun _ => False)) (fun _ _ => id)); have HS6 := Lib.hid (one_src (w := w5) (st := y.stop) (sv := .slice ov (thenS x.spans y.spans).length cv)); have HZ6 := Lib.hid (Nat.le_trans hbase HB6.out.size); clear hown5 hb5) | (at_builtin; refine wpList_append_row rfl _ _ 38 rfl Tryz.underlying38 hi hz0 hz1 hz2 rfl (.slice o12 nl3.length c12) nl3.length cs rfl HR6.out _ 1 _ rfl HS6.out rfl (by simp [Value.oneCell']) hmx1 hmx2 HZ6.out ?_; intro v7 w7 hown7 hgrow7 h37 h47))
                  have hg6 := HGR4.out.below HB6.out
                  have hgo6 : Goes (C.r w.heap.size) N3 wc N3 (w5.alloc (.cells #[.int .i64 y.stop, .slice ov (thenS x.spans y.spans).length cv] 43)) := Goes.below HB6.out
                  have hsp6 : SpsAt N3 (w5.alloc (.cells #[.int .i64 y.stop, .slice ov (thenS x.spans y.spans).length cv] 43)) (.slice ov (thenS x.spans y.spans).length cv) (thenS x.spans y.spans) :=
                    HSX.out.thn HSY.out (by rw [HXG.out, HYG.out]) (ownsRow_go HO5.out ((Kept.refl (fun _ => False) w5).alloc _) (fun _ _ => id)) (fun q hq _ => HGR4.out.at_.new q (Nat.le_trans (by simp) hq))
                  have hns : WysAt N3 (w5.alloc (.cells #[.int .i64 y.stop, .slice ov (thenS x.spans y.spans).length cv] 43)) C.G C.s.size [(wayA C.G).thn x y] [.int .i64 y.stop, .slice ov (thenS x.spans y.spans).length cv] :=
                    WysAt.one (x := (wayA C.G).thn x y) hsp6 hyl (by rw [thn_eq]; exact (thenS_length (by rw [HXG.out, HYG.out])).trans HYG.out)
                  obtain ⟨hgr7, hgo7⟩ := hg6.more (HR2.out.go (Kept.of_below HB6.out (fun _ => False)) (fun _ _ hn => ⟨id, hn⟩)) hns hown7 hgrow7 h37
                  go_roundw
                  case rel =>
                    refine ⟨p + 1, _, nl3 ++ [(wayA C.G).thn x y], by omega, by go_num, ?_, hgr7, HGO4.out.trans (hgo6.trans hgo7)⟩
                    rw [HNL3.out, HY.out, List.append_assoc, ← List.map_singleton, ← List.map_append, ← List.take_succ_eq_append_getElem hpm]
                  case measure => simp [intOf]; omega
                · obtain rfl : p = m.length := by omega
                  go_wp2_with fail
                  go_roundw
                  case rel =>
                    refine ⟨j + 1, N3, nl ++ m.map ((wayA C.G).thn x), by omega, by go_num, ?_, by simp; omega, ?_, HGO2.out.trans (HGM.out.trans HGO4.out)⟩
                    · have e := HNL3.out
                      rw [List.take_length] at e
                      subst e
                      exact HGR4.out
                    · have := step_take (A := wayA C.G) hjl HALL.out HFM.out
                      rw [← HX.out] at this
                      exact this
                  case measure => simp [intOf]; omega
            · have hlenI : (500 : Int) < (nl.length : Int) + m.length := by omega
              have hno : wyCat (wayA C.G) (strS C.s) subs grp [(wayA C.G).still place] = none := by
                rw [HCAT.out]
                refine catFrom_none _ _ hkl (goOn_many (i := j) (n := nl) (m := m) hjl ?_ ?_ (by omega))
                · have := HALL.out
                  rw [HF.out] at this
                  exact this
                · have := HFM.out
                  rw [HF.out] at this
                  exact this
              have HNO := Lib.hid hno
              clear hno
              go_wp2_with (go_at_call 43; refine HCALL.out.mono ?_; rintro e w3 ⟨am, cm, rfl, hk3, hA3, hWm⟩)
              exact bodyPost_ret (v := .tuple #[.slice none 0 0, .bool false]) (by simp [results, Tryz.results69, go_sem]) rfl (wys_none HA.out (HGX.out.trans (Goes.memo hk3)) hA3 HGR2.out.sub HNO.out)
        · obtain rfl : j = l.length := by omega
          go_wp2_with fail
          have hfin : ∃ N', At C N' wb ∧ (∀ q, N' q → N q) ∧ Goes (C.r w.heap.size) N2 wb N' wb ∧ WaysAt N' wb C.G C.s.size (.slice o11 nl.length c11) nl := HGR2.out.done (fun q hq => HA.out.new q hq)
          obtain ⟨N', hA', hN', hgo', hW'⟩ := hfin
          have hnext : wyCat (wayA C.G) (strS C.s) subs grp [(wayA C.G).still place] = catFrom (wayA C.G) (strS C.s) subs grp (k + 1) nl := by
            rw [HCAT.out]
            refine catFrom_some _ _ hkl ?_
            have := goOn_all (A := wayA C.G) (f := f) (l := l) (n := nl) (by have := HALL.out; rwa [List.take_length] at this) hnl
            rw [HF.out] at this
            exact this
          go_roundw
          case rel => exact ⟨k + 1, N', nl, by omega, by go_num, hA', hN', HGO1.out.trans (HGO2.out.trans hgo'), hW', hnext⟩
          case measure => simp [intOf]; omega
    · obtain rfl : k = subs.length := by omega
      go_wp2_with fail
      have hfin : wyCat (wayA C.G) (strS C.s) subs grp [(wayA C.G).still place] = some l := by rw [HCAT.out]; exact catFrom_end _ _ _ _ _
      exact bodyPost_ret (v := .tuple #[.slice lo8 l.length lc8, .bool true]) (by simp [results, Tryz.results69, go_sem]) rfl (wys_some HA.out HGO1.out HA1.out HN1.out HW1.out hfin)
end Go.Proofs.YtnhjakdmbfadlaaGreatDoor
