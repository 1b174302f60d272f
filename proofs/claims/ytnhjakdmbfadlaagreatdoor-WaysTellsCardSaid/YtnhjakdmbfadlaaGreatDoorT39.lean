/- Parts of the proof. Conditions: none. -/
import Derived.Test.YtnhjakdmbfadlaaGreatDoorT35
import Derived.Test.YtnhjakdmbfadlaaGreatDoorT04
import Derived.Test.YtnhjakdmbfadlaaGreatDoorT00
import Derived.Test.YtnhjakdmbfadlaaGreatDoorT37
import Derived.Test.YtnhjakdmbfadlaaGreatDoorT38
import Derived.Test.YtnhjakdmbfadlaaGreatDoorT17
import Derived.Test.YtnhjakdmbfadlaaGreatDoorT14
import Derived.Test.YtnhjakdmbfadlaaGreatDoorT32
import Derived.Test.YtnhjakdmbfadlaaGreatDoorT26
import Derived.Test.YtnhjakdmbfadlaaGreatDoorT31
import Derived.Test.YtnhjakdmbfadlaaGreatDoorT33
import Derived.Test.YtnhjakdmbfadlaaGreatDoorT29
import Derived.Test.YtnhjakdmbfadlaaGreatDoorT25
import Derived.Test.YtnhjakdmbfadlaaGreatDoorT30
import Derived.Test.YtnhjakdmbfadlaaGreatDoorT24
import Derived.Test.YtnhjakdmbfadlaaGreatDoorT05
set_option linter.all false
set_option maxHeartbeats 8000000
set_option maxRecDepth 100000
namespace Go.Proofs.YtnhjakdmbfadlaaGreatDoor
open Go.RowKit Wy Mem Grow
variable {s:ByteArray} {i:Nat}
theorem NZ (hi:i<s.size):puS (bn s i)=if(Lib.decodeL (s.data.toList.drop i)).1=65533∧(Lib.decodeL (s.data.toList.drop i)).2=1 then(0,0) else Lib.decodeL (s.data.toList.drop i):=by
 have hz:(bn s i).size=s.size-i:=dJ s i (by omega);have hd:=qW s i hi;have e:Lib.decodeN (bn s i).size (byteAt (bn s i) 0) (byteAt (bn s i) 1) (byteAt (bn s i) 2) (byteAt (bn s i) 3)=Lib.decodeL (s.data.toList.drop i):=by
  have h1:Lib.decodeGo (bn s i)=Utf8.decode (bn s i) 0:=by unfold Lib.decodeGo;rw[if_neg (by omega)]
  rw[Lib.decode_at,Nat.sub_zero] at h1;have h2:(aN s).dec i=(((Lib.decodeGo (bn s i)).1:Int),(Lib.decodeGo (bn s i)).2):=rfl;rw[h2,h1] at hd;simp only[Prod.mk.injEq] at hd;exact Prod.ext (by have:=hd.1;exact Int.ofNat.inj this) hd.2
 unfold puS puN;rw[if_neg (by omega),e];by_cases h:Lib.decodeL (s.data.toList.drop i)=(65533,1)
 ·rw[if_pos h,if_pos ⟨by rw[h],by rw[h]⟩]
 ·rw[if_neg h,if_neg (fun h2=>h (Prod.ext h2.1 h2.2))]
theorem GN (s:ByteArray) (i n:Nat) (h:i+n≤s.size):(bn s i).extract n (bn s i).size=bn s (i+n):=by
 unfold bn;apply ByteArray.ext;simp only[ByteArray.data_extract,ByteArray.size_extract,Array.extract_extract];congr 1;omega
theorem D7 (hs : s.size ≤ 1000000) (w : World) : Calls Tryz.prog 59 #[.string s] w fun e w' => e = .returned (.bool (Lib.validD s.data.toList)) ∧ w' = w := by
  obtain ⟨r, hr⟩ : ∃ r, r = Lib.validD s.data.toList := ⟨_, rfl⟩
  rw [← hr]
  have HR := zh hr
  clear hr
  go_enter Tryz.func59, Tryz.ntmps59
  go_wp2_with fail
  go_loopw [0] (fun s0 wx => ∃ i : Nat, i ≤ s.size ∧ s0 = .string (bn s i) ∧ wx = w ∧ Lib.validD (s.data.toList.drop i) = r) (fun s0 _ => match s0 with | .string b => b.size | _ => 0)
  case atStart =>
    refine ⟨0, by omega, ?_, rfl, by rw [HR.out]; simp⟩
    congr 1
    unfold bn
    simp
  case round =>
    rename World => Wa
    obtain ⟨i, hi, rfl, rfl, hv⟩ := hrel
    have hz : (bn s i).size = s.size - i := dJ s i hi
    have HV := zh hv
    clear hv
    by_cases hil : ¬ i < s.size
    · have hrt : r = true := by
        rw [← HV.out, List.drop_eq_nil_of_le (by have : s.data.toList.length = s.size := rfl
                                                 omega)]
        rfl
      have HRT := zh hrt
      have hz0 : decide ((0 : Int) < ((bn s i).size : Int)) = false := decide_eq_false (by omega)
      have hz1 : (bn s i).size = 0 := by omega
      clear hrt hil hz
      go_wp2_with fail
      exact bodyPost_ret (v := .bool true) (by simp [results, Tryz.results59, go_sem]) rfl ⟨by rw [HRT.out], rfl⟩
    · have hil : i < s.size := by omega
      have hpd := NZ hil
      have hl : (s.data.toList.drop i).length = s.size - i := by rw [List.length_drop]; rfl
      have hne : s.data.toList.drop i ≠ [] := fun e => by rw [e] at hl; simp at hl; omega
      have hvs := Lib.validD_step _ hne
      have hle := Lib.decodeL_le _ hne
      have hw := Lib.decodeL_width (s.data.toList.drop i)
      have HPT := zh (wO (x := bn s i) (by omega) Wa)
      have hrr := GN s i
      obtain ⟨x, hx⟩ : ∃ x, x = bn s i := ⟨_, rfl⟩
      rw [← hx] at hpd HPT hrr hz ⊢
      obtain ⟨c, hc⟩ : ∃ c, c = (puS x).1 := ⟨_, rfl⟩
      obtain ⟨n, hn⟩ : ∃ n, n = (puS x).2 := ⟨_, rfl⟩
      rw [← hc, ← hn] at HPT
      have hxI : (0 : Int) < x.size := by omega
      have hxU : (x.size : Int) ≤ 1000000 := by omega
      by_cases hd : (Lib.decodeL (s.data.toList.drop i)).1 = 65533 ∧ (Lib.decodeL (s.data.toList.drop i)).2 = 1
      · rw [if_pos hd] at hpd hvs
        rw [hpd] at hc hn
        subst hc hn
        have HRF := zh (show r = false by rw [← HV.out, hvs])
        clear hpd hvs hle hw hrr hx hd hne hl hil
        go_wp2_with (go_at_call 78; (refine HPT.out.mono ?_; rintro e2 w2 ⟨rfl, rfl⟩))
        exact bodyPost_ret (v := .bool false) (by simp [results, Tryz.results59, go_sem]) rfl ⟨by rw [HRF.out], rfl⟩
      · rw [if_neg hd] at hpd hvs
        have hn2 : n = (Lib.decodeL (s.data.toList.drop i)).2 := by rw [hn, hpd]
        rw [← hn2] at hvs hle hw
        have hnx : n ≤ x.size := by omega
        have hrx := hrr n (by omega)
        have hv2 : Lib.validD (s.data.toList.drop (i + n)) = r := by rw [← HV.out, hvs, List.drop_drop]
        have hn0 : ((n : Int) == 0) = false := by rw [beq_eq_false_iff_ne]; omega
        have hnI : (n : Int) ≤ x.size := by omega
        have hnp : 0 < n := by omega
        have HV2 := zh hv2
        have HRX := zh hrx
        have hin : i + n ≤ s.size := by omega
        clear hpd hvs hle hrr hx hd hne hl hn hc hn2 hrx hv2
        go_wp2_with (go_at_call 78; (refine HPT.out.mono ?_; rintro e2 w2 ⟨rfl, rfl⟩))
        go_roundw
        case rel => exact ⟨i + n, hin, by rw [← HRX.out, hz], trivial, HV2.out⟩
        case measure =>
          show (x.extract n (s.size - i)).size < x.size
          rw [← hz, HRX.out, dJ s _ hin]
          omega
variable {cs:List Value} {G L:Nat} {N:Nat→Prop} {t:Nd} {o:Option (List Wy.Way)} {w w' w3:World}
theorem Rwl.base {e:Ending} (h:Rwl G L o w3 e w') (hb:Below w.heap.size w w3):Rwl G L o w e w':=by
 obtain⟨h1,h2⟩:=h;refine⟨hb.trans (h1.mono hb.size),?_⟩;cases o with
 |none=>exact h2
 |some l=>
  obtain⟨v,cs,e1,h3,h4⟩:=h2;exact⟨v,cs,e1,bY h3 hb.size,h4⟩
theorem D8 (h:ai N w t cs) (hr:right t=true) (hno:nodes t≤1000000):
  Calls Tryz.prog 58 #[.agg cs.toArray] w fun e w'=>e= .returned (.bool true)∧Below w.heap.size w w':=by
 obtain⟨k,lo,hi,lz,o1,o2,n1,c1,n2,c2,rfl⟩:=iP h;have hr2:=hr;simp only[Wy.right,mM,Bool.and_eq_true,decide_eq_true_eq] at hr2;obtain⟨⟨⟨hsh,hfi⟩,hgr⟩,hde⟩:=hr2;have hop:(opened t:Int)≤30:=by rw[←jS];exact hgr
 have hnd:∀w',Below w.heap.size w w'→ai N w' t [.int .u8 k,.slice o1 n1 c1,.int .i64 lo,.int .i64 hi,.bool lz,.slice o2 n2 c2]:=fun w' hb=>ai.go (M:=N) (zK hb) (fun _ _ h=>⟨id,h⟩) h
 have HS:=zh (fun w' hb=>EZ t N w' _ (hnd w' hb) hsh);have HF:=zh (fun w' hb=>zF t N w' _ (hnd w' hb) hsh hfi);have HO:=zh (fun w' hb=>oG t N w' _ (hnd w' hb) hno);have HL:=zh (fun w' hb=>zH t N w' _ (hnd w' hb) hno);have hb0:Below w.heap.size w (w.alloc (.cells #[.int .u8 k,.slice o1 n1 c1,.int .i64 lo,.int .i64 hi,.bool lz,.slice o2 n2 c2] 70)):=zR.alloc zL _;have HBX:=zh (Blk.new w #[.int .u8 k,.slice o1 n1 c1,.int .i64 lo,.int .i64 hi,.bool lz,.slice o2 n2 c2] 70);have hcw:∀w',Below (w.heap.size+1) (w.alloc (.cells #[.int .u8 k,.slice o1 n1 c1,.int .i64 lo,.int .i64 hi,.bool lz,.slice o2 n2 c2] 70)) w'→Blk w' w.heap.size #[.int .u8 k,.slice o1 n1 c1,.int .i64 lo,.int .i64 hi,.bool lz,.slice o2 n2 c2] 70:=fun w' hb=>(Blk.new w _ _).below hb (by omega)
 have HCW:=zh hcw;obtain⟨d,hd⟩:∃d,d=(Wy.look t).depth:=⟨_,rfl⟩;rw[←hd] at hde HL;clear h hr hno hsh hfi hgr hnd hcw hd;go_enter Tryz.func58,Tryz.ntmps58
 go_wp2_with (first
  |(go_at_call 77;(refine(HS.out _ hb0).mono ?_;rintro e2 w2 ⟨rfl,hb2⟩;have HB2:=zh (show Below (w.heap.size+1) _ w2 from by simpa using hb2);have hbx:=HCW.out _ HB2.out;have c0:=hbx.cell 0;have c1':=hbx.cell 1;have c2':=hbx.cell 2;have c3:=hbx.cell 3;have c4:=hbx.cell 4;have c5:=hbx.cell 5;have cz:=hbx.lt;have HW2:=zh (hb0.trans (HB2.out.mono (by omega)));clear hb2 hbx))
  |(go_at_call 63;(refine(HF.out _ HW2.out).mono ?_;rintro e3 w3 ⟨rfl,hb3⟩;have HB3:=zh (HB2.out.trans (hb3.mono (by have:=HB2.out.size;simpa using this)));have hbx:=HCW.out _ HB3.out;have d0:=hbx.cell 0;have d1':=hbx.cell 1;have d2':=hbx.cell 2;have d3:=hbx.cell 3;have d4:=hbx.cell 4;have d5:=hbx.cell 5;have dz:=hbx.lt;have HW3:=zh (hb0.trans (HB3.out.mono (by omega)));clear hb3 hbx))
  |(go_at_call 61;(refine(HO.out _ HW3.out).mono ?_;rintro e4 w4 ⟨rfl,hb4⟩;have HB4:=zh (HB3.out.trans (hb4.mono (by have:=HB3.out.size;simpa using this)));have hbx:=HCW.out _ HB4.out;have f0:=hbx.cell 0;have f1':=hbx.cell 1;have f2':=hbx.cell 2;have f3:=hbx.cell 3;have f4:=hbx.cell 4;have f5:=hbx.cell 5;have fz:=hbx.lt;have HW4:=zh (hb0.trans (HB4.out.mono (by omega)));clear hb4 hbx))
  |(go_at_call 64;(refine(HL.out _ HW4.out).mono ?_;rintro e5 w5 ⟨rfl,hb5⟩;have HW5:=zh (HW4.out.trans (hb5.mono HW4.out.size));clear hb5)))
 exact bodyPost_ret (v:= .bool true) (by simp[results,Tryz.results58,go_sem]) rfl ⟨rfl,HW5.out⟩
def aU (s:ByteArray) (t:Nd):List Wy.Way×Int:=
 if 32<s.size then([],3) else if Lib.validD s.data.toList=false then([],80) else match Wy.ways (aN s) t with
  |none=>([],5)
  |some l=>(l,0)
def TR (s:ByteArray) (t:Nd) (w:World) (e:Ending) (w':World):Prop:=Below w.heap.size w w'∧∃v cs,e= .returned (.tuple #[v,.int .i64 (aU s t).2])∧w'.ownsRow w.heap.size 79 2 v (aU s t).1.length cs∧aH (TB 129 w') w' (opened t) s.size (aU s t).1 cs
def raW (t:Nd) (G L:Nat) (o:Option (List Wy.Way)) (w2:World):List Value→World→Prop
 |[]=>fun w'=>w'=w2.drew
 |[v]=>fun w'=>v= .int .i64 (opened t:Nat)∧Below w2.heap.size w2 w'
 |[_,v]=>fun w'=>Rwl G L o w2 (.returned v) w'
 |_=>fun _=>False
theorem nM (h:ai N w t cs) (hr:right t=true) (hno:nodes t≤1000000) (hss:s.size≤1000000):
  Calls Tryz.prog 27 #[.agg cs.toArray,.string s] w (TR s t w):=by
 obtain⟨k,lo,hi,lz,o1,o2,n1,c1,n2,c2,rfl⟩:=iP h;have hsI:(s.size:Int)≤1000000:=(by omega);have hop:opened t≤30:=iC hr;have hopI:(opened t:Int)≤30:=(by omega);have hnd:∀w',Below w.heap.size w w'→ai N w' t [.int .u8 k,.slice o1 n1 c1,.int .i64 lo,.int .i64 hi,.bool lz,.slice o2 n2 c2]:=fun w' hb=>ai.go (M:=N) (zK hb) (fun _ _ h=>⟨id,h⟩) h
 have hb0:Below w.heap.size w (w.alloc (.cells #[.int .u8 k,.slice o1 n1 c1,.int .i64 lo,.int .i64 hi,.bool lz,.slice o2 n2 c2] 70)):=zR.alloc zL _;have HRT:=zh (D8 (hnd _ hb0) hr hno);have HVL:=zh (fun w'=>D7 hss w');have HO:=zh (fun w' hb=>oG t N w' _ (hnd w' hb) hno);have hcw:∀w',Below (w.heap.size+1) (w.alloc (.cells #[.int .u8 k,.slice o1 n1 c1,.int .i64 lo,.int .i64 hi,.bool lz,.slice o2 n2 c2] 70)) w'→Blk w' w.heap.size #[.int .u8 k,.slice o1 n1 c1,.int .i64 lo,.int .i64 hi,.bool lz,.slice o2 n2 c2] 70:=fun w' hb=>(Blk.new w _ _).below hb (by omega)
 have HCW:=zh hcw;have c0:=(Blk.new w #[.int .u8 k,.slice o1 n1 c1,.int .i64 lo,.int .i64 hi,.bool lz,.slice o2 n2 c2] 70).cell 0;have HFT:=zh (rV hr);have HND:=zh hnd;have HNO:=zh hno;clear h hr hcw hnd c0;by_cases h1:32<s.size
 ·have h1I:(32:Int)<s.size:=(by omega);have e:aU s t=([],3):=by unfold aU;rw[if_pos h1]
  have HE:=zh e;clear e;go_enter Tryz.func27,Tryz.ntmps27
  go_wp2_with (first|(go_at_call 58;(refine HRT.out.mono ?_;rintro e2 w2 ⟨rfl,hb2⟩;have HW2:=zh (show Below (w.heap.size+1) _ w2 from by simpa using hb2);have HB2:=zh (hb0.trans (HW2.out.mono (by omega)));clear hb2)))
  exact bodyPost_ret (v:= .tuple #[.slice none 0 0,.int .i64 3]) (by simp[results,Tryz.results27,go_sem]) rfl ⟨HB2.out,.slice none 0 0,[],by rw[HE.out],by rw[HE.out];exact zN,by rw[HE.out];rfl⟩
 have h1I:decide ((32:Int)<s.size)=false:=decide_eq_false (by omega);cases hv:Lib.validD s.data.toList with
 |false=>
  have e:aU s t=([],80):=by unfold aU;rw[if_neg h1,if_pos hv]
  have HE:=zh e;rw[hv] at HVL;clear e hv;go_enter Tryz.func27,Tryz.ntmps27
  go_wp2_with (first|(go_at_call 58;(refine HRT.out.mono ?_;rintro e2 w2 ⟨rfl,hb2⟩;have HW2:=zh (show Below (w.heap.size+1) _ w2 from by simpa using hb2);have HB2:=zh (hb0.trans (HW2.out.mono (by omega)));clear hb2))|(go_at_call 59;(refine(HVL.out _).mono ?_;rintro e3 w3 ⟨rfl,rfl⟩)))
  exact bodyPost_ret (v:= .tuple #[.slice none 0 0,.int .i64 80]) (by simp[results,Tryz.results27,go_sem]) rfl ⟨HB2.out,.slice none 0 0,[],by rw[HE.out],by rw[HE.out];exact zN,by rw[HE.out];rfl⟩
 |true=>
  have hbn:Bnd s 0:=⟨Nat.zero_le _,by rw[List.drop_zero];exact hv⟩;have hwy:∀w',Below w.heap.size w w'→Calls Tryz.prog 60 #[.agg #[.int .u8 k,.slice o1 n1 c1,.int .i64 lo,.int .i64 hi,.bool lz,.slice o2 n2 c2],.string s,.int .i64 0,.int .i64 0,.int .i64 (opened t:Nat)] w' (Rwl (opened t) s.size (Wy.ways (aN s) t) w'):=fun w' hb=>
   yx (s:=s) (G:=opened t) (by omega) (by omega) t HFT.out HNO.out N w' _ 0 0 (HND.out w' hb) (by omega) hbn
  have HWY:=zh hwy;have hE:aU s t=match Wy.ways (aN s) t with
   |none=>([],5)
   |some l=>(l,0):=by unfold aU;rw[if_neg h1,if_neg (by rw[hv];simp)]
  rw[hv] at HVL;clear hv hwy hbn;cases ho:Wy.ways (aN s) t with
  |none=>
   rw[ho] at hE;have HE:=zh (show aU s t=([],5) from hE);clear hE;go_enter Tryz.func27,Tryz.ntmps27
   go_wp2_with (first|(go_at_call 58;(refine HRT.out.mono ?_;rintro e2 w2 ⟨rfl,hb2⟩;have HW2:=zh (show Below (w.heap.size+1) _ w2 from by simpa using hb2);have HB2:=zh (hb0.trans (HW2.out.mono (by omega)));clear hb2))|(go_at_call 59;(refine(HVL.out _).mono ?_;rintro e3 w3 ⟨rfl,rfl⟩)))
   apply aJ ?hm ?hok [0,1,2,3,4,5,6,7,8,9] [3,4] [5,6,7,8,9] ?hord (fun w'=>Below w3.heap.size w3 w') (raW t (opened t) s.size none w3)
   case hm=>rfl
   case hok=>kernel_rfl
   case hord=>kernel_rfl
   case hb=>
    intro L' w' h hl
    match L' with
    |[]=>rw[h];exact zR.drew
    |[v]=>exact h.2
    |_::_::_=>simp at hl;omega
   case hw=>rfl
   apply ae (.agg #[.int .u8 k,.slice o1 n1 c1,.int .i64 lo,.int .i64 hi,.bool lz,.slice o2 n2 c2]) rfl rfl rfl rfl
   case h=>
    intro W1 hW K hK;have hbx:=HCW.out _ (HW2.out.trans (hW.mono (by have:=HW2.out.size;simpa using this)));obtain⟨q0,q1,q2,q3,q4,q5,qz⟩:=zS hbx;clear hbx
    go_wp2_with fail
    exact hK
   simp only[zP,zQ,zB,zC];apply ae (.string s) rfl rfl rfl rfl
   case h=>
    intro W1 hW K hK
    go_wp2_with fail
    exact hK
   simp only[zP,zQ,zB,zC];apply ae (.agg #[.int .u8 k,.slice o1 n1 c1,.int .i64 lo,.int .i64 hi,.bool lz,.slice o2 n2 c2]) rfl rfl rfl rfl
   case h=>
    intro W1 hW K hK;have hbx:=HCW.out _ (HW2.out.trans (hW.mono (by have:=HW2.out.size;simpa using this)));obtain⟨q0,q1,q2,q3,q4,q5,qz⟩:=zS hbx;clear hbx
    go_wp2_with fail
    exact hK
   simp only[zP,zQ,zB,zC];apply ax rfl rfl rfl
   case h=>
    intro W1 hW K hK;obtain rfl:W1=w3.drew:=hW
    go_wp2_with (go_at_call 61;(refine(HO.out _ (HB2.out.trans ((Below.refl w3.heap.size w3).drew.mono HB2.out.size))).mono ?_;rintro e4 w4 ⟨rfl,hb4⟩))
    exact⟨rfl,(Below.refl w3.heap.size w3).drew.trans hb4⟩
   intro v hv;obtain⟨_,rfl,-⟩:=hv;simp only[zP,zQ,zB,zC];apply ax rfl rfl rfl
   case h=>
    intro W1 hW K hK;obtain⟨-,hbW⟩:=hW;have D9:=HWY.out W1 (HB2.out.trans (hbW.mono HB2.out.size));rw[ho] at D9;have QM:=zh D9;have HBW:=zh hbW;clear D9 hbW
    go_wp2_with (go_at_call 60;(refine QM.out.mono ?_;rintro e5 w5 hw5;obtain⟨v,rfl⟩:=hw5.pair))
    exact hw5.base HBW.out
   intro v hv;obtain⟨_,-,hv⟩:=hv;obtain rfl:=Ending.returned.inj hv;simp only[zP,zQ,zB,zC];apply ag (.tuple #[.slice none 0 0,.bool false]) rfl rfl rfl rfl
   case h=>
    intro W1 hW K hK
    go_wp2_with fail
    exact hK
   simp only[zP,zQ,zB,zC];apply ag (.slice none 0 0) rfl rfl rfl rfl
   case h=>
    intro W1 hW K hK
    go_wp2_with fail
    exact hK
   simp only[zP,zQ,zB,zC];apply ag (.bool false) rfl rfl rfl rfl
   case h=>
    intro W1 hW K hK
    go_wp2_with fail
    exact hK
   simp only[zP,zQ,zB,zC];apply ag (.slice none 0 0) rfl rfl rfl rfl
   case h=>
    intro W1 hW K hK
    go_wp2_with fail
    exact hK
   simp only[zP,zQ,zB,zC];apply ag (.bool false) rfl rfl rfl rfl
   case h=>
    intro W1 hW K hK
    go_wp2_with fail
    exact hK
   simp only[zP,zQ,zB,zC];refine aG fun W7 h7=> ?_
   have H7:=zh h7.1;clear h7
   go_wp2_with fail
   exact bodyPost_ret (v:= .tuple #[.slice none 0 0,.int .i64 5]) (by simp[results,Tryz.results27,go_sem]) rfl ⟨HB2.out.trans (H7.out.mono HB2.out.size),.slice none 0 0,[],by rw[HE.out],by rw[HE.out];exact zN,by rw[HE.out];rfl⟩
  |some l=>
   rw[ho] at hE;have HE:=zh (show aU s t=(l,0) from hE);have hll:(l.length:Int)≤500:=by have:=fV ho;omega
   clear hE;go_enter Tryz.func27,Tryz.ntmps27
   go_wp2_with (first|(go_at_call 58;(refine HRT.out.mono ?_;rintro e2 w2 ⟨rfl,hb2⟩;have HW2:=zh (show Below (w.heap.size+1) _ w2 from by simpa using hb2);have HB2:=zh (hb0.trans (HW2.out.mono (by omega)));clear hb2))|(go_at_call 59;(refine(HVL.out _).mono ?_;rintro e3 w3 ⟨rfl,rfl⟩)))
   apply aJ ?hm ?hok [0,1,2,3,4,5,6,7,8,9] [3,4] [5,6,7,8,9] ?hord (fun w'=>Below w3.heap.size w3 w') (raW t (opened t) s.size (some l) w3)
   case hm=>rfl
   case hok=>kernel_rfl
   case hord=>kernel_rfl
   case hb=>
    intro L' w' h hl
    match L' with
    |[]=>rw[h];exact zR.drew
    |[v]=>exact h.2
    |_::_::_=>simp at hl;omega
   case hw=>rfl
   apply ae (.agg #[.int .u8 k,.slice o1 n1 c1,.int .i64 lo,.int .i64 hi,.bool lz,.slice o2 n2 c2]) rfl rfl rfl rfl
   case h=>
    intro W1 hW K hK;have hbx:=HCW.out _ (HW2.out.trans (hW.mono (by have:=HW2.out.size;simpa using this)));obtain⟨q0,q1,q2,q3,q4,q5,qz⟩:=zS hbx;clear hbx
    go_wp2_with fail
    exact hK
   simp only[zP,zQ,zB,zC];apply ae (.string s) rfl rfl rfl rfl
   case h=>
    intro W1 hW K hK
    go_wp2_with fail
    exact hK
   simp only[zP,zQ,zB,zC];apply ae (.agg #[.int .u8 k,.slice o1 n1 c1,.int .i64 lo,.int .i64 hi,.bool lz,.slice o2 n2 c2]) rfl rfl rfl rfl
   case h=>
    intro W1 hW K hK;have hbx:=HCW.out _ (HW2.out.trans (hW.mono (by have:=HW2.out.size;simpa using this)));obtain⟨q0,q1,q2,q3,q4,q5,qz⟩:=zS hbx;clear hbx
    go_wp2_with fail
    exact hK
   simp only[zP,zQ,zB,zC];apply ax rfl rfl rfl
   case h=>
    intro W1 hW K hK;obtain rfl:W1=w3.drew:=hW
    go_wp2_with (go_at_call 61;(refine(HO.out _ (HB2.out.trans ((Below.refl w3.heap.size w3).drew.mono HB2.out.size))).mono ?_;rintro e4 w4 ⟨rfl,hb4⟩))
    exact⟨rfl,(Below.refl w3.heap.size w3).drew.trans hb4⟩
   intro v hv;obtain⟨_,rfl,-⟩:=hv;simp only[zP,zQ,zB,zC];apply ax rfl rfl rfl
   case h=>
    intro W1 hW K hK;obtain⟨-,hbW⟩:=hW;have D9:=HWY.out W1 (HB2.out.trans (hbW.mono HB2.out.size));rw[ho] at D9;have QM:=zh D9;have HBW:=zh hbW;clear D9 hbW
    go_wp2_with (go_at_call 60;(refine QM.out.mono ?_;rintro e5 w5 hw5;obtain⟨v,rfl⟩:=hw5.pair))
    exact hw5.base HBW.out
   intro v hv;obtain⟨_,-,v',cs',hv,hown',-⟩:=hv;obtain rfl:=Ending.returned.inj hv;obtain⟨om,cm,rfl⟩:=ay hown';clear hown';simp only[zP,zQ,zB,zC];apply ag (.tuple #[.slice om l.length cm,.bool true]) rfl rfl rfl rfl
   case h=>
    intro W1 hW K hK
    go_wp2_with fail
    exact hK
   simp only[zP,zQ,zB,zC];apply ag (.slice om l.length cm) rfl rfl rfl rfl
   case h=>
    intro W1 hW K hK
    go_wp2_with fail
    exact hK
   simp only[zP,zQ,zB,zC];apply ag (.bool true) rfl rfl rfl rfl
   case h=>
    intro W1 hW K hK
    go_wp2_with fail
    exact hK
   simp only[zP,zQ,zB,zC];apply ag (.slice om l.length cm) rfl rfl rfl rfl
   case h=>
    intro W1 hW K hK
    go_wp2_with fail
    exact hK
   simp only[zP,zQ,zB,zC];apply ag (.bool true) rfl rfl rfl rfl
   case h=>
    intro W1 hW K hK
    go_wp2_with fail
    exact hK
   simp only[zP,zQ,zB,zC];refine aG fun W7 h7=> ?_
   obtain⟨hb7,v'',cs7,e7,bQ,xk⟩:=h7;simp only[Ending.returned.injEq,Value.tuple.injEq,Array.mk.injEq,List.cons.injEq,and_true] at e7;subst e7;have H7:=zh (And.intro hb7 (And.intro bQ xk));clear hb7 bQ xk
   go_wp2_with fail
   obtain⟨hb7,bQ,xk⟩:=H7.out;exact bodyPost_ret (v:= .tuple #[.slice om l.length cm,.int .i64 0]) (by simp[results,Tryz.results27,go_sem]) rfl ⟨HB2.out.trans (hb7.mono HB2.out.size),.slice om l.length cm,cs7,by rw[HE.out],by rw[HE.out];exact bY bQ HB2.out.size,by rw[HE.out];exact xk⟩
variable {cs2:List Value} {base cv:Nat} {w2:World} {x:Wy.Way}
theorem sO:((aU s t).1=[]∧(aU s t).2≠0)∨(aU s t).2=0:=by
 unfold aU;split
 ·exact .inl ⟨rfl,by simp⟩
 split
 ·exact .inl ⟨rfl,by simp⟩
 split
 ·exact .inl ⟨rfl,by simp⟩
 ·exact .inr rfl
theorem iF:(aU s t).1.length≤500∧0≤(aU s t).2∧(aU s t).2≤80:=by
 unfold aU;split
 ·simp
 split
 ·simp
 split
 ·simp
 ·rename_i l h;exact⟨fV h,by simp,by simp⟩
def Oa (s:ByteArray) (t:Nd) (w:World) (e:Ending) (w':World):Prop:=Below w.heap.size w w'∧match (aU s t).1 with
 |[]=>e= .returned (.tuple #[.agg #[.int .i64 0,.slice none 0 0],.bool false,.int .i64 (aU s t).2])
 |x::_=>∃sv,e= .returned (.tuple #[.agg #[.int .i64 (x.stop:Nat),sv],.bool true,.int .i64 0])∧aC (TB 129 w') w' sv x.spans
theorem KN {ov:Option Addr} {r:List Wy.Way} (h:w2.ownsRow base 79 2 (.slice ov (x::r).length cv) (x::r).length cs2) (hw:aH (TB 129 w2) w2 G L (x::r) cs2):
  ∃mb mo:Nat,ov=some ⟨mb,mo,none⟩∧r.length+1≤cv∧mb<w2.heap.size∧∃(so:Option Addr) (sn sc:Nat),w2.cell? ⟨mb,mo,none⟩=some (.int .i64 x.stop)∧w2.cell? ⟨mb,mo+1,none⟩=some (.slice so sn sc)∧aC (TB 129 w2) w2 (.slice so sn sc) x.spans:=by
 have hm:nJ w2 G L (.slice ov (x::r).length cv) (x::r):=⟨cs2,Row.iR h,hw⟩;obtain⟨mb,mo,mc,em,hmc,-,hmz,oN⟩:=hm.cells (by simp);simp only[Value.slice.injEq,true_and] at em;obtain⟨rfl,rfl⟩:=em;obtain⟨sv,m0,m1,hsv,-,-⟩:=oN 0 (by simp);obtain⟨so,sc,rfl⟩:=hsv.row.slice;exact⟨mb,mo,rfl,by simpa using hmc,hmz,so,_,sc,by simpa using m0,by simpa using m1,hsv⟩
theorem Ea (h:ai N w t cs) (hr:right t=true) (hno:nodes t≤1000000) (hss:s.size≤1000000):
  Calls Tryz.prog 29 #[.agg cs.toArray,.string s] w (Oa s t w):=by
 obtain⟨k,lo,hi,lz,o1,o2,n1,c1,n2,c2,rfl⟩:=iP h;have hb1:Below w.heap.size w ((w.alloc (.cells #[.int .u8 k,.slice o1 n1 c1,.int .i64 lo,.int .i64 hi,.bool lz,.slice o2 n2 c2] 70)).alloc (.cells #[.int .i64 0,.slice none 0 0] 79)):=(zR.alloc zL _).alloc (by simp) _;have hall:=nM (ai.go (M:=N) (zK hb1) (fun _ _ h=>⟨id,h⟩) h) hr hno hss;have hB1:Blk ((w.alloc (.cells #[.int .u8 k,.slice o1 n1 c1,.int .i64 lo,.int .i64 hi,.bool lz,.slice o2 n2 c2] 70)).alloc (.cells #[.int .i64 0,.slice none 0 0] 79)) (w.heap.size+1) #[.int .i64 0,.slice none 0 0] 79:=Blk.new' _ _ (by simp);have fQ:=zh hall;have HB1:=zh hB1;obtain⟨l,hl⟩:∃l,l=(aU s t).1:=⟨_,rfl⟩;obtain⟨c,hc⟩:∃c,c=(aU s t).2:=⟨_,rfl⟩;have hlen:=(iF (s:=s) (t:=t)).1;have hcode:=sO (s:=s) (t:=t);have hcr:=(iF (s:=s) (t:=t)).2;rw[←hl] at hlen hcode;rw[←hc] at hcode hcr;have HL:=zh hl;have HC:=zh hc;obtain⟨hc0,hc1⟩:=hcr;clear h hr hno hall hB1 hl hc;have hfin:∀w',Below (w.heap.size+2) ((w.alloc (.cells #[.int .u8 k,.slice o1 n1 c1,.int .i64 lo,.int .i64 hi,.bool lz,.slice o2 n2 c2] 70)).alloc (.cells #[.int .i64 0,.slice none 0 0] 79)) w'→Blk w' (w.heap.size+1) #[.int .i64 0,.slice none 0 0] 79∧Below w.heap.size w w':=fun w' hb=>⟨HB1.out.below hb (by omega),hb1.trans (hb.mono (by omega))⟩
 have bW:=zh hfin;clear hfin;have hcase:(l=[]∧(c == 0)=false)∨(l=[]∧c=0)∨(∃x r,l=x::r∧c=0):=by
  rcases hcode with⟨h1,h2⟩|h1
  ·exact .inl ⟨h1,by simpa using h2⟩
  ·cases l with
   |nil=>exact .inr (.inl ⟨rfl,h1⟩)
   |cons x r=>exact .inr (.inr ⟨x,r,rfl,h1⟩)
 rcases hcase with⟨rfl,hc2⟩|⟨rfl,rfl⟩|⟨x,r,rfl,rfl⟩
 ·have hc3:(c !=0)=true:=by simpa using hc2
  go_enter Tryz.func29,Tryz.ntmps29
  go_wp2_with (first|(go_at_call 27;(refine fQ.out.mono ?_;rintro e2 w2 ⟨hb2,v,cs2,rfl,hown2,hws2⟩;obtain⟨ov,cv,rfl⟩:=ay hown2;rw[←HL.out,←HC.out];have H2:=zh (bW.out w2 (by simpa using hb2));have d0:=H2.out.1.cell 0;have d1:=H2.out.1.cell 1;have dz:=H2.out.1.lt;have df:=H2.out.1.frozen;clear hb2 hown2 hws2)))
  have D:=(H2.out.1.set 0 (.int .i64 0)).set 1 (.slice none 0 0);have d0:=D.cell 0;have d1:=D.cell 1;exact bodyPost_ret (v:= .tuple #[.agg #[.int .i64 0,.slice none 0 0],.bool false,.int .i64 c]) (by simp[results,Tryz.results29,go_sem,d0,d1]) rfl (by
   unfold Oa;rw[←HL.out,←HC.out];exact⟨(H2.out.2.setCell (show w.heap.size≤w.heap.size+1 by omega) _).setCell (show w.heap.size≤w.heap.size+1 by omega) _,rfl⟩)
 ·go_enter Tryz.func29,Tryz.ntmps29
  go_wp2_with (first|(go_at_call 27;(refine fQ.out.mono ?_;rintro e2 w2 ⟨hb2,v,cs2,rfl,hown2,hws2⟩;obtain⟨ov,cv,rfl⟩:=ay hown2;rw[←HL.out,←HC.out];have H2:=zh (bW.out w2 (by simpa using hb2));have d0:=H2.out.1.cell 0;have d1:=H2.out.1.cell 1;have dz:=H2.out.1.lt;have df:=H2.out.1.frozen;clear hb2 hown2 hws2)))
  have D:=(H2.out.1.set 0 (.int .i64 0)).set 1 (.slice none 0 0);have d0:=D.cell 0;have d1:=D.cell 1;exact bodyPost_ret (v:= .tuple #[.agg #[.int .i64 0,.slice none 0 0],.bool false,.int .i64 0]) (by simp[results,Tryz.results29,go_sem,d0,d1]) rfl (by
   unfold Oa;rw[←HL.out,←HC.out];exact⟨(H2.out.2.setCell (show w.heap.size≤w.heap.size+1 by omega) _).setCell (show w.heap.size≤w.heap.size+1 by omega) _,rfl⟩)
 ·have hrl:(r.length:Int)≤500:=by simp at hlen;omega
  have hrz:((r.length:Int)+1 == 0)=false:=by rw[beq_eq_false_iff_ne];omega
  go_enter Tryz.func29,Tryz.ntmps29
  go_wp2_with (first|(go_at_call 27;(refine fQ.out.mono ?_;rintro e2 w2 ⟨hb2,v,cs2,rfl,hown2,hws2⟩;obtain⟨ov,cv,rfl⟩:=ay hown2;rw[←HL.out] at hown2 hws2;rw[←HL.out,←HC.out];obtain⟨mb,mo,rfl,hmc,hmz,so,sn,sc,m0,m1,hsv⟩:=KN hown2 hws2;have HSV:=zh hsv;clear hsv;have H2:=zh (bW.out w2 (by simpa using hb2));have d0:=H2.out.1.cell 0;have d1:=H2.out.1.cell 1;have dz:=H2.out.1.lt;have df:=H2.out.1.frozen;clear hb2 hown2 hws2)))
  have D:=(H2.out.1.set 0 (.int .i64 x.stop)).set 1 (.slice so sn sc);have d0:=D.cell 0;have d1:=D.cell 1;exact bodyPost_ret (v:= .tuple #[.agg #[.int .i64 x.stop,.slice so sn sc],.bool true,.int .i64 0]) (by simp[results,Tryz.results29,go_sem,d0,d1]) rfl (by
   unfold Oa;rw[←HL.out];refine⟨(H2.out.2.setCell (show w.heap.size≤w.heap.size+1 by omega) _).setCell (show w.heap.size≤w.heap.size+1 by omega) _,_,rfl,?_⟩;exact HSV.out.typ (((Kept.refl (fun b=>b=w.heap.size+1) w2).setCell (p:=⟨w.heap.size+1,0,none⟩) (fun _=>rfl) _).setCell (p:=⟨w.heap.size+1,1,none⟩) (fun _=>rfl) _) (EK H2.out.1 (by decide)))
variable {Q:Exit→Act→World→Prop} {l:List Wy.Way} {co p:Nat} {oo:Option Addr} {W:World}
noncomputable def enC (p:List Nat):Code:=gU (way p) (Tryz.f32.body.getD .skip)
theorem Ag {l:List Value} (h:l.length=42):∃e:Nat→Value,l=[e 0,e 1,e 2,e 3,e 4,e 5,e 6,e 7,e 8,e 9,e 10,e 11,e 12,e 13,e 14,e 15,e 16,e 17,e 18,e 19,e 20,e 21,e 22,e 23,e 24,e 25,e 26,e 27,e 28,e 29,e 30,e 31,e 32,e 33,e 34,e 35,e 36,e 37,e 38,e 39,e 40,e 41]:=by
 refine⟨fun k=>l.getD k undef,?_⟩;have h2:l=(List.range 42).map fun k=>l.getD k undef:=by
  apply List.ext_getElem
  ·simp[h]
  ·intro i h1 h2;simp[List.getD_eq_getElem?_getD,h1]
 exact h2
def GR (w2:World) (L:List Nat) (v:Value) (w:World):Prop:=Below w2.heap.size w2 w∧w.ownsRow w2.heap.size 3 1 v L.length (cO L)
theorem TS {ov:Option Addr} {out:List Nat} (e:Nat→Value) (hl:l.length≤500) (ho:out.length≤1000000) (hp:p≤1000000)
  (hM:nJ w2 G L (.slice ov l.length cv) l) (hE:GR w2 out (.slice oo out.length co) W)
  (hQ:∀(m:List Value) (w':World) (o':Option Addr) (c':Nat),m.length=42→(m[1]? =some (e 1)∧m[6]? =some (.slice ov l.length cv)∧m[7]? =some (e 7)∧m[9]? =some (.int .i64 (p:Nat)))→m[8]? =some (.slice o' (out++if l.any (fun x=>decide (x.stop=p)) then[p] else[]).length c')→
   GR w2 (out++if l.any (fun x=>decide (x.stop=p)) then[p] else[]) (.slice o' (out++if l.any (fun x=>decide (x.stop=p)) then[p] else[]).length c') w'→Q (.exit 2) ⟨m.toArray,[]⟩ w'):
  Code.wp Tryz.prog (enC [1,1,1,0,1,0,0,1,0,0,1,0]) Q ⟨#[e 0,e 1,e 2,e 3,e 4,e 5,.slice ov l.length cv,e 7,.slice oo out.length co,.int .i64 (p:Nat),.int .i64 0,e 11,e 12,e 13,e 14,e 15,e 16,e 17,e 18,e 19,e 20,e 21,e 22,e 23,e 24,e 25,e 26,e 27,e 28,e 29,e 30,e 31,e 32,e 33,e 34,e 35,e 36,e 37,e 38,e 39,e 40,e 41],[]⟩ W:=by
 obtain⟨i0,hi0,hz0,hz1,hz2⟩:=info_parts info3;have hlI:(l.length:Int)≤500:=(by omega);have hpI:(p:Int)≤1000000:=(by omega);have HM:=zh hM;have HE:=zh hE;have HQ:=zh hQ;have hWb:=hE.1;clear hM hE hQ;conv=>arg 2;whnf
 go_wp2_with fail
 go_loopw [8,10] (fun s8 s10 wx=>∃i:Nat,i≤l.length∧s10= .int .i64 i∧s8= .slice oo out.length co∧wx=W∧∀j (hj:j<l.length),j<i→l[j].stop≠p) (fun _ s10 _=>l.length-(intOf s10).toNat)
 case atStart=>exact⟨0,by omega,rfl,rfl,rfl,fun j _ h=>by omega⟩
 case round=>
  rename World=>Wa
  obtain⟨i,hi,rfl,rfl,rfl,hno⟩:=hrel;have HNO:=zh hno;clear hno;by_cases hil:¬i<l.length
  ·obtain rfl:i=l.length:=(by omega);have hf:(out++if l.any (fun x=>decide (x.stop=p)) then[p] else[])=out:=by
    have:l.any (fun x=>decide (x.stop=p))=false:=by
     rw[List.any_eq_false];intro x hx;obtain⟨j,hj,rfl⟩:=List.getElem_of_mem hx;have:=HNO.out j hj hj
     simpa using this
    rw[this];simp
   rw[hf] at HQ;have HF:=zh hf;clear hf hil
   go_wp2_with fail
   exact HQ.out _ _ oo co rfl ⟨rfl,rfl,rfl,rfl⟩ rfl HE.out
  ·have hil:i<l.length:=(by omega);have hiI:(i:Int)<l.length:=(by omega);obtain⟨mb,mo,mc,em,hmc,-,hmz,oN⟩:=HM.out.cells (by omega);simp only[Value.slice.injEq,true_and] at em;obtain⟨rfl,rfl⟩:=em;have CV:(l.length:Int)≤cv:=(by omega);obtain⟨sv,m0,-,-,-,-⟩:=oN i hil;have m0:=(zW (hWb.block _ hmz)).trans m0;have mz:mb<Wa.heap.size:=by have:=hWb.size;omega
   obtain⟨st,hst⟩:∃st:Nat,st=l[i].stop:=⟨_,rfl⟩;rw[←hst] at m0;have HST:=zh hst;clear oN hst;by_cases hxs:st=p
   ·have hf:(out++if l.any (fun x=>decide (x.stop=p)) then[p] else[])=out++[p]:=by
     have:l.any (fun x=>decide (x.stop=p))=true:=by
      rw[List.any_eq_true];exact⟨_,List.getElem_mem hil,by rw[←HST.out];simpa using hxs⟩
     rw[this];simp
    rw[hf] at HQ;have hxe:((st:Int) == (p:Int))=true:=by rw[hxs];simp
    have hr2:(Wa.alloc (.cells #[.int .i64 (p:Nat)] 3)).ownsRow w2.heap.size 3 1 (.slice oo out.length co) out.length (cO out):=aB HE.out.2 ((Kept.refl (fun _=>False) Wa).alloc _) (fun _ _=>id);have hbs:w2.heap.size≤(Wa.alloc (.cells #[.int .i64 (p:Nat)] 3)).heap.size:=by have:=hWb.size;simp;omega
    have hsr:dI (Wa.alloc (.cells #[.int .i64 (p:Nat)] 3)) (.slice (some ⟨Wa.heap.size,0,none⟩) 1 1) 1 [.int .i64 (p:Nat)]:=zl rfl;have hmx:out.length+1≤maxLen:=by unfold maxLen;omega
    have hby:(out.length+1)*8≤140737488355328:=(by omega);have hfin:∀(v':Value) w4,(Wa.alloc (.cells #[.int .i64 (p:Nat)] 3)).grownBy w4 (Value.slice oo out.length co).ownBlock→w4.ownsRow w2.heap.size 3 1 v' (out.length+1) (cO out++[.int .i64 (p:Nat)])→GR w2 (out++[p]) v' w4:=fun v' w4 hg ho=>by
     have k4:=Kept.bK hg;refine⟨((Kept.of_below (hWb.alloc hWb.size _) (fun b=>(Value.slice oo out.length co).ownBlock=some b)).trans k4).below (fun q hq e=>by have:=(hr2.lt q e).1;omega),?_⟩;rw[List.length_append];have:cO (out++[p])=cO out++[.int .i64 (p:Nat)]:=by simp[cO]
     rw[this];exact ho
    have HR2:=zh hr2;have HBS:=zh hbs;have HSR:=zh hsr;have bW:=zh hfin;clear hf hxs hr2 hbs hsr hfin
    go_wp2_with (first|(at_builtin;(refine aA rfl _ _ 48 rfl Tryz.underlying48 hi0 hz0 hz1 hz2 rfl (.slice oo out.length co) out.length (cO out) rfl HR2.out _ 1 _ rfl HSR.out rfl (by simp[Value.oneCell']) hmx hby HBS.out ?_;intro v' w4 hown' hgrow h3' h4';obtain⟨o5,c5,rfl⟩:=ay hown';have HG:=zh (bW.out _ w4 hgrow hown');clear hown' hgrow h3' h4')))
    exact HQ.out _ _ o5 c5 rfl ⟨rfl,rfl,rfl,rfl⟩ (by rw[List.length_append];rfl) (by rw[List.length_append];exact HG.out)
   ·have hxe:((st:Int) == (p:Int))=false:=by rw[beq_eq_false_iff_ne];omega
    have HXS:=zh hxs;clear hxs
    go_wp2_with fail
    go_roundw
    case rel=>
     refine⟨i+1,by omega,by go_num,by first|rfl|trivial,by first|rfl|trivial,fun j hj hji=> ?_⟩;by_cases e:j=i
     ·subst e;rw[←HST.out];exact HXS.out
     ·exact HNO.out j hj (by omega)
    case measure=>simp[intOf];omega
theorem QN {ov:Option Addr} {out:List Nat} (m:List Value) (hm:m.length=42) (k6:m[6]? =some (.slice ov l.length cv)) (k8:m[8]? =some (.slice oo out.length co)) (k9:m[9]? =some (.int .i64 (p:Nat))) (k10:m[10]? =some (.int .i64 0)) (hl:l.length≤500) (ho:out.length≤1000000) (hp:p≤1000000)
  (hM:nJ w2 G L (.slice ov l.length cv) l) (hE:GR w2 out (.slice oo out.length co) W)
  (hQ:∀(m':List Value) (w':World) (o':Option Addr) (c':Nat),m'.length=42→(m'[1]? =m[1]? ∧m'[6]? =some (.slice ov l.length cv)∧m'[7]? =m[7]? ∧m'[9]? =some (.int .i64 (p:Nat)))→m'[8]? =some (.slice o' (out++if l.any (fun x=>decide (x.stop=p)) then[p] else[]).length c')→
   GR w2 (out++if l.any (fun x=>decide (x.stop=p)) then[p] else[]) (.slice o' (out++if l.any (fun x=>decide (x.stop=p)) then[p] else[]).length c') w'→Q (.exit 2) ⟨m'.toArray,[]⟩ w'):
  Code.wp Tryz.prog (enC [1,1,1,0,1,0,0,1,0,0,1,0]) Q ⟨m.toArray,[]⟩ W:=by
 obtain⟨e,rfl⟩:=Ag hm;rw[zI k6,zI k8,zI k9,zI k10];exact TS e hl ho hp hM hE hQ
def fF (l:List Wy.Way) (p:Nat):List Nat:=(List.range p).filter fun p=>l.any fun x=>decide (x.stop=p)
theorem Eb (l:List Wy.Way) (p:Nat):fF l (p+1)=fF l p++if l.any (fun x=>decide (x.stop=p)) then[p] else[]:=by
 unfold fF;rw[List.range_succ,List.filter_append];congr 1;cases h:l.any fun x=>decide (x.stop=p)<;>simp[h]
theorem yA (l:List Wy.Way) (p:Nat):(fF l p).length≤p:=by
 unfold fF;have:=List.length_filter_le (fun p=>l.any fun x=>decide (x.stop=p)) (List.range p)
 simpa using this
def TT (s:ByteArray) (t:Nd) (w:World) (e:Ending) (w':World):Prop:=∃v,e= .returned (.tuple #[v,.int .i64 (aU s t).2])∧w'.ownsRow w.heap.size 3 1 v (fF (aU s t).1 (s.size+1)).length (cO (fF (aU s t).1 (s.size+1)))∧Below w.heap.size w w'
def EnO (s:ByteArray) (ov:Option Addr) (cv:Nat) (l:List Wy.Way) (c:Int) (w2:World) (n:Nat) (a:Act) (w:World):Prop:=∃(m:List Value) (p:Nat) (o':Option Addr) (c':Nat),a=⟨m.toArray,[]⟩∧m.length=42∧
 (m[1]? =some (.string s)∧m[6]? =some (.slice ov l.length cv)∧m[7]? =some (.int .i64 c)∧m[9]? =some (.int .i64 (p:Nat)))∧m[8]? =some (.slice o' (fF l p).length c')∧p≤s.size+1∧n=s.size+1-p∧GR w2 (fF l p) (.slice o' (fF l p).length c') w
theorem GU (h:ai N w t cs) (hr:right t=true) (hno:nodes t≤1000000) (hss:s.size≤100000):
  Calls Tryz.prog 32 #[.agg cs.toArray,.string s] w (TT s t w):=by
 obtain⟨k,lo,hi,lz,o1,o2,n1,c1,n2,c2,rfl⟩:=iP h;have hsI:(s.size:Int)≤100000:=(by omega);have hb1:Below w.heap.size w (w.alloc (.cells #[.int .u8 k,.slice o1 n1 c1,.int .i64 lo,.int .i64 hi,.bool lz,.slice o2 n2 c2] 70)):=zR.alloc zL _;have hall:=nM (s:=s) (ai.go (M:=N) (zK hb1) (fun _ _ h=>⟨id,h⟩) h) hr hno (by omega);have fQ:=zh hall;obtain⟨l,hl⟩:∃l,l=(aU s t).1:=⟨_,rfl⟩;obtain⟨c,hc⟩:∃c,c=(aU s t).2:=⟨_,rfl⟩;have hlen:=(iF (s:=s) (t:=t)).1;have hcr:=(iF (s:=s) (t:=t)).2;rw[←hl] at hlen;rw[←hc] at hcr;have hlI:(l.length:Int)≤500:=(by omega);have HL:=zh hl;have HC:=zh hc;obtain⟨hc0,hc1⟩:=hcr;clear h hr hno hall hl hc;go_enter Tryz.func32,Tryz.ntmps32
 go_wp2_with (first|(go_at_call 27;(refine fQ.out.mono ?_;rintro e2 w2 ⟨hb2,v,cs2,rfl,hown2,hws2⟩;rw[←HL.out] at hown2 hws2;obtain⟨ov,cv,rfl⟩:=ay hown2;rw[←HC.out];have H2:=zh (hb1.trans (hb2.mono hb1.size));have HM:=zh (show nJ w2 (opened t) s.size (.slice ov l.length cv) l from⟨cs2,Row.iR hown2,hws2⟩);clear hb2 hown2 hws2)))
 refine wp_loop_ghost (EnO s ov cv l c w2) (s.size+1-0) ?_ (fun n a Wa hI=> ?_)
 ·exact⟨_,0,none,0,rfl,rfl,⟨rfl,rfl,rfl,rfl⟩,rfl,by omega,rfl,zR,zN⟩
 ·obtain⟨m,p,o',c',rfl,hm,⟨g1,g6,g7,g9⟩,g8,hp,rfl,hE⟩:=hI;obtain⟨q0,rfl⟩:=Ag hm;rw[zI g1,zI g6,zI g7,zI g9,zI g8];clear g1 g6 g7 g9 g8 hm;have hol:=yA l p;obtain⟨P,hP⟩:∃P,P=fF l p:=⟨_,rfl⟩;rw[←hP] at hE hol ⊢;have HP:=zh hP;have HE:=zh hE;clear hP hE;by_cases hps:¬p≤s.size
  ·obtain rfl:p=s.size+1:=(by omega);have hpf:decide (((s.size+1:Nat):Int)≤(s.size:Int))=false:=decide_eq_false (by omega);clear hps
   go_wp2_with fail
   exact bodyPost_ret (v:= .tuple #[.slice o' P.length c',.int .i64 c]) (by simp[results,Tryz.results32,go_sem]) rfl (by
    unfold TT;rw[←HL.out,←HC.out,←HP.out];exact⟨_,rfl,bY HE.out.2 H2.out.size,H2.out.trans (HE.out.1.mono H2.out.size)⟩)
  ·have hps:p≤s.size:=(by omega);have hpI:(p:Int)≤s.size:=by omega
   go_wp2_with fail
   rename_i K hK;refine QN _ rfl rfl rfl rfl rfl hlen (by omega) (by omega) HM.out HE.out (fun m w' o5 c5 hm hkp k8 hE'=> ?_);have TU:P++(if l.any (fun x=>decide (x.stop=p)) then[p] else[])=fF l (p+1):=by rw[Eb,HP.out]
   rw[TU] at k8 hE';have HE2:=zh hE';clear hE' TU;refine hK _ _ ?_;obtain⟨q,rfl⟩:=Ag hm;obtain⟨g1,g6,g7,g9⟩:=hkp;rw[zI g1,zI g6,zI g7,zI g9,zI k8];clear g1 g6 g7 g9 k8 hm
   go_wp2_with fail
   exact⟨s.size+1-(p+1),by omega,_,p+1,o5,c5,rfl,rfl,⟨rfl,rfl,rfl,rfl⟩,rfl,by omega,rfl,HE2.out⟩
end Go.Proofs.YtnhjakdmbfadlaaGreatDoor
namespace Go.Proofs.YtnhjakdmbfadlaaGreatDoor
open Wy
theorem wR:∀(a b:List Int),a.Pairwise (· < ·)→b.Pairwise (· < ·)→(∀x,x∈a↔x∈b)→a=b
 |[],[],_,_,_=>rfl
 |[],y::b,_,_,h=>by have:=(h y).2 (by simp);simp at this
 |x::a,[],_,_,h=>by have:=(h x).1 (by simp);simp at this
 |x::a,y::b,ha,hb,h=>by
  rw[List.pairwise_cons] at ha hb;have hxy:x=y:=by
   rcases List.mem_cons.1 ((h x).1 (by simp)) with e|e
   ·exact e
   ·rcases List.mem_cons.1 ((h y).2 (by simp)) with e'|e'
    ·exact e'.symm
    ·have h1:=hb.1 x e;have h2:=ha.1 y e';omega
  subst hxy;congr 1;refine wR a b ha.2 hb.2 fun z=>⟨fun hz=> ?_,fun hz=> ?_⟩
  ·rcases List.mem_cons.1 ((h z).1 (by simp[hz])) with e|e
   ·have:=ha.1 z hz;omega
   ·exact e
  ·rcases List.mem_cons.1 ((h z).2 (by simp[hz])) with e|e
   ·have:=hb.1 z hz;omega
   ·exact e
theorem KO (l:List Wy.Way) (p:Nat):((fF l p).map fun x:Nat=>(x:Int)).Pairwise (· < ·):=by
 rw[List.pairwise_map];unfold fF;refine List.Pairwise.filter _ ?_;refine List.Pairwise.imp ?_ List.pairwise_lt_range;intro a b h;omega
theorem yB (l:List Wy.Way) (p:Nat) (q:Nat):q∈fF l p↔q<p∧∃x∈l,x.stop=q:=by
 unfold fF;rw[List.mem_filter,List.mem_range,List.any_eq_true];simp
theorem GV (l:List Wy.Way) (n:Nat) (h:∀x∈l,x.stop≤n):iH (l.map Way.stop)=(fF l (n+1)).map fun x:Nat=>(x:Int):=by
 refine wR _ _ (J3 _) (KO _ _) fun z=> ?_
 rw[Gy,List.mem_map];constructor
 ·rintro⟨q,hq,rfl⟩;obtain⟨x,hx,rfl⟩:=List.mem_map.1 hq;exact⟨x.stop,(yB _ _ _).2 ⟨by have:=h x hx;omega,x,hx,rfl⟩,rfl⟩
 ·rintro⟨q,hq,rfl⟩;obtain⟨-,x,hx,rfl⟩:=(yB _ _ _).1 hq;exact⟨x.stop,List.mem_map.2 ⟨x,hx,rfl⟩,rfl⟩
end Go.Proofs.YtnhjakdmbfadlaaGreatDoor
namespace Go.Proofs.YtnhjakdmbfadlaaGreatDoor
open Go.RowKit Wy Mem Grow
variable {s:ByteArray} {cs:List Value} {N:Nat→Prop} {t:Nd} {w:World}
def QO (s:ByteArray) (t:Nd) (w:World) (e:Ending) (w':World):Prop:=Below w.heap.size w w'∧match (aU s t).1.find? fun x=>decide (x.stop=s.size) with
 |none=>e= .returned (.tuple #[.slice none 0 0,.bool false,.int .i64 (aU s t).2])
 |some x=>∃sv,e= .returned (.tuple #[sv,.bool true,.int .i64 0])∧aC (TB 129 w') w' sv x.spans
theorem Ec (h:ai N w t cs) (hr:right t=true) (hno:nodes t≤1000000) (hss:s.size≤1000000):
  Calls Tryz.prog 30 #[.agg cs.toArray,.string s] w (QO s t w):=by
 obtain⟨k,lo,hi,lz,o1,o2,n1,c1,n2,c2,rfl⟩:=iP h;have hsI:(s.size:Int)≤1000000:=(by omega);have hb1:Below w.heap.size w (w.alloc (.cells #[.int .u8 k,.slice o1 n1 c1,.int .i64 lo,.int .i64 hi,.bool lz,.slice o2 n2 c2] 70)):=zR.alloc zL _;have hall:=nM (ai.go (M:=N) (zK hb1) (fun _ _ h=>⟨id,h⟩) h) hr hno hss;have fQ:=zh hall;obtain⟨l,hl⟩:∃l,l=(aU s t).1:=⟨_,rfl⟩;obtain⟨c,hc⟩:∃c,c=(aU s t).2:=⟨_,rfl⟩;have hlen:=(iF (s:=s) (t:=t)).1;have hcr:=(iF (s:=s) (t:=t)).2;rw[←hl] at hlen;rw[←hc] at hcr;have hlI:(l.length:Int)≤500:=(by omega);have HL:=zh hl;have HC:=zh hc;obtain⟨hc0,hc1⟩:=hcr;clear h hr hno hall hl hc;go_enter Tryz.func30,Tryz.ntmps30
 go_wp2_with (first|(go_at_call 27;(refine fQ.out.mono ?_;rintro e2 w2 ⟨hb2,v,cs2,rfl,hown2,hws2⟩;rw[←HL.out] at hown2 hws2;obtain⟨ov,cv,rfl⟩:=ay hown2;rw[←HC.out];have H2:=zh (hb1.trans (hb2.mono hb1.size));have HM:=zh (show nJ w2 (opened t) s.size (.slice ov l.length cv) l from⟨cs2,Row.iR hown2,hws2⟩);clear hb2 hown2 hws2)))
 go_loopw [9] (fun s9 wx=>∃i:Nat,i≤l.length∧s9= .int .i64 i∧wx=w2∧∀j (hj:j<l.length),j<i→l[j].stop≠s.size) (fun s9 _=>l.length-(intOf s9).toNat)
 case atStart=>exact⟨0,by omega,rfl,rfl,fun j _ h=>by omega⟩
 case round=>
  rename World=>Wa
  obtain⟨i,hi,rfl,rfl,hno⟩:=hrel;have HNO:=zh hno;clear hno;by_cases hil:¬i<l.length
  ·obtain rfl:i=l.length:=(by omega);have hf:l.find? (fun x=>decide (x.stop=s.size))=none:=by
    rw[List.find?_eq_none];intro x hx;obtain⟨j,hj,rfl⟩:=List.getElem_of_mem hx;have:=HNO.out j hj hj
    simpa using this
   have HF:=zh hf;clear hf hil
   go_wp2_with fail
   exact bodyPost_ret (v:= .tuple #[.slice none 0 0,.bool false,.int .i64 c]) (by simp[results,Tryz.results30,go_sem]) rfl (by
    unfold QO;rw[←HL.out,←HC.out,HF.out];exact⟨H2.out,rfl⟩)
  ·have hil:i<l.length:=(by omega);have hiI:(i:Int)<l.length:=(by omega);obtain⟨mb,mo,mc,em,hmc,-,hmz,oN⟩:=HM.out.cells (by omega);simp only[Value.slice.injEq,true_and] at em;obtain⟨rfl,rfl⟩:=em;have CV:(l.length:Int)≤cv:=(by omega);obtain⟨sv,m0,m1,hsv,hst,-⟩:=oN i hil;obtain⟨so,sc,rfl⟩:=hsv.row.slice;obtain⟨x,hx⟩:∃x,x=l[i]:=⟨_,rfl⟩;rw[←hx] at m0 m1 hsv hst;have HX:=zh hx;have HSV:=zh hsv;clear oN hsv hx;by_cases hxs:x.stop=s.size
   ·have hf:l.find? (fun x=>decide (x.stop=s.size))=some x:=by
     rw[List.find?_eq_some_iff_getElem];refine⟨by simpa using hxs,i,hil,HX.out.symm,fun j hj=> ?_⟩;have:=HNO.out j (by omega) hj
     simpa using this
    have HF:=zh hf;have hxe:((x.stop:Int) == (s.size:Int))=true:=by rw[hxs];simp
    obtain⟨st,KP⟩:∃st:Nat,st=x.stop:=⟨_,rfl⟩;rw[←KP] at m0 hxe;clear hf hxs hst KP
    go_wp2_with fail
    exact bodyPost_ret (v:= .tuple #[.slice so x.spans.length sc,.bool true,.int .i64 0]) (by simp[results,Tryz.results30,go_sem]) rfl (by
     unfold QO;rw[←HL.out,HF.out];exact⟨H2.out,_,rfl,HSV.out⟩)
   ·have hxe:((x.stop:Int) == (s.size:Int))=false:=by rw[beq_eq_false_iff_ne];omega
    have HXS:=zh hxs;clear hxs
    go_wp2_with fail
    go_roundw
    case rel=>
     refine⟨i+1,by omega,by go_num,by first|rfl|trivial,fun j hj hji=> ?_⟩;by_cases e:j=i
     ·subst e;rw[←HX.out];exact HXS.out
     ·exact HNO.out j hj (by omega)
    case measure=>simp[intOf];omega
def Ob (s:ByteArray) (t:Nd) (w:World) (e:Ending) (w':World):Prop:=e= .returned (.tuple #[.int .i64 ((aU s t).1.countP fun x=>decide (x.stop=s.size):Nat),.int .i64 (aU s t).2])∧Below w.heap.size w w'
theorem Ed (h:ai N w t cs) (hr:right t=true) (hno:nodes t≤1000000) (hss:s.size≤1000000):
  Calls Tryz.prog 33 #[.agg cs.toArray,.string s] w (Ob s t w):=by
 obtain⟨k,lo,hi,lz,o1,o2,n1,c1,n2,c2,rfl⟩:=iP h;have hsI:(s.size:Int)≤1000000:=(by omega);have hb1:Below w.heap.size w (w.alloc (.cells #[.int .u8 k,.slice o1 n1 c1,.int .i64 lo,.int .i64 hi,.bool lz,.slice o2 n2 c2] 70)):=zR.alloc zL _;have hall:=nM (ai.go (M:=N) (zK hb1) (fun _ _ h=>⟨id,h⟩) h) hr hno hss;have fQ:=zh hall;obtain⟨l,hl⟩:∃l,l=(aU s t).1:=⟨_,rfl⟩;obtain⟨c,hc⟩:∃c,c=(aU s t).2:=⟨_,rfl⟩;have hlen:=(iF (s:=s) (t:=t)).1;have hcr:=(iF (s:=s) (t:=t)).2;rw[←hl] at hlen;rw[←hc] at hcr;have hlI:(l.length:Int)≤500:=(by omega);have HL:=zh hl;have HC:=zh hc;obtain⟨hc0,hc1⟩:=hcr;clear h hr hno hall hl hc;go_enter Tryz.func33,Tryz.ntmps33
 go_wp2_with (first|(go_at_call 27;(refine fQ.out.mono ?_;rintro e2 w2 ⟨hb2,v,cs2,rfl,hown2,hws2⟩;rw[←HL.out] at hown2 hws2;obtain⟨ov,cv,rfl⟩:=ay hown2;rw[←HC.out];have H2:=zh (hb1.trans (hb2.mono hb1.size));have HM:=zh (show nJ w2 (opened t) s.size (.slice ov l.length cv) l from⟨cs2,Row.iR hown2,hws2⟩);clear hb2 hown2 hws2)))
 go_loopw [8,9] (fun s8 s9 wx=>∃i k:Nat,i≤l.length∧k≤i∧s9= .int .i64 i∧s8= .int .i64 k∧wx=w2∧k=(l.take i).countP fun x=>decide (x.stop=s.size)) (fun _ s9 _=>l.length-(intOf s9).toNat)
 case atStart=>exact⟨0,0,by omega,by omega,rfl,rfl,rfl,by simp⟩
 case round=>
  rename World=>Wa
  obtain⟨i,kk,hi,hki,rfl,rfl,rfl,hk⟩:=hrel;have HK:=zh hk;clear hk;by_cases hil:¬i<l.length
  ·obtain rfl:i=l.length:=(by omega);clear hil
   go_wp2_with fail
   exact bodyPost_ret (v:= .tuple #[.int .i64 (kk:Nat),.int .i64 c]) (by simp[results,Tryz.results33,go_sem]) rfl (by
    have e:=HK.out;rw[List.take_length] at e;unfold Ob;rw[←HL.out,←HC.out,←e];exact⟨rfl,H2.out⟩)
  ·have hil:i<l.length:=(by omega);have hiI:(i:Int)<l.length:=(by omega);have hkI:(kk:Int)≤i:=(by omega);obtain⟨mb,mo,mc,em,hmc,-,hmz,oN⟩:=HM.out.cells (by omega);simp only[Value.slice.injEq,true_and] at em;obtain⟨rfl,rfl⟩:=em;have CV:(l.length:Int)≤cv:=(by omega);obtain⟨sv,m0,m1,hsv,hst,-⟩:=oN i hil;obtain⟨x,hx⟩:∃x,x=l[i]:=⟨_,rfl⟩;have hsu:(l.take (i+1)).countP (fun x=>decide (x.stop=s.size))=kk+if x.stop=s.size then 1 else 0:=by
    rw[List.take_succ_eq_append_getElem hil,List.countP_append,←HK.out,←hx];by_cases h:x.stop=s.size<;>simp[h]
   rw[←hx] at m0;have HS:=zh hsu;clear oN hsv hx hst m1 hsu;obtain⟨st,KP⟩:∃st:Nat,st=x.stop:=⟨_,rfl⟩;rw[←KP] at m0 HS;clear KP;by_cases hxs:st=s.size
   ·have hxe:((st:Int) == (s.size:Int))=true:=by rw[hxs];simp
    rw[if_pos hxs] at HS;clear hxs
    go_wp2_with fail
    go_roundw
    case rel=>exact⟨i+1,kk+1,by omega,by omega,by go_num,by go_num,by first|rfl|trivial,HS.out.symm⟩
    case measure=>simp[intOf];omega
   ·have hxe:((st:Int) == (s.size:Int))=false:=by rw[beq_eq_false_iff_ne];omega
    rw[if_neg hxs] at HS;clear hxs
    go_wp2_with fail
    go_roundw
    case rel=>exact⟨i+1,kk,by omega,by omega,by go_num,rfl,by first|rfl|trivial,HS.out.symm⟩
    case measure=>simp[intOf];omega
variable {lz:Bool} {hi k lo:Int} {l:List Wy.Way} {c1 c2 n1 n2:Nat} {o1 o2:Option Addr}
theorem yC (h:32<s.size):aU s t=([],3):=by unfold aU;rw[if_pos h]
theorem yD (h:s.size≤32) (hv:Lib.validD s.data.toList=false):aU s t=([],80):=by unfold aU;rw[if_neg (by omega),if_pos hv]
theorem lu (h:s.size≤32) (hv:Lib.validD s.data.toList=true) (hw:Wy.ways (aN s) t=none):aU s t=([],5):=by
 unfold aU;rw[if_neg (by omega),if_neg (by rw[hv];simp),hw]
theorem lC (h:s.size≤32) (hv:Lib.validD s.data.toList=true) (hw:Wy.ways (aN s) t=some l):aU s t=(l,0):=by
 unfold aU;rw[if_neg (by omega),if_neg (by rw[hv];simp),hw]
theorem Ah (h:s.size≤32) (hv:Lib.validD s.data.toList=true):aU s t=(lA s t,erW s t):=by
 unfold lA erW;cases hw:Wy.ways (aN s) t with
 |none=>rw[lu h hv hw];rfl
 |some l=>rw[lC h hv hw];rfl
theorem GX:∀x∈(aU s t).1,x.stop≤s.size:=by
 intro x hx;by_cases h:32<s.size
 ·rw[yC h] at hx;simp at hx
 cases hv:Lib.validD s.data.toList with
 |false=>rw[yD (by omega) hv] at hx;simp at hx
 |true=>
  cases hw:Wy.ways (aN s) t with
  |none=>rw[lu (by omega) hv hw] at hx;simp at hx
  |some l=>
   rw[lC (by omega) hv hw] at hx;have hbn:Bnd s 0:=⟨Nat.zero_le _,by rw[List.drop_zero];exact hv⟩;unfold Wy.ways at hw;exact(zZ hw hbn x hx).1.1
theorem jq:aC N w (.slice none 0 0) []:=⟨⟨rfl,.inl ⟨rfl,none,0,rfl⟩⟩,by simp,by simp⟩
theorem nN (h:ai (fun _=>True) w t [.int .u8 k,.slice o1 n1 c1,.int .i64 lo,.int .i64 hi,.bool lz,.slice o2 n2 c2]) (hr:right t=true) (hno:nodes t≤1000000) (hm:s.size≤1000000) (htab:Lib.Utf8Tabs 0 1 w) (hnone:bu w):
  (∃er,aU s t=([],er)∧kL er s [.int .u8 k,.slice o1 n1 c1,.int .i64 lo,.int .i64 hi,.bool lz,.slice o2 n2 c2] w)∨(s.size≤32∧Lib.validD s.data.toList=true):=by
 have hnd:∀W,Below w.heap.size w W→ai (fun _=>True) W t [.int .u8 k,.slice o1 n1 c1,.int .i64 lo,.int .i64 hi,.bool lz,.slice o2 n2 c2]:=fun W hW=>ai.go (zK hW) (fun _ _ _=>⟨id,trivial⟩) h
 by_cases hs:32<s.size
 ·exact .inl ⟨3,yC hs,.inr (.inl rfl),fun W hW=>JY (hnd W hW) hno hr hs hm⟩
 cases hv:Lib.validD s.data.toList with
 |true=>exact .inr ⟨by omega,rfl⟩
 |false=>exact .inl ⟨80,yD (by omega) hv,.inr (.inr rfl),fun W hW=>JZ (hnd W hW) hno hr (by omega) hv (bF htab (zK hW) id id (by have:=hnone.1;omega)) (hnone.below hW)⟩
def TV (s:ByteArray) (t:Nd) (w:World) (e:Ending) (w':World):Prop:=
 Below w.heap.size w w'∧∃v cs,e= .returned (.tuple #[v,.int .i64 (aU s t).2])∧w'.ownsRow w.heap.size 43 2 v (aU s t).1.length cs∧aH (fun q=>w.heap.size≤q∧v.ownBlock≠some q) w' (opened t) s.size (aU s t).1 cs∧cs.Pairwise ApV∧SpB w.heap.size w' cs
theorem Oc (h:ai (fun _=>True) w t cs) (hr:right t=true) (hno:nodes t≤1000000) (hm:s.size≤1000000) (htab:Lib.Utf8Tabs 0 1 w) (hnone:bu w):
  Calls Tryz.prog 13 #[.agg cs.toArray,.string s] w (TV s t w):=by
 obtain⟨k,lo,hi,lz,o1,o2,n1,c1,n2,c2,rfl⟩:=pX h;rcases nN h hr hno hm htab hnone with⟨er,he,hb⟩|⟨hs,hv⟩
 ·exact(hb.2 w zR).mono fun e w' ⟨h1,h2⟩=>⟨h2,.slice none 0 0,[],by rw[he];exact h1,by rw[he];exact zN,by rw[he];rfl,List.Pairwise.nil,by simp[SpB]⟩
 ·refine(JL h hr hno hs hv htab hnone).mono fun e w' ⟨h1,h2⟩=>⟨h1,?_⟩
  cases hw:Wy.ways (aN s) t with
  |none=>
   rw[hw] at h2;rw[lu hs hv hw];exact⟨.slice none 0 0,[],h2,zN,rfl,List.Pairwise.nil,by simp[SpB]⟩
  |some l=>
   rw[hw] at h2;rw[lC hs hv hw];exact h2
def GY:List Wy.Way→Int×Bool×List (Int×Int)
 |[]=>(0,false,[])
 |x::_=>(x.stop,true,x.spans)
def QP (s:ByteArray) (t:Nd) (w:World) (e:Ending) (w':World):Prop:=
 Below w.heap.size w w'∧∃v,e= .returned (.tuple #[.agg #[.int .i64 (GY (aU s t).1).1,v],.bool (GY (aU s t).1).2.1,.int .i64 (aU s t).2])∧aC (fun _=>True) w' v (GY (aU s t).1).2.2
theorem GZ (h:ai (fun _=>True) w t cs) (hr:right t=true) (hno:nodes t≤1000000) (hm:s.size≤1000000) (htab:Lib.Utf8Tabs 0 1 w) (hnone:bu w):
  Calls Tryz.prog 14 #[.agg cs.toArray,.string s] w (QP s t w):=by
 obtain⟨k,lo,hi,lz,o1,o2,n1,c1,n2,c2,rfl⟩:=pX h;rcases nN h hr hno hm htab hnone with⟨er,he,hb⟩|⟨hs,hv⟩
 ·exact(Gv hb).mono fun e w' ⟨h1,h2⟩=>⟨h2,.slice none 0 0,by rw[he];exact h1,by rw[he];exact jq⟩
 ·refine(first_any h hr hno hs hv htab hnone).mono fun e w' ⟨h1,st,v,bb,er,h2,h3⟩=>⟨h1,?_⟩
  unfold qQ at h3;cases hw:Wy.ways (aN s) t with
  |none=>
   rw[hw] at h3;obtain⟨rfl,rfl,rfl,rfl⟩:=h3;rw[lu hs hv hw];exact⟨_,h2,jq⟩
  |some l=>
   rw[hw] at h3;rw[lC hs hv hw];cases l with
   |nil=>
    obtain⟨rfl,rfl,rfl,rfl⟩:=h3;exact⟨_,h2,jq⟩
   |cons x r=>
    obtain⟨rfl,rfl,rfl,h4⟩:=h3;exact⟨_,h2,h4.mono (fun _ _=>trivial)⟩
theorem G6 (h:ai N w t cs) (hr:right t=true) (hno:nodes t≤1000000) (hm:s.size≤1000000):
  Calls Tryz.prog 29 #[.agg cs.toArray,.string s] w (QP s t w):=by
 refine(Ea h hr hno hm).mono fun e w' ⟨h1,h2⟩=>⟨h1,?_⟩
 rcases sO (s:=s) (t:=t) with⟨h3,-⟩|h3
 ·rw[h3] at h2 ⊢;exact⟨_,h2,jq⟩
 ·rw[h3] at h2 ⊢;cases hl:(aU s t).1 with
  |nil=>
   rw[hl] at h2;exact⟨_,h2,jq⟩
  |cons x r=>
   rw[hl] at h2;obtain⟨sv,h4,h5⟩:=h2;exact⟨sv,h4,h5.mono (fun _ _=>trivial)⟩
def G7 (s:ByteArray) (l:List Wy.Way):Bool×List (Int×Int):=match l.find? fun x=>decide (x.stop=s.size) with
 |none=>(false,[])
 |some x=>(true,x.spans)
def QQ (s:ByteArray) (t:Nd) (w:World) (e:Ending) (w':World):Prop:=
 Below w.heap.size w w'∧∃v,e= .returned (.tuple #[v,.bool (G7 s (aU s t).1).1,.int .i64 (aU s t).2])∧aC (fun _=>True) w' v (G7 s (aU s t).1).2
theorem G8 (h:ai (fun _=>True) w t cs) (hr:right t=true) (hno:nodes t≤1000000) (hm:s.size≤1000000) (htab:Lib.Utf8Tabs 0 1 w) (hnone:bu w):
  Calls Tryz.prog 15 #[.agg cs.toArray,.string s] w (QQ s t w):=by
 obtain⟨k,lo,hi,lz,o1,o2,n1,c1,n2,c2,rfl⟩:=pX h;rcases nN h hr hno hm htab hnone with⟨er,he,hb⟩|⟨hs,hv⟩
 ·exact(Gw hb).mono fun e w' ⟨h1,h2⟩=>⟨h2,.slice none 0 0,by rw[he];exact h1,by rw[he];exact jq⟩
 ·refine(x8 h hr hno hs hv htab hnone).mono fun e w' ⟨h1,st,v,bb,er,h2,h3⟩=>⟨h1,?_⟩
  unfold qQ at h3;cases hw:Wy.ways (aN s) t with
  |none=>
   rw[hw] at h3;obtain⟨-,rfl,rfl,rfl⟩:=h3;rw[lu hs hv hw];exact⟨_,h2,jq⟩
  |some l=>
   rw[hw] at h3;rw[lC hs hv hw];have e0:lT s=fun x=>decide (x.stop=s.size):=rfl
   simp only[e0] at h3;simp only[G7];cases hf:l.find? fun x=>decide (x.stop=s.size) with
   |none=>
    rw[hf] at h3;obtain⟨-,rfl,rfl,rfl⟩:=h3;exact⟨_,h2,jq⟩
   |some x=>
    rw[hf] at h3;obtain⟨-,rfl,rfl,h4⟩:=h3;exact⟨_,h2,h4.mono (fun _ _=>trivial)⟩
theorem G9 (h:ai N w t cs) (hr:right t=true) (hno:nodes t≤1000000) (hm:s.size≤1000000):
  Calls Tryz.prog 30 #[.agg cs.toArray,.string s] w (QQ s t w):=by
 refine(Ec h hr hno hm).mono fun e w' ⟨h1,h2⟩=>⟨h1,?_⟩
 unfold G7;cases hf:(aU s t).1.find? fun x=>decide (x.stop=s.size) with
 |none=>
  rw[hf] at h2;exact⟨_,h2,jq⟩
 |some x=>
  rw[hf] at h2;obtain⟨sv,h4,h5⟩:=h2;have h6:(aU s t).2=0:=by
   rcases sO (s:=s) (t:=t) with⟨h3,-⟩|h3
   ·rw[h3] at hf;simp at hf
   ·exact h3
  rw[h6];exact⟨sv,h4,h5.mono (fun _ _=>trivial)⟩
def QR (s:ByteArray) (t:Nd) (w:World) (e:Ending) (w':World):Prop:=
 Below w.heap.size w w'∧∃v,e= .returned (.tuple #[v,.int .i64 (aU s t).2])∧Row (fun _=>True) w' v (fF (aU s t).1 (s.size+1)).length 1 (cO (fF (aU s t).1 (s.size+1)))
theorem Ha (p:Nat):fF [] p=[]:=by unfold fF;simp
theorem KQ (h:ai (fun _=>True) w t cs) (hr:right t=true) (hno:nodes t≤1000000) (hm:s.size≤1000000) (htab:Lib.Utf8Tabs 0 1 w) (hnone:bu w):
  Calls Tryz.prog 16 #[.agg cs.toArray,.string s] w (QR s t w):=by
 obtain⟨k,lo,hi,lz,o1,o2,n1,c1,n2,c2,rfl⟩:=pX h;rcases nN h hr hno hm htab hnone with⟨er,he,hb⟩|⟨hs,hv⟩
 ·exact(ends_bad hb).mono fun e w' ⟨h1,h2⟩=>⟨h2,.slice none 0 0,by rw[he];exact h1,by rw[he,Ha];exact⟨rfl,.inl ⟨rfl,none,0,rfl⟩⟩⟩
 ·have hz:qV (zsE s t)=cO (fF (aU s t).1 (s.size+1))∧(zsE s t).length=(fF (aU s t).1 (s.size+1)).length:=by
   have h1:zsE s t=(fF (aU s t).1 (s.size+1)).map fun x:Nat=>(x:Int):=by
    have h2:=GV (aU s t).1 s.size GX;rw[←h2,Ah hs hv]
    rfl
   rw[h1];refine⟨?_,by rw[List.length_map]⟩;unfold qV cO;rw[List.map_map]
   rfl
  refine(Ny h hr hno hs hv htab hnone).mono fun e w' ⟨o,c,h1,h2,h3⟩=>⟨h3,?_⟩
  rw[hz.1,hz.2] at h2;rw[hz.2] at h1;have h4:(aU s t).2=erW s t:=by rw[Ah hs hv]
  rw[h4];exact⟨_,h1,h2.mono (fun _ _=>trivial)⟩
theorem KR (h:ai N w t cs) (hr:right t=true) (hno:nodes t≤1000000) (hm:s.size≤100000):
  Calls Tryz.prog 32 #[.agg cs.toArray,.string s] w (QR s t w):=
 (GU h hr hno hm).mono fun e w' ⟨v,h1,h2,h3⟩=>⟨h3,v,h1,Row.dD h2 (fun _ _ _=>trivial)⟩
theorem He (h:ai (fun _=>True) w t cs) (hr:right t=true) (hno:nodes t≤1000000) (hm:s.size≤1000000) (htab:Lib.Utf8Tabs 0 1 w) (hnone:bu w):
  Calls Tryz.prog 17 #[.agg cs.toArray,.string s] w (Ob s t w):=by
 obtain⟨k,lo,hi,lz,o1,o2,n1,c1,n2,c2,rfl⟩:=pX h;rcases nN h hr hno hm htab hnone with⟨er,he,hb⟩|⟨hs,hv⟩
 ·exact(Gx hb).mono fun e w' ⟨h1,h2⟩=>⟨by rw[he];exact h1,h2⟩
 ·refine(Ko h hr hno hs hv htab hnone).mono fun e w' ⟨h1,h2⟩=>⟨?_,h2⟩
  rw[Ah hs hv];exact h1
variable {zo zr:Bool} {Q:Exit→Act→World→Prop} {er ho hr ko kr lr:Int} {b5 b6 ca co1 co2 cr1 cr2 n no1 no2 nr1 nr2:Nat} {oa po1 po2 pr1 pr2:Option Addr} {v:Value} {W W' W2 w':World}
def OV (W:World) (l:List Wy.Way) (z:Int) (G L:Nat) (o:Option Addr) (n c:Nat) (er:Int) (w':World):Prop:=n=l.length∧er=z∧∃cs,w'.ownsRow W.heap.size 43 2 (.slice o l.length c) l.length cs∧aH (fun q=>W.heap.size≤q∧(Value.slice o l.length c).ownBlock≠some q) w' G L l cs∧cs.Pairwise ApV∧SpB W.heap.size w' cs
def TW (W:World) (l:List Wy.Way) (z:Int) (G L:Nat) (o:Option Addr) (n c:Nat) (er:Int) (w':World):Prop:=n=l.length∧er=z∧∃cs,w'.ownsRow W.heap.size 79 2 (.slice o l.length c) l.length cs∧aH (TB 129 w') w' G L l cs
def PFst (l:List Wy.Way) (z:Int) (st:Int) (o:Option Addr) (n c:Nat) (bb:Bool) (er:Int) (w':World):Prop:=st=(GY l).1∧bb=(GY l).2.1 ∧er=z∧aC (fun _=>True) w' (.slice o n c) (GY l).2.2
def PWho (s:ByteArray) (l:List Wy.Way) (z:Int) (o:Option Addr) (n c:Nat) (bb:Bool) (er:Int) (w':World):Prop:=bb=(G7 s l).1∧er=z∧aC (fun _=>True) w' (.slice o n c) (G7 s l).2
def PEnd (s:ByteArray) (l:List Wy.Way) (z:Int) (o:Option Addr) (n c:Nat) (er:Int) (w':World):Prop:=er=z∧Row (fun _=>True) w' (.slice o n c) (fF l (s.size+1)).length 1 (cO (fF l (s.size+1)))
def PCnt (s:ByteArray) (l:List Wy.Way) (z:Int) (y er:Int) (_:World):Prop:=y=(l.countP fun x=>decide (x.stop=s.size):Nat)∧er=z
theorem QS {e:Ending} (h:TV s t W e w'):Below W.heap.size W w'∧∃(o:Option Addr) (n c:Nat) (er:Int),e= .returned (.tuple #[.slice o n c,.int .i64 er])∧OV W (aU s t).1 (aU s t).2 (opened t) s.size o n c er w':=by
 obtain⟨hb,v,cs,rfl,h1,h2,h3,h4⟩:=h;obtain⟨o,c,rfl⟩:=ay h1;exact⟨hb,o,_,c,_,rfl,rfl,rfl,cs,h1,h2,h3,h4⟩
theorem QT {e:Ending} (h:TR s t W e w'):Below W.heap.size W w'∧∃(o:Option Addr) (n c:Nat) (er:Int),e= .returned (.tuple #[.slice o n c,.int .i64 er])∧TW W (aU s t).1 (aU s t).2 (opened t) s.size o n c er w':=by
 obtain⟨hb,v,cs,rfl,h1,h2⟩:=h;obtain⟨o,c,rfl⟩:=ay h1;exact⟨hb,o,_,c,_,rfl,rfl,rfl,cs,h1,h2⟩
theorem OW {e:Ending} (h:QP s t W e w'):Below W.heap.size W w'∧∃(st:Int) (o:Option Addr) (n c:Nat) (bb:Bool) (er:Int),e= .returned (.tuple #[.agg #[.int .i64 st,.slice o n c],.bool bb,.int .i64 er])∧PFst (aU s t).1 (aU s t).2 st o n c bb er w':=by
 obtain⟨hb,v,rfl,h1⟩:=h;obtain⟨o,c,rfl⟩:=h1.row.slice;exact⟨hb,_,o,_,c,_,_,rfl,rfl,rfl,rfl,h1⟩
theorem OX {e:Ending} (h:QQ s t W e w'):Below W.heap.size W w'∧∃(o:Option Addr) (n c:Nat) (bb:Bool) (er:Int),e= .returned (.tuple #[.slice o n c,.bool bb,.int .i64 er])∧PWho s (aU s t).1 (aU s t).2 o n c bb er w':=by
 obtain⟨hb,v,rfl,h1⟩:=h;obtain⟨o,c,rfl⟩:=h1.row.slice;exact⟨hb,o,_,c,_,_,rfl,rfl,rfl,h1⟩
theorem OY {e:Ending} (h:QR s t W e w'):Below W.heap.size W w'∧∃(o:Option Addr) (n c:Nat) (er:Int),e= .returned (.tuple #[.slice o n c,.int .i64 er])∧PEnd s (aU s t).1 (aU s t).2 o n c er w':=by
 obtain⟨hb,v,rfl,h1⟩:=h;obtain⟨o,c,rfl⟩:=h1.slice;exact⟨hb,o,_,c,_,rfl,rfl,h1⟩
theorem OZ {e:Ending} (h:Ob s t W e w'):Below W.heap.size W w'∧∃(z er:Int),e= .returned (.tuple #[.int .i64 z,.int .i64 er])∧PCnt s (aU s t).1 (aU s t).2 z er w':=by
 obtain⟨rfl,hb⟩:=h;exact⟨hb,_,_,rfl,rfl,rfl⟩
theorem tX {l:List (Int×Int)} (h:aC (fun _=>True) W v l) (hb:Below W.heap.size W W'):aC (fun _=>True) W' v l:=h.go (zK hb) (fun _ _ h=>⟨id,h⟩)
theorem KT (h:Row (fun _=>True) W v n 1 cs) (hb:Below W.heap.size W W'):Row (fun _=>True) W' v n 1 cs:=gp h (zK hb) (fun _ _ h=>⟨id,h⟩)
theorem Oe (m:List Value) (hm:m.length=206) (k1:m[1]? =some (.string s)) (k5:m[5]? =some (.pointer (some ⟨b5,0,none⟩))) (k6:m[6]? =some (.pointer (some ⟨b6,0,none⟩)))
  (k7:m[7]? =some (.slice oa (aU s t).1.length ca)) (k8:m[8]? =some (.int .i64 er)) (hpa:OV W2 (aU s t).1 (aU s t).2 (opened t) s.size oa (aU s t).1.length ca er W)
  (hB5:Blk W2 b5 #[.int .u8 kr,.slice pr1 nr1 cr1,.int .i64 lr,.int .i64 hr,.bool zr,.slice pr2 nr2 cr2] 70) (hB6:Blk W2 b6 #[.int .u8 ko,.slice po1 no1 co1,.int .i64 lo,.int .i64 ho,.bool zo,.slice po2 no2 co2] 27) (hnr:ai (fun _=>True) W2 t [.int .u8 kr,.slice pr1 nr1 cr1,.int .i64 lr,.int .i64 hr,.bool zr,.slice pr2 nr2 cr2]) (hno:ai (fun _=>True) W2 t [.int .u8 ko,.slice po1 no1 co1,.int .i64 lo,.int .i64 ho,.bool zo,.slice po2 no2 co2])
  (hri:right t=true) (hnn:nodes t≤1000000) (hs:s.size≤100000) (htab:Lib.Utf8Tabs 0 1 W2) (hnone:bu W2) (hW:Below W2.heap.size W2 W)
  (jR:∀(m':List Value) (w':World),m'.length=206→m'[4]? =some (.bool true)→Below W2.heap.size W2 w'→Q .ret ⟨m'.toArray,[]⟩ w'):
  Code.wp Tryz.prog (tlC [1,1,1,1]) Q ⟨m.toArray,[]⟩ W:=by
 have gr:∀W',Below W2.heap.size W2 W'→ai (fun _=>True) W' t [.int .u8 kr,.slice pr1 nr1 cr1,.int .i64 lr,.int .i64 hr,.bool zr,.slice pr2 nr2 cr2]:=fun W' hb=>ai.go (zK hb) (fun _ _ h=>⟨id,h⟩) hnr
 have go:∀W',Below W2.heap.size W2 W'→ai (fun _=>True) W' t [.int .u8 ko,.slice po1 no1 co1,.int .i64 lo,.int .i64 ho,.bool zo,.slice po2 no2 co2]:=fun W' hb=>ai.go (zK hb) (fun _ _ h=>⟨id,h⟩) hno
 have b5':∀W',Below W2.heap.size W2 W'→Blk W' b5 #[.int .u8 kr,.slice pr1 nr1 cr1,.int .i64 lr,.int .i64 hr,.bool zr,.slice pr2 nr2 cr2] 70:=fun W' hb=>hB5.below hb hB5.lt
 have b6':∀W',Below W2.heap.size W2 W'→Blk W' b6 #[.int .u8 ko,.slice po1 no1 co1,.int .i64 lo,.int .i64 ho,.bool zo,.slice po2 no2 co2] 27:=fun W' hb=>hB6.below hb hB6.lt
 have tb:∀W',Below W2.heap.size W2 W'→Lib.Utf8Tabs 0 1 W':=fun W' hb=>bF htab (zK hb) id id (by have:=hnone.1;omega)
 have nn:∀W',Below W2.heap.size W2 W'→bu W':=fun W' hb=>hnone.below hb
 have hln:=(iF (s:=s) (t:=t)).1;obtain⟨-,rfl,cs,ha1,ha2,ha3,ha4⟩:=hpa;have hs6:s.size≤1000000:=(by omega);show Code.wp Tryz.prog (Code.seq (tlC [1,1,1,1,0]) (tlC [1,1,1,1,1])) Q _ _
 refine wp_seq (tl4 m hm k1 k5 (b5' W hW) ((nM (gr W hW) hri hnn hs6).mono fun e w' h=>QT h) (fun m1 w1 ob n c er1 hm1 kp1 k9 k10 hb1 hp1=> ?_));obtain⟨rfl,rfl,cs2,hr1,hr2⟩:=hp1;have hW1:=hW.trans (hb1.mono hW.size);have hT1:jI W2.heap.size W.heap.size (opened t) s.size s.size (.slice oa (aU s t).1.length ca) (.slice ob (aU s t).1.length c) (aU s t).1 cs cs2 w1:=by
  refine⟨aB ha1 (zK hb1) (fun _ _=>id),ha2.go (zK hb1) (fun _ _ h=>⟨id,h⟩),ha3,fun u hu q e=> ?_,hr1,hr2⟩;obtain⟨hq,d,hd⟩:=ha4 u hu q e;exact⟨hq,d,hd.below hb1 hd.lt⟩
 show Code.wp Tryz.prog (Code.seq (tlC [1,1,1,1,1,0]) (tlC [1,1,1,1,1,1])) Q _ _
 refine wp_seq (tl5 m1 hm1 (kp1.at_ 7 (by simp) k7) (kp1.at_ 8 (by simp) k8) k9 k10
  (yh (aI.dD (N:=fun _=>True) hT1.own (hT1.wys.mono (fun _ _=>trivial)) (fun _ _ _=>trivial)) (aI.dD (N:=fun _=>True) hT1.ref (hT1.rwy.mono (fun _ _=>trivial)) (fun _ _ _=>trivial)) hln) (fun m2 w2 hm2 kp2 hb2=> ?_))
 have hW2:=hW1.trans (hb2.mono hW1.size);have hT2:=hT1.go hb2;show Code.wp Tryz.prog (Code.seq (tlC [1,1,1,1,1,1,0]) (tlC [1,1,1,1,1,1,1])) Q _ _
 refine wp_seq (tl7 m2 hm2 (kp2.at_ 1 (by simp) (kp1.at_ 1 (by simp) k1)) (kp2.at_ 6 (by simp) (kp1.at_ 6 (by simp) k6)) (b6' w2 hW2) ((GZ (go w2 hW2) hri hnn hs6 (tb w2 hW2) (nn w2 hW2)).mono fun e w' h=>OW h) (fun m3 w3a w3 st o11 n11 c11 bb11 er11 hm3 kp3 k11 k12 k13 TY hp3 TZ Ee=> ?_));obtain⟨rfl,rfl,rfl,hs11⟩:=hp3;have hb3:=TY.trans (TZ.mono TY.size);have hW3:=hW2.trans (hb3.mono hW2.size);have hT3:=hT2.go hb3;have hs11:=tX hs11 TZ;have Ua:=Ee.lt;show Code.wp Tryz.prog (Code.seq (tlC [1,1,1,1,1,1,1,0]) (tlC [1,1,1,1,1,1,1,1])) Q _ _
 refine wp_seq (tl8 m3 hm3 (kp3.at_ 1 (by simp) (kp2.at_ 1 (by simp) (kp1.at_ 1 (by simp) k1))) (kp3.at_ 5 (by simp) (kp2.at_ 5 (by simp) (kp1.at_ 5 (by simp) k5))) (b5' w3 hW3) ((G6 (gr w3 hW3) hri hnn hs6).mono fun e w' h=>OW h) (fun m4 w4a w4 st4 o14 n14 c14 bb14 er14 hm4 kp4 k14 k15 k16 Ub hp4 Uc KU=> ?_));obtain⟨rfl,rfl,rfl,Hf⟩:=hp4;have hb4:=Ub.trans (Uc.mono Ub.size);have hW4:=hW3.trans (hb4.mono hW3.size);have hT4:=hT3.go hb4;have hs11:=tX hs11 hb4;have Ee:=Ee.below hb4 Ua;have Hf:=tX Hf Uc;have hz14:=KU.lt;have j1:=kp4.at_ 1 (by simp) (kp3.at_ 1 (by simp) (kp2.at_ 1 (by simp) (kp1.at_ 1 (by simp) k1)));have j5:=kp4.at_ 5 (by simp) (kp3.at_ 5 (by simp) (kp2.at_ 5 (by simp) (kp1.at_ 5 (by simp) k5)));have j6:=kp4.at_ 6 (by simp) (kp3.at_ 6 (by simp) (kp2.at_ 6 (by simp) (kp1.at_ 6 (by simp) k6)));have j7:=kp4.at_ 7 (by simp) (kp3.at_ 7 (by simp) (kp2.at_ 7 (by simp) (kp1.at_ 7 (by simp) k7)));have j9:=kp4.at_ 9 (by simp) (kp3.at_ 9 (by simp) (kp2.at_ 9 (by simp) k9));show Code.wp Tryz.prog (Code.seq (tlC [1,1,1,1,1,1,1,1,0]) (tlC [1,1,1,1,1,1,1,1,1])) Q _ _
 refine wp_seq (tl9 m4 hm4 j1 j6 (b6' w4 hW4) ((G8 (go w4 hW4) hri hnn hs6 (tb w4 hW4) (nn w4 hW4)).mono fun e w' h=>OX h) (fun m5 w5 o17 n17 c17 bb17 er17 hm5 kp5 k17 k18 k19 hb5 hp5=> ?_));obtain⟨rfl,rfl,Og⟩:=hp5;have hW5:=hW4.trans (hb5.mono hW4.size);have hT5:=hT4.go hb5;show Code.wp Tryz.prog (Code.seq (tlC [1,1,1,1,1,1,1,1,1,0]) (tlC [1,1,1,1,1,1,1,1,1,1])) Q _ _
 refine wp_seq (tl10 m5 hm5 (kp5.at_ 1 (by simp) j1) (kp5.at_ 5 (by simp) j5) (b5' w5 hW5) ((G9 (gr w5 hW5) hri hnn hs6).mono fun e w' h=>OX h) (fun m6 w6 o20 n20 c20 bb20 er20 hm6 kp6 k20 k21 k22 hb6 hp6=> ?_));obtain⟨rfl,rfl,Ud⟩:=hp6;have hW6:=hW5.trans (hb6.mono hW5.size);have hT6:=hT5.go hb6;have Oh:=hb5.trans (hb6.mono hb5.size);have Og:=tX Og hb6;have hs11:=tX hs11 Oh;have Hf:=tX Hf Oh;have Ee:=Ee.below Oh (Nat.lt_of_lt_of_le Ua hb4.size);have KU:=KU.below Oh hz14;have i1:=kp6.at_ 1 (by simp) (kp5.at_ 1 (by simp) j1);have i5:=kp6.at_ 5 (by simp) (kp5.at_ 5 (by simp) j5);have i6:=kp6.at_ 6 (by simp) (kp5.at_ 6 (by simp) j6);have i7:=kp6.at_ 7 (by simp) (kp5.at_ 7 (by simp) j7);have i9:=kp6.at_ 9 (by simp) (kp5.at_ 9 (by simp) j9);show Code.wp Tryz.prog (Code.seq (tlC [1,1,1,1,1,1,1,1,1,1,0]) (tlC [1,1,1,1,1,1,1,1,1,1,1])) Q _ _
 refine wp_seq (tl11 m6 hm6 (kp6.at_ 11 (by simp) (kp5.at_ 11 (by simp) (kp4.at_ 11 (by simp) k11))) (kp6.at_ 12 (by simp) (kp5.at_ 12 (by simp) (kp4.at_ 12 (by simp) k12))) (kp6.at_ 13 (by simp) (kp5.at_ 13 (by simp) (kp4.at_ 13 (by simp) k13)))
  (kp6.at_ 14 (by simp) (kp5.at_ 14 (by simp) k14)) (kp6.at_ 15 (by simp) (kp5.at_ 15 (by simp) k15)) (kp6.at_ 16 (by simp) (kp5.at_ 16 (by simp) k16)) (kp6.at_ 17 (by simp) k17) (kp6.at_ 18 (by simp) k18) (kp6.at_ 19 (by simp) k19) k20 k21 k22 Ee KU
  (sF hs11 Hf) (fun w1 hb=>sF (tX Og hb) (tX Ud hb)) (fun m7 w7 hm7 kp7 hb7=> ?_))
 have hW7:=hW6.trans (hb7.mono hW6.size);have hT7:=hT6.go hb7;clear hs11 Hf Og Ud Ee KU;have i1:=kp7.at_ 1 (by simp) i1;have i5:=kp7.at_ 5 (by simp) i5;have i6:=kp7.at_ 6 (by simp) i6;have i7:=kp7.at_ 7 (by simp) i7;have i9:=kp7.at_ 9 (by simp) i9;show Code.wp Tryz.prog (Code.seq (tlC [1,1,1,1,1,1,1,1,1,1,1,0]) (tlC [1,1,1,1,1,1,1,1,1,1,1,1])) Q _ _
 refine wp_seq (tl13 m7 hm7 i1 i6 (b6' w7 hW7) ((KQ (go w7 hW7) hri hnn hs6 (tb w7 hW7) (nn w7 hW7)).mono fun e w' h=>OY h) (fun m8 w8 o23 n23 c23 er23 hm8 kp8 k23 g8 hb8 hp8=> ?_));obtain⟨rfl,Ef⟩:=hp8;have hW8:=hW7.trans (hb8.mono hW7.size);have hT8:=hT7.go hb8;show Code.wp Tryz.prog (Code.seq (tlC [1,1,1,1,1,1,1,1,1,1,1,1,0]) (tlC [1,1,1,1,1,1,1,1,1,1,1,1,1])) Q _ _
 refine wp_seq (tl14 m8 hm8 (kp8.at_ 1 (by simp) i1) (kp8.at_ 5 (by simp) i5) (b5' w8 hW8) ((KR (gr w8 hW8) hri hnn hs).mono fun e w' h=>OY h) (fun m9 w9 o24 n24 c24 er24 hm9 kp9 k24 g10 hb9 hp9=> ?_));obtain⟨rfl,KW⟩:=hp9;have hW9:=hW8.trans (hb9.mono hW8.size);have hT9:=hT8.go hb9;have Ef:=KT Ef hb9;show Code.wp Tryz.prog (Code.seq (tlC [1,1,1,1,1,1,1,1,1,1,1,1,1,0]) (tlC [1,1,1,1,1,1,1,1,1,1,1,1,1,1])) Q _ _
 refine wp_seq (tl15 m9 hm9 (kp9.at_ 1 (by simp) (kp8.at_ 1 (by simp) i1)) (kp9.at_ 6 (by simp) (kp8.at_ 6 (by simp) i6)) (b6' w9 hW9) ((He (go w9 hW9) hri hnn hs6 (tb w9 hW9) (nn w9 hW9)).mono fun e w' h=>OZ h) (fun m10 w10 z25 er25 hm10 xq k25 g13 wU hp10=> ?_));obtain⟨rfl,rfl⟩:=hp10;have Oi:=hW9.trans (wU.mono hW9.size);have hT10:=hT9.go wU;have Ef:=KT Ef wU;have KW:=KT KW wU;show Code.wp Tryz.prog (Code.seq (tlC [1,1,1,1,1,1,1,1,1,1,1,1,1,1,0]) (tlC [1,1,1,1,1,1,1,1,1,1,1,1,1,1,1])) Q _ _
 refine wp_seq (tl16 m10 hm10 (xq.at_ 1 (by simp) (kp9.at_ 1 (by simp) (kp8.at_ 1 (by simp) i1))) (xq.at_ 5 (by simp) (kp9.at_ 5 (by simp) (kp8.at_ 5 (by simp) i5))) (b5' w10 Oi) ((Ed (gr w10 Oi) hri hnn hs6).mono fun e w' h=>OZ h) (fun m11 w11 z26 er26 hm11 xu k26 g16 Oj hp11=> ?_));obtain⟨rfl,rfl⟩:=hp11;have Ue:=Oi.trans (Oj.mono Oi.size);have hT11:=hT10.go Oj;have Ef:=KT Ef Oj;have KW:=KT KW Oj;have hel:=yA (aU s t).1 (s.size+1);have hq:=(vZ Ef KW (by omega) (by omega)).mono fun e w' (h:Eqs _ w11 e w')=>h
 rw[decide_eq_true rfl] at hq;have t5:=xu.at_ 5 (by simp) (xq.at_ 5 (by simp) (kp9.at_ 5 (by simp) (kp8.at_ 5 (by simp) i5)));have t6:=xu.at_ 6 (by simp) (xq.at_ 6 (by simp) (kp9.at_ 6 (by simp) (kp8.at_ 6 (by simp) i6)));have t7:=xu.at_ 7 (by simp) (xq.at_ 7 (by simp) (kp9.at_ 7 (by simp) (kp8.at_ 7 (by simp) i7)));have t9:=xu.at_ 9 (by simp) (xq.at_ 9 (by simp) (kp9.at_ 9 (by simp) (kp8.at_ 9 (by simp) i9)));have t23:=xu.at_ 23 (by simp) (xq.at_ 23 (by simp) (kp9.at_ 23 (by simp) k23));have t24:=xu.at_ 24 (by simp) (xq.at_ 24 (by simp) k24);have t8:=xu.at_ 8 (by simp) (xq.at_ 8 (by simp) (kp9.at_ 8 (by simp) g8));have t10:=xu.at_ 10 (by simp) (xq.at_ 10 (by simp) g10);have t25:=xu.at_ 25 (by simp) k25;have t13:=xu.at_ 13 (by simp) g13;show Code.wp Tryz.prog (Code.seq (tlC [1,1,1,1,1,1,1,1,1,1,1,1,1,1,1,0]) (tlC [1,1,1,1,1,1,1,1,1,1,1,1,1,1,1,1])) Q _ _
 refine wp_seq (tl17 m11 hm11 t23 t24 t8 t10 t25 k26 t13 g16 hq (fun m12 w12 hm12 Ol Uf=> ?_));have hW12:=Ue.trans (Uf.mono Ue.size);have QU:=hT11.go Uf;show Code.wp Tryz.prog (Code.seq (tlC [1,1,1,1,1,1,1,1,1,1,1,1,1,1,1,1,0]) (tlC [1,1,1,1,1,1,1,1,1,1,1,1,1,1,1,1,1])) Q _ _
 refine wp_seq (tl19 m12 hm12 (Ol.at_ 7 (by simp) t7) (Ol.at_ 9 (by simp) t9) QU hln (fun m13 w13 hm13 Ug hR13=> ?_));have Hg:Below W2.heap.size W2 w13:=((Kept.of_below hW12 (TlX (.slice oa (aU s t).1.length ca) cs ((aU s t).1.length*2))).trans hR13.kept).below (fun q hq e=>by
  rcases e with e|⟨u,hu,e⟩
  ·have:=(QU.own.lt q e).1;omega
  ·have:=(QU.sp u (List.mem_of_mem_take hu) q e).1;omega)
 show Code.wp Tryz.prog (Code.seq (tlC [1,1,1,1,1,1,1,1,1,1,1,1,1,1,1,1,1,0]) (tlC [1,1,1,1,1,1,1,1,1,1,1,1,1,1,1,1,1,1])) Q _ _
 refine wp_seq (tl31 m13 hm13 (Ug.at_ 5 (by simp) (Ol.at_ 5 (by simp) t5)) (Ug.at_ 6 (by simp) (Ol.at_ 6 (by simp) t6)) (b5' w13 Hg) (b6' w13 Hg) (gr w13 Hg) (go w13 Hg) (fun m14 w14 hm14 k4 hb14=> ?_));exact wp_ret (jR m14 w14 hm14 k4 (Hg.trans (hb14.mono Hg.size)))
theorem Hl (h:ai (fun _=>True) w t cs) (hri:right t=true) (hnn:nodes t≤1000000) (hs:s.size≤100000) (htab:Lib.Utf8Tabs 0 1 w) (hnone:bu w):
  Calls Tryz.prog 8 #[.agg cs.toArray,.string s] w fun e w'=>e= .returned (.bool true)∧Below w.heap.size w w':=by
 obtain⟨k,lo,hi,lz,o1,o2,n1,c1,n2,c2,rfl⟩:=iP h;have hB0:Blk (w.alloc (.cells #[.int .u8 k,.slice o1 n1 c1,.int .i64 lo,.int .i64 hi,.bool lz,.slice o2 n2 c2] 27)) w.heap.size #[.int .u8 k,.slice o1 n1 c1,.int .i64 lo,.int .i64 hi,.bool lz,.slice o2 n2 c2] 27:=Blk.new _ _ _;have hb0:Below w.heap.size w (w.alloc (.cells #[.int .u8 k,.slice o1 n1 c1,.int .i64 lo,.int .i64 hi,.bool lz,.slice o2 n2 c2] 27)):=zR.alloc zL _;have HTH:=zh (qj t (fun _=>True) (w.alloc (.cells #[.int .u8 k,.slice o1 n1 c1,.int .i64 lo,.int .i64 hi,.bool lz,.slice o2 n2 c2] 27)) _ (ai.go (M:=fun _=>True) (zK hb0) (fun _ _ _=>⟨id,trivial⟩) h));have HTU:=zh (fun(W:World) (cs:List Value) (h:ai (fun _=>True) W t cs)=>qg t (fun _=>True) W cs h);have mZ:=zh htab;have HN:=zh hnone;have HB0:=zh hb0;obtain⟨q0,q1,q2,q3,q4,q5,qz⟩:=zS hB0;clear h htab hnone hB0 hb0;go_enter Tryz.func8,Tryz.ntmps8
 go_upto_region 2 with(go_at_call 25;(refine HTH.out.mono ?_;rintro ee w1 ⟨csr,rfl,hn1,hb1⟩;obtain⟨kr,lr,hr',zr,pr1,pr2,nr1,cr1,nr2,cr2,rfl⟩:=iP hn1;have HN1:=zh hn1;have HB1:=zh (HB0.out.trans (hb1.mono HB0.out.size));clear hn1 hb1))
 rename_i K1 hK1;have hBr:Blk (w1.alloc (.cells #[.int .u8 kr,.slice pr1 nr1 cr1,.int .i64 lr,.int .i64 hr',.bool zr,.slice pr2 nr2 cr2] 70)) w1.heap.size #[.int .u8 kr,.slice pr1 nr1 cr1,.int .i64 lr,.int .i64 hr',.bool zr,.slice pr2 nr2 cr2] 70:=Blk.new _ _ _;have hbr:Below w1.heap.size w1 (w1.alloc (.cells #[.int .u8 kr,.slice pr1 nr1 cr1,.int .i64 lr,.int .i64 hr',.bool zr,.slice pr2 nr2 cr2] 70)):=zR.alloc zL _;generalize (w1.alloc (.cells #[.int .u8 kr,.slice pr1 nr1 cr1,.int .i64 lr,.int .i64 hr',.bool zr,.slice pr2 nr2 cr2] 70))=W2 at hBr hbr ⊢;have hn2:=ai.go (M:=fun _=>True) (zK hbr) (fun _ _ _=>⟨id,trivial⟩) HN1.out;have HN2:=zh hn2;have HC2:=zh (HTU.out W2 _ hn2);have HBr:=zh hBr;have HB2:=zh (HB1.out.trans (hbr.mono HB1.out.size));obtain⟨d0,d1,d2,d3,d4,d5,dz⟩:=zS hBr;clear hn2 hBr hbr q0 q1 q2 q3 q4 q5 qz;go_upto_region 3 with(go_at_call 26;(refine HC2.out.mono ?_;rintro ee w3 ⟨cso,rfl,hn3,hb3⟩;obtain⟨ko,lo',ho',zo,po1,po2,no1,co1,no2,co2,rfl⟩:=iP hn3;have HN3:=zh hn3;have HB3:=zh hb3;clear hn3 hb3))
 rename_i K3 hK3;have hBo:Blk (w3.alloc (.cells #[.int .u8 ko,.slice po1 no1 co1,.int .i64 lo',.int .i64 ho',.bool zo,.slice po2 no2 co2] 27)) w3.heap.size #[.int .u8 ko,.slice po1 no1 co1,.int .i64 lo',.int .i64 ho',.bool zo,.slice po2 no2 co2] 27:=Blk.new _ _ _;have hbo:Below w3.heap.size w3 (w3.alloc (.cells #[.int .u8 ko,.slice po1 no1 co1,.int .i64 lo',.int .i64 ho',.bool zo,.slice po2 no2 co2] 27)):=zR.alloc zL _;generalize (w3.alloc (.cells #[.int .u8 ko,.slice po1 no1 co1,.int .i64 lo',.int .i64 ho',.bool zo,.slice po2 no2 co2] 27))=W4 at hBo hbo ⊢;have hW4:Below W2.heap.size W2 W4:=HB3.out.trans (hbo.mono HB3.out.size);have hw4:Below w.heap.size w W4:=HB2.out.trans (hW4.mono HB2.out.size);have hBr4:=HBr.out.below hW4 HBr.out.lt;have hr4:=ai.go (M:=fun _=>True) (zK hW4) (fun _ _ _=>⟨id,trivial⟩) HN2.out;have ho4:=ai.go (M:=fun _=>True) (zK hbo) (fun _ _ _=>⟨id,trivial⟩) HN3.out;have tb4:=bF mZ.out (zK hw4) id id (by have:=HN.out.1;omega);have nn4:=HN.out.below hw4;refine tl3 _ rfl rfl rfl hBo ((Oc ho4 hri hnn (by omega) tb4 nn4).mono fun e w' h=>QS h) (fun m w5 o n c er hm kp k7 k8 hb5 hp=>hK3 _ _ ?_);have hn:=hp.1;subst hn;refine Oe (W2:=W4) m hm (kp.at_ 1 (by simp) rfl) (kp.at_ 5 (by simp) rfl) (kp.at_ 6 (by simp) rfl) k7 k8 hp hBr4 hBo hr4 ho4 hri hnn hs tb4 nn4 hb5 (fun m' w' hm' k4 hb'=> ?_);obtain⟨f,rfl⟩:=di hm';have k4:f 4= .bool true:=zI k4;rw[k4];exact bodyPost_ret (v:= .bool true) (by simp[results,Tryz.results8,go_sem]) rfl ⟨rfl,hw4.trans (hb'.mono hw4.size)⟩
variable {v1:Value}
theorem Ai (L:List Sm):right (sU L)=true:=(E5 L (n:=20) (by rw[List.length_take];omega)).right (by omega) (by omega)
theorem Hm {L:List Sm} (h1:xQ N w v1 L) (hL:L.length≤9223372036854775807) (hs:(s.size:Int)≤9223372036854775807) (htab:Lib.Utf8Tabs 0 1 w) (hnone:bu w):
  Calls Tryz.prog 3 #[v1,.string s] w fun e w'=>e= .returned (.bool true)∧Below w.heap.size w w':=by
 obtain⟨o1,c1,rfl⟩:=h1.row.slice;have hmk:=Io h1 hL;have haw:∀w',Below w.heap.size w w'→Calls Tryz.prog 10 #[] w' fun e w''=>e= .returned (.bool true)∧Below w'.heap.size w' w'':=fun w' hb=>Gq w' (bF htab (zK hb) id id (by have:=hnone.1;omega)) (hnone.below hb)
 have htl:∀w' cs,Below w.heap.size w w'→ai (fun q=>w.heap.size≤q) w' (sU L) cs→s.size≤40→Calls Tryz.prog 8 #[.agg cs.toArray,.string s] w' fun e w''=>e= .returned (.bool true)∧Below w'.heap.size w' w'':=fun w' cs hb hn h40=>
  Hl (ai.mono (fun _ _=>trivial) hn) (Ai L) (by have:=DJ L;omega) (by omega) (bF htab (zK hb) id id (by have:=hnone.1;omega)) (hnone.below hb)
 have HMK:=zh hmk;have HAW:=zh haw;have HTL:=zh htl;clear h1 hL hmk haw htl htab hnone;by_cases h40:40<s.size
 ·have h40I:(40:Int)<s.size:=(by omega);go_enter Tryz.func3,Tryz.ntmps3
  go_wp2_with (go_at_call 10;(refine(HAW.out _ zR).mono ?_;rintro ee w3 ⟨rfl,hb3⟩;have HB3:=zh hb3;clear hb3))
  exact bodyPost_ret (v:= .bool true) (by simp[results,Tryz.results3,go_sem]) rfl ⟨rfl,HB3.out⟩
 ·have h40I:decide ((40:Int)<s.size)=false:=decide_eq_false (by omega);have h40J:¬((40:Int)<s.size):=(by omega);have HS:=zh (show s.size≤40 by omega);clear h40;go_enter Tryz.func3,Tryz.ntmps3
  go_wp2_with (first
   |(go_at_call 9;(refine HMK.out.mono ?_;rintro ee w1 ⟨cs,rfl,hn1,hb1⟩;have hcl:=HTL.out w1 cs hb1 hn1 HS.out;obtain⟨k,lo,hi,lz,p1,p2,n1,d1,n2,d2,rfl⟩:=iP hn1;have HB1:=zh hb1;have HCL:=zh hcl;clear hb1 hn1 hcl))
   |(go_at_call 8;(refine HCL.out.mono ?_;rintro ee w2 ⟨rfl,hb2⟩;have HB2:=zh (HB1.out.trans (hb2.mono HB1.out.size));clear hb2))
   |(go_at_call 10;(refine(HAW.out _ HB2.out).mono ?_;rintro ee w3 ⟨rfl,hb3⟩;have HB3:=zh (HB2.out.trans (hb3.mono HB2.out.size));clear hb3)))
  exact bodyPost_ret (v:= .bool true) (by simp[results,Tryz.results3,go_sem]) rfl ⟨rfl,HB3.out⟩
end Go.Proofs.YtnhjakdmbfadlaaGreatDoor
