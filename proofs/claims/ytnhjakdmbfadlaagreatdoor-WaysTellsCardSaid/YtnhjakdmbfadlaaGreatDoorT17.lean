/- Parts of the proof. Conditions: none. -/
import Derived.Test.YtnhjakdmbfadlaaGreatDoorT04
import Derived.Deep.DeepCutAuto
import Derived.Deep.CutRange
import Derived.Test.YtnhjakdmbfadlaaGreatDoorT00
import Derived.Outline
import Derived.Test.YtnhjakdmbfadlaaGreatDoorT02
import Derived.Test.YtnhjakdmbfadlaaGreatDoorT16
set_option linter.all false
set_option maxHeartbeats 8000000
set_option maxRecDepth 100000
namespace Go.Proofs.YtnhjakdmbfadlaaGreatDoor
open Go.RowKit Wy Mem Grow
variable {lazy:Bool} {hi k lo:Int} {subs:List Nd} {set:List Rg} {ucs:List Value} {cu:Nat} {N:Nat→Prop} {ou:Option Addr} {Wa w:World}
theorem jc (hr:Row N w (.slice ou subs.length cu) subs.length 6 ucs) (hn:au N w subs ucs) (hb:Below w.heap.size w Wa) {i:Nat} (hi:i<subs.length):
  ∃(ub uo:Nat) (k lo hi':Int) (lz:Bool) (o1 o2:Option Addr) (n1 c1 n2 c2:Nat),ou=some ⟨ub,uo,none⟩∧subs.length≤cu∧ub<Wa.heap.size∧
   Wa.cell? ⟨ub,uo+i*6,none⟩=some (.int .u8 k)∧Wa.cell? ⟨ub,uo+i*6+1,none⟩=some (.slice o1 n1 c1)∧Wa.cell? ⟨ub,uo+i*6+2,none⟩=some (.int .i64 lo)∧Wa.cell? ⟨ub,uo+i*6+3,none⟩=some (.int .i64 hi')∧Wa.cell? ⟨ub,uo+i*6+4,none⟩=some (.bool lz)∧Wa.cell? ⟨ub,uo+i*6+5,none⟩=some (.slice o2 n2 c2)∧
   ai N Wa subs[i] [.int .u8 k,.slice o1 n1 c1,.int .i64 lo,.int .i64 hi',.bool lz,.slice o2 n2 c2]:=by
 obtain⟨ub,uo,uc,hue,huc,hum,Fz,bg,gB⟩:=hr.parts hn (by omega);simp only[Value.slice.injEq,true_and] at hue;obtain⟨rfl,rfl⟩:=hue;obtain⟨tsv,tuv,hnt,t0,t1,t2,t3,t4,t5⟩:=gB i hi;obtain⟨k',lo',Sj,lz',o1,o2,n1,c1,n2,c2,he⟩:=iP hnt;simp only[List.cons.injEq,Value.int.injEq,Value.bool.injEq,true_and,and_true] at he;obtain⟨rfl,rfl,rfl,rfl,rfl,rfl⟩:=he;refine⟨ub,uo,_,_,_,_,o1,o2,n1,c1,n2,c2,rfl,huc,by have:=hb.size;omega,(hb.cell (p:=⟨ub,uo+i*6,none⟩) bg).trans t0,(hb.cell (p:=⟨ub,uo+i*6+1,none⟩) bg).trans t1,(hb.cell (p:=⟨ub,uo+i*6+2,none⟩) bg).trans t2,(hb.cell (p:=⟨ub,uo+i*6+3,none⟩) bg).trans t3,(hb.cell (p:=⟨ub,uo+i*6+4,none⟩) bg).trans t4,(hb.cell (p:=⟨ub,uo+i*6+5,none⟩) bg).trans t5,ai.go (zK hb) (fun q _ hq=>⟨id,hq⟩) hnt⟩
mutual
theorem rX:∀t:Nd,opened t≤nodes t
 | .mk k set lo hi lazy subs=>by
  have:=lU subs;rw[opened,nodes];split<;>omega
theorem lU:∀l:List Nd,aj l≤aF l
 |[]=>by simp[aj,aF]
 |s::r=>by
  have h1:=rX s;have h2:=lU r;rw[aj,aF];omega
end
def zu (t:Nd):Prop:=∀(N:Nat→Prop) (w:World) (cs:List Value),ai N w t cs→nodes t≤1000000→
 Calls Tryz.prog 61 #[.agg cs.toArray] w fun e w'=>e= .returned (.int .i64 (opened t))∧Below w.heap.size w w'
theorem Jc (ih:∀s∈subs,zu s):zu (.mk k set lo hi lazy subs):=by
 intro N w cs hnd hno;rw[ai] at hnd;obtain⟨sv,uv,ucs,rfl,hk,hlo,hhi,hset,hrow,hsubs⟩:=hnd;obtain⟨os,cs,rfl⟩:=hset.row.slice;obtain⟨ou,cu,rfl⟩:=hrow.slice;have HIH:=zh ih;have dQ:=zh hrow;have eY:=zh hsubs;have hsl:(subs.length:Int)≤1048576:=(by omega);have Bi:aF subs+1≤1000000:=by rw[nodes] at hno;exact hno
 have HNO:=zh Bi;obtain⟨e,he⟩:∃e,e=if k=6 then 1 else 0:=⟨_,rfl⟩
 have HE:=zh he;have he1:e≤1:=by rw[he];split<;>omega
 clear ih hset hrow hsubs hno Bi he;go_enter Tryz.func61,Tryz.ntmps61
 go_upto_region 2 with fail
 have hB:Blk (w.alloc (.cells #[.int .u8 k,.slice os set.length cs,.int .i64 lo,.int .i64 hi,.bool lazy,.slice ou subs.length cu] 70)) w.heap.size #[.int .u8 k,.slice os set.length cs,.int .i64 lo,.int .i64 hi,.bool lazy,.slice ou subs.length cu] 70:=Blk.new _ _ _;have hbW:Below w.heap.size w (w.alloc (.cells #[.int .u8 k,.slice os set.length cs,.int .i64 lo,.int .i64 hi,.bool lazy,.slice ou subs.length cu] 70)):=zR.alloc zL _;generalize (w.alloc (.cells #[.int .u8 k,.slice os set.length cs,.int .i64 lo,.int .i64 hi,.bool lazy,.slice ou subs.length cu] 70))=W at hB hbW ⊢;have d0:W.cell? ⟨w.heap.size,0,none⟩=some (.int .u8 k):=hB.cell 0;have dz:=hB.lt;have HB:=zh hB;have HBW:=zh hbW;clear hB hbW;by_cases h6:k=6
 ·have h6b:(k == 6)=true:=by simpa using h6
  have HH:=zh h6;clear h6
  go_wp2_with fail
  go_loopw [3,4] (fun s3 s4 wx=>∃i:Nat,i≤subs.length∧s4= .int .i64 i∧s3= .int .i64 ((e+aj (subs.take i):Nat):Int)∧Below W.heap.size W wx) (fun _ s4 _=>subs.length-(intOf s4).toNat)
  case atStart=>exact⟨0,by omega,rfl,by rw[HE.out,List.take_zero,aj];rw[if_pos HH.out];rfl,zR⟩
  case round=>
   rename World=>Wa
   obtain⟨i,hi',rfl,rfl,hba⟩:=hrel;have HBA:=zh hba;have y5:Wa.cell? ⟨w.heap.size,5,none⟩=some (.slice ou subs.length cu):=(HB.out.below hba HB.out.lt).cell 5;have yz:=(HB.out.below hba HB.out.lt).lt;by_cases hil:i<subs.length
   ·obtain⟨ub,uo,tk,tl,th,tz,o1,o2,n1,c1,n2,c2,rfl,huc,bg,g0,g1,g2,g3,g4,g5,hnt⟩:=jc dQ.out eY.out (HBW.out.trans (hba.mono HBW.out.size)) hil;have pO:(i:Int)<subs.length:=(by omega);have lK:(subs.length:Int)≤cu:=(by omega);have hns:=jw hil;have hnn:=HNO.out;have hol:=lU (subs.take i);have hos:=rX subs[i];have hcall:=HIH.out subs[i] (List.getElem_mem hil) N Wa _ hnt (by omega);have hsn:aj (subs.take (i+1))=aj (subs.take i)+opened subs[i]:=by rw[List.take_succ_eq_append_getElem hil,aV,dO]
    obtain⟨a,ha⟩:∃a,a=aj (subs.take i):=⟨_,rfl⟩;obtain⟨b,hb⟩:∃b,b=opened subs[i]:=⟨_,rfl⟩;rw[←ha] at hol hsn ⊢;rw[←hb] at hos hcall hsn;have ha6:a≤1000000:=(by omega);have hb6:b≤1000000:=(by omega);have HC:=zh hcall;have HSN:=zh hsn;clear hcall hsn hnt hba ha hb hns hnn hol hos
    go_wp2_with (go_at_call 61;(refine HC.out.mono ?_;rintro ee w5 ⟨rfl,hb5⟩;have HB5:=zh (HBA.out.trans (hb5.mono HBA.out.size));clear hb5))
    go_roundw
    case rel=>exact⟨i+1,by omega,by go_num,by rw[HSN.out];congr 1;omega,HB5.out⟩
    case measure=>simp[intOf];omega
   ·obtain rfl:i=subs.length:=(by omega);rw[List.take_length];clear hba
    go_wp2_with fail
    go_ret
    exact⟨by rw[opened,←HE.out];rfl,HBW.out.trans (HBA.out.mono HBW.out.size)⟩
 ·have h6b:(k == 6)=false:=by simpa using h6
  have HH:=zh h6;clear h6
  go_wp2_with fail
  go_loopw [3,4] (fun s3 s4 wx=>∃i:Nat,i≤subs.length∧s4= .int .i64 i∧s3= .int .i64 ((e+aj (subs.take i):Nat):Int)∧Below W.heap.size W wx) (fun _ s4 _=>subs.length-(intOf s4).toNat)
  case atStart=>exact⟨0,by omega,rfl,by rw[HE.out,List.take_zero,aj];rw[if_neg HH.out];rfl,zR⟩
  case round=>
   rename World=>Wa
   obtain⟨i,hi',rfl,rfl,hba⟩:=hrel;have HBA:=zh hba;have y5:Wa.cell? ⟨w.heap.size,5,none⟩=some (.slice ou subs.length cu):=(HB.out.below hba HB.out.lt).cell 5;have yz:=(HB.out.below hba HB.out.lt).lt;by_cases hil:i<subs.length
   ·obtain⟨ub,uo,tk,tl,th,tz,o1,o2,n1,c1,n2,c2,rfl,huc,bg,g0,g1,g2,g3,g4,g5,hnt⟩:=jc dQ.out eY.out (HBW.out.trans (hba.mono HBW.out.size)) hil;have pO:(i:Int)<subs.length:=(by omega);have lK:(subs.length:Int)≤cu:=(by omega);have hns:=jw hil;have hnn:=HNO.out;have hol:=lU (subs.take i);have hos:=rX subs[i];have hcall:=HIH.out subs[i] (List.getElem_mem hil) N Wa _ hnt (by omega);have hsn:aj (subs.take (i+1))=aj (subs.take i)+opened subs[i]:=by rw[List.take_succ_eq_append_getElem hil,aV,dO]
    obtain⟨a,ha⟩:∃a,a=aj (subs.take i):=⟨_,rfl⟩;obtain⟨b,hb⟩:∃b,b=opened subs[i]:=⟨_,rfl⟩;rw[←ha] at hol hsn ⊢;rw[←hb] at hos hcall hsn;have ha6:a≤1000000:=(by omega);have hb6:b≤1000000:=(by omega);have HC:=zh hcall;have HSN:=zh hsn;clear hcall hsn hnt hba ha hb hns hnn hol hos
    go_wp2_with (go_at_call 61;(refine HC.out.mono ?_;rintro ee w5 ⟨rfl,hb5⟩;have HB5:=zh (HBA.out.trans (hb5.mono HBA.out.size));clear hb5))
    go_roundw
    case rel=>exact⟨i+1,by omega,by go_num,by rw[HSN.out];congr 1;omega,HB5.out⟩
    case measure=>simp[intOf];omega
   ·obtain rfl:i=subs.length:=(by omega);rw[List.take_length];clear hba
    go_wp2_with fail
    go_ret
    exact⟨by rw[opened,←HE.out];rfl,HBW.out.trans (HBA.out.mono HBW.out.size)⟩
theorem oG:∀t:Nd,zu t
 | .mk k set lo hi lazy subs=>Jc (fun s hs=>oG s)
termination_by t=>SizeOf.sizeOf t
decreasing_by
 have:=List.sizeOf_lt_of_mem hs;simp;omega
variable {q:Nat} {tp:Nd} {T:TypeId} {c3 c4 c5:Value} {W:World}
theorem uA {c0 c1 c2:Value} (hB:Blk W q #[c0,c1,c2,c3,c4,c5] T) (hN:N q) (h:ai N W tp [c0,c1,c2,c3,c4,c5]) (hk:0≤k∧k≤255) (hlo:I64 lo) (hhi:I64 hi):
  ai N W (.mk k [] lo hi lazy [tp]) [.int .u8 k,.slice none 0 0,.int .i64 lo,.int .i64 hi,.bool lazy,.slice (some ⟨q,0,none⟩) 1 1]:=by
 rw[ai];refine⟨_,_,[c0,c1,c2,c3,c4,c5],rfl,⟨hk.1,hk.2,by simp⟩,hlo,hhi,⟨⟨rfl,.inl ⟨rfl,_,_,rfl⟩⟩,by simp,by simp⟩,⟨rfl,.inr ⟨q,0,1,rfl,Nat.le_refl _,by unfold maxLen;omega,hN,hB.lt,fun j hj=> ?_⟩⟩,au.one h⟩;rw[Nat.zero_add,hB.cell];simp
def zx (t:Nd):Prop:=∀(N:Nat→Prop) (w:World) (cs:List Value),ai N w t cs→(Wy.look t).shaped=true→
 Calls Tryz.prog 87 #[.agg cs.toArray] w fun e w'=>e= .returned (.bool (Wy.look t).ah)∧Below w.heap.size w w'
theorem Jd (ih:∀s∈subs,zx s):zx (.mk k set lo hi lazy subs):=by
 intro N w cs hnd hsh;rw[ai] at hnd;obtain⟨sv,uv,ucs,rfl,hk,hlo,hhi,hset,hrow,hsubs⟩:=hnd;obtain⟨os,cs,rfl⟩:=hset.row.slice;obtain⟨ou,cu,rfl⟩:=hrow.slice;rw[dM,Bool.and_eq_true,List.all_eq_true] at hsh;obtain⟨hs1,hs2⟩:=hsh;have HIH:=zh (fun s hs N w cs h=>ih s hs N w cs h (hs2 s hs));have dQ:=zh hrow;have eY:=zh hsubs;have hsl:(subs.length:Int)≤1048576:=(by omega);have hl:=kF k set lo hi lazy subs;change _=if k=1 then true else if k=3 then uf subs else if k=5 then oJ subs || decide (lo=0) else oJ subs at hl
 have HL:=zh hl;clear ih hset hrow hsubs hl hs2;have hB:Blk (w.alloc (.cells #[.int .u8 k,.slice os set.length cs,.int .i64 lo,.int .i64 hi,.bool lazy,.slice ou subs.length cu] 70)) w.heap.size #[.int .u8 k,.slice os set.length cs,.int .i64 lo,.int .i64 hi,.bool lazy,.slice ou subs.length cu] 70:=Blk.new _ _ _;have hbW:Below w.heap.size w (w.alloc (.cells #[.int .u8 k,.slice os set.length cs,.int .i64 lo,.int .i64 hi,.bool lazy,.slice ou subs.length cu] 70)):=zR.alloc zL _;have HB0:=zh hB;have jm:=zh hbW;clear hB hbW;by_cases k1:k=1
 ·subst k1;clear hs1;go_enter Tryz.func87,Tryz.ntmps87
  go_wp2_with fail
  go_ret
  exact⟨by rw[HL.out];rfl,jm.out⟩
 have k1b:(k == 1)=false:=by simpa using k1
 by_cases k3:k=3
 ·have hv:(Wy.look (.mk k set lo hi lazy subs)).ah=uf subs:=by rw[HL.out];simp[k3]
  have HV:=zh hv;subst k3;clear hs1 k1 HL hv;go_enter Tryz.func87,Tryz.ntmps87
  go_upto_region 1 with fail
  generalize (w.alloc (.cells #[.int .u8 3,.slice os set.length cs,.int .i64 lo,.int .i64 hi,.bool lazy,.slice ou subs.length cu] 70))=W at HB0 jm ⊢;have d0:W.cell? ⟨w.heap.size,0,none⟩=some (.int .u8 3):=HB0.out.cell 0;have dz:=HB0.out.lt
  go_wp2_with fail
  go_loopw [3] (fun s3 wx=>∃i:Nat,i≤subs.length∧s3= .int .i64 i∧uf (subs.take i)=true∧Below W.heap.size W wx) (fun s3 _=>subs.length-(intOf s3).toNat)
  case atStart=>exact⟨0,by omega,rfl,rfl,zR⟩
  case round=>
   rename World=>Wa
   obtain⟨i,hi',rfl,hal,hba⟩:=hrel;have HBA:=zh hba;have HAL:=zh hal;have y5:Wa.cell? ⟨w.heap.size,5,none⟩=some (.slice ou subs.length cu):=(HB0.out.below hba HB0.out.lt).cell 5;have yz:=(HB0.out.below hba HB0.out.lt).lt;by_cases hil:i<subs.length
   ·obtain⟨ub,uo,tk,tl,th,tz,o1,o2,n1,c1,n2,c2,rfl,huc,bg,g0,g1,g2,g3,g4,g5,hnt⟩:=jc dQ.out eY.out (jm.out.trans (hba.mono jm.out.size)) hil;have pO:(i:Int)<subs.length:=(by omega);have lK:(subs.length:Int)≤cu:=(by omega);have hcall:=HIH.out subs[i] (List.getElem_mem hil) N Wa _ hnt;obtain⟨b,hb⟩:∃b,b=(Wy.look subs[i]).ah:=⟨_,rfl⟩;rw[←hb] at hcall;have hat:=xO hil;rw[←hb] at hat;have hne:b=false→uf subs=false:=fun e=>by
     unfold uf;rw[List.all_eq_false];exact⟨subs[i],List.getElem_mem hil,by rw[←hb,e];simp⟩
    have HC:=zh hcall;have HAT:=zh hat;have HNE:=zh hne;clear hcall hat hne hnt hba hal hb;cases b
    ·go_wp2_with (go_at_call 87;(refine HC.out.mono ?_;rintro ee w5 ⟨rfl,hb5⟩;have HB5:=zh (HBA.out.trans (hb5.mono HBA.out.size));clear hb5))
     go_ret
     exact⟨by rw[HV.out,HNE.out (by first|rfl|trivial)];rfl,jm.out.trans (HB5.out.mono jm.out.size)⟩
    ·go_wp2_with (go_at_call 87;(refine HC.out.mono ?_;rintro ee w5 ⟨rfl,hb5⟩;have HB5:=zh (HBA.out.trans (hb5.mono HBA.out.size));clear hb5))
     go_roundw
     case rel=>exact⟨i+1,by omega,by go_num,by rw[HAT.out,HAL.out];rfl,HB5.out⟩
     case measure=>simp[intOf];omega
   ·obtain rfl:i=subs.length:=(by omega);rw[List.take_length] at hal;have HA:=zh hal;clear hba hal HAL
    go_wp2_with fail
    go_ret
    exact⟨by rw[HV.out,HA.out];rfl,jm.out.trans (HBA.out.mono jm.out.size)⟩
 have k3b:(k == 3)=false:=by simpa using k3
 by_cases k4:k=4
 ·have hv:(Wy.look (.mk k set lo hi lazy subs)).ah=oJ subs:=by rw[HL.out];simp[k4]
  have HV:=zh hv;subst k4;clear hs1 k1 k3 HL hv;go_enter Tryz.func87,Tryz.ntmps87
  go_upto_region 1 with fail
  generalize (w.alloc (.cells #[.int .u8 4,.slice os set.length cs,.int .i64 lo,.int .i64 hi,.bool lazy,.slice ou subs.length cu] 70))=W at HB0 jm ⊢;have d0:W.cell? ⟨w.heap.size,0,none⟩=some (.int .u8 4):=HB0.out.cell 0;have dz:=HB0.out.lt
  go_wp2_with fail
  go_loopw [4] (fun s4 wx=>∃i:Nat,i≤subs.length∧s4= .int .i64 i∧oJ (subs.take i)=false∧Below W.heap.size W wx) (fun s4 _=>subs.length-(intOf s4).toNat)
  case atStart=>exact⟨0,by omega,rfl,rfl,zR⟩
  case round=>
   rename World=>Wa
   obtain⟨i,hi',rfl,hal,hba⟩:=hrel;have HBA:=zh hba;have HAL:=zh hal;have y5:Wa.cell? ⟨w.heap.size,5,none⟩=some (.slice ou subs.length cu):=(HB0.out.below hba HB0.out.lt).cell 5;have yz:=(HB0.out.below hba HB0.out.lt).lt;by_cases hil:i<subs.length
   ·obtain⟨ub,uo,tk,tl,th,tz,o1,o2,n1,c1,n2,c2,rfl,huc,bg,g0,g1,g2,g3,g4,g5,hnt⟩:=jc dQ.out eY.out (jm.out.trans (hba.mono jm.out.size)) hil;have pO:(i:Int)<subs.length:=(by omega);have lK:(subs.length:Int)≤cu:=(by omega);have hcall:=HIH.out subs[i] (List.getElem_mem hil) N Wa _ hnt;obtain⟨b,hb⟩:∃b,b=(Wy.look subs[i]).ah:=⟨_,rfl⟩;rw[←hb] at hcall;have hat:=xN hil;rw[←hb] at hat;have hne:b=true→oJ subs=true:=fun e=>by
     unfold oJ;rw[List.any_eq_true];exact⟨subs[i],List.getElem_mem hil,by rw[←hb,e]⟩
    have HC:=zh hcall;have HAT:=zh hat;have HNE:=zh hne;clear hcall hat hne hnt hba hal hb;cases b
    ·go_wp2_with (go_at_call 87;(refine HC.out.mono ?_;rintro ee w5 ⟨rfl,hb5⟩;have HB5:=zh (HBA.out.trans (hb5.mono HBA.out.size));clear hb5))
     go_roundw
     case rel=>exact⟨i+1,by omega,by go_num,by rw[HAT.out,HAL.out];rfl,HB5.out⟩
     case measure=>simp[intOf];omega
    ·go_wp2_with (go_at_call 87;(refine HC.out.mono ?_;rintro ee w5 ⟨rfl,hb5⟩;have HB5:=zh (HBA.out.trans (hb5.mono HBA.out.size));clear hb5))
     go_ret
     exact⟨by rw[HV.out,HNE.out (by first|rfl|trivial)];rfl,jm.out.trans (HB5.out.mono jm.out.size)⟩
   ·obtain rfl:i=subs.length:=(by omega);rw[List.take_length] at hal;have HA:=zh hal;clear hba hal HAL
    go_wp2_with fail
    go_ret
    exact⟨by rw[HV.out,HA.out];rfl,jm.out.trans (HBA.out.mono jm.out.size)⟩
 have k4b:(k == 4)=false:=by simpa using k4
 by_cases k56:k=5∨k=6
 ·have hlen:subs.length=1:=by
   rw[bT] at hs1;rcases k56 with rfl|rfl
   ·simp at hs1;exact hs1.2
   ·simp at hs1;exact hs1.2.2
  obtain⟨t,rfl⟩:=List.length_eq_one_iff.1 hlen;have hb0:=jm.out;obtain⟨ub,uo,tk,tl,th,tz,o1,o2,n1,c1,n2,c2,rfl,huc,bg,g0,g1,g2,g3,g4,g5,hnt⟩:=jc dQ.out eY.out hb0 (i:=0) (by simp);simp only[Nat.zero_mul,Nat.add_zero,List.getElem_cons_zero] at g0 g1 g2 g3 g4 g5 hnt;have lK:(1:Int)≤cu:=by simp at huc;omega
  have hcall:=HIH.out t (by simp) N _ _ hnt;have hany:oJ [t]=(Wy.look t).ah:=by simp[oJ]
  obtain⟨b,hb⟩:∃b,b=(Wy.look t).ah:=⟨_,rfl⟩;rw[←hb] at hcall hany;have HC:=zh hcall;have HA:=zh hany;have hv5:(Wy.look (.mk k set lo hi lazy [t])).ah=if k=5 then b || decide (lo=0) else b:=by
   rw[HL.out,hany,if_neg k1,if_neg k3]
  have HV:=zh hv5;clear hcall hnt hany hb hv5 HL;go_enter Tryz.func87,Tryz.ntmps87
  go_upto_region 1 with fail
  simp only[List.length_cons,List.length_nil] at HB0 jm HC g0 g1 g2 g3 g4 g5 bg hb0 ⊢;generalize (w.alloc (.cells #[.int .u8 k,.slice os set.length cs,.int .i64 lo,.int .i64 hi,.bool lazy,.slice (some ⟨ub,uo,none⟩) (0+1) cu] 70))=W at HB0 jm HC g0 g1 g2 g3 g4 g5 bg hb0 ⊢;have d0:W.cell? ⟨w.heap.size,0,none⟩=some (.int .u8 k):=HB0.out.cell 0;have d2:W.cell? ⟨w.heap.size,2,none⟩=some (.int .i64 lo):=HB0.out.cell 2;have d5:W.cell? ⟨w.heap.size,5,none⟩=some (.slice (some ⟨ub,uo,none⟩) 1 cu):=HB0.out.cell 5;have dz:=HB0.out.lt;by_cases k5:k=5
  ·have HV5:=zh (by have:=HV.out;rwa [if_pos k5] at this);subst k5;clear hs1 k1 k3 k56 HV hb0;by_cases hl0:lo=0
   ·have Px:(lo == 0)=true:=by simpa using hl0
    have HL0:=zh hl0;clear hl0
    go_wp2_with fail
    go_ret
    exact⟨by rw[HV5.out,HL0.out];simp,jm.out⟩
   ·have Px:(lo == 0)=false:=by simpa using hl0
    have HL0:=zh hl0;clear hl0
    go_wp2_with (go_at_call 87;(refine HC.out.mono ?_;rintro ee w5 ⟨rfl,hb5⟩;have HB5:=zh (jm.out.trans (hb5.mono jm.out.size));clear hb5))
    go_ret
    exact⟨by rw[HV5.out];simp[HL0.out],HB5.out⟩
  ·have k6:k=6:=k56.resolve_left k5;have HV6:=zh (by have:=HV.out;rwa [if_neg k5] at this);subst k6;clear hs1 k1 k3 k56 HV hb0 k5
   go_wp2_with (go_at_call 87;(refine HC.out.mono ?_;rintro ee w5 ⟨rfl,hb5⟩;have HB5:=zh (jm.out.trans (hb5.mono jm.out.size));clear hb5))
   go_ret
   exact⟨by rw[HV6.out];rfl,HB5.out⟩
 ·have k5b:(k == 5)=false:=by simp;omega
  have k6b:(k == 6)=false:=by simp;omega
  have hsub:subs=[]:=by
   rw[bT] at hs1;rw[if_neg (fun e=>k56 (.inl e)),if_neg k1] at hs1;by_cases k2:k=2
   ·rw[if_pos k2] at hs1;simp at hs1;exact hs1.2.2
   ·rw[if_neg k2,if_neg (by omega),if_neg (fun e=>k56 (.inr e))] at hs1;simp at hs1
  subst hsub;have hv:(Wy.look (.mk k set lo hi lazy [])).ah=false:=by
   rw[HL.out,if_neg k1,if_neg k3,if_neg (fun e=>k56 (.inl e))]
   rfl
  have HV:=zh hv;clear hs1 hv HL k56;go_enter Tryz.func87,Tryz.ntmps87
  go_wp2_with fail
  go_ret
  exact⟨by rw[HV.out];rfl,jm.out⟩
theorem zy:∀t:Nd,zx t
 | .mk k set lo hi lazy subs=>Jd (fun s hs=>zy s)
termination_by t=>SizeOf.sizeOf t
decreasing_by
 have:=List.sizeOf_lt_of_mem hs;simp;omega
def zD (t:Nd):Prop:=∀(N:Nat→Prop) (w:World) (cs:List Value),ai N w t cs→(Wy.look t).shaped=true→(Wy.look t).bC=true→
 Calls Tryz.prog 63 #[.agg cs.toArray] w fun e w'=>e= .returned (.bool true)∧Below w.heap.size w w'
theorem Je (ih:∀s∈subs,zD s):zD (.mk k set lo hi lazy subs):=by
 intro N w cs hnd hsh hfi;rw[ai] at hnd;obtain⟨sv,uv,ucs,rfl,hk,hlo,hhi,hset,hrow,hsubs⟩:=hnd;obtain⟨os,cs,rfl⟩:=hset.row.slice;obtain⟨ou,cu,rfl⟩:=hrow.slice;rw[dM,Bool.and_eq_true,List.all_eq_true] at hsh;obtain⟨hs1,hs2⟩:=hsh;rw[iI,Bool.and_eq_true,List.all_eq_true] at hfi;obtain⟨hf1,hf2⟩:=hfi;have HIH:=zh (fun s hs N w cs h=>ih s hs N w cs h (hs2 s hs) (hf1 s hs));have HSH:=zh hs2;have dQ:=zh hrow;have eY:=zh hsubs;have hsl:(subs.length:Int)≤1048576:=(by omega);clear ih hset hrow hsubs hs2 hf1;go_enter Tryz.func63,Tryz.ntmps63
 go_upto_region 1 with fail
 have hB:Blk (w.alloc (.cells #[.int .u8 k,.slice os set.length cs,.int .i64 lo,.int .i64 hi,.bool lazy,.slice ou subs.length cu] 70)) w.heap.size #[.int .u8 k,.slice os set.length cs,.int .i64 lo,.int .i64 hi,.bool lazy,.slice ou subs.length cu] 70:=Blk.new _ _ _;have hbW:Below w.heap.size w (w.alloc (.cells #[.int .u8 k,.slice os set.length cs,.int .i64 lo,.int .i64 hi,.bool lazy,.slice ou subs.length cu] 70)):=zR.alloc zL _;generalize (w.alloc (.cells #[.int .u8 k,.slice os set.length cs,.int .i64 lo,.int .i64 hi,.bool lazy,.slice ou subs.length cu] 70))=W at hB hbW ⊢;have HB:=zh hB;have HBW:=zh hbW;clear hB hbW;by_cases k5:k=5
 ·subst k5;have hl5:hi= -1∨0≤hi:=by
   rw[bT] at hs1;simp at hs1;omega
  by_cases hm:hi= -1∨1<hi
  ·have jQ:∀s∈subs,(Wy.look s).ah=false:=by
    have:(decide (hi= -1) || decide (1<hi))=true:=by simpa using hm
    rw[this] at hf2;intro s hs
    simpa using (by simpa using hf2:∀x∈subs,(Wy.look x).ah=false) s hs
   have F9:=zh jQ;clear hs1 hf2 jQ;by_cases hneg:hi= -1
   ·have OE:decide (hi<0)=true:=by simp;omega
    clear hm hl5 hneg
    go_wp2_with fail
    go_loopw [3] (fun s3 wx=>∃i:Nat,i≤subs.length∧s3= .int .i64 i∧Below W.heap.size W wx) (fun s3 _=>subs.length-(intOf s3).toNat)
    case atStart=>exact⟨0,by omega,rfl,zR⟩
    case round=>
     rename World=>Wa
     obtain⟨i,hi',rfl,hba⟩:=hrel;have HBA:=zh hba;have y0:Wa.cell? ⟨w.heap.size,0,none⟩=some (.int .u8 5):=(HB.out.below hba HB.out.lt).cell 0;have y3:Wa.cell? ⟨w.heap.size,3,none⟩=some (.int .i64 hi):=(HB.out.below hba HB.out.lt).cell 3;have y5:Wa.cell? ⟨w.heap.size,5,none⟩=some (.slice ou subs.length cu):=(HB.out.below hba HB.out.lt).cell 5;have yz:=(HB.out.below hba HB.out.lt).lt;by_cases hil:i<subs.length
     ·obtain⟨ub,uo,tk,tl,th,tz,o1,o2,n1,c1,n2,c2,rfl,huc,bg,g0,g1,g2,g3,g4,g5,hnt⟩:=jc dQ.out eY.out (HBW.out.trans (hba.mono HBW.out.size)) hil;have pO:(i:Int)<subs.length:=(by omega);have lK:(subs.length:Int)≤cu:=(by omega);have hcall:=HIH.out subs[i] (List.getElem_mem hil) N Wa _ hnt;have HC:=zh hcall;have HNT:=zh hnt;clear hcall hnt hba;have hsi:=HSH.out subs[i] (List.getElem_mem hil);have hcn:=zy subs[i] N;have hnl:=F9.out subs[i] (List.getElem_mem hil);have HCN:=zh (fun(w5:World) (cs:List Value) (h:ai N w5 subs[i] cs)=>(hnl ▸ hcn w5 cs h hsi:Calls Tryz.prog 87 #[.agg cs.toArray] w5 fun e w'=>e= .returned (.bool false)∧Below w5.heap.size w5 w'));clear hsi hcn hnl
      go_wp2_with (first|(go_at_call 63;(refine HC.out.mono ?_;rintro ee w5 ⟨rfl,hb5⟩;have HB5:=zh (HBA.out.trans (hb5.mono HBA.out.size));have z0:w5.cell? ⟨w.heap.size,0,none⟩=some (.int .u8 5):=(HB.out.below HB5.out HB.out.lt).cell 0;have z3:w5.cell? ⟨w.heap.size,3,none⟩=some (.int .i64 hi):=(HB.out.below HB5.out HB.out.lt).cell 3;have z5:w5.cell? ⟨w.heap.size,5,none⟩=some (.slice (some ⟨ub,uo,none⟩) subs.length cu):=(HB.out.below HB5.out HB.out.lt).cell 5;have zz:=(HB.out.below HB5.out HB.out.lt).lt;have G0:=(hb5.cell (p:=⟨ub,uo+i*6,none⟩) bg).trans g0;have G1:=(hb5.cell (p:=⟨ub,uo+i*6+1,none⟩) bg).trans g1;have G2:=(hb5.cell (p:=⟨ub,uo+i*6+2,none⟩) bg).trans g2;have G3:=(hb5.cell (p:=⟨ub,uo+i*6+3,none⟩) bg).trans g3;have G4:=(hb5.cell (p:=⟨ub,uo+i*6+4,none⟩) bg).trans g4;have G5:=(hb5.cell (p:=⟨ub,uo+i*6+5,none⟩) bg).trans g5;have hub5:ub<w5.heap.size:=Nat.lt_of_lt_of_le bg hb5.size;have HC5:=zh (HCN.out w5 _ (ai.go (zK hb5) (fun q _ hq=>⟨id,hq⟩) HNT.out));clear hb5))|(go_at_call 87;(refine HC5.out.mono ?_;rintro ee w6 ⟨rfl,hb6⟩;have HB6:=zh (HB5.out.trans (hb6.mono HB5.out.size));clear hb6)))
      go_roundw
      case rel=>exact⟨i+1,by omega,by go_num,HB6.out⟩
      case measure=>simp[intOf];omega
     ·obtain rfl:i=subs.length:=(by omega);clear hba
      go_wp2_with fail
      go_ret
      exact⟨rfl,HBW.out.trans (HBA.out.mono HBW.out.size)⟩
   ·have hp:1<hi:=hm.resolve_left hneg;have OE:decide (hi<0)=false:=by simp;omega
    have hpb:decide (1<hi)=true:=by simp;omega
    clear hm hl5 hneg
    go_wp2_with fail
    go_loopw [3] (fun s3 wx=>∃i:Nat,i≤subs.length∧s3= .int .i64 i∧Below W.heap.size W wx) (fun s3 _=>subs.length-(intOf s3).toNat)
    case atStart=>exact⟨0,by omega,rfl,zR⟩
    case round=>
     rename World=>Wa
     obtain⟨i,hi',rfl,hba⟩:=hrel;have HBA:=zh hba;have y0:Wa.cell? ⟨w.heap.size,0,none⟩=some (.int .u8 5):=(HB.out.below hba HB.out.lt).cell 0;have y3:Wa.cell? ⟨w.heap.size,3,none⟩=some (.int .i64 hi):=(HB.out.below hba HB.out.lt).cell 3;have y5:Wa.cell? ⟨w.heap.size,5,none⟩=some (.slice ou subs.length cu):=(HB.out.below hba HB.out.lt).cell 5;have yz:=(HB.out.below hba HB.out.lt).lt;by_cases hil:i<subs.length
     ·obtain⟨ub,uo,tk,tl,th,tz,o1,o2,n1,c1,n2,c2,rfl,huc,bg,g0,g1,g2,g3,g4,g5,hnt⟩:=jc dQ.out eY.out (HBW.out.trans (hba.mono HBW.out.size)) hil;have pO:(i:Int)<subs.length:=(by omega);have lK:(subs.length:Int)≤cu:=(by omega);have hcall:=HIH.out subs[i] (List.getElem_mem hil) N Wa _ hnt;have HC:=zh hcall;have HNT:=zh hnt;clear hcall hnt hba;have hsi:=HSH.out subs[i] (List.getElem_mem hil);have hcn:=zy subs[i] N;have hnl:=F9.out subs[i] (List.getElem_mem hil);have HCN:=zh (fun(w5:World) (cs:List Value) (h:ai N w5 subs[i] cs)=>(hnl ▸ hcn w5 cs h hsi:Calls Tryz.prog 87 #[.agg cs.toArray] w5 fun e w'=>e= .returned (.bool false)∧Below w5.heap.size w5 w'));clear hsi hcn hnl
      go_wp2_with (first|(go_at_call 63;(refine HC.out.mono ?_;rintro ee w5 ⟨rfl,hb5⟩;have HB5:=zh (HBA.out.trans (hb5.mono HBA.out.size));have z0:w5.cell? ⟨w.heap.size,0,none⟩=some (.int .u8 5):=(HB.out.below HB5.out HB.out.lt).cell 0;have z3:w5.cell? ⟨w.heap.size,3,none⟩=some (.int .i64 hi):=(HB.out.below HB5.out HB.out.lt).cell 3;have z5:w5.cell? ⟨w.heap.size,5,none⟩=some (.slice (some ⟨ub,uo,none⟩) subs.length cu):=(HB.out.below HB5.out HB.out.lt).cell 5;have zz:=(HB.out.below HB5.out HB.out.lt).lt;have G0:=(hb5.cell (p:=⟨ub,uo+i*6,none⟩) bg).trans g0;have G1:=(hb5.cell (p:=⟨ub,uo+i*6+1,none⟩) bg).trans g1;have G2:=(hb5.cell (p:=⟨ub,uo+i*6+2,none⟩) bg).trans g2;have G3:=(hb5.cell (p:=⟨ub,uo+i*6+3,none⟩) bg).trans g3;have G4:=(hb5.cell (p:=⟨ub,uo+i*6+4,none⟩) bg).trans g4;have G5:=(hb5.cell (p:=⟨ub,uo+i*6+5,none⟩) bg).trans g5;have hub5:ub<w5.heap.size:=Nat.lt_of_lt_of_le bg hb5.size;have HC5:=zh (HCN.out w5 _ (ai.go (zK hb5) (fun q _ hq=>⟨id,hq⟩) HNT.out));clear hb5))|(go_at_call 87;(refine HC5.out.mono ?_;rintro ee w6 ⟨rfl,hb6⟩;have HB6:=zh (HB5.out.trans (hb6.mono HB5.out.size));clear hb6)))
      go_roundw
      case rel=>exact⟨i+1,by omega,by go_num,HB6.out⟩
      case measure=>simp[intOf];omega
     ·obtain rfl:i=subs.length:=(by omega);clear hba
      go_wp2_with fail
      go_ret
      exact⟨rfl,HBW.out.trans (HBA.out.mono HBW.out.size)⟩
  ·have OE:decide (hi<0)=false:=by simp;omega
   have hpb:decide (1<hi)=false:=by simp;omega
   clear hm hl5 hs1 hf2
   go_wp2_with fail
   go_loopw [3] (fun s3 wx=>∃i:Nat,i≤subs.length∧s3= .int .i64 i∧Below W.heap.size W wx) (fun s3 _=>subs.length-(intOf s3).toNat)
   case atStart=>exact⟨0,by omega,rfl,zR⟩
   case round=>
    rename World=>Wa
    obtain⟨i,hi',rfl,hba⟩:=hrel;have HBA:=zh hba;have y0:Wa.cell? ⟨w.heap.size,0,none⟩=some (.int .u8 5):=(HB.out.below hba HB.out.lt).cell 0;have y3:Wa.cell? ⟨w.heap.size,3,none⟩=some (.int .i64 hi):=(HB.out.below hba HB.out.lt).cell 3;have y5:Wa.cell? ⟨w.heap.size,5,none⟩=some (.slice ou subs.length cu):=(HB.out.below hba HB.out.lt).cell 5;have yz:=(HB.out.below hba HB.out.lt).lt;by_cases hil:i<subs.length
    ·obtain⟨ub,uo,tk,tl,th,tz,o1,o2,n1,c1,n2,c2,rfl,huc,bg,g0,g1,g2,g3,g4,g5,hnt⟩:=jc dQ.out eY.out (HBW.out.trans (hba.mono HBW.out.size)) hil;have pO:(i:Int)<subs.length:=(by omega);have lK:(subs.length:Int)≤cu:=(by omega);have hcall:=HIH.out subs[i] (List.getElem_mem hil) N Wa _ hnt;have HC:=zh hcall;have HNT:=zh hnt;clear hcall hnt hba
     go_wp2_with (go_at_call 63;(refine HC.out.mono ?_;rintro ee w5 ⟨rfl,hb5⟩;have HB5:=zh (HBA.out.trans (hb5.mono HBA.out.size));have z0:w5.cell? ⟨w.heap.size,0,none⟩=some (.int .u8 5):=(HB.out.below HB5.out HB.out.lt).cell 0;have z3:w5.cell? ⟨w.heap.size,3,none⟩=some (.int .i64 hi):=(HB.out.below HB5.out HB.out.lt).cell 3;have z5:w5.cell? ⟨w.heap.size,5,none⟩=some (.slice (some ⟨ub,uo,none⟩) subs.length cu):=(HB.out.below HB5.out HB.out.lt).cell 5;have zz:=(HB.out.below HB5.out HB.out.lt).lt;clear hb5))
     go_roundw
     case rel=>exact⟨i+1,by omega,by go_num,HB5.out⟩
     case measure=>simp[intOf];omega
    ·obtain rfl:i=subs.length:=(by omega);clear hba
     go_wp2_with fail
     go_ret
     exact⟨rfl,HBW.out.trans (HBA.out.mono HBW.out.size)⟩
 ·have k5b:(k == 5)=false:=by simpa using k5
  clear hs1 hf2 k5
  go_wp2_with fail
  go_loopw [3] (fun s3 wx=>∃i:Nat,i≤subs.length∧s3= .int .i64 i∧Below W.heap.size W wx) (fun s3 _=>subs.length-(intOf s3).toNat)
  case atStart=>exact⟨0,by omega,rfl,zR⟩
  case round=>
   rename World=>Wa
   obtain⟨i,hi',rfl,hba⟩:=hrel;have HBA:=zh hba;have y0:Wa.cell? ⟨w.heap.size,0,none⟩=some (.int .u8 k):=(HB.out.below hba HB.out.lt).cell 0;have y3:Wa.cell? ⟨w.heap.size,3,none⟩=some (.int .i64 hi):=(HB.out.below hba HB.out.lt).cell 3;have y5:Wa.cell? ⟨w.heap.size,5,none⟩=some (.slice ou subs.length cu):=(HB.out.below hba HB.out.lt).cell 5;have yz:=(HB.out.below hba HB.out.lt).lt;by_cases hil:i<subs.length
   ·obtain⟨ub,uo,tk,tl,th,tz,o1,o2,n1,c1,n2,c2,rfl,huc,bg,g0,g1,g2,g3,g4,g5,hnt⟩:=jc dQ.out eY.out (HBW.out.trans (hba.mono HBW.out.size)) hil;have pO:(i:Int)<subs.length:=(by omega);have lK:(subs.length:Int)≤cu:=(by omega);have hcall:=HIH.out subs[i] (List.getElem_mem hil) N Wa _ hnt;have HC:=zh hcall;have HNT:=zh hnt;clear hcall hnt hba
    go_wp2_with (go_at_call 63;(refine HC.out.mono ?_;rintro ee w5 ⟨rfl,hb5⟩;have HB5:=zh (HBA.out.trans (hb5.mono HBA.out.size));have z0:w5.cell? ⟨w.heap.size,0,none⟩=some (.int .u8 k):=(HB.out.below HB5.out HB.out.lt).cell 0;have z3:w5.cell? ⟨w.heap.size,3,none⟩=some (.int .i64 hi):=(HB.out.below HB5.out HB.out.lt).cell 3;have z5:w5.cell? ⟨w.heap.size,5,none⟩=some (.slice (some ⟨ub,uo,none⟩) subs.length cu):=(HB.out.below HB5.out HB.out.lt).cell 5;have zz:=(HB.out.below HB5.out HB.out.lt).lt;clear hb5))
    go_roundw
    case rel=>exact⟨i+1,by omega,by go_num,HB5.out⟩
    case measure=>simp[intOf];omega
   ·obtain rfl:i=subs.length:=(by omega);clear hba
    go_wp2_with fail
    go_ret
    exact⟨rfl,HBW.out.trans (HBA.out.mono HBW.out.size)⟩
theorem zF:∀t:Nd,zD t
 | .mk k set lo hi lazy subs=>Je (fun s hs=>zF s)
termination_by t=>SizeOf.sizeOf t
decreasing_by
 have:=List.sizeOf_lt_of_mem hs;simp;omega
def maxD (l:List Nd):Int:=l.foldl (fun d s=>max d (Wy.look s).depth) 0
theorem qP (k:Int):∀(l:List Nd) (f:Facts),(dw k f l).depth=l.foldl (fun d s=>max d (Wy.look s).depth) f.depth
 |[],f=>by rw[dw];rfl
 |s::r,f=>by rw[dw,qP k r,List.foldl_cons]
theorem oV (k:Int) (set:List Rg) (lo hi:Int) (lazy:Bool) (subs:List Nd):(Wy.look (.mk k set lo hi lazy subs)).depth=maxD subs+1:=by
 rw[Wy.look];simp only[qP]
 rfl
theorem foldl_max:∀(l:List Nd) (d:Int),l.foldl (fun d s=>max d (Wy.look s).depth) d=max d (l.foldl (fun d s=>max d (Wy.look s).depth) d)∧(∀n:Int,d≤n→(∀s∈l,(Wy.look s).depth≤n)→l.foldl (fun d s=>max d (Wy.look s).depth) d≤n)
 |[],d=>⟨by simp,fun n h _=>h⟩
 |s::r,d=>by
  obtain⟨h1,h2⟩:=foldl_max r (max d (Wy.look s).depth);rw[List.foldl_cons];refine⟨by omega,fun n hd hl=>h2 n ?_ (fun t ht=>hl t (List.mem_cons_of_mem _ ht))⟩;have:=hl s (by simp);omega
theorem oH:∀{l:List Nd} {s:Nd},s∈l→nodes s≤aF l
 |a::r,s,h=>by
  rw[aF];rcases List.mem_cons.1 h with rfl|h
  ·omega
  ·have:=oH h;omega
theorem tJ:∀t:Nd,(Wy.look t).depth≤nodes t
 | .mk k set lo hi lazy subs=>by
  rw[oV,nodes];have:maxD subs≤aF subs:=(foldl_max subs 0).2 _ (by omega) (fun s hs=>by
   have h1:=tJ s;have h2:=oH hs;omega)
  omega
termination_by t=>SizeOf.sizeOf t
decreasing_by
 have:=List.sizeOf_lt_of_mem hs;simp;omega
theorem maxD_le (l:List Nd):0≤maxD l∧maxD l≤aF l:=by
 have h:=foldl_max l 0;refine⟨?_,h.2 _ (by omega) (fun s hs=>by
  have h1:=tJ s;have h2:=oH hs;omega)⟩
 have:=h.1;unfold maxD;omega
def zG (t:Nd):Prop:=∀(N:Nat→Prop) (w:World) (cs:List Value),ai N w t cs→nodes t≤1000000→
 Calls Tryz.prog 64 #[.agg cs.toArray] w fun e w'=>e= .returned (.int .i64 (Wy.look t).depth)∧Below w.heap.size w w'
theorem Jf (ih:∀s∈subs,zG s):zG (.mk k set lo hi lazy subs):=by
 intro N w cs hnd hno;rw[ai] at hnd;obtain⟨sv,uv,ucs,rfl,hk,hlo,hhi,hset,hrow,hsubs⟩:=hnd;obtain⟨os,cs,rfl⟩:=hset.row.slice;obtain⟨ou,cu,rfl⟩:=hrow.slice;have HIH:=zh ih;have dQ:=zh hrow;have eY:=zh hsubs;have hsl:(subs.length:Int)≤1048576:=(by omega);have Bi:aF subs+1≤1000000:=by rw[nodes] at hno;exact hno
 have HNO:=zh Bi;clear ih hset hrow hsubs hno Bi;go_enter Tryz.func64,Tryz.ntmps64
 go_upto_region 2 with fail
 have hB:Blk (w.alloc (.cells #[.int .u8 k,.slice os set.length cs,.int .i64 lo,.int .i64 hi,.bool lazy,.slice ou subs.length cu] 70)) w.heap.size #[.int .u8 k,.slice os set.length cs,.int .i64 lo,.int .i64 hi,.bool lazy,.slice ou subs.length cu] 70:=Blk.new _ _ _;have hbW:Below w.heap.size w (w.alloc (.cells #[.int .u8 k,.slice os set.length cs,.int .i64 lo,.int .i64 hi,.bool lazy,.slice ou subs.length cu] 70)):=zR.alloc zL _;generalize (w.alloc (.cells #[.int .u8 k,.slice os set.length cs,.int .i64 lo,.int .i64 hi,.bool lazy,.slice ou subs.length cu] 70))=W at hB hbW ⊢;have d0:W.cell? ⟨w.heap.size,0,none⟩=some (.int .u8 k):=hB.cell 0;have dz:=hB.lt;have HB:=zh hB;have HBW:=zh hbW;clear hB hbW
 go_wp2_with fail
 go_loopw [3,4] (fun s3 s4 wx=>∃i:Nat,i≤subs.length∧s4= .int .i64 i∧s3= .int .i64 (maxD (subs.take i))∧Below W.heap.size W wx) (fun _ s4 _=>subs.length-(intOf s4).toNat)
 case atStart=>exact⟨0,by omega,rfl,rfl,zR⟩
 case round=>
  rename World=>Wa
  obtain⟨i,hi',rfl,rfl,hba⟩:=hrel;have HBA:=zh hba;have y5:Wa.cell? ⟨w.heap.size,5,none⟩=some (.slice ou subs.length cu):=(HB.out.below hba HB.out.lt).cell 5;have yz:=(HB.out.below hba HB.out.lt).lt;by_cases hil:i<subs.length
  ·obtain⟨ub,uo,tk,tl,th,tz,o1,o2,n1,c1,n2,c2,rfl,huc,bg,g0,g1,g2,g3,g4,g5,hnt⟩:=jc dQ.out eY.out (HBW.out.trans (hba.mono HBW.out.size)) hil;have pO:(i:Int)<subs.length:=(by omega);have lK:(subs.length:Int)≤cu:=(by omega);have hns:=jw hil;have hnn:=HNO.out;have hcall:=HIH.out subs[i] (List.getElem_mem hil) N Wa _ hnt (by omega);have hsn:maxD (subs.take (i+1))=max (maxD (subs.take i)) (Wy.look subs[i]).depth:=by unfold maxD;rw[List.take_succ_eq_append_getElem hil,List.foldl_append];rfl
   obtain⟨a,ha⟩:∃a,a=maxD (subs.take i):=⟨_,rfl⟩;obtain⟨b,hb⟩:∃b,b=(Wy.look subs[i]).depth:=⟨_,rfl⟩;rw[←ha] at hsn ⊢;rw[←hb] at hcall hsn;have HC:=zh hcall;have HSN:=zh hsn;clear hcall hsn hnt hba ha hb hns hnn;by_cases hab:a<b
   ·go_wp2_with (go_at_call 64;(refine HC.out.mono ?_;rintro ee w5 ⟨rfl,hb5⟩;have HB5:=zh (HBA.out.trans (hb5.mono HBA.out.size));clear hb5))
    go_roundw
    case rel=>exact⟨i+1,by omega,by go_num,by rw[HSN.out];congr 1;omega,HB5.out⟩
    case measure=>simp[intOf];omega
   ·have hab':b≤a:=by omega
    go_wp2_with (go_at_call 64;(refine HC.out.mono ?_;rintro ee w5 ⟨rfl,hb5⟩;have HB5:=zh (HBA.out.trans (hb5.mono HBA.out.size));clear hb5))
    go_roundw
    case rel=>exact⟨i+1,by omega,by go_num,by rw[HSN.out];congr 1;omega,HB5.out⟩
    case measure=>simp[intOf];omega
  ·obtain rfl:i=subs.length:=(by omega);rw[List.take_length];have hmb:=maxD_le subs;have hnn:=HNO.out;have hl:=oV k set lo hi lazy subs;obtain⟨a,ha⟩:∃a,a=maxD subs:=⟨_,rfl⟩;rw[←ha] at hmb hl ⊢;have h1:a≤1000000:=(by omega);have h2:0≤a:=hmb.1;have HL:=zh hl;clear hba hmb hnn hl ha
   go_wp2_with fail
   go_ret
   exact⟨by rw[HL.out];rfl,HBW.out.trans (HBA.out.mono HBW.out.size)⟩
theorem zH:∀t:Nd,zG t
 | .mk k set lo hi lazy subs=>Jf (fun s hs=>zH s)
termination_by t=>SizeOf.sizeOf t
decreasing_by
 have:=List.sizeOf_lt_of_mem hs;simp;omega
variable {s:ByteArray} {t:Nd}
def Rdd (t:Nd) (w:World) (e:Ending) (w':World):Prop:=∃cs,e= .returned (.tuple #[.agg cs.toArray,.bool true])∧ai (fun q=>w.heap.size≤q) w' t cs∧Below w.heap.size w w'
def Dy (s:ByteArray) (t:Nd):Prop:=∀w:World,Calls Tryz.prog 62 #[.string s] w (Rdd t w)
def Prd (t:Nd) (w:World) (e:Ending) (w':World):Prop:=∃cs,e= .returned (.tuple #[.agg cs.toArray,.int .i64 0])∧ai (fun q=>w.heap.size≤q) w' t cs∧Below w.heap.size w w'
theorem parse_any (hr:Dy s t) (hs:s.size≤1024) (hsh:(Wy.look t).shaped=true) (hfi:(Wy.look t).bC=true) (hop:opened t≤30) (hdp:(Wy.look t).depth≤40) (hno:nodes t≤1000000) (w:World):
  Calls Tryz.prog 39 #[.string s] w (Prd t w):=by
 have hsI:(s.size:Int)≤1024:=(by omega);have HR:=zh hr;have HF:=zh (fun(N:Nat→Prop) (w:World) (cs:List Value) (h:ai N w t cs)=>zF t N w cs h hsh hfi);have HO:=zh (fun(N:Nat→Prop) (w:World) (cs:List Value) (h:ai N w t cs)=>oG t N w cs h hno);have HL:=zh (fun(N:Nat→Prop) (w:World) (cs:List Value) (h:ai N w t cs)=>zH t N w cs h hno);have hopI:((opened t:Nat):Int)≤30:=(by omega);clear hr hsh hfi hno hop hs;go_enter Tryz.func39,Tryz.ntmps39
 go_upto_region 1 with fail
 have hB:Blk (w.alloc (.cells #[.int .u8 0,.slice none 0 0,.int .i64 0,.int .i64 0,.bool false,.slice none 0 0] 70)) w.heap.size #[.int .u8 0,.slice none 0 0,.int .i64 0,.int .i64 0,.bool false,.slice none 0 0] 70:=Blk.new _ _ _;have hbW:Below w.heap.size w (w.alloc (.cells #[.int .u8 0,.slice none 0 0,.int .i64 0,.int .i64 0,.bool false,.slice none 0 0] 70)):=zR.alloc zL _;have hzW:(w.alloc (.cells #[.int .u8 0,.slice none 0 0,.int .i64 0,.int .i64 0,.bool false,.slice none 0 0] 70)).heap.size=w.heap.size+1:=by simp
 generalize (w.alloc (.cells #[.int .u8 0,.slice none 0 0,.int .i64 0,.int .i64 0,.bool false,.slice none 0 0] 70))=W at hB hbW hzW ⊢;have HB:=zh hB;have HBW:=zh hbW;have HZW:=zh hzW;clear hB hbW hzW;go_upto_region 4 with(go_at_call 62;(refine(HR.out _).mono ?_;rintro ee w5 ⟨cs,rfl,hnt,hb5⟩;obtain⟨tk,tl,th,tz,o1,o2,n1,c1,n2,c2,rfl⟩:=iP hnt;have HNT:=zh hnt;have HB5:=zh hb5;clear hnt hb5))
 have hB4:Blk (w5.alloc (.cells #[.int .u8 tk,.slice o1 n1 c1,.int .i64 tl,.int .i64 th,.bool tz,.slice o2 n2 c2] 70)) w5.heap.size #[.int .u8 tk,.slice o1 n1 c1,.int .i64 tl,.int .i64 th,.bool tz,.slice o2 n2 c2] 70:=Blk.new _ _ _;have hb4:Below w.heap.size w (w5.alloc (.cells #[.int .u8 tk,.slice o1 n1 c1,.int .i64 tl,.int .i64 th,.bool tz,.slice o2 n2 c2] 70)):=(HBW.out.trans (HB5.out.mono HBW.out.size)).alloc (by have:=HBW.out.size;have:=HB5.out.size;omega) _;have hB2:Blk (w5.alloc (.cells #[.int .u8 tk,.slice o1 n1 c1,.int .i64 tl,.int .i64 th,.bool tz,.slice o2 n2 c2] 70)) w.heap.size #[.int .u8 0,.slice none 0 0,.int .i64 0,.int .i64 0,.bool false,.slice none 0 0] 70:=(HB.out.below HB5.out HB.out.lt).alloc _;have uh:ai (fun q=>w.heap.size+1≤q∧q≠w5.heap.size) (w5.alloc (.cells #[.int .u8 tk,.slice o1 n1 c1,.int .i64 tl,.int .i64 th,.bool tz,.slice o2 n2 c2] 70)) t [.int .u8 tk,.slice o1 n1 c1,.int .i64 tl,.int .i64 th,.bool tz,.slice o2 n2 c2]:=ai.go ((Kept.refl (fun _=>False) w5).alloc _) (fun q hq hn=>⟨id,by have:=HZW.out;omega,by omega⟩) HNT.out;have hq4:w.heap.size<w5.heap.size:=by have:=HZW.out;have:=HB5.out.size;omega
 generalize (w5.alloc (.cells #[.int .u8 tk,.slice o1 n1 c1,.int .i64 tl,.int .i64 th,.bool tz,.slice o2 n2 c2] 70))=V at hB4 hb4 hB2 uh ⊢;generalize w5.heap.size=q at hB4 hb4 hB2 uh hq4 ⊢;have hcf:∀w',Below V.heap.size V w'→Calls Tryz.prog 63 #[.agg #[.int .u8 tk,.slice o1 n1 c1,.int .i64 tl,.int .i64 th,.bool tz,.slice o2 n2 c2]] w' fun e w''=>e= .returned (.bool true)∧Below w'.heap.size w' w'':=fun w' hb=>HF.out _ w' _ (ai.go (zK hb) (fun q _ hq=>⟨id,hq⟩) uh)
 have hco:∀w',Below V.heap.size V w'→Calls Tryz.prog 61 #[.agg #[.int .u8 tk,.slice o1 n1 c1,.int .i64 tl,.int .i64 th,.bool tz,.slice o2 n2 c2]] w' fun e w''=>e= .returned (.int .i64 (opened t))∧Below w'.heap.size w' w'':=fun w' hb=>HO.out _ w' _ (ai.go (zK hb) (fun q _ hq=>⟨id,hq⟩) uh)
 have hcl:∀w',Below V.heap.size V w'→Calls Tryz.prog 64 #[.agg #[.int .u8 tk,.slice o1 n1 c1,.int .i64 tl,.int .i64 th,.bool tz,.slice o2 n2 c2]] w' fun e w''=>e= .returned (.int .i64 (Wy.look t).depth)∧Below w'.heap.size w' w'':=fun w' hb=>HL.out _ w' _ (ai.go (zK hb) (fun q _ hq=>⟨id,hq⟩) uh)
 have fin:∀w',Below V.heap.size V w'→Prd t w (.returned (.tuple #[.agg #[.int .u8 tk,.slice o1 n1 c1,.int .i64 tl,.int .i64 th,.bool tz,.slice o2 n2 c2],.int .i64 0])) ((((((w'.setCell ⟨w.heap.size,0,none⟩ (.int .u8 tk)).setCell ⟨w.heap.size,1,none⟩ (.slice o1 n1 c1)).setCell ⟨w.heap.size,2,none⟩ (.int .i64 tl)).setCell ⟨w.heap.size,3,none⟩ (.int .i64 th)).setCell ⟨w.heap.size,4,none⟩ (.bool tz)).setCell ⟨w.heap.size,5,none⟩ (.slice o2 n2 c2))∧Blk ((((((w'.setCell ⟨w.heap.size,0,none⟩ (.int .u8 tk)).setCell ⟨w.heap.size,1,none⟩ (.slice o1 n1 c1)).setCell ⟨w.heap.size,2,none⟩ (.int .i64 tl)).setCell ⟨w.heap.size,3,none⟩ (.int .i64 th)).setCell ⟨w.heap.size,4,none⟩ (.bool tz)).setCell ⟨w.heap.size,5,none⟩ (.slice o2 n2 c2)) w.heap.size #[.int .u8 tk,.slice o1 n1 c1,.int .i64 tl,.int .i64 th,.bool tz,.slice o2 n2 c2] 70:=by
  intro w' hb;have hk:=kX (W:=w') (b:=w.heap.size) (.int .u8 tk) (.slice o1 n1 c1) (.int .i64 tl) (.int .i64 th) (.bool tz) (.slice o2 n2 c2);have h1:=ai.go (M:=fun q=>w.heap.size+1≤q) (zK hb) (fun q _ hq=>⟨id,hq.1⟩) uh;have h2:=ai.go (M:=fun q=>w.heap.size≤q) hk (fun q _ hq=>⟨fun e=>by omega,by omega⟩) h1;exact⟨⟨_,rfl,h2,((Kept.of_below (hb4.trans (hb.mono hb4.size)) (fun q=>q=w.heap.size)).trans hk).below (fun q hq e=>by omega)⟩,gm (hB2.below hb hB2.lt) _ _ _ _ _ _⟩
 have HCF:=zh hcf;have HCO:=zh hco;have HCL:=zh hcl;have bW:=zh fin;have HB4:=zh hB4;have HB2:=zh hB2;have Dx:=zh (Below.refl V.heap.size V);have b0:=hB4.cell 0;have b1:=hB4.cell 1;have b2:=hB4.cell 2;have b3:=hB4.cell 3;have b4:=hB4.cell 4;have b5:=hB4.cell 5;have bz:=hB4.lt;clear hcf hco hcl fin hB4 hb4 hB2 uh HNT HB5 HB HBW HZW HR HF HO HL
 go_wp2_with (first|(go_at_call 63;(refine(HCF.out _ Dx.out).mono ?_;rintro ee w6 ⟨rfl,hb6⟩;have HB6:=zh (Dx.out.trans (hb6.mono Dx.out.size));have B:=HB4.out.below HB6.out HB4.out.lt;obtain⟨b0,b1,b2,b3,b4,b5,bz⟩:=zS B;clear B hb6))|(go_at_call 61;(refine(HCO.out _ HB6.out).mono ?_;rintro ee w7 ⟨rfl,hb7⟩;have HB7:=zh (HB6.out.trans (hb7.mono HB6.out.size));have B:=HB4.out.below HB7.out HB4.out.lt;obtain⟨b0,b1,b2,b3,b4,b5,bz⟩:=zS B;clear B hb7))|(go_at_call 64;(refine(HCL.out _ HB7.out).mono ?_;rintro ee w8 ⟨rfl,hb8⟩;have HB8:=zh (HB7.out.trans (hb8.mono HB7.out.size));have B:=HB4.out.below HB8.out HB4.out.lt;obtain⟨b0,b1,b2,b3,b4,b5,bz⟩:=zS B;have A:=HB2.out.below HB8.out HB2.out.lt;obtain⟨a0,a1,a2,a3,a4,a5,az⟩:=zS A;have af:∀i,w8.frozen? ⟨w.heap.size,i,none⟩=false:=A.frozen;clear A;clear B hb8)))
 have hF:=bW.out _ HB8.out;exact bodyPost_ret (v:= .tuple #[.agg #[.int .u8 tk,.slice o1 n1 c1,.int .i64 tl,.int .i64 th,.bool tz,.slice o2 n2 c2],.int .i64 0]) (by simp[results,Tryz.results39,go_sem,hF.2.cell]) rfl hF.1
theorem Jg (hr:Dy s t) (hs:s.size≤1024) (hsh:(Wy.look t).shaped=true) (hfi:(Wy.look t).bC=true) (hop:opened t≤30) (hdp:(Wy.look t).depth≤40) (hno:nodes t≤1000000) (w:World):
  Calls Tryz.prog 11 #[.string s] w (Trd (fun q=>w.heap.size≤q) t w):=by
 have HP:=zh (parse_any hr hs hsh hfi hop hdp hno);have HT:=zh (qg t);clear hr hs hsh hfi hop hdp hno;go_enter Tryz.func11,Tryz.ntmps11
 go_upto_region 1 with fail
 have hB:Blk (w.alloc (.cells #[.int .u8 0,.slice none 0 0,.int .i64 0,.int .i64 0,.bool false,.slice none 0 0] 27)) w.heap.size #[.int .u8 0,.slice none 0 0,.int .i64 0,.int .i64 0,.bool false,.slice none 0 0] 27:=Blk.new _ _ _;have hbW:Below w.heap.size w (w.alloc (.cells #[.int .u8 0,.slice none 0 0,.int .i64 0,.int .i64 0,.bool false,.slice none 0 0] 27)):=zR.alloc zL _;have hzW:(w.alloc (.cells #[.int .u8 0,.slice none 0 0,.int .i64 0,.int .i64 0,.bool false,.slice none 0 0] 27)).heap.size=w.heap.size+1:=by simp
 generalize (w.alloc (.cells #[.int .u8 0,.slice none 0 0,.int .i64 0,.int .i64 0,.bool false,.slice none 0 0] 27))=W at hB hbW hzW ⊢;have HB:=zh hB;have HBW:=zh hbW;have HZW:=zh hzW;clear hB hbW hzW;go_upto_region 2 with(go_at_call 39;(refine(HP.out _).mono ?_;rintro ee w5 ⟨cs,rfl,hnt,hb5⟩;obtain⟨tk,tl,th,tz,o1,o2,n1,c1,n2,c2,rfl⟩:=iP hnt;have HNT:=zh hnt;have HB5:=zh hb5;clear hnt hb5))
 have hB4:Blk (w5.alloc (.cells #[.int .u8 tk,.slice o1 n1 c1,.int .i64 tl,.int .i64 th,.bool tz,.slice o2 n2 c2] 70)) w5.heap.size #[.int .u8 tk,.slice o1 n1 c1,.int .i64 tl,.int .i64 th,.bool tz,.slice o2 n2 c2] 70:=Blk.new _ _ _;have hb4:Below w.heap.size w (w5.alloc (.cells #[.int .u8 tk,.slice o1 n1 c1,.int .i64 tl,.int .i64 th,.bool tz,.slice o2 n2 c2] 70)):=(HBW.out.trans (HB5.out.mono HBW.out.size)).alloc (by have:=HBW.out.size;have:=HB5.out.size;omega) _;have hB2:Blk (w5.alloc (.cells #[.int .u8 tk,.slice o1 n1 c1,.int .i64 tl,.int .i64 th,.bool tz,.slice o2 n2 c2] 70)) w.heap.size #[.int .u8 0,.slice none 0 0,.int .i64 0,.int .i64 0,.bool false,.slice none 0 0] 27:=(HB.out.below HB5.out HB.out.lt).alloc _;have uh:ai (fun q=>W.heap.size≤q) (w5.alloc (.cells #[.int .u8 tk,.slice o1 n1 c1,.int .i64 tl,.int .i64 th,.bool tz,.slice o2 n2 c2] 70)) t [.int .u8 tk,.slice o1 n1 c1,.int .i64 tl,.int .i64 th,.bool tz,.slice o2 n2 c2]:=ai.go ((Kept.refl (fun _=>False) w5).alloc _) (fun q hq hn=>⟨id,hn⟩) HNT.out;have hs4:w.heap.size<(w5.alloc (.cells #[.int .u8 tk,.slice o1 n1 c1,.int .i64 tl,.int .i64 th,.bool tz,.slice o2 n2 c2] 70)).heap.size:=hB2.lt;generalize (w5.alloc (.cells #[.int .u8 tk,.slice o1 n1 c1,.int .i64 tl,.int .i64 th,.bool tz,.slice o2 n2 c2] 70))=V at hB4 hb4 hB2 uh hs4 ⊢;generalize w5.heap.size=q at hB4 hb4 hB2 uh ⊢;have hc:=HT.out _ V _ uh;have fin:∀w' c0 c1 c2 c3 c4 c5,Below V.heap.size V w'→ai (fun q=>V.heap.size≤q) w' t [c0,c1,c2,c3,c4,c5]→Trd (fun q=>w.heap.size≤q) t w (.returned (.agg #[c0,c1,c2,c3,c4,c5])) ((((((w'.setCell ⟨w.heap.size,0,none⟩ c0).setCell ⟨w.heap.size,1,none⟩ c1).setCell ⟨w.heap.size,2,none⟩ c2).setCell ⟨w.heap.size,3,none⟩ c3).setCell ⟨w.heap.size,4,none⟩ c4).setCell ⟨w.heap.size,5,none⟩ c5)∧Blk ((((((w'.setCell ⟨w.heap.size,0,none⟩ c0).setCell ⟨w.heap.size,1,none⟩ c1).setCell ⟨w.heap.size,2,none⟩ c2).setCell ⟨w.heap.size,3,none⟩ c3).setCell ⟨w.heap.size,4,none⟩ c4).setCell ⟨w.heap.size,5,none⟩ c5) w.heap.size #[c0,c1,c2,c3,c4,c5] 27:=by
  intro w' c0 c1 c2 c3 c4 c5 hb hn;have hk:=kX (W:=w') (b:=w.heap.size) c0 c1 c2 c3 c4 c5;have h2:=ai.go (M:=fun q=>w.heap.size≤q) hk (fun q _ hq=>⟨fun e=>by omega,by omega⟩) hn;exact⟨⟨_,rfl,h2,((Kept.of_below (hb4.trans (hb.mono hb4.size)) (fun q=>q=w.heap.size)).trans hk).below (fun q hq e=>by omega)⟩,gm (hB2.below hb hB2.lt) _ _ _ _ _ _⟩
 have HC:=zh hc;have bW:=zh fin;have HB2:=zh hB2;have b0:=hB4.cell 0;have b1:=hB4.cell 1;have b2:=hB4.cell 2;have b3:=hB4.cell 3;have b4:=hB4.cell 4;have b5:=hB4.cell 5;have bz:=hB4.lt;clear hc fin hB4 hb4 hB2 uh hs4 HNT HB5 HB HBW HZW HP HT
 go_wp2_with (go_at_call 26;(refine HC.out.mono ?_;rintro ee w8 ⟨ds,rfl,hnt,hb8⟩;obtain⟨sk,sl,sh,sz,p1,p2,m1,d1,m2,d2,rfl⟩:=iP hnt;have HNT:=zh hnt;have HB8:=zh hb8;have A:=HB2.out.below HB8.out HB2.out.lt;obtain⟨a0,a1,a2,a3,a4,a5,az⟩:=zS A;have af:∀i,w8.frozen? ⟨w.heap.size,i,none⟩=false:=A.frozen;clear A hnt hb8))
 have hF:=bW.out _ _ _ _ _ _ _ HB8.out HNT.out;exact bodyPost_ret (v:= .agg #[.int .u8 sk,.slice p1 m1 d1,.int .i64 sl,.int .i64 sh,.bool sz,.slice p2 m2 d2]) (by simp[results,Tryz.results11,go_sem,hF.2.cell]) rfl hF.1
end Go.Proofs.YtnhjakdmbfadlaaGreatDoor
