/- Parts of the proof. Conditions: none. -/
import Derived.Test.YtnhjakdmbfadlaaGreatDoorT35
import Derived.Test.YtnhjakdmbfadlaaGreatDoorT17
import Derived.Test.YtnhjakdmbfadlaaGreatDoorT04
import Derived.Test.YtnhjakdmbfadlaaGreatDoorT00
set_option linter.all false
set_option maxHeartbeats 8000000
set_option maxRecDepth 100000
namespace Go.Proofs.YtnhjakdmbfadlaaGreatDoor
open Go.RowKit Wy Mem Grow
variable {lazy:Bool} {Q:Exit→Act→World→Prop} {hi k kk lo:Int} {subs:List Nd} {set:List Rg} {ucs:List Value} {B cu:Nat} {N:Nat→Prop} {ou:Option Addr} {sv:Value} {W:World}
noncomputable def shC (p:List Nat):Code:=gU (way p) (Tryz.f77.body.getD .skip)
theorem je {l:List Value} (h:l.length=118):∃e:Nat→Value,l=[e 0,e 1,e 2,e 3,e 4,e 5,e 6,e 7,e 8,e 9,e 10,e 11,e 12,e 13,e 14,e 15,e 16,e 17,e 18,e 19,e 20,e 21,e 22,e 23,e 24,e 25,e 26,e 27,e 28,e 29,e 30,e 31,e 32,e 33,e 34,e 35,e 36,e 37,e 38,e 39,e 40,e 41,e 42,e 43,e 44,e 45,e 46,e 47,e 48,e 49,e 50,e 51,e 52,e 53,e 54,e 55,e 56,e 57,e 58,e 59,e 60,e 61,e 62,e 63,e 64,e 65,e 66,e 67,e 68,e 69,e 70,e 71,e 72,e 73,e 74,e 75,e 76,e 77,e 78,e 79,e 80,e 81,e 82,e 83,e 84,e 85,e 86,e 87,e 88,e 89,e 90,e 91,e 92,e 93,e 94,e 95,e 96,e 97,e 98,e 99,e 100,e 101,e 102,e 103,e 104,e 105,e 106,e 107,e 108,e 109,e 110,e 111,e 112,e 113,e 114,e 115,e 116,e 117]:=by
 refine⟨fun k=>l.getD k undef,?_⟩;have h2:l=(List.range 118).map fun k=>l.getD k undef:=by
  apply List.ext_getElem
  ·simp[h]
  ·intro i h1 h2;simp[List.getD_eq_getElem?_getD,h1]
 exact h2
theorem GM (h:bT (.mk k set lo hi lazy subs)=true):
  (k=5∧0≤lo∧lo≤1000∧(hi= -1∨lo≤hi∧hi≤1000)∧set.length=0∧subs.length=1)∨(lo=0∧hi=0∧lazy=false∧(k=1∧set.length=0∧subs.length=0∨k=2∧fJ set=true∧subs.length=0∨k=3∧set.length=0∧1<subs.length∨k=4∧set.length=0∧1<subs.length∨k=6∧set.length=0∧subs.length=1)):=by
 rw[bT] at h;by_cases k5:k=5
 ·subst k5;simp only[if_true,Bool.and_eq_true,decide_eq_true_eq,Bool.or_eq_true] at h;obtain⟨⟨⟨⟨a,b⟩,c⟩,d⟩,e⟩:=h;exact .inl ⟨rfl,a,b,c,by rw[d];rfl,e⟩
 ·rw[if_neg k5] at h;simp only[Bool.and_eq_true,decide_eq_true_eq,Bool.not_eq_true'] at h;obtain⟨⟨⟨a,b⟩,c⟩,d⟩:=h;refine .inr ⟨a,b,c,?_⟩;by_cases k1:k=1
  ·rw[if_pos k1] at d;simp only[Bool.and_eq_true,decide_eq_true_eq] at d;exact .inl ⟨k1,by rw[d.1];rfl,by rw[d.2];rfl⟩
  rw[if_neg k1] at d;by_cases k2:k=2
  ·rw[if_pos k2] at d;simp only[Bool.and_eq_true,decide_eq_true_eq] at d;exact .inr (.inl ⟨k2,d.1,by rw[d.2];rfl⟩)
  rw[if_neg k2] at d;by_cases k34:k=3∨k=4
  ·rw[if_pos k34] at d;simp only[Bool.and_eq_true,decide_eq_true_eq] at d;rcases k34 with k3|k4
   ·exact .inr (.inr (.inl ⟨k3,by rw[d.1];rfl,d.2⟩))
   ·exact .inr (.inr (.inr (.inl ⟨k4,by rw[d.1];rfl,d.2⟩)))
  rw[if_neg k34] at d;by_cases k6:k=6
  ·rw[if_pos k6] at d;simp only[Bool.and_eq_true,decide_eq_true_eq] at d;exact .inr (.inr (.inr (.inr ⟨k6,by rw[d.1];rfl,d.2⟩)))
  ·rw[if_neg k6] at d;cases d
def qY (t:Nd):Prop:=∀(N:Nat→Prop) (w:World) (cs:List Value),ai N w t cs→(Wy.look t).shaped=true→
 Calls Tryz.prog 77 #[.agg cs.toArray] w fun e w'=>e= .returned (.bool true)∧Below w.heap.size w w'
theorem NY (e:Nat→Value)
  (ih:∀t∈subs,qY t) (hsh:∀t∈subs,(Wy.look t).shaped=true) (hsl:subs.length≤1048576)
  (hB:Blk W B #[.int .u8 kk,sv,.int .i64 lo,.int .i64 hi,.bool lazy,.slice ou subs.length cu] 70) (hrow:Row N W (.slice ou subs.length cu) subs.length 6 ucs) (hsub:au N W subs ucs)
  (hQ:∀(m:List Value) (w':World),m.length=118→Below W.heap.size W w'→Q (.exit 1) ⟨m.toArray,[]⟩ w'):
  Code.wp Tryz.prog (shC [1,1,1,1,1,1,1,0,1,0]) Q ⟨#[e 0,.pointer (some ⟨B,0,none⟩),e 2,e 3,e 4,.int .i64 0,e 6,e 7,e 8,e 9,e 10,e 11,e 12,e 13,e 14,e 15,e 16,e 17,e 18,e 19,e 20,e 21,e 22,e 23,e 24,e 25,e 26,e 27,e 28,e 29,e 30,e 31,e 32,e 33,e 34,e 35,e 36,e 37,e 38,e 39,e 40,e 41,e 42,e 43,e 44,e 45,e 46,e 47,e 48,e 49,e 50,e 51,e 52,e 53,e 54,e 55,e 56,e 57,e 58,e 59,e 60,e 61,e 62,e 63,e 64,e 65,e 66,e 67,e 68,e 69,e 70,e 71,e 72,e 73,e 74,e 75,e 76,e 77,e 78,e 79,e 80,e 81,e 82,e 83,e 84,e 85,e 86,e 87,e 88,e 89,e 90,e 91,e 92,e 93,e 94,e 95,e 96,e 97,e 98,e 99,e 100,e 101,e 102,e 103,e 104,e 105,e 106,e 107,e 108,e 109,e 110,e 111,e 112,e 113,e 114,e 115,e 116,e 117],[]⟩ W:=by
 have Dq:(subs.length:Int)≤1048576:=(by omega);have HIH:=zh ih;have HSH:=zh hsh;have HB:=zh hB;have lh:=zh (And.intro hrow hsub);have HQ:=zh hQ;have hBz:=hB.lt;clear ih hsh hB hrow hsub hQ;conv=>arg 2;whnf
 go_wp2_with fail
 go_loopw [5] (fun s5 wx=>∃i:Nat,i≤subs.length∧s5= .int .i64 i∧Below W.heap.size W wx) (fun s5 _=>subs.length-(intOf s5).toNat)
 case atStart=>exact⟨0,by omega,rfl,zR⟩
 case round=>
  rename World=>Wa
  obtain⟨i,hi,rfl,hbw⟩:=hrel;have b5:=(HB.out.below hbw hBz).cell 5;have bz:=(HB.out.below hbw hBz).lt;have HBW:=zh hbw;by_cases hil:¬i<subs.length
  ·obtain rfl:i=subs.length:=(by omega);clear hbw hil
   go_wp2_with fail
   exact HQ.out _ _ rfl HBW.out
  ·have hil:i<subs.length:=(by omega);have hiI:(i:Int)<subs.length:=(by omega);obtain⟨ub,uo,k',lo',hi',lz',p1,p2,n1,c1,n2,c2,hue,Gu,bg,t0,t1,t2,t3,t4,t5,hnd⟩:=jc lh.out.1 lh.out.2 hbw hil;subst hue;have lK:(subs.length:Int)≤cu:=(by omega);have HC:=zh (HIH.out _ (List.getElem_mem hil) N Wa _ hnd (HSH.out _ (List.getElem_mem hil)));clear hnd hbw
   go_wp2_with (go_at_call 77;(refine HC.out.mono ?_;rintro e2 w2 ⟨rfl,hb2⟩;have HB2:=zh (HBW.out.trans (hb2.mono HBW.out.size));clear hb2))
   go_roundw
   case rel=>exact⟨i+1,by omega,by go_num,HB2.out⟩
   case measure=>simp[intOf];omega
theorem KJ (m:List Value) (hm:m.length=118) (k1:m[1]? =some (.pointer (some ⟨B,0,none⟩))) (k5:m[5]? =some (.int .i64 0))
  (ih:∀t∈subs,qY t) (hsh:∀t∈subs,(Wy.look t).shaped=true) (hsl:subs.length≤1048576)
  (hB:Blk W B #[.int .u8 kk,sv,.int .i64 lo,.int .i64 hi,.bool lazy,.slice ou subs.length cu] 70) (hrow:Row N W (.slice ou subs.length cu) subs.length 6 ucs) (hsub:au N W subs ucs)
  (hQ:∀(m:List Value) (w':World),m.length=118→Below W.heap.size W w'→Q (.exit 1) ⟨m.toArray,[]⟩ w'):
  Code.wp Tryz.prog (shC [1,1,1,1,1,1,1,0,1,0]) Q ⟨m.toArray,[]⟩ W:=by
 obtain⟨e,rfl⟩:=je hm;rw[zI k1,zI k5];exact NY e ih hsh hsl hB hrow hsub hQ
theorem KL (ih:∀s∈subs,qY s):qY (.mk k set lo hi lazy subs):=by
 intro N w cs hnd hsh;rw[ai] at hnd;obtain⟨sv,uv,ucs,rfl,hk,hlo,hhi,hset,hrow,hsubs⟩:=hnd;obtain⟨os,cs,rfl⟩:=hset.row.slice;obtain⟨ou,cu,rfl⟩:=hrow.slice;rw[dM,Bool.and_eq_true,List.all_eq_true] at hsh;obtain⟨hs1,hs2⟩:=hsh;have hsl:subs.length≤1048576:=hk.2.2;have Dq:(subs.length:Int)≤1048576:=(by omega);have HIH:=zh ih;have HSH:=zh hs2;have dQ:=zh hrow;have eY:=zh hsubs;have vP:=zh hset;have hb0:Below w.heap.size w (w.alloc (.cells #[.int .u8 k,.slice os set.length cs,.int .i64 lo,.int .i64 hi,.bool lazy,.slice ou subs.length cu] 70)):=zR.alloc zL _;have fin:∀(W:World),Below (w.alloc (.cells #[.int .u8 k,.slice os set.length cs,.int .i64 lo,.int .i64 hi,.bool lazy,.slice ou subs.length cu] 70)).heap.size (w.alloc (.cells #[.int .u8 k,.slice os set.length cs,.int .i64 lo,.int .i64 hi,.bool lazy,.slice ou subs.length cu] 70)) W→∀(Q:Exit→Act→World→Prop) (m:List Value),m.length=118→m[1]? =some (.pointer (some ⟨w.heap.size,0,none⟩))→m[5]? =some (.int .i64 0)→(∀(m:List Value) (w':World),m.length=118→Below w.heap.size w w'→Q (.exit 1) ⟨m.toArray,[]⟩ w')→
   Code.wp Tryz.prog (shC [1,1,1,1,1,1,1,0,1,0]) Q ⟨m.toArray,[]⟩ W:=fun W hbW Q m hm k1 k5 hQ=>by
  have hbw:=hb0.trans (hbW.mono hb0.size);have hB:Blk W w.heap.size #[.int .u8 k,.slice os set.length cs,.int .i64 lo,.int .i64 hi,.bool lazy,.slice ou subs.length cu] 70:=(Blk.new w _ _).below hbW (by simp);have k0:Kept (fun _=>False) w W:=Kept.of_below hbw _;exact KJ m hm k1 k5 HIH.out HSH.out hsl hB (gp (M:=N) dQ.out k0 (fun _ _ h=>⟨id,h⟩)) (au.go (M:=N) k0 (fun _ _ h=>⟨id,h⟩) eY.out) (fun m w' h1 h2=>hQ m w' h1 (hbw.trans (h2.mono hbw.size)))
 have FIN:=zh fin;have hres:∀(m:List Value) (w':World),m.length=118→Below w.heap.size w w'→True:=fun _ _ _ _=>trivial
 clear ih hset hrow hsubs hs2 fin hres hk;rcases GM hs1 with⟨rfl,h0,h1,h2,hst,hsb⟩|⟨rfl,rfl,rfl,h⟩
 case inl=>
  have a1:decide (lo<0)=false:=decide_eq_false (by omega);have a2:decide ((1000:Int)<lo)=false:=decide_eq_false (by omega);have a3:decide (hi < -1)=false:=decide_eq_false (by omega);have a4:decide ((1000:Int)<hi)=false:=decide_eq_false (by omega);have h3:decide ((0:Int)≤hi)=false∨(0≤hi∧decide (hi<lo)=false):=by
   by_cases h:0≤hi
   ·exact .inr ⟨h,decide_eq_false (by omega)⟩
   ·exact .inl (decide_eq_false h)
  rw[hst,hsb] at FIN ⊢;clear h2 hsb hst;rcases h3 with h3|⟨h3,h4⟩
  ·go_enter Tryz.func77,Tryz.ntmps77
   go_wp2_with fail
   rename_i K hK;have HK:=zh hK;clear hK;refine FIN.out _ zR _ _ rfl rfl rfl (fun m w' hm hb=> ?_);refine HK.out _ _ ?_;obtain⟨q,rfl⟩:=je hm;have HB9:=zh hb;clear hb hm
   go_wp2_with fail
   exact bodyPost_ret (v:= .bool true) (by simp[results,Tryz.results77,go_sem]) rfl ⟨rfl,HB9.out⟩
  ·go_enter Tryz.func77,Tryz.ntmps77
   go_wp2_with fail
   rename_i K hK;have HK:=zh hK;clear hK;refine FIN.out _ zR _ _ rfl rfl rfl (fun m w' hm hb=> ?_);refine HK.out _ _ ?_;obtain⟨q,rfl⟩:=je hm;have HB9:=zh hb;clear hb hm
   go_wp2_with fail
   exact bodyPost_ret (v:= .bool true) (by simp[results,Tryz.results77,go_sem]) rfl ⟨rfl,HB9.out⟩
 case inr=>
  rcases h with⟨rfl,hst,hsb⟩|⟨rfl,hok,hsb⟩|⟨rfl,hst,hsb⟩|⟨rfl,hst,hsb⟩|⟨rfl,hst,hsb⟩
  ·rw[hst,hsb] at FIN ⊢;go_enter Tryz.func77,Tryz.ntmps77
   go_wp2_with fail
   rename_i K hK;have HK:=zh hK;clear hK;refine FIN.out _ zR _ _ rfl rfl rfl (fun m w' hm hb=> ?_);refine HK.out _ _ ?_;obtain⟨q,rfl⟩:=je hm;have HB9:=zh hb;clear hb hm
   go_wp2_with fail
   exact bodyPost_ret (v:= .bool true) (by simp[results,Tryz.results77,go_sem]) rfl ⟨rfl,HB9.out⟩
  ·have hr6:=yw (sW (M:=N) vP.out (zK hb0) (fun q _ hq=>⟨id,hq⟩)) hok;have HR6:=zh hr6;rw[hsb] at FIN HR6 ⊢;clear hr6;go_enter Tryz.func77,Tryz.ntmps77
   go_wp2_with (go_at_call 96;(refine HR6.out.mono ?_;rintro e2 w2 ⟨rfl,hb2⟩;have HB2:=zh hb2;have hB2:Blk w2 w.heap.size #[.int .u8 2,.slice os set.length cs,.int .i64 0,.int .i64 0,.bool false,.slice ou 0 cu] 70:=(Blk.new w _ _).below hb2 (by simp);obtain⟨c0,c1,c2,c3,c4,c5,cz⟩:=zS hB2;clear hb2 hB2))
   rename_i K hK;have HK:=zh hK;clear hK;refine FIN.out _ (HB2.out) _ _ rfl rfl rfl (fun m w' hm hb=> ?_);refine HK.out _ _ ?_;obtain⟨q,rfl⟩:=je hm;have HB9:=zh hb;clear hb hm
   go_wp2_with fail
   exact bodyPost_ret (v:= .bool true) (by simp[results,Tryz.results77,go_sem]) rfl ⟨rfl,HB9.out⟩
  ·have a2:(2:Int)≤subs.length:=(by omega);have a3:decide ((subs.length:Int)<2)=false:=decide_eq_false (by omega);rw[hst] at FIN ⊢;have HBX:=zh (Blk.new w #[.int .u8 3,.slice os 0 cs,.int .i64 0,.int .i64 0,.bool false,.slice ou subs.length cu] 70);go_enter Tryz.func77,Tryz.ntmps77
   go_wp2_with fail
   apply aJ ?hm ?hok [0,1,2,3,4] [] [0,1,2,3,4] ?hord (fun w'=>w'=(w.alloc (.cells #[.int .u8 3,.slice os 0 cs,.int .i64 0,.int .i64 0,.bool false,.slice ou subs.length cu] 70)).drew) (fun L w'=>L=[]∧w'=(w.alloc (.cells #[.int .u8 3,.slice os 0 cs,.int .i64 0,.int .i64 0,.bool false,.slice ou subs.length cu] 70)).drew)
   case hm=>rfl
   case hok=>kernel_rfl
   case hord=>kernel_rfl
   case hb=>exact fun L' w' h hl=>h.2
   case hw=>exact⟨rfl,rfl⟩
   apply ag (.pointer (some ⟨w.heap.size,5,none⟩)) rfl rfl rfl rfl
   case h=>
    intro W1 hW K hK;obtain⟨-,rfl⟩:=hW;have q5:=HBX.out.cell 5;have qz:=HBX.out.lt
    go_wp2_with fail
    exact hK
   simp only[zP,zQ,zB,zC];apply ag (.slice ou subs.length cu) rfl rfl rfl rfl
   case h=>
    intro W1 hW K hK;obtain⟨-,rfl⟩:=hW;have q5:=HBX.out.cell 5;have qz:=HBX.out.lt
    go_wp2_with fail
    exact hK
   simp only[zP,zQ,zB,zC];apply ag (.int .i64 (subs.length:Nat)) rfl rfl rfl rfl
   case h=>
    intro W1 hW K hK;obtain⟨-,rfl⟩:=hW;have q5:=HBX.out.cell 5;have qz:=HBX.out.lt
    go_wp2_with fail
    exact hK
   simp only[zP,zQ,zB,zC];apply ag (.int .i64 2) rfl rfl rfl rfl
   case h=>
    intro W1 hW K hK;obtain⟨-,rfl⟩:=hW;have q5:=HBX.out.cell 5;have qz:=HBX.out.lt
    go_wp2_with fail
    exact hK
   simp only[zP,zQ,zB,zC];apply ag (.int .i64 (subs.length:Nat)) rfl rfl rfl rfl
   case h=>
    intro W1 hW K hK;obtain⟨-,rfl⟩:=hW;have q5:=HBX.out.cell 5;have qz:=HBX.out.lt
    go_wp2_with fail
    exact hK
   simp only[zP,zQ,zB,zC];refine aG fun W8 h8=> ?_
   obtain⟨-,rfl⟩:=h8;obtain⟨c0,c1,c2,c3,c4,c5,cz⟩:=zS HBX.out
   go_wp2_with fail
   rename_i K hK;have HK:=zh hK;clear hK;refine FIN.out _ (zR.drew) _ _ rfl rfl rfl (fun m w' hm hb=> ?_);refine HK.out _ _ ?_;obtain⟨q,rfl⟩:=je hm;have HB9:=zh hb;clear hb hm
   go_wp2_with fail
   exact bodyPost_ret (v:= .bool true) (by simp[results,Tryz.results77,go_sem]) rfl ⟨rfl,HB9.out⟩
  ·have a2:(2:Int)≤subs.length:=(by omega);have a3:decide ((subs.length:Int)<2)=false:=decide_eq_false (by omega);rw[hst] at FIN ⊢;have HBX:=zh (Blk.new w #[.int .u8 4,.slice os 0 cs,.int .i64 0,.int .i64 0,.bool false,.slice ou subs.length cu] 70);go_enter Tryz.func77,Tryz.ntmps77
   go_wp2_with fail
   apply aJ ?hm ?hok [0,1,2,3,4] [] [0,1,2,3,4] ?hord (fun w'=>w'=(w.alloc (.cells #[.int .u8 4,.slice os 0 cs,.int .i64 0,.int .i64 0,.bool false,.slice ou subs.length cu] 70)).drew) (fun L w'=>L=[]∧w'=(w.alloc (.cells #[.int .u8 4,.slice os 0 cs,.int .i64 0,.int .i64 0,.bool false,.slice ou subs.length cu] 70)).drew)
   case hm=>rfl
   case hok=>kernel_rfl
   case hord=>kernel_rfl
   case hb=>exact fun L' w' h hl=>h.2
   case hw=>exact⟨rfl,rfl⟩
   apply ag (.pointer (some ⟨w.heap.size,5,none⟩)) rfl rfl rfl rfl
   case h=>
    intro W1 hW K hK;obtain⟨-,rfl⟩:=hW;have q5:=HBX.out.cell 5;have qz:=HBX.out.lt
    go_wp2_with fail
    exact hK
   simp only[zP,zQ,zB,zC];apply ag (.slice ou subs.length cu) rfl rfl rfl rfl
   case h=>
    intro W1 hW K hK;obtain⟨-,rfl⟩:=hW;have q5:=HBX.out.cell 5;have qz:=HBX.out.lt
    go_wp2_with fail
    exact hK
   simp only[zP,zQ,zB,zC];apply ag (.int .i64 (subs.length:Nat)) rfl rfl rfl rfl
   case h=>
    intro W1 hW K hK;obtain⟨-,rfl⟩:=hW;have q5:=HBX.out.cell 5;have qz:=HBX.out.lt
    go_wp2_with fail
    exact hK
   simp only[zP,zQ,zB,zC];apply ag (.int .i64 2) rfl rfl rfl rfl
   case h=>
    intro W1 hW K hK;obtain⟨-,rfl⟩:=hW;have q5:=HBX.out.cell 5;have qz:=HBX.out.lt
    go_wp2_with fail
    exact hK
   simp only[zP,zQ,zB,zC];apply ag (.int .i64 (subs.length:Nat)) rfl rfl rfl rfl
   case h=>
    intro W1 hW K hK;obtain⟨-,rfl⟩:=hW;have q5:=HBX.out.cell 5;have qz:=HBX.out.lt
    go_wp2_with fail
    exact hK
   simp only[zP,zQ,zB,zC];refine aG fun W8 h8=> ?_
   obtain⟨-,rfl⟩:=h8;obtain⟨c0,c1,c2,c3,c4,c5,cz⟩:=zS HBX.out
   go_wp2_with fail
   rename_i K hK;have HK:=zh hK;clear hK;refine FIN.out _ (zR.drew) _ _ rfl rfl rfl (fun m w' hm hb=> ?_);refine HK.out _ _ ?_;obtain⟨q,rfl⟩:=je hm;have HB9:=zh hb;clear hb hm
   go_wp2_with fail
   exact bodyPost_ret (v:= .bool true) (by simp[results,Tryz.results77,go_sem]) rfl ⟨rfl,HB9.out⟩
  ·rw[hst,hsb] at FIN ⊢;go_enter Tryz.func77,Tryz.ntmps77
   go_wp2_with fail
   rename_i K hK;have HK:=zh hK;clear hK;refine FIN.out _ zR _ _ rfl rfl rfl (fun m w' hm hb=> ?_);refine HK.out _ _ ?_;obtain⟨q,rfl⟩:=je hm;have HB9:=zh hb;clear hb hm
   go_wp2_with fail
   exact bodyPost_ret (v:= .bool true) (by simp[results,Tryz.results77,go_sem]) rfl ⟨rfl,HB9.out⟩
theorem EZ:∀t:Nd,qY t
 | .mk k set lo hi lazy subs=>KL fun s hs=>EZ s
termination_by t=>SizeOf.sizeOf t
decreasing_by
 have:=List.sizeOf_lt_of_mem hs;simp;omega
end Go.Proofs.YtnhjakdmbfadlaaGreatDoor
