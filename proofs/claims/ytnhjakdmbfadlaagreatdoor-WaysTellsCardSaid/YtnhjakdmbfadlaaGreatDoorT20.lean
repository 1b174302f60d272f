/- Parts of the proof. Conditions: none. -/
import Derived.Test.YtnhjakdmbfadlaaGreatDoorT04
import Derived.Deep.DeepCutAuto
import Derived.Test.YtnhjakdmbfadlaaGreatDoorT00
import Derived.Test.YtnhjakdmbfadlaaGreatDoorT17
set_option linter.all false
set_option maxHeartbeats 8000000
set_option maxRecDepth 100000
namespace Go.Proofs.YtnhjakdmbfadlaaGreatDoor
open Go.RowKit Wy Mem Grow
variable {J:Act→World→Prop} {gr lz s10 s13 s7 s8 s9:Bool} {s:ByteArray} {Q:Exit→Act→World→Prop} {hi k lo:Int} {bs cs zs:List Value} {B c c0 c1 c2 g g0 i m n n1 n2 q rb:Nat} {t:Nd} {o1 o2:Option Addr} {iv sv u8 u9 v':Value} {W w':World}
def rdP (B:Nat) (W:World) (v:Value) (m:Nat) (bs:List Value) (sv iv:Value) (gr:Bool) (n:Nat) (cs zs:List Value) (s7 s8 s9 s10 s13:Bool) (u8 u9:Value) (w':World):Prop:=
 (s8=false→w'=if s7 then W.drew.alloc (.cells zero6.toArray 70) else W.drew)∧
 (s8=true→∃g c,u8= .slice (some ⟨g,0,none⟩) (n+1) c∧(s9=true→u9= .pointer (some ⟨g,n*6,none⟩))∧(iv.ownBlock=some g∨W.heap.size≤g)∧g≠v.ownBlock.getD 0∧
  w'.ownsRow B 70 6 (.slice (some ⟨g,0,none⟩) (n+1) c) (n+1) (cs++if s10 then zs else zero6)∧w'.ownsRow B 155 3 v (m+1) (bs++[sv,if s13 then .slice (some ⟨g,0,none⟩) (n+1) c else iv,.bool gr])∧Kept (fun b=>iv.ownBlock=some b∨v.ownBlock=some b) W w')
theorem Gh (h:rdP B W (.slice (some ⟨g0,0,none⟩) (m+1) c0) m bs sv iv gr n cs zs s7 s8 s9 s10 s13 u8 u9 w') (h8:s8=false):Below W.heap.size W w':=by
 rw[h.1 h8];split
 ·exact zR.drew.alloc zL _
 ·exact zR.drew
theorem MJ (h9:s9=false) (h10:s10=false) (h13:s13=false) (hrow:W.ownsRow B 155 3 (.slice (some ⟨g0,0,none⟩) (m+1) c0) (m+1) (bs++[sv,iv,.bool gr])) (hne:iv.ownBlock≠some g0)
  (h1:w'.ownsRow B 70 6 v' (n+1) (cs++zero6)) (h2:(W.drew.alloc (.cells zero6.toArray 70)).grownBy w' iv.ownBlock) (h3:v'.ownBlock=iv.ownBlock∨v'.ownBlock=some (W.drew.alloc (.cells zero6.toArray 70)).heap.size):rdP B W (.slice (some ⟨g0,0,none⟩) (m+1) c0) m bs sv iv gr n cs zs s7 true s9 s10 s13 v' u9 w':=by
 have h1':=h1;rcases h1.2 with⟨_,h0⟩|⟨g,c,cur,rfl,-⟩
 ·omega
 have hz:(W.drew.alloc (.cells zero6.toArray 70)).heap.size=W.heap.size+1:=by simp
 have hg0:g0<W.heap.size:=(hrow.lt g0 rfl).2;have k1:Kept (fun b=>iv.ownBlock=some b) W w':=((Kept.refl _ W).drew.alloc _).trans (eU h2);subst h9 h10 h13;refine⟨fun e=>(by cases e),fun _=>⟨g,c,rfl,fun e=>(by cases e),?_,?_,h1',fC hrow k1 (fun b hb e=>hne (by rw[e];exact hb.symm)),k1.mono (fun _ _ h=> .inl h)⟩⟩
 ·rcases h3 with h3|h3
  ·exact .inl h3.symm
  ·rw[hz] at h3;simp only[Value.ownBlock,Option.some.injEq] at h3;exact .inr (by omega)
 ·show g≠g0
  intro e;subst e;rcases h3 with h3|h3
  ·exact hne h3.symm
  ·rw[hz] at h3;simp only[Value.ownBlock,Option.some.injEq] at h3;omega
theorem PY (h:rdP B W (.slice (some ⟨g0,0,none⟩) (m+1) c0) m bs sv iv gr n cs zs s7 true s9 s10 s13 u8 u9 w') (hu:u8= .slice (some ⟨g,0,none⟩) (n+1) c):rdP B W (.slice (some ⟨g0,0,none⟩) (m+1) c0) m bs sv iv gr n cs zs s7 true true s10 s13 u8 (.pointer (some ⟨g,n*6,none⟩)) w':=by
 obtain⟨g',c',e,-,h3,h4,h5,h6,h7⟩:=h.2 rfl;rw[hu] at e;simp only[Value.slice.injEq,Option.some.injEq,Addr.mk.injEq,and_true,true_and] at e;obtain⟨rfl,rfl⟩:=e;exact⟨fun e=>(by cases e),fun _=>⟨g,c,hu,fun _=>rfl,h3,h4,h5,h6,h7⟩⟩
theorem PZ (hcl:cs.length=n*6)
  (h:rdP B W (.slice (some ⟨g0,0,none⟩) (m+1) c0) m bs sv iv gr n cs [.int .u8 k,.slice o1 n1 c1,.int .i64 lo,.int .i64 hi,.bool lz,.slice o2 n2 c2] s7 true s9 false s13 u8 u9 w') (hu:u8= .slice (some ⟨g,0,none⟩) (n+1) c):
  rdP B W (.slice (some ⟨g0,0,none⟩) (m+1) c0) m bs sv iv gr n cs [.int .u8 k,.slice o1 n1 c1,.int .i64 lo,.int .i64 hi,.bool lz,.slice o2 n2 c2] s7 true s9 true s13 u8 u9 ((((((w'.setCell ⟨g,n*6,none⟩ (.int .u8 k)).setCell ⟨g,n*6+1,none⟩ (.slice o1 n1 c1)).setCell ⟨g,n*6+2,none⟩ (.int .i64 lo)).setCell ⟨g,n*6+3,none⟩ (.int .i64 hi)).setCell ⟨g,n*6+4,none⟩ (.bool lz)).setCell ⟨g,n*6+5,none⟩ (.slice o2 n2 c2)):=by
 obtain⟨g',c',e,h2,h3,h4,h5,h6,h7⟩:=h.2 rfl;rw[hu] at e;simp only[Value.slice.injEq,Option.some.injEq,Addr.mk.injEq,and_true,true_and] at e;obtain⟨rfl,rfl⟩:=e;refine⟨fun e=>(by cases e),fun _=>⟨g,c,hu,h2,h3,h4,?_,?_,?_⟩⟩
 ·exact AY h5 hcl _ _ _ _ _ _
 ·have k:Kept (fun b=>b=g) w' _:=og (g:=g) (Kept.refl (fun b=>b=g) w') (fun _=>rfl) (.int .u8 k) (.slice o1 n1 c1) (.int .i64 lo) (.int .i64 hi) (.bool lz) (.slice o2 n2 c2) (m:=n);exact fC h6 k (fun b hb e=>h4 (by rw[←e];rw[hb];rfl))
 ·exact og h7 (fun hg=>(h3.resolve_right (by omega)) |> .inl) _ _ _ _ _ _
theorem MK (hbl:bs.length=m*3) (h:rdP B W (.slice (some ⟨g0,0,none⟩) (m+1) c0) m bs sv iv gr n cs zs s7 true s9 s10 false u8 u9 w') (hu:u8= .slice (some ⟨g,0,none⟩) (n+1) c):rdP B W (.slice (some ⟨g0,0,none⟩) (m+1) c0) m bs sv iv gr n cs zs s7 true s9 s10 true u8 u9 (w'.setCell ⟨g0,m*3+1,none⟩ (.slice (some ⟨g,0,none⟩) (n+1) c)):=by
 obtain⟨g',c',e,h2,h3,h4,h5,h6,h7⟩:=h.2 rfl;rw[hu] at e;simp only[Value.slice.injEq,Option.some.injEq,Addr.mk.injEq,and_true,true_and] at e;obtain⟨rfl,rfl⟩:=e;refine⟨fun e=>(by cases e),fun _=>⟨g,c,hu,h2,h3,h4,?_,(yS h6 hbl _).2,h7.setCell (p:=⟨g0,m*3+1,none⟩) (fun _=> .inr rfl) _⟩⟩;exact fC h5 ((Kept.refl (fun b=>b=g0) w').setCell (p:=⟨g0,m*3+1,none⟩) (fun _=>rfl) _) (fun b hb e=>h4 (by simp only[Value.ownBlock,Option.some.injEq] at hb;rw[hb,e];rfl))
theorem ML {pre:List Wy.Op} {ys:List OpV} {o:Wy.Op}
  (hst:aZ 155 70 B W (.slice (some ⟨g0,0,none⟩) (m+1) c0) (pre++[o]) (ys++[⟨sv,iv⟩])) (hm:pre.length=m) (hn:n=o.items.length) (hB:B≤W.heap.size) (jF:au (bD B (.slice (some ⟨g0,0,none⟩) (m+1) c0) (ys++[⟨sv,iv⟩])) W o.items cs)
  (hnd:ai (bD B (.slice (some ⟨g0,0,none⟩) (m+1) c0) (ys++[⟨sv,iv⟩])) W t zs)
  (h:rdP B W (.slice (some ⟨g0,0,none⟩) (m+1) c0) m (iM pre ys) sv iv o.group n cs zs s7 true s9 true true u8 u9 w'):
  ∃xs,aZ 155 70 B w' (.slice (some ⟨g0,0,none⟩) (m+1) c0) (pre++[{o with items:=o.items++[t]}]) xs∧Below B W w':=by
 obtain⟨g,c,-,-,h3,h4,h5,h6,h7⟩:=h.2 rfl;simp only[if_true] at h5 h6;have hlast:=hst.last;have hlt:=hst.lt;have hown:∀b,iv.ownBlock=some b→b∈kU (ys++[(⟨sv,iv⟩:OpV)]):=fun b hb=>by rw[aO,dK];exact List.mem_append.2 (.inr (List.mem_append.2 (.inr (aQ.2 hb))))
 have mJ:(⟨sv,iv⟩:OpV).own.Nodup:=by
  have:=hst.nodup;rw[aO,dK,List.nodup_append] at this;exact this.2.1
 have hsi:∀b,sv.ownBlock=some b→iv.ownBlock≠some b:=fun b hb hi=>by
  unfold OpV.own at mJ;rw[List.nodup_append] at mJ;exact mJ.2.2 b (aQ.2 hb) b (aQ.2 hi) rfl
 have hsg:∀b,sv.ownBlock=some b→b≠g:=fun b hb e=>by
  subst e;rcases h3 with h3|h3
  ·exact hsi b hb h3
  ·have:=(hlast.1.lt b hb).2;omega
 have hd:∀b,b<W.heap.size→bD B (.slice (some ⟨g0,0,none⟩) (m+1) c0) (ys++[⟨sv,iv⟩]) b→¬(iv.ownBlock=some b∨(Value.slice (some ⟨g0,0,none⟩) (m+1) c0).ownBlock=some b)∧bD B (.slice (some ⟨g0,0,none⟩) (m+1) c0) (ys++[⟨sv,.slice (some ⟨g,0,none⟩) (n+1) c⟩]) b:=by
  intro b hb hf;obtain⟨f0,f1,f2⟩:=hf;refine⟨fun e=>e.elim (fun e=>f2 (hown b e)) f1,f0,f1,fun e=>f2 ?_⟩;rw[aO,dK] at e ⊢;rcases List.mem_append.1 e with e|e
  ·exact List.mem_append.2 (.inl e)
  ·refine List.mem_append.2 (.inr ?_);rcases List.mem_append.1 e with e|e
   ·exact List.mem_append.2 (.inl e)
   ·have e':g=b:=by simpa [Value.ownBlock] using aQ.1 e
    subst e';rcases h3 with h3|h3
    ·exact List.mem_append.2 (.inr (aQ.2 h3))
    ·omega
 refine⟨ys++[⟨sv,.slice (some ⟨g,0,none⟩) (n+1) c⟩],hst.top (x':=⟨sv,.slice (some ⟨g,0,none⟩) (n+1) c⟩) h7 (fun b _ hb=> ?_) (by rw[hm];exact h6) (fun b hb=> ?_) ?_ ?_ ?_,h7.gK hB (fun b hb e=> ?_)⟩
 ·rcases hb with hb|hb
  ·exact .inl (List.mem_append.2 (.inr (aQ.2 hb)))
  ·exact .inr hb
 ·rcases List.mem_append.1 hb with hb|hb
  ·exact .inl (List.mem_append.2 (.inl hb))
  ·have e':g=b:=by simpa [Value.ownBlock] using aQ.1 hb
   subst e';rcases h3 with h3|h3
   ·exact .inl (List.mem_append.2 (.inr (aQ.2 h3)))
   ·exact .inr h3
 ·unfold OpV.own;rw[List.nodup_append];refine⟨?_,?_,fun a ha b hb e=> ?_⟩
  ·unfold wS;split<;>simp
  ·unfold wS;split<;>simp
  ·have e':g=b:=by simpa [Value.ownBlock] using aQ.1 hb
   exact hsg a (aQ.1 ha) (by rw[e,e'])
 ·refine hlast.1.go h7 (fun b hb e=> ?_) hd;rcases e with e|e
  ·exact hsi b hb e
  ·exact(hst.qF b (List.mem_append.2 (.inl (aQ.2 hb)))).2 e
 ·refine⟨cs++zs,?_,au.append (au.go h7 hd jF) (au.one (ai.go h7 hd hnd))⟩;rw[List.length_append,List.length_singleton,←hn];exact h5
 ·rcases e with e|e
  ·have:=(hlt b (hown b e)).1;omega
  ·have:=(hst.row.lt b e).1;omega
theorem P5 {pre:List Wy.Op} {ys:List OpV} {o:Wy.Op} {x:OpV} (e:Nat→Value)
  (hst:aZ 155 70 B W (.slice (some ⟨g0,0,none⟩) (m+1) c0) (pre++[o]) (ys++[x])) (hm:pre.length=m) (hml:m≤1000000)
  (hq:Blk W q #[.int .u8 k,.slice o1 n1 c1,.int .i64 lo,.int .i64 hi,.bool lz,.slice o2 n2 c2] 70)
  (hnd:ai (bD B (.slice (some ⟨g0,0,none⟩) (m+1) c0) (ys++[x])) W t [.int .u8 k,.slice o1 n1 c1,.int .i64 lo,.int .i64 hi,.bool lz,.slice o2 n2 c2])
  (hB:B≤W.heap.size) (hil:o.items.length≤1000000)
  (hJ:∀a' w',gG B rb s i (pre++[{o with items:=o.items++[t]}]) W a' w'→J a' w'):
  Code.wp Tryz.prog (rdC [1,1,1,0,0,0,1,0,1,1,1,1,1,1]) (Exit.then J Q) ⟨#[.string s,e 1,.pointer (some ⟨rb,0,none⟩),e 3,.slice (some ⟨g0,0,none⟩) (m+1) c0,.int .i64 i,.int .i64 m,.pointer (some ⟨q,0,none⟩),e 8,e 9,e 10,e 11,e 12,e 13,e 14,e 15,e 16,e 17,e 18,e 19,e 20,e 21,e 22,e 23,e 24,e 25,e 26,e 27,e 28,e 29,e 30,e 31,e 32,e 33,e 34,e 35,e 36,e 37,e 38,e 39,e 40,e 41,e 42,e 43,e 44,e 45,e 46,e 47,e 48,e 49,e 50,e 51,e 52,e 53,e 54,e 55,e 56,e 57,e 58,e 59,e 60,e 61,e 62,e 63,e 64,e 65,e 66,e 67,e 68,e 69,e 70,e 71,e 72,e 73,e 74,e 75,e 76,e 77,e 78,e 79,e 80,e 81,e 82,e 83,e 84,e 85,e 86,e 87,e 88,e 89,e 90,e 91,e 92,e 93,e 94,e 95,e 96,e 97,e 98,e 99,e 100,e 101,e 102,e 103,e 104,e 105,e 106,e 107,e 108,e 109,e 110,e 111,e 112,e 113,e 114,e 115,e 116,e 117,e 118,e 119,e 120,e 121,e 122,e 123,e 124,e 125,e 126,e 127,e 128,e 129,e 130,e 131,e 132,e 133,e 134,e 135,e 136,e 137,e 138,e 139,e 140,e 141,e 142,e 143,e 144,e 145,e 146,e 147,e 148,e 149,e 150,e 151,e 152,e 153,e 154,e 155,e 156,e 157,e 158,e 159,e 160,e 161,e 162,e 163,e 164,e 165,e 166,e 167,e 168,e 169,e 170,e 171,e 172,e 173,e 174,e 175,e 176],[]⟩ W:=by
 have hlast:=hst.last;have hlow:=hst.low;obtain⟨sv,iv⟩:=x;obtain⟨cs,hown,jF⟩:=hlast.2;obtain⟨gi,ci,hiv⟩:=hlast.2.slice;simp only at hiv hown;subst hiv;have hrow:=hst.row;rw[fD _ _ _ _ hlow,List.length_append,List.length_singleton,hm] at hrow;have hbs:(iM pre ys).length=m*3:=by rw[jE pre ys hlow,hm]
 have hne:(Value.slice gi o.items.length ci).ownBlock≠some g0:=fun e=>(hst.qF g0 (List.mem_append.2 (.inr (aQ.2 e)))).2 rfl
 obtain⟨i0,hi0,hz0,hz1,hz2⟩:=info_parts CO;obtain⟨n,hn⟩:∃n,n=o.items.length:=⟨_,rfl⟩;rw[←hn] at hown hil hne hst hnd jF hrow;have hrow':W.ownsRow B 155 3 (.slice (some ⟨g0,0,none⟩) (m+1) c0) (m+1) (iM pre ys++[sv,.slice gi n ci,.bool o.group]):=hrow;have htop:=last3 hrow' hbs;have hcl:cs.length=n*6:=hown.1;have hm1:(m:Int)<(m:Int)+1:=(by omega);have hn1:(n:Int)<(n:Int)+1:=(by omega);have hmI:(m:Int)≤1000000:=(by omega);have hnI:(n:Int)≤1000000:=(by omega);have PX:=zh htop;have HQ:=zh hq;have HOWN:=zh hown;have dQ:=zh hrow';have HBS:=zh hbs;have HCL:=zh hcl;have HNE:=zh hne;have bW:=zh (fun s7 s9 u8 u9 w'=>ML (zs:=[.int .u8 k,.slice o1 n1 c1,.int .i64 lo,.int .i64 hi,.bool lz,.slice o2 n2 c2]) (s7:=s7) (s9:=s9) (u8:=u8) (u9:=u9) (w':=w') hst hm hn hB jF hnd);have HJ:=zh hJ;have HB:=zh hB;clear hlast hlow hrow hrow' hbs htop hown hst jF hnd hq hn hm hcl hJ hB hne;conv=>arg 2;whnf
 apply mV ?hm ?hok [some _,some _,some _,some _,some _,some _,some _,some _,none,none,some undef,some _,some _,some undef] (fun S u w'=>rdP B W (.slice (some ⟨g0,0,none⟩) (m+1) c0) m (iM pre ys) sv (.slice gi n ci) o.group n cs [.int .u8 k,.slice o1 n1 c1,.int .i64 lo,.int .i64 hi,.bool lz,.slice o2 n2 c2] (S 7) (S 8) (S 9) (S 10) (S 13) (u 8) (u 9) w') ?hw ?h
 case hm=>rfl
 case hok=>kernel_rfl
 case hw=>exact⟨fun _=>rfl,fun e=>by cases e⟩
 case h=>
  intro u;iterate 7
   apply bZ rfl
   case hs=>exact fun _ _ _ h=>h
   case h=>
    intro S w hS hW K hK;have hb:=Gh hW (hS.last 8 (by kernel_rfl));have t:=PX.out;have t1:=((dU hb).1 _ _ t.2.2.2.2).trans t.2.1;have tz:g0<w.heap.size:=Nat.lt_of_lt_of_le t.2.2.2.2 hb.size;have B:=HQ.out.below hb HQ.out.lt;obtain⟨b0,b1,b2,b3,b4,b5,bz⟩:=zS B;clear B t hb hW hS
    go_wp2_with fail
    exact hK
   case' k=>simp only[zP,zQ,zB,zC]
  apply gY rfl
  case h=>
   intro S w hS hW K hK;have h7:=hS.new;have h8:=hS.last 8 (by kernel_rfl);have hw:=hW.1 h8;simp only[h7,Bool.false_eq_true,if_false] at hw;subst hw;have hK':=hK _ ⟨fun _=>rfl,fun e=>Bool.noConfusion (h8.symm.trans e)⟩;have HK:=zh hK';clear hS hW hK hK' h7 h8
   go_wp2_with fail
   exact HK.out
  case' k=>simp only[zP,zQ,zB,zC]
  apply bH rfl
  case h=>
   intro S w hS hW K hK;have h7:=hS.deps 7 (by kernel_rfl);have h8:=hS.new;have hw:=hW.1 h8;simp only[h7,if_true] at hw;subst hw;refine aY _ _ 68 rfl Tryz.underlying68 hi0 hz0 hz1 hz2 rfl (.slice gi n ci) n cs rfl (fC HOWN.out ((Kept.refl (fun _=>False) W).drew.alloc _) (fun _ _=>id)) _ 1 zero6 rfl (Lu (by simp)) rfl (by simp[zero6,Value.oneCell']) (by unfold maxLen;omega) (by omega) (by have:=HB.out;simp;omega) ?_;intro v' w' h1 h2 h3 h4;exact hK _ _ (MJ (hS.last 9 (by kernel_rfl)) (hS.last 10 (by kernel_rfl)) (hS.last 13 (by kernel_rfl)) dQ.out HNE.out h1 h2 h3)
  case' k=>simp only[zP,zQ,zB,zC]
  apply bH rfl
  case h=>
   intro S w hS hW K hK;have h8:=hS.deps 8 (by kernel_rfl);simp only[h8] at hW;obtain⟨g,c,hu,-⟩:=hW.2 rfl;have hK':=hK _ _ (by show rdP _ _ _ _ _ _ _ _ _ _ _ (S 7) (S 8) true (S 10) (S 13) (u 8) _ w;rw[h8];exact PY hW hu);rw[hu] at hK' ⊢;have HK:=zh hK';clear hS hW hK hK' h8 hu
   go_wp2_with fail
   exact HK.out
  case' k=>simp only[zP,zQ,zB,zC]
  apply gY rfl
  case h=>
   intro S w hS hW K hK;have h8:=hS.deps 8 (by kernel_rfl);have h9:=hS.deps 9 (by kernel_rfl);have h10:=hS.new;simp only[h8,h9,h10] at hW;obtain⟨g,c,hu,hu9,-,-,hrow,-,-⟩:=hW.2 rfl;have hu9:=hu9 rfl;simp only[Bool.false_eq_true,if_false] at hrow;obtain⟨r0,r1,r2,r3,r4,r5,rf,rz⟩:=Om hrow HCL.out;have hK':=hK _ (by show rdP _ _ _ _ _ _ _ _ _ _ _ (S 7) (S 8) (S 9) true (S 13) (u 8) (u 9) _;rw[h8,h9];exact PZ HCL.out hW hu);rw[hu9];rw[hu9] at hK';have HK:=zh hK';clear hS hW hK hK' h8 h9 h10 hu hu9 hrow
   go_wp2_with fail
   exact HK.out
  case' k=>simp only[zP,zQ,zB,zC]
  iterate 2
   apply bZ rfl
   case hs=>exact fun _ _ _ h=>h
   case h=>
    intro S w hS hW K hK;clear hS hW
    go_wp2_with fail
    exact hK
   case' k=>simp only[zP,zQ,zB,zC]
  apply gY rfl
  case h=>
   intro S w hS hW K hK;have h8:=hS.deps 8 (by kernel_rfl);have h13:=hS.new;simp only[h8,h13] at hW;obtain⟨g,c,hu,-,-,-,-,hrow,-⟩:=hW.2 rfl;simp only[Bool.false_eq_true,if_false] at hrow;obtain⟨r0,r1,r2,rf,rz⟩:=last3 hrow HBS.out;have hK':=hK _ (by show rdP _ _ _ _ _ _ _ _ _ _ _ (S 7) (S 8) (S 9) (S 10) true (u 8) (u 9) _;rw[h8];exact MK HBS.out hW hu);rw[hu];rw[hu] at hK';have HK:=zh hK';clear hS hW hK hK' h8 h13 hu hrow
   go_wp2_with fail
   exact HK.out
  case' k=>simp only[zP,zQ,zB,zC]
  refine kV ?_;intro S w' hS hW;have h8:=hS 8 (by decide);have h10:=hS 10 (by decide);have h13:=hS 13 (by decide);simp only[h8,h10,h13] at hW;obtain⟨xs,f1,f2⟩:=bW.out _ _ _ _ _ hW;exact HJ.out _ _ ⟨_,_,xs,rfl,rfl,rfl,rfl,rfl,rfl,f1,f2⟩
theorem uC {pre:List Wy.Op} {ys:List OpV} {o:Wy.Op} {x:OpV} {l:List Value} (hl:l.length=177)
  (h0:l[0]? =some (.string s)) (h2:l[2]? =some (.pointer (some ⟨rb,0,none⟩))) (h4:l[4]? =some (.slice (some ⟨g0,0,none⟩) (m+1) c0)) (h5:l[5]? =some (.int .i64 i)) (h6:l[6]? =some (.int .i64 m)) (h7:l[7]? =some (.pointer (some ⟨q,0,none⟩)))
  (hst:aZ 155 70 B W (.slice (some ⟨g0,0,none⟩) (m+1) c0) (pre++[o]) (ys++[x])) (hm:pre.length=m) (hml:m≤1000000)
  (hq:Blk W q #[.int .u8 k,.slice o1 n1 c1,.int .i64 lo,.int .i64 hi,.bool lz,.slice o2 n2 c2] 70)
  (hnd:ai (bD B (.slice (some ⟨g0,0,none⟩) (m+1) c0) (ys++[x])) W t [.int .u8 k,.slice o1 n1 c1,.int .i64 lo,.int .i64 hi,.bool lz,.slice o2 n2 c2])
  (hB:B≤W.heap.size) (hil:o.items.length≤1000000)
  (hJ:∀a' w',gG B rb s i (pre++[{o with items:=o.items++[t]}]) W a' w'→J a' w'):
  Code.wp Tryz.prog (rdC [1,1,1,0,0,0,1,0,1,1,1,1,1,1]) (Exit.then J Q) ⟨l.toArray,[]⟩ W:=by
 obtain⟨e,rfl⟩:=qI hl;have h0:=zI h0;have h2:=zI h2;have h4:=zI h4;have h5:=zI h5;have h6:=zI h6;have h7:=zI h7;rw[h0,h2,h4,h5,h6,h7];exact P5 e hst hm hml hq hnd hB hil hJ
variable {qh ql:Int} {W0:World}
theorem Jk {pre:List Wy.Op} {ys:List OpV} {o:Wy.Op} {x:OpV} (e:Nat→Value) (his:i≤s.size) (hs:s.size≤1024) (dh:aZ 155 70 B W0 (Value.slice (some ⟨g0,0,none⟩) (m+1) c0) (pre++[o]) (ys++[x])) (hm:pre.length=m) (hml:m≤1000000) (hB0:B≤W0.heap.size) (hbw:Below W0.heap.size W0 W) (hq0:W0.heap.size≤q)
  (hq:Blk W q #[.int .u8 k,.slice o1 n1 c1,.int .i64 lo,.int .i64 hi,.bool lz,.slice o2 n2 c2] 70)
  (hnd:ai (fun b=>bD B (Value.slice (some ⟨g0,0,none⟩) (m+1) c0) (ys++[x]) b∧b≠q) W t [.int .u8 k,.slice o1 n1 c1,.int .i64 lo,.int .i64 hi,.bool lz,.slice o2 n2 c2]) (hil:o.items.length≤1000000)
  (hqm:gy (bn s i) 0=some (ql,qh,0))
  (hJ:∀a' w',gG B rb s i (pre++[{o with items:=o.items++[t]}]) W0 a' w'→J a' w'):
  Code.wp Tryz.prog (rdC [1,1,1,0,0,0,1,0,1,1,1]) (Exit.then J Q) ⟨#[.string s,e 1,.pointer (some ⟨rb,0,none⟩),e 3,.slice (some ⟨g0,0,none⟩) (m+1) c0,.int .i64 i,.int .i64 m,.pointer (some ⟨q,0,none⟩),e 8,e 9,e 10,e 11,e 12,e 13,e 14,e 15,e 16,e 17,e 18,e 19,e 20,e 21,e 22,e 23,e 24,e 25,e 26,e 27,e 28,e 29,e 30,e 31,e 32,e 33,e 34,e 35,e 36,e 37,e 38,e 39,e 40,e 41,e 42,e 43,e 44,e 45,e 46,e 47,e 48,e 49,e 50,e 51,e 52,e 53,e 54,e 55,e 56,e 57,e 58,e 59,e 60,e 61,e 62,e 63,e 64,e 65,e 66,e 67,e 68,e 69,e 70,e 71,e 72,e 73,e 74,e 75,e 76,e 77,e 78,e 79,e 80,e 81,e 82,e 83,e 84,e 85,e 86,e 87,e 88,e 89,e 90,e 91,e 92,e 93,e 94,e 95,e 96,e 97,e 98,e 99,e 100,e 101,e 102,e 103,e 104,e 105,e 106,e 107,e 108,e 109,e 110,e 111,e 112,e 113,e 114,e 115,e 116,e 117,e 118,e 119,e 120,e 121,e 122,e 123,e 124,e 125,e 126,e 127,e 128,e 129,e 130,e 131,e 132,e 133,e 134,e 135,e 136,e 137,e 138,e 139,e 140,e 141,e 142,e 143,e 144,e 145,e 146,e 147,e 148,e 149,e 150,e 151,e 152,e 153,e 154,e 155,e 156,e 157,e 158,e 159,e 160,e 161,e 162,e 163,e 164,e 165,e 166,e 167,e 168,e 169,e 170,e 171,e 172,e 173,e 174,e 175,e 176],[]⟩ W:=by
 have hsI:(s.size:Int)≤1024:=(by omega);have hiI:(i:Int)≤s.size:=(by omega);have hsz:=dJ s i his;have hcall:=fun w=>nZ hqm (by rw[hsz];omega) w
 have HC:=zh hcall;have key:∀l:List Value,l.length=177→l[0]? =some (.string s)→l[2]? =some (.pointer (some ⟨rb,0,none⟩))→l[4]? =some (Value.slice (some ⟨g0,0,none⟩) (m+1) c0)→l[5]? =some (.int .i64 i)→l[6]? =some (.int .i64 m)→l[7]? =some (.pointer (some ⟨q,0,none⟩))→
   ∀(K:Act→World→Prop) (Q':Exit→Act→World→Prop),(∀a' w',J a' w'→K a' w')→Code.wp Tryz.prog (rdC [1,1,1,0,0,0,1,0,1,1,1,1,1,1]) (Exit.then K Q') ⟨l.toArray,[]⟩ W:=by
  intro l hl h0 h2 h4 h5 h6 h7 K Q' hK;exact uC (t:=t) hl h0 h2 h4 h5 h6 h7 (dh.below hbw) hm hml hq (ai.mono (fun b hb=>hb.1) hnd) (Nat.le_trans hB0 hbw.size) hil (fun a' w' hn=>hK _ _ (hJ a' w' (by
   obtain⟨l,v,xs,e1,e2,e3,e4,e5,e6,e7,e8⟩:=hn;exact⟨l,v,xs,e1,e2,e3,e4,e5,e6,e7,(hbw.mono hB0).trans e8⟩)))
 have KEY:=zh key;have hmI:(m:Int)≤1000000:=(by omega);clear key hq hnd dh hm hml hil hJ hbw hq0 hB0 hcall hqm hsz;conv=>arg 2;whnf
 go_upto_region 41 with(go_at_call 86;(refine(HC.out _).mono ?_;rintro e w' ⟨rfl,rfl⟩))
 exact KEY.out _ rfl rfl rfl rfl rfl rfl rfl _ _ (fun _ _ h=>h)
theorem Jl {pre:List Wy.Op} {ys:List OpV} {o:Wy.Op} {x:OpV} (e:Nat→Value) (his:i≤s.size) (hs:s.size≤1024) (dh:aZ 155 70 B W0 (Value.slice (some ⟨g0,0,none⟩) (m+1) c0) (pre++[o]) (ys++[x])) (hm:pre.length=m) (hml:m≤1000000) (hB0:B≤W0.heap.size) (hbw:Below W0.heap.size W0 W) (hq0:W0.heap.size≤q)
  (hq:Blk W q #[.int .u8 k,.slice o1 n1 c1,.int .i64 lo,.int .i64 hi,.bool lz,.slice o2 n2 c2] 70)
  (hnd:ai (fun b=>bD B (Value.slice (some ⟨g0,0,none⟩) (m+1) c0) (ys++[x]) b∧b≠q) W t [.int .u8 k,.slice o1 n1 c1,.int .i64 lo,.int .i64 hi,.bool lz,.slice o2 n2 c2]) (hil:o.items.length≤1000000)
  (hqm:gy (bn s i) 0=some (ql,qh,1)) (hi1:i+1<s.size) (hlz:byteAt s (i+1)=63) (hql:I64 ql) (hqh:I64 qh)
  (hJ:∀a' w',gG B rb s (i+2) (pre++[{o with items:=o.items++[.mk 5 [] ql qh true [t]]}]) W0 a' w'→J a' w'):
  Code.wp Tryz.prog (rdC [1,1,1,0,0,0,1,0,1,1,1]) (Exit.then J Q) ⟨#[.string s,e 1,.pointer (some ⟨rb,0,none⟩),e 3,.slice (some ⟨g0,0,none⟩) (m+1) c0,.int .i64 i,.int .i64 m,.pointer (some ⟨q,0,none⟩),e 8,e 9,e 10,e 11,e 12,e 13,e 14,e 15,e 16,e 17,e 18,e 19,e 20,e 21,e 22,e 23,e 24,e 25,e 26,e 27,e 28,e 29,e 30,e 31,e 32,e 33,e 34,e 35,e 36,e 37,e 38,e 39,e 40,e 41,e 42,e 43,e 44,e 45,e 46,e 47,e 48,e 49,e 50,e 51,e 52,e 53,e 54,e 55,e 56,e 57,e 58,e 59,e 60,e 61,e 62,e 63,e 64,e 65,e 66,e 67,e 68,e 69,e 70,e 71,e 72,e 73,e 74,e 75,e 76,e 77,e 78,e 79,e 80,e 81,e 82,e 83,e 84,e 85,e 86,e 87,e 88,e 89,e 90,e 91,e 92,e 93,e 94,e 95,e 96,e 97,e 98,e 99,e 100,e 101,e 102,e 103,e 104,e 105,e 106,e 107,e 108,e 109,e 110,e 111,e 112,e 113,e 114,e 115,e 116,e 117,e 118,e 119,e 120,e 121,e 122,e 123,e 124,e 125,e 126,e 127,e 128,e 129,e 130,e 131,e 132,e 133,e 134,e 135,e 136,e 137,e 138,e 139,e 140,e 141,e 142,e 143,e 144,e 145,e 146,e 147,e 148,e 149,e 150,e 151,e 152,e 153,e 154,e 155,e 156,e 157,e 158,e 159,e 160,e 161,e 162,e 163,e 164,e 165,e 166,e 167,e 168,e 169,e 170,e 171,e 172,e 173,e 174,e 175,e 176],[]⟩ W:=by
 have hsI:(s.size:Int)≤1024:=(by omega);have hiI:(i:Int)≤s.size:=(by omega);have hsz:=dJ s i his;have hcall:=fun w=>nZ hqm (by rw[hsz];omega) w
 have HC:=zh hcall;have hli:(i:Int)+1<s.size:=(by omega);have hlb:(s[i+1].toNat:Int)=63:=by rw[get_at hi1,hlz];rfl
 have hi1':i+1<s.size:=hi1;have key:∀W',W'=(((((((W.setCell ⟨q,0,none⟩ (.int .u8 5)).setCell ⟨q,1,none⟩ (.slice none 0 0)).setCell ⟨q,2,none⟩ (.int .i64 ql)).setCell ⟨q,3,none⟩ (.int .i64 qh)).setCell ⟨q,4,none⟩ (.bool true)).setCell ⟨q,5,none⟩ (.slice (some ⟨W.heap.size,0,none⟩) 1 1)).alloc (.cells #[.int .u8 k,.slice o1 n1 c1,.int .i64 lo,.int .i64 hi,.bool lz,.slice o2 n2 c2] 70))→
   ∀l:List Value,l.length=177→l[0]? =some (.string s)→l[2]? =some (.pointer (some ⟨rb,0,none⟩))→l[4]? =some (Value.slice (some ⟨g0,0,none⟩) (m+1) c0)→l[5]? =some (.int .i64 ((i+2:Nat):Int))→l[6]? =some (.int .i64 m)→l[7]? =some (.pointer (some ⟨q,0,none⟩))→
   ∀(K:Act→World→Prop) (Q':Exit→Act→World→Prop),(∀a' w',J a' w'→K a' w')→Code.wp Tryz.prog (rdC [1,1,1,0,0,0,1,0,1,1,1,1,1,1]) (Exit.then K Q') ⟨l.toArray,[]⟩ W':=by
  intro W' hW' l hl h0 h2 h4 h5 h6 h7 K Q' hK;have k0:=kX (W:=W) (b:=q) (.int .u8 5) (.slice none 0 0) (.int .i64 ql) (.int .i64 qh) (.bool true) (.slice (some ⟨W.heap.size,0,none⟩) 1 1);have k2:=k0.alloc (.cells #[.int .u8 k,.slice o1 n1 c1,.int .i64 lo,.int .i64 hi,.bool lz,.slice o2 n2 c2] 70);rw[←hW'] at k2;have hqB:=(gm hq (.int .u8 5) (.slice none 0 0) (.int .i64 ql) (.int .i64 qh) (.bool true) (.slice (some ⟨W.heap.size,0,none⟩) 1 1)).alloc (.cells #[.int .u8 k,.slice o1 n1 c1,.int .i64 lo,.int .i64 hi,.bool lz,.slice o2 n2 c2] 70);rw[←hW'] at hqB;have Su:=hq.lt;have hWW:W.heap.size≤W'.heap.size:=k2.size;have hnew:Blk W' W.heap.size #[.int .u8 k,.slice o1 n1 c1,.int .i64 lo,.int .i64 hi,.bool lz,.slice o2 n2 c2] 70:=by
   rw[hW'];exact Blk.new' _ _ (by simp)
  have BH:Below W0.heap.size W0 W':=((Kept.of_below hbw (fun b=>b=q)).trans k2).below (fun b hb e=>by omega);have hsz0:=hbw.size;have hrow0:=dh.lt;have hv0:=dh.row.lt g0 rfl;have hfree:bD B (Value.slice (some ⟨g0,0,none⟩) (m+1) c0) (ys++[x]) W.heap.size:=⟨by omega,fun e=>by simp only[Value.ownBlock,Option.some.injEq] at e;omega,fun e=>by have:=hrow0 _ e;omega⟩;have ht1:ai (bD B (Value.slice (some ⟨g0,0,none⟩) (m+1) c0) (ys++[x])) W' t [.int .u8 k,.slice o1 n1 c1,.int .i64 lo,.int .i64 hi,.bool lz,.slice o2 n2 c2]:=ai.go k2 (fun b _ hb=>⟨hb.2,hb.1⟩) hnd;exact uC (t:= .mk 5 [] ql qh true [t]) hl h0 h2 h4 h5 h6 h7 (dh.below BH) hm hml hqB (uA hnew hfree ht1 (by omega) hql hqh) (by omega) hil (fun a' w' hn=>hK _ _ (hJ a' w' (by
   obtain⟨l,v,xs,e1,e2,e3,e4,e5,e6,e7,e8⟩:=hn;exact⟨l,v,xs,e1,e2,e3,e4,e5,e6,e7,(BH.mono hB0).trans e8⟩)))
 have KEY:=zh key;have b0:=hq.cell 0;have b1:=hq.cell 1;have b2:=hq.cell 2;have b3:=hq.cell 3;have b4:=hq.cell 4;have b5:=hq.cell 5;have bz:=hq.lt;have bf:∀i,W.frozen? ⟨q,i,none⟩=false:=hq.frozen;have hmI:(m:Int)≤1000000:=(by omega);clear key hq hnd dh hm hml hil hJ hbw hq0 hB0 hcall hqm hql hqh hsz hlz;conv=>arg 2;whnf
 go_upto_region 41 with(go_at_call 86;(refine(HC.out _).mono ?_;rintro e w' ⟨rfl,rfl⟩))
 exact KEY.out _ rfl _ rfl rfl rfl rfl rfl rfl rfl _ _ (fun _ _ h=>h)
theorem Jm {pre:List Wy.Op} {ys:List OpV} {o:Wy.Op} {x:OpV} (e:Nat→Value) (his:i≤s.size) (hs:s.size≤1024) (dh:aZ 155 70 B W0 (Value.slice (some ⟨g0,0,none⟩) (m+1) c0) (pre++[o]) (ys++[x])) (hm:pre.length=m) (hml:m≤1000000) (hB0:B≤W0.heap.size) (hbw:Below W0.heap.size W0 W) (hq0:W0.heap.size≤q)
  (hq:Blk W q #[.int .u8 k,.slice o1 n1 c1,.int .i64 lo,.int .i64 hi,.bool lz,.slice o2 n2 c2] 70)
  (hnd:ai (fun b=>bD B (Value.slice (some ⟨g0,0,none⟩) (m+1) c0) (ys++[x]) b∧b≠q) W t [.int .u8 k,.slice o1 n1 c1,.int .i64 lo,.int .i64 hi,.bool lz,.slice o2 n2 c2]) (hil:o.items.length≤1000000)
  (hqm:gy (bn s i) 0=some (ql,qh,1)) (hi1:i+1<s.size) (hlz:byteAt s (i+1)≠63) (hql:I64 ql) (hqh:I64 qh)
  (hJ:∀a' w',gG B rb s (i+1) (pre++[{o with items:=o.items++[.mk 5 [] ql qh false [t]]}]) W0 a' w'→J a' w'):
  Code.wp Tryz.prog (rdC [1,1,1,0,0,0,1,0,1,1,1]) (Exit.then J Q) ⟨#[.string s,e 1,.pointer (some ⟨rb,0,none⟩),e 3,.slice (some ⟨g0,0,none⟩) (m+1) c0,.int .i64 i,.int .i64 m,.pointer (some ⟨q,0,none⟩),e 8,e 9,e 10,e 11,e 12,e 13,e 14,e 15,e 16,e 17,e 18,e 19,e 20,e 21,e 22,e 23,e 24,e 25,e 26,e 27,e 28,e 29,e 30,e 31,e 32,e 33,e 34,e 35,e 36,e 37,e 38,e 39,e 40,e 41,e 42,e 43,e 44,e 45,e 46,e 47,e 48,e 49,e 50,e 51,e 52,e 53,e 54,e 55,e 56,e 57,e 58,e 59,e 60,e 61,e 62,e 63,e 64,e 65,e 66,e 67,e 68,e 69,e 70,e 71,e 72,e 73,e 74,e 75,e 76,e 77,e 78,e 79,e 80,e 81,e 82,e 83,e 84,e 85,e 86,e 87,e 88,e 89,e 90,e 91,e 92,e 93,e 94,e 95,e 96,e 97,e 98,e 99,e 100,e 101,e 102,e 103,e 104,e 105,e 106,e 107,e 108,e 109,e 110,e 111,e 112,e 113,e 114,e 115,e 116,e 117,e 118,e 119,e 120,e 121,e 122,e 123,e 124,e 125,e 126,e 127,e 128,e 129,e 130,e 131,e 132,e 133,e 134,e 135,e 136,e 137,e 138,e 139,e 140,e 141,e 142,e 143,e 144,e 145,e 146,e 147,e 148,e 149,e 150,e 151,e 152,e 153,e 154,e 155,e 156,e 157,e 158,e 159,e 160,e 161,e 162,e 163,e 164,e 165,e 166,e 167,e 168,e 169,e 170,e 171,e 172,e 173,e 174,e 175,e 176],[]⟩ W:=by
 have hsI:(s.size:Int)≤1024:=(by omega);have hiI:(i:Int)≤s.size:=(by omega);have hsz:=dJ s i his;have hcall:=fun w=>nZ hqm (by rw[hsz];omega) w
 have HC:=zh hcall;have hli:(i:Int)+1<s.size:=(by omega);have hlb:((s[i+1].toNat:Int) == 63)=false:=by rw[get_at hi1];exact iQ hlz
 have key:∀W',W'=(((((((W.setCell ⟨q,0,none⟩ (.int .u8 5)).setCell ⟨q,1,none⟩ (.slice none 0 0)).setCell ⟨q,2,none⟩ (.int .i64 ql)).setCell ⟨q,3,none⟩ (.int .i64 qh)).setCell ⟨q,4,none⟩ (.bool false)).setCell ⟨q,5,none⟩ (.slice (some ⟨W.heap.size,0,none⟩) 1 1)).alloc (.cells #[.int .u8 k,.slice o1 n1 c1,.int .i64 lo,.int .i64 hi,.bool lz,.slice o2 n2 c2] 70))→
   ∀l:List Value,l.length=177→l[0]? =some (.string s)→l[2]? =some (.pointer (some ⟨rb,0,none⟩))→l[4]? =some (Value.slice (some ⟨g0,0,none⟩) (m+1) c0)→l[5]? =some (.int .i64 ((i+1:Nat):Int))→l[6]? =some (.int .i64 m)→l[7]? =some (.pointer (some ⟨q,0,none⟩))→
   ∀(K:Act→World→Prop) (Q':Exit→Act→World→Prop),(∀a' w',J a' w'→K a' w')→Code.wp Tryz.prog (rdC [1,1,1,0,0,0,1,0,1,1,1,1,1,1]) (Exit.then K Q') ⟨l.toArray,[]⟩ W':=by
  intro W' hW' l hl h0 h2 h4 h5 h6 h7 K Q' hK;have k0:=kX (W:=W) (b:=q) (.int .u8 5) (.slice none 0 0) (.int .i64 ql) (.int .i64 qh) (.bool false) (.slice (some ⟨W.heap.size,0,none⟩) 1 1);have k2:=k0.alloc (.cells #[.int .u8 k,.slice o1 n1 c1,.int .i64 lo,.int .i64 hi,.bool lz,.slice o2 n2 c2] 70);rw[←hW'] at k2;have hqB:=(gm hq (.int .u8 5) (.slice none 0 0) (.int .i64 ql) (.int .i64 qh) (.bool false) (.slice (some ⟨W.heap.size,0,none⟩) 1 1)).alloc (.cells #[.int .u8 k,.slice o1 n1 c1,.int .i64 lo,.int .i64 hi,.bool lz,.slice o2 n2 c2] 70);rw[←hW'] at hqB;have Su:=hq.lt;have hWW:W.heap.size≤W'.heap.size:=k2.size;have hnew:Blk W' W.heap.size #[.int .u8 k,.slice o1 n1 c1,.int .i64 lo,.int .i64 hi,.bool lz,.slice o2 n2 c2] 70:=by
   rw[hW'];exact Blk.new' _ _ (by simp)
  have BH:Below W0.heap.size W0 W':=((Kept.of_below hbw (fun b=>b=q)).trans k2).below (fun b hb e=>by omega);have hsz0:=hbw.size;have hrow0:=dh.lt;have hv0:=dh.row.lt g0 rfl;have hfree:bD B (Value.slice (some ⟨g0,0,none⟩) (m+1) c0) (ys++[x]) W.heap.size:=⟨by omega,fun e=>by simp only[Value.ownBlock,Option.some.injEq] at e;omega,fun e=>by have:=hrow0 _ e;omega⟩;have ht1:ai (bD B (Value.slice (some ⟨g0,0,none⟩) (m+1) c0) (ys++[x])) W' t [.int .u8 k,.slice o1 n1 c1,.int .i64 lo,.int .i64 hi,.bool lz,.slice o2 n2 c2]:=ai.go k2 (fun b _ hb=>⟨hb.2,hb.1⟩) hnd;exact uC (t:= .mk 5 [] ql qh false [t]) hl h0 h2 h4 h5 h6 h7 (dh.below BH) hm hml hqB (uA hnew hfree ht1 (by omega) hql hqh) (by omega) hil (fun a' w' hn=>hK _ _ (hJ a' w' (by
   obtain⟨l,v,xs,e1,e2,e3,e4,e5,e6,e7,e8⟩:=hn;exact⟨l,v,xs,e1,e2,e3,e4,e5,e6,e7,(BH.mono hB0).trans e8⟩)))
 have KEY:=zh key;have b0:=hq.cell 0;have b1:=hq.cell 1;have b2:=hq.cell 2;have b3:=hq.cell 3;have b4:=hq.cell 4;have b5:=hq.cell 5;have bz:=hq.lt;have bf:∀i,W.frozen? ⟨q,i,none⟩=false:=hq.frozen;have hmI:(m:Int)≤1000000:=(by omega);clear key hq hnd dh hm hml hil hJ hbw hq0 hB0 hcall hqm hql hqh hsz hlz;conv=>arg 2;whnf
 go_upto_region 41 with(go_at_call 86;(refine(HC.out _).mono ?_;rintro e w' ⟨rfl,rfl⟩))
 exact KEY.out _ rfl _ rfl rfl rfl rfl rfl rfl rfl _ _ (fun _ _ h=>h)
theorem Jn {pre:List Wy.Op} {ys:List OpV} {o:Wy.Op} {x:OpV} (e:Nat→Value) (his:i≤s.size) (hs:s.size≤1024) (dh:aZ 155 70 B W0 (Value.slice (some ⟨g0,0,none⟩) (m+1) c0) (pre++[o]) (ys++[x])) (hm:pre.length=m) (hml:m≤1000000) (hB0:B≤W0.heap.size) (hbw:Below W0.heap.size W0 W) (hq0:W0.heap.size≤q)
  (hq:Blk W q #[.int .u8 k,.slice o1 n1 c1,.int .i64 lo,.int .i64 hi,.bool lz,.slice o2 n2 c2] 70)
  (hnd:ai (fun b=>bD B (Value.slice (some ⟨g0,0,none⟩) (m+1) c0) (ys++[x]) b∧b≠q) W t [.int .u8 k,.slice o1 n1 c1,.int .i64 lo,.int .i64 hi,.bool lz,.slice o2 n2 c2]) (hil:o.items.length≤1000000)
  (hqm:gy (bn s i) 0=some (ql,qh,1)) (hi1:¬i+1<s.size) (hql:I64 ql) (hqh:I64 qh)
  (hJ:∀a' w',gG B rb s (i+1) (pre++[{o with items:=o.items++[.mk 5 [] ql qh false [t]]}]) W0 a' w'→J a' w'):
  Code.wp Tryz.prog (rdC [1,1,1,0,0,0,1,0,1,1,1]) (Exit.then J Q) ⟨#[.string s,e 1,.pointer (some ⟨rb,0,none⟩),e 3,.slice (some ⟨g0,0,none⟩) (m+1) c0,.int .i64 i,.int .i64 m,.pointer (some ⟨q,0,none⟩),e 8,e 9,e 10,e 11,e 12,e 13,e 14,e 15,e 16,e 17,e 18,e 19,e 20,e 21,e 22,e 23,e 24,e 25,e 26,e 27,e 28,e 29,e 30,e 31,e 32,e 33,e 34,e 35,e 36,e 37,e 38,e 39,e 40,e 41,e 42,e 43,e 44,e 45,e 46,e 47,e 48,e 49,e 50,e 51,e 52,e 53,e 54,e 55,e 56,e 57,e 58,e 59,e 60,e 61,e 62,e 63,e 64,e 65,e 66,e 67,e 68,e 69,e 70,e 71,e 72,e 73,e 74,e 75,e 76,e 77,e 78,e 79,e 80,e 81,e 82,e 83,e 84,e 85,e 86,e 87,e 88,e 89,e 90,e 91,e 92,e 93,e 94,e 95,e 96,e 97,e 98,e 99,e 100,e 101,e 102,e 103,e 104,e 105,e 106,e 107,e 108,e 109,e 110,e 111,e 112,e 113,e 114,e 115,e 116,e 117,e 118,e 119,e 120,e 121,e 122,e 123,e 124,e 125,e 126,e 127,e 128,e 129,e 130,e 131,e 132,e 133,e 134,e 135,e 136,e 137,e 138,e 139,e 140,e 141,e 142,e 143,e 144,e 145,e 146,e 147,e 148,e 149,e 150,e 151,e 152,e 153,e 154,e 155,e 156,e 157,e 158,e 159,e 160,e 161,e 162,e 163,e 164,e 165,e 166,e 167,e 168,e 169,e 170,e 171,e 172,e 173,e 174,e 175,e 176],[]⟩ W:=by
 have hsI:(s.size:Int)≤1024:=(by omega);have hiI:(i:Int)≤s.size:=(by omega);have hsz:=dJ s i his;have hcall:=fun w=>nZ hqm (by rw[hsz];omega) w
 have HC:=zh hcall;have hli:decide ((i:Int)+1<s.size)=false:=decide_eq_false (by omega);have key:∀W',W'=(((((((W.setCell ⟨q,0,none⟩ (.int .u8 5)).setCell ⟨q,1,none⟩ (.slice none 0 0)).setCell ⟨q,2,none⟩ (.int .i64 ql)).setCell ⟨q,3,none⟩ (.int .i64 qh)).setCell ⟨q,4,none⟩ (.bool false)).setCell ⟨q,5,none⟩ (.slice (some ⟨W.heap.size,0,none⟩) 1 1)).alloc (.cells #[.int .u8 k,.slice o1 n1 c1,.int .i64 lo,.int .i64 hi,.bool lz,.slice o2 n2 c2] 70))→
   ∀l:List Value,l.length=177→l[0]? =some (.string s)→l[2]? =some (.pointer (some ⟨rb,0,none⟩))→l[4]? =some (Value.slice (some ⟨g0,0,none⟩) (m+1) c0)→l[5]? =some (.int .i64 ((i+1:Nat):Int))→l[6]? =some (.int .i64 m)→l[7]? =some (.pointer (some ⟨q,0,none⟩))→
   ∀(K:Act→World→Prop) (Q':Exit→Act→World→Prop),(∀a' w',J a' w'→K a' w')→Code.wp Tryz.prog (rdC [1,1,1,0,0,0,1,0,1,1,1,1,1,1]) (Exit.then K Q') ⟨l.toArray,[]⟩ W':=by
  intro W' hW' l hl h0 h2 h4 h5 h6 h7 K Q' hK;have k0:=kX (W:=W) (b:=q) (.int .u8 5) (.slice none 0 0) (.int .i64 ql) (.int .i64 qh) (.bool false) (.slice (some ⟨W.heap.size,0,none⟩) 1 1);have k2:=k0.alloc (.cells #[.int .u8 k,.slice o1 n1 c1,.int .i64 lo,.int .i64 hi,.bool lz,.slice o2 n2 c2] 70);rw[←hW'] at k2;have hqB:=(gm hq (.int .u8 5) (.slice none 0 0) (.int .i64 ql) (.int .i64 qh) (.bool false) (.slice (some ⟨W.heap.size,0,none⟩) 1 1)).alloc (.cells #[.int .u8 k,.slice o1 n1 c1,.int .i64 lo,.int .i64 hi,.bool lz,.slice o2 n2 c2] 70);rw[←hW'] at hqB;have Su:=hq.lt;have hWW:W.heap.size≤W'.heap.size:=k2.size;have hnew:Blk W' W.heap.size #[.int .u8 k,.slice o1 n1 c1,.int .i64 lo,.int .i64 hi,.bool lz,.slice o2 n2 c2] 70:=by
   rw[hW'];exact Blk.new' _ _ (by simp)
  have BH:Below W0.heap.size W0 W':=((Kept.of_below hbw (fun b=>b=q)).trans k2).below (fun b hb e=>by omega);have hsz0:=hbw.size;have hrow0:=dh.lt;have hv0:=dh.row.lt g0 rfl;have hfree:bD B (Value.slice (some ⟨g0,0,none⟩) (m+1) c0) (ys++[x]) W.heap.size:=⟨by omega,fun e=>by simp only[Value.ownBlock,Option.some.injEq] at e;omega,fun e=>by have:=hrow0 _ e;omega⟩;have ht1:ai (bD B (Value.slice (some ⟨g0,0,none⟩) (m+1) c0) (ys++[x])) W' t [.int .u8 k,.slice o1 n1 c1,.int .i64 lo,.int .i64 hi,.bool lz,.slice o2 n2 c2]:=ai.go k2 (fun b _ hb=>⟨hb.2,hb.1⟩) hnd;exact uC (t:= .mk 5 [] ql qh false [t]) hl h0 h2 h4 h5 h6 h7 (dh.below BH) hm hml hqB (uA hnew hfree ht1 (by omega) hql hqh) (by omega) hil (fun a' w' hn=>hK _ _ (hJ a' w' (by
   obtain⟨l,v,xs,e1,e2,e3,e4,e5,e6,e7,e8⟩:=hn;exact⟨l,v,xs,e1,e2,e3,e4,e5,e6,e7,(BH.mono hB0).trans e8⟩)))
 have KEY:=zh key;have b0:=hq.cell 0;have b1:=hq.cell 1;have b2:=hq.cell 2;have b3:=hq.cell 3;have b4:=hq.cell 4;have b5:=hq.cell 5;have bz:=hq.lt;have bf:∀i,W.frozen? ⟨q,i,none⟩=false:=hq.frozen;have hmI:(m:Int)≤1000000:=(by omega);clear key hq hnd dh hm hml hil hJ hbw hq0 hB0 hcall hqm hql hqh hsz hi1;conv=>arg 2;whnf
 go_upto_region 41 with(go_at_call 86;(refine(HC.out _).mono ?_;rintro e w' ⟨rfl,rfl⟩))
 exact KEY.out _ rfl _ rfl rfl rfl rfl rfl rfl rfl _ _ (fun _ _ h=>h)
end Go.Proofs.YtnhjakdmbfadlaaGreatDoor
