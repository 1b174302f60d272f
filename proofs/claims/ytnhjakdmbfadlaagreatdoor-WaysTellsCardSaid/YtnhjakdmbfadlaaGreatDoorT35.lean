/- Parts of the proof. Conditions: none. -/
import Derived.Test.YtnhjakdmbfadlaaGreatDoorT04
import Derived.Lib.ValidLaws
import Derived.Test.YtnhjakdmbfadlaaGreatDoorT00
import Derived.Test.YtnhjakdmbfadlaaGreatDoorT34
import Derived.Test.YtnhjakdmbfadlaaGreatDoorT33
import Derived.Test.YtnhjakdmbfadlaaGreatDoorT17
import Derived.Test.YtnhjakdmbfadlaaGreatDoorT13
import Derived.Test.YtnhjakdmbfadlaaGreatDoorT02
set_option linter.all false
set_option maxHeartbeats 8000000
set_option maxRecDepth 100000
namespace Go.Proofs.YtnhjakdmbfadlaaGreatDoor
open Go.RowKit Wy Mem Grow
variable {b0 b1 b2 b3 c n:Nat}
theorem iT (c:Nat) (h:c<4000000) (w:World):Calls Tryz.prog 97 #[.int .i64 c] w fun e w'=>e= .returned (.bool (Wy.point c))∧w=w':=by
 have h0:(0:Int)≤c:=(by omega);by_cases h1:c<55296
 ·have e:Wy.point c=true:=by unfold Wy.point;simp;omega
  rw[e];exact vw c h1 w
 ·by_cases h2:c≤57343
  ·have e:Wy.point c=false:=by unfold Wy.point;simp;omega
   rw[e];have a1:(c:Int)≤1114111:=(by omega);have a2:(55296:Int)≤c:=(by omega);have a3:(c:Int)≤57343:=(by omega);go_enter Tryz.func97,Tryz.ntmps97
   go_wp2
   go_ret
   exact⟨rfl,rfl⟩
  ·by_cases h3:c≤1114111
   ·have e:Wy.point c=true:=by unfold Wy.point;simp;omega
    rw[e];have a1:(c:Int)≤1114111:=(by omega);have a2:(55296:Int)≤c:=(by omega);have a3:decide ((c:Int)≤57343)=false:=by simp;omega
    go_enter Tryz.func97,Tryz.ntmps97
    go_wp2
    go_ret
    exact⟨rfl,rfl⟩
   ·have e:Wy.point c=false:=by unfold Wy.point;simp;omega
    rw[e];have a1:decide ((c:Int)≤1114111)=false:=by simp;omega
    go_enter Tryz.func97,Tryz.ntmps97
    go_wp2
    go_ret
    exact⟨rfl,rfl⟩
def puN (n b0 b1 b2 b3:Nat):Nat×Nat:=if Lib.decodeN n b0 b1 b2 b3=(65533,1) then(0,0) else Lib.decodeN n b0 b1 b2 b3
def puS (s:ByteArray):Nat×Nat:=if s.size=0 then(0,0) else puN s.size (byteAt s 0) (byteAt s 1) (byteAt s 2) (byteAt s 3)
theorem dn1 (h:b0<128):Lib.decodeN n b0 b1 b2 b3=(b0,1):=by
 unfold Lib.decodeN;rw[if_pos h]
theorem pu1 (h:b0<128):puN n b0 b1 b2 b3=(b0,1):=by
 unfold puN;rw[dn1 h,if_neg];simp;omega
theorem dn0 (h:128≤b0∧b0<192∨248≤b0∧b0<256):Lib.decodeN n b0 b1 b2 b3=(65533,1):=by
 unfold Lib.decodeN;rw[if_neg (by omega),if_neg (by omega),if_neg (by omega),if_neg (by omega)]
theorem pu0 (h:128≤b0∧b0<192∨248≤b0∧b0<256):puN n b0 b1 b2 b3=(0,0):=by
 unfold puN;rw[dn0 h,if_pos rfl]
theorem dn2 (h:192≤b0∧b0<224):Lib.decodeN n b0 b1 b2 b3=if 2≤n∧(128≤b1∧b1≤191)∧128≤64*(b0-192)+(b1-128)∧Wy.point ((64*(b0-192)+(b1-128):Nat):Int)=true then(64*(b0-192)+(b1-128),2) else(65533,1):=by
 unfold Lib.decodeN;rw[if_neg (show¬b0<128 by omega)];by_cases h1:2≤n∧(128≤b1∧b1≤191)
 ·rw[if_pos (show b0/32=6∧(1<n∧b1/64=2) by omega)];have e:b0%32*64+b1%64=64*(b0-192)+(b1-128):=(by omega);rw[e];by_cases h2:128≤64*(b0-192)+(b1-128)
  ·have hp:Wy.point ((64*(b0-192)+(b1-128):Nat):Int)=true:=by unfold Wy.point;simp;omega
   rw[if_pos h2,if_pos ⟨h1.1,h1.2,h2,hp⟩]
  ·rw[if_neg (show¬(64*(b0-192)+(b1-128)≥128) from h2),if_neg (fun h=>h2 h.2.2.1)]
 ·rw[if_neg (show¬(b0/32=6∧(1<n∧b1/64=2)) by omega),if_neg (show¬(b0/16=14∧(1<n∧b1/64=2)∧(2<n∧b2/64=2)) by omega),if_neg (show¬(b0/8=30∧(1<n∧b1/64=2)∧(2<n∧b2/64=2)∧(3<n∧b3/64=2)) by omega),if_neg (fun h=>h1 ⟨h.1,h.2.1⟩)]
theorem Kv {k:Nat} {C:Prop} [Decidable C] (h:Lib.decodeN n b0 b1 b2 b3=if C then(c,k) else(65533,1)) (hk:2≤k):puN n b0 b1 b2 b3=if C then(c,k) else(0,0):=by
 unfold puN;rw[h];by_cases hC:C
 ·rw[if_pos hC,if_neg (by simp;omega),if_pos hC]
 ·rw[if_neg hC,if_pos rfl,if_neg hC]
theorem pu2 (h:192≤b0∧b0<224):puN n b0 b1 b2 b3=if 2≤n∧(128≤b1∧b1≤191)∧128≤64*(b0-192)+(b1-128)∧Wy.point ((64*(b0-192)+(b1-128):Nat):Int)=true then(64*(b0-192)+(b1-128),2) else(0,0):=Kv (dn2 h) (by omega)
theorem dn3 (h:224≤b0∧b0<240):Lib.decodeN n b0 b1 b2 b3=if 3≤n∧((128≤b1∧b1≤191)∧(128≤b2∧b2≤191))∧2048≤64*(64*(b0-224)+(b1-128))+(b2-128)∧Wy.point ((64*(64*(b0-224)+(b1-128))+(b2-128):Nat):Int)=true then(64*(64*(b0-224)+(b1-128))+(b2-128),3) else(65533,1):=by
 unfold Lib.decodeN;rw[if_neg (show¬b0<128 by omega),if_neg (show¬(b0/32=6∧(1<n∧b1/64=2)) by omega)];by_cases h1:3≤n∧((128≤b1∧b1≤191)∧(128≤b2∧b2≤191))
 ·rw[if_pos (show(b0/16=14∧(1<n∧b1/64=2)∧(2<n∧b2/64=2)) by omega)];have e:b0%16*4096+b1%64*64+b2%64=64*(64*(b0-224)+(b1-128))+(b2-128):=(by omega);rw[e];generalize 64*(64*(b0-224)+(b1-128))+(b2-128)=c;by_cases h2:2048≤c∧Wy.point (c:Int)=true
  ·have h3:c<55296∨(57344≤c∧c≤1114111):=by
    have:=h2.2;unfold Wy.point at this;simp at this;omega
   rw[if_pos (show c≥2048∧(c<55296∨(57344≤c∧c≤1114111)) from⟨h2.1,h3⟩),if_pos ⟨h1.1,h1.2,h2⟩]
  ·rw[if_neg (show¬(c≥2048∧(c<55296∨(57344≤c∧c≤1114111))) from fun h=>h2 ⟨h.1,by unfold Wy.point;simp;omega⟩),if_neg (fun h=>h2 h.2.2)]
 ·rw[if_neg (show¬(b0/16=14∧(1<n∧b1/64=2)∧(2<n∧b2/64=2)) by omega),if_neg (show¬(b0/8=30∧(1<n∧b1/64=2)∧(2<n∧b2/64=2)∧(3<n∧b3/64=2)) by omega),if_neg (fun h=>h1 ⟨h.1,h.2.1⟩)]
theorem pu3 (h:224≤b0∧b0<240):puN n b0 b1 b2 b3=if 3≤n∧((128≤b1∧b1≤191)∧(128≤b2∧b2≤191))∧2048≤64*(64*(b0-224)+(b1-128))+(b2-128)∧Wy.point ((64*(64*(b0-224)+(b1-128))+(b2-128):Nat):Int)=true then(64*(64*(b0-224)+(b1-128))+(b2-128),3) else(0,0):=Kv (dn3 h) (by omega)
theorem dn4 (h:240≤b0∧b0<248):Lib.decodeN n b0 b1 b2 b3=if 4≤n∧((128≤b1∧b1≤191)∧(128≤b2∧b2≤191)∧(128≤b3∧b3≤191))∧65536≤64*(64*(64*(b0-240)+(b1-128))+(b2-128))+(b3-128)∧Wy.point ((64*(64*(64*(b0-240)+(b1-128))+(b2-128))+(b3-128):Nat):Int)=true then(64*(64*(64*(b0-240)+(b1-128))+(b2-128))+(b3-128),4) else(65533,1):=by
 unfold Lib.decodeN;rw[if_neg (show¬b0<128 by omega),if_neg (show¬(b0/32=6∧(1<n∧b1/64=2)) by omega),if_neg (show¬(b0/16=14∧(1<n∧b1/64=2)∧(2<n∧b2/64=2)) by omega)];by_cases h1:4≤n∧((128≤b1∧b1≤191)∧(128≤b2∧b2≤191)∧(128≤b3∧b3≤191))
 ·rw[if_pos (show(b0/8=30∧(1<n∧b1/64=2)∧(2<n∧b2/64=2)∧(3<n∧b3/64=2)) by omega)];have e:b0%8*262144+b1%64*4096+b2%64*64+b3%64=64*(64*(64*(b0-240)+(b1-128))+(b2-128))+(b3-128):=(by omega);rw[e];generalize 64*(64*(64*(b0-240)+(b1-128))+(b2-128))+(b3-128)=c;by_cases h2:65536≤c∧Wy.point (c:Int)=true
  ·have h3:c<55296∨(57344≤c∧c≤1114111):=by
    have:=h2.2;unfold Wy.point at this;simp at this;omega
   rw[if_pos (show c≥65536∧(c<55296∨(57344≤c∧c≤1114111)) from⟨h2.1,h3⟩),if_pos ⟨h1.1,h1.2,h2⟩]
  ·rw[if_neg (show¬(c≥65536∧(c<55296∨(57344≤c∧c≤1114111))) from fun h=>h2 ⟨h.1,by unfold Wy.point;simp;omega⟩),if_neg (fun h=>h2 h.2.2)]
 ·rw[if_neg (show¬(b0/8=30∧(1<n∧b1/64=2)∧(2<n∧b2/64=2)∧(3<n∧b3/64=2)) by omega),if_neg (fun h=>h1 ⟨h.1,h.2.1⟩)]
theorem pu4 (h:240≤b0∧b0<248):puN n b0 b1 b2 b3=if 4≤n∧((128≤b1∧b1≤191)∧(128≤b2∧b2≤191)∧(128≤b3∧b3≤191))∧65536≤64*(64*(64*(b0-240)+(b1-128))+(b2-128))+(b3-128)∧Wy.point ((64*(64*(64*(b0-240)+(b1-128))+(b2-128))+(b3-128):Nat):Int)=true then(64*(64*(64*(b0-240)+(b1-128))+(b2-128))+(b3-128),4) else(0,0):=Kv (dn4 h) (by omega)
theorem ptv2 (g0:192≤b0) (k0:b0<224) (g1:128≤b1) (k1:b1≤191):(64*((b0:Int)-192)+b1-128)=((64*(b0-192)+(b1-128):Nat):Int)∧64*(b0-192)+(b1-128)<4000000:=by
 obtain⟨c0,rfl⟩:∃c,b0=192+c:=⟨b0-192,by omega⟩;obtain⟨c1,rfl⟩:∃c,b1=128+c:=⟨b1-128,by omega⟩;simp only[Nat.add_sub_cancel_left];constructor<;>omega
theorem ptv3 (g0:224≤b0) (k0:b0<240) (g1:128≤b1) (k1:b1≤191) (g2:128≤b2) (k2:b2≤191):(64*(64*((b0:Int)-224)+b1-128)+b2-128)=((64*(64*(b0-224)+(b1-128))+(b2-128):Nat):Int)∧64*(64*(b0-224)+(b1-128))+(b2-128)<4000000:=by
 obtain⟨c0,rfl⟩:∃c,b0=224+c:=⟨b0-224,by omega⟩;obtain⟨c1,rfl⟩:∃c,b1=128+c:=⟨b1-128,by omega⟩;obtain⟨c2,rfl⟩:∃c,b2=128+c:=⟨b2-128,by omega⟩;simp only[Nat.add_sub_cancel_left];constructor<;>omega
theorem ptv4 (g0:240≤b0) (k0:b0<248) (g1:128≤b1) (k1:b1≤191) (g2:128≤b2) (k2:b2≤191) (g3:128≤b3) (k3:b3≤191):(64*(64*(64*((b0:Int)-240)+b1-128)+b2-128)+b3-128)=((64*(64*(64*(b0-240)+(b1-128))+(b2-128))+(b3-128):Nat):Int)∧64*(64*(64*(b0-240)+(b1-128))+(b2-128))+(b3-128)<4000000:=by
 obtain⟨c0,rfl⟩:∃c,b0=240+c:=⟨b0-240,by omega⟩;obtain⟨c1,rfl⟩:∃c,b1=128+c:=⟨b1-128,by omega⟩;obtain⟨c2,rfl⟩:∃c,b2=128+c:=⟨b2-128,by omega⟩;obtain⟨c3,rfl⟩:∃c,b3=128+c:=⟨b3-128,by omega⟩;simp only[Nat.add_sub_cancel_left];constructor<;>omega
theorem ptc2 {x:ByteArray} (hs:x.size≤1000000) (hz:0<x.size) (hx0:(x[0]'hz).toNat=b0) (h2:192≤b0) (h4:b0<224) (w:World):Calls Tryz.prog 78 #[.string x] w fun e w'=>e= .returned (.tuple #[.int .i64 (puN x.size b0 (byteAt x 1) (byteAt x 2) (byteAt x 3)).1,.int .i64 (puN x.size b0 (byteAt x 1) (byteAt x 2) (byteAt x 3)).2])∧w=w':=by
 have hsI:(x.size:Int)≤1000000:=(by omega);have hzI:(0:Int)<x.size:=(by omega);have hz0:((x.size:Int) == 0)=false:=by rw[beq_eq_false_iff_ne];omega
 have hb256:b0<256:=(by omega);have hwb:wrap64 (b0:Int)=b0:=by unfold wrap64;omega
 have a0:decide ((b0:Int)<128)=false:=decide_eq_false (by omega)
 ·obtain⟨r,hr⟩:∃r,r=puN x.size b0 (byteAt x 1) (byteAt x 2) (byteAt x 3):=⟨_,rfl⟩;rw[←hr];rw[pu2 (by omega)] at hr;have a1:(192:Int)≤b0:=(by omega);have a2:(b0:Int)<224:=(by omega);have a3:True:=trivial;have a4:(b0:Int)<240:=(by omega);have a5:True:=trivial;have a6:(b0:Int)<248:=(by omega);by_cases h5:x.size<2
  ·have HR:=zh hr;clear hr;have a7:(x.size:Int)<2:=(by omega);go_enter Tryz.func78,Tryz.ntmps78
   go_wp2_with fail
   go_ret2
   exact⟨by rw[HR.out,if_neg (fun h=>absurd h.1 (by omega))];rfl,rfl⟩
  have a7:decide ((x.size:Int)<2)=false:=decide_eq_false (by omega)
  replace h5:2≤x.size:=by omega
  have hx1:=get_at (i:=1) (by omega:1<x.size);obtain⟨b1,hb1⟩:∃b,b=byteAt x 1:=⟨_,rfl⟩;have hc1:b1<256:=by rw[hb1,←hx1];exact UInt8.toNat_lt _
  have FH:wrap64 (b1:Int)=b1:=by unfold wrap64;omega
  rw[←hb1] at hx1 hr;have hi1:(1:Int)<x.size:=(by omega);clear hb1;have HR:=zh hr;clear hr;go_enter Tryz.func78,Tryz.ntmps78
  go_wp2_with fail
  go_loopw [4,7] (fun s4 s7 wx=>wx=w∧((s7= .int .i64 1∧s4= .int .i64 ((b0:Int)-192))∨(s7= .int .i64 2∧s4= .int .i64 (64*((b0:Int)-192)+b1-128)∧128≤b1∧b1≤191))) (fun _ s7 _=>2-(intOf s7).toNat)
  case atStart=>exact⟨rfl,.inl ⟨rfl,rfl⟩⟩
  case round=>
   rename World=>Wa
   obtain⟨rfl,h⟩:=hrel;rcases h with⟨rfl,rfl⟩|⟨rfl,rfl,g1,k1⟩
   ·obtain⟨d,hd⟩:∃d:Int,d=((b0:Int)-192):=⟨_,rfl⟩;have hdb:0≤d∧d<70000:=(by omega);rw[←hd];have HD:=zh hd;clear hd;obtain⟨hd0,hd1⟩:=hdb;clear a0 a1 a2 a3 a4 a5 a6 a7 h2 h4 hb256 hwb hsI hzI hz0;by_cases l1:b1<128
    ·have z1:(b1:Int)<128:=Int.ofNat_lt.2 l1
     go_wp2_with fail
     go_ret2
     exact⟨by rw[HR.out,if_neg (fun h=>absurd (h.2.1).1 (Nat.not_le.2 l1))];rfl,rfl⟩
    by_cases u1:191<b1
    ·have z1:decide ((b1:Int)<128)=false:=jW (Nat.not_lt.1 l1);have z2:(191:Int)<b1:=Int.ofNat_lt.2 u1
     go_wp2_with fail
     go_ret2
     exact⟨by rw[HR.out,if_neg (fun h=>absurd (h.2.1).2 (Nat.not_le.2 u1))];rfl,rfl⟩
    have z1:decide ((b1:Int)<128)=false:=jW (Nat.not_lt.1 l1);have z2:decide ((191:Int)<b1)=false:=vC (Nat.lt_succ_of_le (Nat.not_lt.1 u1))
    go_wp2_with fail
    go_roundw
    case rel=>exact⟨trivial,.inr (⟨rfl,by rw[HD.out],Nat.not_lt.1 l1,Nat.not_lt.1 u1⟩)⟩
    case measure=>simp[intOf]
   ·obtain⟨hv,hvl⟩:=ptv2 h2 h4 g1 k1;rw[hv];have hby:(128≤b1∧b1≤191):=⟨g1,k1⟩;clear hv;have hr:=HR.out;clear HR;generalize 64*(b0-192)+(b1-128)=c at hvl hr ⊢;have HR:=zh hr;clear hr;have HP:=zh (iT c hvl);by_cases hl:c<128
    ·have z1:(c:Int)<128:=by omega
     go_wp2_with fail
     go_ret2
     exact⟨by rw[HR.out,if_neg (fun h=>absurd h.2.2.1 (by omega))];rfl,rfl⟩
    have z1:decide ((c:Int)<128)=false:=decide_eq_false (by omega)
    replace hl:128≤c:=by omega
    cases hp:Wy.point (c:Int) with
    |true=>
     rw[hp] at HP
     go_wp2_with (go_at_call 97;(refine(HP.out _).mono ?_;rintro e w' ⟨rfl,rfl⟩))
     go_ret2
     exact⟨by rw[HR.out,if_pos ⟨h5,hby,hl,hp⟩];rfl,rfl⟩
    |false=>
     rw[hp] at HP
     go_wp2_with (go_at_call 97;(refine(HP.out _).mono ?_;rintro e w' ⟨rfl,rfl⟩))
     go_ret2
     exact⟨by rw[HR.out,if_neg (fun h=>by have:=h.2.2.2;rw[hp] at this;cases this)];rfl,rfl⟩
theorem ptc3 {x:ByteArray} (hs:x.size≤1000000) (hz:0<x.size) (hx0:(x[0]'hz).toNat=b0) (h2:224≤b0) (h4:b0<240) (w:World):Calls Tryz.prog 78 #[.string x] w fun e w'=>e= .returned (.tuple #[.int .i64 (puN x.size b0 (byteAt x 1) (byteAt x 2) (byteAt x 3)).1,.int .i64 (puN x.size b0 (byteAt x 1) (byteAt x 2) (byteAt x 3)).2])∧w=w':=by
 have hsI:(x.size:Int)≤1000000:=(by omega);have hzI:(0:Int)<x.size:=(by omega);have hz0:((x.size:Int) == 0)=false:=by rw[beq_eq_false_iff_ne];omega
 have hb256:b0<256:=(by omega);have hwb:wrap64 (b0:Int)=b0:=by unfold wrap64;omega
 have a0:decide ((b0:Int)<128)=false:=decide_eq_false (by omega)
 ·obtain⟨r,hr⟩:∃r,r=puN x.size b0 (byteAt x 1) (byteAt x 2) (byteAt x 3):=⟨_,rfl⟩;rw[←hr];rw[pu3 (by omega)] at hr;have a1:(192:Int)≤b0:=(by omega);have a2:decide ((b0:Int)<224)=false:=decide_eq_false (by omega);have a3:(224:Int)≤b0:=(by omega);have a4:(b0:Int)<240:=(by omega);have a5:True:=trivial;have a6:(b0:Int)<248:=(by omega);by_cases h5:x.size<3
  ·have HR:=zh hr;clear hr;have a7:(x.size:Int)<3:=(by omega);go_enter Tryz.func78,Tryz.ntmps78
   go_wp2_with fail
   go_ret2
   exact⟨by rw[HR.out,if_neg (fun h=>absurd h.1 (by omega))];rfl,rfl⟩
  have a7:decide ((x.size:Int)<3)=false:=decide_eq_false (by omega)
  replace h5:3≤x.size:=by omega
  have hx1:=get_at (i:=1) (by omega:1<x.size);obtain⟨b1,hb1⟩:∃b,b=byteAt x 1:=⟨_,rfl⟩;have hc1:b1<256:=by rw[hb1,←hx1];exact UInt8.toNat_lt _
  have FH:wrap64 (b1:Int)=b1:=by unfold wrap64;omega
  rw[←hb1] at hx1 hr;have hi1:(1:Int)<x.size:=(by omega);have hx2:=get_at (i:=2) (by omega:2<x.size);obtain⟨b2,hb2⟩:∃b,b=byteAt x 2:=⟨_,rfl⟩;have hc2:b2<256:=by rw[hb2,←hx2];exact UInt8.toNat_lt _
  have NI:wrap64 (b2:Int)=b2:=by unfold wrap64;omega
  rw[←hb2] at hx2 hr;have hi2:(2:Int)<x.size:=(by omega);clear hb1 hb2;have HR:=zh hr;clear hr;go_enter Tryz.func78,Tryz.ntmps78
  go_wp2_with fail
  go_loopw [4,7] (fun s4 s7 wx=>wx=w∧((s7= .int .i64 1∧s4= .int .i64 ((b0:Int)-224))∨(s7= .int .i64 2∧s4= .int .i64 (64*((b0:Int)-224)+b1-128)∧128≤b1∧b1≤191)∨(s7= .int .i64 3∧s4= .int .i64 (64*(64*((b0:Int)-224)+b1-128)+b2-128)∧128≤b1∧b1≤191∧128≤b2∧b2≤191))) (fun _ s7 _=>3-(intOf s7).toNat)
  case atStart=>exact⟨rfl,.inl ⟨rfl,rfl⟩⟩
  case round=>
   rename World=>Wa
   obtain⟨rfl,h⟩:=hrel;rcases h with⟨rfl,rfl⟩|⟨rfl,rfl,g1,k1⟩|⟨rfl,rfl,g1,k1,g2,k2⟩
   ·obtain⟨d,hd⟩:∃d:Int,d=((b0:Int)-224):=⟨_,rfl⟩;have hdb:0≤d∧d<70000:=(by omega);rw[←hd];have HD:=zh hd;clear hd;obtain⟨hd0,hd1⟩:=hdb;clear hx2 hi2 NI hc2;clear a0 a1 a2 a3 a4 a5 a6 a7 h2 h4 hb256 hwb hsI hzI hz0;by_cases l1:b1<128
    ·have z1:(b1:Int)<128:=Int.ofNat_lt.2 l1
     go_wp2_with fail
     go_ret2
     exact⟨by rw[HR.out,if_neg (fun h=>absurd (h.2.1.1).1 (Nat.not_le.2 l1))];rfl,rfl⟩
    by_cases u1:191<b1
    ·have z1:decide ((b1:Int)<128)=false:=jW (Nat.not_lt.1 l1);have z2:(191:Int)<b1:=Int.ofNat_lt.2 u1
     go_wp2_with fail
     go_ret2
     exact⟨by rw[HR.out,if_neg (fun h=>absurd (h.2.1.1).2 (Nat.not_le.2 u1))];rfl,rfl⟩
    have z1:decide ((b1:Int)<128)=false:=jW (Nat.not_lt.1 l1);have z2:decide ((191:Int)<b1)=false:=vC (Nat.lt_succ_of_le (Nat.not_lt.1 u1))
    go_wp2_with fail
    go_roundw
    case rel=>exact⟨trivial,.inr (.inl ⟨rfl,by rw[HD.out],Nat.not_lt.1 l1,Nat.not_lt.1 u1⟩)⟩
    case measure=>simp[intOf]
   ·obtain⟨d,hd⟩:∃d:Int,d=(64*((b0:Int)-224)+b1-128):=⟨_,rfl⟩;have hdb:0≤d∧d<70000:=(by omega);rw[←hd];have HD:=zh hd;clear hd;obtain⟨hd0,hd1⟩:=hdb;have Kw:=zh g1;have Ky:=zh k1;clear g1 k1 hx1 hi1 FH hc1;clear a0 a1 a2 a3 a4 a5 a6 a7 h2 h4 hb256 hwb hsI hzI hz0;by_cases l2:b2<128
    ·have z1:(b2:Int)<128:=Int.ofNat_lt.2 l2
     go_wp2_with fail
     go_ret2
     exact⟨by rw[HR.out,if_neg (fun h=>absurd (h.2.1.2).1 (Nat.not_le.2 l2))];rfl,rfl⟩
    by_cases u2:191<b2
    ·have z1:decide ((b2:Int)<128)=false:=jW (Nat.not_lt.1 l2);have z2:(191:Int)<b2:=Int.ofNat_lt.2 u2
     go_wp2_with fail
     go_ret2
     exact⟨by rw[HR.out,if_neg (fun h=>absurd (h.2.1.2).2 (Nat.not_le.2 u2))];rfl,rfl⟩
    have z1:decide ((b2:Int)<128)=false:=jW (Nat.not_lt.1 l2);have z2:decide ((191:Int)<b2)=false:=vC (Nat.lt_succ_of_le (Nat.not_lt.1 u2))
    go_wp2_with fail
    go_roundw
    case rel=>exact⟨trivial,.inr (.inr (⟨rfl,by rw[HD.out],Kw.out,Ky.out,Nat.not_lt.1 l2,Nat.not_lt.1 u2⟩))⟩
    case measure=>simp[intOf]
   ·obtain⟨hv,hvl⟩:=ptv3 h2 h4 g1 k1 g2 k2;rw[hv];have hby:(128≤b1∧b1≤191)∧(128≤b2∧b2≤191):=⟨⟨g1,k1⟩,⟨g2,k2⟩⟩;clear hv;have hr:=HR.out;clear HR;generalize 64*(64*(b0-224)+(b1-128))+(b2-128)=c at hvl hr ⊢;have HR:=zh hr;clear hr;have HP:=zh (iT c hvl);by_cases hl:c<2048
    ·have z1:(c:Int)<2048:=by omega
     go_wp2_with fail
     go_ret2
     exact⟨by rw[HR.out,if_neg (fun h=>absurd h.2.2.1 (by omega))];rfl,rfl⟩
    have z1:decide ((c:Int)<2048)=false:=decide_eq_false (by omega)
    replace hl:2048≤c:=by omega
    cases hp:Wy.point (c:Int) with
    |true=>
     rw[hp] at HP
     go_wp2_with (go_at_call 97;(refine(HP.out _).mono ?_;rintro e w' ⟨rfl,rfl⟩))
     go_ret2
     exact⟨by rw[HR.out,if_pos ⟨h5,hby,hl,hp⟩];rfl,rfl⟩
    |false=>
     rw[hp] at HP
     go_wp2_with (go_at_call 97;(refine(HP.out _).mono ?_;rintro e w' ⟨rfl,rfl⟩))
     go_ret2
     exact⟨by rw[HR.out,if_neg (fun h=>by have:=h.2.2.2;rw[hp] at this;cases this)];rfl,rfl⟩
theorem ptc4 {x:ByteArray} (hs:x.size≤1000000) (hz:0<x.size) (hx0:(x[0]'hz).toNat=b0) (h2:240≤b0) (h4:b0<248) (w:World):Calls Tryz.prog 78 #[.string x] w fun e w'=>e= .returned (.tuple #[.int .i64 (puN x.size b0 (byteAt x 1) (byteAt x 2) (byteAt x 3)).1,.int .i64 (puN x.size b0 (byteAt x 1) (byteAt x 2) (byteAt x 3)).2])∧w=w':=by
 have hsI:(x.size:Int)≤1000000:=(by omega);have hzI:(0:Int)<x.size:=(by omega);have hz0:((x.size:Int) == 0)=false:=by rw[beq_eq_false_iff_ne];omega
 have hb256:b0<256:=(by omega);have hwb:wrap64 (b0:Int)=b0:=by unfold wrap64;omega
 have a0:decide ((b0:Int)<128)=false:=decide_eq_false (by omega)
 ·obtain⟨r,hr⟩:∃r,r=puN x.size b0 (byteAt x 1) (byteAt x 2) (byteAt x 3):=⟨_,rfl⟩;rw[←hr];rw[pu4 (by omega)] at hr;have a1:(192:Int)≤b0:=(by omega);have a2:decide ((b0:Int)<224)=false:=decide_eq_false (by omega);have a3:(224:Int)≤b0:=(by omega);have a4:decide ((b0:Int)<240)=false:=decide_eq_false (by omega);have a5:(240:Int)≤b0:=(by omega);have a6:(b0:Int)<248:=(by omega);by_cases h5:x.size<4
  ·have HR:=zh hr;clear hr;have a7:(x.size:Int)<4:=(by omega);go_enter Tryz.func78,Tryz.ntmps78
   go_wp2_with fail
   go_ret2
   exact⟨by rw[HR.out,if_neg (fun h=>absurd h.1 (by omega))];rfl,rfl⟩
  have a7:decide ((x.size:Int)<4)=false:=decide_eq_false (by omega)
  replace h5:4≤x.size:=by omega
  have hx1:=get_at (i:=1) (by omega:1<x.size);obtain⟨b1,hb1⟩:∃b,b=byteAt x 1:=⟨_,rfl⟩;have hc1:b1<256:=by rw[hb1,←hx1];exact UInt8.toNat_lt _
  have FH:wrap64 (b1:Int)=b1:=by unfold wrap64;omega
  rw[←hb1] at hx1 hr;have hi1:(1:Int)<x.size:=(by omega);have hx2:=get_at (i:=2) (by omega:2<x.size);obtain⟨b2,hb2⟩:∃b,b=byteAt x 2:=⟨_,rfl⟩;have hc2:b2<256:=by rw[hb2,←hx2];exact UInt8.toNat_lt _
  have NI:wrap64 (b2:Int)=b2:=by unfold wrap64;omega
  rw[←hb2] at hx2 hr;have hi2:(2:Int)<x.size:=(by omega);have hx3:=get_at (i:=3) (by omega:3<x.size);obtain⟨b3,hb3⟩:∃b,b=byteAt x 3:=⟨_,rfl⟩;have hc3:b3<256:=by rw[hb3,←hx3];exact UInt8.toNat_lt _
  have Tt:wrap64 (b3:Int)=b3:=by unfold wrap64;omega
  rw[←hb3] at hx3 hr;have hi3:(3:Int)<x.size:=(by omega);clear hb1 hb2 hb3;have HR:=zh hr;clear hr;go_enter Tryz.func78,Tryz.ntmps78
  go_wp2_with fail
  go_loopw [4,7] (fun s4 s7 wx=>wx=w∧((s7= .int .i64 1∧s4= .int .i64 ((b0:Int)-240))∨(s7= .int .i64 2∧s4= .int .i64 (64*((b0:Int)-240)+b1-128)∧128≤b1∧b1≤191)∨(s7= .int .i64 3∧s4= .int .i64 (64*(64*((b0:Int)-240)+b1-128)+b2-128)∧128≤b1∧b1≤191∧128≤b2∧b2≤191)∨(s7= .int .i64 4∧s4= .int .i64 (64*(64*(64*((b0:Int)-240)+b1-128)+b2-128)+b3-128)∧128≤b1∧b1≤191∧128≤b2∧b2≤191∧128≤b3∧b3≤191))) (fun _ s7 _=>4-(intOf s7).toNat)
  case atStart=>exact⟨rfl,.inl ⟨rfl,rfl⟩⟩
  case round=>
   rename World=>Wa
   obtain⟨rfl,h⟩:=hrel;rcases h with⟨rfl,rfl⟩|⟨rfl,rfl,g1,k1⟩|⟨rfl,rfl,g1,k1,g2,k2⟩|⟨rfl,rfl,g1,k1,g2,k2,g3,k3⟩
   ·obtain⟨d,hd⟩:∃d:Int,d=((b0:Int)-240):=⟨_,rfl⟩;have hdb:0≤d∧d<70000:=(by omega);rw[←hd];have HD:=zh hd;clear hd;obtain⟨hd0,hd1⟩:=hdb;clear hx2 hi2 NI hc2 hx3 hi3 Tt hc3;clear a0 a1 a2 a3 a4 a5 a6 a7 h2 h4 hb256 hwb hsI hzI hz0;by_cases l1:b1<128
    ·have z1:(b1:Int)<128:=Int.ofNat_lt.2 l1
     go_wp2_with fail
     go_ret2
     exact⟨by rw[HR.out,if_neg (fun h=>absurd (h.2.1.1).1 (Nat.not_le.2 l1))];rfl,rfl⟩
    by_cases u1:191<b1
    ·have z1:decide ((b1:Int)<128)=false:=jW (Nat.not_lt.1 l1);have z2:(191:Int)<b1:=Int.ofNat_lt.2 u1
     go_wp2_with fail
     go_ret2
     exact⟨by rw[HR.out,if_neg (fun h=>absurd (h.2.1.1).2 (Nat.not_le.2 u1))];rfl,rfl⟩
    have z1:decide ((b1:Int)<128)=false:=jW (Nat.not_lt.1 l1);have z2:decide ((191:Int)<b1)=false:=vC (Nat.lt_succ_of_le (Nat.not_lt.1 u1))
    go_wp2_with fail
    go_roundw
    case rel=>exact⟨trivial,.inr (.inl ⟨rfl,by rw[HD.out],Nat.not_lt.1 l1,Nat.not_lt.1 u1⟩)⟩
    case measure=>simp[intOf]
   ·obtain⟨d,hd⟩:∃d:Int,d=(64*((b0:Int)-240)+b1-128):=⟨_,rfl⟩;have hdb:0≤d∧d<70000:=(by omega);rw[←hd];have HD:=zh hd;clear hd;obtain⟨hd0,hd1⟩:=hdb;have Kw:=zh g1;have Ky:=zh k1;clear g1 k1 hx1 hi1 FH hc1 hx3 hi3 Tt hc3;clear a0 a1 a2 a3 a4 a5 a6 a7 h2 h4 hb256 hwb hsI hzI hz0;by_cases l2:b2<128
    ·have z1:(b2:Int)<128:=Int.ofNat_lt.2 l2
     go_wp2_with fail
     go_ret2
     exact⟨by rw[HR.out,if_neg (fun h=>absurd (h.2.1.2.1).1 (Nat.not_le.2 l2))];rfl,rfl⟩
    by_cases u2:191<b2
    ·have z1:decide ((b2:Int)<128)=false:=jW (Nat.not_lt.1 l2);have z2:(191:Int)<b2:=Int.ofNat_lt.2 u2
     go_wp2_with fail
     go_ret2
     exact⟨by rw[HR.out,if_neg (fun h=>absurd (h.2.1.2.1).2 (Nat.not_le.2 u2))];rfl,rfl⟩
    have z1:decide ((b2:Int)<128)=false:=jW (Nat.not_lt.1 l2);have z2:decide ((191:Int)<b2)=false:=vC (Nat.lt_succ_of_le (Nat.not_lt.1 u2))
    go_wp2_with fail
    go_roundw
    case rel=>exact⟨trivial,.inr (.inr (.inl ⟨rfl,by rw[HD.out],Kw.out,Ky.out,Nat.not_lt.1 l2,Nat.not_lt.1 u2⟩))⟩
    case measure=>simp[intOf]
   ·obtain⟨d,hd⟩:∃d:Int,d=(64*(64*((b0:Int)-240)+b1-128)+b2-128):=⟨_,rfl⟩;have hdb:0≤d∧d<70000:=(by omega);rw[←hd];have HD:=zh hd;clear hd;obtain⟨hd0,hd1⟩:=hdb;have Kw:=zh g1;have Ky:=zh k1;have HGG2:=zh g2;have HKK2:=zh k2;clear g1 k1 g2 k2 hx1 hi1 FH hc1 hx2 hi2 NI hc2;clear a0 a1 a2 a3 a4 a5 a6 a7 h2 h4 hb256 hwb hsI hzI hz0;by_cases l3:b3<128
    ·have z1:(b3:Int)<128:=Int.ofNat_lt.2 l3
     go_wp2_with fail
     go_ret2
     exact⟨by rw[HR.out,if_neg (fun h=>absurd (h.2.1.2.2).1 (Nat.not_le.2 l3))];rfl,rfl⟩
    by_cases u3:191<b3
    ·have z1:decide ((b3:Int)<128)=false:=jW (Nat.not_lt.1 l3);have z2:(191:Int)<b3:=Int.ofNat_lt.2 u3
     go_wp2_with fail
     go_ret2
     exact⟨by rw[HR.out,if_neg (fun h=>absurd (h.2.1.2.2).2 (Nat.not_le.2 u3))];rfl,rfl⟩
    have z1:decide ((b3:Int)<128)=false:=jW (Nat.not_lt.1 l3);have z2:decide ((191:Int)<b3)=false:=vC (Nat.lt_succ_of_le (Nat.not_lt.1 u3))
    go_wp2_with fail
    go_roundw
    case rel=>exact⟨trivial,.inr (.inr (.inr (⟨rfl,by rw[HD.out],Kw.out,Ky.out,HGG2.out,HKK2.out,Nat.not_lt.1 l3,Nat.not_lt.1 u3⟩)))⟩
    case measure=>simp[intOf]
   ·obtain⟨hv,hvl⟩:=ptv4 h2 h4 g1 k1 g2 k2 g3 k3;rw[hv];have hby:(128≤b1∧b1≤191)∧(128≤b2∧b2≤191)∧(128≤b3∧b3≤191):=⟨⟨g1,k1⟩,⟨g2,k2⟩,⟨g3,k3⟩⟩;clear hv;have hr:=HR.out;clear HR;generalize 64*(64*(64*(b0-240)+(b1-128))+(b2-128))+(b3-128)=c at hvl hr ⊢;have HR:=zh hr;clear hr;have HP:=zh (iT c hvl);by_cases hl:c<65536
    ·have z1:(c:Int)<65536:=by omega
     go_wp2_with fail
     go_ret2
     exact⟨by rw[HR.out,if_neg (fun h=>absurd h.2.2.1 (by omega))];rfl,rfl⟩
    have z1:decide ((c:Int)<65536)=false:=decide_eq_false (by omega)
    replace hl:65536≤c:=by omega
    cases hp:Wy.point (c:Int) with
    |true=>
     rw[hp] at HP
     go_wp2_with (go_at_call 97;(refine(HP.out _).mono ?_;rintro e w' ⟨rfl,rfl⟩))
     go_ret2
     exact⟨by rw[HR.out,if_pos ⟨h5,hby,hl,hp⟩];rfl,rfl⟩
    |false=>
     rw[hp] at HP
     go_wp2_with (go_at_call 97;(refine(HP.out _).mono ?_;rintro e w' ⟨rfl,rfl⟩))
     go_ret2
     exact⟨by rw[HR.out,if_neg (fun h=>by have:=h.2.2.2;rw[hp] at this;cases this)];rfl,rfl⟩
theorem wO {x:ByteArray} (hs:x.size≤1000000) (w:World):Calls Tryz.prog 78 #[.string x] w fun e w'=>e= .returned (.tuple #[.int .i64 (puS x).1,.int .i64 (puS x).2])∧w=w':=by
 by_cases hz:0<x.size
 case neg=>
  have h0:x.size=0:=(by omega);have e:puS x=(0,0):=by unfold puS;rw[if_pos h0]
  rw[e];have hz0:((x.size:Int) == 0)=true:=by rw[h0];rfl
  go_enter Tryz.func78,Tryz.ntmps78
  go_wp2_with fail
  go_ret2
  exact⟨rfl,rfl⟩
 have hsI:(x.size:Int)≤1000000:=(by omega);have hzI:(0:Int)<x.size:=(by omega);have hz0:((x.size:Int) == 0)=false:=by rw[beq_eq_false_iff_ne];omega
 have hx0:=get_at hz;obtain⟨b0,hb0⟩:∃b,b=byteAt x 0:=⟨_,rfl⟩;have hb256:b0<256:=by rw[hb0,←hx0];exact UInt8.toNat_lt _
 rw[←hb0] at hx0;have hpu:puS x=puN x.size b0 (byteAt x 1) (byteAt x 2) (byteAt x 3):=by unfold puS;rw[if_neg (by omega),←hb0]
 rw[hpu];have hwb:wrap64 (b0:Int)=b0:=by unfold wrap64;omega
 clear hb0 hpu;by_cases h1:b0<128
 ·rw[pu1 h1];have h1I:(b0:Int)<128:=(by omega);go_enter Tryz.func78,Tryz.ntmps78
  go_wp2_with fail
  go_ret2
  exact⟨rfl,rfl⟩
 have a0:decide ((b0:Int)<128)=false:=decide_eq_false (by omega);by_cases h2:b0<192
 ·rw[pu0 (by omega)];have a1:decide ((192:Int)≤b0)=false:=decide_eq_false (by omega);have a2:decide ((224:Int)≤b0)=false:=decide_eq_false (by omega);have a3:decide ((240:Int)≤b0)=false:=decide_eq_false (by omega);go_enter Tryz.func78,Tryz.ntmps78
  go_wp2_with fail
  go_ret2
  exact⟨rfl,rfl⟩
 by_cases h3:248≤b0
 ·rw[pu0 (by omega)];have a1:(192:Int)≤b0:=(by omega);have a2:(224:Int)≤b0:=(by omega);have a3:(240:Int)≤b0:=(by omega);have a4:decide ((b0:Int)<224)=false:=decide_eq_false (by omega);have a5:decide ((b0:Int)<240)=false:=decide_eq_false (by omega);have a6:decide ((b0:Int)<248)=false:=decide_eq_false (by omega);go_enter Tryz.func78,Tryz.ntmps78
  go_wp2_with fail
  go_ret2
  exact⟨rfl,rfl⟩
 by_cases h42:b0<224
 ·exact ptc2 hs hz hx0 (by omega) h42 w
 by_cases h43:b0<240
 ·exact ptc3 hs hz hx0 (by omega) h43 w
 by_cases h44:b0<248
 ·exact ptc4 hs hz hx0 (by omega) h44 w
 omega
variable {s:ByteArray} {l:List Wy.Way} {G g p:Nat} {t:Nd}
def Bnd (s:ByteArray) (p:Nat):Prop:=p≤s.size∧Lib.validD (s.data.toList.drop p)=true
theorem EU (h:Bnd s p) (hp:p<s.size):¬((Lib.decodeL (s.data.toList.drop p)).1=65533∧(Lib.decodeL (s.data.toList.drop p)).2=1)∧Lib.validD ((s.data.toList.drop p).drop (Lib.decodeL (s.data.toList.drop p)).2)=true:=by
 have hl:(s.data.toList.drop p).length=s.size-p:=by rw[List.length_drop];rfl
 have hne:s.data.toList.drop p≠[]:=fun e=>by rw[e] at hl;simp at hl;omega
 have hv:=h.2;rw[Lib.validD_step _ hne] at hv;split at hv
 ·cases hv
 ·rename_i hn;exact⟨hn,hv⟩
theorem Cb (h:Bnd s p) (h0:0<((aN s).dec p).2):Bnd s (p+((aN s).dec p).2):=by
 have hp:p<s.size:=by
  by_cases hp:p<s.size
  ·exact hp
  ·rw[BR s p hp] at h0;omega
 obtain⟨-,hv⟩:=EU h hp;have hd:=qW s p hp;rw[hd];refine⟨?_,?_⟩
 ·have hl:(s.data.toList.drop p).length=s.size-p:=by rw[List.length_drop];rfl
  have hne:s.data.toList.drop p≠[]:=fun e=>by rw[e] at hl;simp at hl;omega
  have:=Lib.decodeL_le _ hne;show p+(Lib.decodeL (s.data.toList.drop p)).2≤s.size
  omega
 ·rw[List.drop_drop] at hv;exact hv
theorem Qy (h:Bnd s p):(puS (bn s p)).2=((aN s).dec p).2∧(0<((aN s).dec p).2→((puS (bn s p)).1:Int)=((aN s).dec p).1):=by
 have hz:(bn s p).size=s.size-p:=dJ s p h.1;by_cases hp:p<s.size
 ·obtain⟨hn,-⟩:=EU h hp;have hd:=qW s p hp;have e:Lib.decodeN (bn s p).size (byteAt (bn s p) 0) (byteAt (bn s p) 1) (byteAt (bn s p) 2) (byteAt (bn s p) 3)=Lib.decodeL (s.data.toList.drop p):=by
   have h1:Lib.decodeGo (bn s p)=Utf8.decode (bn s p) 0:=by unfold Lib.decodeGo;rw[if_neg (by omega)]
   rw[Lib.decode_at,Nat.sub_zero] at h1;have h2:(aN s).dec p=(((Lib.decodeGo (bn s p)).1:Int),(Lib.decodeGo (bn s p)).2):=rfl;rw[h2,h1] at hd;simp only[Prod.mk.injEq] at hd;exact Prod.ext (by have:=hd.1;exact Int.ofNat.inj this) hd.2
  have e2:puS (bn s p)=Lib.decodeL (s.data.toList.drop p):=by
   unfold puS puN;rw[if_neg (by omega),e,if_neg (fun h3=>hn ⟨by rw[h3],by rw[h3]⟩)]
  rw[e2,hd];exact⟨rfl,fun _=>rfl⟩
 ·have e2:puS (bn s p)=(0,0):=by unfold puS;rw[if_pos (by omega)]
  rw[e2,BR s p hp];exact⟨rfl,fun h=>by omega⟩
def Rwl (G L:Nat) (o:Option (List Wy.Way)) (w:World) (e:Ending) (w':World):Prop:=
 Below w.heap.size w w'∧match o with
  |none=>e= .returned (.tuple #[.slice none 0 0,.bool false])
  |some l=>∃v cs,e= .returned (.tuple #[v,.bool true])∧w'.ownsRow w.heap.size 79 2 v l.length cs∧aH (TB 129 w') w' G L l cs
def iU (s:ByteArray) (G:Nat) (t:Nd):Prop:=∀(N:Nat→Prop) (w:World) (cs:List Value) (g p:Nat),ai N w t cs→g+opened t≤G→Bnd s p→
 Calls Tryz.prog 60 #[.agg cs.toArray,.string s,.int .i64 (p:Nat),.int .i64 (g:Nat),.int .i64 (G:Nat)] w (Rwl G s.size (Wy.wy (ak G) (aN s) t g p) w)
theorem zZ (h:Wy.wy (ak G) (aN s) t g p=some l) (hp:Bnd s p):∀x∈l,WIn (Bnd s) G p x:=
 zO (Nu (S:=aN s) (Q:=Bnd s) (fun _ hq h0=>Cb hq h0) G) t g p l h hp
theorem Kz (hs:s.size≤1000000) (h:Wy.wy (ak G) (aN s) t g p=some l) (hp:Bnd s p):∀x∈l,Prp x.spans:=
 fun x hx=>Prp.Qe (zZ h hp x hx) (fun n hn=>by have:=hn.1;omega)
theorem EW {A:Alg Wy.Way} {f:Nat→Option (List Wy.Way)} (x:Wy.Way×Int) (i:Nat):kN A f (x,i)=(f (A.stop x.1)).map (List.map fun y=>(A.thn x.1 y,(i:Int))):=by
 unfold kN bV;rw[Option.map_map];congr 1;funext l;simp
theorem Qz (l:List (Wy.Way×Int)) {i:Nat} (hi:i<l.length):l.zipIdx[i]'(by simpa using hi)=(l[i],i):=by simp
variable {lazy:Bool} {Q:Exit→Act→World→Prop} {hi kk lo:Int} {last nx:List (Wy.Way×Int)} {ucs:List Value} {more:List Wy.Way} {B L cm cn i lb lc lo_ uc:Nat} {N:Nat→Prop} {sub:Nd} {om on uo_:Option Addr} {dm:Value} {W wb:World} {x:Wy.Way}
theorem QA (m:List Value) (hm:m.length=100)
  (k13:m[13]? =some (.slice (some ⟨lb,lo_,none⟩) last.length lc)) (k14:m[14]? =some (.slice on nx.length cn)) (k15:m[15]? =some (.int .i64 (i:Nat))) (k16:m[16]? =some (.slice om more.length cm)) (k18:m[18]? =some (.int .i64 0))
  (hi:i<last.length) (hx:x=last[i].1) (hll:last.length≤500) (hlc:last.length≤lc) (hml:more.length≤500) (hnl:nx.length≤500) (hpr:∀y∈more,Prp y.spans) (hG:G≤64)
  (hL:jJ wb G L (.slice (some ⟨lb,lo_,none⟩) last.length lc) last) (hM:nJ W G L (.slice om more.length cm) more) (hN:nI G L wb nx (.slice on nx.length cn) W)
  (hQ:∀(m':List Value) (w':World) (o':Option Addr) (c':Nat),m'.length=100→(m'[1]? =m[1]? ∧m'[2]? =m[2]? ∧m'[3]? =m[3]? ∧m'[4]? =m[4]? ∧m'[5]? =m[5]? ∧m'[12]? =m[12]?)→m'[13]? =some (.slice (some ⟨lb,lo_,none⟩) last.length lc)→m'[15]? =some (.int .i64 (i:Nat))→m'[14]? =some (.slice o' (nx++more.map fun y=>((ak G).thn x y,(i:Int))).length c')→
   nI G L wb (nx++more.map fun y=>((ak G).thn x y,(i:Int))) (.slice o' (nx++more.map fun y=>((ak G).thn x y,(i:Int))).length c') w'→Q (.exit 4) ⟨m'.toArray,[]⟩ w'):
  Code.wp Tryz.prog (rqC [1,1,0,0,0,1,0,1,1,0,1,0,0,1,0,0,1,1,0,1,0]) Q ⟨m.toArray,[]⟩ W:=by
 obtain⟨e,rfl⟩:=iE hm;rw[zI k13,zI k14,zI k15,zI k16,zI k18];exact Tq e hi hx hll hlc hml hnl hpr hG hL hM hN fun m' w' o' c' h1 h2 h3 h4=>hQ m' w' o' c' h1 ⟨h2.1,h2.2.1,h2.2.2.1,h2.2.2.2.1,h2.2.2.2.2.1,h2.2.2.2.2.2.1⟩ h2.2.2.2.2.2.2.1 h2.2.2.2.2.2.2.2.1 h3 h4
def rqU (G L:Nat) (o:Option (List Wy.Way)) (Wa:World):List Value→World→Prop
 |[]=>fun w'=>w'=Wa.drew
 |[v]=>fun w'=>Rwl G L o Wa.drew (.returned v) w'
 |_=>fun _=>False
def RqI (s:ByteArray) (G g B:Nat) (lv c2 c12:Value) (f:Nat→Option (List Wy.Way)) (last:List (Wy.Way×Int)) (wb:World) (n:Nat) (a:Act) (w:World):Prop:=∃(m:List Value) (i:Nat) (o':Option Addr) (c':Nat) (acc:List (Wy.Way×Int)),a=⟨m.toArray,[]⟩∧m.length=100∧
 (m[1]? =some (.string s)∧m[2]? =some c2∧m[3]? =some (.int .i64 (g:Nat))∧m[4]? =some (.int .i64 (G:Nat))∧m[5]? =some (.pointer (some ⟨B,0,none⟩))∧m[12]? =some c12∧m[13]? =some lv)∧m[14]? =some (.slice o' acc.length c')∧m[15]? =some (.int .i64 (i:Nat))∧
 i≤last.length∧n=last.length-i∧allOf (kN (ak G) f) (last.zipIdx.take i)=some acc∧acc.length≤500∧nI G s.size wb acc (.slice o' acc.length c') w
theorem QB (e:Nat→Value)
  (hsp:iU s G sub) (hs:s.size≤32) (hG:G≤64) (hg:g+opened sub≤G) (hll:last.length≤500) (hl0:0<last.length) (hlb:∀x∈last,Bnd s x.1.stop)
  (hL:jJ wb G s.size (.slice (some ⟨lb,lo_,none⟩) last.length lc) last) (hB:Blk wb B #[.int .u8 kk,dm,.int .i64 lo,.int .i64 hi,.bool lazy,.slice uo_ 1 uc] 70)
  (hrow:Row N wb (.slice uo_ [sub].length uc) [sub].length 6 ucs) (hsub:au N wb [sub] ucs)
  (jR:∀(m:List Value) (w':World),m.length=100→m[10]? =some (.slice none 0 0)→m[11]? =some (.bool false)→Below wb.heap.size wb w'→nxF (ak G) (fun q=>Wy.wy (ak G) (aN s) sub g q) last=none→Q .ret ⟨m.toArray,[]⟩ w')
  (hQ:∀(m:List Value) (w':World) (o':Option Addr) (c':Nat) (nx:List (Wy.Way×Int)),m.length=100→(m[1]? =some (.string s)∧m[2]? =some (e 2)∧m[3]? =some (.int .i64 (g:Nat))∧m[4]? =some (.int .i64 (G:Nat))∧m[5]? =some (.pointer (some ⟨B,0,none⟩))∧m[12]? =some (e 12))→m[14]? =some (.slice o' nx.length c')→
   nI G s.size wb nx (.slice o' nx.length c') w'→nxF (ak G) (fun q=>Wy.wy (ak G) (aN s) sub g q) last=some nx→Q (.exit 2) ⟨m.toArray,[]⟩ w'):
  Code.wp Tryz.prog (rqC [1,1,0,0,0,1,0,1,1,0,1,0]) Q ⟨#[e 0,.string s,e 2,.int .i64 (g:Nat),.int .i64 (G:Nat),.pointer (some ⟨B,0,none⟩),e 6,e 7,e 8,e 9,e 10,e 11,e 12,.slice (some ⟨lb,lo_,none⟩) last.length lc,.slice none 0 0,.int .i64 0,e 16,e 17,e 18,e 19,e 20,e 21,e 22,e 23,e 24,e 25,e 26,e 27,e 28,e 29,e 30,e 31,e 32,e 33,e 34,e 35,e 36,e 37,e 38,e 39,e 40,e 41,e 42,e 43,e 44,e 45,e 46,e 47,e 48,e 49,e 50,e 51,e 52,e 53,e 54,e 55,e 56,e 57,e 58,e 59,e 60,e 61,e 62,e 63,e 64,e 65,e 66,e 67,e 68,e 69,e 70,e 71,e 72,e 73,e 74,e 75,e 76,e 77,e 78,e 79,e 80,e 81,e 82,e 83,e 84,e 85,e 86,e 87,e 88,e 89,e 90,e 91,e 92,e 93,e 94,e 95,e 96,e 97,e 98,e 99],[]⟩ wb:=by
 obtain⟨lb2,lo2,lc2,e2,hlc,Qv,-,hlz,wM⟩:=hL.cells hl0;simp only[Value.slice.injEq,Option.some.injEq,Addr.mk.injEq,and_true,true_and] at e2;obtain⟨⟨rfl,rfl⟩,rfl⟩:=e2;have hlI:(last.length:Int)≤500:=(by omega);have MC:(last.length:Int)≤lc:=(by omega);have hBz:=hB.lt;have hgI:(g:Int)≤64:=(by omega);have hGI:(G:Int)≤64:=(by omega);obtain⟨f,hf⟩:∃f:Nat→Option (List Wy.Way),f=fun q=>Wy.wy (ak G) (aN s) sub g q:=⟨_,rfl⟩
 rw[←hf] at jR hQ;have HFE:=zh hf;have wP:=zh hsp;have HLB:=zh hlb;have HL:=zh hL;have HLC:=zh wM;have HB:=zh hB;have lh:=zh (And.intro hrow hsub);have DU:=zh jR;have HQ:=zh hQ;clear hf hsp hlb hL wM hB hrow hsub jR hQ;conv=>arg 2;whnf
 go_wp2_with fail
 refine wp_loop_ghost (RqI s G g B (.slice (some ⟨lb,lo_,none⟩) last.length lc) (e 2) (e 12) f last wb) (last.length-0) ?_ (fun n a Wa hI=> ?_)
 ·exact⟨_,0,none,0,[],rfl,rfl,⟨rfl,rfl,rfl,rfl,rfl,rfl,rfl⟩,rfl,rfl,by omega,rfl,rfl,by simp,zR,[],zN,rfl⟩
 ·obtain⟨m,i,o',c',acc,rfl,hm,⟨g1,g2,g3,g4,g5,g12,g13⟩,g14,g15,hi,rfl,hacc,hal,hnx⟩:=hI;obtain⟨q0,rfl⟩:=iE hm;rw[zI g1,zI g2,zI g3,zI g4,zI g5,zI g12,zI g13,zI g14,zI g15];clear g1 g2 g3 g4 g5 g12 g13 g14 g15 hm;by_cases hil:¬i<last.length
  ·obtain rfl:i=last.length:=(by omega);have hn:nxF (ak G) f last=some acc:=by
    unfold nxF;rw[List.take_of_length_le (by simp)] at hacc;rw[hacc,eQ hal]
   have HN:=zh (And.intro hn hnx);clear hacc hnx hn hil
   go_wp2_with fail
   exact HQ.out _ _ o' c' acc rfl ⟨rfl,rfl,rfl,rfl,rfl,rfl⟩ rfl HN.out.2 HN.out.1
  ·have hil:i<last.length:=(by omega);have hiI:(i:Int)<last.length:=(by omega);obtain⟨xs,hx0,hx1,-,hxs,hxl,hxg⟩:=HLC.out i hil;obtain⟨x,hx⟩:∃x,x=last[i].1:=⟨_,rfl⟩;have hxb:Bnd s x.stop:=by rw[hx];exact HLB.out _ (List.getElem_mem hil)
   rw[←hx] at hx0;obtain⟨ub,uo,k',lo',hi',lz',p1,p2,n1,c1,n2,c2,hue,Gu,bg,t0,t1,t2,t3,t4,t5,hnd⟩:=jc lh.out.1 lh.out.2 hnx.1 (i:=0) (by simp);subst hue;simp only[Nat.zero_mul,Nat.add_zero] at t0 t1 t2 t3 t4 t5;have zY:lb<Wa.heap.size:=by have:=hnx.1.size;omega
   have Qp:B<Wa.heap.size:=by have:=hnx.1.size;omega
   have hxa:Wa.cell? ⟨lb,lo_+i*3,none⟩=some (.int .i64 x.stop):=(zW (hnx.1.block _ hlz)).trans hx0;have hB2:=HB.out.below hnx.1 hBz;have b5:=hB2.cell 5;have hstp:kN (ak G) f (last.zipIdx[i]'(by simpa using hil))=(f x.stop).map (List.map fun y=>((ak G).thn x y,(i:Int))):=by rw[Qz last hil,EW,hx];rfl
   have hbz:wb.heap.size≤Wa.heap.size:=hnx.1.size;have hR:∀w',Below Wa.heap.size Wa w'→w'.cell? ⟨lb,lo_+i*3,none⟩=some (.int .i64 x.stop)∧w'.cell? ⟨B,5,none⟩=some (.slice (some ⟨ub,uo,none⟩) 1 uc)∧w'.cell? ⟨ub,uo,none⟩=some (.int .u8 k')∧w'.cell? ⟨ub,uo+1,none⟩=some (.slice p1 n1 c1)∧w'.cell? ⟨ub,uo+2,none⟩=some (.int .i64 lo')∧w'.cell? ⟨ub,uo+3,none⟩=some (.int .i64 hi')∧w'.cell? ⟨ub,uo+4,none⟩=some (.bool lz')∧w'.cell? ⟨ub,uo+5,none⟩=some (.slice p2 n2 c2)∧lb<w'.heap.size∧B<w'.heap.size∧ub<w'.heap.size:=fun w' h=>
    ⟨(zW (h.block _ zY)).trans hxa,(zW (h.block _ Qp)).trans b5,(zW (h.block _ bg)).trans t0,(zW (h.block _ bg)).trans t1,(zW (h.block _ bg)).trans t2,(zW (h.block _ bg)).trans t3,(zW (h.block _ bg)).trans t4,(zW (h.block _ bg)).trans t5,by have:=h.size;omega,by have:=h.size;omega,by have:=h.size;omega⟩
   have hcall:Calls Tryz.prog 60 #[.agg #[.int .u8 k',.slice p1 n1 c1,.int .i64 lo',.int .i64 hi',.bool lz',.slice p2 n2 c2],.string s,.int .i64 (x.stop:Nat),.int .i64 (g:Nat),.int .i64 (G:Nat)] Wa.drew (Rwl G s.size (f x.stop) Wa.drew):=by
    have:=wP.out N Wa.drew _ g x.stop (ai.go (M:=N) ((Kept.refl (fun _=>False) Wa).drew) (fun _ _ h=>⟨id,h⟩) hnd) hg hxb;rw[HFE.out];exact this
   have hlen:∀more,f x.stop=some more→more.length≤500∧∀y∈more,Prp y.spans:=fun more h=>by
    rw[HFE.out] at h;exact⟨fV h,Kz (by omega) h hxb⟩
   have hnone:f x.stop=none→nxF (ak G) f last=none:=fun h=>by
    unfold nxF;rw[mi (i:=i) (by simpa using hil) (by rw[hstp,h];rfl)]
    rfl
   have hsome:∀more,f x.stop=some more→allOf (kN (ak G) f) (last.zipIdx.take (i+1))=some (acc++more.map fun y=>((ak G).thn x y,(i:Int))):=fun more h=>
    mg (by simpa using hil) hacc (by rw[hstp,h];rfl)
   have hlong:∀acc',allOf (kN (ak G) f) (last.zipIdx.take (i+1))=some acc'→500<acc'.length→nxF (ak G) f last=none:=fun acc' h hl=>mr h hl
   have HR:=zh hR;have aS:=zh hcall;have HLEN:=zh hlen;have gq:=zh hnone;have yu:=zh hsome;have KA:=zh hlong;have HNX:=zh hnx;have HX:=zh hx;have lK:(0:Int)<1:=(by omega);clear hR hcall hlen hnone hsome hlong hstp hacc hnx hx t0 t1 t2 t3 t4 t5 hnd b5 hB2 hxa hxs hxl hxg hx0 hx1 hxb bg;obtain⟨o,ho⟩:∃o,o=f x.stop:=⟨_,rfl⟩;rw[←ho] at aS HLEN gq yu;clear ho;cases o with
   |none=>
    go_wp2_with fail
    apply aJ ?hm ?hok [0,1,2,3,4,5,6,7,8,9,10,11,12,13,14,15,16,17,18] [13] [14,15,16,17,18] ?hord (fun w'=>Below Wa.heap.size Wa w') (rqU G s.size none Wa)
    case hm=>rfl
    case hok=>kernel_rfl
    case hord=>kernel_rfl
    case hb=>
     intro L' w' h hl
     match L' with
     |[]=>rw[h];exact zR.drew
     |_::_=>simp at hl
    case hw=>rfl
    apply ae _ rfl rfl rfl rfl
    case h=>
     intro W1 hW K hK
     go_wp2_with fail
     exact hK
    simp only[zP,zQ,zB,zC];apply ae _ rfl rfl rfl rfl
    case h=>
     intro W1 hW K hK
     (obtain⟨q0,q1,q2,q3,q4,q5,q6,q7,q8,q9,q10⟩:=HR.out _ hW)
     go_wp2_with fail
     exact hK
    simp only[zP,zQ,zB,zC];apply ae _ rfl rfl rfl rfl
    case h=>
     intro W1 hW K hK
     go_wp2_with fail
     exact hK
    simp only[zP,zQ,zB,zC];apply ae _ rfl rfl rfl rfl
    case h=>
     intro W1 hW K hK
     (obtain⟨q0,q1,q2,q3,q4,q5,q6,q7,q8,q9,q10⟩:=HR.out _ hW)
     go_wp2_with fail
     exact hK
    simp only[zP,zQ,zB,zC];apply ae _ rfl rfl rfl rfl
    case h=>
     intro W1 hW K hK
     go_wp2_with fail
     exact hK
    simp only[zP,zQ,zB,zC];apply ae _ rfl rfl rfl rfl
    case h=>
     intro W1 hW K hK
     go_wp2_with fail
     exact hK
    simp only[zP,zQ,zB,zC];apply ae _ rfl rfl rfl rfl
    case h=>
     intro W1 hW K hK
     go_wp2_with fail
     exact hK
    simp only[zP,zQ,zB,zC];apply ae _ rfl rfl rfl rfl
    case h=>
     intro W1 hW K hK
     go_wp2_with fail
     exact hK
    simp only[zP,zQ,zB,zC];apply ae _ rfl rfl rfl rfl
    case h=>
     intro W1 hW K hK
     go_wp2_with fail
     exact hK
    simp only[zP,zQ,zB,zC];apply ae _ rfl rfl rfl rfl
    case h=>
     intro W1 hW K hK
     go_wp2_with fail
     exact hK
    simp only[zP,zQ,zB,zC];apply ae _ rfl rfl rfl rfl
    case h=>
     intro W1 hW K hK
     (obtain⟨q0,q1,q2,q3,q4,q5,q6,q7,q8,q9,q10⟩:=HR.out _ hW)
     go_wp2_with fail
     exact hK
    simp only[zP,zQ,zB,zC];apply ae _ rfl rfl rfl rfl
    case h=>
     intro W1 hW K hK
     go_wp2_with fail
     exact hK
    simp only[zP,zQ,zB,zC];apply ae _ rfl rfl rfl rfl
    case h=>
     intro W1 hW K hK
     go_wp2_with fail
     exact hK
    simp only[zP,zQ,zB,zC];apply ax rfl rfl rfl
    case h=>
     intro W1 hW K hK;obtain rfl:W1=Wa.drew:=hW
     go_wp2_with (go_at_call 60;(refine aS.out.mono ?_;rintro e2 w' hw2;obtain⟨v,rfl⟩:∃v,e2= .returned v:=(by first|exact⟨_,hw2.2⟩|(obtain⟨-,v,_,h,-⟩:=hw2;exact⟨_,h⟩))))
     exact hw2
    intro v hv;obtain⟨_,-,hv⟩:=hv;obtain rfl:=Ending.returned.inj hv;simp only[zP,zQ,zB,zC];apply ag (.tuple #[.slice none 0 0,.bool false]) rfl rfl rfl rfl
    case h=>
     intro W1 hW K hK
     go_wp2_with fail
     exact hK
    simp only[zP,zQ,zB,zC];apply ag (.slice none 0 0) rfl rfl rfl rfl
    case h=>
     intro W1 hW K hK
     go_wp2_with fail
     exact hK
    simp only[zP,zQ,zB,zC];apply ag (.bool false) rfl rfl rfl rfl
    case h=>
     intro W1 hW K hK
     go_wp2_with fail
     exact hK
    simp only[zP,zQ,zB,zC];apply ag (.slice none 0 0) rfl rfl rfl rfl
    case h=>
     intro W1 hW K hK
     go_wp2_with fail
     exact hK
    simp only[zP,zQ,zB,zC];apply ag (.bool false) rfl rfl rfl rfl
    case h=>
     intro W1 hW K hK
     go_wp2_with fail
     exact hK
    simp only[zP,zQ,zB,zC];refine aG fun W7 h7=> ?_
    have H7:=zh h7.1;clear h7
    go_wp2_with fail
    exact DU.out _ _ rfl rfl rfl (HNX.out.1.trans ((((Below.refl Wa.heap.size Wa).drew).trans H7.out).mono hbz)) (by first|exact gq.out rfl|exact gq.out trivial)
   |some more=>
    obtain⟨hml,hmp⟩:=HLEN.out more rfl;have hmI:(more.length:Int)≤500:=(by omega);have HMP:=zh hmp;clear hmp
    go_wp2_with fail
    apply aJ ?hm ?hok [0,1,2,3,4,5,6,7,8,9,10,11,12,13,14,15,16,17,18] [13] [14,15,16,17,18] ?hord (fun w'=>Below Wa.heap.size Wa w') (rqU G s.size (some more) Wa)
    case hm=>rfl
    case hok=>kernel_rfl
    case hord=>kernel_rfl
    case hb=>
     intro L' w' h hl
     match L' with
     |[]=>rw[h];exact zR.drew
     |_::_=>simp at hl
    case hw=>rfl
    apply ae _ rfl rfl rfl rfl
    case h=>
     intro W1 hW K hK
     go_wp2_with fail
     exact hK
    simp only[zP,zQ,zB,zC];apply ae _ rfl rfl rfl rfl
    case h=>
     intro W1 hW K hK
     (obtain⟨q0,q1,q2,q3,q4,q5,q6,q7,q8,q9,q10⟩:=HR.out _ hW)
     go_wp2_with fail
     exact hK
    simp only[zP,zQ,zB,zC];apply ae _ rfl rfl rfl rfl
    case h=>
     intro W1 hW K hK
     go_wp2_with fail
     exact hK
    simp only[zP,zQ,zB,zC];apply ae _ rfl rfl rfl rfl
    case h=>
     intro W1 hW K hK
     (obtain⟨q0,q1,q2,q3,q4,q5,q6,q7,q8,q9,q10⟩:=HR.out _ hW)
     go_wp2_with fail
     exact hK
    simp only[zP,zQ,zB,zC];apply ae _ rfl rfl rfl rfl
    case h=>
     intro W1 hW K hK
     go_wp2_with fail
     exact hK
    simp only[zP,zQ,zB,zC];apply ae _ rfl rfl rfl rfl
    case h=>
     intro W1 hW K hK
     go_wp2_with fail
     exact hK
    simp only[zP,zQ,zB,zC];apply ae _ rfl rfl rfl rfl
    case h=>
     intro W1 hW K hK
     go_wp2_with fail
     exact hK
    simp only[zP,zQ,zB,zC];apply ae _ rfl rfl rfl rfl
    case h=>
     intro W1 hW K hK
     go_wp2_with fail
     exact hK
    simp only[zP,zQ,zB,zC];apply ae _ rfl rfl rfl rfl
    case h=>
     intro W1 hW K hK
     go_wp2_with fail
     exact hK
    simp only[zP,zQ,zB,zC];apply ae _ rfl rfl rfl rfl
    case h=>
     intro W1 hW K hK
     go_wp2_with fail
     exact hK
    simp only[zP,zQ,zB,zC];apply ae _ rfl rfl rfl rfl
    case h=>
     intro W1 hW K hK
     (obtain⟨q0,q1,q2,q3,q4,q5,q6,q7,q8,q9,q10⟩:=HR.out _ hW)
     go_wp2_with fail
     exact hK
    simp only[zP,zQ,zB,zC];apply ae _ rfl rfl rfl rfl
    case h=>
     intro W1 hW K hK
     go_wp2_with fail
     exact hK
    simp only[zP,zQ,zB,zC];apply ae _ rfl rfl rfl rfl
    case h=>
     intro W1 hW K hK
     go_wp2_with fail
     exact hK
    simp only[zP,zQ,zB,zC];apply ax rfl rfl rfl
    case h=>
     intro W1 hW K hK;obtain rfl:W1=Wa.drew:=hW
     go_wp2_with (go_at_call 60;(refine aS.out.mono ?_;rintro e2 w' hw2;obtain⟨v,rfl⟩:∃v,e2= .returned v:=(by first|exact⟨_,hw2.2⟩|(obtain⟨-,v,_,h,-⟩:=hw2;exact⟨_,h⟩))))
     exact hw2
    intro v hv;obtain⟨_,-,v',cs',hv,hown',-⟩:=hv;obtain rfl:=Ending.returned.inj hv;obtain⟨om,cm,rfl⟩:=ay hown';clear hown';simp only[zP,zQ,zB,zC];apply ag (.tuple #[.slice om more.length cm,.bool true]) rfl rfl rfl rfl
    case h=>
     intro W1 hW K hK
     go_wp2_with fail
     exact hK
    simp only[zP,zQ,zB,zC];apply ag (.slice om more.length cm) rfl rfl rfl rfl
    case h=>
     intro W1 hW K hK
     go_wp2_with fail
     exact hK
    simp only[zP,zQ,zB,zC];apply ag (.bool true) rfl rfl rfl rfl
    case h=>
     intro W1 hW K hK
     go_wp2_with fail
     exact hK
    simp only[zP,zQ,zB,zC];apply ag (.slice om more.length cm) rfl rfl rfl rfl
    case h=>
     intro W1 hW K hK
     go_wp2_with fail
     exact hK
    simp only[zP,zQ,zB,zC];apply ag (.bool true) rfl rfl rfl rfl
    case h=>
     intro W1 hW K hK
     go_wp2_with fail
     exact hK
    simp only[zP,zQ,zB,zC];refine aG fun W7 h7=> ?_
    obtain⟨hb7,v'',cs7,e7,bQ,xk⟩:=h7;simp only[Ending.returned.injEq,Value.tuple.injEq,Array.mk.injEq,List.cons.injEq,and_true] at e7;subst e7;have DV:Below Wa.heap.size Wa W7:=((Below.refl Wa.heap.size Wa).drew).trans hb7;have hm7:nJ W7 G s.size (.slice om more.length cm) more:=⟨cs7,Row.iR bQ,xk⟩;have hn7:nI G s.size wb acc (.slice o' acc.length c') W7:=by
     obtain⟨h1,cs1,h2,h3⟩:=HNX.out;exact⟨h1.trans (DV.mono hbz),cs1,aB h2 (Kept.of_below DV (fun _=>False)) (fun _ _=>id),h3.ed DV⟩
    have H7:=zh (And.intro hm7 hn7);clear hb7 DV hm7 hn7 bQ xk
    go_wp2_with fail
    rename_i K1 hK1 wq K hK;have hsm:allOf (kN (ak G) f) (last.zipIdx.take (i+1))=some (acc++more.map fun y=>((ak G).thn x y,(i:Int))):=by first|exact yu.out more rfl|exact yu.out more trivial
    have hPl:(acc++more.map fun y=>((ak G).thn x y,(i:Int))).length≤1000:=by rw[List.length_append,List.length_map];omega
    have HSM:=zh hsm;clear hsm;refine QA _ rfl rfl rfl rfl rfl rfl hil HX.out hll hlc hml hal HMP.out hG HL.out H7.out.1 H7.out.2 (fun m w' o5 c5 hm hkp k13 k15 k14 hn=> ?_);obtain⟨P,hP⟩:∃P,P=acc++more.map fun y=>((ak G).thn x y,(i:Int)):=⟨_,rfl⟩
    rw[←hP] at k14 hn HSM hPl;have HN:=zh hn;have HP:=zh hP;clear hn hP H7;refine hK _ _ ?_;obtain⟨q,rfl⟩:=iE hm;obtain⟨g1,g2,g3,g4,g5,g12⟩:=hkp;rw[zI g1,zI g2,zI g3,zI g4,zI g5,zI g12,zI k13,zI k14,zI k15];have hPI:(P.length:Int)≤1000:=(by omega);clear g1 g2 g3 g4 g5 g12 k13 k14 k15 hm;by_cases hlg:500<P.length
    ·have QC:(500:Int)<P.length:=(by omega);have HLG:=zh (KA.out P HSM.out hlg)
     go_wp2_with fail
     exact DU.out _ _ rfl rfl rfl HN.out.1 HLG.out
    ·have QC:decide ((500:Int)<P.length)=false:=decide_eq_false (by omega)
     go_wp2_with fail
     exact⟨last.length-(i+1),by omega,_,i+1,o5,c5,P,rfl,rfl,⟨rfl,rfl,rfl,rfl,rfl,rfl,rfl⟩,rfl,rfl,by omega,rfl,HSM.out,by omega,HN.out⟩
variable {nc:Array Value} {R:List (List (Wy.Way×Int))} {L0:List (Wy.Way×Int)} {b cc:Nat} {oo:Option Addr} {T:TypeId} {c12 ov:Value} {w w' w0:World}
theorem src1 {c0:Value} (hb:b=W.heap.size):dI (W.alloc (.cells #[c0] T)) (.slice (some ⟨b,0,none⟩) 1 1) 1 [c0]:=by
 subst hb;refine .inr ⟨_,_,rfl,fun j u hu=> ?_⟩;have hB:=Blk.new W #[c0] T
 match j with
 |0=>simp at hu;subst hu;simp[Addr.add,hB.cell]
 |j+1=>simp at hu
theorem QD:(Tryz.prog.info? 176).map (fun i=>(i.zero,i.size,i.bytes))=some (some (.slice none 0 0),1,24):=by kernel_rfl
theorem NJ {c2:Value} (m:List Value) (hm:m.length=100)
  (k1:m[1]? =some (.string s)) (k2:m[2]? =some c2) (k3:m[3]? =some (.int .i64 (g:Nat))) (k4:m[4]? =some (.int .i64 (G:Nat))) (k5:m[5]? =some (.pointer (some ⟨B,0,none⟩))) (k12:m[12]? =some c12) (k13:m[13]? =some (.slice (some ⟨lb,lo_,none⟩) last.length lc)) (k14:m[14]? =some (.slice none 0 0)) (k15:m[15]? =some (.int .i64 0))
  (hsp:iU s G sub) (hs:s.size≤32) (hG:G≤64) (hg:g+opened sub≤G) (hll:last.length≤500) (hl0:0<last.length) (hlb:∀x∈last,Bnd s x.1.stop)
  (hL:jJ wb G s.size (.slice (some ⟨lb,lo_,none⟩) last.length lc) last) (hB:Blk wb B #[.int .u8 kk,dm,.int .i64 lo,.int .i64 hi,.bool lazy,.slice uo_ 1 uc] 70)
  (hrow:Row N wb (.slice uo_ [sub].length uc) [sub].length 6 ucs) (hsub:au N wb [sub] ucs)
  (jR:∀(m:List Value) (w':World),m.length=100→m[10]? =some (.slice none 0 0)→m[11]? =some (.bool false)→Below wb.heap.size wb w'→nxF (ak G) (fun q=>Wy.wy (ak G) (aN s) sub g q) last=none→Q .ret ⟨m.toArray,[]⟩ w')
  (hQ:∀(m:List Value) (w':World) (o':Option Addr) (c':Nat) (nx:List (Wy.Way×Int)),m.length=100→(m[1]? =some (.string s)∧m[2]? =some c2∧m[3]? =some (.int .i64 (g:Nat))∧m[4]? =some (.int .i64 (G:Nat))∧m[5]? =some (.pointer (some ⟨B,0,none⟩))∧m[12]? =some c12)→m[14]? =some (.slice o' nx.length c')→
   nI G s.size wb nx (.slice o' nx.length c') w'→nxF (ak G) (fun q=>Wy.wy (ak G) (aN s) sub g q) last=some nx→Q (.exit 2) ⟨m.toArray,[]⟩ w'):
  Code.wp Tryz.prog (rqC [1,1,0,0,0,1,0,1,1,0,1,0]) Q ⟨m.toArray,[]⟩ wb:=by
 obtain⟨e,rfl⟩:=iE hm;rw[zI k1,zI k3,zI k4,zI k5,zI k13,zI k14,zI k15];refine QB e hsp hs hG hg hll hl0 hlb hL hB hrow hsub jR (fun m w' o' c' nx h1 h2 h3 h4 h5=>hQ m w' o' c' nx h1 ?_ h3 h4 h5);rw[←zI k2,←zI k12];exact h2
def xm (B G L:Nat) (nc:Array Value) (w0:World) (R:List (List (Wy.Way×Int))) (ov:Value) (w:World):Prop:=
 Blk w B nc 70∧(∃hs,w.ownsRow (B+1) 176 1 ov R.length hs∧eu w G L R hs)∧Below B w0 w∧w0.heap.size=B
theorem xm.go (h:xm B G L nc w0 R ov w) (hb:Below w.heap.size w w'):xm B G L nc w0 R ov w':=by
 obtain⟨h1,⟨hs,h2,h3⟩,h4,h5⟩:=h;have k:Kept (fun _=>False) w w':=Kept.of_below hb _;exact⟨h1.kept k id,⟨hs,aB h2 k (fun _ _=>id),h3.typ k (fun _ _=>id) (fun _ _=>id)⟩,h4.trans (hb.mono (by have:=h1.lt;omega)),h5⟩
def RqO (s:ByteArray) (G g B p d:Nat) (nc:Array Value) (f:Nat→Option (List Wy.Way)) (hi:Int) (w0:World) (n:Nat) (a:Act) (w:World):Prop:=∃(m:List Value) (o':Option Addr) (c':Nat) (R:List (List (Wy.Way×Int))) (L:List (Wy.Way×Int)),a=⟨m.toArray,[]⟩∧m.length=100∧
 (m[1]? =some (.string s)∧m[2]? =some (.int .i64 (p:Nat))∧m[3]? =some (.int .i64 (g:Nat))∧m[4]? =some (.int .i64 (G:Nat))∧m[5]? =some (.pointer (some ⟨B,0,none⟩)))∧m[12]? =some (.slice o' (R.length+1) c')∧
 xm B G s.size nc w0 ([((ak G).still p,-1)]::R) (.slice o' (R.length+1) c') w∧Lvd (ak G) f hi 36 [((ak G).still p,-1)] R L∧(∀M∈[((ak G).still p,(-1:Int))]::R,M.length≤500)∧0<L.length∧(∀x∈L,Bnd s x.1.stop∧p+R.length*d≤x.1.stop)∧(d=0→R.length≤1)∧n=40-R.length
theorem QE {L:List (Wy.Way×Int)} (h:(L0::R).getLast? =some L):(L0::R)[R.length]'(by simp)=L:=by
 rw[List.getLast?_eq_getElem?] at h;simp only[List.length_cons,Nat.add_sub_cancel] at h;rw[List.getElem?_eq_getElem (by simp)] at h;exact zI h
theorem QF {t:Nat} {L M:List (Wy.Way×Int)} (hsh:(Wy.look sub).shaped=true) (h:nxF (ak G) (fun q=>Wy.wy (ak G) (aN s) sub g q) L=some M) (hL:∀x∈L,Bnd s x.1.stop∧p+t*dN sub≤x.1.stop):
  M.length≤500∧∀y∈M,Bnd s y.1.stop∧p+(t+1)*dN sub≤y.1.stop:=by
 obtain⟨hl,ha⟩:=gI h;refine⟨hl,fun y hy=> ?_⟩;obtain⟨q,hq,m,hm,hym⟩:=ru ha y hy;obtain⟨x,i⟩:=q;have hx:x∈L:=by
  have:=List.mem_zipIdx hq;rw[this.2.2];exact List.getElem_mem _
 obtain⟨hb,hp⟩:=hL x hx;rw[EW] at hm;cases hf:Wy.wy (ak G) (aN s) sub g ((ak G).stop x.1) with
 |none=>rw[hf] at hm;cases hm
 |some l=>
  rw[hf] at hm;obtain rfl:=zI hm;obtain⟨v,hv,rfl⟩:=List.mem_map.1 hym;have h1:=zZ hf hb v hv;have h2:=uQ (sV G) (aN s) sub hsh g _ l hf v hv;refine⟨h1.1,?_⟩;have e:(t+1)*dN sub=t*dN sub+dN sub:=Nat.succ_mul _ _;have h3:x.1.stop+dN sub≤v.stop:=h2;show p+(t+1)*dN sub≤v.stop
  omega
theorem QG (e:Nat→Value)
  (hsp:iU s G sub) (hsh:(Wy.look sub).shaped=true) (hs:s.size≤32) (hG:G≤64) (hg:g+opened sub≤G) (hp:Bnd s p) (hhi: -1≤hi∧hi≤1000) (jQ:(Wy.look sub).ah=true→0≤hi∧hi≤1)
  (hrow:Row N w0 (.slice uo_ [sub].length uc) [sub].length 6 ucs) (hsub:au N w0 [sub] ucs)
  (hW:xm B G s.size #[.int .u8 kk,dm,.int .i64 lo,.int .i64 hi,.bool lazy,.slice uo_ 1 uc] w0 [[((ak G).still p,-1)]] (.slice oo 1 cc) W)
  (jR:∀(m:List Value) (w':World),m.length=100→m[10]? =some (.slice none 0 0)→m[11]? =some (.bool false)→Below B w0 w'→lvs (ak G) (fun q=>Wy.wy (ak G) (aN s) sub g q) hi 36 [((ak G).still p,-1)] 0=none→Q .ret ⟨m.toArray,[]⟩ w')
  (hQ:∀(m:List Value) (w':World) (o':Option Addr) (c':Nat) (R:List (List (Wy.Way×Int))),m.length=100→m[5]? =some (.pointer (some ⟨B,0,none⟩))→m[12]? =some (.slice o' (R.length+1) c')→xm B G s.size #[.int .u8 kk,dm,.int .i64 lo,.int .i64 hi,.bool lazy,.slice uo_ 1 uc] w0 ([((ak G).still p,-1)]::R) (.slice o' (R.length+1) c') w'→R.length≤36→(∀M∈[((ak G).still p,(-1:Int))]::R,M.length≤500)→
   lvs (ak G) (fun q=>Wy.wy (ak G) (aN s) sub g q) hi 36 [((ak G).still p,-1)] 0=some R→Q (.exit 0) ⟨m.toArray,[]⟩ w'):
  Code.wp Tryz.prog (rqC [1,1,0,0]) Q ⟨#[e 0,.string s,.int .i64 (p:Nat),.int .i64 (g:Nat),.int .i64 (G:Nat),.pointer (some ⟨B,0,none⟩),e 6,e 7,e 8,e 9,e 10,e 11,.slice oo 1 cc,e 13,e 14,e 15,e 16,e 17,e 18,e 19,e 20,e 21,e 22,e 23,e 24,e 25,e 26,e 27,e 28,e 29,e 30,e 31,e 32,e 33,e 34,e 35,e 36,e 37,e 38,e 39,e 40,e 41,e 42,e 43,e 44,e 45,e 46,e 47,e 48,e 49,e 50,e 51,e 52,e 53,e 54,e 55,e 56,e 57,e 58,e 59,e 60,e 61,e 62,e 63,e 64,e 65,e 66,e 67,e 68,e 69,e 70,e 71,e 72,e 73,e 74,e 75,e 76,e 77,e 78,e 79,e 80,e 81,e 82,e 83,e 84,e 85,e 86,e 87,e 88,e 89,e 90,e 91,e 92,e 93,e 94,e 95,e 96,e 97,e 98,e 99],[]⟩ W:=by
 obtain⟨i0,hi0,hz0,hz1,hz2⟩:=info_parts QD;obtain⟨f,hf⟩:∃f:Nat→Option (List Wy.Way),f=fun q=>Wy.wy (ak G) (aN s) sub g q:=⟨_,rfl⟩
 rw[←hf] at jR hQ;have HFE:=zh hf;have wP:=zh hsp;have HSH:=zh hsh;have F9:=zh jQ;have lh:=zh (And.intro hrow hsub);have HP:=zh hp;have DU:=zh jR;have HQ:=zh hQ;have HW:=zh hW;clear hf hsp hsh jQ hrow hsub hp jR hQ hW;conv=>arg 2;whnf
 go_wp2_with fail
 refine wp_loop_ghost (RqO s G g B p (dN sub) #[.int .u8 kk,dm,.int .i64 lo,.int .i64 hi,.bool lazy,.slice uo_ 1 uc] f hi w0) (40-0) ?_ (fun n a Wa hI=> ?_)
 ·refine⟨_,oo,cc,[],[((ak G).still p,-1)],rfl,rfl,⟨rfl,rfl,rfl,rfl,rfl⟩,rfl,HW.out,Lvd.start,by simp,by simp,?_,by simp,rfl⟩;intro x hx;simp only[List.mem_singleton] at hx;subst hx;exact⟨HP.out,by show p+0*_≤p;omega⟩
 ·obtain⟨m,o',c',R,L,rfl,hm,⟨g1,g2,g3,g4,g5⟩,g12,hlw,hlv,hsz,hLn,hLb,hd0,rfl⟩:=hI;obtain⟨q0,rfl⟩:=iE hm;rw[zI g1,zI g2,zI g3,zI g4,zI g5,zI g12];clear g1 g2 g3 g4 g5 g12 hm;have hR34:R.length≤33:=by
   obtain⟨x,hx⟩:∃x,x∈L:=by
    cases L with
    |nil=>simp at hLn
    |cons x _=>exact⟨x,by simp⟩
   have h1:=(hLb x hx).2;have h2:=(hLb x hx).1.1;by_cases hd:dN sub=0
   ·have:=hd0 hd;omega
   ·have h3:R.length*1≤R.length*dN sub:=Nat.mul_le_mul_left _ (by omega);omega
  have hRI:(R.length:Int)≤33:=(by omega);have hLe:L.length≤500:=hsz L (List.mem_of_getLast? hlv.last);have b3:=hlw.1.cell 3;have b5:=hlw.1.cell 5;have bz:=hlw.1.lt;have HLW:=zh hlw;have HLV:=zh hlv;have HSZ:=zh hsz;have HLB:=zh hLb;have HD0:=zh hd0;clear hsz hLb hd0;by_cases hgo:¬(hi= -1∨(R.length:Int)<hi)
  ·have hr:=hlv.stop (by omega) hgo;have c1:decide (hi<0)=false:=decide_eq_false (by omega);have c2:decide ((R.length:Int)+1≤hi)=false:=decide_eq_false (by omega);have HR:=zh hr;clear hlw hlv hr hgo
   go_wp2_with fail
   exact HQ.out _ _ o' c' R rfl rfl rfl HLW.out (by omega) HSZ.out HR.out
  ·have hgo:hi= -1∨(R.length:Int)<hi:=(by omega);obtain⟨hs1,hown1,Tu⟩:=hlw.2.1;obtain⟨lb,lc_,eov,hlbB,IC,hlcc⟩:=gJ hown1 (by simp);simp only[Value.slice.injEq,List.length_cons,true_and] at eov;obtain⟨rfl,rfl⟩:=eov;simp only[List.length_cons] at hlcc;have hlccI:(R.length:Int)+1≤c':=(by omega);obtain⟨v1,hv1,hl1⟩:=Tu.get R.length (by simp);rw[QE hlv.last] at hl1;obtain⟨ob,off,cp,rfl,hcp,-,-,-,-⟩:=hl1.cells hLn;have hc1:Wa.cell? ⟨lb,R.length,none⟩=some (.slice (some ⟨ob,off,none⟩) L.length cp):=by
    rw[hown1.cellAt R.length (by simp)];exact hv1
   have hbw:=hlw.2.2.1;have hwB:=hlw.2.2.2;have NC:Row N Wa (.slice uo_ [sub].length uc) [sub].length 6 ucs∧au N Wa [sub] ucs:=by
    have k:Kept (fun _=>False) w0 Wa:=by
     have:=hbw;rw[←hwB] at this;exact Kept.of_below this _
    exact⟨gp lh.out.1 k (fun _ _ h=>⟨id,h⟩),au.go k (fun _ _ h=>⟨id,h⟩) lh.out.2⟩
   have HKA:=zh NC;have HL1:=zh hl1;have HGO:=zh hgo;have hgoc:hi<0∨(decide (hi<0)=false∧(R.length:Int)+1≤hi):=by
    rcases hgo with h|h
    ·left;omega
    ·by_cases h0:hi<0
     ·left;exact h0
     ·right;exact⟨decide_eq_false h0,by omega⟩
   clear Tu hv1 hl1 hown1 hlw hlv NC hbw hgo;rcases hgoc with hg1|⟨hg1,hg2⟩
   all_goals
    go_wp2_with fail
    rename_i K hK;refine NJ _ rfl rfl rfl rfl rfl rfl rfl rfl rfl rfl wP.out hs hG hg hLe hLn (fun x hx=>(HLB.out x hx).1) HL1.out HLW.out.1 HKA.out.1 HKA.out.2 (fun m w' h1 h2 h3 h4 h5=>DU.out m w' h1 h2 h3 (HLW.out.2.2.1.trans (h4.mono (by omega))) (HLV.out.none (by omega) HGO.out (by rw[HFE.out];exact h5))) (fun m w' o5 c5 nx hm hkp k14 hn hnx=> ?_);refine hK _ _ ?_;obtain⟨q,rfl⟩:=iE hm;obtain⟨g1,g2,g3,g4,g5,g12⟩:=hkp;rw[zI g1,zI g2,zI g3,zI g4,zI g5,zI g12,zI k14];clear g1 g2 g3 g4 g5 g12 k14 hm;rw[←HFE.out] at hnx;have HNX:=zh hnx;have HN:=zh hn;have hbW:=hn.1;clear hnx hn;by_cases hnl:nx=[]
    ·subst hnl;have HR:=zh (HLV.out.nil (by omega) HGO.out HNX.out);have HW7:=zh (HLW.out.go hbW);clear hbW
     go_wp2_with fail
     exact HQ.out _ _ (some ⟨lb,0,none⟩) c' R rfl rfl rfl HW7.out (by omega) HSZ.out HR.out
    ·have hnp:0<nx.length:=List.length_pos_iff.2 hnl;have AA:=QF (p:=p) (t:=R.length) HSH.out (by rw[←HFE.out];exact HNX.out) HLB.out;have hnI:(nx.length:Int)≤500:=by have:=AA.1;omega
     have hn0:((nx.length:Int) == 0)=false:=by rw[beq_eq_false_iff_ne];omega
     have hlv2:=HLV.out.more (by omega) HGO.out HNX.out hnl;have hd2:dN sub=0→(R++[nx]).length≤1:=fun hd=>by
      have h1:(Wy.look sub).ah=true:=by
       unfold dN at hd;split at hd
       ·assumption
       ·cases hd
      have h2:=F9.out h1;have h3:=HGO.out;rw[List.length_append,List.length_singleton];omega
     have hsz2:∀M∈[((ak G).still p,(-1:Int))]::(R++[nx]),M.length≤500:=fun M hM=>by
      rw[←List.cons_append,List.mem_append] at hM;rcases hM with h|h
      ·exact HSZ.out M h
      ·simp only[List.mem_singleton] at h;subst h;exact AA.1
     have Aa:=HLW.out.go hbW;obtain⟨hsx,OT,Tv⟩:=Aa.2.1;have Tz:jJ w' G s.size (.slice o5 nx.length c5) nx:=by
      obtain⟨-,cs,h1,h2⟩:=HN.out;exact⟨cs,Row.iR h1,h2⟩
     have hbelow:Below w'.heap.size w' (w'.alloc (.cells #[.slice o5 nx.length c5] 176)):=zR.alloc zL _;have k8:Kept (fun _=>False) w' (w'.alloc (.cells #[.slice o5 nx.length c5] 176)):=Kept.of_below hbelow _;have oQ:(w'.alloc (.cells #[.slice o5 nx.length c5] 176)).ownsRow (B+1) 176 1 (.slice (some ⟨lb,0,none⟩) (R.length+1) c') (R.length+1) hsx:=aB OT k8 (fun _ _=>id);have TA:=(Tv.append (eu.one Tz)).typ k8 (fun _ _=>id) (fun _ _=>id);have hbs:B+1≤(w'.alloc (.cells #[.slice o5 nx.length c5] 176)).heap.size:=by
      have:=Aa.1.lt;simp;omega
     have hsr:dI (w'.alloc (.cells #[.slice o5 nx.length c5] 176)) (.slice (some ⟨w'.heap.size,0,none⟩) 1 1) 1 [.slice o5 nx.length c5]:=src1 rfl;have hmx:R.length+1+1≤maxLen:=by unfold maxLen;omega
     have hby:(R.length+1+1)*24≤140737488355328:=(by omega);have hfin:∀(v9:Value) w9,(w'.alloc (.cells #[.slice o5 nx.length c5] 176)).grownBy w9 (Value.slice (some ⟨lb,0,none⟩) (R.length+1) c').ownBlock→w9.ownsRow (B+1) 176 1 v9 (R.length+1+1) (hsx++[.slice o5 nx.length c5])→xm B G s.size #[.int .u8 kk,dm,.int .i64 lo,.int .i64 hi,.bool lazy,.slice uo_ 1 uc] w0 ([((ak G).still p,-1)]::(R++[nx])) v9 w9:=fun v9 w9 hg ho=>by
      have k9:=Kept.bK hg;refine⟨((Aa.1.kept k8 id).kept k9 (cZ oQ (Aa.1.kept k8 id) (by decide))),⟨_,by simpa using ho,?_⟩,?_,Aa.2.2.2⟩
      ·exact TA.typ k9 (dR oQ (by decide)) (dR oQ (by decide))
      ·have h0:=Aa.2.2.1.trans (hbelow.mono (by have:=Aa.1.lt;omega));have hwB:=Aa.2.2.2;subst hwB;exact((Kept.of_below h0 (fun b=>(Value.slice (some ⟨lb,0,none⟩) (R.length+1) c').ownBlock=some b)).trans k9).below (fun q hq e=>by have:=(oQ.lt q e).1;omega)
     have bW:=zh hfin;have HBS:=zh hbs;have HSR:=zh hsr;have HR2:=zh oQ;have dL:=zh (And.intro hlv2 (And.intro hsz2 (And.intro AA hd2)));clear hlv2 hsz2 AA hd2 hfin hbs hsr oQ TA k8 hbelow Tz OT Tv Aa hbW
     go_wp2_with (first|(at_builtin;(refine aA rfl _ _ 177 rfl Tryz.underlying177 hi0 hz0 hz1 hz2 rfl (.slice (some ⟨lb,0,none⟩) (R.length+1) c') (R.length+1) hsx rfl HR2.out _ 1 _ rfl HSR.out rfl (by simp[Value.oneCell']) hmx hby HBS.out ?_;intro v9 w9 hown' hgrow h3' h4';obtain⟨o9,c9,rfl⟩:=ay hown';have HG:=zh (bW.out _ w9 hgrow hown');clear hown' hgrow h3' h4')))
     have hl9:(R++[nx]).length+1=R.length+1+1:=by simp
     exact⟨40-(R++[nx]).length,by simp;omega,_,o9,c9,R++[nx],nx,rfl,rfl,⟨rfl,rfl,rfl,rfl,rfl⟩,by rw[hl9];rfl,by rw[hl9];exact HG.out,dL.out.1,dL.out.2.1,hnp,by
      rw[List.length_append,List.length_singleton];exact dL.out.2.2.1.2,dL.out.2.2.2,rfl⟩
variable {base sz:Nat}
theorem Ac {cs:Array Value} (hb:base≤W.heap.size) (hs:cs.size=sz):(W.alloc (.cells cs T)).ownsRow base T sz (.slice (some ⟨W.heap.size,0,none⟩) 1 1) 1 cs.toList:=by
 subst hs;exact⟨by simp,.inr ⟨W.heap.size,1,cs,rfl,hb,Blk.new _ _ _,Nat.le_refl _,by decide,by simp,by rw[Nat.one_mul,←Array.length_toList,List.take_length]⟩⟩
theorem NK (m:List Value) (hm:m.length=100)
  (k1:m[1]? =some (.string s)) (k2:m[2]? =some (.int .i64 (p:Nat))) (k3:m[3]? =some (.int .i64 (g:Nat))) (k4:m[4]? =some (.int .i64 (G:Nat))) (k5:m[5]? =some (.pointer (some ⟨B,0,none⟩))) (k12:m[12]? =some (.slice oo 1 cc))
  (hsp:iU s G sub) (hsh:(Wy.look sub).shaped=true) (hs:s.size≤32) (hG:G≤64) (hg:g+opened sub≤G) (hp:Bnd s p) (hhi: -1≤hi∧hi≤1000) (jQ:(Wy.look sub).ah=true→0≤hi∧hi≤1)
  (hrow:Row N w0 (.slice uo_ [sub].length uc) [sub].length 6 ucs) (hsub:au N w0 [sub] ucs)
  (hW:xm B G s.size #[.int .u8 kk,dm,.int .i64 lo,.int .i64 hi,.bool lazy,.slice uo_ 1 uc] w0 [[((ak G).still p,-1)]] (.slice oo 1 cc) W)
  (jR:∀(m:List Value) (w':World),m.length=100→m[10]? =some (.slice none 0 0)→m[11]? =some (.bool false)→Below B w0 w'→lvs (ak G) (fun q=>Wy.wy (ak G) (aN s) sub g q) hi 36 [((ak G).still p,-1)] 0=none→Q .ret ⟨m.toArray,[]⟩ w')
  (hQ:∀(m:List Value) (w':World) (o':Option Addr) (c':Nat) (R:List (List (Wy.Way×Int))),m.length=100→m[5]? =some (.pointer (some ⟨B,0,none⟩))→m[12]? =some (.slice o' (R.length+1) c')→xm B G s.size #[.int .u8 kk,dm,.int .i64 lo,.int .i64 hi,.bool lazy,.slice uo_ 1 uc] w0 ([((ak G).still p,-1)]::R) (.slice o' (R.length+1) c') w'→R.length≤36→(∀M∈[((ak G).still p,(-1:Int))]::R,M.length≤500)→
   lvs (ak G) (fun q=>Wy.wy (ak G) (aN s) sub g q) hi 36 [((ak G).still p,-1)] 0=some R→Q (.exit 0) ⟨m.toArray,[]⟩ w'):
  Code.wp Tryz.prog (rqC [1,1,0,0]) Q ⟨m.toArray,[]⟩ W:=by
 obtain⟨e,rfl⟩:=iE hm;rw[zI k1,zI k2,zI k3,zI k4,zI k5,zI k12];exact QG e hsp hsh hs hG hg hp hhi jQ hrow hsub hW jR hQ
theorem Ad
  (hsp:iU s G sub) (hsh:(Wy.look sub).shaped=true) (hs:s.size≤32) (hG:G≤64) (hg:g+opened sub≤G) (hp:Bnd s p) (hlo:0≤lo∧lo≤1000) (hhi: -1≤hi∧hi≤1000) (jQ:(Wy.look sub).ah=true→0≤hi∧hi≤1)
  (hrow:Row N w (.slice uo_ [sub].length uc) [sub].length 6 ucs) (hsub:au N w [sub] ucs):
  Calls Tryz.prog 82 #[.agg #[.int .u8 kk,dm,.int .i64 lo,.int .i64 hi,.bool lazy,.slice uo_ 1 uc],.string s,.int .i64 (p:Nat),.int .i64 (g:Nat),.int .i64 (G:Nat)] w
   (Rwl G s.size ((lvs (ak G) (fun q=>Wy.wy (ak G) (aN s) sub g q) hi 36 [((ak G).still p,-1)] 0).map fun R=>flw lo lazy ([((ak G).still p,-1)]::R) 0 0) w):=by
 have hpI:(p:Int)≤32:=by have:=hp.1;omega
 have hgI:(g:Int)≤64:=(by omega);have hGI:(G:Int)≤64:=(by omega);have wP:=zh hsp;have HSH:=zh hsh;have F9:=zh jQ;have lh:=zh (And.intro hrow hsub);have HP:=zh hp;have HHI:=zh hhi;have HLO:=zh hlo;clear hsp hsh jQ hrow hsub hp hhi hlo;go_enter Tryz.func82,Tryz.ntmps82
 go_wp2_with (first|(go_at_call 79;(refine(lW hG).mono ?_;rintro e1 w1 ⟨v1,rfl,hown1,hb1⟩;obtain⟨o1,c1,rfl⟩:=ay hown1;have HO1:=zh hown1;have HB1:=zh hb1;clear hown1 hb1)))
 rename_i K hK;have HK:=zh hK;clear hK;have hb1:=HB1.out;have hz1:w.heap.size+1≤w1.heap.size:=by have:=hb1.size;simpa using this
 have hB1:Blk w1 w.heap.size #[.int .u8 kk,dm,.int .i64 lo,.int .i64 hi,.bool lazy,.slice uo_ 1 uc] 70:=(Blk.new w _ _).below hb1 (by simp);have O0:Below w.heap.size w w1:=(zR.alloc zL _).trans (hb1.mono (by simp));have hsp1:aC (TB 129 w1) w1 (.slice o1 G c1) ((ak G).still p).spans:=by
  refine⟨?_,?_,?_⟩
  ·have:=Row.iR HO1.out;show Row _ w1 (.slice o1 G c1) (List.replicate G ((-1:Int),(-1:Int))).length 2 _
   rw[List.length_replicate] at this ⊢;exact this
  ·intro x hx;have:x=((-1:Int),(-1:Int)):=List.eq_of_mem_replicate hx;rw[this];unfold I64;simp
  ·show(List.replicate G ((-1:Int),(-1:Int))).length≤64
   rw[List.length_replicate];exact hG
 have TC:jJ (w1.alloc (.cells #[.int .i64 (p:Nat),.slice o1 G c1,.int .i64 (-1)] 175)) G s.size (.slice (some ⟨w1.heap.size,0,none⟩) 1 1) [((ak G).still p,-1)]:=
  ⟨_,Row.iR (Ac (base:=0) (sz:=3) (Nat.zero_le _) rfl),fE.one (x:=((ak G).still p,-1)) (hsp1.ed (zR.alloc zL _)) HP.out.1 (by show(List.replicate G ((-1:Int),(-1:Int))).length=G;rw[List.length_replicate])⟩
 have hLW:xm w.heap.size G s.size #[.int .u8 kk,dm,.int .i64 lo,.int .i64 hi,.bool lazy,.slice uo_ 1 uc] w [[((ak G).still p,-1)]] (.slice (some ⟨w1.heap.size+1,0,none⟩) 1 1) ((w1.alloc (.cells #[.int .i64 (p:Nat),.slice o1 G c1,.int .i64 (-1)] 175)).alloc (.cells #[.slice (some ⟨w1.heap.size,0,none⟩) 1 1] 176)):=by
  refine⟨(hB1.alloc _).alloc _,⟨[.slice (some ⟨w1.heap.size,0,none⟩) 1 1],?_,?_⟩,?_,rfl⟩
  ·have:=Ac (T:=176) (cs:= #[.slice (some ⟨w1.heap.size,0,none⟩) 1 1]) (W:=w1.alloc (.cells #[.int .i64 (p:Nat),.slice o1 G c1,.int .i64 (-1)] 175)) (base:=w.heap.size+1) (sz:=1) (by simp;omega) rfl
   simpa using this
  ·exact eu.one (TC.typ ((Kept.refl (fun _=>False) _).alloc _) (fun _ _=>id) (fun _ _=>id))
  ·exact(O0.alloc (by omega) _).alloc (by simp;omega) _
 have HLW:=zh hLW;clear hLW TC hsp1 O0 hB1 hb1;refine NK _ rfl rfl rfl rfl rfl rfl rfl wP.out HSH.out hs hG hg HP.out HHI.out F9.out lh.out.1 lh.out.2 HLW.out (fun m w' hm h10 h11 hb hl=> ?_) (fun m w' o' c' R hm k5 k12 hlw hR hsz hl=> ?_)
 ·obtain⟨e,rfl⟩:=iE hm;have h10:=zI h10;have h11:=zI h11;exact bodyPost_ret (v:= .tuple #[.slice none 0 0,.bool false]) (by simp[results,Tryz.results82,go_sem,h10,h11]) rfl ⟨hb,by rw[hl];rfl⟩
 ·refine HK.out _ _ ?_;obtain⟨e,rfl⟩:=iE hm;rw[zI k5,zI k12];clear k5 k12 hm HK;obtain⟨hB,⟨hs1,hown,hlv⟩,hbw,-⟩:=hlw;have hRI:(R.length:Int)≤36:=(by omega);obtain⟨b0,b1,b2,b3,b4,b5,bz⟩:=zS hB;have TD:kE w' G s.size (.slice o' (R.length+1) c') ([((ak G).still p,-1)]::R):=⟨hs1,Row.iR hown,hlv⟩;have hcall:=lH (kk:=kk) (hi:=hi) (lazy:=lazy) (dm:=dm) (uv:= .slice uo_ 1 uc) HLO.out.1 HLO.out.2 (by simp;omega) hsz (R.length+1) 0 0 w' (by simp) TD (by simp) (by simp);have aS:=zh hcall;have dL:=zh (And.intro hbw hl);clear hcall TD hown hlv hB hbw hl
  go_wp2_with (first|(go_at_call 99;(refine aS.out.mono ?_;rintro e2 w2 ⟨v2,cs2,rfl,hown2,hws2,hb2⟩;obtain⟨o2,c2,rfl⟩:=ay hown2;have H2:=zh (And.intro hown2 (And.intro hws2 hb2));clear hown2 hws2 hb2)))
  obtain⟨hbw,hl⟩:=dL.out;obtain⟨hown2,hws2,hb2⟩:=H2.out;refine bodyPost_ret (v:= .tuple #[.slice o2 (flw lo lazy (([((ak G).still p,-1)]::R).drop 0) 0 0).length c2,.bool true]) (by simp[results,Tryz.results82,go_sem]) rfl ⟨hbw.trans (hb2.mono hbw.size),?_⟩;rw[hl];exact⟨_,cs2,rfl,bY hown2 hbw.size,hws2⟩
variable {v:Value}
theorem EX:∀{l:List Rg},fJ l=true→∀r∈l,oW r=true
 |[],_,r,h=>by simp at h
 |[q],h,r,hr=>by
  simp only[List.mem_singleton] at hr;subst hr;exact h
 |q::q2::l,h,r,hr=>by
  rw[fJ] at h;simp only[Bool.and_eq_true] at h;rcases List.mem_cons.1 hr with rfl|hr
  ·exact h.1.1
  ·exact EX h.2 r hr
theorem KC {r:Rg} (h:oW r=true):Wy.point r.lo=true∧Wy.point r.hi=true∧r.lo≤r.hi∧¬(r.lo≤55295∧55295<r.hi)∧0≤r.lo∧r.hi≤1114111∧¬(r.lo<55296∧57343<r.hi):=by
 unfold oW Wy.point at h;simp at h;unfold Wy.point;simp;omega
theorem GI {l:List Rg} (h:fJ l=true) {i:Nat} (hi:i<l.length) (h0:0<i):(l[i-1]'(by omega)).hi+2≤l[i].lo:=by
 have:=(OB h (i-1) i hi (by omega)).1;omega
def rtW (Wa:World):List Value→World→Prop
 |[]=>fun w'=>w'=Wa.drew
 |[v]=>fun w'=>v= .bool true∧w'=Wa.drew
 |[_,v]=>fun w'=>v= .bool true∧w'=Wa.drew
 |_=>fun _=>False
theorem yw {l:List Rg} (h:dG N w v l) (hok:fJ l=true):
  Calls Tryz.prog 96 #[v] w fun e w'=>e= .returned (.bool true)∧Below w.heap.size w w':=by
 obtain⟨ob,cb,rfl⟩:=h.row.slice;have hsm:(l.length:Int)≤1048576:=by have:=h.small;omega
 have H:=zh h;have HOK:=zh hok;clear h hok;go_enter Tryz.func96,Tryz.ntmps96
 go_wp2_with fail
 go_loopw [3] (fun s3 wx=>∃i:Nat,i≤l.length∧s3= .int .i64 i∧Below w.heap.size w wx) (fun s3 _=>l.length-(intOf s3).toNat)
 case atStart=>exact⟨0,by omega,rfl,zR⟩
 case round=>
  rename World=>Wa
  obtain⟨i,hi,rfl,hbw⟩:=hrel;have HBW:=zh hbw;by_cases hil:¬i<l.length
  ·obtain rfl:i=l.length:=(by omega);clear hbw hil
   go_wp2_with fail
   exact bodyPost_ret (v:= .bool true) (by simp[results,Tryz.results96,go_sem]) rfl ⟨rfl,HBW.out⟩
  ·have hil:i<l.length:=(by omega);have hiI:(i:Int)<l.length:=(by omega);obtain⟨b,off,cap,e1,hc1,hc2,-,hbz,hcl⟩:=H.out.cells (by omega);simp only[Value.slice.injEq,true_and] at e1;obtain⟨rfl,rfl⟩:=e1;have hcI:(l.length:Int)≤cb:=(by omega);obtain⟨-,-,c0,c1⟩:=hcl i hil;obtain⟨f1,f2,f3,f4,f5,f6,f7⟩:=KC (EX HOK.out _ (List.getElem_mem hil));obtain⟨x,hx⟩:∃x,x=l[i].lo:=⟨_,rfl⟩;obtain⟨y,hy⟩:∃y,y=l[i].hi:=⟨_,rfl⟩;have hap:∀h0:0<i,(l[i-1]'(by omega)).hi+2≤x∧w.cell? ⟨b,off+(i-1)*2+1,none⟩=some (.int .i64 (l[i-1]'(by omega)).hi)∧I64 ((l[i-1]'(by omega)).hi):=fun h0=>⟨by rw[hx];exact GI HOK.out hil h0,(hcl (i-1) (by omega)).2.2.2,(hcl (i-1) (by omega)).2.1⟩
   rw[←hx] at c0 f1 f3 f4 f5 f7;rw[←hy] at c1 f2 f3 f4 f6 f7;obtain⟨xn,hxn⟩:∃n:Nat,x=n:=⟨x.toNat,by omega⟩;obtain⟨yn,hyn⟩:∃n:Nat,y=n:=⟨y.toNat,by omega⟩;subst hxn hyn;have HPX:=zh (iT xn (by omega) Wa.drew);have HPY:=zh (iT yn (by omega) Wa.drew);rw[f1] at HPX;rw[f2] at HPY;have hR:∀w',Below Wa.heap.size Wa w'→w'.cell? ⟨b,off+i*2,none⟩=some (.int .i64 (xn:Nat))∧w'.cell? ⟨b,off+i*2+1,none⟩=some (.int .i64 (yn:Nat))∧b<w'.heap.size∧∀h0:0<i,w'.cell? ⟨b,off+(i-1)*2+1,none⟩=some (.int .i64 (l[i-1]'(by omega)).hi):=fun w' h=>by
    have hb:=hbw.trans (h.mono hbw.size);exact⟨(zW (hb.block _ hbz)).trans c0,(zW (hb.block _ hbz)).trans c1,by have:=hb.size;omega,fun h0=>(zW (hb.block _ hbz)).trans (hap h0).2.1⟩
   have HR:=zh hR;have HAP:=zh hap;have a1:decide ((yn:Int)<xn)=false:=decide_eq_false (by omega);have a1n:decide (yn<xn)=false:=decide_eq_false (by omega);have hxU:(xn:Int)≤1114111:=(by omega);have a2:((xn:Int)<55296∧decide ((57343:Int)<yn)=false)∧(xn<55296∧decide (57343<yn)=false)∨decide ((xn:Int)<55296)=false∧decide (xn<55296)=false:=by
    by_cases h1:(xn:Int)<55296
    ·left;exact⟨⟨h1,decide_eq_false (by omega)⟩,by omega,decide_eq_false (by omega)⟩
    ·right;exact⟨decide_eq_false h1,decide_eq_false (by omega)⟩
   clear hcl hap c0 c1 hR f1 f2 f3 f4 hx hy;have TE:∀w',Below Wa.heap.size Wa w'→Below w.heap.size w w':=fun w' h=>hbw.trans (h.mono hbw.size)
   have HB3:=zh TE;clear TE hbw
   go_wp2_with fail
   apply aJ ?hm ?hok [0,1,2,3,4,5,6,7,8,9,10,11,12,13,14,15,16,17,18,19,20,21,22,23,24,25,26,27,28] [5,13] [6,7,8,9,10,11,12,14,15,16,17,18,19,20,21,22,23,24,25,26,27,28] ?hord (fun w'=>w'=Wa.drew) (rtW Wa)
   case hm=>rfl
   case hok=>kernel_rfl
   case hord=>kernel_rfl
   case hb=>
    intro L' w' h hl
    match L' with
    |[]=>exact h
    |[v]=>exact h.2
    |_::_::_=>simp at hl;omega
   case hw=>rfl
   apply ae (.slice (some ⟨b,off,none⟩) l.length cb) rfl rfl rfl rfl
   case h=>
    intro W1 hW K hK;obtain rfl:W1=Wa.drew:=hW
    go_wp2_with fail
    exact hK
   simp only[zP,zQ,zB,zC];apply ae (.int .i64 (i:Nat)) rfl rfl rfl rfl
   case h=>
    intro W1 hW K hK;obtain rfl:W1=Wa.drew:=hW
    go_wp2_with fail
    exact hK
   simp only[zP,zQ,zB,zC];apply ae (.pointer (some ⟨b,off+i*2,none⟩)) rfl rfl rfl rfl
   case h=>
    intro W1 hW K hK;obtain rfl:W1=Wa.drew:=hW
    go_wp2_with fail
    exact hK
   simp only[zP,zQ,zB,zC];apply ae (.pointer (some ⟨b,off+i*2,none⟩)) rfl rfl rfl rfl
   case h=>
    intro W1 hW K hK;obtain rfl:W1=Wa.drew:=hW
    go_wp2_with fail
    exact hK
   simp only[zP,zQ,zB,zC];apply ae (.int .i64 (xn:Nat)) rfl rfl rfl rfl
   case h=>
    intro W1 hW K hK;obtain rfl:W1=Wa.drew:=hW;obtain⟨q0,q1,q2,-⟩:=HR.out _ (Below.refl Wa.heap.size Wa).drew
    go_wp2_with fail
    exact hK
   simp only[zP,zQ,zB,zC];apply ax rfl rfl rfl
   case h=>
    intro W1 hW K hK;obtain rfl:W1=Wa.drew:=hW
    go_wp2_with (go_at_call 97;(refine HPX.out.mono ?_;rintro e2 w2 ⟨rfl,rfl⟩))
    exact⟨rfl,rfl⟩
   intro v hv;obtain⟨_,rfl,-⟩:=hv;simp only[zP,zQ,zB,zC];apply ag (.bool false) rfl rfl rfl rfl
   case h=>
    intro W1 hW K hK;obtain⟨-,rfl⟩:=hW
    go_wp2_with fail
    exact hK
   simp only[zP,zQ,zB,zC];apply ag (.bool false) rfl rfl rfl rfl
   case h=>
    intro W1 hW K hK;obtain⟨-,rfl⟩:=hW
    go_wp2_with fail
    exact hK
   simp only[zP,zQ,zB,zC];apply ag (.slice (some ⟨b,off,none⟩) l.length cb) rfl rfl rfl rfl
   case h=>
    intro W1 hW K hK;obtain⟨-,rfl⟩:=hW
    go_wp2_with fail
    exact hK
   simp only[zP,zQ,zB,zC];apply ag (.int .i64 (i:Nat)) rfl rfl rfl rfl
   case h=>
    intro W1 hW K hK;obtain⟨-,rfl⟩:=hW
    go_wp2_with fail
    exact hK
   simp only[zP,zQ,zB,zC];apply ag (.pointer (some ⟨b,off+i*2,none⟩)) rfl rfl rfl rfl
   case h=>
    intro W1 hW K hK;obtain⟨-,rfl⟩:=hW
    go_wp2_with fail
    exact hK
   simp only[zP,zQ,zB,zC];apply ag (.pointer (some ⟨b,off+i*2+1,none⟩)) rfl rfl rfl rfl
   case h=>
    intro W1 hW K hK;obtain⟨-,rfl⟩:=hW
    go_wp2_with fail
    exact hK
   simp only[zP,zQ,zB,zC];apply ag (.int .i64 (yn:Nat)) rfl rfl rfl rfl
   case h=>
    intro W1 hW K hK;obtain⟨-,rfl⟩:=hW;obtain⟨q0,q1,q2,-⟩:=HR.out _ (Below.refl Wa.heap.size Wa).drew
    go_wp2_with fail
    exact hK
   simp only[zP,zQ,zB,zC];apply ax rfl rfl rfl
   case h=>
    intro W1 hW K hK;obtain⟨-,rfl⟩:=hW
    go_wp2_with (go_at_call 97;(refine HPY.out.mono ?_;rintro e2 w2 ⟨rfl,rfl⟩))
    exact⟨rfl,rfl⟩
   intro v hv;obtain⟨_,rfl,-⟩:=hv;simp only[zP,zQ,zB,zC];apply ag (.bool false) rfl rfl rfl rfl
   case h=>
    intro W1 hW K hK;obtain⟨-,rfl⟩:=hW
    go_wp2_with fail
    exact hK
   simp only[zP,zQ,zB,zC];apply ag (.bool false) rfl rfl rfl rfl
   case h=>
    intro W1 hW K hK;obtain⟨-,rfl⟩:=hW
    go_wp2_with fail
    exact hK
   simp only[zP,zQ,zB,zC];apply ag (.bool false) rfl rfl rfl rfl
   case h=>
    intro W1 hW K hK;obtain⟨-,rfl⟩:=hW
    go_wp2_with fail
    exact hK
   simp only[zP,zQ,zB,zC];apply ag (.slice (some ⟨b,off,none⟩) l.length cb) rfl rfl rfl rfl
   case h=>
    intro W1 hW K hK;obtain⟨-,rfl⟩:=hW
    go_wp2_with fail
    exact hK
   simp only[zP,zQ,zB,zC];apply ag (.int .i64 (i:Nat)) rfl rfl rfl rfl
   case h=>
    intro W1 hW K hK;obtain⟨-,rfl⟩:=hW
    go_wp2_with fail
    exact hK
   simp only[zP,zQ,zB,zC];apply ag (.pointer (some ⟨b,off+i*2,none⟩)) rfl rfl rfl rfl
   case h=>
    intro W1 hW K hK;obtain⟨-,rfl⟩:=hW
    go_wp2_with fail
    exact hK
   simp only[zP,zQ,zB,zC];apply ag (.pointer (some ⟨b,off+i*2+1,none⟩)) rfl rfl rfl rfl
   case h=>
    intro W1 hW K hK;obtain⟨-,rfl⟩:=hW
    go_wp2_with fail
    exact hK
   simp only[zP,zQ,zB,zC];apply ag (.int .i64 (yn:Nat)) rfl rfl rfl rfl
   case h=>
    intro W1 hW K hK;obtain⟨-,rfl⟩:=hW;obtain⟨q0,q1,q2,-⟩:=HR.out _ (Below.refl Wa.heap.size Wa).drew
    go_wp2_with fail
    exact hK
   simp only[zP,zQ,zB,zC];apply ag (.slice (some ⟨b,off,none⟩) l.length cb) rfl rfl rfl rfl
   case h=>
    intro W1 hW K hK;obtain⟨-,rfl⟩:=hW
    go_wp2_with fail
    exact hK
   simp only[zP,zQ,zB,zC];apply ag (.int .i64 (i:Nat)) rfl rfl rfl rfl
   case h=>
    intro W1 hW K hK;obtain⟨-,rfl⟩:=hW
    go_wp2_with fail
    exact hK
   simp only[zP,zQ,zB,zC];apply ag (.pointer (some ⟨b,off+i*2,none⟩)) rfl rfl rfl rfl
   case h=>
    intro W1 hW K hK;obtain⟨-,rfl⟩:=hW
    go_wp2_with fail
    exact hK
   simp only[zP,zQ,zB,zC];apply ag (.pointer (some ⟨b,off+i*2,none⟩)) rfl rfl rfl rfl
   case h=>
    intro W1 hW K hK;obtain⟨-,rfl⟩:=hW
    go_wp2_with fail
    exact hK
   simp only[zP,zQ,zB,zC];apply ag (.int .i64 (xn:Nat)) rfl rfl rfl rfl
   case h=>
    intro W1 hW K hK;obtain⟨-,rfl⟩:=hW;obtain⟨q0,q1,q2,-⟩:=HR.out _ (Below.refl Wa.heap.size Wa).drew
    go_wp2_with fail
    exact hK
   simp only[zP,zQ,zB,zC];apply ag (.bool false) rfl rfl rfl rfl
   case h=>
    intro W1 hW K hK;obtain⟨-,rfl⟩:=hW
    go_wp2_with fail
    exact hK
   simp only[zP,zQ,zB,zC];apply ag (.bool false) rfl rfl rfl rfl
   case h=>
    intro W1 hW K hK;obtain⟨-,rfl⟩:=hW
    go_wp2_with fail
    exact hK
   simp only[zP,zQ,zB,zC];refine aG fun W7 h7=> ?_
   obtain⟨-,rfl⟩:=h7;obtain⟨q0,q1,q2,-⟩:=HR.out _ (Below.refl Wa.heap.size Wa).drew;have hl2:i=0∨(0<i∧∃z:Int,z+2≤xn∧I64 z∧∀w',Below Wa.heap.size Wa w'→w'.cell? ⟨b,off+(i-1)*2+1,none⟩=some (.int .i64 z)):=by
    by_cases h0:0<i
    ·exact .inr ⟨h0,_,(HAP.out h0).1,(HAP.out h0).2.2,fun w' h=>(HR.out w' h).2.2.2 h0⟩
    ·exact .inl (by omega)
   rcases a2 with⟨⟨a2,a3⟩,a4,a5⟩|⟨a2,a4⟩
   all_goals
    rcases hl2 with hi0'|⟨h0,z,hz,hzI,hzc⟩
    ·have h0f:decide ((0:Int)<i)=false:=decide_eq_false (by omega);have H0:=zh (show decide (0<i)=false from decide_eq_false (by omega));clear hi0' h0f
     go_wp2_with fail
     apply aJ ?hm ?hok [0,1,2,3,4,5,6,7,8,9,10,11,12,13,14,15,16] [] [0,1,2,3,4,5,6,7,8,9,10,11,12,13,14,15,16] ?hord (fun w'=>w'=Wa.drew.drew) (fun L w'=>L=[]∧w'=Wa.drew.drew)
     case hm=>rfl
     case hok=>kernel_rfl
     case hord=>kernel_rfl
     case hb=>exact fun L' w' h hl=>h.2
     case hw=>exact⟨rfl,rfl⟩
     apply ag (.int .i64 (i:Nat)) rfl rfl rfl rfl
     case h=>
      intro W1 hW K hK;obtain⟨-,rfl⟩:=hW
      go_wp2_with fail
      exact hK
     simp only[zP,zQ,zB,zC];apply ag (.bool (decide (0<i))) rfl rfl rfl rfl
     case h=>
      intro W1 hW K hK;obtain⟨-,rfl⟩:=hW
      go_wp2_with fail
      exact hK
     simp only[zP,zQ,zB,zC];rw[H0.out];apply ag (.bool false) rfl rfl rfl rfl
     case h=>
      intro W1 hW K hK;obtain⟨-,rfl⟩:=hW
      go_wp2_with fail
      exact hK
     simp only[zP,zQ,zB,zC];apply dB rfl rfl rfl;simp only[zP,zQ,zB,zC];apply dB rfl rfl rfl;simp only[zP,zQ,zB,zC];apply dB rfl rfl rfl;simp only[zP,zQ,zB,zC];apply dB rfl rfl rfl;simp only[zP,zQ,zB,zC];apply dB rfl rfl rfl;simp only[zP,zQ,zB,zC];apply dB rfl rfl rfl;simp only[zP,zQ,zB,zC];apply dB rfl rfl rfl;simp only[zP,zQ,zB,zC];apply dB rfl rfl rfl;simp only[zP,zQ,zB,zC];apply dB rfl rfl rfl;simp only[zP,zQ,zB,zC];apply dB rfl rfl rfl;simp only[zP,zQ,zB,zC];apply dB rfl rfl rfl;simp only[zP,zQ,zB,zC];apply dB rfl rfl rfl;simp only[zP,zQ,zB,zC];apply dB rfl rfl rfl;simp only[zP,zQ,zB,zC];apply ag (.bool false) rfl rfl rfl rfl
     case h=>
      intro W1 hW K hK;obtain⟨-,rfl⟩:=hW
      go_wp2_with fail
      exact hK
     simp only[zP,zQ,zB,zC];refine aG fun W8 h8=> ?_
     obtain⟨-,rfl⟩:=h8
     go_wp2_with fail
     go_roundw
     case rel=>exact⟨i+1,by omega,by go_num,HB3.out _ ((Below.refl Wa.heap.size Wa).drew.drew)⟩
     case measure=>simp[intOf];omega
    ·have h0I:(0:Int)<i:=(by omega);obtain⟨hzL,-⟩: -9223372036854775808≤z∧z≤9223372036854775807:=hzI;have hzU:z≤2000000:=(by omega);have hz3:decide ((xn:Int)<z+2)=false:=decide_eq_false (by omega);have hi1:(i:Int)-1=((i-1:Nat):Int):=by omega
     go_wp2_with fail
     apply aJ ?hm ?hok [0,1,2,3,4,5,6,7,8,9,10,11,12,13,14,15,16] [] [0,1,2,3,4,5,6,7,8,9,10,11,12,13,14,15,16] ?hord (fun w'=>w'=Wa.drew.drew) (fun L w'=>L=[]∧w'=Wa.drew.drew)
     case hm=>rfl
     case hok=>kernel_rfl
     case hord=>kernel_rfl
     case hb=>exact fun L' w' h hl=>h.2
     case hw=>exact⟨rfl,rfl⟩
     apply ag (.int .i64 (i:Nat)) rfl rfl rfl rfl
     case h=>
      intro W1 hW K hK;obtain⟨-,rfl⟩:=hW
      go_wp2_with fail
      exact hK
     simp only[zP,zQ,zB,zC];apply ag (.bool true) rfl rfl rfl rfl
     case h=>
      intro W1 hW K hK;obtain⟨-,rfl⟩:=hW
      go_wp2_with fail
      exact hK
     simp only[zP,zQ,zB,zC];apply ag (.bool true) rfl rfl rfl rfl
     case h=>
      intro W1 hW K hK;obtain⟨-,rfl⟩:=hW
      go_wp2_with fail
      exact hK
     simp only[zP,zQ,zB,zC];apply ag (.slice (some ⟨b,off,none⟩) l.length cb) rfl rfl rfl rfl
     case h=>
      intro W1 hW K hK;obtain⟨-,rfl⟩:=hW
      go_wp2_with fail
      exact hK
     simp only[zP,zQ,zB,zC];apply ag (.int .i64 (i:Nat)) rfl rfl rfl rfl
     case h=>
      intro W1 hW K hK;obtain⟨-,rfl⟩:=hW
      go_wp2_with fail
      exact hK
     simp only[zP,zQ,zB,zC];apply ag (.pointer (some ⟨b,off+i*2,none⟩)) rfl rfl rfl rfl
     case h=>
      intro W1 hW K hK;obtain⟨-,rfl⟩:=hW
      go_wp2_with fail
      exact hK
     simp only[zP,zQ,zB,zC];apply ag (.pointer (some ⟨b,off+i*2,none⟩)) rfl rfl rfl rfl
     case h=>
      intro W1 hW K hK;obtain⟨-,rfl⟩:=hW
      go_wp2_with fail
      exact hK
     simp only[zP,zQ,zB,zC];apply ag (.int .i64 (xn:Nat)) rfl rfl rfl rfl
     case h=>
      intro W1 hW K hK;obtain⟨-,rfl⟩:=hW;obtain⟨q0,q1,q2,q3⟩:=HR.out _ ((Below.refl Wa.heap.size Wa).drew.drew)
      go_wp2_with fail
      exact hK
     simp only[zP,zQ,zB,zC];apply ag (.slice (some ⟨b,off,none⟩) l.length cb) rfl rfl rfl rfl
     case h=>
      intro W1 hW K hK;obtain⟨-,rfl⟩:=hW
      go_wp2_with fail
      exact hK
     simp only[zP,zQ,zB,zC];apply ag (.int .i64 (i:Nat)) rfl rfl rfl rfl
     case h=>
      intro W1 hW K hK;obtain⟨-,rfl⟩:=hW
      go_wp2_with fail
      exact hK
     simp only[zP,zQ,zB,zC];apply ag (.int .i64 ((i-1:Nat):Int)) rfl rfl rfl rfl
     case h=>
      intro W1 hW K hK;obtain⟨-,rfl⟩:=hW
      go_wp2_with fail
      exact hK
     simp only[zP,zQ,zB,zC];apply ag (.pointer (some ⟨b,off+(i-1)*2,none⟩)) rfl rfl rfl rfl
     case h=>
      intro W1 hW K hK;obtain⟨-,rfl⟩:=hW
      go_wp2_with fail
      exact hK
     simp only[zP,zQ,zB,zC];apply ag (.pointer (some ⟨b,off+(i-1)*2+1,none⟩)) rfl rfl rfl rfl
     case h=>
      intro W1 hW K hK;obtain⟨-,rfl⟩:=hW
      go_wp2_with fail
      exact hK
     simp only[zP,zQ,zB,zC];apply ag (.int .i64 z) rfl rfl rfl rfl
     case h=>
      intro W1 hW K hK;obtain⟨-,rfl⟩:=hW;have q3:=hzc _ ((Below.refl Wa.heap.size Wa).drew.drew);obtain⟨q0,q1,q2,-⟩:=HR.out _ ((Below.refl Wa.heap.size Wa).drew.drew)
      go_wp2_with fail
      exact hK
     simp only[zP,zQ,zB,zC];apply ag (.int .i64 (z+2)) rfl rfl rfl rfl
     case h=>
      intro W1 hW K hK;obtain⟨-,rfl⟩:=hW
      go_wp2_with fail
      exact hK
     simp only[zP,zQ,zB,zC];apply ag (.bool false) rfl rfl rfl rfl
     case h=>
      intro W1 hW K hK;obtain⟨-,rfl⟩:=hW
      go_wp2_with fail
      exact hK
     simp only[zP,zQ,zB,zC];apply ag (.bool false) rfl rfl rfl rfl
     case h=>
      intro W1 hW K hK;obtain⟨-,rfl⟩:=hW
      go_wp2_with fail
      exact hK
     simp only[zP,zQ,zB,zC];refine aG fun W8 h8=> ?_
     obtain⟨-,rfl⟩:=h8
     go_wp2_with fail
     go_roundw
     case rel=>exact⟨i+1,by omega,by go_num,HB3.out _ ((Below.refl Wa.heap.size Wa).drew.drew)⟩
     case measure=>simp[intOf];omega
end Go.Proofs.YtnhjakdmbfadlaaGreatDoor
