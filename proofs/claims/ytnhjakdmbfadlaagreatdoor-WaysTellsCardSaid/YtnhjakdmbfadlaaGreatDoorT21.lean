/- Parts of the proof. Conditions: none. -/
import Derived.Test.YtnhjakdmbfadlaaGreatDoorT20
import Derived.Deep.DeepCutAuto
import Derived.Test.YtnhjakdmbfadlaaGreatDoorT00
import Derived.Test.YtnhjakdmbfadlaaGreatDoorT19
import Derived.Test.YtnhjakdmbfadlaaGreatDoorT17
import Derived.Deep.LoopGhost
set_option linter.all false
set_option maxHeartbeats 8000000
set_option maxRecDepth 100000
namespace Go.Proofs.YtnhjakdmbfadlaaGreatDoor
open Go.RowKit Wy Mem Grow
variable {J:Act→World→Prop} {lz:Bool} {s:ByteArray} {Q:Exit→Act→World→Prop} {hi k lo:Int} {B b c0 c1 c2 g0 i j m n1 n2 q rb:Nat} {t:Nd} {o1 o2:Option Addr} {T:TypeId} {W W0:World}
theorem qR (pre:List Wy.Op) (o:Wy.Op) (t:Nd):sZ (pre++[o]) t=pre++[{o with items:=o.items++[t]}]:=by
 unfold sZ pK;simp
theorem DC {k:Nat} (h:gy s i=some (lo,hi,k)):I64 lo∧I64 hi:=by
 unfold gy at h;unfold I64;split at h
 ·simp only[Option.some.injEq,Prod.mk.injEq] at h;omega
 ·split at h
  ·simp only[Option.some.injEq,Prod.mk.injEq] at h;omega
  ·split at h
   ·simp only[Option.some.injEq,Prod.mk.injEq] at h;omega
   ·split at h
    ·simp only[Option.some.injEq,Prod.mk.injEq] at h;omega
    ·split at h
     ·cases h
     ·simp only[Option.some.injEq,Prod.mk.injEq] at h;omega
theorem zM {pre st':List Wy.Op} {ys:List OpV} {o:Wy.Op} {x:OpV} {l:List Value} (hl:l.length=177)
  (h0:l[0]? =some (.string s)) (h2:l[2]? =some (.pointer (some ⟨rb,0,none⟩))) (h4:l[4]? =some (Value.slice (some ⟨g0,0,none⟩) (m+1) c0)) (h5:l[5]? =some (.int .i64 i)) (h6:l[6]? =some (.int .i64 m)) (h7:l[7]? =some (.pointer (some ⟨q,0,none⟩)))
  (his:i≤s.size) (hs:s.size≤1024) (dh:aZ 155 70 B W0 (Value.slice (some ⟨g0,0,none⟩) (m+1) c0) (pre++[o]) (ys++[x])) (hm:pre.length=m) (hml:m≤1000000) (hB0:B≤W0.heap.size) (hbw:Below W0.heap.size W0 W) (hq0:W0.heap.size≤q)
  (hq:Blk W q #[.int .u8 k,.slice o1 n1 c1,.int .i64 lo,.int .i64 hi,.bool lz,.slice o2 n2 c2] 70)
  (hnd:ai (fun b=>bD B (Value.slice (some ⟨g0,0,none⟩) (m+1) c0) (ys++[x]) b∧b≠q) W t [.int .u8 k,.slice o1 n1 c1,.int .i64 lo,.int .i64 hi,.bool lz,.slice o2 n2 c2]) (hil:o.items.length≤1000000)
  (hadd:yJ s i (pre++[o]) t=some (j,st'))
  (hJ:∀a' w',gG B rb s j st' W0 a' w'→J a' w'):
  Code.wp Tryz.prog (rdC [1,1,1,0,0,0,1,0,1,1,1]) (Exit.then J Q) ⟨l.toArray,[]⟩ W:=by
 obtain⟨e,rfl⟩:=qI hl;have h0:=zI h0;have h2:=zI h2;have h4:=zI h4;have h5:=zI h5;have h6:=zI h6;have h7:=zI h7;rw[h0,h2,h4,h5,h6,h7];unfold yJ at hadd;cases hqm:gy s i with
 |none=>rw[hqm] at hadd;cases hadd
 |some p=>
  obtain⟨ql,qh,kk⟩:=p;rw[hqm] at hadd;simp only at hadd;have hk:=AQ hqm;have hi64:=DC hqm;by_cases k0:kk=0
  ·subst k0;rw[if_pos rfl,qR] at hadd;simp only[Option.some.injEq,Prod.mk.injEq] at hadd;obtain⟨rfl,rfl⟩:=hadd;exact Jk e his hs dh hm hml hB0 hbw hq0 hq hnd hil (by rw[jX s i his];exact hqm) hJ
  ·obtain rfl:kk=1:=(by omega);rw[if_neg (by omega),qR] at hadd;simp only[Option.some.injEq,Prod.mk.injEq] at hadd;obtain⟨rfl,rfl⟩:=hadd;by_cases hi1:i+1<s.size
   ·by_cases hlz:byteAt s (i+1)=63
    ·have hz:l7 s (i+1)=true:=by unfold l7;simp[hi1,hlz]
     rw[hz] at hJ;exact Jl e his hs dh hm hml hB0 hbw hq0 hq hnd hil (by rw[jX s i his];exact hqm) hi1 hlz hi64.1 hi64.2 hJ
    ·have hz:l7 s (i+1)=false:=by unfold l7;simp[hlz]
     rw[hz] at hJ;exact Jm e his hs dh hm hml hB0 hbw hq0 hq hnd hil (by rw[jX s i his];exact hqm) hi1 hlz hi64.1 hi64.2 hJ
   ·have hz:l7 s (i+1)=false:=by unfold l7;simp[hi1]
    rw[hz] at hJ;exact Jn e his hs dh hm hml hB0 hbw hq0 hq hnd hil (by rw[jX s i his];exact hqm) hi1 hi64.1 hi64.2 hJ
theorem uD:(Tryz.prog.info? 155).map (fun i=>(i.zero,i.size,i.bytes))=some (some (.agg #[.slice none 0 0,.slice none 0 0,.bool false]),3,56):=by kernel_rfl
theorem MM {c0 c1 c2:Value} (hb:b=W.heap.size):dI (W.alloc (.cells #[c0,c1,c2] T)) (.slice (some ⟨b,0,none⟩) 1 1) 1 [c0,c1,c2]:=by
 subst hb;have hB:=Blk.new W #[c0,c1,c2] T;refine .inr ⟨_,_,rfl,fun j u hu=> ?_⟩
 match j with
 |0=>simp at hu;subst hu;simp[Addr.add,hB.cell]
 |1=>simp at hu;subst hu;simp[Addr.add,hB.cell]
 |2=>simp at hu;subst hu;simp[Addr.add,hB.cell]
 |j+3=>simp at hu
theorem Jo {pre:List Wy.Op} {ys:List OpV} {o:Wy.Op} {x:OpV} (e:Nat→Value)
  (his:i<s.size) (hs:s.size≤1024) (hbar:byteAt s i=40) (h2s:i+2<s.size) (hq1:byteAt s (i+1)=63) (hq2:byteAt s (i+2)=58)
  (dh:aZ 155 70 B W0 (Value.slice (some ⟨g0,0,none⟩) (m+1) c0) (pre++[o]) (ys++[x])) (hm:pre.length=m) (hml:m≤1000000) (hB0:B≤W0.heap.size)
  (hJ:∀a' w',gG B rb s (i+3) ((pre++[o])++[⟨[],[],false⟩]) W0 a' w'→J a' w'):
  Code.wp Tryz.prog (rdC [1,1,1,0,0,0]) (Exit.then J Q) ⟨#[.string s,e 1,.pointer (some ⟨rb,0,none⟩),e 3,.slice (some ⟨g0,0,none⟩) (m+1) c0,.int .i64 i,e 6,e 7,e 8,e 9,e 10,e 11,e 12,e 13,e 14,e 15,e 16,e 17,e 18,e 19,e 20,e 21,e 22,e 23,e 24,e 25,e 26,e 27,e 28,e 29,e 30,e 31,e 32,e 33,e 34,e 35,e 36,e 37,e 38,e 39,e 40,e 41,e 42,e 43,e 44,e 45,e 46,e 47,e 48,e 49,e 50,e 51,e 52,e 53,e 54,e 55,e 56,e 57,e 58,e 59,e 60,e 61,e 62,e 63,e 64,e 65,e 66,e 67,e 68,e 69,e 70,e 71,e 72,e 73,e 74,e 75,e 76,e 77,e 78,e 79,e 80,e 81,e 82,e 83,e 84,e 85,e 86,e 87,e 88,e 89,e 90,e 91,e 92,e 93,e 94,e 95,e 96,e 97,e 98,e 99,e 100,e 101,e 102,e 103,e 104,e 105,e 106,e 107,e 108,e 109,e 110,e 111,e 112,e 113,e 114,e 115,e 116,e 117,e 118,e 119,e 120,e 121,e 122,e 123,e 124,e 125,e 126,e 127,e 128,e 129,e 130,e 131,e 132,e 133,e 134,e 135,e 136,e 137,e 138,e 139,e 140,e 141,e 142,e 143,e 144,e 145,e 146,e 147,e 148,e 149,e 150,e 151,e 152,e 153,e 154,e 155,e 156,e 157,e 158,e 159,e 160,e 161,e 162,e 163,e 164,e 165,e 166,e 167,e 168,e 169,e 170,e 171,e 172,e 173,e 174,e 175,e 176],[]⟩ W0:=by
 have hb:(s[i].toNat:Int)=40:=by rw[get_at his,hbar];rfl
 have hsI:(s.size:Int)≤1024:=(by omega);have hiI:(i:Int)<s.size:=(by omega);have hmI:(m:Int)≤1000000:=(by omega);have h2I:(i:Int)+1+1<s.size:=(by omega);have hc1:(s[i+1].toNat:Int)=63:=by rw[get_at (by omega),hq1];rfl
 have hc2:(s[i+1+1].toNat:Int)=58:=by rw[get_at (by omega),hq2];rfl
 have h1s:i+1<s.size:=(by omega);have h2s':i+1+1<s.size:=(by omega);obtain⟨i0,hi0,hz0,hz1,hz2⟩:=info_parts uD;have hb2:Below W0.heap.size W0 ((W0.alloc (.cells #[.int .u8 2,.slice none 0 0,.int .i64 0,.int .i64 0,.bool false,.slice none 0 0] 70)).alloc (.cells #[.slice none 0 0,.slice none 0 0,.bool false] 155)):=(zR.alloc zL _).alloc (by simp) _;have hst:=dh.below hb2;have hrow:=hst.row;have hlen:(pre++[o]).length=m+1:=by simp[hm]
 rw[hlen] at hrow;have hbase:B≤((W0.alloc (.cells #[.int .u8 2,.slice none 0 0,.int .i64 0,.int .i64 0,.bool false,.slice none 0 0] 70)).alloc (.cells #[.slice none 0 0,.slice none 0 0,.bool false] 155)).heap.size:=Nat.le_trans hB0 hb2.size;have key:∀v' w',w'.ownsRow B 155 3 v' (m+1+1) (iM (pre++[o]) (ys++[x])++[.slice none 0 0,.slice none 0 0,.bool false])→((W0.alloc (.cells #[.int .u8 2,.slice none 0 0,.int .i64 0,.int .i64 0,.bool false,.slice none 0 0] 70)).alloc (.cells #[.slice none 0 0,.slice none 0 0,.bool false] 155)).grownBy w' (Value.slice (some ⟨g0,0,none⟩) (m+1) c0).ownBlock→
   (v'.ownBlock=(Value.slice (some ⟨g0,0,none⟩) (m+1) c0).ownBlock∨v'.ownBlock=some ((W0.alloc (.cells #[.int .u8 2,.slice none 0 0,.int .i64 0,.int .i64 0,.bool false,.slice none 0 0] 70)).alloc (.cells #[.slice none 0 0,.slice none 0 0,.bool false] 155)).heap.size)→
   ∀l:List Value,l.length=177→l[0]? =some (.string s)→l[2]? =some (.pointer (some ⟨rb,0,none⟩))→l[4]? =some v'→l[5]? =some (.int .i64 ((i+3:Nat):Int))→J ⟨l.toArray,[]⟩ w':=by
  intro v' w' h1 h2 h3 l hl k0 k2 k4 k5;refine hJ _ _ ⟨l,v',_,rfl,hl,k0,k2,k4,k5,hst.push false (by rw[hlen];exact h1) h2 h3,?_⟩;have hlt:=(dh.row.lt g0 rfl).1;exact((Kept.of_below hb2 (fun b=>(Value.slice (some ⟨g0,0,none⟩) (m+1) c0).ownBlock=some b)).trans (eU h2)).gK hB0 (fun b hb e=>by simp only[Value.ownBlock,Option.some.injEq] at e;omega)
 have dQ:=zh hrow;have kZ:=zh hbase;have KEY:=zh key;have hmx:m+1+1≤maxLen:=by unfold maxLen;omega
 have hby:(m+1+1)*56≤140737488355328:=(by omega);have jG:=zh (MM (T:=155) (W:=W0.alloc (.cells #[.int .u8 2,.slice none 0 0,.int .i64 0,.int .i64 0,.bool false,.slice none 0 0] 70)) (c0:= .slice none 0 0) (c1:= .slice none 0 0) (c2:= .bool false) (b:=W0.heap.size+1) (by simp));clear hJ dh hst hrow hbase key hB0 hm hbar hb2 hlen hq1 hq2;conv=>arg 2;whnf
 go_wp2_with (first|(at_builtin;refine aA rfl _ _ 156 rfl Tryz.underlying156 hi0 hz0 hz1 hz2 rfl (Value.slice (some ⟨g0,0,none⟩) (m+1) c0) (m+1) _ rfl dQ.out _ 1 _ rfl jG.out rfl (by simp[Value.oneCell']) hmx hby kZ.out ?_;intro v' w4 hown' hgrow h3' h4';have HK:=zh (KEY.out v' w4 hown' hgrow h3');clear hown' hgrow h3' h4'))
 exact HK.out _ rfl rfl rfl rfl rfl
theorem Jp {pre:List Wy.Op} {ys:List OpV} {o:Wy.Op} {x:OpV} (e:Nat→Value)
  (his:i<s.size) (hs:s.size≤1024) (hbar:byteAt s i=40) (h2s:¬i+2<s.size)
  (dh:aZ 155 70 B W0 (Value.slice (some ⟨g0,0,none⟩) (m+1) c0) (pre++[o]) (ys++[x])) (hm:pre.length=m) (hml:m≤1000000) (hB0:B≤W0.heap.size)
  (hJ:∀a' w',gG B rb s (i+1) ((pre++[o])++[⟨[],[],true⟩]) W0 a' w'→J a' w'):
  Code.wp Tryz.prog (rdC [1,1,1,0,0,0]) (Exit.then J Q) ⟨#[.string s,e 1,.pointer (some ⟨rb,0,none⟩),e 3,.slice (some ⟨g0,0,none⟩) (m+1) c0,.int .i64 i,e 6,e 7,e 8,e 9,e 10,e 11,e 12,e 13,e 14,e 15,e 16,e 17,e 18,e 19,e 20,e 21,e 22,e 23,e 24,e 25,e 26,e 27,e 28,e 29,e 30,e 31,e 32,e 33,e 34,e 35,e 36,e 37,e 38,e 39,e 40,e 41,e 42,e 43,e 44,e 45,e 46,e 47,e 48,e 49,e 50,e 51,e 52,e 53,e 54,e 55,e 56,e 57,e 58,e 59,e 60,e 61,e 62,e 63,e 64,e 65,e 66,e 67,e 68,e 69,e 70,e 71,e 72,e 73,e 74,e 75,e 76,e 77,e 78,e 79,e 80,e 81,e 82,e 83,e 84,e 85,e 86,e 87,e 88,e 89,e 90,e 91,e 92,e 93,e 94,e 95,e 96,e 97,e 98,e 99,e 100,e 101,e 102,e 103,e 104,e 105,e 106,e 107,e 108,e 109,e 110,e 111,e 112,e 113,e 114,e 115,e 116,e 117,e 118,e 119,e 120,e 121,e 122,e 123,e 124,e 125,e 126,e 127,e 128,e 129,e 130,e 131,e 132,e 133,e 134,e 135,e 136,e 137,e 138,e 139,e 140,e 141,e 142,e 143,e 144,e 145,e 146,e 147,e 148,e 149,e 150,e 151,e 152,e 153,e 154,e 155,e 156,e 157,e 158,e 159,e 160,e 161,e 162,e 163,e 164,e 165,e 166,e 167,e 168,e 169,e 170,e 171,e 172,e 173,e 174,e 175,e 176],[]⟩ W0:=by
 have hb:(s[i].toNat:Int)=40:=by rw[get_at his,hbar];rfl
 have hsI:(s.size:Int)≤1024:=(by omega);have hiI:(i:Int)<s.size:=(by omega);have hmI:(m:Int)≤1000000:=(by omega);have h2I:decide ((i:Int)+1+1<s.size)=false:=decide_eq_false (by omega);obtain⟨i0,hi0,hz0,hz1,hz2⟩:=info_parts uD;have hb2:Below W0.heap.size W0 ((W0.alloc (.cells #[.int .u8 2,.slice none 0 0,.int .i64 0,.int .i64 0,.bool false,.slice none 0 0] 70)).alloc (.cells #[.slice none 0 0,.slice none 0 0,.bool true] 155)):=(zR.alloc zL _).alloc (by simp) _;have hst:=dh.below hb2;have hrow:=hst.row;have hlen:(pre++[o]).length=m+1:=by simp[hm]
 rw[hlen] at hrow;have hbase:B≤((W0.alloc (.cells #[.int .u8 2,.slice none 0 0,.int .i64 0,.int .i64 0,.bool false,.slice none 0 0] 70)).alloc (.cells #[.slice none 0 0,.slice none 0 0,.bool true] 155)).heap.size:=Nat.le_trans hB0 hb2.size;have key:∀v' w',w'.ownsRow B 155 3 v' (m+1+1) (iM (pre++[o]) (ys++[x])++[.slice none 0 0,.slice none 0 0,.bool true])→((W0.alloc (.cells #[.int .u8 2,.slice none 0 0,.int .i64 0,.int .i64 0,.bool false,.slice none 0 0] 70)).alloc (.cells #[.slice none 0 0,.slice none 0 0,.bool true] 155)).grownBy w' (Value.slice (some ⟨g0,0,none⟩) (m+1) c0).ownBlock→
   (v'.ownBlock=(Value.slice (some ⟨g0,0,none⟩) (m+1) c0).ownBlock∨v'.ownBlock=some ((W0.alloc (.cells #[.int .u8 2,.slice none 0 0,.int .i64 0,.int .i64 0,.bool false,.slice none 0 0] 70)).alloc (.cells #[.slice none 0 0,.slice none 0 0,.bool true] 155)).heap.size)→
   ∀l:List Value,l.length=177→l[0]? =some (.string s)→l[2]? =some (.pointer (some ⟨rb,0,none⟩))→l[4]? =some v'→l[5]? =some (.int .i64 ((i+1:Nat):Int))→J ⟨l.toArray,[]⟩ w':=by
  intro v' w' h1 h2 h3 l hl k0 k2 k4 k5;refine hJ _ _ ⟨l,v',_,rfl,hl,k0,k2,k4,k5,hst.push true (by rw[hlen];exact h1) h2 h3,?_⟩;have hlt:=(dh.row.lt g0 rfl).1;exact((Kept.of_below hb2 (fun b=>(Value.slice (some ⟨g0,0,none⟩) (m+1) c0).ownBlock=some b)).trans (eU h2)).gK hB0 (fun b hb e=>by simp only[Value.ownBlock,Option.some.injEq] at e;omega)
 have dQ:=zh hrow;have kZ:=zh hbase;have KEY:=zh key;have hmx:m+1+1≤maxLen:=by unfold maxLen;omega
 have hby:(m+1+1)*56≤140737488355328:=(by omega);have jG:=zh (MM (T:=155) (W:=W0.alloc (.cells #[.int .u8 2,.slice none 0 0,.int .i64 0,.int .i64 0,.bool false,.slice none 0 0] 70)) (c0:= .slice none 0 0) (c1:= .slice none 0 0) (c2:= .bool true) (b:=W0.heap.size+1) (by simp));clear hJ dh hst hrow hbase key hB0 hm hbar hb2 hlen h2s;conv=>arg 2;whnf
 go_wp2_with (first|(at_builtin;refine aA rfl _ _ 156 rfl Tryz.underlying156 hi0 hz0 hz1 hz2 rfl (Value.slice (some ⟨g0,0,none⟩) (m+1) c0) (m+1) _ rfl dQ.out _ 1 _ rfl jG.out rfl (by simp[Value.oneCell']) hmx hby kZ.out ?_;intro v' w4 hown' hgrow h3' h4';have HK:=zh (KEY.out v' w4 hown' hgrow h3');clear hown' hgrow h3' h4'))
 exact HK.out _ rfl rfl rfl rfl rfl
theorem Jq {pre:List Wy.Op} {ys:List OpV} {o:Wy.Op} {x:OpV} (e:Nat→Value)
  (his:i<s.size) (hs:s.size≤1024) (hbar:byteAt s i=40) (h2s:i+2<s.size) (hq1:byteAt s (i+1)≠63)
  (dh:aZ 155 70 B W0 (Value.slice (some ⟨g0,0,none⟩) (m+1) c0) (pre++[o]) (ys++[x])) (hm:pre.length=m) (hml:m≤1000000) (hB0:B≤W0.heap.size)
  (hJ:∀a' w',gG B rb s (i+1) ((pre++[o])++[⟨[],[],true⟩]) W0 a' w'→J a' w'):
  Code.wp Tryz.prog (rdC [1,1,1,0,0,0]) (Exit.then J Q) ⟨#[.string s,e 1,.pointer (some ⟨rb,0,none⟩),e 3,.slice (some ⟨g0,0,none⟩) (m+1) c0,.int .i64 i,e 6,e 7,e 8,e 9,e 10,e 11,e 12,e 13,e 14,e 15,e 16,e 17,e 18,e 19,e 20,e 21,e 22,e 23,e 24,e 25,e 26,e 27,e 28,e 29,e 30,e 31,e 32,e 33,e 34,e 35,e 36,e 37,e 38,e 39,e 40,e 41,e 42,e 43,e 44,e 45,e 46,e 47,e 48,e 49,e 50,e 51,e 52,e 53,e 54,e 55,e 56,e 57,e 58,e 59,e 60,e 61,e 62,e 63,e 64,e 65,e 66,e 67,e 68,e 69,e 70,e 71,e 72,e 73,e 74,e 75,e 76,e 77,e 78,e 79,e 80,e 81,e 82,e 83,e 84,e 85,e 86,e 87,e 88,e 89,e 90,e 91,e 92,e 93,e 94,e 95,e 96,e 97,e 98,e 99,e 100,e 101,e 102,e 103,e 104,e 105,e 106,e 107,e 108,e 109,e 110,e 111,e 112,e 113,e 114,e 115,e 116,e 117,e 118,e 119,e 120,e 121,e 122,e 123,e 124,e 125,e 126,e 127,e 128,e 129,e 130,e 131,e 132,e 133,e 134,e 135,e 136,e 137,e 138,e 139,e 140,e 141,e 142,e 143,e 144,e 145,e 146,e 147,e 148,e 149,e 150,e 151,e 152,e 153,e 154,e 155,e 156,e 157,e 158,e 159,e 160,e 161,e 162,e 163,e 164,e 165,e 166,e 167,e 168,e 169,e 170,e 171,e 172,e 173,e 174,e 175,e 176],[]⟩ W0:=by
 have hb:(s[i].toNat:Int)=40:=by rw[get_at his,hbar];rfl
 have hsI:(s.size:Int)≤1024:=(by omega);have hiI:(i:Int)<s.size:=(by omega);have hmI:(m:Int)≤1000000:=(by omega);have h2I:(i:Int)+1+1<s.size:=(by omega);have h1s:i+1<s.size:=(by omega);have hc1:((s[i+1].toNat:Int) == 63)=false:=by rw[get_at (by omega)];exact iQ hq1
 obtain⟨i0,hi0,hz0,hz1,hz2⟩:=info_parts uD;have hb2:Below W0.heap.size W0 ((W0.alloc (.cells #[.int .u8 2,.slice none 0 0,.int .i64 0,.int .i64 0,.bool false,.slice none 0 0] 70)).alloc (.cells #[.slice none 0 0,.slice none 0 0,.bool true] 155)):=(zR.alloc zL _).alloc (by simp) _;have hst:=dh.below hb2;have hrow:=hst.row;have hlen:(pre++[o]).length=m+1:=by simp[hm]
 rw[hlen] at hrow;have hbase:B≤((W0.alloc (.cells #[.int .u8 2,.slice none 0 0,.int .i64 0,.int .i64 0,.bool false,.slice none 0 0] 70)).alloc (.cells #[.slice none 0 0,.slice none 0 0,.bool true] 155)).heap.size:=Nat.le_trans hB0 hb2.size;have key:∀v' w',w'.ownsRow B 155 3 v' (m+1+1) (iM (pre++[o]) (ys++[x])++[.slice none 0 0,.slice none 0 0,.bool true])→((W0.alloc (.cells #[.int .u8 2,.slice none 0 0,.int .i64 0,.int .i64 0,.bool false,.slice none 0 0] 70)).alloc (.cells #[.slice none 0 0,.slice none 0 0,.bool true] 155)).grownBy w' (Value.slice (some ⟨g0,0,none⟩) (m+1) c0).ownBlock→
   (v'.ownBlock=(Value.slice (some ⟨g0,0,none⟩) (m+1) c0).ownBlock∨v'.ownBlock=some ((W0.alloc (.cells #[.int .u8 2,.slice none 0 0,.int .i64 0,.int .i64 0,.bool false,.slice none 0 0] 70)).alloc (.cells #[.slice none 0 0,.slice none 0 0,.bool true] 155)).heap.size)→
   ∀l:List Value,l.length=177→l[0]? =some (.string s)→l[2]? =some (.pointer (some ⟨rb,0,none⟩))→l[4]? =some v'→l[5]? =some (.int .i64 ((i+1:Nat):Int))→J ⟨l.toArray,[]⟩ w':=by
  intro v' w' h1 h2 h3 l hl k0 k2 k4 k5;refine hJ _ _ ⟨l,v',_,rfl,hl,k0,k2,k4,k5,hst.push true (by rw[hlen];exact h1) h2 h3,?_⟩;have hlt:=(dh.row.lt g0 rfl).1;exact((Kept.of_below hb2 (fun b=>(Value.slice (some ⟨g0,0,none⟩) (m+1) c0).ownBlock=some b)).trans (eU h2)).gK hB0 (fun b hb e=>by simp only[Value.ownBlock,Option.some.injEq] at e;omega)
 have dQ:=zh hrow;have kZ:=zh hbase;have KEY:=zh key;have hmx:m+1+1≤maxLen:=by unfold maxLen;omega
 have hby:(m+1+1)*56≤140737488355328:=(by omega);have jG:=zh (MM (T:=155) (W:=W0.alloc (.cells #[.int .u8 2,.slice none 0 0,.int .i64 0,.int .i64 0,.bool false,.slice none 0 0] 70)) (c0:= .slice none 0 0) (c1:= .slice none 0 0) (c2:= .bool true) (b:=W0.heap.size+1) (by simp));clear hJ dh hst hrow hbase key hB0 hm hbar hb2 hlen hq1;conv=>arg 2;whnf
 go_wp2_with (first|(at_builtin;refine aA rfl _ _ 156 rfl Tryz.underlying156 hi0 hz0 hz1 hz2 rfl (Value.slice (some ⟨g0,0,none⟩) (m+1) c0) (m+1) _ rfl dQ.out _ 1 _ rfl jG.out rfl (by simp[Value.oneCell']) hmx hby kZ.out ?_;intro v' w4 hown' hgrow h3' h4';have HK:=zh (KEY.out v' w4 hown' hgrow h3');clear hown' hgrow h3' h4'))
 exact HK.out _ rfl rfl rfl rfl rfl
theorem Jr {pre:List Wy.Op} {ys:List OpV} {o:Wy.Op} {x:OpV} (e:Nat→Value)
  (his:i<s.size) (hs:s.size≤1024) (hbar:byteAt s i=40) (h2s:i+2<s.size) (hq1:byteAt s (i+1)=63) (hq2:byteAt s (i+2)≠58)
  (dh:aZ 155 70 B W0 (Value.slice (some ⟨g0,0,none⟩) (m+1) c0) (pre++[o]) (ys++[x])) (hm:pre.length=m) (hml:m≤1000000) (hB0:B≤W0.heap.size)
  (hJ:∀a' w',gG B rb s (i+1) ((pre++[o])++[⟨[],[],true⟩]) W0 a' w'→J a' w'):
  Code.wp Tryz.prog (rdC [1,1,1,0,0,0]) (Exit.then J Q) ⟨#[.string s,e 1,.pointer (some ⟨rb,0,none⟩),e 3,.slice (some ⟨g0,0,none⟩) (m+1) c0,.int .i64 i,e 6,e 7,e 8,e 9,e 10,e 11,e 12,e 13,e 14,e 15,e 16,e 17,e 18,e 19,e 20,e 21,e 22,e 23,e 24,e 25,e 26,e 27,e 28,e 29,e 30,e 31,e 32,e 33,e 34,e 35,e 36,e 37,e 38,e 39,e 40,e 41,e 42,e 43,e 44,e 45,e 46,e 47,e 48,e 49,e 50,e 51,e 52,e 53,e 54,e 55,e 56,e 57,e 58,e 59,e 60,e 61,e 62,e 63,e 64,e 65,e 66,e 67,e 68,e 69,e 70,e 71,e 72,e 73,e 74,e 75,e 76,e 77,e 78,e 79,e 80,e 81,e 82,e 83,e 84,e 85,e 86,e 87,e 88,e 89,e 90,e 91,e 92,e 93,e 94,e 95,e 96,e 97,e 98,e 99,e 100,e 101,e 102,e 103,e 104,e 105,e 106,e 107,e 108,e 109,e 110,e 111,e 112,e 113,e 114,e 115,e 116,e 117,e 118,e 119,e 120,e 121,e 122,e 123,e 124,e 125,e 126,e 127,e 128,e 129,e 130,e 131,e 132,e 133,e 134,e 135,e 136,e 137,e 138,e 139,e 140,e 141,e 142,e 143,e 144,e 145,e 146,e 147,e 148,e 149,e 150,e 151,e 152,e 153,e 154,e 155,e 156,e 157,e 158,e 159,e 160,e 161,e 162,e 163,e 164,e 165,e 166,e 167,e 168,e 169,e 170,e 171,e 172,e 173,e 174,e 175,e 176],[]⟩ W0:=by
 have hb:(s[i].toNat:Int)=40:=by rw[get_at his,hbar];rfl
 have hsI:(s.size:Int)≤1024:=(by omega);have hiI:(i:Int)<s.size:=(by omega);have hmI:(m:Int)≤1000000:=(by omega);have h2I:(i:Int)+1+1<s.size:=(by omega);have h1s:i+1<s.size:=(by omega);have h2s':i+1+1<s.size:=(by omega);have hc1:(s[i+1].toNat:Int)=63:=by rw[get_at (by omega),hq1];rfl
 have hc2:((s[i+1+1].toNat:Int) == 58)=false:=by rw[get_at (by omega)];exact iQ hq2
 obtain⟨i0,hi0,hz0,hz1,hz2⟩:=info_parts uD;have hb2:Below W0.heap.size W0 ((W0.alloc (.cells #[.int .u8 2,.slice none 0 0,.int .i64 0,.int .i64 0,.bool false,.slice none 0 0] 70)).alloc (.cells #[.slice none 0 0,.slice none 0 0,.bool true] 155)):=(zR.alloc zL _).alloc (by simp) _;have hst:=dh.below hb2;have hrow:=hst.row;have hlen:(pre++[o]).length=m+1:=by simp[hm]
 rw[hlen] at hrow;have hbase:B≤((W0.alloc (.cells #[.int .u8 2,.slice none 0 0,.int .i64 0,.int .i64 0,.bool false,.slice none 0 0] 70)).alloc (.cells #[.slice none 0 0,.slice none 0 0,.bool true] 155)).heap.size:=Nat.le_trans hB0 hb2.size;have key:∀v' w',w'.ownsRow B 155 3 v' (m+1+1) (iM (pre++[o]) (ys++[x])++[.slice none 0 0,.slice none 0 0,.bool true])→((W0.alloc (.cells #[.int .u8 2,.slice none 0 0,.int .i64 0,.int .i64 0,.bool false,.slice none 0 0] 70)).alloc (.cells #[.slice none 0 0,.slice none 0 0,.bool true] 155)).grownBy w' (Value.slice (some ⟨g0,0,none⟩) (m+1) c0).ownBlock→
   (v'.ownBlock=(Value.slice (some ⟨g0,0,none⟩) (m+1) c0).ownBlock∨v'.ownBlock=some ((W0.alloc (.cells #[.int .u8 2,.slice none 0 0,.int .i64 0,.int .i64 0,.bool false,.slice none 0 0] 70)).alloc (.cells #[.slice none 0 0,.slice none 0 0,.bool true] 155)).heap.size)→
   ∀l:List Value,l.length=177→l[0]? =some (.string s)→l[2]? =some (.pointer (some ⟨rb,0,none⟩))→l[4]? =some v'→l[5]? =some (.int .i64 ((i+1:Nat):Int))→J ⟨l.toArray,[]⟩ w':=by
  intro v' w' h1 h2 h3 l hl k0 k2 k4 k5;refine hJ _ _ ⟨l,v',_,rfl,hl,k0,k2,k4,k5,hst.push true (by rw[hlen];exact h1) h2 h3,?_⟩;have hlt:=(dh.row.lt g0 rfl).1;exact((Kept.of_below hb2 (fun b=>(Value.slice (some ⟨g0,0,none⟩) (m+1) c0).ownBlock=some b)).trans (eU h2)).gK hB0 (fun b hb e=>by simp only[Value.ownBlock,Option.some.injEq] at e;omega)
 have dQ:=zh hrow;have kZ:=zh hbase;have KEY:=zh key;have hmx:m+1+1≤maxLen:=by unfold maxLen;omega
 have hby:(m+1+1)*56≤140737488355328:=(by omega);have jG:=zh (MM (T:=155) (W:=W0.alloc (.cells #[.int .u8 2,.slice none 0 0,.int .i64 0,.int .i64 0,.bool false,.slice none 0 0] 70)) (c0:= .slice none 0 0) (c1:= .slice none 0 0) (c2:= .bool true) (b:=W0.heap.size+1) (by simp));clear hJ dh hst hrow hbase key hB0 hm hbar hb2 hlen hq1 hq2;conv=>arg 2;whnf
 go_wp2_with (first|(at_builtin;refine aA rfl _ _ 156 rfl Tryz.underlying156 hi0 hz0 hz1 hz2 rfl (Value.slice (some ⟨g0,0,none⟩) (m+1) c0) (m+1) _ rfl dQ.out _ 1 _ rfl jG.out rfl (by simp[Value.oneCell']) hmx hby kZ.out ?_;intro v' w4 hown' hgrow h3' h4';have HK:=zh (KEY.out v' w4 hown' hgrow h3');clear hown' hgrow h3' h4'))
 exact HK.out _ rfl rfl rfl rfl rfl
variable {xs:List Value} {c g n sz:Nat}
theorem Js (h:W.ownsRow B T sz (.slice (some ⟨g,0,none⟩) n c) n xs):n≤c:=by
 rcases h.2 with⟨h',_⟩|⟨g',cap',cur,h',_,_,hnc,_⟩
 ·simp at h'
 ·simp only[Value.slice.injEq,true_and] at h';omega
theorem Gj {pre st':List Wy.Op} {ys:List OpV} {op o:Wy.Op} {xp x:OpV} (e:Nat→Value)
  (his:i<s.size) (hs:s.size≤1024) (hbar:byteAt s i=41) (hgr:o.group=false)
  (dh:aZ 155 70 B W0 (Value.slice (some ⟨g0,0,none⟩) (m+1+1) c0) ((pre++[op])++[o]) ((ys++[xp])++[x])) (hm:pre.length=m) (hml:m≤1000000) (hB0:B≤W0.heap.size) (hil:op.items.length≤1000000) (hl1:o.dE.length≤1000000) (hl2:o.items.length≤1000000)
  (hadd:yJ s (i+1) (pre++[op]) (gu o)=some (j,st'))
  (hJ:∀a' w',gG B rb s j st' W0 a' w'→J a' w'):
  Code.wp Tryz.prog (rdC [1,1,1,0,0,0]) (Exit.then J Q) ⟨#[.string s,e 1,.pointer (some ⟨rb,0,none⟩),e 3,.slice (some ⟨g0,0,none⟩) (m+1+1) c0,.int .i64 i,e 6,e 7,e 8,e 9,e 10,e 11,e 12,e 13,e 14,e 15,e 16,e 17,e 18,e 19,e 20,e 21,e 22,e 23,e 24,e 25,e 26,e 27,e 28,e 29,e 30,e 31,e 32,e 33,e 34,e 35,e 36,e 37,e 38,e 39,e 40,e 41,e 42,e 43,e 44,e 45,e 46,e 47,e 48,e 49,e 50,e 51,e 52,e 53,e 54,e 55,e 56,e 57,e 58,e 59,e 60,e 61,e 62,e 63,e 64,e 65,e 66,e 67,e 68,e 69,e 70,e 71,e 72,e 73,e 74,e 75,e 76,e 77,e 78,e 79,e 80,e 81,e 82,e 83,e 84,e 85,e 86,e 87,e 88,e 89,e 90,e 91,e 92,e 93,e 94,e 95,e 96,e 97,e 98,e 99,e 100,e 101,e 102,e 103,e 104,e 105,e 106,e 107,e 108,e 109,e 110,e 111,e 112,e 113,e 114,e 115,e 116,e 117,e 118,e 119,e 120,e 121,e 122,e 123,e 124,e 125,e 126,e 127,e 128,e 129,e 130,e 131,e 132,e 133,e 134,e 135,e 136,e 137,e 138,e 139,e 140,e 141,e 142,e 143,e 144,e 145,e 146,e 147,e 148,e 149,e 150,e 151,e 152,e 153,e 154,e 155,e 156,e 157,e 158,e 159,e 160,e 161,e 162,e 163,e 164,e 165,e 166,e 167,e 168,e 169,e 170,e 171,e 172,e 173,e 174,e 175,e 176],[]⟩ W0:=by
 have hb:(s[i].toNat:Int)=41:=by rw[get_at his,hbar];rfl
 have hsI:(s.size:Int)≤1024:=(by omega);have hiI:(i:Int)<s.size:=(by omega);have hmI:(m:Int)≤1000000:=(by omega);have hm0:(((m:Int)+1) == 0)=false:=by rw[beq_eq_false_iff_ne];omega
 have hb2:Below W0.heap.size W0 (W0.alloc (.cells #[.int .u8 2,.slice none 0 0,.int .i64 0,.int .i64 0,.bool false,.slice none 0 0] 70)):=zR.alloc zL _;obtain⟨sv,iv⟩:=x;obtain⟨so,sc,hsv⟩:=dh.last.1.slice;obtain⟨io,ic,hiv⟩:=dh.last.2.slice;simp only at hsv hiv;obtain⟨ns,hns⟩:∃n,n=o.dE.length:=⟨_,rfl⟩;obtain⟨ni,hni⟩:∃n,n=o.items.length:=⟨_,rfl⟩;rw[←hns] at hsv;rw[←hni] at hiv;subst hsv hiv;have hlow:(ys++[xp]).length=(pre++[op]).length:=dh.low;have hlen:(pre++[op]).length=m+1:=by simp[hm]
 have hlen2:((pre++[op])++[o]).length=m+1+1:=by simp[hm]
 have hpop:=aZ.pop (g:=g0) (c:=c0) (by rw[hlen2];exact dh);rw[hlen] at hpop;obtain⟨hst1,⟨scs,hsr,hsn⟩,⟨ics,hir,hin⟩⟩:=hpop;simp only at hsr hir;have hrow:=dh.row;rw[hlen2,fD _ _ _ _ hlow] at hrow;have hrow':W0.ownsRow B 155 3 (Value.slice (some ⟨g0,0,none⟩) (m+1+1) c0) (m+1+1) (iM (pre++[op]) (ys++[xp])++[.slice so ns sc,.slice io ni ic,.bool o.group]):=hrow;have hbl:(iM (pre++[op]) (ys++[xp])).length=(m+1)*3:=by rw[jE _ _ hlow,hlen]
 obtain⟨t0,t1,t2,tf,tz⟩:=last3 hrow' hbl;have hcap:=Js hrow';have Sv:(m:Int)+1≤c0:=(by omega);rw[hgr] at t2;have HT2:=zh (And.intro t2 tz);have kb:=zK hb2;have u0:=((dU hb2).1 _ _ tz).trans t0;have u1:=((dU hb2).1 _ _ tz).trans t1;have u2:=((dU hb2).1 _ _ tz).trans t2;have hbq:Blk (W0.alloc (.cells #[.int .u8 2,.slice none 0 0,.int .i64 0,.int .i64 0,.bool false,.slice none 0 0] 70)) W0.heap.size #[.int .u8 2,.slice none 0 0,.int .i64 0,.int .i64 0,.bool false,.slice none 0 0] 70:=Blk.new _ _ _;have hzW:(W0.alloc (.cells #[.int .u8 2,.slice none 0 0,.int .i64 0,.int .i64 0,.bool false,.slice none 0 0] 70)).heap.size=W0.heap.size+1:=by simp
 have hcall:=pV (N:=fun b=>bD B (Value.slice (some ⟨g0,0,none⟩) (m+1) c0) (ys++[xp]) b∧b<W0.heap.size) (o:=o) (gp hsr kb (fun b hb h=>⟨id,h,hb⟩)) (au.go kb (fun b hb h=>⟨id,h,hb⟩) hsn) (gp hir kb (fun b hb h=>⟨id,h,hb⟩)) (au.go kb (fun b hb h=>⟨id,h,hb⟩) hin) hl1 hl2;rw[hgr] at hcall;have HC:=zh hcall;have HB2:=zh hb2;have HBQ:=zh hbq;have U0:=zh u0;have U1:=zh u1;have U2:=zh u2;have hq:W0.heap.size<(W0.alloc (.cells #[.int .u8 2,.slice none 0 0,.int .i64 0,.int .i64 0,.bool false,.slice none 0 0] 70)).heap.size:=(by omega);have uz:g0<(W0.alloc (.cells #[.int .u8 2,.slice none 0 0,.int .i64 0,.int .i64 0,.bool false,.slice none 0 0] 70)).heap.size:=(by omega);have Jt:=zh hst1;have HJ:=zh hJ;have BI:=zh hadd;have HM:=zh hm;have Gl:=zh hst1.lt;clear hcall hb2 hbq hst1 hJ hadd hm dh hrow hrow' hsr hsn hir hin hbl hlow hlen hlen2 kb t0 t1 t2 tf tz hgr hbar hns hni u0 u1 u2 hcap;conv=>arg 2;whnf
 go_upto_region 26 with fail
 generalize (W0.alloc (.cells #[.int .u8 2,.slice none 0 0,.int .i64 0,.int .i64 0,.bool false,.slice none 0 0] 70))=W at HC HB2 HBQ U0 U1 U2 hq uz hzW ⊢;rename_i K1 hK1 K2 hK2;have tail:∀(W':World) (l:List Value),l.length=177→l[0]? =some (.string s)→l[2]? =some (.pointer (some ⟨rb,0,none⟩))→l[4]? =some (Value.slice (some ⟨g0,0,none⟩) (m+1) c0)→l[5]? =some (.int .i64 ((i+1:Nat):Int))→l[6]? =some (.int .i64 m)→l[7]? =some (.pointer (some ⟨W0.heap.size,0,none⟩))→
   ∀{k lo hi:Int} {lz:Bool} {o1 o2:Option Addr} {n1 c1 n2 c2:Nat},Below W0.heap.size W0 W'→Blk W' W0.heap.size #[.int .u8 k,.slice o1 n1 c1,.int .i64 lo,.int .i64 hi,.bool lz,.slice o2 n2 c2] 70→ai (fun b=>bD B (Value.slice (some ⟨g0,0,none⟩) (m+1) c0) (ys++[xp]) b∧b≠W0.heap.size) W' (gu o) [.int .u8 k,.slice o1 n1 c1,.int .i64 lo,.int .i64 hi,.bool lz,.slice o2 n2 c2]→K1 ⟨l.toArray,[]⟩ W':=by
  intro W' l hl h0 h2 h4 h5 h6 h7 k lo hi lz o1 o2 n1 c1 n2 c2 hb hq hn;exact hK1 _ _ (Code.wp_mono (fun e a w q=>by cases e<;>exact q) (zM (Q:=Exit.inBlock 1 (Exit.then J Q)) hl h0 h2 h4 h5 h6 h7 (by omega) hs Jt.out HM.out (by omega) hB0 hb zL hq hn hil BI.out HJ.out))
 have TAIL:=zh tail;clear tail hK1;have u0:=U0.out;have u1:=U1.out;have u2:=U2.out;go_upto_region 27 with(go_at_call 84;(refine HC.out.mono ?_;rintro ee w5 ⟨cs5,rfl,hn5,hb5⟩;obtain⟨k5,lo5,hi5,lz5,o15,o25,n15,c15,n25,c25,rfl⟩:=iP hn5;have HN5:=zh hn5;have HB5:=zh hb5;have B5:=HBQ.out.below hb5 hq;obtain⟨r0,r1,r2,r3,r4,r5,rz⟩:=zS B5;have rf:∀i,w5.frozen? ⟨W0.heap.size,i,none⟩=false:=B5.frozen;clear B5 hn5 hb5))
 have hB6:=gm (HBQ.out.below HB5.out hq) (.int .u8 k5) (.slice o15 n15 c15) (.int .i64 lo5) (.int .i64 hi5) (.bool lz5) (.slice o25 n25 c25);have k6:=kX (W:=w5) (b:=W0.heap.size) (.int .u8 k5) (.slice o15 n15 c15) (.int .i64 lo5) (.int .i64 hi5) (.bool lz5) (.slice o25 n25 c25);have hb6:Below W0.heap.size W0 _:=((Kept.of_below (HB2.out.trans (HB5.out.mono HB2.out.size)) (fun b=>b=W0.heap.size)).trans k6).below (fun b hb e=>by omega);have hn6:ai (fun b=>bD B (Value.slice (some ⟨g0,0,none⟩) (m+1) c0) (ys++[xp]) b∧b≠W0.heap.size) _ (gu o) _:=ai.go k6 (fun b hb hn=>by
  rcases hn with hn|hn
  ·exact⟨by omega,hn.1,by omega⟩
  ·exact⟨by omega,⟨by omega,fun e=>by simp only[Value.ownBlock,Option.some.injEq] at e;have:=HT2.out.2;omega,fun e=>by have:=Gl.out b e;omega⟩,by omega⟩) HN5.out
 generalize ((((((w5.setCell ⟨W0.heap.size,0,none⟩ (.int .u8 k5)).setCell ⟨W0.heap.size,1,none⟩ (.slice o15 n15 c15)).setCell ⟨W0.heap.size,2,none⟩ (.int .i64 lo5)).setCell ⟨W0.heap.size,3,none⟩ (.int .i64 hi5)).setCell ⟨W0.heap.size,4,none⟩ (.bool lz5)).setCell ⟨W0.heap.size,5,none⟩ (.slice o25 n25 c25))=W6 at hB6 k6 hb6 hn6 ⊢;have v2:=((dU hb6).1 _ _ HT2.out.2).trans HT2.out.1;have vz:g0<W6.heap.size:=Nat.lt_of_lt_of_le HT2.out.2 hb6.size;have r0:=hB6.cell 0;have r1:=hB6.cell 1;have r2:=hB6.cell 2;have r3:=hB6.cell 3;have r4:=hB6.cell 4;have r5:=hB6.cell 5;have rz:=hB6.lt;have rf:∀i,W6.frozen? ⟨W0.heap.size,i,none⟩=false:=hB6.frozen;have bW:=zh (fun(l:List Value) h1 h2 h3 h4 h5 h6 h7=>TAIL.out W6 l h1 h2 h3 h4 h5 h6 h7 hb6 hB6 hn6);clear hB6 k6 hb6 hn6 u0 u1 u2 HN5 HB5 HC HB2 HBQ U0 U1 U2 HT2 Jt HJ BI HM Gl TAIL hml hB0 hil hl1 hl2
 go_wp2_with fail
 exact bW.out _ rfl rfl rfl rfl rfl rfl rfl
theorem Gm {pre st':List Wy.Op} {ys:List OpV} {op o:Wy.Op} {xp x:OpV} (e:Nat→Value)
  (his:i<s.size) (hs:s.size≤1024) (hbar:byteAt s i=41) (hgr:o.group=true)
  (dh:aZ 155 70 B W0 (Value.slice (some ⟨g0,0,none⟩) (m+1+1) c0) ((pre++[op])++[o]) ((ys++[xp])++[x])) (hm:pre.length=m) (hml:m≤1000000) (hB0:B≤W0.heap.size) (hil:op.items.length≤1000000) (hl1:o.dE.length≤1000000) (hl2:o.items.length≤1000000)
  (hadd:yJ s (i+1) (pre++[op]) (.mk 6 [] 0 0 false [gu o])=some (j,st'))
  (hJ:∀a' w',gG B rb s j st' W0 a' w'→J a' w'):
  Code.wp Tryz.prog (rdC [1,1,1,0,0,0]) (Exit.then J Q) ⟨#[.string s,e 1,.pointer (some ⟨rb,0,none⟩),e 3,.slice (some ⟨g0,0,none⟩) (m+1+1) c0,.int .i64 i,e 6,e 7,e 8,e 9,e 10,e 11,e 12,e 13,e 14,e 15,e 16,e 17,e 18,e 19,e 20,e 21,e 22,e 23,e 24,e 25,e 26,e 27,e 28,e 29,e 30,e 31,e 32,e 33,e 34,e 35,e 36,e 37,e 38,e 39,e 40,e 41,e 42,e 43,e 44,e 45,e 46,e 47,e 48,e 49,e 50,e 51,e 52,e 53,e 54,e 55,e 56,e 57,e 58,e 59,e 60,e 61,e 62,e 63,e 64,e 65,e 66,e 67,e 68,e 69,e 70,e 71,e 72,e 73,e 74,e 75,e 76,e 77,e 78,e 79,e 80,e 81,e 82,e 83,e 84,e 85,e 86,e 87,e 88,e 89,e 90,e 91,e 92,e 93,e 94,e 95,e 96,e 97,e 98,e 99,e 100,e 101,e 102,e 103,e 104,e 105,e 106,e 107,e 108,e 109,e 110,e 111,e 112,e 113,e 114,e 115,e 116,e 117,e 118,e 119,e 120,e 121,e 122,e 123,e 124,e 125,e 126,e 127,e 128,e 129,e 130,e 131,e 132,e 133,e 134,e 135,e 136,e 137,e 138,e 139,e 140,e 141,e 142,e 143,e 144,e 145,e 146,e 147,e 148,e 149,e 150,e 151,e 152,e 153,e 154,e 155,e 156,e 157,e 158,e 159,e 160,e 161,e 162,e 163,e 164,e 165,e 166,e 167,e 168,e 169,e 170,e 171,e 172,e 173,e 174,e 175,e 176],[]⟩ W0:=by
 have hb:(s[i].toNat:Int)=41:=by rw[get_at his,hbar];rfl
 have hsI:(s.size:Int)≤1024:=(by omega);have hiI:(i:Int)<s.size:=(by omega);have hmI:(m:Int)≤1000000:=(by omega);have hm0:(((m:Int)+1) == 0)=false:=by rw[beq_eq_false_iff_ne];omega
 have hb2:Below W0.heap.size W0 (W0.alloc (.cells #[.int .u8 2,.slice none 0 0,.int .i64 0,.int .i64 0,.bool false,.slice none 0 0] 70)):=zR.alloc zL _;obtain⟨sv,iv⟩:=x;obtain⟨so,sc,hsv⟩:=dh.last.1.slice;obtain⟨io,ic,hiv⟩:=dh.last.2.slice;simp only at hsv hiv;obtain⟨ns,hns⟩:∃n,n=o.dE.length:=⟨_,rfl⟩;obtain⟨ni,hni⟩:∃n,n=o.items.length:=⟨_,rfl⟩;rw[←hns] at hsv;rw[←hni] at hiv;subst hsv hiv;have hlow:(ys++[xp]).length=(pre++[op]).length:=dh.low;have hlen:(pre++[op]).length=m+1:=by simp[hm]
 have hlen2:((pre++[op])++[o]).length=m+1+1:=by simp[hm]
 have hpop:=aZ.pop (g:=g0) (c:=c0) (by rw[hlen2];exact dh);rw[hlen] at hpop;obtain⟨hst1,⟨scs,hsr,hsn⟩,⟨ics,hir,hin⟩⟩:=hpop;simp only at hsr hir;have hrow:=dh.row;rw[hlen2,fD _ _ _ _ hlow] at hrow;have hrow':W0.ownsRow B 155 3 (Value.slice (some ⟨g0,0,none⟩) (m+1+1) c0) (m+1+1) (iM (pre++[op]) (ys++[xp])++[.slice so ns sc,.slice io ni ic,.bool o.group]):=hrow;have hbl:(iM (pre++[op]) (ys++[xp])).length=(m+1)*3:=by rw[jE _ _ hlow,hlen]
 obtain⟨t0,t1,t2,tf,tz⟩:=last3 hrow' hbl;have hcap:=Js hrow';have Sv:(m:Int)+1≤c0:=(by omega);rw[hgr] at t2;have HT2:=zh (And.intro t2 tz);have kb:=zK hb2;have u0:=((dU hb2).1 _ _ tz).trans t0;have u1:=((dU hb2).1 _ _ tz).trans t1;have u2:=((dU hb2).1 _ _ tz).trans t2;have hbq:Blk (W0.alloc (.cells #[.int .u8 2,.slice none 0 0,.int .i64 0,.int .i64 0,.bool false,.slice none 0 0] 70)) W0.heap.size #[.int .u8 2,.slice none 0 0,.int .i64 0,.int .i64 0,.bool false,.slice none 0 0] 70:=Blk.new _ _ _;have hzW:(W0.alloc (.cells #[.int .u8 2,.slice none 0 0,.int .i64 0,.int .i64 0,.bool false,.slice none 0 0] 70)).heap.size=W0.heap.size+1:=by simp
 have hcall:=pV (N:=fun b=>bD B (Value.slice (some ⟨g0,0,none⟩) (m+1) c0) (ys++[xp]) b∧b<W0.heap.size) (o:=o) (gp hsr kb (fun b hb h=>⟨id,h,hb⟩)) (au.go kb (fun b hb h=>⟨id,h,hb⟩) hsn) (gp hir kb (fun b hb h=>⟨id,h,hb⟩)) (au.go kb (fun b hb h=>⟨id,h,hb⟩) hin) hl1 hl2;rw[hgr] at hcall;have HC:=zh hcall;have HB2:=zh hb2;have HBQ:=zh hbq;have U0:=zh u0;have U1:=zh u1;have U2:=zh u2;have hq:W0.heap.size<(W0.alloc (.cells #[.int .u8 2,.slice none 0 0,.int .i64 0,.int .i64 0,.bool false,.slice none 0 0] 70)).heap.size:=(by omega);have uz:g0<(W0.alloc (.cells #[.int .u8 2,.slice none 0 0,.int .i64 0,.int .i64 0,.bool false,.slice none 0 0] 70)).heap.size:=(by omega);have Jt:=zh hst1;have HJ:=zh hJ;have BI:=zh hadd;have HM:=zh hm;have Gl:=zh hst1.lt;clear hcall hb2 hbq hst1 hJ hadd hm dh hrow hrow' hsr hsn hir hin hbl hlow hlen hlen2 kb t0 t1 t2 tf tz hgr hbar hns hni u0 u1 u2 hcap;conv=>arg 2;whnf
 go_upto_region 26 with fail
 generalize (W0.alloc (.cells #[.int .u8 2,.slice none 0 0,.int .i64 0,.int .i64 0,.bool false,.slice none 0 0] 70))=W at HC HB2 HBQ U0 U1 U2 hq uz hzW ⊢;rename_i K1 hK1 K2 hK2;have tail:∀(W':World) (l:List Value),l.length=177→l[0]? =some (.string s)→l[2]? =some (.pointer (some ⟨rb,0,none⟩))→l[4]? =some (Value.slice (some ⟨g0,0,none⟩) (m+1) c0)→l[5]? =some (.int .i64 ((i+1:Nat):Int))→l[6]? =some (.int .i64 m)→l[7]? =some (.pointer (some ⟨W0.heap.size,0,none⟩))→
   ∀{k lo hi:Int} {lz:Bool} {o1 o2:Option Addr} {n1 c1 n2 c2:Nat},Below W0.heap.size W0 W'→Blk W' W0.heap.size #[.int .u8 k,.slice o1 n1 c1,.int .i64 lo,.int .i64 hi,.bool lz,.slice o2 n2 c2] 70→ai (fun b=>bD B (Value.slice (some ⟨g0,0,none⟩) (m+1) c0) (ys++[xp]) b∧b≠W0.heap.size) W' (.mk 6 [] 0 0 false [gu o]) [.int .u8 k,.slice o1 n1 c1,.int .i64 lo,.int .i64 hi,.bool lz,.slice o2 n2 c2]→K1 ⟨l.toArray,[]⟩ W':=by
  intro W' l hl h0 h2 h4 h5 h6 h7 k lo hi lz o1 o2 n1 c1 n2 c2 hb hq hn;exact hK1 _ _ (Code.wp_mono (fun e a w q=>by cases e<;>exact q) (zM (Q:=Exit.inBlock 1 (Exit.then J Q)) hl h0 h2 h4 h5 h6 h7 (by omega) hs Jt.out HM.out (by omega) hB0 hb zL hq hn hil BI.out HJ.out))
 have TAIL:=zh tail;clear tail hK1;have u0:=U0.out;have u1:=U1.out;have u2:=U2.out;go_upto_region 27 with(go_at_call 84;(refine HC.out.mono ?_;rintro ee w5 ⟨cs5,rfl,hn5,hb5⟩;obtain⟨k5,lo5,hi5,lz5,o15,o25,n15,c15,n25,c25,rfl⟩:=iP hn5;have HN5:=zh hn5;have HB5:=zh hb5;have B5:=HBQ.out.below hb5 hq;obtain⟨r0,r1,r2,r3,r4,r5,rz⟩:=zS B5;have rf:∀i,w5.frozen? ⟨W0.heap.size,i,none⟩=false:=B5.frozen;clear B5 hn5 hb5))
 have hB6:=gm (HBQ.out.below HB5.out hq) (.int .u8 k5) (.slice o15 n15 c15) (.int .i64 lo5) (.int .i64 hi5) (.bool lz5) (.slice o25 n25 c25);have k6:=kX (W:=w5) (b:=W0.heap.size) (.int .u8 k5) (.slice o15 n15 c15) (.int .i64 lo5) (.int .i64 hi5) (.bool lz5) (.slice o25 n25 c25);have hb6:Below W0.heap.size W0 _:=((Kept.of_below (HB2.out.trans (HB5.out.mono HB2.out.size)) (fun b=>b=W0.heap.size)).trans k6).below (fun b hb e=>by omega);have hn6:ai (fun b=>bD B (Value.slice (some ⟨g0,0,none⟩) (m+1) c0) (ys++[xp]) b∧b≠W0.heap.size) _ (gu o) _:=ai.go k6 (fun b hb hn=>by
  rcases hn with hn|hn
  ·exact⟨by omega,hn.1,by omega⟩
  ·exact⟨by omega,⟨by omega,fun e=>by simp only[Value.ownBlock,Option.some.injEq] at e;have:=HT2.out.2;omega,fun e=>by have:=Gl.out b e;omega⟩,by omega⟩) HN5.out
 generalize ((((((w5.setCell ⟨W0.heap.size,0,none⟩ (.int .u8 k5)).setCell ⟨W0.heap.size,1,none⟩ (.slice o15 n15 c15)).setCell ⟨W0.heap.size,2,none⟩ (.int .i64 lo5)).setCell ⟨W0.heap.size,3,none⟩ (.int .i64 hi5)).setCell ⟨W0.heap.size,4,none⟩ (.bool lz5)).setCell ⟨W0.heap.size,5,none⟩ (.slice o25 n25 c25))=W6 at hB6 k6 hb6 hn6 ⊢;have v2:=((dU hb6).1 _ _ HT2.out.2).trans HT2.out.1;have vz:g0<W6.heap.size:=Nat.lt_of_lt_of_le HT2.out.2 hb6.size;have r0:=hB6.cell 0;have r1:=hB6.cell 1;have r2:=hB6.cell 2;have r3:=hB6.cell 3;have r4:=hB6.cell 4;have r5:=hB6.cell 5;have rz:=hB6.lt;have rf:∀i,W6.frozen? ⟨W0.heap.size,i,none⟩=false:=hB6.frozen;have fin:∀W',W'=((((((W6.setCell ⟨W0.heap.size,0,none⟩ (.int .u8 6)).setCell ⟨W0.heap.size,1,none⟩ (.slice none 0 0)).setCell ⟨W0.heap.size,2,none⟩ (.int .i64 0)).setCell ⟨W0.heap.size,3,none⟩ (.int .i64 0)).setCell ⟨W0.heap.size,4,none⟩ (.bool false)).setCell ⟨W0.heap.size,5,none⟩ (.slice (some ⟨W6.heap.size,0,none⟩) 1 1)).alloc (.cells #[.int .u8 k5,.slice o15 n15 c15,.int .i64 lo5,.int .i64 hi5,.bool lz5,.slice o25 n25 c25] 70)→
   ∀(l:List Value),l.length=177→l[0]? =some (.string s)→l[2]? =some (.pointer (some ⟨rb,0,none⟩))→l[4]? =some (Value.slice (some ⟨g0,0,none⟩) (m+1) c0)→l[5]? =some (.int .i64 ((i+1:Nat):Int))→l[6]? =some (.int .i64 m)→l[7]? =some (.pointer (some ⟨W0.heap.size,0,none⟩))→K1 ⟨l.toArray,[]⟩ W':=by
  intro W' hW' l h1 h2 h3 h4 h5 h6 h7;have k7:=(kX (W:=W6) (b:=W0.heap.size) (.int .u8 6) (.slice none 0 0) (.int .i64 0) (.int .i64 0) (.bool false) (.slice (some ⟨W6.heap.size,0,none⟩) 1 1)).alloc (.cells #[.int .u8 k5,.slice o15 n15 c15,.int .i64 lo5,.int .i64 hi5,.bool lz5,.slice o25 n25 c25] 70);rw[←hW'] at k7;have hB7:=(gm hB6 (.int .u8 6) (.slice none 0 0) (.int .i64 0) (.int .i64 0) (.bool false) (.slice (some ⟨W6.heap.size,0,none⟩) 1 1)).alloc (.cells #[.int .u8 k5,.slice o15 n15 c15,.int .i64 lo5,.int .i64 hi5,.bool lz5,.slice o25 n25 c25] 70);rw[←hW'] at hB7;have hnew:Blk W' W6.heap.size #[.int .u8 k5,.slice o15 n15 c15,.int .i64 lo5,.int .i64 hi5,.bool lz5,.slice o25 n25 c25] 70:=by
   rw[hW'];exact Blk.new' _ _ (by simp)
  have hb7:Below W0.heap.size W0 W':=((Kept.of_below hb6 (fun b=>b=W0.heap.size)).trans k7).below (fun b hb e=>by omega);have hz6:=hb6.size;have hfree:bD B (Value.slice (some ⟨g0,0,none⟩) (m+1) c0) (ys++[xp]) W6.heap.size∧W6.heap.size≠W0.heap.size:=⟨⟨by omega,fun e=>by simp only[Value.ownBlock,Option.some.injEq] at e;omega,fun e=>by have:=Gl.out _ e;omega⟩,by omega⟩;exact TAIL.out W' l h1 h2 h3 h4 h5 h6 h7 hb7 hB7 (uA hnew hfree (ai.go k7 (fun b _ hb=>⟨hb.2,hb⟩) hn6) (by omega) ⟨by decide,by decide⟩ ⟨by decide,by decide⟩)
 have bW:=zh fin;clear fin hB6 k6 hb6 hn6 u0 u1 u2 HN5 HB5 HC HB2 HBQ U0 U1 U2 HT2 Jt HJ BI HM Gl TAIL hml hB0 hil hl1 hl2
 go_wp2_with fail
 exact bW.out _ rfl _ rfl rfl rfl rfl rfl rfl rfl
variable {cc nn p:Nat} {N:Nat→Prop}
theorem P6 (hB:Blk W p #[.int .i64 c,.int .i64 c] T) (hN:N p) (hc:c<2048):
  ai N W (.mk 2 [⟨c,c⟩] 0 0 false []) [.int .u8 2,.slice (some ⟨p,0,none⟩) 1 1,.int .i64 0,.int .i64 0,.bool false,.slice none 0 0]:=by
 rw[ai];refine⟨_,_,[],rfl,⟨by omega,by omega,by simp⟩,⟨by decide,by decide⟩,⟨by decide,by decide⟩,⟨⟨rfl,.inr ⟨p,0,1,rfl,Nat.le_refl _,by unfold maxLen;omega,hN,hB.lt,fun j hj=> ?_⟩⟩,?_,by simp⟩,⟨rfl,.inl ⟨rfl,_,_,rfl⟩⟩,by rw[au]⟩
 ·rw[Nat.zero_add,hB.cell];simp[jL]
 ·intro r hr;simp only[List.mem_singleton] at hr;subst hr;unfold I64;simp only;omega
theorem MN {pre st':List Wy.Op} {ys:List OpV} {op:Wy.Op} {xp:OpV} (e:Nat→Value)
  (his:i<s.size) (hs:s.size≤1024) (hb1:byteAt s i≠124) (hb2:byteAt s i≠40) (hb3:byteAt s i≠41) (hpt:gQ s i=some (cc,nn)) (hmt:cc∉qE)
  (dh:aZ 155 70 B W0 (Value.slice (some ⟨g0,0,none⟩) (m+1) c0) (pre++[op]) (ys++[xp])) (hm:pre.length=m) (hml:m≤1000000) (hB0:B≤W0.heap.size) (hil:op.items.length≤1000000)
  (hadd:yJ s (i+nn) (pre++[op]) (.mk 2 [⟨cc,cc⟩] 0 0 false [])=some (j,st'))
  (hJ:∀a' w',gG B rb s j st' W0 a' w'→J a' w'):
  Code.wp Tryz.prog (rdC [1,1,1,0,0,0]) (Exit.then J Q) ⟨#[.string s,e 1,.pointer (some ⟨rb,0,none⟩),e 3,.slice (some ⟨g0,0,none⟩) (m+1) c0,.int .i64 i,e 6,e 7,e 8,e 9,e 10,e 11,e 12,e 13,e 14,e 15,e 16,e 17,e 18,e 19,e 20,e 21,e 22,e 23,e 24,e 25,e 26,e 27,e 28,e 29,e 30,e 31,e 32,e 33,e 34,e 35,e 36,e 37,e 38,e 39,e 40,e 41,e 42,e 43,e 44,e 45,e 46,e 47,e 48,e 49,e 50,e 51,e 52,e 53,e 54,e 55,e 56,e 57,e 58,e 59,e 60,e 61,e 62,e 63,e 64,e 65,e 66,e 67,e 68,e 69,e 70,e 71,e 72,e 73,e 74,e 75,e 76,e 77,e 78,e 79,e 80,e 81,e 82,e 83,e 84,e 85,e 86,e 87,e 88,e 89,e 90,e 91,e 92,e 93,e 94,e 95,e 96,e 97,e 98,e 99,e 100,e 101,e 102,e 103,e 104,e 105,e 106,e 107,e 108,e 109,e 110,e 111,e 112,e 113,e 114,e 115,e 116,e 117,e 118,e 119,e 120,e 121,e 122,e 123,e 124,e 125,e 126,e 127,e 128,e 129,e 130,e 131,e 132,e 133,e 134,e 135,e 136,e 137,e 138,e 139,e 140,e 141,e 142,e 143,e 144,e 145,e 146,e 147,e 148,e 149,e 150,e 151,e 152,e 153,e 154,e 155,e 156,e 157,e 158,e 159,e 160,e 161,e 162,e 163,e 164,e 165,e 166,e 167,e 168,e 169,e 170,e 171,e 172,e 173,e 174,e 175,e 176],[]⟩ W0:=by
 have hb1:((s[i].toNat:Int) == 124)=false:=by rw[get_at his];exact iQ hb1
 have hb2:((s[i].toNat:Int) == 40)=false:=by rw[get_at his];exact iQ hb2
 have hb3:((s[i].toNat:Int) == 41)=false:=by rw[get_at his];exact iQ hb3
 have hsI:(s.size:Int)≤1024:=(by omega);have hiI:(i:Int)<s.size:=(by omega);have hmI:(m:Int)≤1000000:=(by omega);have hnn:=AU hpt his;have hcc:=(vF hpt hmt).2.1;have hn0:((nn:Int) == 0)=false:=by rw[beq_eq_false_iff_ne];omega
 have hnI:(nn:Int)≤1024:=(by omega);have hb2':Below W0.heap.size W0 (W0.alloc (.cells #[.int .u8 2,.slice none 0 0,.int .i64 0,.int .i64 0,.bool false,.slice none 0 0] 70)):=zR.alloc zL _;have hbq:Blk (W0.alloc (.cells #[.int .u8 2,.slice none 0 0,.int .i64 0,.int .i64 0,.bool false,.slice none 0 0] 70)) W0.heap.size #[.int .u8 2,.slice none 0 0,.int .i64 0,.int .i64 0,.bool false,.slice none 0 0] 70:=Blk.new _ _ _;have hzW:(W0.alloc (.cells #[.int .u8 2,.slice none 0 0,.int .i64 0,.int .i64 0,.bool false,.slice none 0 0] 70)).heap.size=W0.heap.size+1:=by simp
 have hsz:=dJ s i (Nat.le_of_lt his);have hcall:=set_any (x:=bn s i) (by rw[AX s i (Nat.le_of_lt his)];exact hpt) hmt (by rw[hsz];omega) (by rw[hsz];omega) (W0.alloc (.cells #[.int .u8 2,.slice none 0 0,.int .i64 0,.int .i64 0,.bool false,.slice none 0 0] 70));have hv0:=dh.row.lt g0 rfl;have HC:=zh hcall;have HB2:=zh hb2';have HBQ:=zh hbq;have HST:=zh dh;have HV0:=zh hv0;have HJ:=zh hJ;have BI:=zh hadd;have HM:=zh hm;have HNN:=zh hnn;have HCC:=zh hcc;have HZW:=zh hzW;have hq:W0.heap.size<(W0.alloc (.cells #[.int .u8 2,.slice none 0 0,.int .i64 0,.int .i64 0,.bool false,.slice none 0 0] 70)).heap.size:=(by omega);clear hcall hb2' hbq dh hJ hadd hm hnn hcc hzW hsz hpt hmt hv0;conv=>arg 2;whnf
 go_upto_region 7 with fail
 generalize (W0.alloc (.cells #[.int .u8 2,.slice none 0 0,.int .i64 0,.int .i64 0,.bool false,.slice none 0 0] 70))=W at HC HB2 HBQ HZW hq ⊢;rename_i K1 hK1 K2 hK2;have tail:∀(W':World) (l:List Value),l.length=177→l[0]? =some (.string s)→l[2]? =some (.pointer (some ⟨rb,0,none⟩))→l[4]? =some (Value.slice (some ⟨g0,0,none⟩) (m+1) c0)→l[5]? =some (.int .i64 ((i+nn:Nat):Int))→l[6]? =some (.int .i64 m)→l[7]? =some (.pointer (some ⟨W0.heap.size,0,none⟩))→
   ∀{k lo hi:Int} {lz:Bool} {o1 o2:Option Addr} {n1 c1 n2 c2:Nat},Below W0.heap.size W0 W'→Blk W' W0.heap.size #[.int .u8 k,.slice o1 n1 c1,.int .i64 lo,.int .i64 hi,.bool lz,.slice o2 n2 c2] 70→ai (fun b=>bD B (Value.slice (some ⟨g0,0,none⟩) (m+1) c0) (ys++[xp]) b∧b≠W0.heap.size) W' (.mk 2 [⟨cc,cc⟩] 0 0 false []) [.int .u8 k,.slice o1 n1 c1,.int .i64 lo,.int .i64 hi,.bool lz,.slice o2 n2 c2]→K1 ⟨l.toArray,[]⟩ W':=by
  intro W' l hl h0 h2 h4 h5 h6 h7 k lo hi lz o1 o2 n1 c1 n2 c2 hb hq hn;exact hK1 _ _ (Code.wp_mono (fun e a w q=>by cases e<;>exact q) (zM (Q:=Exit.inBlock 1 (Exit.then J Q)) hl h0 h2 h4 h5 h6 h7 HNN.out.2 hs HST.out HM.out (by omega) hB0 hb zL hq hn hil BI.out HJ.out))
 have TAIL:=zh tail;clear tail hK1;go_upto_region 10 with(go_at_call 85;(refine HC.out.mono ?_;rintro ee w5 ⟨p,rfl,hp,hpz,hb5⟩;have HP:=zh hp;have HPZ:=zh hpz;have HB5:=zh hb5;have B5:=HBQ.out.below hb5 hq;obtain⟨r0,r1,r2,r3,r4,r5,rz⟩:=zS B5;have rf:∀i,w5.frozen? ⟨W0.heap.size,i,none⟩=false:=B5.frozen;clear B5 hp hpz hb5))
 have fin:∀(l:List Value),l.length=177→l[0]? =some (.string s)→l[2]? =some (.pointer (some ⟨rb,0,none⟩))→l[4]? =some (Value.slice (some ⟨g0,0,none⟩) (m+1) c0)→l[5]? =some (.int .i64 ((i+nn:Nat):Int))→l[6]? =some (.int .i64 m)→l[7]? =some (.pointer (some ⟨W0.heap.size,0,none⟩))→K1 ⟨l.toArray,[]⟩ (w5.setCell ⟨W0.heap.size,1,none⟩ (.slice (some ⟨p,0,none⟩) 1 1)):=by
  intro l h1 h2 h3 h4 h5 h6 h7;have k6:Kept (fun b=>b=W0.heap.size) w5 (w5.setCell ⟨W0.heap.size,1,none⟩ (.slice (some ⟨p,0,none⟩) 1 1)):=(Kept.refl (fun b=>b=W0.heap.size) w5).setCell (p:=⟨W0.heap.size,1,none⟩) (fun _=>rfl) _;have hB6:=(HBQ.out.below HB5.out hq).set 1 (.slice (some ⟨p,0,none⟩) 1 1);have hpz:=HPZ.out;have hzw:=HZW.out;have hp:=HP.out.kept k6 (by omega);have hb6:Below W0.heap.size W0 _:=((Kept.of_below (HB2.out.trans (HB5.out.mono HB2.out.size)) (fun b=>b=W0.heap.size)).trans k6).below (fun b hb e=>by omega);have hv:=HV0.out;have hlt:=HST.out.lt;exact TAIL.out _ l h1 h2 h3 h4 h5 h6 h7 hb6 hB6 (P6 hp ⟨⟨by omega,fun e=>by simp only[Value.ownBlock,Option.some.injEq] at e;omega,fun e=>by have:=hlt _ e;omega⟩,by omega⟩ HCC.out)
 have bW:=zh fin;clear fin TAIL HP HPZ HB5 HC HB2 HBQ HST HV0 HJ BI HM HNN HCC HZW hml hB0 hil
 go_wp2_with fail
 exact bW.out _ rfl rfl rfl rfl rfl rfl rfl
variable {v:Value} {w wI:World}
def EI (B rb:Nat) (s:ByteArray) (t:Nd) (wI:World) (n:Nat) (a:Act) (w:World):Prop:=∃(l:List Value) (v:Value) (xs:List OpV) (i k:Nat) (st:List Wy.Op),a=⟨l.toArray,[]⟩∧l.length=177∧l[0]? =some (.string s)∧l[2]? =some (.pointer (some ⟨rb,0,none⟩))∧l[4]? =some v∧l[5]? =some (.int .i64 i)∧
 aZ 155 70 B w v st xs∧st≠[]∧wgt st≤i+1∧i≤s.size∧xI s k i st=some t∧n=s.size-i∧Below B wI w
def Sz (B rb:Nat) (s:ByteArray) (t:Nd) (wI:World) (a:Act) (w:World):Prop:=∃(l:List Value) (v:Value) (xs:List OpV) (o:Wy.Op),a=⟨l.toArray,[]⟩∧l.length=177∧l[0]? =some (.string s)∧l[2]? =some (.pointer (some ⟨rb,0,none⟩))∧l[4]? =some v∧
 aZ 155 70 B w v [o] xs∧t=gu o∧wgt [o]≤s.size+1∧Below B wI w
theorem BJ {st:List Wy.Op} {xs:List OpV} (h:aZ 155 70 B w v st xs) (hne:st≠[]):∃g c,v= .slice (some ⟨g,0,none⟩) st.length c:=by
 rcases h.row.2 with⟨_,h0⟩|⟨g,c,cur,rfl,-⟩
 ·exact absurd (List.eq_nil_of_length_eq_zero h0) hne
 ·exact⟨g,c,rfl⟩
theorem x9 {st:List Wy.Op} {xs:List OpV} (h:aZ 155 70 B w v st xs) (hne:st≠[]):∃ys x,xs=ys++[x]:=by
 have hl:=h.len;have:xs≠[]:=fun e=>by subst e;simp at hl;exact hne (List.eq_nil_of_length_eq_zero hl.symm)
 exact⟨xs.dropLast,xs.getLast this,(List.dropLast_concat_getLast this).symm⟩
theorem DD (s:ByteArray) (k i:Nat) (st:List Wy.Op):xI s (k+1) i st=if i<s.size then(match stepM s i st with|none=>none|some (j,st')=>xI s k j st') else(match st with|[o]=>some (gu o)|_=>none):=rfl
theorem ku (pre:List Wy.Op) (o:Wy.Op):pK (pre++[o])=o:=by unfold pK;simp
theorem MO (e:Nat→Value) (hi:¬i<s.size) (hs:s.size≤1024)
  (hJ:∀l:List Value,l.length=177→l[0]? =some (.string s)→l[2]? =some (.pointer (some ⟨rb,0,none⟩))→l[4]? =some v→Q (.exit 0) ⟨l.toArray,[]⟩ W):
  Code.wp Tryz.prog (rdC [1,1,1,0,0,0]) (Exit.then J Q) ⟨#[.string s,e 1,.pointer (some ⟨rb,0,none⟩),e 3,v,.int .i64 i,e 6,e 7,e 8,e 9,e 10,e 11,e 12,e 13,e 14,e 15,e 16,e 17,e 18,e 19,e 20,e 21,e 22,e 23,e 24,e 25,e 26,e 27,e 28,e 29,e 30,e 31,e 32,e 33,e 34,e 35,e 36,e 37,e 38,e 39,e 40,e 41,e 42,e 43,e 44,e 45,e 46,e 47,e 48,e 49,e 50,e 51,e 52,e 53,e 54,e 55,e 56,e 57,e 58,e 59,e 60,e 61,e 62,e 63,e 64,e 65,e 66,e 67,e 68,e 69,e 70,e 71,e 72,e 73,e 74,e 75,e 76,e 77,e 78,e 79,e 80,e 81,e 82,e 83,e 84,e 85,e 86,e 87,e 88,e 89,e 90,e 91,e 92,e 93,e 94,e 95,e 96,e 97,e 98,e 99,e 100,e 101,e 102,e 103,e 104,e 105,e 106,e 107,e 108,e 109,e 110,e 111,e 112,e 113,e 114,e 115,e 116,e 117,e 118,e 119,e 120,e 121,e 122,e 123,e 124,e 125,e 126,e 127,e 128,e 129,e 130,e 131,e 132,e 133,e 134,e 135,e 136,e 137,e 138,e 139,e 140,e 141,e 142,e 143,e 144,e 145,e 146,e 147,e 148,e 149,e 150,e 151,e 152,e 153,e 154,e 155,e 156,e 157,e 158,e 159,e 160,e 161,e 162,e 163,e 164,e 165,e 166,e 167,e 168,e 169,e 170,e 171,e 172,e 173,e 174,e 175,e 176],[]⟩ W:=by
 have hsI:(s.size:Int)≤1024:=(by omega);have hiN:decide (i<s.size)=false:=decide_eq_false hi;have HJ:=zh hJ;clear hJ hi hs;conv=>arg 2;whnf
 go_wp2_with fail
 refine HJ.out _ ?_ ?_ ?_ ?_ <;>rfl
theorem Ju (hs:s.size≤1024) (hBI:B≤wI.heap.size) {a:Act} {w:World} (hI:EI B rb s t wI n a w) (hQ:∀a' w',Sz B rb s t wI a' w'→Q (.exit 0) a' w'):
  Code.wp Tryz.prog (rdC [1,1,1,0,0,0]) (Exit.then (fun a' w'=>∃n',n'<n∧EI B rb s t wI n' a' w') Q) a w:=by
 obtain⟨l,v,xs,i,k,st,rfl,hl,h0,h2,h4,h5,hst,hne,hwg,his,hrd,hn,hb⟩:=hI;obtain⟨e,rfl⟩:=qI hl;have h0:=zI h0;have h2:=zI h2;have h4:=zI h4;have h5:=zI h5;rw[h0,h2,h4,h5];cases k with
 |zero=>rw[xI] at hrd;cases hrd
 |succ k=>
  rw[DD] at hrd;by_cases hi:i<s.size
  ·rw[if_pos hi] at hrd;cases hstep:stepM s i st with
   |none=>rw[hstep] at hrd;cases hrd
   |some p=>
    obtain⟨j,st'⟩:=p;rw[hstep] at hrd;simp only at hrd;have hlt:=Ib hstep hi;have hwg':=Fq hstep hi hne;have hB0:B≤w.heap.size:=by have:=hb.size;omega
    have hJ:∀a' w',gG B rb s j st' w a' w'→∃n',n'<n∧EI B rb s t wI n' a' w':=by
     intro a' w' hnx;obtain⟨l,v,xs,e1,e2,e3,e4,e5,e6,e7,e8⟩:=hnx;exact⟨s.size-j,by omega,l,v,xs,j,k,st',e1,e2,e3,e4,e5,e6,e7,hwg'.2,by omega,hlt.2,hrd,rfl,hb.trans e8⟩
    obtain⟨g0,c0,rfl⟩:=BJ hst hne;obtain⟨ys,x,rfl⟩:=x9 hst hne;obtain⟨pre,o,rfl⟩:∃pre o,st=pre++[o]:=⟨_,_,rH hne⟩;have hsplit:=nU hne;rw[List.dropLast_concat,ku] at hsplit;have hpl:=Lj pre;have hlen:(pre++[o]).length=pre.length+1:=by simp
    rw[hlen] at hst ⊢;unfold stepM at hstep;by_cases b1:byteAt s i=124
    ·rw[if_pos b1,List.dropLast_concat,ku] at hstep;simp only[Option.some.injEq,Prod.mk.injEq] at hstep;obtain⟨rfl,rfl⟩:=hstep;exact PV e hi hs b1 hst rfl (by omega) hB0 (by omega) (by omega) hJ
    rw[if_neg b1] at hstep;by_cases b2:byteAt s i=40
    ·rw[if_pos b2] at hstep;by_cases h2s:i+2<s.size
     ·by_cases q1:byteAt s (i+1)=63
      ·by_cases q2:byteAt s (i+2)=58
       ·rw[if_pos ⟨h2s,q1,q2⟩] at hstep;simp only[Option.some.injEq,Prod.mk.injEq] at hstep;obtain⟨rfl,rfl⟩:=hstep;exact Jo e hi hs b2 h2s q1 q2 hst rfl (by omega) hB0 hJ
       ·rw[if_neg (fun h=>q2 h.2.2)] at hstep;simp only[Option.some.injEq,Prod.mk.injEq] at hstep;obtain⟨rfl,rfl⟩:=hstep;exact Jr e hi hs b2 h2s q1 q2 hst rfl (by omega) hB0 hJ
      ·rw[if_neg (fun h=>q1 h.2.1)] at hstep;simp only[Option.some.injEq,Prod.mk.injEq] at hstep;obtain⟨rfl,rfl⟩:=hstep;exact Jq e hi hs b2 h2s q1 hst rfl (by omega) hB0 hJ
     ·rw[if_neg (fun h=>h2s h.1)] at hstep;simp only[Option.some.injEq,Prod.mk.injEq] at hstep;obtain⟨rfl,rfl⟩:=hstep;exact Jp e hi hs b2 h2s hst rfl (by omega) hB0 hJ
    rw[if_neg b2] at hstep;by_cases b3:byteAt s i=41
    ·rw[if_pos b3,hlen] at hstep;by_cases hp1:pre.length+1≤1
     ·rw[if_pos hp1] at hstep;cases hstep
     rw[if_neg hp1,List.dropLast_concat,ku] at hstep;have SA:pre≠[]:=fun e=>by subst e;simp at hp1
     obtain⟨pre',op,rfl⟩:∃p o,pre=p++[o]:=⟨_,_,rH SA⟩;have hys:=hst.low;have SB:ys≠[]:=fun e=>by subst e;simp at hys
     obtain⟨ys',xp,rfl⟩:∃y x,ys=y++[x]:=⟨ys.dropLast,ys.getLast SB,(List.dropLast_concat_getLast SB).symm⟩;have MP:=nU SA;rw[List.dropLast_concat,ku] at MP;have hlen2:(pre'++[op]).length=pre'.length+1:=by simp
     rw[hlen2] at hst hpl ⊢;cases hg:o.group with
     |true=>
      rw[hg,if_pos rfl] at hstep;exact Gm e hi hs b3 hg hst rfl (by omega) hB0 (by omega) (by omega) (by omega) hstep hJ
     |false=>
      rw[hg,if_neg (by simp)] at hstep;exact Gj e hi hs b3 hg hst rfl (by omega) hB0 (by omega) (by omega) (by omega) hstep hJ
    rw[if_neg b3] at hstep;cases hset:Fj s i with
    |none=>rw[hset] at hstep;cases hstep
    |some p=>
     obtain⟨ls,nn⟩:=p;rw[hset] at hstep;simp only at hstep;obtain⟨c,hpt,hmt,rfl⟩:=FI hset;exact MN e hi hs b1 b2 b3 hpt hmt hst rfl (by omega) hB0 (by omega) hstep hJ
  ·rw[if_neg hi] at hrd;obtain⟨o,rfl,rfl⟩:∃o,st=[o]∧t=gu o:=by
    rcases st with _|⟨o,_|⟨o2,r⟩⟩
    ·cases hrd
    ·exact⟨o,rfl,(zI hrd).symm⟩
    ·cases hrd
   exact MO e hi hs (fun l k0 k1 k2 k3=>hQ _ _ ⟨l,v,xs,o,rfl,k0,k1,k2,k3,hst,rfl,by omega,hb⟩)
theorem MQ (hB:B≤w.heap.size):aZ 155 70 B (w.alloc (.cells #[.slice none 0 0,.slice none 0 0,.bool false] 155)) (.slice (some ⟨w.heap.size,0,none⟩) 1 1) [⟨[],[],false⟩] [⟨.slice none 0 0,.slice none 0 0⟩]:=by
 refine⟨rfl,?_,?_,by simp[kU,OpV.own,wS,Value.ownBlock],fun b hb=>by simp[kU,OpV.own,wS,Value.ownBlock] at hb⟩
 ·exact World.ownsRow_lit w #[.slice none 0 0,.slice none 0 0,.bool false] 1 hB (by unfold maxLen;omega) rfl
 ·intro i hi hx;obtain rfl:i=0:=by simp at hi;omega
  exact⟨fO.nil,fO.nil⟩
theorem Jv (hp:mQ s=some t) (hs:s.size≤1024):Dy s t:=by
 intro w;have hsI:(s.size:Int)≤1024:=(by omega);have hB1:Blk (w.alloc (.cells #[.int .u8 0,.slice none 0 0,.int .i64 0,.int .i64 0,.bool false,.slice none 0 0] 70)) w.heap.size #[.int .u8 0,.slice none 0 0,.int .i64 0,.int .i64 0,.bool false,.slice none 0 0] 70:=Blk.new _ _ _;have hz1:(w.alloc (.cells #[.int .u8 0,.slice none 0 0,.int .i64 0,.int .i64 0,.bool false,.slice none 0 0] 70)).heap.size=w.heap.size+1:=by simp
 have hst:=MQ (w:=w.alloc (.cells #[.int .u8 0,.slice none 0 0,.int .i64 0,.int .i64 0,.bool false,.slice none 0 0] 70)) (B:=w.heap.size+1) (by omega);have hB2:=hB1.alloc (.cells #[.slice none 0 0,.slice none 0 0,.bool false] 155);have hbI:Below w.heap.size w ((w.alloc (.cells #[.int .u8 0,.slice none 0 0,.int .i64 0,.int .i64 0,.bool false,.slice none 0 0] 70)).alloc (.cells #[.slice none 0 0,.slice none 0 0,.bool false] 155)):=(zR.alloc zL _).alloc (by simp) _;rw[hz1] at hst;have hzI:((w.alloc (.cells #[.int .u8 0,.slice none 0 0,.int .i64 0,.int .i64 0,.bool false,.slice none 0 0] 70)).alloc (.cells #[.slice none 0 0,.slice none 0 0,.bool false] 155)).heap.size=w.heap.size+2:=by simp
 have HST:=zh hst;have HB2:=zh hB2;have HBI:=zh hbI;have HZI:=zh hzI;have HP:=zh hp;clear hst hB1 hB2 hbI hz1 hzI hp;go_enter Tryz.func62,Tryz.ntmps62
 go_wp2_with fail
 generalize ((w.alloc (.cells #[.int .u8 0,.slice none 0 0,.int .i64 0,.int .i64 0,.bool false,.slice none 0 0] 70)).alloc (.cells #[.slice none 0 0,.slice none 0 0,.bool false] 155))=wI at HST HB2 HBI HZI ⊢;refine wp_loop_ghost (EI (w.heap.size+1) w.heap.size s t wI) (s.size-0) ?_ (fun n a w' hI=>Ju hs (by have:=HZI.out;omega) hI ?_)
 ·exact⟨_,_,_,0,s.size+1,_,rfl,rfl,rfl,rfl,rfl,rfl,HST.out,by simp,by simp[wgt],by omega,HP.out,rfl,zR⟩
 ·intro a' w5 hout;obtain⟨l,v,xs,o,rfl,hl,h0,h2,h4,hst,rfl,hwg,hb⟩:=hout;obtain⟨e,rfl⟩:=qI hl;have h0:=zI h0;have h2:=zI h2;have h4:=zI h4;rw[h0,h2,h4];obtain⟨g0,c0,rfl⟩:=BJ hst (by simp);obtain⟨ys,⟨sv,iv⟩,rfl⟩:=x9 hst (by simp);obtain rfl:ys=[]:=by have:=hst.len;simpa using this
  have P7:o.items.length≤1000000∧o.dE.length≤1000000:=by simp[wgt] at hwg;omega
  obtain⟨so,sc,hsv⟩:=(aZ.last (pre:=[]) (ys:=[]) hst).1.slice;obtain⟨io,ic,hiv⟩:=(aZ.last (pre:=[]) (ys:=[]) hst).2.slice;simp only at hsv hiv;subst hsv hiv;have hrow:w5.ownsRow (w.heap.size+1) 155 3 (.slice (some ⟨g0,0,none⟩) (0+1) c0) (0+1) ([]++[.slice so o.dE.length sc,.slice io o.items.length ic,.bool o.group]):=hst.row;obtain⟨t0,t1,t2,tf,tz⟩:=last3 hrow rfl;obtain⟨-,⟨scs,hsr,hsn⟩,⟨ics,hir,hin⟩⟩:=aZ.pop (pre:=[]) (ys:=[]) hst;simp only at hsr hir;have hcall:=pV (o:=o) hsr hsn hir hin P7.2 P7.1;have hBr:=HB2.out.below hb (by omega);have hbw:Below w.heap.size w w5:=HBI.out.trans (hb.mono (by omega));have hz5:w.heap.size<w5.heap.size:=hBr.lt;have HC:=zh hcall;have HBR:=zh hBr;have HBW:=zh hbw;obtain⟨ns,hns⟩:∃n,n=o.dE.length:=⟨_,rfl⟩;obtain⟨ni,hni⟩:∃n,n=o.items.length:=⟨_,rfl⟩;rw[←hns,←hni] at HC;rw[←hns] at t0;rw[←hni] at t1;simp only[Nat.zero_mul,Nat.zero_add] at t0 t1 t2;clear hst hrow hsr hsn hir hin hcall hBr hbw hwg P7 hb h0 h2 h4 hl HST HB2 HBI HZI HP hns hni
  go_wp2_with (go_at_call 84;(refine HC.out.mono ?_;rintro ee w6 ⟨cs6,rfl,hn6,hb6⟩;obtain⟨k6,lo6,hi6,lz6,o16,o26,n16,c16,n26,c26,rfl⟩:=iP hn6;have HN6:=zh hn6;have HB6:=zh hb6;have B6:=HBR.out.below hb6 hz5;obtain⟨r0,r1,r2,r3,r4,r5,rz⟩:=zS B6;have rf:∀i,w6.frozen? ⟨w.heap.size,i,none⟩=false:=B6.frozen;clear B6 hn6 hb6))
  have hF:=gm (HBR.out.below HB6.out hz5) (.int .u8 k6) (.slice o16 n16 c16) (.int .i64 lo6) (.int .i64 hi6) (.bool lz6) (.slice o26 n26 c26);have k7:=kX (W:=w6) (b:=w.heap.size) (.int .u8 k6) (.slice o16 n16 c16) (.int .i64 lo6) (.int .i64 hi6) (.bool lz6) (.slice o26 n26 c26);refine bodyPost_ret (v:= .tuple #[.agg #[.int .u8 k6,.slice o16 n16 c16,.int .i64 lo6,.int .i64 hi6,.bool lz6,.slice o26 n26 c26],.bool true]) (by simp[results,Tryz.results62,go_sem,hF.cell]) rfl ⟨_,rfl,ai.go k7 (fun b hb hn=> ?_) HN6.out,?_⟩
  ·rcases hn with hn|hn
   ·have:=hn.1;exact⟨by omega,by omega⟩
   ·exact⟨by omega,by omega⟩
  ·exact((Kept.of_below (HBW.out.trans (HB6.out.mono HBW.out.size)) (fun q=>q=w.heap.size)).trans k7).below (fun q hq e=>by omega)
end Go.Proofs.YtnhjakdmbfadlaaGreatDoor
