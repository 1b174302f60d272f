/- Parts of the proof. Conditions: none. -/
import Derived.Test.YtnhjakdmbfadlaaGreatDoorT04
import Derived.Test.YtnhjakdmbfadlaaGreatDoorT00
set_option linter.all false
set_option maxHeartbeats 8000000
set_option maxRecDepth 100000
namespace Go.Proofs.YtnhjakdmbfadlaaGreatDoor
open Go.RowKit Wy Mem Grow
variable {is:List Nat} {m':List Value}
noncomputable def tlC (p:List Nat):Code:=gU (way p) (Tryz.f8.body.getD .skip)
theorem di {l:List Value} (h:l.length=206):∃e:Nat→Value,l=[e 0,e 1,e 2,e 3,e 4,e 5,e 6,e 7,e 8,e 9,e 10,e 11,e 12,e 13,e 14,e 15,e 16,e 17,e 18,e 19,e 20,e 21,e 22,e 23,e 24,e 25,e 26,e 27,e 28,e 29,e 30,e 31,e 32,e 33,e 34,e 35,e 36,e 37,e 38,e 39,e 40,e 41,e 42,e 43,e 44,e 45,e 46,e 47,e 48,e 49,e 50,e 51,e 52,e 53,e 54,e 55,e 56,e 57,e 58,e 59,e 60,e 61,e 62,e 63,e 64,e 65,e 66,e 67,e 68,e 69,e 70,e 71,e 72,e 73,e 74,e 75,e 76,e 77,e 78,e 79,e 80,e 81,e 82,e 83,e 84,e 85,e 86,e 87,e 88,e 89,e 90,e 91,e 92,e 93,e 94,e 95,e 96,e 97,e 98,e 99,e 100,e 101,e 102,e 103,e 104,e 105,e 106,e 107,e 108,e 109,e 110,e 111,e 112,e 113,e 114,e 115,e 116,e 117,e 118,e 119,e 120,e 121,e 122,e 123,e 124,e 125,e 126,e 127,e 128,e 129,e 130,e 131,e 132,e 133,e 134,e 135,e 136,e 137,e 138,e 139,e 140,e 141,e 142,e 143,e 144,e 145,e 146,e 147,e 148,e 149,e 150,e 151,e 152,e 153,e 154,e 155,e 156,e 157,e 158,e 159,e 160,e 161,e 162,e 163,e 164,e 165,e 166,e 167,e 168,e 169,e 170,e 171,e 172,e 173,e 174,e 175,e 176,e 177,e 178,e 179,e 180,e 181,e 182,e 183,e 184,e 185,e 186,e 187,e 188,e 189,e 190,e 191,e 192,e 193,e 194,e 195,e 196,e 197,e 198,e 199,e 200,e 201,e 202,e 203,e 204,e 205]:=by
 refine⟨fun k=>l.getD k undef,?_⟩;have h2:l=(List.range 206).map fun k=>l.getD k undef:=by
  apply List.ext_getElem
  ·simp[h]
  ·intro i h1 h2;simp[List.getD_eq_getElem?_getD,h1]
 exact h2
def Kp (m m':List Value) (is:List Nat):Prop:=∀i∈is,m'[i]? =m[i]?
theorem Kp.at_ {m:List Value} (h:Kp m m' is) (i:Nat) (hi:i∈is) {v:Value} (hv:m[i]? =some v):m'[i]? =some v:=(h i hi).trans hv
variable {lz:Bool} {s:ByteArray} {Q:Exit→Act→World→Prop} {hi k lo:Int} {b c1 c2 n1 n2:Nat} {o1 o2:Option Addr} {W:World}
theorem tl3 {P:Option Addr→Nat→Nat→Int→World→Prop} (m:List Value) (hm:m.length=206) (k1:m[1]? =some (.string s)) (kb:m[6]? =some (.pointer (some ⟨b,0,none⟩)))
  (hB:Blk W b #[.int .u8 k,.slice o1 n1 c1,.int .i64 lo,.int .i64 hi,.bool lz,.slice o2 n2 c2] 27) (hc:Calls Tryz.prog 13 #[.agg #[.int .u8 k,.slice o1 n1 c1,.int .i64 lo,.int .i64 hi,.bool lz,.slice o2 n2 c2],.string s] W fun e w'=>Below W.heap.size W w'∧∃(o:Option Addr) (n c:Nat) (er:Int),e= .returned (.tuple #[.slice o n c,.int .i64 er])∧P o n c er w')
  (hQ:∀(m':List Value) (w':World) (o:Option Addr) (n c:Nat) (er:Int),m'.length=206→Kp m m' [1,2,3,4,5,6,9,10,11,12,13,14,15,16,17,18,19,20,21,22,23,24,25,26,27,28]→m'[7]? =some (.slice o n c)→m'[8]? =some (.int .i64 er)→Below W.heap.size W w'→P o n c er w'→Q .normal ⟨m'.toArray,[]⟩ w'):
  Code.wp Tryz.prog (tlC [1,1,1,0]) Q ⟨m.toArray,[]⟩ W:=by
 obtain⟨e,rfl⟩:=di hm;rw[zI k1,zI kb] at hQ ⊢;obtain⟨q0,q1,q2,q3,q4,q5,qz⟩:=zS hB;have HC:=zh hc;have HQ:=zh hQ;clear hB hc hQ k1 kb hm;conv=>arg 2;whnf
 go_wp2_with (go_at_call 13;(refine HC.out.mono ?_;rintro e2 w2 ⟨hb2,o,n,c,er,rfl,hp2⟩;have HB2:=zh hb2;have HP2:=zh hp2;clear hb2 hp2))
 refine HQ.out _ w2 o n c er rfl ?_ rfl rfl HB2.out HP2.out;intro i hi;simp only[List.mem_cons,List.not_mem_nil,or_false] at hi;rcases hi with rfl|rfl|rfl|rfl|rfl|rfl|rfl|rfl|rfl|rfl|rfl|rfl|rfl|rfl|rfl|rfl|rfl|rfl|rfl|rfl|rfl|rfl|rfl|rfl|rfl|rfl<;>rfl
theorem tl4 {P:Option Addr→Nat→Nat→Int→World→Prop} (m:List Value) (hm:m.length=206) (k1:m[1]? =some (.string s)) (kb:m[5]? =some (.pointer (some ⟨b,0,none⟩)))
  (hB:Blk W b #[.int .u8 k,.slice o1 n1 c1,.int .i64 lo,.int .i64 hi,.bool lz,.slice o2 n2 c2] 70) (hc:Calls Tryz.prog 27 #[.agg #[.int .u8 k,.slice o1 n1 c1,.int .i64 lo,.int .i64 hi,.bool lz,.slice o2 n2 c2],.string s] W fun e w'=>Below W.heap.size W w'∧∃(o:Option Addr) (n c:Nat) (er:Int),e= .returned (.tuple #[.slice o n c,.int .i64 er])∧P o n c er w')
  (hQ:∀(m':List Value) (w':World) (o:Option Addr) (n c:Nat) (er:Int),m'.length=206→Kp m m' [1,2,3,4,5,6,7,8,11,12,13,14,15,16,17,18,19,20,21,22,23,24,25,26,27,28]→m'[9]? =some (.slice o n c)→m'[10]? =some (.int .i64 er)→Below W.heap.size W w'→P o n c er w'→Q .normal ⟨m'.toArray,[]⟩ w'):
  Code.wp Tryz.prog (tlC [1,1,1,1,0]) Q ⟨m.toArray,[]⟩ W:=by
 obtain⟨e,rfl⟩:=di hm;rw[zI k1,zI kb] at hQ ⊢;obtain⟨q0,q1,q2,q3,q4,q5,qz⟩:=zS hB;have HC:=zh hc;have HQ:=zh hQ;clear hB hc hQ k1 kb hm;conv=>arg 2;whnf
 go_wp2_with (go_at_call 27;(refine HC.out.mono ?_;rintro e2 w2 ⟨hb2,o,n,c,er,rfl,hp2⟩;have HB2:=zh hb2;have HP2:=zh hp2;clear hb2 hp2))
 refine HQ.out _ w2 o n c er rfl ?_ rfl rfl HB2.out HP2.out;intro i hi;simp only[List.mem_cons,List.not_mem_nil,or_false] at hi;rcases hi with rfl|rfl|rfl|rfl|rfl|rfl|rfl|rfl|rfl|rfl|rfl|rfl|rfl|rfl|rfl|rfl|rfl|rfl|rfl|rfl|rfl|rfl|rfl|rfl|rfl|rfl<;>rfl
theorem tl9 {P:Option Addr→Nat→Nat→Bool→Int→World→Prop} (m:List Value) (hm:m.length=206) (k1:m[1]? =some (.string s)) (kb:m[6]? =some (.pointer (some ⟨b,0,none⟩)))
  (hB:Blk W b #[.int .u8 k,.slice o1 n1 c1,.int .i64 lo,.int .i64 hi,.bool lz,.slice o2 n2 c2] 27) (hc:Calls Tryz.prog 15 #[.agg #[.int .u8 k,.slice o1 n1 c1,.int .i64 lo,.int .i64 hi,.bool lz,.slice o2 n2 c2],.string s] W fun e w'=>Below W.heap.size W w'∧∃(o:Option Addr) (n c:Nat) (bb:Bool) (er:Int),e= .returned (.tuple #[.slice o n c,.bool bb,.int .i64 er])∧P o n c bb er w')
  (hQ:∀(m':List Value) (w':World) (o:Option Addr) (n c:Nat) (bb:Bool) (er:Int),m'.length=206→Kp m m' [1,2,3,4,5,6,7,8,9,10,11,12,13,14,15,16,20,21,22,23,24,25,26,27,28]→m'[17]? =some (.slice o n c)→m'[18]? =some (.bool bb)→m'[19]? =some (.int .i64 er)→Below W.heap.size W w'→P o n c bb er w'→Q .normal ⟨m'.toArray,[]⟩ w'):
  Code.wp Tryz.prog (tlC [1,1,1,1,1,1,1,1,0]) Q ⟨m.toArray,[]⟩ W:=by
 obtain⟨e,rfl⟩:=di hm;rw[zI k1,zI kb] at hQ ⊢;obtain⟨q0,q1,q2,q3,q4,q5,qz⟩:=zS hB;have HC:=zh hc;have HQ:=zh hQ;clear hB hc hQ k1 kb hm;conv=>arg 2;whnf
 go_wp2_with (go_at_call 15;(refine HC.out.mono ?_;rintro e2 w2 ⟨hb2,o,n,c,bb,er,rfl,hp2⟩;have HB2:=zh hb2;have HP2:=zh hp2;clear hb2 hp2))
 refine HQ.out _ w2 o n c bb er rfl ?_ rfl rfl rfl HB2.out HP2.out;intro i hi;simp only[List.mem_cons,List.not_mem_nil,or_false] at hi;rcases hi with rfl|rfl|rfl|rfl|rfl|rfl|rfl|rfl|rfl|rfl|rfl|rfl|rfl|rfl|rfl|rfl|rfl|rfl|rfl|rfl|rfl|rfl|rfl|rfl|rfl<;>rfl
theorem tl10 {P:Option Addr→Nat→Nat→Bool→Int→World→Prop} (m:List Value) (hm:m.length=206) (k1:m[1]? =some (.string s)) (kb:m[5]? =some (.pointer (some ⟨b,0,none⟩)))
  (hB:Blk W b #[.int .u8 k,.slice o1 n1 c1,.int .i64 lo,.int .i64 hi,.bool lz,.slice o2 n2 c2] 70) (hc:Calls Tryz.prog 30 #[.agg #[.int .u8 k,.slice o1 n1 c1,.int .i64 lo,.int .i64 hi,.bool lz,.slice o2 n2 c2],.string s] W fun e w'=>Below W.heap.size W w'∧∃(o:Option Addr) (n c:Nat) (bb:Bool) (er:Int),e= .returned (.tuple #[.slice o n c,.bool bb,.int .i64 er])∧P o n c bb er w')
  (hQ:∀(m':List Value) (w':World) (o:Option Addr) (n c:Nat) (bb:Bool) (er:Int),m'.length=206→Kp m m' [1,2,3,4,5,6,7,8,9,10,11,12,13,14,15,16,17,18,19,23,24,25,26,27,28]→m'[20]? =some (.slice o n c)→m'[21]? =some (.bool bb)→m'[22]? =some (.int .i64 er)→Below W.heap.size W w'→P o n c bb er w'→Q .normal ⟨m'.toArray,[]⟩ w'):
  Code.wp Tryz.prog (tlC [1,1,1,1,1,1,1,1,1,0]) Q ⟨m.toArray,[]⟩ W:=by
 obtain⟨e,rfl⟩:=di hm;rw[zI k1,zI kb] at hQ ⊢;obtain⟨q0,q1,q2,q3,q4,q5,qz⟩:=zS hB;have HC:=zh hc;have HQ:=zh hQ;clear hB hc hQ k1 kb hm;conv=>arg 2;whnf
 go_wp2_with (go_at_call 30;(refine HC.out.mono ?_;rintro e2 w2 ⟨hb2,o,n,c,bb,er,rfl,hp2⟩;have HB2:=zh hb2;have HP2:=zh hp2;clear hb2 hp2))
 refine HQ.out _ w2 o n c bb er rfl ?_ rfl rfl rfl HB2.out HP2.out;intro i hi;simp only[List.mem_cons,List.not_mem_nil,or_false] at hi;rcases hi with rfl|rfl|rfl|rfl|rfl|rfl|rfl|rfl|rfl|rfl|rfl|rfl|rfl|rfl|rfl|rfl|rfl|rfl|rfl|rfl|rfl|rfl|rfl|rfl|rfl<;>rfl
theorem tl13 {P:Option Addr→Nat→Nat→Int→World→Prop} (m:List Value) (hm:m.length=206) (k1:m[1]? =some (.string s)) (kb:m[6]? =some (.pointer (some ⟨b,0,none⟩)))
  (hB:Blk W b #[.int .u8 k,.slice o1 n1 c1,.int .i64 lo,.int .i64 hi,.bool lz,.slice o2 n2 c2] 27) (hc:Calls Tryz.prog 16 #[.agg #[.int .u8 k,.slice o1 n1 c1,.int .i64 lo,.int .i64 hi,.bool lz,.slice o2 n2 c2],.string s] W fun e w'=>Below W.heap.size W w'∧∃(o:Option Addr) (n c:Nat) (er:Int),e= .returned (.tuple #[.slice o n c,.int .i64 er])∧P o n c er w')
  (hQ:∀(m':List Value) (w':World) (o:Option Addr) (n c:Nat) (er:Int),m'.length=206→Kp m m' [1,2,3,4,5,6,7,9,10,11,12,13,14,15,16,17,18,19,20,21,22,24,25,26,27,28]→m'[23]? =some (.slice o n c)→m'[8]? =some (.int .i64 er)→Below W.heap.size W w'→P o n c er w'→Q .normal ⟨m'.toArray,[]⟩ w'):
  Code.wp Tryz.prog (tlC [1,1,1,1,1,1,1,1,1,1,1,0]) Q ⟨m.toArray,[]⟩ W:=by
 obtain⟨e,rfl⟩:=di hm;rw[zI k1,zI kb] at hQ ⊢;obtain⟨q0,q1,q2,q3,q4,q5,qz⟩:=zS hB;have HC:=zh hc;have HQ:=zh hQ;clear hB hc hQ k1 kb hm;conv=>arg 2;whnf
 go_wp2_with (go_at_call 16;(refine HC.out.mono ?_;rintro e2 w2 ⟨hb2,o,n,c,er,rfl,hp2⟩;have HB2:=zh hb2;have HP2:=zh hp2;clear hb2 hp2))
 refine HQ.out _ w2 o n c er rfl ?_ rfl rfl HB2.out HP2.out;intro i hi;simp only[List.mem_cons,List.not_mem_nil,or_false] at hi;rcases hi with rfl|rfl|rfl|rfl|rfl|rfl|rfl|rfl|rfl|rfl|rfl|rfl|rfl|rfl|rfl|rfl|rfl|rfl|rfl|rfl|rfl|rfl|rfl|rfl|rfl|rfl<;>rfl
theorem tl14 {P:Option Addr→Nat→Nat→Int→World→Prop} (m:List Value) (hm:m.length=206) (k1:m[1]? =some (.string s)) (kb:m[5]? =some (.pointer (some ⟨b,0,none⟩)))
  (hB:Blk W b #[.int .u8 k,.slice o1 n1 c1,.int .i64 lo,.int .i64 hi,.bool lz,.slice o2 n2 c2] 70) (hc:Calls Tryz.prog 32 #[.agg #[.int .u8 k,.slice o1 n1 c1,.int .i64 lo,.int .i64 hi,.bool lz,.slice o2 n2 c2],.string s] W fun e w'=>Below W.heap.size W w'∧∃(o:Option Addr) (n c:Nat) (er:Int),e= .returned (.tuple #[.slice o n c,.int .i64 er])∧P o n c er w')
  (hQ:∀(m':List Value) (w':World) (o:Option Addr) (n c:Nat) (er:Int),m'.length=206→Kp m m' [1,2,3,4,5,6,7,8,9,11,12,13,14,15,16,17,18,19,20,21,22,23,25,26,27,28]→m'[24]? =some (.slice o n c)→m'[10]? =some (.int .i64 er)→Below W.heap.size W w'→P o n c er w'→Q .normal ⟨m'.toArray,[]⟩ w'):
  Code.wp Tryz.prog (tlC [1,1,1,1,1,1,1,1,1,1,1,1,0]) Q ⟨m.toArray,[]⟩ W:=by
 obtain⟨e,rfl⟩:=di hm;rw[zI k1,zI kb] at hQ ⊢;obtain⟨q0,q1,q2,q3,q4,q5,qz⟩:=zS hB;have HC:=zh hc;have HQ:=zh hQ;clear hB hc hQ k1 kb hm;conv=>arg 2;whnf
 go_wp2_with (go_at_call 32;(refine HC.out.mono ?_;rintro e2 w2 ⟨hb2,o,n,c,er,rfl,hp2⟩;have HB2:=zh hb2;have HP2:=zh hp2;clear hb2 hp2))
 refine HQ.out _ w2 o n c er rfl ?_ rfl rfl HB2.out HP2.out;intro i hi;simp only[List.mem_cons,List.not_mem_nil,or_false] at hi;rcases hi with rfl|rfl|rfl|rfl|rfl|rfl|rfl|rfl|rfl|rfl|rfl|rfl|rfl|rfl|rfl|rfl|rfl|rfl|rfl|rfl|rfl|rfl|rfl|rfl|rfl|rfl<;>rfl
theorem tl15 {P:Int→Int→World→Prop} (m:List Value) (hm:m.length=206) (k1:m[1]? =some (.string s)) (kb:m[6]? =some (.pointer (some ⟨b,0,none⟩)))
  (hB:Blk W b #[.int .u8 k,.slice o1 n1 c1,.int .i64 lo,.int .i64 hi,.bool lz,.slice o2 n2 c2] 27) (hc:Calls Tryz.prog 17 #[.agg #[.int .u8 k,.slice o1 n1 c1,.int .i64 lo,.int .i64 hi,.bool lz,.slice o2 n2 c2],.string s] W fun e w'=>Below W.heap.size W w'∧∃(z er:Int),e= .returned (.tuple #[.int .i64 z,.int .i64 er])∧P z er w')
  (hQ:∀(m':List Value) (w':World) (z er:Int),m'.length=206→Kp m m' [1,2,3,4,5,6,7,8,9,10,11,12,14,15,16,17,18,19,20,21,22,23,24,26,27,28]→m'[25]? =some (.int .i64 z)→m'[13]? =some (.int .i64 er)→Below W.heap.size W w'→P z er w'→Q .normal ⟨m'.toArray,[]⟩ w'):
  Code.wp Tryz.prog (tlC [1,1,1,1,1,1,1,1,1,1,1,1,1,0]) Q ⟨m.toArray,[]⟩ W:=by
 obtain⟨e,rfl⟩:=di hm;rw[zI k1,zI kb] at hQ ⊢;obtain⟨q0,q1,q2,q3,q4,q5,qz⟩:=zS hB;have HC:=zh hc;have HQ:=zh hQ;clear hB hc hQ k1 kb hm;conv=>arg 2;whnf
 go_wp2_with (go_at_call 17;(refine HC.out.mono ?_;rintro e2 w2 ⟨hb2,z,er,rfl,hp2⟩;have HB2:=zh hb2;have HP2:=zh hp2;clear hb2 hp2))
 refine HQ.out _ w2 z er rfl ?_ rfl rfl HB2.out HP2.out;intro i hi;simp only[List.mem_cons,List.not_mem_nil,or_false] at hi;rcases hi with rfl|rfl|rfl|rfl|rfl|rfl|rfl|rfl|rfl|rfl|rfl|rfl|rfl|rfl|rfl|rfl|rfl|rfl|rfl|rfl|rfl|rfl|rfl|rfl|rfl|rfl<;>rfl
theorem tl16 {P:Int→Int→World→Prop} (m:List Value) (hm:m.length=206) (k1:m[1]? =some (.string s)) (kb:m[5]? =some (.pointer (some ⟨b,0,none⟩)))
  (hB:Blk W b #[.int .u8 k,.slice o1 n1 c1,.int .i64 lo,.int .i64 hi,.bool lz,.slice o2 n2 c2] 70) (hc:Calls Tryz.prog 33 #[.agg #[.int .u8 k,.slice o1 n1 c1,.int .i64 lo,.int .i64 hi,.bool lz,.slice o2 n2 c2],.string s] W fun e w'=>Below W.heap.size W w'∧∃(z er:Int),e= .returned (.tuple #[.int .i64 z,.int .i64 er])∧P z er w')
  (hQ:∀(m':List Value) (w':World) (z er:Int),m'.length=206→Kp m m' [1,2,3,4,5,6,7,8,9,10,11,12,13,14,15,17,18,19,20,21,22,23,24,25,27,28]→m'[26]? =some (.int .i64 z)→m'[16]? =some (.int .i64 er)→Below W.heap.size W w'→P z er w'→Q .normal ⟨m'.toArray,[]⟩ w'):
  Code.wp Tryz.prog (tlC [1,1,1,1,1,1,1,1,1,1,1,1,1,1,0]) Q ⟨m.toArray,[]⟩ W:=by
 obtain⟨e,rfl⟩:=di hm;rw[zI k1,zI kb] at hQ ⊢;obtain⟨q0,q1,q2,q3,q4,q5,qz⟩:=zS hB;have HC:=zh hc;have HQ:=zh hQ;clear hB hc hQ k1 kb hm;conv=>arg 2;whnf
 go_wp2_with (go_at_call 33;(refine HC.out.mono ?_;rintro e2 w2 ⟨hb2,z,er,rfl,hp2⟩;have HB2:=zh hb2;have HP2:=zh hp2;clear hb2 hp2))
 refine HQ.out _ w2 z er rfl ?_ rfl rfl HB2.out HP2.out;intro i hi;simp only[List.mem_cons,List.not_mem_nil,or_false] at hi;rcases hi with rfl|rfl|rfl|rfl|rfl|rfl|rfl|rfl|rfl|rfl|rfl|rfl|rfl|rfl|rfl|rfl|rfl|rfl|rfl|rfl|rfl|rfl|rfl|rfl|rfl|rfl<;>rfl
end Go.Proofs.YtnhjakdmbfadlaaGreatDoor
