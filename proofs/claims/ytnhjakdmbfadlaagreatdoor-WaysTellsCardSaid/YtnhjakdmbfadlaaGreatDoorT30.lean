/- Parts of the proof. Conditions: none. -/
import Derived.Test.YtnhjakdmbfadlaaGreatDoorT25
import Derived.Test.YtnhjakdmbfadlaaGreatDoorT28
import Derived.Test.YtnhjakdmbfadlaaGreatDoorT14
import Derived.Test.YtnhjakdmbfadlaaGreatDoorT00
set_option linter.all false
set_option maxHeartbeats 8000000
set_option maxRecDepth 100000
namespace Go.Proofs.YtnhjakdmbfadlaaGreatDoor
open Go.RowKit Wy Mem Grow
variable {bb lz:Bool} {s:ByteArray} {Q:Exit→Act→World→Prop} {er er2 er3 hi k lo st z:Int} {b b11 b14 c1 c2 ca cb cd n1 n2 na nb nd:Nat} {o1 o2 oa ob od:Option Addr} {W:World}
theorem tl7 {P:Int→Option Addr→Nat→Nat→Bool→Int→World→Prop} (m:List Value) (hm:m.length=206) (k1:m[1]? =some (.string s)) (kb:m[6]? =some (.pointer (some ⟨b,0,none⟩)))
  (hB:Blk W b #[.int .u8 k,.slice o1 n1 c1,.int .i64 lo,.int .i64 hi,.bool lz,.slice o2 n2 c2] 27) (hc:Calls Tryz.prog 14 #[.agg #[.int .u8 k,.slice o1 n1 c1,.int .i64 lo,.int .i64 hi,.bool lz,.slice o2 n2 c2],.string s] W fun e w'=>Below W.heap.size W w'∧∃(st:Int) (o:Option Addr) (n c:Nat) (bb:Bool) (er:Int),e= .returned (.tuple #[.agg #[.int .i64 st,.slice o n c],.bool bb,.int .i64 er])∧P st o n c bb er w')
  (hQ:∀(m':List Value) (w' w3:World) (st:Int) (o:Option Addr) (n c:Nat) (bb:Bool) (er:Int),m'.length=206→Kp m m' [1,2,3,4,5,6,7,8,9,10,14,15,16,17,18,19,20,21,22,23,24,25,26,27,28]→m'[11]? =some (.pointer (some ⟨w'.heap.size,0,none⟩))→m'[12]? =some (.bool bb)→m'[13]? =some (.int .i64 er)→Below W.heap.size W w'→P st o n c bb er w'→Below w'.heap.size w' w3→Blk w3 w'.heap.size #[.int .i64 st,.slice o n c] 43→Q .normal ⟨m'.toArray,[]⟩ w3):
  Code.wp Tryz.prog (tlC [1,1,1,1,1,1,0]) Q ⟨m.toArray,[]⟩ W:=by
 obtain⟨e,rfl⟩:=di hm;rw[zI k1,zI kb] at hQ ⊢;obtain⟨q0,q1,q2,q3,q4,q5,qz⟩:=zS hB;have HC:=zh hc;have HQ:=zh hQ;clear hB hc hQ k1 kb hm;conv=>arg 2;whnf
 go_wp2_with (go_at_call 14;(refine HC.out.mono ?_;rintro e2 w2 ⟨hb2,st,o,n,c,bb,er,rfl,hp2⟩;have HB2:=zh hb2;have HP2:=zh hp2;clear hb2 hp2))
 refine HQ.out _ w2 _ st o n c bb er rfl ?_ rfl rfl rfl HB2.out HP2.out ((Below.refl w2.heap.size w2).alloc zL _) (Blk.new w2 _ _);intro i hi;simp only[List.mem_cons,List.not_mem_nil,or_false] at hi;rcases hi with rfl|rfl|rfl|rfl|rfl|rfl|rfl|rfl|rfl|rfl|rfl|rfl|rfl|rfl|rfl|rfl|rfl|rfl|rfl|rfl|rfl|rfl|rfl|rfl|rfl<;>rfl
theorem tl8 {P:Int→Option Addr→Nat→Nat→Bool→Int→World→Prop} (m:List Value) (hm:m.length=206) (k1:m[1]? =some (.string s)) (kb:m[5]? =some (.pointer (some ⟨b,0,none⟩)))
  (hB:Blk W b #[.int .u8 k,.slice o1 n1 c1,.int .i64 lo,.int .i64 hi,.bool lz,.slice o2 n2 c2] 70) (hc:Calls Tryz.prog 29 #[.agg #[.int .u8 k,.slice o1 n1 c1,.int .i64 lo,.int .i64 hi,.bool lz,.slice o2 n2 c2],.string s] W fun e w'=>Below W.heap.size W w'∧∃(st:Int) (o:Option Addr) (n c:Nat) (bb:Bool) (er:Int),e= .returned (.tuple #[.agg #[.int .i64 st,.slice o n c],.bool bb,.int .i64 er])∧P st o n c bb er w')
  (hQ:∀(m':List Value) (w' w3:World) (st:Int) (o:Option Addr) (n c:Nat) (bb:Bool) (er:Int),m'.length=206→Kp m m' [1,2,3,4,5,6,7,8,9,10,11,12,13,17,18,19,20,21,22,23,24,25,26,27,28]→m'[14]? =some (.pointer (some ⟨w'.heap.size,0,none⟩))→m'[15]? =some (.bool bb)→m'[16]? =some (.int .i64 er)→Below W.heap.size W w'→P st o n c bb er w'→Below w'.heap.size w' w3→Blk w3 w'.heap.size #[.int .i64 st,.slice o n c] 79→Q .normal ⟨m'.toArray,[]⟩ w3):
  Code.wp Tryz.prog (tlC [1,1,1,1,1,1,1,0]) Q ⟨m.toArray,[]⟩ W:=by
 obtain⟨e,rfl⟩:=di hm;rw[zI k1,zI kb] at hQ ⊢;obtain⟨q0,q1,q2,q3,q4,q5,qz⟩:=zS hB;have HC:=zh hc;have HQ:=zh hQ;clear hB hc hQ k1 kb hm;conv=>arg 2;whnf
 go_wp2_with (go_at_call 29;(refine HC.out.mono ?_;rintro e2 w2 ⟨hb2,st,o,n,c,bb,er,rfl,hp2⟩;have HB2:=zh hb2;have HP2:=zh hp2;clear hb2 hp2))
 refine HQ.out _ w2 _ st o n c bb er rfl ?_ rfl rfl rfl HB2.out HP2.out ((Below.refl w2.heap.size w2).alloc zL _) (Blk.new w2 _ _);intro i hi;simp only[List.mem_cons,List.not_mem_nil,or_false] at hi;rcases hi with rfl|rfl|rfl|rfl|rfl|rfl|rfl|rfl|rfl|rfl|rfl|rfl|rfl|rfl|rfl|rfl|rfl|rfl|rfl|rfl|rfl|rfl|rfl|rfl|rfl<;>rfl
theorem tl5 (m:List Value) (hm:m.length=206) (k7:m[7]? =some (.slice oa na ca)) (k8:m[8]? =some (.int .i64 er)) (k9:m[9]? =some (.slice ob nb cb)) (k10:m[10]? =some (.int .i64 er))
  (hc:Calls Tryz.prog 28 #[.slice oa na ca,.slice ob nb cb] W fun e w'=>e= .returned (.bool true)∧Below W.heap.size W w')
  (hQ:∀(m':List Value) (w':World),m'.length=206→Kp m m' [1,2,3,4,5,6,7,8,9,10,11,12,13,14,15,16,17,18,19,20,21,22,23,24,25,26,27,28]→Below W.heap.size W w'→Q .normal ⟨m'.toArray,[]⟩ w'):
  Code.wp Tryz.prog (tlC [1,1,1,1,1,0]) Q ⟨m.toArray,[]⟩ W:=by
 obtain⟨e,rfl⟩:=di hm;rw[zI k7,zI k8,zI k9,zI k10] at hQ ⊢;have HC:=zh hc;have HQ:=zh hQ;clear hc hQ k7 k8 k9 k10 hm;conv=>arg 2;whnf
 go_wp2_with (go_at_call 28;(refine HC.out.mono ?_;rintro e2 w2 ⟨rfl,hb2⟩;have HB2:=zh hb2;clear hb2))
 refine HQ.out _ _ rfl ?_ HB2.out;intro i hi;simp only[List.mem_cons,List.not_mem_nil,or_false] at hi;rcases hi with rfl|rfl|rfl|rfl|rfl|rfl|rfl|rfl|rfl|rfl|rfl|rfl|rfl|rfl|rfl|rfl|rfl|rfl|rfl|rfl|rfl|rfl|rfl|rfl|rfl|rfl|rfl|rfl<;>rfl
theorem tl11 {cc:Bool} {oc:Option Addr} {nc c3:Nat} (m:List Value) (hm:m.length=206) (k11:m[11]? =some (.pointer (some ⟨b11,0,none⟩))) (k12:m[12]? =some (.bool bb)) (k13:m[13]? =some (.int .i64 er2)) (k14:m[14]? =some (.pointer (some ⟨b14,0,none⟩))) (k15:m[15]? =some (.bool bb)) (k16:m[16]? =some (.int .i64 er2))
  (k17:m[17]? =some (.slice oc nc c3)) (k18:m[18]? =some (.bool cc)) (k19:m[19]? =some (.int .i64 er3)) (k20:m[20]? =some (.slice od nd cd)) (k21:m[21]? =some (.bool cc)) (k22:m[22]? =some (.int .i64 er3))
  (hB1:Blk W b11 #[.int .i64 st,.slice oa na ca] 43) (hB2:Blk W b14 #[.int .i64 st,.slice ob nb cb] 79)
  (hc1:Calls Tryz.prog 31 #[.slice oa na ca,.slice ob nb cb] W fun e w'=>e= .returned (.bool true)∧Below W.heap.size W w')
  (hc2:∀w1,Below W.heap.size W w1→Calls Tryz.prog 31 #[.slice oc nc c3,.slice od nd cd] w1 fun e w'=>e= .returned (.bool true)∧Below w1.heap.size w1 w')
  (hQ:∀(m':List Value) (w':World),m'.length=206→Kp m m' [1,2,3,4,5,6,7,8,9,10,11,12,13,14,15,16,17,18,19,20,21,22,23,24,25,26,27,28]→Below W.heap.size W w'→Q .normal ⟨m'.toArray,[]⟩ w'):
  Code.wp Tryz.prog (tlC [1,1,1,1,1,1,1,1,1,1,0]) Q ⟨m.toArray,[]⟩ W:=by
 obtain⟨e,rfl⟩:=di hm;rw[zI k11,zI k12,zI k13,zI k14,zI k15,zI k16,zI k17,zI k18,zI k19,zI k20,zI k21,zI k22] at hQ ⊢;have q0:=hB1.cell 0;have q1:=hB1.cell 1;have qz:=hB1.lt;have r0:=hB2.cell 0;have r1:=hB2.cell 1;have rz:=hB2.lt;have HC1:=zh hc1;have HC2:=zh hc2;have HQ:=zh hQ;clear hB1 hB2 hc1 hc2 hQ k11 k12 k13 k14 k15 k16 k17 k18 k19 k20 k21 k22 hm;conv=>arg 2;whnf
 go_wp2_with (first|(go_at_call 31;(refine(HC2.out _ HB2.out).mono ?_;rintro e3 w3 ⟨rfl,hb3⟩;have HB3:=zh (HB2.out.trans (hb3.mono HB2.out.size));clear hb3))|(go_at_call 31;(refine HC1.out.mono ?_;rintro e2 w2 ⟨rfl,hb2⟩;have HB2:=zh hb2;clear hb2)))
 refine HQ.out _ _ rfl ?_ HB3.out;intro i hi;simp only[List.mem_cons,List.not_mem_nil,or_false] at hi;rcases hi with rfl|rfl|rfl|rfl|rfl|rfl|rfl|rfl|rfl|rfl|rfl|rfl|rfl|rfl|rfl|rfl|rfl|rfl|rfl|rfl|rfl|rfl|rfl|rfl|rfl|rfl|rfl|rfl<;>rfl
theorem tl17 (m:List Value) (hm:m.length=206) (k23:m[23]? =some (.slice oa na ca)) (k24:m[24]? =some (.slice ob nb cb)) (k8:m[8]? =some (.int .i64 er)) (k10:m[10]? =some (.int .i64 er)) (k25:m[25]? =some (.int .i64 z)) (k26:m[26]? =some (.int .i64 z)) (k13:m[13]? =some (.int .i64 er2)) (k16:m[16]? =some (.int .i64 er2))
  (hc:Calls Tryz.prog 34 #[.slice oa na ca,.slice ob nb cb] W fun e w'=>e= .returned (.bool true)∧Below W.heap.size W w')
  (hQ:∀(m':List Value) (w':World),m'.length=206→Kp m m' [1,2,3,4,5,6,7,8,9,10,11,12,13,14,15,16,17,18,19,20,21,22,23,24,25,26,27,28]→Below W.heap.size W w'→Q .normal ⟨m'.toArray,[]⟩ w'):
  Code.wp Tryz.prog (tlC [1,1,1,1,1,1,1,1,1,1,1,1,1,1,1,0]) Q ⟨m.toArray,[]⟩ W:=by
 obtain⟨e,rfl⟩:=di hm;rw[zI k23,zI k24,zI k8,zI k10,zI k25,zI k26,zI k13,zI k16] at hQ ⊢;have HC:=zh hc;have HQ:=zh hQ;clear hc hQ k23 k24 k8 k10 k25 k26 k13 k16 hm;conv=>arg 2;whnf
 go_wp2_with (go_at_call 34;(refine HC.out.mono ?_;rintro e2 w2 ⟨rfl,hb2⟩;have HB2:=zh hb2;clear hb2))
 refine HQ.out _ _ rfl ?_ HB2.out;intro i hi;simp only[List.mem_cons,List.not_mem_nil,or_false] at hi;rcases hi with rfl|rfl|rfl|rfl|rfl|rfl|rfl|rfl|rfl|rfl|rfl|rfl|rfl|rfl|rfl|rfl|rfl|rfl|rfl|rfl|rfl|rfl|rfl|rfl|rfl|rfl|rfl|rfl<;>rfl
end Go.Proofs.YtnhjakdmbfadlaaGreatDoor
