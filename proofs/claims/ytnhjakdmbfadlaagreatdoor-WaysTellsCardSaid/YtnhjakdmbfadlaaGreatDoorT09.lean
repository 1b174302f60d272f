/- Parts of the proof. Conditions: none. -/
import Derived.Test.YtnhjakdmbfadlaaGreatDoorT08
import Derived.Test.YtnhjakdmbfadlaaGreatDoorT06
import Derived.Laws.MakeOwn
import Derived.Laws.CopyRow
import Derived.Test.YtnhjakdmbfadlaaGreatDoorT03
import Derived.RegionTactic
import Derived.BigRegion
import Derived.ChangeAlike
import Derived.Test.YtnhjakdmbfadlaaGreatDoorT00
import Derived.Test.YtnhjakdmbfadlaaGreatDoorT04
import Derived.Test.YtnhjakdmbfadlaaGreatDoorT02
import Derived.Test.YtnhjakdmbfadlaaGreatDoorT01
import Derived.Deep.DeepCutAuto
import Derived.Deep.CutRange
set_option linter.all false
set_option maxHeartbeats 8000000
set_option maxRecDepth 100000
namespace Go.Proofs.YtnhjakdmbfadlaaGreatDoor
open Go.RowKit Wy Mem Grow
variable {b c:Nat} {P:Program} {w:World}
theorem kK (w:World) (dT sT ty elem:TypeId) (g o dLen dCap sz:Nat) (a:Addr) (sLen sCap:Nat) (cur:Array Value) (t:TypeId) (cs:List Value)
  (hu:P.underlying dT=some (.slice elem)) (hs:(P.info? elem).map (·.size)=some sz)
  (hg:w.heap[g]? =some (.cells cur t (0,0))) (hn:cs.length=Nat.min sLen dLen*sz)
  (hsrc:∀j v,cs[j]? =some v→w.cell? (a.add j)=some v) (hfit:o+cs.length≤cur.size) (h1:∀v∈cs,v.oneCell'=true):
  (Builtin.copy_ #[dT,sT] ty #[.slice (some ⟨g,o,none⟩) dLen dCap,.slice (some a) sLen sCap]).run P w=
   .ok (goInt (Nat.min sLen dLen)) (w.setRow g (cur.toList.take o++cs++cur.toList.drop (o+cs.length)).toArray):=by
 have hl:=run_loadCells_list (P:=P) w a cs hsrc;have hst:=run_storeCells_at P g o t cs 0 cur w hg (by simpa using hfit) h1;cases hq:P.info? elem with
 |none=>simp[hq] at hs
 |some i=>
  have hi:i.size=sz:=by simpa [hq] using hs
  simp[Builtin.copy_,run_underlying hu,Builtin.lenOf,Builtin.firstCells,sizeOf,typeInfo,hq,hi,←hn,hl,hst]
theorem xR:∀k:Nat,(List.replicate k ((-1:Int),(-1:Int))).flatMap bP=List.replicate (k*2) (Value.int .i64 (-1))
 |0=>rfl
 |k+1=>by
  rw[List.replicate_succ,List.flatMap_cons,xR k,show(k+1)*2=k*2+1+1 by omega,List.replicate_succ,List.replicate_succ]
  rfl
def Rpt (G:Nat) (w:World) (e:Ending) (w':World):Prop:=∃v',e= .returned v'∧w'.ownsRow w.heap.size 57 2 v' G ((List.replicate G (-1,-1)).flatMap bP)∧Below w.heap.size w w'
theorem CZ (hb:b<w.heap.size) (h0:w.cell? ⟨b,0,none⟩=some (.int .i64 (-1))) (h1:w.cell? ⟨b,1,none⟩=some (.int .i64 (-1))) (G:Nat) (hG:G≤64):
  Calls Tryz.prog 88 #[.slice (some ⟨b,0,none⟩) 1 c,.int .i64 G] w (Rpt G w):=by
 have hm:=Tryz.bits_Mul 1 G (by omega) (by omega) w;have e1:1*G/18446744073709551616=0:=(by omega);have e2:1*G%18446744073709551616=G:=(by omega);rw[e1,e2] at hm;have HM:=zh hm;obtain⟨i0,hi,hz0,hz1,hz2⟩:=info_parts Ij;have hmk:=fun w=>run_make (P:=Tryz.prog) w 41 57 i0 _ Tryz.underlying41 hi hz0 .i64 .i64 (G:Int) (G:Int) (by omega) (by omega) (by rw[hz2];omega) (by omega)
 rw[hz1] at hmk;simp only[Int.toNat_natCast] at hmk;have hGi:(G:Int)≤64:=(by omega);have hG0:(0:Int)≤(G:Int):=(by omega);clear hm e1 e2;go_enter Tryz.func88,Tryz.ntmps88
 go_wp2_with fail
 refine HM.out.mono ?_;rintro e w1 ⟨rfl,rfl⟩;by_cases hG1:0<G
 ·have vK:(w1.alloc (.cells (madeCells #[.int .i64 0,.int .i64 0] (G*2)) 57)).heap[w1.heap.size]? =some (.cells (madeCells #[.int .i64 0,.int .i64 0] (G*2)) 57 (0,0)):=heap_alloc_new w1 _;obtain⟨W5,hcp,cur,c1,c2,c3,c4,c5⟩:∃W5,(∀ty,(Builtin.copy_ #[41,41] ty #[.slice (some ⟨w1.heap.size,0,none⟩) G G,.slice (some ⟨b,0,none⟩) 1 c]).run Tryz.prog (w1.alloc (.cells (madeCells #[.int .i64 0,.int .i64 0] (G*2)) 57))= .ok (.int .i64 1) W5)∧
    ∃cur:Array Value,W5.heap[w1.heap.size]? =some (.cells cur 57 (0,0))∧cur.size=G*2∧cur.toList.take (1*2)=List.replicate (1*2) (.int .i64 (-1))∧Below w1.heap.size w1 W5∧W5.heap.size=w1.heap.size+1:=by
   have hb0:Below w1.heap.size w1 (w1.alloc (.cells (madeCells #[.int .i64 0,.int .i64 0] (G*2)) 57)):=zR.alloc zL _;refine⟨_,fun ty=>(kK (P:=Tryz.prog) _ _ _ ty 57 w1.heap.size 0 G G 2 ⟨b,0,none⟩ 1 c _ 57 [.int .i64 (-1),.int .i64 (-1)] Tryz.underlying41 (by rw[hi];simp[hz1]) vK (by rw[show Nat.min 1 G=1 from Nat.min_eq_left (by omega)];rfl) ?_ ?_ ?_).trans (by rw[show Nat.min 1 G=1 from Nat.min_eq_left (by omega)];rfl),_,setRow_heap _ _ _ _ 57 _ vK,?_,?_,?_,?_⟩
   ·intro j v hv
    match j with
    |0=>simp at hv;subst hv;simpa [Addr.add] using (hb0.cell (p:=⟨b,0,none⟩) hb).trans h0
    |1=>simp at hv;subst hv;simpa [Addr.add] using (hb0.cell (p:=⟨b,1,none⟩) hb).trans h1
    |j+2=>simp at hv
   ·rw[size_madeCells];simp;omega
   ·simp[Value.oneCell']
   ·simp[size_madeCells];omega
   ·simp
   ·exact⟨hb0.os,hb0.tape,hb0.output,by simp,fun k hk=>by rw[setRow_other _ _ _ _ (by omega)];exact hb0.block k hk⟩
   ·simp
  have HC1:=zh c1;have HC2:=zh c2;have HC3:=zh c3;have HC4:=zh c4;have HC5:=zh c5;clear c1 c2 c3 c4 c5 vK
  go_wp2_with fail
  go_loopw [8] (fun i wr=>∃k:Nat,1≤k∧k≤G∧i= .int .i64 k∧(∃cur:Array Value,wr.heap[w1.heap.size]? =some (.cells cur 57 (0,0))∧cur.size=G*2∧cur.toList.take (k*2)=List.replicate (k*2) (.int .i64 (-1)))∧Kept (fun i=>i=w1.heap.size) W5 wr) (fun i _=>G-(intOf i).toNat)
  case atStart=>exact⟨1,by omega,by omega,rfl,⟨cur,HC1.out,HC2.out,HC3.out⟩,Kept.refl _ _⟩
  case round=>
   obtain⟨k,hk1,hkG,rfl,⟨cur,c1,c2,c3⟩,hkr⟩:=hrel;by_cases hlt:k<G
   ·have hltI:(k:Int)<G:=by omega
    go_wp2_with fail
    obtain⟨m,hm⟩:∃m,Nat.min k (G-k)=m:=⟨_,rfl⟩;have hm1:1≤m∧m≤k∧k+m≤G:=by
     have hm':m=min k (G-k):=hm.symm;exact⟨by omega,by omega,by omega⟩
    obtain⟨hma,hmb,hmc⟩:=hm1;have hmI:(m:Int)≤64:=(by omega);have hmJ:(0:Int)≤(m:Int):=(by omega);have HM2:=zh hm;have hcp2:∀W1,Below wr.heap.size wr W1→∃W6,(∀ty,(Builtin.copy_ #[41,41] ty #[.slice (some ⟨w1.heap.size,k*2,none⟩) (G-k) (G-k),.slice (some ⟨w1.heap.size,0,none⟩) k G]).run Tryz.prog W1= .ok (.int .i64 m) W6)∧
      (∃cur:Array Value,W6.heap[w1.heap.size]? =some (.cells cur 57 (0,0))∧cur.size=G*2∧cur.toList.take ((k+m)*2)=List.replicate ((k+m)*2) (.int .i64 (-1)))∧Kept (fun i=>i=w1.heap.size) wr W6:=by
     intro W1 hW;have hgz:w1.heap.size<wr.heap.size:=(Array.getElem?_eq_some_iff.1 c1).1;have vK:W1.heap[w1.heap.size]? =some (.cells cur 57 (0,0)):=(hW.block _ hgz).trans c1;have hlen:(List.replicate (m*2) (Value.int .i64 (-1))).length=m*2:=List.length_replicate ..;have hk2:k*2≤cur.toList.length:=by rw[Array.length_toList,c2];omega
     have hcl:cur.toList.length=G*2:=by rw[Array.length_toList,c2]
     refine⟨_,fun ty=>(kK (P:=Tryz.prog) W1 _ _ ty 57 w1.heap.size (k*2) (G-k) (G-k) 2 ⟨w1.heap.size,0,none⟩ k G cur 57 (List.replicate (m*2) (.int .i64 (-1))) Tryz.underlying41 (by rw[hi];simp[hz1]) vK (by rw[hm,hlen]) ?_ (by rw[hlen,c2];omega) (by intro u hu;rw[List.eq_of_mem_replicate hu];rfl)).trans (by rw[hm];rfl),⟨_,setRow_heap _ _ _ _ 57 _ vK,?_,?_⟩,?_⟩
     ·intro j v hv;have hj:j<m*2:=by
       by_cases e:j<m*2
       ·exact e
       ·rw[List.getElem?_eq_none (by rw[hlen];omega)] at hv;cases hv
      rw[List.getElem?_replicate_of_lt hj] at hv;cases hv;have e1:cur.toList[j]? =some (.int .i64 (-1)):=by
       have:(cur.toList.take (k*2))[j]? =some (.int .i64 (-1)):=by rw[c3,List.getElem?_replicate_of_lt (by omega)]
       rwa [List.getElem?_take_of_lt (by omega)] at this
      have e2:W1.cell? ⟨w1.heap.size,j,none⟩=some (.int .i64 (-1)):=by
       simp only[World.cell?,vK]
       simpa using e1
      by_cases e:j=0
      ·subst e;simpa [Addr.add] using e2
      ·simpa [Addr.add,e] using e2
     ·simp[hcl];omega
     ·have e3:(cur.toList.take (k*2)).length=k*2:=by rw[List.length_take];omega
      rw[List.append_assoc,List.take_append,e3,c3,List.take_append,hlen];rw[List.take_of_length_le (by rw[List.length_replicate];omega),List.take_of_length_le (by rw[hlen];omega)];rw[show(k+m)*2-k*2-m*2=0 by omega,List.take_zero,List.append_nil,List.replicate_append_replicate];congr 1;omega
     ·exact⟨hW.os,hW.tape,hW.output,by simp;exact hW.size,fun i hi hne=>by rw[setRow_other _ _ _ _ hne];exact hW.block i hi⟩
    have HCP:=zh hcp2;have hgk:((G:Int)-(k:Int)).toNat=G-k:=(by omega);have hkle:(k:Int)≤(G:Int):=(by omega);clear hcp2 hm;obtain⟨W6,hrun,hpost⟩:=HCP.out wr.drew zR.drew;have Ox:=zh hpost;clear hpost
    go_region
    go_wp2
    exact⟨⟨k+m,by omega,by omega,by go_num,Ox.out.1,hkr.trans Ox.out.2⟩,by simp[intOf];omega⟩
   ·obtain rfl:k=G:=(by omega);have hrow:wr.ownsRow w1.heap.size 57 2 (.slice (some ⟨w1.heap.size,0,none⟩) k k) k ((List.replicate k (-1,-1)).flatMap bP):=by
     rw[xR];exact⟨by simp,.inr ⟨w1.heap.size,k,cur,rfl,Nat.le_refl _,c1,Nat.le_refl _,by unfold maxLen;omega,c2,c3⟩⟩
    have dQ:=zh hrow;have hbl:=(HC4.out.trans (hkr.gK (by have:=HC5.out;omega) (fun i hi e=>by omega)));clear hrow c1 c2 c3
    go_wp2
    go_ret
    exact⟨_,rfl,dQ.out,hbl⟩
 ·obtain rfl:G=0:=(by omega);have O4:∀w,(Instr.makeSlice 41 (.int .i64 0) (.int .i64 0)).run Tryz.prog w= .ok (.slice (some ⟨w.heap.size,0,none⟩) 0 0) (w.alloc (.cells (madeCells #[.int .i64 0,.int .i64 0] 0) 57)):=hmk;have vK:(w1.alloc (.cells (madeCells #[.int .i64 0,.int .i64 0] 0) 57)).heap[w1.heap.size]? =some (.cells (madeCells #[.int .i64 0,.int .i64 0] 0) 57 (0,0)):=heap_alloc_new w1 _;obtain⟨W5,hcp,cur,c1,c2,c4⟩:∃W5,(∀ty,(Builtin.copy_ #[41,41] ty #[.slice (some ⟨w1.heap.size,0,none⟩) 0 0,.slice (some ⟨b,0,none⟩) 1 c]).run Tryz.prog (w1.alloc (.cells (madeCells #[.int .i64 0,.int .i64 0] 0) 57))= .ok (.int .i64 0) W5)∧
    ∃cur:Array Value,W5.heap[w1.heap.size]? =some (.cells cur 57 (0,0))∧cur.size=0∧Below w1.heap.size w1 W5:=by
   have hb0:Below w1.heap.size w1 (w1.alloc (.cells (madeCells #[.int .i64 0,.int .i64 0] 0) 57)):=zR.alloc zL _;refine⟨_,fun ty=>(kK (P:=Tryz.prog) _ _ _ ty 57 w1.heap.size 0 0 0 2 ⟨b,0,none⟩ 1 c _ 57 [] Tryz.underlying41 (by rw[hi];simp[hz1]) vK (by simp) (by simp) (by simp) (by simp)).trans rfl,_,setRow_heap _ _ _ _ 57 _ vK,by simp[size_madeCells],?_⟩;exact⟨hb0.os,hb0.tape,hb0.output,by simp,fun k hk=>by rw[setRow_other _ _ _ _ (by omega)];exact hb0.block k hk⟩
  have hrow:W5.ownsRow w1.heap.size 57 2 (.slice (some ⟨w1.heap.size,0,none⟩) 0 0) 0 []:=⟨by simp,.inr ⟨w1.heap.size,0,cur,rfl,Nat.le_refl _,c1,Nat.le_refl _,by unfold maxLen;omega,by simpa using c2,by simp⟩⟩;have dQ:=zh hrow;have HC4:=zh c4;clear c1 c2 c4 hrow vK
  go_wp2_with fail
  go_rounds 1
  all_goals go_wp2
  go_ret
  exact⟨_,rfl,dQ.out,HC4.out⟩
variable {place:Int} {xs1:List Value} {G b1 m n1 s1:Nat} {e1:TypeId} {v v1:Value}
theorem ay (h:w.ownsRow b1 e1 s1 v1 n1 xs1):∃ob c,v1= .slice ob n1 c:=by
 rcases h.2 with⟨rfl,rfl⟩|⟨g,cap,cur,rfl,_⟩<;>exact⟨_,_,rfl⟩
def Stl (place:Int) (G:Nat) (w:World) (e:Ending) (w':World):Prop:=
 ∃v',e= .returned (.agg #[.int .i64 place,v'])∧w'.ownsRow w.heap.size 57 2 v' G ((List.replicate G (-1,-1)).flatMap bP)∧Below w.heap.size w w'
def Q4 (w W:World) (place:Int) (G:Nat):List Value→World→Prop
 |[]=>fun w'=>w'=W.drew
 |[v]=>fun w'=>v= .slice (some ⟨W.heap.size,0,none⟩) 1 1∧Below W.heap.size W w'∧Blk w' W.heap.size #[.int .i64 (-1),.int .i64 (-1)] 57
 |[_,v]=>fun w'=>Below W.heap.size W w'∧w'.ownsRow W.heap.size 57 2 v G ((List.replicate G (-1,-1)).flatMap bP)
 |[_,v,_]=>fun w'=>Below w.heap.size w w'∧Blk w' w.heap.size #[.int .i64 place,v] 43∧w'.ownsRow W.heap.size 57 2 v G ((List.replicate G (-1,-1)).flatMap bP)
 |_=>fun _=>False
theorem oq {s:Value} {p:Int} (hm:Blk w m #[s,.int .i64 G,.int .i64 p,v] 105) (hno:bu w) (hG:G≤64):
  Calls Tryz.prog 66 #[.pointer (some ⟨m,0,none⟩),.int .i64 place] w (Stl place G w):=by
 have hrp:∀(w':World) (b:Nat),b<w'.heap.size→w'.cell? ⟨b,0,none⟩=some (.int .i64 (-1))→w'.cell? ⟨b,1,none⟩=some (.int .i64 (-1))→∀c,Calls Tryz.prog 88 #[.slice (some ⟨b,0,none⟩) 1 c,.int .i64 G] w' (Rpt G w'):=fun w' b hb h0 h1 c=>CZ hb h0 h1 G hG
 have HRP:=zh hrp;have HM:=zh hm;have HNO:=zh hno;have mz:=hm.lt;clear hrp hm hno;go_enter Tryz.func66,Tryz.ntmps66
 go_upto_region 1 with fail
 have B4:=Blk.new w #[.int .i64 0,.slice none 0 0] 43;have hbW:Below w.heap.size w (w.alloc (.cells #[.int .i64 0,.slice none 0 0] 43)):=zR.alloc zL _;have hzW:(w.alloc (.cells #[.int .i64 0,.slice none 0 0] 43)).heap.size=w.heap.size+1:=by simp
 generalize (w.alloc (.cells #[.int .i64 0,.slice none 0 0] 43))=W at B4 hbW hzW ⊢;have HB4:=zh B4;have HZW:=zh hzW;clear B4 hzW;apply aJ ?hm ?hok [0,1,3,4,5,6,2,7,8,9] [2,7,9] [] ?hord (fun w'=>Below w.heap.size w w') (Q4 w W place G)
 case hm=>rfl
 case hok=>kernel_rfl
 case hord=>kernel_rfl
 case hb=>
  intro L w' h hl
  match L with
  |[]=>rw[h];exact hbW.drew
  |[v]=>exact hbW.trans (h.2.1.mono (by have:=HZW.out;omega))
  |[_,v]=>exact hbW.trans (h.1.mono (by have:=HZW.out;omega))
  |[_,_,_]=>exact h.1
  |_::_::_::_::_=>exact h.elim
 case hw=>rfl
 case h=>
  apply ae _ rfl rfl rfl rfl
  case h=>
   intro W1 hW K hK
   go_wp2_with fail
   exact hK
  simp only[zP,zQ,zB,zC];apply ae _ rfl rfl rfl rfl
  case h=>
   intro W1 hW K hK
   (obtain⟨n0,n1,n2⟩:=HNO.out.below hW)
   go_wp2_with fail
   exact hK
  simp only[zP,zQ,zB,zC];apply ae _ rfl rfl rfl rfl
  case h=>
   intro W1 hW K hK
   go_wp2_with fail
   exact hK
  simp only[zP,zQ,zB,zC];apply ae _ rfl rfl rfl rfl
  case h=>
   intro W1 hW K hK
   (have hlt:=hW.size)
   go_wp2_with fail
   exact hK
  simp only[zP,zQ,zB,zC];apply ae _ rfl rfl rfl rfl
  case h=>
   intro W1 hW K hK
   (have hlt:=hW.size)
   go_wp2_with fail
   exact hK
  simp only[zP,zQ,zB,zC];apply ae _ rfl rfl rfl rfl
  case h=>
   intro W1 hW K hK
   (have m1:=(HM.out.below hW mz).cell 1)
   go_wp2_with fail
   exact hK
  simp only[zP,zQ,zB,zC];apply ax rfl rfl rfl
  case h=>
   intro W1 hW K hK;obtain rfl:W1=W.drew:=hW
   go_wp2_with fail
   exact⟨rfl,zR.drew.alloc zL _,Blk.new _ _ _⟩
  intro v hv;obtain⟨-,rfl,-⟩:=hv;simp only[zP,zQ,zB,zC];apply ax rfl rfl rfl
  case h=>
   intro W1 hW K hK;obtain⟨-,hb1,hB⟩:=hW;obtain⟨g0,g1,-,-⟩:=hB.two
   go_wp2_with (go_at_call 88;refine(HRP.out _ _ hB.lt g0 g1 _).mono ?_;rintro e w' ⟨v',rfl,hown,hb⟩)
   exact⟨hb1.trans (hb.mono hb1.size),iy hown hb1.size⟩
  intro v hv;obtain⟨_,-,hown⟩:∃w',Below W.heap.size W w'∧w'.ownsRow W.heap.size 57 2 v G ((List.replicate G (-1,-1)).flatMap bP):=hv;obtain⟨ob,c,rfl⟩:=ay hown;simp only[zP,zQ,zB,zC];apply ae _ rfl rfl rfl rfl
  case h=>
   intro W1 hW K hK
   go_wp2_with fail
   exact hK
  simp only[zP,zQ,zB,zC];apply ax rfl rfl rfl
  case h=>
   intro W1 hW K hK;obtain⟨hb1,hown⟩:=hW;have B:=HB4.out.below hb1 (by have:=HZW.out;omega);have HB:=zh B;obtain⟨g0,g1,f0,f1⟩:=B.two;have hend:Q4 w W place G [.slice (some ⟨W.heap.size,0,none⟩) 1 1,.slice ob G c,undef] ((W1.setCell ⟨w.heap.size,0,none⟩ (.int .i64 place)).setCell ⟨w.heap.size,1,none⟩ (.slice ob G c)):=
    ⟨((hbW.trans (hb1.mono (by have:=HZW.out;omega))).setCell zL _).setCell zL _,(B.set 0 _).set 1 _,ownsRow_setCell_below (ownsRow_setCell_below hown (by have:=HZW.out;show w.heap.size<W.heap.size;omega) _) (by have:=HZW.out;show w.heap.size<W.heap.size;omega) _⟩
   have dL:=zh hend;clear B hend hown
   go_wp2_with fail
   exact hK undef _ dL.out
  intro v hv;simp only[zP,zQ,zB,zC];refine aG fun W7 h7=> ?_
  obtain⟨hb7,B7,bQ⟩:=h7;obtain⟨g0,g1,-,-⟩:=B7.two;have HOWN:=zh bQ;clear bQ
  go_wp2_with fail
  exact bodyPost_ret (v:= .agg #[.int .i64 place,.slice ob G c]) (by simp[results,Tryz.results66,go_sem,g0,g1]) rfl ⟨_,rfl,iy HOWN.out hbW.size,hb7⟩
end Go.Proofs.YtnhjakdmbfadlaaGreatDoor
namespace Go.Proofs.YtnhjakdmbfadlaaGreatDoor
open Go.RowKit Wy Mem Grow
theorem aC.still {N:Nat→Prop} {w:World} {base:Nat} {v:Value} {G:Nat} (h:w.ownsRow base 57 2 v G ((List.replicate G (-1,-1)).flatMap bP)) (hN:∀b,base≤b→b<w.heap.size→N b) (hG:G≤64):aC N w v (List.replicate G (-1,-1)):=
 ⟨by rw[List.length_replicate];exact Row.dD h hN,fun s hs=>by rw[List.eq_of_mem_replicate hs];exact⟨⟨by decide,by decide⟩,⟨by decide,by decide⟩⟩,by rw[List.length_replicate];exact hG⟩
theorem rP {a b:List (Int×Int)} {s:Int×Int} (h:s∈thenS a b):s∈a∨s∈b:=by
 unfold thenS at h;obtain⟨i,hi,rfl⟩:=List.getElem_of_mem h;rw[List.length_zipWith] at hi;rw[List.getElem_zipWith];split
 ·exact .inl (List.getElem_mem _)
 ·exact .inr (List.getElem_mem _)
theorem dY {a b:List (Int×Int)} (h:a.length=b.length):(thenS a b).length=b.length:=by
 unfold thenS;rw[List.length_zipWith];omega
theorem aC.thn {N:Nat→Prop} {w w':World} {base:Nat} {ws vs v':Value} {a b:List (Int×Int)} (ha:aC N w ws a) (hb:aC N w vs b) (hab:a.length=b.length)
  (h:w'.ownsRow base 57 2 v' (thenS a b).length ((thenS a b).flatMap bP)) {M:Nat→Prop} (hN:∀b,base≤b→b<w'.heap.size→M b):aC M w' v' (thenS a b):=by
 exact⟨Row.dD h hN,fun s hs=>(rP hs).elim (ha.ok s) (hb.ok s),by rw[dY hab];exact hb.small⟩
theorem vM (G:Nat) (x y:Wy.Way):(ak G).thn x y=⟨y.stop,thenS x.spans y.spans⟩:=rfl
theorem vN (G p:Nat):(ak G).still p=⟨p,List.replicate G (-1,-1)⟩:=rfl
def Cx.r (C:Cx) (B:Nat):Rc:=⟨C,B,fun _=>True,0,undef,undef,0,0,false⟩
structure gV (C:Cx) (B:Nat) (N0 N:Nat→Prop) (w:World) (v:Value) (l:List Wy.Way):Prop where
 at_:At C N w
 sub:∀b,N b→N0 b
 mbB:C.mb<B
 size:B≤w.heap.size
 row:∃cs,w.ownsRow B 43 2 v l.length cs∧aH N w C.G C.s.size l cs
 FQ:∀g,v.ownBlock=some g→¬N g
section
variable {C:Cx} {B:Nat} {N0 N N':Nat→Prop} {w w':World} {v:Value} {l:List Wy.Way}
theorem gV.nil (h:At C N w) (hs:∀b,N b→N0 b) (hB:C.mb<B) (hz:B≤w.heap.size):gV C B N0 N w (.slice none 0 0) []:=
 ⟨h,hs,hB,hz,⟨[],zN,rfl⟩,fun g hg=>by simp[Value.ownBlock] at hg⟩
theorem gV.slice (h:gV C B N0 N w v l):∃o c,v= .slice o l.length c:=by
 obtain⟨cs,h1,-⟩:=h.row;exact ay h1
theorem gV.rowB (h:gV C B N0 N w v l):∀g,v.ownBlock=some g→B≤g∧g<w.heap.size:=by
 obtain⟨cs,h1,-⟩:=h.row;exact h1.lt
theorem gV.memo (h:gV C B N0 N w v l) (k:Kept (fun b=>b=C.mb) w w') (hA:At C N w'):gV C B N0 N w' v l:=by
 obtain⟨cs,h1,h2⟩:=h.row;exact⟨hA,h.sub,h.mbB,Nat.le_trans h.size k.size,⟨cs,aB h1 k (fun g hg e=>by have:=h.rowB g hg;have:=h.mbB;omega),h2.go k (fun b _ hb=>⟨fun e=>h.at_.not (e ▸ hb),hb⟩)⟩,h.FQ⟩
theorem gV.below (h:gV C B N0 N w v l) (k:Below w.heap.size w w'):gV C B N0 N w' v l:=
 h.memo (Kept.of_below k _) (h.at_.below k)
theorem gV.more (h:gV C B N0 N w v l) {v':Value} {m:List Wy.Way} {cs ns:List Value} (hcs:aH N w C.G C.s.size l cs) (hns:aH N w C.G C.s.size m ns)
  (hr:w'.ownsRow B 43 2 v' (l.length+m.length) (cs++ns)) (hg:w.grownBy w' v.ownBlock) (hv:v'.ownBlock=v.ownBlock∨v'.ownBlock=some w.heap.size):
  gV C B N0 (fun b=>N b∧v'.ownBlock≠some b) w' v' (l++m)∧Goes (C.r B) N w (fun b=>N b∧v'.ownBlock≠some b) w':=by
 have k:=Kept.bK hg;have hv':∀b,b<w.heap.size→v'.ownBlock=some b→v.ownBlock=some b:=fun b hb e=>by
  rcases hv with hv|hv
  ·rw[←hv];exact e
  ·rw[hv] at e;simp only[Option.some.injEq] at e;omega
 have hd:∀b,b<w.heap.size→N b→¬(v.ownBlock=some b)∧(N b∧v'.ownBlock≠some b):=fun b hb hn=>by
  have:¬v.ownBlock=some b:=fun e=>h.FQ b e hn
  exact⟨this,hn,fun e=>this (hv' b hb e)⟩
 have hmb:¬(v.ownBlock=some C.mb):=fun e=>by have:=h.rowB _ e;have:=h.mbB;omega
 have hA:At C (fun b=>N b∧v'.ownBlock≠some b) w':=h.at_.go k hd ⟨hmb,fun e=>h.at_.not e.1⟩ (fun b hb=>⟨h.at_.new b (by have:=hg.size;omega),fun e=>by have:=(hr.lt b e).2;omega⟩);refine⟨⟨hA,fun b hb=>h.sub b hb.1,h.mbB,Nat.le_trans h.size hg.size,⟨cs++ns,by rw[List.length_append];exact hr,(hcs.go k hd).append (hns.go k hd)⟩,fun g hg e=>e.2 hg⟩,?_,fun b hb hn=>(hd b hb hn).2⟩;exact k.mono fun i hi e=> .inr ⟨(h.rowB i e).1,fun hn=>(hd i hi hn).1 e⟩
theorem gV.done (h:gV C B N0 N w v l) (hN0:∀b,B≤b→N0 b):∃N',At C N' w∧(∀b,N' b→N0 b)∧Goes (C.r B) N w N' w∧aI N' w C.G C.s.size v l:=by
 have hmb:¬(v.ownBlock=some C.mb):=fun e=>by have:=h.rowB _ e;have:=h.mbB;omega
 refine⟨fun b=>N b∨v.ownBlock=some b,h.at_.mono (fun b hb=> .inl hb) (fun e=>e.elim h.at_.not hmb),fun b hb=>hb.elim (h.sub b) (fun e=>hN0 b (h.rowB b e).1),⟨Kept.refl _ _,fun b _ hb=> .inl hb⟩,?_⟩;obtain⟨cs,h1,h2⟩:=h.row;refine⟨cs,⟨h1.1,?_⟩,h2.mono (fun b hb=> .inl hb)⟩;rcases h1.2 with⟨rfl,h0⟩|⟨g,cap,cur,rfl,hb,hg,hnc,hcm,-,-⟩
 ·exact .inl ⟨h0,none,0,rfl⟩
 ·refine .inr ⟨g,0,cap,rfl,hnc,hcm,.inr rfl,(Array.getElem?_eq_some_iff.1 hg).1,fun j hj=> ?_⟩;rw[Nat.zero_add];exact h1.cellAt _ (by rw[←h1.1];exact hj)
end
theorem Goes.kept {C:Cx} {N N':Nat→Prop} {w w':World} (h:Goes (C.r w.heap.size) N w N' w'):Kept (fun b=>b=C.mb) w w':=
 h.own.mono fun i hi e=>e.elim id fun e=>by have:w.heap.size≤i:=e.1;omega
theorem fA.no {C:Cx} {t:Nd} (h:fA C t) {N:Nat→Prop} {w:World} {num grp b place:Nat} (hA:At C N w) (hp:aX N w t num grp b) (ht:mF C.T t num grp) (hg:grp+opened t≤C.G) (hpl:place≤C.s.size) (ho:C.wy t grp place=none):
  Calls Tryz.prog 43 #[.pointer (some ⟨C.m,0,none⟩),.pointer (some ⟨b,0,none⟩),.int .i64 place] w fun e w'=>e= .returned (.tuple #[.slice none 0 0,.bool false])∧Kept (fun b=>b=C.mb) w w'∧At C N w':=
 (h N w num grp b place hA hp ht hg hpl).mono fun e w' ⟨h1,h2,v,h3,h4,_⟩=>by
  rw[ho] at h3 h4;rw[h4 rfl] at h3;exact⟨h3,h1,h2⟩
theorem fA.yes {C:Cx} {t:Nd} (h:fA C t) {N:Nat→Prop} {w:World} {num grp b place:Nat} (hA:At C N w) (hp:aX N w t num grp b) (ht:mF C.T t num grp) (hg:grp+opened t≤C.G) (hpl:place≤C.s.size) {m:List Wy.Way} (ho:C.wy t grp place=some m):
  Calls Tryz.prog 43 #[.pointer (some ⟨C.m,0,none⟩),.pointer (some ⟨b,0,none⟩),.int .i64 place] w fun e w'=>∃a c,e= .returned (.tuple #[.slice a m.length c,.bool true])∧Kept (fun b=>b=C.mb) w w'∧At C N w'∧aI N w' C.G C.s.size (.slice a m.length c) m:=
 (h N w num grp b place hA hp ht hg hpl).mono fun e w' ⟨h1,h2,v,h3,_,h5⟩=>by
  rw[ho] at h3 h5;have hw:=h5 m rfl;obtain⟨a,c,rfl⟩:=hw.slice;exact⟨a,c,h3,h1,h2,hw⟩
theorem yY {w:World} {st:Int} {sv:Value}:dI (w.alloc (.cells #[.int .i64 st,sv] 43)) (.slice (some ⟨w.heap.size,0,none⟩) 1 1) 1 [.int .i64 st,sv]:=by
 have hB:=Blk.new w #[.int .i64 st,sv] 43;refine .inr ⟨_,_,rfl,fun j u hu=> ?_⟩
 match j with
 |0=>simp at hu;subst hu;simp[Addr.add,hB.cell]
 |1=>simp at hu;subst hu;simp[Addr.add,hB.cell]
 |j+2=>simp at hu
theorem Bf {C:Cx} {N N':Nat→Prop} {w w':World} {o:Option (List Wy.Way)} (hA:At C N w) (hg:Goes (C.r w.heap.size) N w N' w') (hA':At C N' w') (hs:∀b,N' b→N b) (ho:o=none):
  Wys C N w o (.returned (.tuple #[.slice none 0 0,.bool false])) w':=by
 subst ho;exact⟨hg.kept,hA'.mono hs hA.not,_,rfl,⟨_,_,_,rfl⟩,fun l hl=>by cases hl⟩
theorem Iy {C:Cx} {N N':Nat→Prop} {w w':World} {o:Option (List Wy.Way)} {v:Value} {l:List Wy.Way} (hA:At C N w) (hg:Goes (C.r w.heap.size) N w N' w') (hA':At C N' w') (hs:∀b,N' b→N b) (hw:aI N' w' C.G C.s.size v l) (ho:o=some l):
  Wys C N w o (.returned (.tuple #[v,.bool true])) w':=by
 subst ho;refine⟨hg.kept,hA'.mono hs hA.not,_,rfl,?_,fun l' hl'=> ?_⟩
 ·obtain⟨a,c,rfl⟩:=hw.slice;exact⟨_,_,_,rfl⟩
 ·simp only[Option.some.injEq] at hl';subst hl';exact hw.mono hs
end Go.Proofs.YtnhjakdmbfadlaaGreatDoor
namespace Go.Proofs.YtnhjakdmbfadlaaGreatDoor
open Go.RowKit Wy Mem Grow
variable {lazy:Bool} {hi k lo:Int} {subs:List Nd} {set:List Rg} {ps:List Value} {b g grp n num:Nat} {N N':Nat→Prop} {pv:Value} {w w':World}
def Q5 (k lo hi:Int) (lazy:Bool) (sv uv pv:Value) (num grp:Nat):Array Value:= #[.int .u8 k,sv,.int .i64 lo,.int .i64 hi,.bool lazy,uv,.int .i64 num,.int .i64 grp,pv]
theorem oC (h:aX N w (.mk k set lo hi lazy subs) num grp b):
  ∃sv uv pv ps,Blk w b (Q5 k lo hi lazy sv uv pv num grp) 140∧N b∧(0≤k∧k≤255∧subs.length≤1048576)∧(∃(a:Option Addr) (n c:Nat),uv= .slice a n c)∧I64 lo∧I64 hi∧dG N w sv set∧Row N w pv subs.length 1 ps∧PartsAt N w subs (num+1) (grp+if k=6 then 1 else 0) ps:=by
 rw[aX] at h;obtain⟨sv,uv,pv,ps,h1,h2,h3,h4,h5,h6,h7,h8⟩:=h;exact⟨sv,uv,pv,ps,h1,h2,⟨h3.1,h3.2.1,h3.2.2.1⟩,h3.2.2.2,h4,h5,h6,h7,h8⟩
theorem jY (hr:Row N w pv subs.length 1 ps) (hp:PartsAt N w subs n g ps) (hne:0<subs.length):
  ∃pb po pc:Nat,pv= .slice (some ⟨pb,po,none⟩) subs.length pc∧subs.length≤pc∧pc≤maxLen∧N pb∧pb<w.heap.size∧∀i (hi:i<subs.length),∃b,w.cell? ⟨pb,po+i,none⟩=some (.pointer (some ⟨b,0,none⟩))∧aX N w subs[i] (n+aF (subs.take i)) (g+aj (subs.take i)) b:=by
 rcases hr.at_ with⟨h0,_⟩|⟨pb,po,pc,rfl,h1,h2,h3,h4,h5⟩
 ·omega
 ·refine⟨pb,po,pc,rfl,h1,h2,h3,h4,fun i hi=> ?_⟩;obtain⟨b,hb,hpt⟩:=hp.get i hi;refine⟨b,?_,hpt⟩;rw[h5 i (by rw[hp.length];exact hi)];exact hb
theorem oD {T:Nat→Option (Nd×Nat)} (h:mF T (.mk k set lo hi lazy subs) n g):kS T subs (n+1) (g+if k=6 then 1 else 0):=by
 rw[mF] at h;exact h.2
theorem Goes.blk {R:Rc} {cs:Array Value} {t:TypeId} (h:Goes R N w N' w') (hA:At R.C N w) (hb:Blk w b cs t) (hN:N b):Blk w' b cs t:=
 hb.kept h.own (h.hd hA b hb.lt hN).1
theorem Goes.cell {R:Rc} (h:Goes R N w N' w') (hA:At R.C N w) (hb:b<w.heap.size) (hN:N b) (o:Nat):w'.cell? ⟨b,o,none⟩=w.cell? ⟨b,o,none⟩:=
 zW (h.own.block b hb (h.hd hA b hb hN).1)
theorem LP {C:Cx} (hC:C.Ok) {set:List Rg} {lo hi:Int} {lazy:Bool} {subs:List Nd} {num grp b place:Nat} {N:Nat→Prop} {w:World} (h:At C N w) (hp:aX N w (.mk 3 set lo hi lazy subs) num grp b)
  (ht:mF C.T (.mk 3 set lo hi lazy subs) num grp) (hg:grp+aj subs≤C.G) (hpl:place≤C.s.size) (hne:0<subs.length) (ih:∀s∈subs,fA C s):
  Calls Tryz.prog 69 #[.pointer (some ⟨C.m,0,none⟩),.pointer (some ⟨b,0,none⟩),.int .i64 place] w (Wys C N w (dH (ak C.G) (aN C.s) subs grp [(ak C.G).still place])):=by
 obtain⟨sv,uv,pv,ps,B0,hNb,hk,hu,hlo,hhi,hset,hrow,hparts⟩:=oC hp;simp only[show¬((3:Int)=6) by omega,if_false,Nat.add_zero] at hparts;have htab:=oD ht;simp only[show¬((3:Int)=6) by omega,if_false,Nat.add_zero] at htab;obtain⟨pb,po,pc,rfl,LQ,O6,FT,FU,hcell⟩:=jY hrow hparts hne;have hst:=oq (place:=place) h.maker h.none (by have:=hC.G;omega);have HST:=zh hst;have HA:=zh h;have HC:=zh hcell;have HB0:=zh B0;have HIH:=zh ih;have mZ:=zh htab;have hbz:=B0.lt;have hsl:(subs.length:Int)≤1048576:=by have:=hk.2.2;omega
 have hplI:(place:Int)≤32:=by have:=hC.len;omega
 have hpci:(subs.length:Int)≤pc:=(by omega);clear hst h hcell B0 ih htab ht hparts hrow hp hset hu hlo hhi hk;go_enter Tryz.func69,Tryz.ntmps69
 go_wp2_with (go_at_call 66;refine HST.out.mono ?_;rintro e w1 ⟨v',rfl,hown,hb1⟩;obtain⟨ob,c,rfl⟩:=ay hown;have e8:w1.cell? ⟨b,8,none⟩=some (.slice (some ⟨pb,po,none⟩) subs.length pc):=(HB0.out.below hb1 hbz).cell 8;have hbz1:b<w1.heap.size:=(HB0.out.below hb1 hbz).lt)
 have hb2:Below w.heap.size w (w1.alloc (.cells #[.int .i64 place,.slice ob C.G c] 43)):=hb1.alloc hb1.size _;have hA2:=HA.out.below hb2;have Iz:aI N (w1.alloc (.cells #[.int .i64 place,.slice ob C.G c] 43)) C.G C.s.size (.slice (some ⟨w1.heap.size,0,none⟩) 1 1) [(ak C.G).still place]:=by
  have hB:=Blk.new w1 #[.int .i64 place,.slice ob C.G c] 43;refine⟨[.int .i64 place,.slice ob C.G c],⟨rfl,.inr ⟨w1.heap.size,0,1,rfl,Nat.le_refl _,by decide,HA.out.new _ hb1.size,by simp,fun j hj=> ?_⟩⟩,aH.one (x:=(ak C.G).still place) (aC.still (aB hown ((Kept.refl (fun _=>False) w1).alloc _) (fun _ _=>id)) (fun q hq _=>HA.out.new q hq) (by have:=hC.G;omega)) hpl (by rw[vN];simp)⟩;rw[hB.cell,Nat.zero_add];simp
 have IA:Goes (C.r w.heap.size) N w N (w1.alloc (.cells #[.int .i64 place,.slice ob C.G c] 43)):=Goes.below hb2;have hz2:w1.heap.size<(w1.alloc (.cells #[.int .i64 place,.slice ob C.G c] 43)).heap.size:=by simp
 generalize (w1.alloc (.cells #[.int .i64 place,.slice ob C.G c] 43))=W2 at hA2 Iz IA hz2 ⊢;have HA2:=zh hA2;have Q7:=zh Iz;clear hown e8 hb2 hA2 Iz;go_loopw [27,8] (fun i v8 wr=>∃(k:Nat) (N1:Nat→Prop) (l:List Wy.Way),k≤subs.length∧i= .int .i64 k∧At C N1 wr∧(∀q,N1 q→N q)∧Goes (C.r w.heap.size) N w N1 wr∧aI N1 wr C.G C.s.size v8 l∧dH (ak C.G) (aN C.s) subs grp [(ak C.G).still place]=iq (ak C.G) (aN C.s) subs grp k l) (fun i _ _=>subs.length-(intOf i).toNat)
 case atStart=>exact⟨0,N,_,by omega,rfl,HA2.out,fun _ hq=>hq,IA,Q7.out,(yF _ _ _ _ _).symm⟩
 case round=>
  rename World=>wa
  obtain⟨k,N1,l,hk,rfl,hA1,hN1,Q8,hw1,IB⟩:=hrel;obtain⟨lo8,lc8,rfl⟩:=hw1.slice;have HA1:=zh hA1;have HN1:=zh hN1;have FV:=zh Q8;have HW1:=zh hw1;have FW:=zh IB;clear hA1 hN1 Q8 hw1 IB;by_cases hkl:k<subs.length
  ·obtain⟨sb,hsb,ug⟩:=HC.out k hkl;have c1:wa.cell? ⟨pb,po+k,none⟩=some (.pointer (some ⟨sb,0,none⟩)):=(FV.out.cell HA.out FU FT _).trans hsb;have HPT:=zh (FV.out.part HA.out ug);have HTB:=zh (kS.get mZ.out k hkl);have HOG:=zh (lI hkl);obtain⟨f,hf⟩:∃f:Nat→Option (List Wy.Way),f=fun q=>wy (ak C.G) (aN C.s) subs[k] (grp+aj (subs.take k)) q:=⟨_,rfl⟩
   have HF:=zh hf;have HSI:=zh (HIH.out subs[k] (List.getElem_mem hkl));have hklI:(k:Int)<subs.length:=(by omega);have hll:l.length≤maxLen:=by obtain⟨cs,h1,-⟩:=HW1.out;exact h1.Hw
   have O7:(l.length:Int)≤9223372036854775807:=by unfold maxLen at hll;omega
   clear ug hf hsb
   go_wp2_with fail
   go_loopw [33,11] (fun i v11 wx=>∃(j:Nat) (N2:Nat→Prop) (nl:List Wy.Way),j≤l.length∧i= .int .i64 j∧gV C w.heap.size N N2 wx v11 nl∧nl.length≤500∧allOf (bV (ak C.G) f) (l.take j)=some nl∧Goes (C.r w.heap.size) N1 wa N2 wx) (fun i _ _=>l.length-(intOf i).toNat)
   case atStart=>exact⟨0,N1,[],by omega,rfl,gV.nil HA1.out HN1.out HA.out.CS FV.out.own.size,by simp,rfl,Goes.refl _ _ _⟩
   case round=>
    rename World=>wb
    obtain⟨j,N2,nl,hj,rfl,yZ,hnl,hall,Oy⟩:=hrel;obtain⟨o11,c11,rfl⟩:=yZ.slice;have hbw:w.heap.size≤wb.heap.size:=yZ.size;have C9:=zh yZ;have fQ:=zh hall;have gZ:=zh Oy;clear yZ hall Oy;by_cases hjl:j<l.length
    ·obtain⟨lb,off,cap,he,hcap,hmax,hNlb,IC,hlc⟩:=(gZ.out.ways HA1.out HW1.out).cells (by omega);simp only[Value.slice.injEq] at he;obtain⟨rfl,-,rfl⟩:=he;obtain⟨svx,hx0,hx1,hxs,hxl,hxG⟩:=hlc j hjl;obtain⟨x,hx⟩:∃x,x=l[j]:=⟨_,rfl⟩;rw[←hx] at hx0 hxs hxl hxG;obtain⟨so,sc,rfl⟩:=hxs.row.slice;have HX:=zh hx;have HXG:=zh hxG;have HXS:=zh hxs;have O8:(j:Int)<l.length:=(by omega);have hxI:(x.stop:Int)≤32:=by have:=hC.len;omega
     have hxl':=hxl;have hcI:(l.length:Int)≤lc8:=(by omega);clear hlc hxs hx hxG;have hbx:Below wb.heap.size wb (wb.alloc (.cells #[.int .i64 x.stop,(.slice so x.spans.length sc)] 43)):=zR.alloc zL _;have HAX:=zh (C9.out.at_.below hbx);have hpx:aX N2 (wb.alloc (.cells #[.int .i64 x.stop,(.slice so x.spans.length sc)] 43)) subs[k] (num+1+aF (subs.take k)) (grp+aj (subs.take k)) sb:=(gZ.out.trans (Goes.below hbx)).part HA1.out HPT.out;have HPX:=zh hpx;have hog:grp+aj (subs.take k)+opened subs[k]≤C.G:=by have:=HOG.out;omega
     have Dc:=zh hog;clear hpx hog;have hgx:Goes (C.r w.heap.size) N w N2 (wb.alloc (.cells #[.int .i64 x.stop,(.slice so x.spans.length sc)] 43)):=FV.out.trans (gZ.out.trans (Goes.below hbx));have HGX:=zh hgx;have Q9:Blk (wb.alloc (.cells #[.int .i64 x.stop,(.slice so x.spans.length sc)] 43)) wb.heap.size #[.int .i64 x.stop,(.slice so x.spans.length sc)] 43:=Blk.new _ _ _;have HB13:=zh Q9;have HBX:=zh hbx;have hmbB:C.mb<w.heap.size:=HA.out.CS;clear hgx Q9 hbx;have hfx:f x.stop=C.wy subs[k] (grp+aj (subs.take k)) x.stop:=by rw[HF.out];rfl
     cases ho:C.wy subs[k] (grp+aj (subs.take k)) x.stop with
     |none=>
      have aS:=zh (HSI.out.no HAX.out HPX.out HTB.out Dc.out hxl ho);have hno:dH (ak C.G) (aN C.s) subs grp [(ak C.G).still place]=none:=by
       rw[FW.out];refine qC _ _ hkl (Fe (i:=j) hjl ?_);have:f l[j].stop=none:=by rw[←HX.out,hfx,ho]
       rw[HF.out] at this;exact this
      have HNO:=zh hno;clear hno hfx ho
      go_wp2_with (go_at_call 43;refine aS.out.mono ?_;rintro e w3 ⟨rfl,hk3,hA3⟩)
      exact bodyPost_ret (v:= .tuple #[.slice none 0 0,.bool false]) (by simp[results,Tryz.results69,go_sem]) rfl (Bf HA.out (HGX.out.trans (Goes.memo hk3)) hA3 C9.out.sub HNO.out)
     |some m=>
      have aS:=zh (HSI.out.yes HAX.out HPX.out HTB.out Dc.out hxl ho);have hml:m.length≤500:=fV ho;have hmlI:(m.length:Int)≤500:=(by omega);have hnlI:(nl.length:Int)≤500:=(by omega);have hfm:f l[j].stop=some m:=by rw[←HX.out,hfx,ho]
      have HFM:=zh hfm;clear hfm hfx ho;by_cases hlen:nl.length+m.length≤500
      ·have Oz:(nl.length:Int)+m.length≤500:=by omega
       go_wp2_with (go_at_call 43;refine aS.out.mono ?_;rintro e w3 ⟨am,cm,rfl,hk3,hA3,hWm⟩)
       have hgm:Goes (C.r w.heap.size) N2 wb N2 w3:=(Goes.below HBX.out).trans (Goes.memo hk3);have Rf:=(C9.out.below HBX.out).memo hk3 hA3;have hB3:Blk w3 wb.heap.size #[.int .i64 x.stop,.slice so x.spans.length sc] 43:=HB13.out.kept hk3 (by omega);have hN13:N2 wb.heap.size:=C9.out.at_.new _ zL;have HXS3:=zh (hgm.spans C9.out.at_ HXS.out);have HGM:=zh hgm;have HGR3:=zh Rf;have HB3:=zh hB3;have HA3:=zh hA3;have HWM:=zh hWm;clear hgm Rf hB3 hA3 hWm hk3 hx0 hx1;go_loopw [57,11] (fun i v11 wx=>∃(p:Nat) (N3:Nat→Prop) (nl3:List Wy.Way),p≤m.length∧i= .int .i64 p∧nl3=nl++(m.take p).map ((ak C.G).thn x)∧gV C w.heap.size N N3 wx v11 nl3∧Goes (C.r w.heap.size) N2 w3 N3 wx) (fun i _ _=>m.length-(intOf i).toNat)
       case atStart=>exact⟨0,N2,nl,by omega,rfl,by simp,HGR3.out,Goes.refl _ _ _⟩
       case round=>
        rename World=>wc
        obtain⟨p,N3,nl3,hp,rfl,O9,Pe,Rh⟩:=hrel;obtain⟨o12,c12,rfl⟩:=Pe.slice;have hl3:nl3.length=nl.length+p:=by rw[O9];simp;omega
        have Ri:=zh O9;have HL3:=zh hl3;have Df:=zh Pe;have IE:=zh Rh;clear O9 hl3 Pe Rh;by_cases hpm:p<m.length
        ·obtain⟨mb',moff,mcap,he,hmcap,hmmax,hNmb,hmbz,hmc⟩:=(IE.out.ways HA3.out HWM.out).cells (by omega);simp only[Value.slice.injEq] at he;obtain⟨rfl,-,rfl⟩:=he;obtain⟨svy,hy0,hy1,hys,hyl,hyG⟩:=hmc p hpm;obtain⟨y,hy⟩:∃y,y=m[p]:=⟨_,rfl⟩;rw[←hy] at hy0 hys hyl hyG;obtain⟨sy,scy,rfl⟩:=hys.row.slice;have HY:=zh hy;have HYS:=zh hys;have HYG:=zh hyG;have hpmI:(p:Int)<m.length:=(by omega);have CV:(m.length:Int)≤cm:=(by omega);obtain⟨cs,hr1,hr2⟩:=Df.out.row;have HR1:=zh hr1;have HR2:=zh hr2;clear hmc hys hy hyG hr1 hr2;have hB4:=IE.out.blk HA3.out HB3.out hN13;obtain⟨g0,g1,-,-⟩:=hB4.two;have g2:=hB4.lt;have hbc:Below wc.heap.size wc (wc.alloc (.cells #[.int .i64 y.stop,.slice sy y.spans.length scy] 43)):=zR.alloc zL _;have hgc:Goes (C.r w.heap.size) N3 wc N3 (wc.alloc (.cells #[.int .i64 y.stop,.slice sy y.spans.length scy] 43)):=Goes.below hbc;have hsx:=(IE.out.trans hgc).spans HA3.out HXS3.out;have hsy:=hgc.spans Df.out.at_ HYS.out;have hth:=Be (we:=x.stop) (ve:=y.stop) hsx hsy (by rw[HXG.out,HYG.out]) (Df.out.at_.below hbc).none;have HTH:=zh hth;have HSX:=zh hsx;have HSY:=zh hsy;have HBC:=zh hbc;obtain⟨i0,hi,hz0,hz1,hz2⟩:=info_parts rJ;have hbase:w.heap.size≤wc.heap.size:=Df.out.size;have hn1:nl3.length+1≤500:=by have:=HL3.out;omega
         have ng:nl3.length+1≤maxLen:=by unfold maxLen;omega
         have lM:(nl3.length+1)*32≤140737488355328:=(by omega);clear hB4 hth hsx hsy hgc hbc
         go_wp2_with (first|(go_at_call 91;refine HTH.out.mono ?_;rintro e w5 ⟨v',rfl,hown5,hb5⟩;obtain⟨ov,cv,rfl⟩:=ay hown5;have HO5:=zh hown5;have HB5:=zh (HBC.out.trans (hb5.mono (by simp)));have HB6:=zh (HB5.out.alloc HB5.out.size (.cells #[.int .i64 y.stop,.slice ov (thenS x.spans y.spans).length cv] 43));have HR6:=zh (aB HR1.out (zK HB6.out) (fun _ _=>id));have HS6:=zh (yY (w:=w5) (st:=y.stop) (sv:= .slice ov (thenS x.spans y.spans).length cv));have HZ6:=zh (Nat.le_trans hbase HB6.out.size);clear hown5 hb5)|(at_builtin;refine aA rfl _ _ 38 rfl Tryz.underlying38 hi hz0 hz1 hz2 rfl (.slice o12 nl3.length c12) nl3.length cs rfl HR6.out _ 1 _ rfl HS6.out rfl (by simp[Value.oneCell']) ng lM HZ6.out ?_;intro v7 w7 bQ fZ h37 h47))
         have hg6:=Df.out.below HB6.out;have hgo6:Goes (C.r w.heap.size) N3 wc N3 (w5.alloc (.cells #[.int .i64 y.stop,.slice ov (thenS x.spans y.spans).length cv] 43)):=Goes.below HB6.out;have hsp6:aC N3 (w5.alloc (.cells #[.int .i64 y.stop,.slice ov (thenS x.spans y.spans).length cv] 43)) (.slice ov (thenS x.spans y.spans).length cv) (thenS x.spans y.spans):=
          HSX.out.thn HSY.out (by rw[HXG.out,HYG.out]) (aB HO5.out ((Kept.refl (fun _=>False) w5).alloc _) (fun _ _=>id)) (fun q hq _=>Df.out.at_.new q (Nat.le_trans (by simp) hq))
         have hns:aH N3 (w5.alloc (.cells #[.int .i64 y.stop,.slice ov (thenS x.spans y.spans).length cv] 43)) C.G C.s.size [(ak C.G).thn x y] [.int .i64 y.stop,.slice ov (thenS x.spans y.spans).length cv]:=
          aH.one (x:=(ak C.G).thn x y) hsp6 hyl (by rw[vM];exact(dY (by rw[HXG.out,HYG.out])).trans HYG.out)
         obtain⟨Bg,qM⟩:=hg6.more (HR2.out.go (zK HB6.out) (fun _ _ hn=>⟨id,hn⟩)) hns bQ fZ h37;go_roundw
         case rel=>
          refine⟨p+1,_,nl3++[(ak C.G).thn x y],by omega,by go_num,?_,Bg,IE.out.trans (hgo6.trans qM)⟩;rw[Ri.out,HY.out,List.append_assoc,←List.map_singleton,←List.map_append,←List.take_succ_eq_append_getElem hpm]
         case measure=>simp[intOf];omega
        ·obtain rfl:p=m.length:=by omega
         go_wp2_with fail
         go_roundw
         case rel=>
          refine⟨j+1,N3,nl++m.map ((ak C.G).thn x),by omega,by go_num,?_,by simp;omega,?_,gZ.out.trans (HGM.out.trans IE.out)⟩
          ·have e:=Ri.out;rw[List.take_length] at e;subst e;exact Df.out
          ·have:=step_take (A:=ak C.G) hjl fQ.out HFM.out;rw[←HX.out] at this;exact this
         case measure=>simp[intOf];omega
      ·have Oz:(500:Int)<(nl.length:Int)+m.length:=(by omega);have hno:dH (ak C.G) (aN C.s) subs grp [(ak C.G).still place]=none:=by
        rw[FW.out];refine qC _ _ hkl (Ff (i:=j) (n:=nl) (m:=m) hjl ?_ ?_ (by omega))
        ·have:=fQ.out;rw[HF.out] at this;exact this
        ·have:=HFM.out;rw[HF.out] at this;exact this
       have HNO:=zh hno;clear hno
       go_wp2_with (go_at_call 43;refine aS.out.mono ?_;rintro e w3 ⟨am,cm,rfl,hk3,hA3,hWm⟩)
       exact bodyPost_ret (v:= .tuple #[.slice none 0 0,.bool false]) (by simp[results,Tryz.results69,go_sem]) rfl (Bf HA.out (HGX.out.trans (Goes.memo hk3)) hA3 C9.out.sub HNO.out)
    ·obtain rfl:j=l.length:=by omega
     go_wp2_with fail
     have hfin:∃N',At C N' wb∧(∀q,N' q→N q)∧Goes (C.r w.heap.size) N2 wb N' wb∧aI N' wb C.G C.s.size (.slice o11 nl.length c11) nl:=C9.out.done (fun q hq=>HA.out.new q hq);obtain⟨N',hA',hN',hgo',hW'⟩:=hfin;have hnext:dH (ak C.G) (aN C.s) subs grp [(ak C.G).still place]=iq (ak C.G) (aN C.s) subs grp (k+1) nl:=by
      rw[FW.out];refine yG _ _ hkl ?_;have:=H6 (A:=ak C.G) (f:=f) (l:=l) (n:=nl) (by have:=fQ.out;rwa [List.take_length] at this) hnl;rw[HF.out] at this;exact this
     go_roundw
     case rel=>exact⟨k+1,N',nl,by omega,by go_num,hA',hN',FV.out.trans (gZ.out.trans hgo'),hW',hnext⟩
     case measure=>simp[intOf];omega
  ·obtain rfl:k=subs.length:=by omega
   go_wp2_with fail
   have hfin:dH (ak C.G) (aN C.s) subs grp [(ak C.G).still place]=some l:=by rw[FW.out];exact AL _ _ _ _ _
   exact bodyPost_ret (v:= .tuple #[.slice lo8 l.length lc8,.bool true]) (by simp[results,Tryz.results69,go_sem]) rfl (Iy HA.out FV.out HA1.out HN1.out HW1.out hfin)
end Go.Proofs.YtnhjakdmbfadlaaGreatDoor
namespace Go.Proofs.YtnhjakdmbfadlaaGreatDoor
open Go.RowKit Wy Mem Grow
theorem Rj:(Tryz.prog.info? 106).map (fun i=>(i.zero,i.size,i.bytes))=some (some (.pointer none),1,8):=by kernel_rfl
def mkC (s mv:Value) (G0 P0:Nat):Array Value:= #[s,.int .i64 G0,.int .i64 P0,mv]
def Prt (N:Nat→Prop) (w:World) (m:Nat) (s mv:Value) (t:Nd) (G0 P0:Nat) (e:Ending) (w':World):Prop:=
 ∃b,e= .returned (.pointer (some ⟨b,0,none⟩))∧aX N w' t P0 G0 b∧Blk w' m (mkC s mv (G0+opened t) (P0+nodes t)) 105∧Kept (fun q=>q=m) w w'
def vO (t:Nd):Prop:=∀(N:Nat→Prop) (w:World) (m:Nat) (s mv:Value) (G0 P0:Nat) (cs:List Value),Blk w m (mkC s mv G0 P0) 105→ai N w t cs→(∀q,w.heap.size≤q→N q)→¬N m→
 G0+opened t≤1000000000→P0+nodes t≤1000000000→Calls Tryz.prog 42 #[.pointer (some ⟨m,0,none⟩),.agg cs.toArray] w (Prt N w m s mv t G0 P0)
def jH (k lo hi:Int) (lazy:Bool) (sv uv pv:Value) (num grp:Nat):Array Value:= #[.int .u8 k,sv,.int .i64 lo,.int .i64 hi,.bool lazy,uv,.int .i64 num,.int .i64 grp,pv]
structure rQ (N:Nat→Prop) (m:Nat) (s mv:Value) (p:Nat) (k lo hi:Int) (lazy:Bool) (sv uv:Value) (G0 P0:Nat) (W:World) (l:List Nd) (e:Nat) (N1:Nat→Prop) (w:World) (pv:Value):Prop where
 sub:∀q,N1 q→N q
 keep:∀q,q<W.heap.size→N q→N1 q
 new:∀q,w.heap.size≤q→N1 q
 noM:¬N1 m
 noP:¬N1 p
 pm:p≠m
 pz:W.heap.size≤p
 part:Blk w p (jH k lo hi lazy sv uv pv P0 G0) 140
 own:∃ps,w.ownsRow (p+1) 106 1 pv l.length ps∧PartsAt N1 w l (P0+1) (G0+e) ps
 Pg:∀g,pv.ownBlock=some g→¬N1 g
 maker:Blk w m (mkC s mv (G0+e+aj l) (P0+1+aF l)) 105
 kept:Kept (fun q=>q=m) W w
section
variable {N N1:Nat→Prop} {m p G0 P0 e:Nat} {s mv sv uv pv:Value} {k lo hi:Int} {lazy:Bool} {W w w':World} {l:List Nd}
theorem rQ.below (h:rQ N m s mv p k lo hi lazy sv uv G0 P0 W l e N1 w pv) (kb:Below w.heap.size w w'):rQ N m s mv p k lo hi lazy sv uv G0 P0 W l e N1 w' pv:=by
 obtain⟨ps,hown,hps⟩:=h.own;have kk:Kept (fun _=>False) w w':=Kept.of_below kb _;exact⟨h.sub,h.keep,fun q hq=>h.new q (Nat.le_trans kb.size hq),h.noM,h.noP,h.pm,h.pz,h.part.kept kk id,⟨ps,aB hown kk (fun _ _=>id),PartsAt.go kk (fun q _ hn=>⟨id,hn⟩) hps⟩,h.Pg,h.maker.kept kk id,h.kept.trans (Kept.of_below kb _)⟩
theorem rQ.ownM (h:rQ N m s mv p k lo hi lazy sv uv G0 P0 W l e N1 w pv):¬(pv.ownBlock=some m):=fun e=>by
 obtain⟨ps0,hown,-⟩:=h.own;obtain⟨-,h2⟩:=hown;rcases h2 with⟨rfl,-⟩|⟨g,c,cur,rfl,-,h3,-⟩
 ·simp[Value.ownBlock] at e
 ·simp only[Value.ownBlock,Option.some.injEq] at e;subst e;have:=h.maker;unfold Blk at this;rw[h3] at this;simp only[Option.some.injEq,Obj.cells.injEq] at this;exact absurd this.2.1 (by decide)
theorem rQ.more (h:rQ N m s mv p k lo hi lazy sv uv G0 P0 W l e N1 w pv) {t:Nd} {b:Nat} {w3 w4:World} {pv':Value} {ps:List Value} (hps:PartsAt N1 w l (P0+1) (G0+e) ps)
  (k3:Kept (fun q=>q=m) w w3) (hb:aX N1 w3 t (P0+1+aF l) (G0+e+aj l) b) (hm:Blk w3 m (mkC s mv (G0+e+aj l+opened t) (P0+1+aF l+nodes t)) 105)
  (hr:w4.ownsRow (p+1) 106 1 pv' (l.length+1) (ps++[.pointer (some ⟨b,0,none⟩)])) (hg:w3.grownBy w4 pv.ownBlock) (hv:pv'.ownBlock=pv.ownBlock∨pv'.ownBlock=some w3.heap.size):
  rQ N m s mv p k lo hi lazy sv uv G0 P0 W (l++[t]) e (fun q=>N1 q∧pv'.ownBlock≠some q) (w4.setCell ⟨p,8,none⟩ pv') pv':=by
 obtain⟨ps0,hown,-⟩:=h.own;have hoB:∀g,pv.ownBlock=some g→p+1≤g∧g<w.heap.size:=hown.lt;have hplt:=h.part.lt;have hmlt:=h.maker.lt;have k4:=Kept.bK hg;have hv':∀q,q<w3.heap.size→pv'.ownBlock=some q→pv.ownBlock=some q:=fun q hq e=>by
  rcases hv with hv|hv
  ·rw[←hv];exact e
  ·rw[hv] at e;simp only[Option.some.injEq] at e;omega
 have hmo:¬(pv.ownBlock=some m):=fun e=>by
  have h1:=hoB m e;obtain⟨-,h2⟩:=hown;rcases h2 with⟨rfl,-⟩|⟨g,c,cur,rfl,-,h3,-⟩
  ·simp[Value.ownBlock] at e
  ·simp only[Value.ownBlock,Option.some.injEq] at e;subst e;have:=h.maker;unfold Blk at this;rw[h3] at this;simp only[Option.some.injEq,Obj.cells.injEq] at this;exact absurd this.2.1 (by decide)
 have hpo:¬(pv.ownBlock=some p):=fun e=>by have:=hoB p e;omega
 have kA:Kept (fun q=>q=m∨pv.ownBlock=some q∨q=p) w (w4.setCell ⟨p,8,none⟩ pv'):=
  ((k3.mono (fun _ _ e=> .inl e)).trans' (k4.mono (fun _ _ e=>e)) (fun q _ e=> .inr (.inl e))).setCell (p:=⟨p,8,none⟩) (fun _=> .inr (.inr rfl)) _
 have kB:Kept (fun q=>pv.ownBlock=some q∨q=p) w3 (w4.setCell ⟨p,8,none⟩ pv'):=(k4.mono (fun _ _ e=> .inl e)).setCell (p:=⟨p,8,none⟩) (fun _=> .inr rfl) _;have hd:∀q,q<w.heap.size→N1 q→¬(q=m∨pv.ownBlock=some q∨q=p)∧(N1 q∧pv'.ownBlock≠some q):=fun q hq hn=>
  have h1:¬pv.ownBlock=some q:=fun e=>h.Pg q e hn
  ⟨fun e=>e.elim (fun e=>h.noM (e ▸ hn)) (fun e=>e.elim h1 (fun e=>h.noP (e ▸ hn))),hn,fun e=>h1 (hv' q (Nat.lt_of_lt_of_le hq k3.size) e)⟩
 have hd3:∀q,q<w3.heap.size→N1 q→¬(pv.ownBlock=some q∨q=p)∧(N1 q∧pv'.ownBlock≠some q):=fun q hq hn=>
  have h1:¬pv.ownBlock=some q:=fun e=>h.Pg q e hn
  ⟨fun e=>e.elim h1 (fun e=>h.noP (e ▸ hn)),hn,fun e=>h1 (hv' q hq e)⟩
 have hpB:Blk (w4.setCell ⟨p,8,none⟩ pv') p (jH k lo hi lazy sv uv pv' P0 G0) 140:=
  ((h.part.kept k3 h.pm).kept k4 hpo).set 8 pv'
 refine⟨fun q hq=>h.sub q hq.1,fun q hq hn=>(hd q (Nat.lt_of_lt_of_le hq h.kept.size) (h.keep q hq hn)).2,fun q hq=>⟨h.new q (Nat.le_trans kA.size hq),fun e=>by have:=(hr.lt q e).2;simp at hq;omega⟩,fun e=>h.noM e.1,fun e=>h.noP e.1,h.pm,h.pz,hpB,?_,fun g hg e=>e.2 hg,?_,?_⟩
 ·refine⟨ps++[.pointer (some ⟨b,0,none⟩)],?_,?_⟩
  ·rw[List.length_append,List.length_singleton];exact aB hr ((Kept.refl (fun q=>q=p) w4).setCell (p:=⟨p,8,none⟩) (fun _=>rfl) _) (fun g hg e=>by have:=(hr.lt g hg).1;omega)
  ·refine PartsAt.append (PartsAt.go kA hd hps) ?_;rw[PartsAt];exact⟨b,[],rfl,aX.go kB hd3 hb,by rw[PartsAt]⟩
 ·have:=hm.kept kB (fun e=>e.elim hmo (fun e=>h.pm e.symm));rw[aV,dO,bJ,fG,←Nat.add_assoc,←Nat.add_assoc];exact this
 ·exact h.kept.trans' kA (fun q hq e=>e.elim id (fun e=>e.elim (fun e=>by have:=hoB q e;have:=h.pz;omega) (fun e=>by have:=h.pz;omega)))
end
end Go.Proofs.YtnhjakdmbfadlaaGreatDoor
namespace Go.Proofs.YtnhjakdmbfadlaaGreatDoor
open Go.RowKit Wy Mem Grow
variable {lazy:Bool} {hi k lo:Int} {subs:List Nd} {set:List Rg}
def ptW (m p:Nat) (s mv:Value) (N1:Nat→Prop) (t:Nd) (Gi Pi:Nat) (pv:Value) (n:Nat) (ps:List Value) (W:World):List Value→World→Prop
 |[]=>fun w'=>w'=W.drew
 |[v1]=>fun w'=>∃b,v1= .pointer (some ⟨b,0,none⟩)∧Kept (fun q=>q=m) W w'∧aX N1 w' t Pi Gi b∧Blk w' m (mkC s mv (Gi+opened t) (Pi+nodes t)) 105
 |[v1,v2]=>fun w'=>∃b q,v1= .pointer (some ⟨b,0,none⟩)∧v2= .slice (some ⟨q,0,none⟩) 1 1∧dI w' (.slice (some ⟨q,0,none⟩) 1 1) 1 [.pointer (some ⟨b,0,none⟩)]∧Kept (fun q=>q=m) W w'∧aX N1 w' t Pi Gi b∧Blk w' m (mkC s mv (Gi+opened t) (Pi+nodes t)) 105
 |[_,_,v3]=>fun w'=>∃b w3 o c,Kept (fun q=>q=m) W w3∧aX N1 w3 t Pi Gi b∧Blk w3 m (mkC s mv (Gi+opened t) (Pi+nodes t)) 105∧v3= .slice o (n+1) c∧w'.ownsRow (p+1) 106 1 (.slice o (n+1) c) (n+1) (ps++[.pointer (some ⟨b,0,none⟩)])∧w3.grownBy w' pv.ownBlock∧((Value.slice o (n+1) c).ownBlock=pv.ownBlock∨(Value.slice o (n+1) c).ownBlock=some w3.heap.size)
 |[_,_,_,_]=>fun w'=>∃b w3 w4 o c,Kept (fun q=>q=m) W w3∧aX N1 w3 t Pi Gi b∧Blk w3 m (mkC s mv (Gi+opened t) (Pi+nodes t)) 105∧w4.ownsRow (p+1) 106 1 (.slice o (n+1) c) (n+1) (ps++[.pointer (some ⟨b,0,none⟩)])∧w3.grownBy w4 pv.ownBlock∧((Value.slice o (n+1) c).ownBlock=pv.ownBlock∨(Value.slice o (n+1) c).ownBlock=some w3.heap.size)∧w'=w4.setCell ⟨p,8,none⟩ (.slice o (n+1) c)
 |_=>fun _=>False
theorem LU (s mv:Value) (G0 P0:Nat):((mkC s mv G0 P0).setIfInBounds 2 (.int .i64 ((P0:Int)+1))).setIfInBounds 1 (.int .i64 ((G0:Int)+1))=mkC s mv (G0+1) (P0+1):=by
 unfold mkC;simp
theorem LW (s mv:Value) (G0 P0:Nat):(mkC s mv G0 P0).setIfInBounds 2 (.int .i64 ((P0:Int)+1))=mkC s mv G0 (P0+1):=by
 unfold mkC;simp
theorem FX (ih:∀s∈subs,vO s):vO (.mk k set lo hi lazy subs):=by
 intro N w m s mv G0 P0 cs hm hnd hnew hNm hG hP;rw[ai] at hnd;obtain⟨sv,uv,ucs,rfl,hk,hlo,hhi,hset,hrow,hsubs⟩:=hnd;obtain⟨os,cs,rfl⟩:=hset.row.slice;obtain⟨ou,cu,rfl⟩:=hrow.slice;have HM:=zh hm;have HIH:=zh ih;have vP:=zh hset;have dQ:=zh hrow;have eY:=zh hsubs;have LX:=zh hnew;have hmz:=hm.lt;have hsl:(subs.length:Int)≤1048576:=(by omega);clear hm ih hset hrow hsubs hnew;go_enter Tryz.func42,Tryz.ntmps42
 go_upto_region 1 with fail
 have hB3:Blk (w.alloc (.cells #[.int .u8 k,.slice os set.length cs,.int .i64 lo,.int .i64 hi,.bool lazy,.slice ou subs.length cu] 27)) w.heap.size #[.int .u8 k,.slice os set.length cs,.int .i64 lo,.int .i64 hi,.bool lazy,.slice ou subs.length cu] 27:=Blk.new _ _ _;have hmB:=HM.out.alloc (.cells #[.int .u8 k,.slice os set.length cs,.int .i64 lo,.int .i64 hi,.bool lazy,.slice ou subs.length cu] 27);have hk1:Below w.heap.size w (w.alloc (.cells #[.int .u8 k,.slice os set.length cs,.int .i64 lo,.int .i64 hi,.bool lazy,.slice ou subs.length cu] 27)):=zR.alloc zL _;have hz1:(w.alloc (.cells #[.int .u8 k,.slice os set.length cs,.int .i64 lo,.int .i64 hi,.bool lazy,.slice ou subs.length cu] 27)).heap.size=w.heap.size+1:=by simp
 generalize (w.alloc (.cells #[.int .u8 k,.slice os set.length cs,.int .i64 lo,.int .i64 hi,.bool lazy,.slice ou subs.length cu] 27))=W1 at hB3 hmB hk1 hz1 ⊢;have HZ1:=zh hz1;have HB3:=zh hB3;have HMB:=zh hmB;have HK1:=zh hk1;obtain⟨m1,m2⟩:W1.cell? ⟨m,1,none⟩=some (.int .i64 G0)∧W1.cell? ⟨m,2,none⟩=some (.int .i64 P0):=⟨hmB.cell 1,hmB.cell 2⟩;obtain⟨n0,n1,n2,n3,n4,n5⟩:W1.cell? ⟨w.heap.size,0,none⟩=some (.int .u8 k)∧W1.cell? ⟨w.heap.size,1,none⟩=some (.slice os set.length cs)∧W1.cell? ⟨w.heap.size,2,none⟩=some (.int .i64 lo)∧W1.cell? ⟨w.heap.size,3,none⟩=some (.int .i64 hi)∧W1.cell? ⟨w.heap.size,4,none⟩=some (.bool lazy)∧W1.cell? ⟨w.heap.size,5,none⟩=some (.slice ou subs.length cu):=
  ⟨hB3.cell 0,hB3.cell 1,hB3.cell 2,hB3.cell 3,hB3.cell 4,hB3.cell 5⟩
 have mz:=hmB.lt;have nz:=hB3.lt;clear hB3 hmB hk1 hz1;apply aJ ?hm ?hok [0,1,2,3,4,5,6,7,8,9,10,11] [10] [11] ?hord (fun w'=>w'=W1.drew) (fun L w'=>match L with|[]=>w'=W1.drew|[v]=>v= .pointer (some ⟨W1.heap.size,0,none⟩)∧w'=W1.drew.alloc (.cells (jH k lo hi lazy (.slice os set.length cs) (.slice ou subs.length cu) (.slice none 0 0) P0 G0) 140)|_=>False)
 case hm=>rfl
 case hok=>kernel_rfl
 case hord=>kernel_rfl
 case hb=>
  intro L w' h hl
  match L with
  |[]=>exact h
  |_::_=>simp at hl
 case hw=>rfl
 case h=>
  iterate 10
   apply ae _ rfl rfl rfl rfl
   case h=>
    intro W1 hW K hK
    (obtain rfl:=hW)
    go_wp2_with fail
    exact hK
   simp only[zP,zQ,zB,zC]
  apply ax rfl rfl rfl
  case h=>
   intro W10 hW K hK;obtain rfl:W10=W1.drew:=hW
   go_wp2_with fail
   rename_i heq;simp only[List.nil_append,List.cons.injEq,and_true] at heq;exact⟨heq.symm,rfl⟩
  intro v10 AV;obtain⟨_,rfl,-⟩:=AV;simp only[zP,zQ,zB,zC];iterate 1
   apply ag _ rfl rfl rfl rfl
   case h=>
    intro W1 hW K hK
    go_wp2_with fail
    exact hK
   simp only[zP,zQ,zB,zC]
  refine aG fun W2 h2=> ?_
  obtain⟨-,rfl⟩:=h2;have hp2:Blk (W1.drew.alloc (.cells (jH k lo hi lazy (.slice os set.length cs) (.slice ou subs.length cu) (.slice none 0 0) P0 G0) 140)) W1.heap.size (jH k lo hi lazy (.slice os set.length cs) (.slice ou subs.length cu) (.slice none 0 0) P0 G0) 140:=Blk.new W1.drew _ _;have hm2:Blk (W1.drew.alloc (.cells (jH k lo hi lazy (.slice os set.length cs) (.slice ou subs.length cu) (.slice none 0 0) P0 G0) 140)) m (mkC s mv G0 P0) 105:=HMB.out.drew.alloc _;have hn2:Blk (W1.drew.alloc (.cells (jH k lo hi lazy (.slice os set.length cs) (.slice ou subs.length cu) (.slice none 0 0) P0 G0) 140)) w.heap.size _ _:=HB3.out.drew.alloc _;have hk2:Below w.heap.size w (W1.drew.alloc (.cells (jH k lo hi lazy (.slice os set.length cs) (.slice ou subs.length cu) (.slice none 0 0) P0 G0) 140)):=HK1.out.drew.alloc (by have:=HK1.out.size;exact this) _;have hz2:(W1.drew.alloc (.cells (jH k lo hi lazy (.slice os set.length cs) (.slice ou subs.length cu) (.slice none 0 0) P0 G0) 140)).heap.size=W1.heap.size+1:=by simp
  generalize (W1.drew.alloc (.cells (jH k lo hi lazy (.slice os set.length cs) (.slice ou subs.length cu) (.slice none 0 0) P0 G0) 140))=W2 at hp2 hm2 hn2 hk2 hz2 ⊢;obtain⟨p,hpe⟩:∃p,p=W1.heap.size:=⟨_,rfl⟩;rw[←hpe] at hp2 hz2 ⊢;have hpm:p≠m:=(by omega);have hpB:w.heap.size≤p:=by have:=HK1.out.size;omega
  obtain⟨e,he⟩:∃e,e=if k=6 then 1 else 0:=⟨_,rfl⟩
  have HP2:=zh hp2;obtain⟨a1,a2⟩:W2.cell? ⟨m,1,none⟩=some (.int .i64 G0)∧W2.cell? ⟨m,2,none⟩=some (.int .i64 P0):=⟨hm2.cell 1,hm2.cell 2⟩;have a3:=hm2.lt;have a0:∀i,W2.frozen? ⟨m,i,none⟩=false:=hm2.frozen;obtain⟨b0,b5⟩:W2.cell? ⟨w.heap.size,0,none⟩=some (.int .u8 k)∧W2.cell? ⟨w.heap.size,5,none⟩=some (.slice ou subs.length cu):=⟨hn2.cell 0,hn2.cell 5⟩;have b3:=hn2.lt;have hne:w.heap.size≠m:=(by omega);have hP1:(P0:Int)≤1000000000:=(by omega);have hG1:(G0:Int)≤1000000000:=(by omega);have HGG:=zh hG;have HPP:=zh hP;have HM2:=zh hm2;have HN2:=zh hn2;have HZ2:=zh hz2;have HPE:=zh hpe;have HK2:=zh hk2;clear hz2 hpe hk2 hG hP;have HE:=zh he;clear hm2 hn2 he hp2 m1 m2 n0 n1 n2 n3 n4 n5 mz nz
  go_upto_if 28 with fail
  go_cut [] (fun wx=>rQ N m s mv p k lo hi lazy (.slice os set.length cs) (.slice ou subs.length cu) G0 P0 w [] e (fun q=>N q∧q≠p) wx (.slice none 0 0)∧Blk wx w.heap.size #[.int .u8 k,.slice os set.length cs,.int .i64 lo,.int .i64 hi,.bool lazy,.slice ou subs.length cu] 27)
  case first=>
   by_cases k6:k=6
   ·subst k6
    go_wp2_with fail
    go_meet
    have hk2:=HK2.out;have hz2:=HZ2.out;have hpe:=HPE.out;have hp2:=HP2.out;have hbase:∀W3,Kept (fun q=>q=m) W2 W3→Blk W3 m (mkC s mv (G0+e) (P0+1)) 105→W3.heap.size=W2.heap.size→rQ N m s mv p 6 lo hi lazy (.slice os set.length cs) (.slice ou subs.length cu) G0 P0 w [] e (fun q=>N q∧q≠p) W3 (.slice none 0 0):=by
     intro W3 hk3 hm3 hz3;refine⟨fun q hq=>hq.1,fun q hq hn=>⟨hn,by omega⟩,fun q hq=>⟨LX.out q (by have:=hk2.size;omega),by omega⟩,fun e=>hNm e.1,fun e=>e.2 rfl,hpm,hpB,hp2.kept hk3 (fun e=>hpm e),⟨[],zN,by rw[PartsAt]⟩,fun g hg=>by simp[Value.ownBlock] at hg,by simpa [aj,aF] using hm3,(Kept.of_below hk2 _).trans hk3⟩
    have hm3:=(HM2.out.set 2 (.int .i64 ((P0:Int)+1))).set 1 (.int .i64 ((G0:Int)+1));refine⟨hbase _ (((Kept.refl (fun q=>q=m) W2).setCell (p:=⟨m,2,none⟩) (fun _=>rfl) _).setCell (p:=⟨m,1,none⟩) (fun _=>rfl) _) ?_ (by simp[World.setCell]),(HN2.out.setOther (p:=⟨m,2,none⟩) hne _).setOther (p:=⟨m,1,none⟩) hne _⟩;rw[LU] at hm3;rw[show e=1 by rw[HE.out];rfl];exact hm3
   ·have k6b:(k == 6)=false:=by simpa using k6
    go_wp2_with fail
    go_meet
    have hk2:=HK2.out;have hz2:=HZ2.out;have hpe:=HPE.out;have hp2:=HP2.out;have hbase:∀W3,Kept (fun q=>q=m) W2 W3→Blk W3 m (mkC s mv (G0+e) (P0+1)) 105→W3.heap.size=W2.heap.size→rQ N m s mv p k lo hi lazy (.slice os set.length cs) (.slice ou subs.length cu) G0 P0 w [] e (fun q=>N q∧q≠p) W3 (.slice none 0 0):=by
     intro W3 hk3 hm3 hz3;refine⟨fun q hq=>hq.1,fun q hq hn=>⟨hn,by omega⟩,fun q hq=>⟨LX.out q (by have:=hk2.size;omega),by omega⟩,fun e=>hNm e.1,fun e=>e.2 rfl,hpm,hpB,hp2.kept hk3 (fun e=>hpm e),⟨[],zN,by rw[PartsAt]⟩,fun g hg=>by simp[Value.ownBlock] at hg,by simpa [aj,aF] using hm3,(Kept.of_below hk2 _).trans hk3⟩
    have hm3:=(HM2.out.set 2 (.int .i64 ((P0:Int)+1)));refine⟨hbase _ ((Kept.refl (fun q=>q=m) W2).setCell (p:=⟨m,2,none⟩) (fun _=>rfl) _) ?_ (by simp[World.setCell]),HN2.out.setOther (p:=⟨m,2,none⟩) hne _⟩;rw[LW] at hm3;rw[HE.out,if_neg k6,Nat.add_zero];exact hm3
  case rest=>
   rename World=>W4
   obtain⟨Rk,hn4⟩:=hcut;have HPT4:=zh Rk;have HN4:=zh hn4;have c5:W4.cell? ⟨w.heap.size,5,none⟩=some (.slice ou subs.length cu):=hn4.cell 5;have c5z:=hn4.lt;obtain⟨i0,hi0,hz0,hz1,hz2'⟩:=info_parts Rj;clear Rk hn4 a0 a1 a2 a3 b0 b5 b3
   go_wp2_with fail
   go_loopw [39] (fun s39 wx=>∃(i:Nat) (N1:Nat→Prop) (pv:Value),i≤subs.length∧s39= .int .i64 i∧rQ N m s mv p k lo hi lazy (.slice os set.length cs) (.slice ou subs.length cu) G0 P0 w (subs.take i) e N1 wx pv) (fun s39 _=>subs.length-(intOf s39).toNat)
   case atStart=>exact⟨0,_,_,by omega,rfl,HPT4.out⟩
   case round=>
    rename World=>Wa
    obtain⟨i,N1,pv,hi',rfl,hpt⟩:=hrel;by_cases hil:i<subs.length
    ·obtain⟨ub,uo,uc,hue,huc,hum,Fz,bg,gB⟩:=dQ.out.parts eY.out (by omega);simp only[Value.slice.injEq,true_and] at hue;obtain⟨rfl,rfl⟩:=hue;obtain⟨tsv,tuv,hnt,t0,t1,t2,t3,t4,t5⟩:=gB i hil;have hub:Wa.heap[ub]? =w.heap[ub]? :=hpt.kept.block ub bg (fun e=>hNm (e ▸ Fz));have FB:ai N1 Wa subs[i] [.int .u8 subs[i].kind,tsv,.int .i64 subs[i].lo,.int .i64 subs[i].hi,.bool subs[i].lazy,tuv]:=ai.go hpt.kept (fun q hq hn=>⟨fun e=>hNm (e ▸ hn),hpt.keep q hq hn⟩) hnt;have y7:=hnt;obtain⟨ts,hts⟩:∃ts,ts=subs[i]:=⟨_,rfl⟩;rw[←hts] at t0 t2 t3 t4 FB y7;have hsl1:∃o n c,tsv= .slice o n c:=by
      cases ts;rw[ai] at y7;obtain⟨sv',uv',Lp,h1,-,-,-,h5,h6,-⟩:=y7;simp only[List.cons.injEq] at h1;rw[h1.2.1];obtain⟨o,c,e⟩:=h5.row.slice;exact⟨_,_,_,e⟩
     have hsl2:∃o n c,tuv= .slice o n c:=by
      cases ts;rw[ai] at y7;obtain⟨sv',uv',Lp,h1,-,-,-,h5,h6,-⟩:=y7;simp only[List.cons.injEq] at h1;rw[h1.2.2.2.2.2.1];obtain⟨o,c,e⟩:=h6.slice;exact⟨_,_,_,e⟩
     obtain⟨to1,tn1,tc1,rfl⟩:=hsl1;obtain⟨to2,tn2,tc2,rfl⟩:=hsl2;have g0:=(zW (a:=⟨ub,uo+i*6,none⟩) hub).trans t0;have g1:=(zW (a:=⟨ub,uo+i*6+1,none⟩) hub).trans t1;have g2:=(zW (a:=⟨ub,uo+i*6+2,none⟩) hub).trans t2;have g3:=(zW (a:=⟨ub,uo+i*6+3,none⟩) hub).trans t3;have g4:=(zW (a:=⟨ub,uo+i*6+4,none⟩) hub).trans t4;have g5:=(zW (a:=⟨ub,uo+i*6+5,none⟩) hub).trans t5;have Ej:ub<Wa.heap.size:=hpt.kept.lt bg;have pO:(i:Int)<subs.length:=(by omega);have lK:(subs.length:Int)≤cu:=(by omega);have HPT:=zh hpt;have HNT:=zh FB;have HTS:=zh hts;clear gB hnt y7 FB hts hub t0 t1 t2 t3 t4 t5 hpt;go_upto_region 8 with fail
     have hbC:Below Wa.heap.size Wa (Wa.alloc (.cells #[.int .u8 ts.kind,.slice to1 tn1 tc1,.int .i64 ts.lo,.int .i64 ts.hi,.bool ts.lazy,.slice to2 tn2 tc2] 27)):=zR.alloc zL _;have hB7:Blk (Wa.alloc (.cells #[.int .u8 ts.kind,.slice to1 tn1 tc1,.int .i64 ts.lo,.int .i64 ts.hi,.bool ts.lazy,.slice to2 tn2 tc2] 27)) Wa.heap.size #[.int .u8 ts.kind,.slice to1 tn1 tc1,.int .i64 ts.lo,.int .i64 ts.hi,.bool ts.lazy,.slice to2 tn2 tc2] 27:=Blk.new _ _ _;have Ph:Wa.heap.size<(Wa.alloc (.cells #[.int .u8 ts.kind,.slice to1 tn1 tc1,.int .i64 ts.lo,.int .i64 ts.hi,.bool ts.lazy,.slice to2 tn2 tc2] 27)).heap.size:=by simp
     generalize (Wa.alloc (.cells #[.int .u8 ts.kind,.slice to1 tn1 tc1,.int .i64 ts.lo,.int .i64 ts.hi,.bool ts.lazy,.slice to2 tn2 tc2] 27))=Wc at hbC hB7 Ph ⊢;have Dh:rQ N m s mv p k lo hi lazy (.slice os set.length cs) (.slice (some ⟨ub,uo,none⟩) subs.length cu) G0 P0 w (subs.take i) e N1 Wc pv:=HPT.out.below hbC;have Rl:ai N1 Wc ts [.int .u8 ts.kind,.slice to1 tn1 tc1,.int .i64 ts.lo,.int .i64 ts.hi,.bool ts.lazy,.slice to2 tn2 tc2]:=ai.go (zK hbC) (fun q _ hn=>⟨id,hn⟩) HNT.out;obtain⟨ps,ho1,ho2⟩:=Dh.own;obtain⟨opv,cpv,rfl⟩:=ay ho1;have hlt:(subs.take i).length=i:=by rw[List.length_take];omega
     rw[hlt] at ho1;have h7m:Wa.heap.size≠m:=by have:=HPT.out.maker.lt;omega
     have h7p:Wa.heap.size≠p:=by have:=HPT.out.part.lt;omega
     have bQ:∀q,(Value.slice opv (subs.take i).length cpv).ownBlock=some q→q≠p∧q≠Wa.heap.size:=fun q hq=>by
      obtain⟨ps',hh,-⟩:=HPT.out.own;have:=hh.lt q hq;omega
     have Pj:=Dh.ownM;have hdr:Below Wc.heap.size Wc Wc.drew:=zR.drew;have hcall:=HIH.out ts (by rw[HTS.out];exact List.getElem_mem hil) N1 Wc.drew m s mv (G0+e+aj (subs.take i)) (P0+1+aF (subs.take i)) _ (Dh.below hdr).maker (ai.go (zK hdr) (fun q _ hn=>⟨id,hn⟩) Rl) (Dh.below hdr).new Dh.noM
      (by have:=HGG.out;rw[opened] at this;have:=lI hil;rw[←HTS.out] at this;have:=HE.out;omega) (by have:=HPP.out;rw[nodes] at this;have:=jw hil;rw[←HTS.out] at this;omega)
     rw[hlt] at bQ Pj;have aS:=zh hcall;have y8:=zh Dh;have HO1:=zh ho1;have HO2:=zh ho2;have HB7:=zh hB7;have IG:=zh bQ;have HNOM:=zh Pj;have HAZ:=zh Ph;have HLT:=zh hlt;have H7M:=zh h7m;have ng:i+1≤maxLen:=by unfold maxLen;omega
     have lM:(i+1)*8≤140737488355328:=(by omega);rw[hlt] at y8;clear hcall Dh Rl ho1 ho2 hB7 bQ Pj Ph hdr hbC hlt g0 g1 g2 g3 g4 g5 h7m;apply aJ ?hm ?hok [0,1,2,3,4,5,6,7,8,9,10,11,12] [7,8,9,12] [] ?hord (fun w'=>Blk w' p (jH k lo hi lazy (.slice os set.length cs) (.slice (some ⟨ub,uo,none⟩) subs.length cu) (.slice opv i cpv) P0 G0) 140∧Blk w' Wa.heap.size #[.int .u8 ts.kind,.slice to1 tn1 tc1,.int .i64 ts.lo,.int .i64 ts.hi,.bool ts.lazy,.slice to2 tn2 tc2] 27) (ptW m p s mv N1 ts (G0+e+aj (subs.take i)) (P0+1+aF (subs.take i)) (.slice opv i cpv) i ps Wc)
     case hm=>rfl
     case hok=>kernel_rfl
     case hord=>kernel_rfl
     case hb=>
      intro L w' h hl;have hP0:=y8.out.part
      match L with
      |[]=>obtain rfl:w'=Wc.drew:=h;exact⟨hP0,HB7.out⟩
      |[_]=>obtain⟨b,-,h1,-⟩:=h;exact⟨hP0.kept h1 y8.out.pm,HB7.out.kept h1 H7M.out⟩
      |[_,_]=>obtain⟨b,q,-,-,-,h1,-⟩:=h;exact⟨hP0.kept h1 y8.out.pm,HB7.out.kept h1 H7M.out⟩
      |[_,_,_]=>
       obtain⟨b,w3,o,c,h1,-,-,-,-,h2,-⟩:=h;exact⟨(hP0.kept h1 y8.out.pm).kept (Kept.bK h2) (fun e=>(IG.out _ e).1 rfl),(HB7.out.kept h1 H7M.out).kept (Kept.bK h2) (fun e=>(IG.out _ e).2 rfl)⟩
      |_::_::_::_::_=>
       exfalso;rw[show(List.filter (fun j=>[7,8,9,12].contains j) [0,1,2,3,4,5,6,7,8,9,10,11,12]).length=4 by decide] at hl;simp only[List.length_cons] at hl;omega
     case hw=>rfl
     case h=>
      iterate 7
       apply ae _ rfl rfl rfl rfl
       case h=>
        intro W1 hW K hK
        (obtain⟨hWp,hW7⟩:=hW;have w8:W1.cell? ⟨p,8,none⟩=some (.slice opv i cpv):=hWp.cell 8;have w8z:=hWp.lt;obtain⟨x0,x1,x2,x3,x4,x5,x7z⟩:=zS hW7;clear hWp hW7)
        go_wp2_with fail
        exact hK
       simp only[zP,zQ,zB,zC]
      apply ax rfl rfl rfl
      case h=>
       intro W10 hW K hK;obtain rfl:W10=Wc.drew:=hW
       go_wp2_with (go_at_call 42;refine aS.out.mono ?_;rintro e w' ⟨b,rfl,hb1,hb2,hb3⟩)
       exact⟨b,rfl,(Kept.of_below (zR.drew) _).trans hb3,hb1,hb2⟩
      intro v1 hv1;obtain⟨_,b,rfl,-⟩:∃w',∃b,v1= .pointer (some ⟨b,0,none⟩)∧Kept (fun q=>q=m) Wc w'∧aX N1 w' ts (P0+1+aF (subs.take i)) (G0+e+aj (subs.take i)) b∧Blk w' m (mkC s mv (G0+e+aj (subs.take i)+opened ts) (P0+1+aF (subs.take i)+nodes ts)) 105:=hv1;simp only[zP,zQ,zB,zC];apply ax rfl rfl rfl
      case h=>
       intro W10 hW K hK;obtain⟨b',hb',hk3,hp3,hm3⟩:=hW;simp only[Value.pointer.injEq,Option.some.injEq,Addr.mk.injEq,true_and,and_true] at hb';have HK3:=zh hk3;have HP3:=zh hp3;have HM3:=zh hm3;have HB':=zh hb';clear hb' hk3 hp3 hm3
       go_wp2_with fail
       have hb':=HB'.out;subst hb';have hnb:=Blk.new W10 #[.pointer (some ⟨b,0,none⟩)] 106;refine⟨b,W10.heap.size,rfl,rfl,.inr ⟨_,_,rfl,fun j u hu=> ?_⟩,HK3.out.alloc _,aX.go ((Kept.refl (fun _=>False) W10).alloc _) (fun q _ hn=>⟨id,hn⟩) HP3.out,HM3.out.alloc _⟩
       match j with
       |0=>simp at hu;subst hu;simp[Addr.add,hnb.cell]
       |j+1=>simp at hu
      intro v2 hv2;obtain⟨_,b',q,-,rfl,-⟩:∃(w':World) (b' q:Nat),(Value.pointer (some ⟨b,0,none⟩))= .pointer (some ⟨b',0,none⟩)∧v2= .slice (some ⟨q,0,none⟩) 1 1∧dI w' (.slice (some ⟨q,0,none⟩) 1 1) 1 [.pointer (some ⟨b',0,none⟩)]∧Kept (fun q=>q=m) Wc w'∧aX N1 w' ts (P0+1+aF (subs.take i)) (G0+e+aj (subs.take i)) b'∧Blk w' m (mkC s mv (G0+e+aj (subs.take i)+opened ts) (P0+1+aF (subs.take i)+nodes ts)) 105:=hv2;simp only[zP,zQ,zB,zC];apply ax rfl rfl rfl
      case h=>
       intro W10 hW K hK;obtain⟨b',q',hb',hq',hsrc,hk3,hp3,hm3⟩:=hW;simp only[Value.slice.injEq,Option.some.injEq,Addr.mk.injEq,true_and,and_true] at hq';subst hq';refine aY _ _ 138 rfl Tryz.underlying138 hi0 hz0 hz1 hz2' rfl (.slice opv i cpv) i ps rfl (aB HO1.out hk3 (fun g hg e=>HNOM.out (e ▸ hg))) _ 1 _ rfl hsrc rfl (by simp[Value.oneCell']) ng lM (by have:=hk3.size;have:=y8.out.part.lt;omega) ?_;intro v' w' h1 h2 h3 h4;obtain⟨ov,cv,rfl⟩:=ay h1;exact hK _ _ ⟨b',W10,ov,cv,hk3,hp3,hm3,rfl,h1,h2,h3⟩
      intro v3 hv3;obtain⟨_,_,_,o3,c3,-,-,-,rfl,-⟩:=hv3;simp only[zP,zQ,zB,zC];apply ae _ rfl rfl rfl rfl
      case h=>
       intro W1 hW K hK
       go_wp2_with fail
       exact hK
      simp only[zP,zQ,zB,zC];apply ae _ rfl rfl rfl rfl
      case h=>
       intro W1 hW K hK
       go_wp2_with fail
       exact hK
      simp only[zP,zQ,zB,zC];apply ax rfl rfl rfl
      case h=>
       intro W10 hW K hK;obtain⟨b',w3,o4,c4,hk3,hp3,hm3,he3,hr3,hg3,hv3⟩:=hW;simp only[Value.slice.injEq,true_and] at he3;obtain⟨rfl,rfl⟩:=he3;have hPP:=(y8.out.part.kept hk3 y8.out.pm).kept (Kept.bK hg3) (fun e=>(IG.out _ e).1 rfl);have w8:W10.cell? ⟨p,8,none⟩=some (.slice opv i cpv):=hPP.cell 8;have w8z:=hPP.lt;have w8f:=hPP.frozen 8;have hend:ptW m p s mv N1 ts (G0+e+aj (subs.take i)) (P0+1+aF (subs.take i)) (.slice opv i cpv) i ps Wc [.pointer (some ⟨b,0,none⟩),.slice (some ⟨q,0,none⟩) 1 1,.slice o3 (i+1) c3,undef] (W10.setCell ⟨p,8,none⟩ (.slice o3 (i+1) c3)):=
        ⟨b',w3,W10,o3,c3,hk3,hp3,hm3,hr3,hg3,hv3,rfl⟩
       have dL:=zh hend;clear hend hk3 hp3 hm3 hr3 hg3 hv3 hPP
       go_wp2_with fail
       exact hK undef _ dL.out
      intro v4 hv4;simp only[zP,zQ,zB,zC];refine aG fun W11 h11=> ?_
      obtain⟨b',w3,w4,o4,c4,hk3,hp3,hm3,hr3,hg3,hv3,rfl⟩:=h11;have hmore:=y8.out.more HO2.out hk3 hp3 hm3 (by rw[HLT.out];exact hr3) hg3 hv3;have htk:subs.take i++[ts]=subs.take (i+1):=by rw[HTS.out,List.take_succ_eq_append_getElem hil]
      rw[htk] at hmore;have Bh:=zh hmore;clear hmore hk3 hp3 hm3 hr3 hg3 hv3 htk
      go_wp2_with fail
      go_roundw
      case rel=>exact⟨i+1,_,_,by omega,by go_num,Bh.out⟩
      case measure=>simp[intOf];omega
    ·obtain rfl:i=subs.length:=(by omega);obtain⟨ps,ho1,ho2⟩:=hpt.own;have hend:Prt N w m s mv (.mk k set lo hi lazy subs) G0 P0 (.returned (.pointer (some ⟨p,0,none⟩))) Wa:=by
      have hmk:=hpt.maker;rw[List.take_length] at ho1 ho2 hmk;refine⟨p,rfl,?_,?_,hpt.kept⟩
      ·rw[aX];refine⟨.slice os set.length cs,.slice ou subs.length cu,pv,ps,hpt.part,LX.out p hpB,⟨hk.1,hk.2.1,hk.2.2,⟨_,_,_,rfl⟩⟩,hlo,hhi,dG.go vP.out hpt.kept (fun q _ hn=>⟨fun e=>hNm (e ▸ hn),hn⟩),Row.dD ho1 (fun q hq _=>LX.out q (by omega)),?_⟩;rw[←HE.out];exact PartsAt.go (Kept.refl (fun _=>False) Wa) (fun q _ hn=>⟨id,hpt.sub q hn⟩) ho2
      ·rw[opened,nodes,←HE.out];have e1:G0+(e+aj subs)=G0+e+aj subs:=(by omega);have e2:P0+(aF subs+1)=P0+1+aF subs:=(by omega);rw[e1,e2];exact hmk
     have dL:=zh hend;clear hend hpt ho1 ho2
     go_wp2_with fail
     exact bodyPost_ret (v:= .pointer (some ⟨p,0,none⟩)) (by simp[results,Tryz.results42,go_sem]) rfl dL.out
theorem vS:∀t:Nd,vO t
 | .mk k set lo hi lazy subs=>FX (fun s hs=>vS s)
termination_by t=>SizeOf.sizeOf t
decreasing_by
 have:=List.sizeOf_lt_of_mem hs;simp;omega
variable {l:List Wy.Way} {G L:Nat} {N:Nat→Prop} {v:Value} {w:World}
def Cpy (G L:Nat) (l:List Wy.Way) (w:World) (e:Ending) (w':World):Prop:=
 ∃v',e= .returned v'∧(∃cs,w'.ownsRow w.heap.size 43 2 v' l.length cs∧aH (fun q=>w.heap.size≤q∧v'.ownBlock≠some q) w' G L l cs)∧Below w.heap.size w w'
theorem Di (h:aI N w G L v l) (hn:l.length≤500) (hL:L≤1000000):Calls Tryz.prog 44 #[v] w (Cpy G L l w):=by
 obtain⟨ov,cv,rfl⟩:=h.slice;obtain⟨cs,hr,hw⟩:=h;have hcl:=pR hr hw.oneCell (by omega);have HCL:=zh hcl;have HW:=zh hw;have hnI:(l.length:Int)≤500:=(by omega);clear hcl hr hw;go_enter Tryz.func44,Tryz.ntmps44
 go_wp2_with (go_at_call 71;refine HCL.out.mono ?_;rintro e w1 ⟨v1,rfl,hown1,hb1⟩;obtain⟨o1,c1,rfl⟩:=ay hown1;have HO1:=zh hown1;have HB1:=zh hb1;clear hown1 hb1)
 go_loopw [9] (fun s9 wx=>∃(j:Nat) (cs1 cs2:List Value),j≤l.length∧s9= .int .i64 j∧cs1.length=j*2∧wx.ownsRow w.heap.size 43 2 (.slice o1 l.length c1) l.length (cs1++cs2)∧aH (fun q=>w.heap.size≤q∧(Value.slice o1 l.length c1).ownBlock≠some q) wx G L (l.take j) cs1∧aH (fun q=>N q∧q<w.heap.size) wx G L (l.drop j) cs2∧Below w.heap.size w wx) (fun s9 _=>l.length-(intOf s9).toNat)
 case atStart=>exact⟨0,[],cs,by omega,rfl,rfl,HO1.out,by rw[List.take_zero];rfl,HW.out.go (zK HB1.out) (fun q hq hn=>⟨id,hn,hq⟩),HB1.out⟩
 case round=>
  rename World=>Wa
  obtain⟨j,cs1,cs2,hj,rfl,hl1,hro,hw1,hw2,hbw⟩:=hrel;have HRO:=zh hro;have HW1:=zh hw1;have HBW:=zh hbw;by_cases hjl:j<l.length
  ·obtain⟨g,cg,heg,hg1,hg2,hnc⟩:=gJ hro (by omega);simp only[Value.slice.injEq,true_and] at heg;obtain⟨rfl,rfl⟩:=heg;rw[List.drop_eq_getElem_cons hjl] at hw2;obtain⟨x,hx⟩:∃x,x=l[j]:=⟨_,rfl⟩;rw[←hx] at hw2;obtain⟨svx,q2,rfl,hsx,hxl,hw3⟩:=hw2;obtain⟨so,sc,rfl⟩:=hsx.row.slice;have y0:Wa.cell? ⟨g,j*2,none⟩=some (.int .i64 x.stop):=by rw[hro.cellAt (j*2) (by omega),List.getElem?_append_right (by omega),hl1,Nat.sub_self];rfl
   have y1:Wa.cell? ⟨g,j*2+1,none⟩=some (.slice so x.spans.length sc):=by rw[hro.cellAt (j*2+1) (by omega),List.getElem?_append_right (by omega),hl1,show j*2+1-j*2=1 by omega];rfl
   have hbA:Below Wa.heap.size Wa (Wa.alloc (.cells #[.int .i64 x.stop,.slice so x.spans.length sc] 43)):=zR.alloc zL _;have hcs:=lL (hsx.go (zK hbA) (fun q _ hn=>⟨id,hn⟩)).row (mX _) (by have:=hsx.small;omega);have HCS:=zh hcs;have HSX:=zh hsx;have HW3:=zh hw3;have HX:=zh hx;have HXL:=zh hxl;have HL1:=zh hl1;have O8:(j:Int)<l.length:=(by omega);have hcI:(l.length:Int)≤c1:=(by omega);clear hcs hsx hw3 hx hxl hro hw1 hbw hbA hl1
   go_wp2_with (first|(go_at_call 72;refine HCS.out.mono ?_;rintro e w5 ⟨nv,rfl,hown5,hb5⟩;obtain⟨o5,c5,rfl⟩:=ay hown5;have HO5:=zh hown5;have HB5:=zh (((Below.refl Wa.heap.size Wa).alloc zL (.cells #[.int .i64 x.stop,.slice so x.spans.length sc] 43)).trans (hb5.mono (by simp)));have HR5:=zh (aB HRO.out (zK HB5.out) (fun _ _=>id));have y15:w5.cell? ⟨g,j*2+1,none⟩=some (.slice so x.spans.length sc):=(HB5.out.cell (p:=⟨g,j*2+1,none⟩) hg2).trans y1;have f15:w5.frozen? ⟨g,j*2+1,none⟩=false:=HR5.out.frozenAt _;clear hown5 hb5))
   have k6:Kept (fun q=>q=g) Wa (w5.setCell ⟨g,j*2+1,none⟩ (.slice o5 x.spans.length c5)):=(Kept.of_below HB5.out (fun q=>q=g)).setCell (p:=⟨g,j*2+1,none⟩) (fun _=>rfl) _;have hR6:=(HR5.out.stored (j*2+1) (.slice o5 x.spans.length c5)).1;have hset:(cs1++ .int .i64 x.stop:: .slice so x.spans.length sc::q2).set (j*2+1) (.slice o5 x.spans.length c5)=(cs1++[.int .i64 x.stop,.slice o5 x.spans.length c5])++q2:=by
    rw[List.set_append_right _ _ (by rw[HL1.out];omega),HL1.out,show j*2+1-j*2=1 by omega,List.append_assoc]
    rfl
   rw[hset] at hR6;have hO6:(w5.setCell ⟨g,j*2+1,none⟩ (.slice o5 x.spans.length c5)).ownsRow (Wa.heap.size+1) 57 2 (.slice o5 x.spans.length c5) x.spans.length (x.spans.flatMap bP):=
    aB (iy HO5.out (by simp)) ((Kept.refl (fun q=>q=g) w5).setCell (p:=⟨g,j*2+1,none⟩) (fun _=>rfl) _) (fun q hq e=>by have:=(HO5.out.lt q hq).1;simp at this;omega)
   have hnew:aC (fun q=>w.heap.size≤q∧(Value.slice (some ⟨g,0,none⟩) l.length c1).ownBlock≠some q) (w5.setCell ⟨g,j*2+1,none⟩ (.slice o5 x.spans.length c5)) (.slice o5 x.spans.length c5) x.spans:=
    ⟨Row.dD hO6 (fun q hq _=>⟨by have:=HBW.out.size;omega,by simp[Value.ownBlock];omega⟩),HSX.out.ok,HSX.out.small⟩
   have Pm:=(HW1.out.go (M:=fun q=>w.heap.size≤q∧(Value.slice (some ⟨g,0,none⟩) l.length c1).ownBlock≠some q) k6 (fun q _ hn=>⟨fun e=>hn.2 (by rw[e];rfl),hn⟩)).append (aH.one (x:=x) hnew HXL.out.1 HXL.out.2);have Pn:=HW3.out.go (M:=fun q=>N q∧q<w.heap.size) k6 (fun q _ hn=>⟨fun e=>by omega,hn⟩);have Po:Below w.heap.size w (w5.setCell ⟨g,j*2+1,none⟩ (.slice o5 x.spans.length c5)):=(HBW.out.trans (HB5.out.mono HBW.out.size)).setCell (by show w.heap.size≤g;omega) _;go_roundw
   case rel=>exact⟨j+1,_,q2,by omega,by go_num,by rw[List.length_append,HL1.out];simp;omega,hR6,by rw[List.take_succ_eq_append_getElem hjl,←HX.out];exact Pm,Pn,Po⟩
   case measure=>simp[intOf];omega
  ·obtain rfl:j=l.length:=(by omega);have hend:Cpy G L l w (.returned (.slice o1 l.length c1)) Wa:=by
    rw[List.drop_length,aH] at hw2;subst hw2;rw[List.append_nil] at hro;rw[List.take_length] at hw1;exact⟨_,rfl,⟨cs1,hro,hw1⟩,hbw⟩
   have dL:=zh hend;clear hend hro hw1 hw2 hbw hl1
   go_wp2_with fail
   go_ret
   exact dL.out
end Go.Proofs.YtnhjakdmbfadlaaGreatDoor
