/- Parts of the proof. Conditions: none. -/
import Derived.Test.YtnhjakdmbfadlaaGreatDoorRows
import Derived.Test.YtnhjakdmbfadlaaGreatDoorT05
import Derived.Test.YtnhjakdmbfadlaaGreatDoorT04
import Derived.Test.YtnhjakdmbfadlaaGreatDoorT06
import Derived.ProofKit
import Derived.Deep.Slices
import Derived.Deep.Fields
import Derived.ChangeSame
import Derived.OpenShut
import Derived.LaidMore
import Derived.Lay
import Derived.Lib.LaidU8
import Derived.Stop.Joined
import Derived.Test.YtnhjakdmbfadlaaGreatDoorT00
set_option linter.all false
set_option maxHeartbeats 8000000
set_option maxRecDepth 100000
namespace Go.Proofs.YtnhjakdmbfadlaaGreatDoor
open Go.ChangeShapes Go.WideShapes Go.ChangeAt Go.RowKit Go.Deep
variable {z:Int} {cs:List Value} {cap len n:Nat} {W:World}
open Mem Wy
theorem LG:ownKnob Tryz.prog.godebug=none:=by kernel_rfl
theorem tu:laidOutB Tryz.prog=true:=by kernel_rfl
def Bd:List (String×DataW Unit):=Rows.waysWrongRow.laid
theorem LH:U8Extra Tryz.prog Tryz.tq:=⟨by kernel_rfl,by kernel_rfl,by kernel_rfl,by kernel_rfl,by kernel_rfl,by kernel_rfl,by kernel_rfl⟩
theorem Ip:Rows.laid_unicode_utf8_first=Lib.firstData:=by kernel_rfl
theorem FN:Rows.laid_unicode_utf8_acceptRanges=Lib.acceptData:=by kernel_rfl
noncomputable def LJ:Array Field:=match Tryz.prog.underlying 57 with
 |some (.struct fs)=>fs
 |_=> #[]
theorem heSp:Tryz.prog.underlying 57=some (.struct LJ):=by kernel_rfl
theorem FO (h:laidMetH Tryz.prog Bd W):Lib.Utf8Tabs 0 1 W∧bu W:=by
 rw[MakeChecks.laidMetH_plain _ _ _ (by kernel_rfl)] at h;have r1 := Lib.laidMet.reads h (n := "unicode/utf8.acceptRanges") (d := Rows.laid_unicode_utf8_acceptRanges) (.head _);have r2 := Lib.laidMet.reads h (n := "gauger/ways.none") (d := Rows.laid_gauger_ways_none) (.tail _ (.head _));have r3 := Lib.laidMet.reads h (n := "unicode/utf8.first") (d := Rows.laid_unicode_utf8_first) (.tail _ (.tail _ (.head _)));rw[FN] at r1;have r3' : Lib.VarReads Tryz.prog W "unicode/utf8.first" Lib.firstData := by
  rwa [Ip] at r3
 refine⟨utf8Tabs_of_reads Tryz.lays260 LH r3' r1,?_⟩;obtain⟨g,t,cs,fuel,p,hg,hty,hvar,hd⟩:=r2;obtain rfl := zI ((show Tryz.prog.globalNamed "gauger/ways.none" = some 2 by kernel_rfl).symm.trans hg);obtain rfl:=zI ((show(Tryz.prog.globals[2]?).map (·.type)=some 57 by kernel_rfl).symm.trans hty);have hcs:cs.toList=[(-1:Int),(-1:Int)].map fun z=>Value.int .i64 z:=Lib.ints_of_struct (k:= .i64) (zs:=[-1,-1]) heSp (by
  intro i f hf;have hs:LJ.size=2:=by kernel_rfl
  have hi:i<2:=by
   by_cases h:i<LJ.size
   ·omega
   ·rw[Array.getElem?_eq_none (by omega)] at hf;cases hf
  have key:∀j,j<2→(LJ[j]?).map (fun f=>(f.type,f.offset))=some (3,j):=by
   intro j hj;rcases(show j=0∨j=1 by omega) with rfl|rfl
   ·kernel_rfl
   ·kernel_rfl
  have k:=key i hi;rw[hf] at k;simp only[Option.map_some,Option.some.injEq,Prod.mk.injEq] at k;rw[k.1];exact⟨by kernel_rfl,k.2,by kernel_rfl⟩) (by kernel_rfl) hd
 have h0:=World.var?_cell hg hvar 0;have h1:=World.var?_cell hg hvar 1;rw[←Array.getElem?_toList,hcs] at h0 h1;refine⟨?_,h0,h1⟩;by_cases hz:2<W.heap.size
 ·exact hz
 ·unfold World.cell? at h0;rw[Array.getElem?_eq_none (by simpa using hz)] at h0;simp at h0
theorem LK {α:Type} {P:Nat→α→Prop} (h:∀i,i<n→∃s,P i s):∃S:List α,S.length=n∧∀(i:Nat) (hi:i<S.length),P i S[i]:=by
 induction n with
 |zero=>exact⟨[],rfl,fun i hi=>absurd hi (by simp)⟩
 |succ n ih=>
  obtain⟨S,hl,hS⟩:=ih fun i hi=>h i (by omega)
  obtain⟨s,hs⟩:=h n (by omega);refine⟨S++[s],by simp[hl],fun i hi=> ?_⟩;by_cases e:i<S.length
  ·rw[List.getElem_append_left e];exact hS i e
  ·have e2:i=n:=by simp at hi;omega
   subst e2;rw[List.getElem_append_right (by omega)]
   simpa [hl] using hs
noncomputable def Iq:Array Field:=match Tryz.prog.underlying 92 with
 |some (.struct fs)=>fs
 |_=> #[]
theorem heSm:Tryz.prog.underlying 92=some (.struct Iq):=by kernel_rfl
theorem Eu:Tryz.prog.cellsOf 92=3:=by kernel_rfl
theorem CW:Tryz.prog.cellsOf 5=1:=by kernel_rfl
theorem Ew:Tryz.prog.underlying 22=some (.slice 92):=by kernel_rfl
theorem Ir (j:Nat) (t:TypeId) (o:Nat) (h:Iq[j]?.map (fun f=>(f.type,f.offset))=some (t,o)):∃f,Iq[j]? =some f∧f.type=t∧f.offset=o:=by
 cases e:Iq[j]? with
 |none=>rw[e] at h;cases h
 |some f=>rw[e] at h;simp at h;exact⟨f,rfl,h.1,h.2⟩
theorem Iu (h:(Lit.int .u8 z).wf=true):∃n:Nat,z=n∧n<256:=by
 have:=bounds_u8 h;exact⟨z.toNat,by omega,by omega⟩
theorem FP {H:Type} {enc:TypeId×Value→H} {x:DataW H×List MemPlace} (h:DataW.trod enc Tryz.prog W 0 (fun _=>true) true n 92 cs=some x):
  ∃s:Sm,(s.kind<256∧s.a<256∧s.b<256)∧cs=qJ s:=by
 obtain⟨xs,k,-,-,hl,hx,hf⟩:=DataW.trod_struct heSm h;rw[Eu] at hl
 match cs,hl with
 |[c0,c1,c2],_=>
  obtain⟨f0,e0,t0,o0⟩:=Ir 0 5 0 (by kernel_rfl);obtain⟨f1,e1,t1,o1⟩:=Ir 1 5 1 (by kernel_rfl);obtain⟨f2,e2,t2,o2⟩:=Ir 2 5 2 (by kernel_rfl);have hs:Iq.size=3:=by kernel_rfl
  have g0:=hf 0 f0 e0;have g1:=hf 1 f1 e1;have g2:=hf 2 f2 e2;rw[t0,o0,CW,List.getElem?_eq_getElem (by omega)] at g0;rw[t1,o1,CW,List.getElem?_eq_getElem (by omega)] at g1;rw[t2,o2,CW,List.getElem?_eq_getElem (by omega)] at g2;obtain⟨z0,a0,-,w0⟩:=DataW.trod_int (k:= .u8) (by kernel_rfl) g0;obtain⟨z1,a1,-,w1⟩:=DataW.trod_int (k:= .u8) (by kernel_rfl) g1;obtain⟨z2,a2,-,w2⟩:=DataW.trod_int (k:= .u8) (by kernel_rfl) g2;simp at a0 a1 a2;subst a0 a1 a2;obtain⟨n0,rfl,b0⟩:=Iu w0;obtain⟨n1,rfl,b1⟩:=Iu w1;obtain⟨n2,rfl,b2⟩:=Iu w2;exact⟨⟨n0,n1,n2⟩,⟨b0,b1,b2⟩,rfl⟩
theorem CX {H:Type} {enc:TypeId×Value→H} {a:Option Addr} {d:DataW H} {p:List MemPlace} (h:DataW.Trod enc Tryz.prog W 0 (fun _=>true) true 22 (.slice a len cap) d p):∃L,xQ (fun _=>True) W (.slice a len cap) L∧L.length≤9223372036854775807:=by
 obtain⟨fuel,hf⟩:=h;rcases open_slice Ew hf with⟨hcs,-⟩|⟨x,l,c,m,n,D,Pl,hcs,hb,hl,hm,hmm,hx,hi⟩
 ·simp[Value.cells] at hcs;obtain⟨rfl,rfl,rfl⟩:=hcs;exact⟨[],⟨⟨rfl,.inl ⟨rfl,_,_,rfl⟩⟩,fun x hx=>by cases hx⟩,by simp⟩
 ·simp[Value.cells] at hcs;obtain⟨rfl,rfl,rfl⟩:=hcs;rw[Eu] at hi;simp at hmm;have hmx:len≤9223372036854775807:=by unfold maxLen at hm;omega
  obtain⟨S,hS,hP⟩:=LK (α:=Sm) (n:=len) (P:=fun(i:Nat) (s:Sm)=>(s.kind<256∧s.a<256∧s.b<256)∧∀j,j<3→W.cell? ((x.add (i*3)).add j)=(qJ s)[j]?) (fun i hil=>by
   obtain⟨cs',hc,ht⟩:=hi i (by omega);obtain⟨s,hu,e⟩:=FP ht;obtain⟨-,-,hat⟩:=World.cells?_some hc;refine⟨s,hu,fun j hj=> ?_⟩;have:=hat j hj;rw[this,e])
  subst hS;refine⟨S,⟨⟨iZ (f:=qJ) (n:=3) (fun _=>rfl) _,?_⟩,fun s hs=> ?_⟩,hmx⟩
  ·by_cases h0:S.length=0
   ·exact .inl ⟨h0,_,_,by rw[h0]⟩
   ·obtain⟨b,off,spot⟩:=x;have h00:=(hP 0 (by omega)).2 0 (by omega);have hspot:spot=none:=by simpa [Addr.add] using World.cell?_spot h00
    subst hspot;refine .inr ⟨b,off,_,rfl,hl,hm,trivial,?_,fun j hj=> ?_⟩
    ·rcases Nat.lt_or_ge b W.heap.size with h|h
     ·exact h
     ·exfalso;simp only[Nat.zero_mul,add_add,Nat.add_zero] at h00;unfold World.cell? at h00;rw[show(({block:=b,off:=off}:Addr).add 0).block=b by rfl,Array.getElem?_eq_none h] at h00;simp[qJ] at h00
    ·rw[iZ (f:=qJ) (n:=3) (fun _=>rfl)] at hj;have hq:j/3<S.length:=(by omega);have e:=qx (f:=qJ) (n:=3) (fun _=>rfl) S (j/3) (j%3) hq (by omega);rw[show j/3*3+j%3=j by omega] at e;rw[e,←(hP (j/3) hq).2 (j%3) (by omega),add_add,show j/3*3+j%3=j by omega];unfold Addr.add;by_cases hj0:j=0
     ·subst hj0;simp
     ·simp[hj0]
  ·obtain⟨i,hi',rfl⟩:=List.getElem_of_mem hs;exact(hP i hi').1
end Go.Proofs.YtnhjakdmbfadlaaGreatDoor
