/- Parts of the proof. Conditions: none. -/
import Derived.Test.YtnhjakdmbfadlaaGreatDoorT04
import Derived.Maps.Keyed
import Derived.DeepKeys4
import Derived.Test.YtnhjakdmbfadlaaGreatDoorT00
set_option linter.all false
set_option maxHeartbeats 8000000
set_option maxRecDepth 100000
namespace Go.Proofs.YtnhjakdmbfadlaaGreatDoor
open Go.RowKit Wy Mem Grow
open Go.ChangeMaps (setBlock heap_setBlock_same heap_setBlock_other modify_eq_set)
theorem laidOut:laidOutB Tryz.prog=true:=by kernel_rfl
theorem IP:(142:TypeId)<Tryz.prog.types.size:=of_decide_eq_true (by kernel_rfl)
theorem L9:(match Tryz.prog.underlying 142 with|some (.array _ _)|some (.struct _)=>true|_=>false)=true:=by kernel_rfl
theorem pW:WideMaps.KeyLaw Tryz.prog 142:=
 deep_law_laid laidOut (m:=2) (by omega) IP (by kernel_rfl) L9
def rU (n p:Nat):Value:= .agg #[.int .i64 n,.int .i64 p]
theorem IQ {n p n' p':Nat} (h:rU n p=rU n' p'):n=n'∧p=p':=by
 simp only[rU,Value.agg.injEq,Array.mk.injEq,List.cons.injEq,Value.int.injEq,true_and,and_true] at h;exact⟨by omega,by omega⟩
theorem Dk (n p:Nat) (hn:n≤1000000000) (hp:p≤32):∃l,keyOf Tryz.prog 142 (rU n p)=some l:=by
 have e1:(Lit.int .i64 n).wf=true:=by
  simp only[Lit.wf,show IntKind.min .i64= -9223372036854775808 from rfl,show IntKind.max .i64=9223372036854775807 from rfl,Bool.and_eq_true,decide_eq_true_eq];omega
 have e2:(Lit.int .i64 p).wf=true:=by
  simp only[Lit.wf,show IntKind.min .i64= -9223372036854775808 from rfl,show IntKind.max .i64=9223372036854775807 from rfl,Bool.and_eq_true,decide_eq_true_eq];omega
 have hc:Tryz.prog.cellsOf 142=2:=by kernel_rfl
 have hc3:Tryz.prog.cellsOf 3=1:=by kernel_rfl
 have hkt:Tryz.prog.keyType 142=true:=by kernel_rfl
 obtain⟨m,hm⟩:∃m,Tryz.prog.types.size=m+1:=⟨Tryz.prog.types.size-1,by have:=IP;have h:(0:Nat)<Tryz.prog.types.size:=Nat.lt_of_le_of_lt (Nat.zero_le _) this;omega⟩;unfold keyOf;simp only[Tryz.underlying142];rw[if_pos (by simp[hkt,rU,Value.formed,Tryz.underlying142,hc]),hm];unfold Program.keyLits;simp only[Tryz.underlying142,rU,Value.cells];rw[if_pos (by rw[hc];simp)];simp[Program.keyLits,Tryz.underlying3,e1,e2,hc3]
section
variable {C:Cx} {N:Nat→Prop} {w:World}
theorem oh.key {x:MapEntry} (hC:C.Ok) (h:oh C N w x):∃l,keyOf Tryz.prog 142 x.key=some l:=by
 obtain⟨n,p,t,g,l,h1,h2,h3,-⟩:=h;rw[h1];exact Dk n p (hC.T n _ h3) h2
theorem Dl (hC:C.Ok) (h:At C N w) {n p:Nat} (hn:n≤1000000000) (hp:p≤32):
  (Instr.lookup 103 (.map (some C.mb)) (.agg #[.int .i64 n,.int .i64 p]) true).run Tryz.prog w= .ok (.tuple #[.slice none 0 0,.bool false]) w∨
  ∃v t g l,(Instr.lookup 103 (.map (some C.mb)) (.agg #[.int .i64 n,.int .i64 p]) true).run Tryz.prog w= .ok (.tuple #[v,.bool true]) w∧
   C.T n=some (t,g)∧C.wy t g p=some l∧aI N w C.G C.s.size v l:=by
 obtain⟨es,clock,hb,hes⟩:=h.memo;obtain⟨kl,hkey⟩:=Dk n p hn hp;have hz:(zeroValue 38).run Tryz.prog w= .ok (.slice none 0 0) w:=by kernel_rfl
 rcases pW.find w hkey es.toList (fun e he=>(hes e he).key hC) with⟨h1,h2⟩|⟨j,e0,h1,h2,h3⟩
 ·left
  simp only[rU] at hkey h1;simp[Instr.lookup,run_underlying Tryz.underlying103,MapKept.run_getObj_map hb,pW.check w _ hkey,h1,hz,Result.andThen]
 ·right
  obtain⟨n',p',t,g,l,k1,k2,k3,k4,k5⟩:=hes e0 (List.mem_of_getElem? h2);obtain⟨rfl,rfl⟩:=IQ (h3.symm.trans k1);refine⟨e0.val,t,g,l,?_,k3,k4,k5⟩;simp only[rU] at hkey h1;simp[Instr.lookup,run_underlying Tryz.underlying103,MapKept.run_getObj_map hb,pW.check w _ hkey,h1,Result.andThen]
theorem Bl (hC:C.Ok) (h:At C N w) {n p g:Nat} {t:Nd} {l:List Wy.Way} {v:Value} (hp:p≤32) (hT:C.T n=some (t,g))
  (hw:C.wy t g p=some l) (hv:aI N w C.G C.s.size v l):
  ∃w',(Instr.mapUpdate 103 (.map (some C.mb)) (.agg #[.int .i64 n,.int .i64 p]) v).run Tryz.prog w= .ok () w'∧
   Kept (fun b=>b=C.mb) w w'∧w'.heap.size=w.heap.size∧At C N w':=by
 obtain⟨es,clock,hb,hes⟩:=h.memo;obtain⟨kl,hkey⟩:=Dk n p (hC.T n _ hT) hp;have key:∀es' clock',(∀x∈es'.toList,x∈es.toList∨x.key=rU n p∧x.val=v)→
   Kept (fun b=>b=C.mb) w (setBlock w C.mb (.map es' clock'))∧(setBlock w C.mb (.map es' clock')).heap.size=w.heap.size∧At C N (setBlock w C.mb (.map es' clock')):=by
  intro es' clock' hes';have hk:Kept (fun b=>b=C.mb) w (setBlock w C.mb (.map es' clock')):=⟨rfl,rfl,rfl,by simp[setBlock],fun k _ hk=>heap_setBlock_other hb _ hk⟩;have hd:∀b,b<w.heap.size→N b→¬(b=C.mb)∧N b:=fun b _ hn=>⟨fun e=>h.not (e ▸ hn),hn⟩
  have hsz:(setBlock w C.mb (.map es' clock')).heap.size=w.heap.size:=by simp[setBlock]
  have hl:∀b,b≤2→¬b=C.mb:=fun b hb e=>h.not (e ▸ h.low b hb)
  refine⟨hk,hsz,bF h.tabs hk (hl 0 (by omega)) (hl 1 (by omega)) (by have:=h.none.1;omega),h.none.kept hk (hl _ zL),h.maker.kept hk (fun e=>h.not (e ▸ h.own)),⟨es',clock',heap_setBlock_same hb _,fun x hx=> ?_⟩,fun b hb=>h.new b (by omega),h.low,h.own,h.not⟩;rcases hes' x hx with hx|⟨e1,e2⟩
  ·exact(hes x hx).go hk hd
  ·exact⟨n,p,t,g,l,e1,hp,hT,hw,e2 ▸ hv.go hk hd⟩
 rcases pW.find w hkey es.toList (fun e he=>(hes e he).key hC) with⟨h1,h2⟩|⟨j,e0,h1,h2,h3⟩
 ·refine⟨_,?_,key (es.push ⟨rU n p,v,clock⟩) (clock+1) ?_⟩
  ·simp only[rU] at hkey h1 ⊢;simp[Instr.mapUpdate,run_underlying Tryz.underlying103,MapKept.run_getObj_map hb,pW.check w false hkey,h1,MapKept.run_setObj_map _ hb,Result.andThen,setBlock]
  ·intro x hx;simp only[Array.toList_push,List.mem_append,List.mem_singleton] at hx;rcases hx with hx|rfl
   ·exact .inl hx
   ·exact .inr ⟨rfl,rfl⟩
 ·have hj:es[j]? =some e0:=by simpa using h2
  refine⟨_,?_,key (es.modify j (fun e'=>{e' with key:=rU n p,val:=v})) clock ?_⟩
  ·have hst:=pW.stays w hkey;simp only[rU] at hkey h1 h3 hst ⊢;simp[Instr.mapUpdate,run_underlying Tryz.underlying103,MapKept.run_getObj_map hb,pW.check w false hkey,h1,hj,h3,hst,MapKept.run_setObj_map _ hb,Result.andThen,setBlock]
  ·intro x hx;rw[Array.toList_modify,modify_eq_set _ _ _ _ h2] at hx;rcases List.mem_or_eq_of_mem_set hx with hx|rfl
   ·exact .inl hx
   ·exact .inr ⟨rfl,rfl⟩
end
end Go.Proofs.YtnhjakdmbfadlaaGreatDoor
