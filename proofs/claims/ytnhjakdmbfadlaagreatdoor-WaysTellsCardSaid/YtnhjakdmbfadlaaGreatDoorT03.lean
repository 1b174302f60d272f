/- Parts of the proof. Conditions: none. -/
import Derived.Test.YtnhjakdmbfadlaaGreatDoorT02
import Derived.Test.YtnhjakdmbfadlaaGreatDoorT00
import Derived.Test.YtnhjakdmbfadlaaGreatDoorT01
set_option linter.all false
set_option maxHeartbeats 8000000
set_option maxRecDepth 100000
namespace Go
open RowKit
structure Fits (ops:Array Oper) (S:Nat→Bool) (i:Nat):Prop where
 new:S i=false
 deps:∀j,mG ops i j=true→S j=true
 last:∀j,mG ops j i=true→S j=false
def yL (S:Nat→Bool) (i:Nat):Nat→Bool:=fun j=>if j=i then true else S j
def qG (u:Nat→Value) (i:Nat) (v:Value):Nat→Value:=fun j=>if j=i then v else u j
def jU (P:Program) (ops:Array Oper) (W:(Nat→Bool)→(Nat→Value)→World→Prop) (u:Nat→Value) (i:Nat) (A:Value→Prop) (o:Oper) (a:Act):Prop:=
 if Region.wanted o (yielded ops a.tmps) then∀S w,Fits ops S i→W S u w→∀K:Act→World→Prop,(∀v w',A v→W (yL S i) (qG u i v) w'→K (a.put o.dst v) w')→o.wp P a w K (fun _ _ _=>False)
 else∀S w,Fits ops S i→W S u w→A undef∧W (yL S i) (qG u i undef) w
def mf (P:Program) (ops:Array Oper) (W:(Nat→Bool)→(Nat→Value)→World→Prop) (u:Nat→Value) (R:Act→Prop):Nat→List (Option Value)→List Oper→Act→Prop
 |j,some v::vs,o::rest,a=>jU P ops W u j (fun x=>x=v) o a∧mf P ops W u R (j+1) vs rest (a.put o.dst v)
 |j,none::vs,o::rest,a=>jU P ops W u j (fun _=>True) o a∧mf P ops W u R (j+1) vs rest (a.put o.dst (u j))
 |_,[],[],a=>R a
 |_,_,_,_=>False
section
variable {P:Program} {ops:Array Oper} {W:(Nat→Bool)→(Nat→Value)→World→Prop} {u:Nat→Value} {R:Act→Prop} {j:Nat} {o:Oper} {rest:List Oper} {a:Act} {v:Value} {vs:List (Option Value)}
theorem gY (hw:Region.wanted o (yielded ops a.tmps)=true)
  (h:∀S w,Fits ops S j→W S u w→∀K:Act→World→Prop,(∀w',W (yL S j) (qG u j v) w'→K (a.put o.dst v) w')→o.wp P a w K (fun _ _ _=>False)) (k:mf P ops W u R (j+1) vs rest (a.put o.dst v)):
  mf P ops W u R j (some v::vs) (o::rest) a:=⟨by unfold jU;rw[if_pos hw];exact fun S w hS hw' K hK=>h S w hS hw' K fun w' hb=>hK v w' rfl hb,k⟩
theorem bZ (hw:Region.wanted o (yielded ops a.tmps)=true) (hs:∀S w,Fits ops S j→W S u w→W (yL S j) (qG u j v) w)
  (h:∀S w,Fits ops S j→W S u w→∀K:Act→World→Prop,K (a.put o.dst v) w→o.wp P a w K (fun _ _ _=>False)) (k:mf P ops W u R (j+1) vs rest (a.put o.dst v)):
  mf P ops W u R j (some v::vs) (o::rest) a:=gY hw (fun S w hS hw' K hK=>h S w hS hw' K (hK w (hs S w hS hw'))) k
theorem bH (hw:Region.wanted o (yielded ops a.tmps)=true)
  (h:∀S w,Fits ops S j→W S u w→∀K:Act→World→Prop,(∀v w',W (yL S j) (qG u j v) w'→K (a.put o.dst v) w')→o.wp P a w K (fun _ _ _=>False)) (k:mf P ops W u R (j+1) vs rest (a.put o.dst (u j))):
  mf P ops W u R j (none::vs) (o::rest) a:=⟨by unfold jU;rw[if_pos hw];exact fun S w hS hw' K hK=>h S w hS hw' K fun v w' hb=>hK v w' trivial hb,k⟩
theorem kV (h:R a):mf P ops W u R j [] [] a:=h
end
namespace fU
section
variable {P:Program} {ops:Array Oper} {W:(Nat→Bool)→(Nat→Value)→World→Prop}
theorem rG {R:Act→Prop} {u:Nat→Value}:∀(l:List Oper) (vs:List (Option Value)) (j:Nat) (a:Act),mf P ops W u R j vs l a→
  (∀i o,l[i]? =some o→jU P ops W u (j+i) (fun v=>match vs[i]? with|some (some v0)=>v=v0|_=>True) o (aT l (fun i=>match vs[i]? with|some (some v)=>v|_=>u (j+i)) a i))∧R (aT l (fun i=>match vs[i]? with|some (some v)=>v|_=>u (j+i)) a l.length)
 |[],[],_,a,h=>⟨by simp,h⟩
 |[],some _::_,_,a,h=>h.elim
 |[],none::_,_,a,h=>h.elim
 |_::_,[],_,a,h=>h.elim
 |o::rest,some v::vs,j,a,⟨h,k⟩=>by
  obtain⟨h1,h2⟩:=rG rest vs (j+1) (a.put o.dst v) k;have key:∀n,aT (o::rest) (fun i=>match (some v::vs)[i]? with|some (some v)=>v|_=>u (j+i)) a (n+1)=aT rest (fun i=>match vs[i]? with|some (some v)=>v|_=>u (j+1+i)) (a.put o.dst v) n:=by
   intro n
   induction n with
   |zero=>rfl
   |succ n ih=>
    rw[aT,ih,aT];simp only[List.getElem?_cons_succ,show j+(n+1)=j+1+n by omega]
  refine⟨fun i p hi=> ?_,?_⟩
  ·cases i with
   |zero=>simp at hi;subst hi;exact h
   |succ i=>
    rw[key];have:=h1 i p (by simpa using hi)
    simpa only[List.getElem?_cons_succ,show j+(i+1)=j+1+i by omega] using this
  ·rw[List.length_cons,key];exact h2
 |o::rest,none::vs,j,a,⟨h,k⟩=>by
  obtain⟨h1,h2⟩:=rG rest vs (j+1) (a.put o.dst (u j)) k;have key:∀n,aT (o::rest) (fun i=>match (none::vs)[i]? with|some (some v)=>v|_=>u (j+i)) a (n+1)=aT rest (fun i=>match vs[i]? with|some (some v)=>v|_=>u (j+1+i)) (a.put o.dst (u j)) n:=by
   intro n
   induction n with
   |zero=>rfl
   |succ n ih=>
    rw[aT,ih,aT];simp only[List.getElem?_cons_succ,show j+(n+1)=j+1+n by omega]
  refine⟨fun i p hi=> ?_,?_⟩
  ·cases i with
   |zero=>simp at hi;subst hi;exact h
   |succ i=>
    rw[key];have:=h1 i p (by simpa using hi)
    simpa only[List.getElem?_cons_succ,show j+(i+1)=j+1+i by omega] using this
  ·rw[List.length_cons,key];exact h2
theorem yM {Q:Exit→Act→World→Prop} {o:Oper} {A a:Act} {i:Nat} {w:World} {S:Nat→Bool} {u:Nat→Value} {B:Value→Prop} (hi:ops[i]? =some o) (h:jU P ops W u i B o A)
  (hs:∀cs b,o.op≠.select cs b) (hz:A.tmps.size=a.tmps.size) (hn:∀t,t∈o.looksAt ops→a.tmps[t]? =A.tmps[t]?) (hS:Fits ops S i) (hw:W S u w) {K:Act→World→Prop}
  (hK:∀v w',B v→W (yL S i) (qG u i v) w'→K (a.put o.dst v) w'):wpOp P ops Q i K a w:=by
 unfold wpOp;simp only[hi];rw[ja hn];unfold jU at h;split
 ·rename_i hwn;rw[if_pos hwn] at h;refine .inl ?_;have h1:=h S w hS hw (fun x w''=>(∀z,x=A.put o.dst z→K (a.put o.dst z) w'')∧x.defers=A.defers) (fun v w' hB hb=>⟨fun z hz'=>by rw[←um hz hz'];exact hK v w' hB hb,by cases o.dst<;>rfl⟩);unfold Oper.wp at h1 ⊢;rw[nR hs hn];generalize (execOp A.eval o).run P w=r at h1;cases r with
  |ok n w'=>
   cases n<;>simp only[Oper.upon] at h1 ⊢
   case value x=>exact h1.1 x rfl
   case skip=>exact h1.1 _ rfl
   case defer d=>
    have h2:=congrArg List.length h1.2;cases hd:o.dst<;>simp[hd,Act.put] at h2
   case enter f args=>
    refine Calls.mono h1 fun e w'' he=> ?_
    cases e with
    |returned x=>exact he.1 x rfl
    |panicked c=>exact he.elim
    |outgrown=>obtain⟨_,_,hf⟩:=he;exact hf.elim
   case row row args=>exact Rows.mono h1 fun x w'' he=>he.1 x rfl
  |halt x w'=>cases x<;>simp only[Oper.upon] at h1 ⊢
 ·rename_i hwn;rw[if_neg hwn] at h;have:=h S w hS hw;exact hK _ w this.1 this.2
theorem yN {Q:Exit→Act→World→Prop} (hok:dP ops=true) (vs:List (Option Value)) (a:Act)
  (hf:∀u i o,ops.toList[i]? =some o→jU P ops W u i (fun v=>match vs[i]? with|some (some v0)=>v=v0|_=>True) o (aT ops.toList (pk vs u) a i))
  (hq:∀u S w',(∀i,i<ops.size→S i=true)→W S u w'→Q .normal (aT ops.toList (pk vs u) a ops.size) w'):
  ∀(fuel:Nat) (listed:Array Bool) (u:Nat→Value) (w:World),listed.size=ops.size→left listed ops.size=fuel→
   (∀j o,ops[j]? =some o→listed.getD j false=true→∀e∈o.after,Region.binds .any e=true→listed.getD e.on false=true)→W (fun j=>listed.getD j false) u w→
   wpAny P .any ops Q fuel listed (aW ops.toList (pk vs u) a (fun i=>listed.getD i false) ops.size) w:=by
 intro fuel
 induction fuel with
 |zero=>
  intro listed u w hsz hl _ hw;have hall:=jv _ hl;refine⟨?_,?_⟩
  ·apply List.eq_nil_iff_forall_not_mem.2;intro j hj;rw[mem_ready] at hj;obtain⟨h0,o,ho,_⟩:=hj;have:=hall j (Array.getElem?_eq_some_iff.1 ho).1;rw[h0] at this;cases this
  ·rw[nO _ _ _ _ _ (fun i hi _=>by rw[←eG (by omega)];exact hall i hi)];exact hq u _ w (fun i hi=>by rw[←eG (by omega)];exact hall i hi) hw
 |succ fuel ih=>
  intro listed u w hsz hl hcl hw;refine⟨?_,?_⟩
  ·intro hnil;exfalso;obtain⟨i,h1,h2,h3⟩:=kP _ (show 0<left listed ops.size by omega);have ho:ops[i]? =some ops[i]:=Array.getElem?_eq_getElem h1;have:i∈Region.ready .any ops listed:=by
    rw[mem_ready];refine⟨h2,_,ho,fun e he hb=> ?_⟩;have hlt:=qy hok ho e he hb;rw[←eG (by omega)];exact h3 _ hlt
   rw[hnil] at this;cases this
  ·intro i hi;rw[mem_ready] at hi;obtain⟨h0,o,ho,mO⟩:=hi;have hil:i<ops.size:=(Array.getElem?_eq_some_iff.1 ho).1;have hol:ops.toList[i]? =some o:=by simpa using ho
   have h0':listed.getD i false=false:=by rw[←eG (by omega)];exact h0
   have hcl':∀j p,ops[j]? =some p→(if j=i then true else listed.getD j false)=true→∀e∈p.after,Region.binds .any e=true→(if e.on=i then true else listed.getD e.on false)=true:=by
    intro j p hj hs e he hb;by_cases e1:e.on=i
    ·rw[if_pos e1]
    ·rw[if_neg e1];by_cases e2:j=i
     ·subst e2;rw[ho] at hj;cases hj;exact mO e he hb
     ·rw[if_neg e2] at hs;exact hcl j p hj hs e he hb
   have hb1:∀j,j<i→((Region.before ops).getD i 0).testBit j=true→listed.getD j false=true:=by
    intro j hj hbit;have:=gW hok (S:=fun k=>if k=i then true else listed.getD k false) hcl' i j hj hil hbit (by simp)
    simpa [show j≠i by omega] using this
   have hb2:∀j,i<j→j<ops.size→((Region.before ops).getD j 0).testBit i=true→listed.getD j false=false:=by
    intro j hj hjl hbit;cases hs:listed.getD j false with
    |false=>rfl
    |true=>
     have:=gW hok (S:=fun k=>listed.getD k false) hcl j i hj hjl hbit hs;rw[h0'] at this;cases this
   have hfits:Fits ops (fun j=>listed.getD j false) i:=by
    refine⟨h0',fun j hj=> ?_,fun j hj=> ?_⟩
    ·obtain⟨h1,h2⟩:=nS hj;exact hb1 j h1 h2
    ·obtain⟨h1,h2⟩:=nS hj;by_cases hjl:j<ops.size
     ·exact hb2 j h1 hjl h2
     ·simp[show¬j<listed.size by omega]
   have Hy:∀t,t∈o.eH ops→(aW ops.toList (pk vs u) a (fun i=>listed.getD i false) ops.size).tmps[t]? =(aT ops.toList (pk vs u) a i).tmps[t]? :=by
    intro t ht;rw[show aT ops.toList (pk vs u) a i=aT ops.toList (pk vs u) a (min ops.size i) by rw[show min ops.size i=i by omega]];refine nP _ _ _ _ i t ?_ ?_ _
    ·intro j p hj hp hd;have hp':ops[j]? =some p:=by simpa using hp
     rcases eP hok hj hp' ho with hbit|⟨hn,_⟩
     ·exact hb1 j hj hbit
     ·exact absurd ht (hn t hd)
    ·intro j p hj hp hd;have hp':ops[j]? =some p:=by simpa using hp
     by_cases e:j=i
     ·subst e;exact h0'
     ·rcases eP hok (show i<j by omega) ho hp' with hbit|⟨_,hn⟩
      ·exact hb2 j (by omega) (Array.getElem?_eq_some_iff.1 hp').1 hbit
      ·exact absurd ht (hn t hd)
   have o8:∀j p,i<j→ops.toList[j]? =some p→listed.getD j false=true→∀d,o.dst=some d→p.dst≠some d:=by
    intro j p hj hp hs d hd hpd;have hp':ops[j]? =some p:=by simpa using hp
    rcases eP hok hj ho hp' with hbit|⟨hn,_⟩
    ·have:=hb2 j hj (Array.getElem?_eq_some_iff.1 hp').1 hbit;rw[hs] at this;cases this
    ·exact hn d hd (by simp[Oper.eH,hpd])
   have szA:∀(z:Nat→Value) n,(aT ops.toList z a n).tmps.size=a.tmps.size:=by
    intro z n;induction n with
    |zero=>rfl
    |succ n ih=>
     simp only[aT];split
     ·rename_i p _;cases hp:p.dst<;>simpa [Act.put] using ih
     ·exact ih
   refine yM ho (hf u i o hol) (uN hok ho) (by rw[szA,iL]) (fun t ht=>Hy t (by simp[Oper.eH,ht])) hfits hw fun v w' hB hb'=> ?_
   have hpi:pk vs (qG u i v) i=v:=by
    unfold pk;split
    ·rename_i v0 e;rw[e] at hB;exact hB.symm
    ·simp[qG]
   have hpk:∀k,k≠i→pk vs (qG u i v) k=pk vs u k:=by
    intro k hk;unfold pk;split
    ·rfl
    ·simp[qG,hk]
   have hset:∀k,(listed.setIfInBounds i true).getD k false=yL (fun j=>listed.getD j false) i k:=by
    intro k;unfold yL;by_cases e:k=i
    ·subst e;simp[hsz,hil]
    ·rw[if_neg e,getD_set_ne false (Ne.symm e)]
   have hsame:aW ops.toList (pk vs (qG u i v)) a (fun k=>(listed.setIfInBounds i true).getD k false) ops.size=(aW ops.toList (pk vs u) a (fun k=>listed.getD k false) ops.size).put o.dst v:=by
    rw[←uZ ops.toList (pk vs (qG u i v)) (pk vs u) a (fun k=>listed.getD k false) ops.size (fun k _ hs=>hpk k (fun e=>by subst e;rw[h0'] at hs;cases hs))];have hput:=jr ops.toList (pk vs (qG u i v)) a (fun k=>listed.getD k false) i o hol h0' ops.size hil o8;rw[hpi] at hput;rw[←hput];refine fB _ _ _ _ _ _ fun k _=> ?_
    by_cases e:k=i
    ·subst e;simp[hsz,hil]
    ·rw[if_neg e,getD_set_ne false (Ne.symm e)]
   rw[←hsame];refine ih _ (qG u i v) w' (by simp[hsz]) ?_ ?_ ?_
   ·have:=kQ (by omega) h0 ops.size;rw[if_pos hil] at this;omega
   ·intro j p hj hs e he hb;by_cases e2:j=i
    ·subst e2;rw[ho] at hj;cases hj;exact getD_set_true (mO e he hb)
    ·rw[getD_set_ne false (Ne.symm e2)] at hs;exact getD_set_true (hcl j p hj hs e he hb)
   ·have e:(fun j=>(listed.setIfInBounds i true).getD j false)=yL (fun j=>listed.getD j false) i:=funext hset;rw[e];exact hb'
end
end fU
theorem Fp {P:Program} {id:Nat} {ops:Array Oper} {Q:Exit→Act→World→Prop} {a:Act} {w:World} (hm:P.follows .mixedOrders=true) (hok:dP ops=true)
  (vs:List (Option Value)) (W:(Nat→Bool)→(Nat→Value)→World→Prop) (hw:W (fun _=>false) (fun _=>undef) w.drew)
  (h:∀u,mf P ops W u (fun a'=>∀S w',(∀i,i<ops.size→S i=true)→W S u w'→Q .normal a' w') 0 vs ops.toList a):(Code.region id ops true).wp P Q a w:=by
 refine wp_region_any hm ?_;have h0:=fun u=>fU.rG ops.toList vs 0 a (h u)
 have h3:=fU.yN (P:=P) (ops:=ops) (W:=W) (Q:=Q) hok vs a
  (fun u i p hp=>by
   have:=(h0 u).1 i p hp;simp only[Nat.zero_add] at this;exact this)
  (fun u S w' hS hw'=>by
   have:=(h0 u).2 S w' hS hw';simp only[Nat.zero_add] at this;rw[Array.length_toList] at this;exact this) ops.size (Array.replicate ops.size false) (fun _=>undef) w.drew (by simp)
  (by
   have:∀n,n≤ops.size→fU.left (Array.replicate ops.size false) n=n:=by
    intro n
    induction n with
    |zero=>intro _;rfl
    |succ n ih=>
     intro hn;simp only[fU.left];rw[ih (by omega)];have:(Array.replicate ops.size false).getD n true=false:=by simp[show n<ops.size by omega]
     rw[this];rfl
   exact this _ (Nat.le_refl _))
  (by
   intro j o _ hs;exfalso;by_cases hj:j<ops.size
   ·simp[hj] at hs
   ·simp[hj] at hs)
  (by
   have e:(fun j=>(Array.replicate ops.size false).getD j false)=fun _=>false:=funext fun j=>by
    by_cases hj:j<ops.size
    ·simp[hj]
    ·simp[hj]
   rw[e];exact hw)
 rw[fU.iJ _ _ _ _ _ (fun i hi=>by simp[hi])] at h3;exact h3
theorem mV {P:Program} {id:Nat} {l:List Oper} {Q:Exit→Act→World→Prop} {a:Act} {w:World} (hm:P.follows .mixedOrders=true) (hok:dP l.toArray=true)
  (vs:List (Option Value)) (W:(Nat→Bool)→(Nat→Value)→World→Prop) (hw:W (fun _=>false) (fun _=>undef) w.drew)
  (h:∀u,mf P l.toArray W u (fun a'=>∀S w',(∀i,i<l.length→S i=true)→W S u w'→Q .normal a' w') 0 vs l a):(Code.region id l.toArray true).wp P Q a w:=
 Fp hm hok vs W hw (fun u=>by simpa using h u)
end Go
namespace Go.Proofs.YtnhjakdmbfadlaaGreatDoor
open Go.RowKit Wy
variable {s:ByteArray} {hi lo:Int} {c i j n:Nat} {t:Nd}
theorem AQ {k:Nat} (h:gy s i=some (lo,hi,k)):k≤1∧(k=1→i<s.size):=by
 unfold gy at h;by_cases h0:s.size≤i
 ·rw[if_pos h0] at h;simp only[Option.some.injEq,Prod.mk.injEq] at h;omega
 ·rw[if_neg h0] at h;refine⟨?_,fun _=>by omega⟩;split at h
  ·simp only[Option.some.injEq,Prod.mk.injEq] at h;omega
  ·split at h
   ·simp only[Option.some.injEq,Prod.mk.injEq] at h;omega
   ·split at h
    ·simp only[Option.some.injEq,Prod.mk.injEq] at h;omega
    ·split at h
     ·cases h
     ·simp only[Option.some.injEq,Prod.mk.injEq] at h;omega
theorem uw {st st':List Wy.Op} (h:yJ s i st t=some (j,st')) (hi:i≤s.size):i≤j∧j≤s.size∧∃u,st'=sZ st u:=by
 unfold yJ at h;cases hq:gy s i with
 |none=>rw[hq] at h;cases h
 |some p=>
  obtain⟨lo,hi',k⟩:=p;rw[hq] at h;simp only at h;have hk:=AQ hq;by_cases k0:k=0
  ·rw[if_pos k0] at h;simp only[Option.some.injEq,Prod.mk.injEq] at h;exact⟨by omega,by omega,_,h.2.symm⟩
  ·rw[if_neg k0] at h;simp only[Option.some.injEq,Prod.mk.injEq] at h;have hl:(if l7 s (i+k)=true then 1 else 0)=0∨i+k<s.size∧(if l7 s (i+k)=true then 1 else 0)=1:=by
    by_cases hz:l7 s (i+k)=true
    ·right
     rw[if_pos hz];unfold l7 at hz;rw[Bool.and_eq_true,decide_eq_true_eq] at hz;exact⟨hz.1,rfl⟩
    ·left
     rw[if_neg hz]
   have:=hk.2 (by omega);exact⟨by omega,by omega,_,h.2.symm⟩
theorem AU (h:gQ s i=some (c,n)) (hi:i<s.size):1≤n∧i+n≤s.size:=by
 unfold gQ at h;split at h
 ·simp only[Option.some.injEq,Prod.mk.injEq] at h;omega
 ·split at h
  ·simp only[Option.some.injEq,Prod.mk.injEq] at h;omega
  ·cases h
theorem Ia {l:List Rg} (h:Fj s i=some (l,n)) (hi:i<s.size):1≤n∧i+n≤s.size:=by
 unfold Fj at h;cases hp:gQ s i with
 |none=>rw[hp] at h;cases h
 |some p=>
  obtain⟨c,m⟩:=p;rw[hp] at h;simp only at h;split at h
  ·cases h
  ·simp only[Option.some.injEq,Prod.mk.injEq] at h;have:=AU hp hi;omega
theorem Ib {st st':List Wy.Op} (h:stepM s i st=some (j,st')) (hi:i<s.size):i<j∧j≤s.size:=by
 unfold stepM at h;split at h
 ·simp only[Option.some.injEq,Prod.mk.injEq] at h;omega
 ·split at h
  ·split at h
   ·simp only[Option.some.injEq,Prod.mk.injEq] at h;omega
   ·simp only[Option.some.injEq,Prod.mk.injEq] at h;omega
  ·split at h
   ·split at h
    ·cases h
    ·have:=uw h (by omega);omega
   ·split at h
    ·cases h
    ·rename_i l n hs;have h1:=Ia hs hi;have:=uw h (by omega);omega
def wgt:List Wy.Op→Nat
 |[]=>0
 |o::r=>1+o.items.length+o.dE.length+wgt r
theorem lJ (a b:List Wy.Op):wgt (a++b)=wgt a+wgt b:=by
 induction a with
 |nil=>simp[wgt]
 |cons x r ih=>simp only[List.cons_append,wgt,ih];omega
theorem rH {st:List Wy.Op} (h:st≠[]):st=st.dropLast++[pK st]:=by
 unfold pK;rw[List.getLastD_eq_getLast?,List.getLast?_eq_some_getLast h];exact(List.dropLast_concat_getLast h).symm
theorem nU {st:List Wy.Op} (h:st≠[]):wgt st=wgt st.dropLast+(1+(pK st).items.length+(pK st).dE.length):=by
 conv=>lhs;rw[rH h]
 rw[lJ];simp[wgt]
theorem xJ {st:List Wy.Op} (h:st≠[]) (t:Nd):wgt (sZ st t)=wgt st+1∧sZ st t≠[]:=by
 rw[nU h];unfold sZ;rw[lJ];refine⟨?_,by simp⟩;simp[wgt];omega
theorem Lj (st:List Wy.Op):st.length≤wgt st:=by
 induction st with
 |nil=>simp[wgt]
 |cons o r ih=>simp only[List.length_cons,wgt];omega
theorem Fq {st st':List Wy.Op} (h:stepM s i st=some (j,st')) (hi:i<s.size) (hn:st≠[]):wgt st'≤wgt st+1∧st'≠[]:=by
 have hw:=nU hn;unfold stepM at h;split at h
 ·simp only[Option.some.injEq,Prod.mk.injEq] at h;rw[←h.2,lJ];simp[wgt];omega
 ·split at h
  ·split at h
   all_goals
    simp only[Option.some.injEq,Prod.mk.injEq] at h;rw[←h.2,lJ];simp[wgt]
  ·split at h
   ·split at h
    ·cases h
    ·rename_i hl;have hd:st.dropLast≠[]:=by
      intro e;have:=congrArg List.length e;simp at this;omega
     obtain⟨_,_,u,rfl⟩:=uw h (by omega);have:=xJ hd u;exact⟨by omega,this.2⟩
   ·split at h
    ·cases h
    ·rename_i l n hs;have h1:=Ia hs hi;obtain⟨_,_,u,rfl⟩:=uw h (by omega);have:=xJ hn u;exact⟨by omega,this.2⟩
end Go.Proofs.YtnhjakdmbfadlaaGreatDoor
namespace Go
open RowKit
section
variable {P:Program} {ops:Array Oper} {A B:World→Prop} {s:Nat} {R:Act→Prop} {j:Nat} {o:Oper} {rest:List Oper} {a:Act} {v:Value}
end
namespace fU
section
variable {P:Program} {ops:Array Oper} {A B:World→Prop} {s:Nat}
end
end fU
end Go
namespace Go
open RowKit
def vg (ops:Array Oper):Bool:=decide (0<ops.size) && (List.range (ops.size-1)).all fun i=>((Region.before ops).getD (ops.size-1) 0).testBit i
theorem last_pos {ops:Array Oper} (h:vg ops=true):0<ops.size:=by
 unfold vg at h;rw[Bool.and_eq_true] at h;exact of_decide_eq_true h.1
theorem Ic {ops:Array Oper} (h:vg ops=true) {i:Nat} (hi:i<ops.size-1):((Region.before ops).getD (ops.size-1) 0).testBit i=true:=by
 unfold vg at h;rw[Bool.and_eq_true,List.all_eq_true] at h;exact h.2 i (List.mem_range.2 hi)
namespace fU
section
variable {P:Program} {ops:Array Oper} {W:World→Prop} {nd bd:List Nat} {V:Nat→Value→World→Prop}
theorem yO {Q:Exit→Act→World→Prop} (hok:dP ops=true) (hlast:vg ops=true) (pM:okN ops nd bd=true) (vs:List (Option Value)) (a:Act)
  (hnd:∀i,i∈nd→vs[i]? =some none) (hnl:∀i,i∈nd→i+1<ops.size) (hW:∀w w',W w→Below w.heap.size w w'→W w') (hV:∀i v w w',V i v w→Below w.heap.size w w'→V i v w')
  (hf:∀u i o,i+1<ops.size→ops.toList[i]? =some o→ji P ops W nd bd V u i (fun v w=>match vs[i]? with|some (some v0)=>v=v0|_=>V i v w) o (aT ops.toList (pk vs u) a i))
  (hq:∀u w',W w'→(∀i,i∈nd→V i (u i) w')→∃o,ops[ops.size-1]? =some o∧Region.wanted o (yielded ops (aT ops.toList (pk vs u) a (ops.size-1)).tmps)=true∧o.wp P (aT ops.toList (pk vs u) a (ops.size-1)) w' (fun a'' w''=>Q .normal a'' w'') Q):
  ∀(fuel:Nat) (listed:Array Bool) (u:Nat→Value) (w:World),listed.size=ops.size→left listed ops.size=fuel→listed.getD (ops.size-1) false=false→
   (∀j o,ops[j]? =some o→listed.getD j false=true→∀e∈o.after,Region.binds .any e=true→listed.getD e.on false=true)→W w→
   (∀i,i∈nd→listed.getD i false=true→V i (u i) w)→
   wpAny P .any ops Q fuel listed (aW ops.toList (pk vs u) a (fun i=>listed.getD i false) ops.size) w:=by
 intro fuel
 induction fuel with
 |zero=>
  intro listed u w hsz hl hlf _ hw hfa;exfalso;have hall:=jv _ hl;have h0:=last_pos hlast;have:=hall (ops.size-1) (by omega);rw[eG (by omega)] at this;rw[hlf] at this;cases this
 |succ fuel ih=>
  intro listed u w hsz hl hlf hcl hw hfa;have h0n:=last_pos hlast;refine⟨?_,?_⟩
  ·intro hnil;exfalso;obtain⟨i,h1,h2,h3⟩:=kP _ (show 0<left listed ops.size by omega);have ho:ops[i]? =some ops[i]:=Array.getElem?_eq_getElem h1;have:i∈Region.ready .any ops listed:=by
    rw[mem_ready];refine⟨h2,_,ho,fun e he hb=> ?_⟩;have hlt:=qy hok ho e he hb;rw[←eG (by omega)];exact h3 _ hlt
   rw[hnil] at this;cases this
  ·intro i hi;rw[mem_ready] at hi;obtain⟨h0,o,ho,mO⟩:=hi;have hil:i<ops.size:=(Array.getElem?_eq_some_iff.1 ho).1;have hol:ops.toList[i]? =some o:=by simpa using ho
   have h0':listed.getD i false=false:=by rw[←eG (by omega)];exact h0
   have hcl':∀j p,ops[j]? =some p→(if j=i then true else listed.getD j false)=true→∀e∈p.after,Region.binds .any e=true→(if e.on=i then true else listed.getD e.on false)=true:=by
    intro j p hj hs e he hb;by_cases e1:e.on=i
    ·rw[if_pos e1]
    ·rw[if_neg e1];by_cases e2:j=i
     ·subst e2;rw[ho] at hj;cases hj;exact mO e he hb
     ·rw[if_neg e2] at hs;exact hcl j p hj hs e he hb
   have hb1:∀j,j<i→((Region.before ops).getD i 0).testBit j=true→listed.getD j false=true:=by
    intro j hj hbit;have:=gW hok (S:=fun k=>if k=i then true else listed.getD k false) hcl' i j hj hil hbit (by simp)
    simpa [show j≠i by omega] using this
   have hb2:∀j,i<j→j<ops.size→((Region.before ops).getD j 0).testBit i=true→listed.getD j false=false:=by
    intro j hj hjl hbit;cases hs:listed.getD j false with
    |false=>rfl
    |true=>
     have:=gW hok (S:=fun k=>listed.getD k false) hcl j i hj hjl hbit hs;rw[h0'] at this;cases this
   have Hy:∀t,t∈o.eH ops→(aW ops.toList (pk vs u) a (fun i=>listed.getD i false) ops.size).tmps[t]? =(aT ops.toList (pk vs u) a i).tmps[t]? :=by
    intro t ht;rw[show aT ops.toList (pk vs u) a i=aT ops.toList (pk vs u) a (min ops.size i) by rw[show min ops.size i=i by omega]];refine nP _ _ _ _ i t ?_ ?_ _
    ·intro j p hj hp hd;have hp':ops[j]? =some p:=by simpa using hp
     rcases eP hok hj hp' ho with hbit|⟨hn,_⟩
     ·exact hb1 j hj hbit
     ·exact absurd ht (hn t hd)
    ·intro j p hj hp hd;have hp':ops[j]? =some p:=by simpa using hp
     by_cases e:j=i
     ·subst e;exact h0'
     ·rcases eP hok (show i<j by omega) ho hp' with hbit|⟨_,hn⟩
      ·exact hb2 j (by omega) (Array.getElem?_eq_some_iff.1 hp').1 hbit
      ·exact absurd ht (hn t hd)
   have o8:∀j p,i<j→ops.toList[j]? =some p→listed.getD j false=true→∀d,o.dst=some d→p.dst≠some d:=by
    intro j p hj hp hs d hd hpd;have hp':ops[j]? =some p:=by simpa using hp
    rcases eP hok hj ho hp' with hbit|⟨hn,_⟩
    ·have:=hb2 j hj (Array.getElem?_eq_some_iff.1 hp').1 hbit;rw[hs] at this;cases this
    ·exact hn d hd (by simp[Oper.eH,hpd])
   have szO:∀(z:Nat→Value) (S:Nat→Bool) n,(aW ops.toList z a S n).tmps.size=a.tmps.size:=by
    intro z S n;induction n with
    |zero=>rfl
    |succ n ih=>
     simp only[aW];split
     ·split
      ·rename_i p _ _;cases hp:p.dst<;>simpa [Act.put] using ih
      ·exact ih
     ·exact ih
   have szA:∀(z:Nat→Value) n,(aT ops.toList z a n).tmps.size=a.tmps.size:=by
    intro z n;induction n with
    |zero=>rfl
    |succ n ih=>
     simp only[aT];split
     ·rename_i p _;cases hp:p.dst<;>simpa [Act.put] using ih
     ·exact ih
   by_cases hin:i=ops.size-1
   ·subst hin;have hall:∀j,j<ops.size-1→listed.getD j false=true:=fun j hj=>hb1 j hj (Ic hlast hj)
    have hact:aW ops.toList (pk vs u) a (fun i=>listed.getD i false) ops.size=aT ops.toList (pk vs u) a (ops.size-1):=by
     have e:ops.size=(ops.size-1)+1:=(by omega);rw[e,aW,hol];simp only[Nat.add_sub_cancel];rw[if_neg (by rw[h0'];simp)];exact nO _ _ _ _ _ (fun i hi _=>hall i hi)
    obtain⟨o',ho',hwn,hwp⟩:=hq u w hw (fun i hi=>hfa i hi (hall i (by have:=hnl i hi;omega)));rw[ho] at ho';cases ho';have hfu:fuel=0:=by
     have h1:=kQ (by omega) h0 ops.size;rw[if_pos hil] at h1;have h2:left (listed.setIfInBounds (ops.size-1) true) ops.size=fuel:=(by omega);cases fuel with
     |zero=>rfl
     |succ f=>
      exfalso;obtain⟨i,k1,k2,-⟩:=kP _ (show 0<left (listed.setIfInBounds (ops.size-1) true) ops.size by omega);by_cases e:i=ops.size-1
      ·subst e;simp[hsz,hil] at k2
      ·have:=hall i (by omega);rw[getD_set_ne true (Ne.symm e),eG (by omega),this] at k2;cases k2
    subst hfu;rw[hact];unfold wpOp;simp only[ho];rw[if_pos hwn];refine .inl (Oper.wp_mono (fun a'' w'' hQ=>⟨?_,hQ⟩) hwp);apply List.eq_nil_iff_forall_not_mem.2;intro j hj;rw[mem_ready] at hj;obtain⟨hj0,oj,hoj,_⟩:=hj;have hjl:=(Array.getElem?_eq_some_iff.1 hoj).1;by_cases e:j=ops.size-1
    ·subst e;simp[hsz,hil] at hj0
    ·have:=hall j (by omega);rw[getD_set_ne true (Ne.symm e),eG (by omega),this] at hj0;cases hj0
   have hF:i∈bd→uX nd V u i w:=by
    intro hib k hk hki;refine hfa k hk (hb1 k hki ?_);unfold okN at pM;rw[List.all_eq_true] at pM;have h1:=pM i hib;rw[List.all_eq_true] at h1
    simpa [hki] using h1 k hk
   refine yK ho (hf u i o (by omega) hol) (uN hok ho) (by rw[szA,szO]) (fun t ht=>Hy t (by simp[Oper.eH,ht])) hw hF fun v w' hb' hB=> ?_
   have hpi:pk vs (fun k=>if k=i then v else u k) i=v:=by
    unfold pk;split
    ·rename_i v0 e;rw[e] at hB;exact hB.symm
    ·simp
   have hpk:∀k,k≠i→pk vs (fun k=>if k=i then v else u k) k=pk vs u k:=by
    intro k hk;unfold pk;split
    ·rfl
    ·simp[hk]
   have hsame:aW ops.toList (pk vs (fun k=>if k=i then v else u k)) a (fun k=>(listed.setIfInBounds i true).getD k false) ops.size=(aW ops.toList (pk vs u) a (fun k=>listed.getD k false) ops.size).put o.dst v:=by
    rw[←uZ ops.toList (pk vs (fun k=>if k=i then v else u k)) (pk vs u) a (fun k=>listed.getD k false) ops.size (fun k _ hs=>hpk k (fun e=>by subst e;rw[h0'] at hs;cases hs))];have hput:=jr ops.toList (pk vs (fun k=>if k=i then v else u k)) a (fun k=>listed.getD k false) i o hol h0' ops.size hil o8;rw[hpi] at hput;rw[←hput];refine fB _ _ _ _ _ _ fun k _=> ?_
    by_cases e:k=i
    ·subst e;simp[hsz,hil]
    ·rw[if_neg e,getD_set_ne false (Ne.symm e)]
   rw[←hsame];refine ih _ (fun k=>if k=i then v else u k) w' (by simp[hsz]) ?_ (by rw[getD_set_ne false hin];exact hlf) ?_ (hW _ _ hw hb') ?_
   ·have:=kQ (by omega) h0 ops.size;rw[if_pos hil] at this;omega
   ·intro j p hj hs e he hb;by_cases e2:j=i
    ·subst e2;rw[ho] at hj;cases hj;exact getD_set_true (mO e he hb)
    ·rw[getD_set_ne false (Ne.symm e2)] at hs;exact getD_set_true (hcl j p hj hs e he hb)
   ·intro k hk hs;by_cases e:k=i
    ·subst e;simp only[if_true];rw[hnd k hk] at hB;exact hB
    ·rw[getD_set_ne false (Ne.symm e)] at hs;rw[if_neg e];exact hV _ _ _ _ (hfa k hk hs) hb'
end
end fU
theorem mW (l:List Oper) (x:Oper) (vs:Nat→Value) (a:Act):∀n,n≤l.length→fU.aT (l++[x]) vs a n=fU.aT l vs a n
 |0,_=>rfl
 |n+1,h=>by
  rw[fU.aT,fU.aT,mW l x vs a n (by omega),List.getElem?_append_left (by omega)]
theorem Ie {P:Program} {id:Nat} {ops:Array Oper} {Q:Exit→Act→World→Prop} {a:Act} {w:World} (hm:P.follows .mixedOrders=true) (hok:dP ops=true) (hlast:vg ops=true)
  (vs:List (Option Value)) (nd bd:List Nat) (V:Nat→Value→World→Prop) (pM:okN ops nd bd=true) (hnd:∀i,i∈nd→vs[i]? =some none) (hnl:∀i,i∈nd→i+1<ops.size)
  (hV:∀i v w w',V i v w→Below w.heap.size w w'→V i v w') (l:List Oper) (o:Oper) (hl:ops.toList=l++[o])
  (h:∀u,l9 P ops (Below w.heap.size w) nd bd V u (fun a'=>∀w',Below w.heap.size w w'→(∀i,i∈nd→V i (u i) w')→Region.wanted o (yielded ops a'.tmps)=true∧o.wp P a' w' (fun a'' w''=>Q .normal a'' w'') Q) 0 vs l a):(Code.region id ops true).wp P Q a w:=by
 refine wp_region_any hm ?_;have hsz:ops.size=l.length+1:=by rw[←Array.length_toList,hl];simp
 have h0:=fun u=>fU.rF l vs 0 a (h u)
 have h3:=fU.yO (W:=Below w.heap.size w) hok hlast pM vs a hnd hnl (fun w1 w2 h1 h2=>h1.trans (h2.mono h1.size)) hV
  (fun u i p hi hp=>by
   rw[hl,List.getElem?_append_left (by omega)] at hp;have:=(h0 u).1 i p hp;simp only[Nat.zero_add] at this;rw[hl,mW _ _ _ _ _ (by omega)];exact this)
  (fun u w' hw' hF=>by
   have:=(h0 u).2 w' hw' hF;simp only[Nat.zero_add] at this;refine⟨o,?_,?_⟩
   ·have e:ops.toList[ops.size-1]? =some o:=by rw[hl,hsz];simp
    simpa using e
   ·rw[hl,mW _ _ _ _ _ (by omega),show ops.size-1=l.length by omega];exact this) ops.size (Array.replicate ops.size false) (fun _=>undef) w.drew (by simp)
  (by
   have:∀n,n≤ops.size→fU.left (Array.replicate ops.size false) n=n:=by
    intro n
    induction n with
    |zero=>intro _;rfl
    |succ n ih=>
     intro hn;simp only[fU.left];rw[ih (by omega)];have:(Array.replicate ops.size false).getD n true=false:=by simp[show n<ops.size by omega]
     rw[this];rfl
   exact this _ (Nat.le_refl _))
  (by simp[hsz])
  (by
   intro j o _ hs;exfalso;by_cases hj:j<ops.size
   ·simp[hj] at hs
   ·simp[hj] at hs) (Below.refl _ _).drew
  (by
   intro i _ hs;exfalso;by_cases hj:i<ops.size
   ·simp[hj] at hs
   ·simp[hj] at hs)
 rw[fU.iJ _ _ _ _ _ (fun i hi=>by simp[hi])] at h3;exact h3
theorem nV {P:Program} {id:Nat} {ops:Array Oper} {Q:Exit→Act→World→Prop} {a:Act} {w:World} (hm:P.follows .mixedOrders=true) (hok:dP ops=true) (hlast:vg ops=true)
  (vs:List (Option Value)) (nd bd:List Nat) (V:Nat→Value→World→Prop) (pM:okN ops nd bd=true) (hnd:∀i,i∈nd→vs[i]? =some none) (hnl:∀i,i∈nd→i+1<ops.size)
  (hV:∀i v w w',V i v w→Below w.heap.size w w'→V i v w') (o:Oper) (ho:ops.toList.getLast? =some o)
  (h:∀u,l9 P ops (Below w.heap.size w) nd bd V u (fun a'=>∀w',Below w.heap.size w w'→(∀i,i∈nd→V i (u i) w')→Region.wanted o (yielded ops a'.tmps)=true∧o.wp P a' w' (fun a'' w''=>Q .normal a'' w'') Q) 0 vs ops.toList.dropLast a):(Code.region id ops true).wp P Q a w:=by
 refine Ie hm hok hlast vs nd bd V pM hnd hnl hV ops.toList.dropLast o ?_ h;have hne:ops.toList≠[]:=by intro e;rw[e] at ho;cases ho
 rw[List.getLast?_eq_some_getLast hne] at ho;simp only[Option.some.injEq] at ho;rw[←ho];exact(List.dropLast_concat_getLast hne).symm
end Go
namespace Go.Proofs.Wy
structure Bare (t b:Nd):Prop where
 shaped:(look b).shaped=true
 bC:(look b).bC=true
 ah:(look b).ah=(look t).ah
 opened:opened b=0
 depth:∀d:Nat,(look t).depth≤d→(look b).depth≤d
end Go.Proofs.Wy
