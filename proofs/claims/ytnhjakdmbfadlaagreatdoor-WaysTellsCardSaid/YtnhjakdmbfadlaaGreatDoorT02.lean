/- Parts of the proof. Conditions: none. -/
import Derived.Test.YtnhjakdmbfadlaaGreatDoorT00
import Derived.WalkKit
import Derived.WalkMore
import Derived.Lib.ValidLaws
import Derived.Test.YtnhjakdmbfadlaaGreatDoorT01
set_option linter.all false
set_option maxHeartbeats 8000000
set_option maxRecDepth 100000
namespace Go
open RowKit
def mG (ops:Array Oper) (i j:Nat):Bool:=decide (j<i) && ((Region.before ops).getD i 0).testBit j
def okL (ops:Array Oper) (ord sp pin:List Nat):Bool:=
 ((List.range ops.size).all fun i=>ord.contains i) && (List.range ord.length).all fun k=>
  let i:=ord.getD k 0
  !(ord.take k).contains i && ((List.range ops.size).all fun j=> !mG ops i j || (ord.take k).contains j) &&
  (if sp.contains i then((ord.drop (k+1)).all fun j=>mG ops j i) && ((ord.take k).all fun j=> !pin.contains j || mG ops i j) && ((ord.drop (k+1)).any (fun j=>sp.contains j) || (ord.take k).all fun j=>mG ops i j)
   else pin.contains i || (ord.drop (k+1)).any fun j=>sp.contains j)
structure AtL (ops:Array Oper) (sp pin D:List Nat) (i:Nat) (rest:List Nat):Prop where
 fresh:i∉D
 H8:∀j,j<ops.size→mG ops i j=true→j∈D
 behind:i∈sp→∀j∈rest,mG ops j i=true
 pins:i∈sp→∀j∈D,j∈pin→mG ops i j=true
 last:i∈sp→(∃j∈rest,j∈sp)∨∀j∈D,mG ops i j=true
 free:i∉sp→i∈pin∨∃j∈rest,j∈sp
theorem mP {ops:Array Oper} {ord sp pin:List Nat} (h:okL ops ord sp pin=true) {D:List Nat} {i:Nat} {rest:List Nat} (he:ord=D++i::rest):AtL ops sp pin D i rest:=by
 unfold okL at h;rw[Bool.and_eq_true] at h;have h1:=h.2;rw[List.all_eq_true] at h1;have h2:=h1 D.length (List.mem_range.2 (by rw[he];simp));have e1:ord.getD D.length 0=i:=by rw[he];simp[List.getD_eq_getElem?_getD]
 have e2:ord.take D.length=D:=by rw[he];simp
 have e3:ord.drop (D.length+1)=rest:=by rw[he];simp[List.drop_append]
 simp only[e1,e2,e3,Bool.and_eq_true,Bool.not_eq_true',List.contains_eq_mem,decide_eq_false_iff_not] at h2;obtain⟨⟨h3,h4⟩,h5⟩:=h2;rw[List.all_eq_true] at h4;refine⟨h3,fun j hj hb=> ?_,fun hi=> ?_,fun hi=> ?_,fun hi=> ?_,fun hi=> ?_⟩
 ·have:=h4 j (List.mem_range.2 hj);rw[hb] at this
  simpa using this
 all_goals simp only[hi,decide_true,decide_false,if_true,if_false,Bool.false_eq_true,Bool.and_eq_true,Bool.or_eq_true,List.all_eq_true,List.any_eq_true,decide_eq_true_eq,Bool.not_eq_true',decide_eq_false_iff_not] at h5
 ·exact h5.1.1
 ·exact fun j hj hp=>(h5.1.2 j hj).resolve_left (fun hn=>hn hp)
 ·exact h5.2
 ·exact h5
theorem Le {ops:Array Oper} {ord sp pin:List Nat} (h:okL ops ord sp pin=true) {i:Nat} (hi:i<ops.size):i∈ord:=by
 unfold okL at h;rw[Bool.and_eq_true] at h;have h1:=h.1;rw[List.all_eq_true] at h1
 simpa using h1 i (List.mem_range.2 hi)
def pJ (P:Program) (ops:Array Oper) (W:World→Prop) (o:Oper) (v:Value) (a:Act):Prop:=
 if Region.wanted o (yielded ops a.tmps) then∀w,W w→∀K:Act→World→Prop,K (a.put o.dst v) w→o.wp P a w K (fun _ _ _=>False) else v=undef
def kT (P:Program) (ops:Array Oper) (sp pin:List Nat) (Wb:World→Prop) (W:List Value→World→Prop) (R:List Value→Act→Prop):List Nat→List Value→Act→Prop
 |[],L,a=>R L a
 |i::rest,L,a=>∃o,ops[i]? =some o∧
  if sp.contains i then Region.wanted o (yielded ops a.tmps)=true∧(∀w,W L w→∀K:Act→World→Prop,(∀v w',W (L++[v]) w'→K (a.put o.dst v) w')→o.wp P a w K (fun _ _ _=>False))∧
   ∀v,(∃w',W (L++[v]) w')→kT P ops sp pin Wb W R rest (L++[v]) (a.put o.dst v)
  else∃v,pJ P ops (if pin.contains i then W L else Wb) o v a∧kT P ops sp pin Wb W R rest L (a.put o.dst v)
section
variable {P:Program} {ops:Array Oper} {sp pin:List Nat} {Wb:World→Prop} {W:List Value→World→Prop} {R:List Value→Act→Prop} {rest:List Nat} {L:List Value} {i:Nat} {o:Oper} {a:Act}
theorem aG (h:R L a):kT P ops sp pin Wb W R [] L a:=h
theorem ae (v:Value) (ho:ops.toList[i]? =some o) (hs:sp.contains i=false) (hp:pin.contains i=false) (hw:Region.wanted o (yielded ops a.tmps)=true)
  (h:∀w,Wb w→∀K:Act→World→Prop,K (a.put o.dst v) w→o.wp P a w K (fun _ _ _=>False)) (k:kT P ops sp pin Wb W R rest L (a.put o.dst v)):kT P ops sp pin Wb W R (i::rest) L a:=by
 refine⟨o,by simpa using ho,?_⟩;rw[if_neg (by rw[hs];simp),hp];exact⟨v,by unfold pJ;rw[if_pos hw];exact h,k⟩
theorem ag (v:Value) (ho:ops.toList[i]? =some o) (hs:sp.contains i=false) (hp:pin.contains i=true) (hw:Region.wanted o (yielded ops a.tmps)=true)
  (h:∀w,W L w→∀K:Act→World→Prop,K (a.put o.dst v) w→o.wp P a w K (fun _ _ _=>False)) (k:kT P ops sp pin Wb W R rest L (a.put o.dst v)):kT P ops sp pin Wb W R (i::rest) L a:=by
 refine⟨o,by simpa using ho,?_⟩;rw[if_neg (by rw[hs];simp),hp];exact⟨v,by unfold pJ;rw[if_pos hw];exact h,k⟩
theorem dB (ho:ops.toList[i]? =some o) (hs:sp.contains i=false) (hw:Region.wanted o (yielded ops a.tmps)=false) (k:kT P ops sp pin Wb W R rest L (a.put o.dst undef)):kT P ops sp pin Wb W R (i::rest) L a:=by
 refine⟨o,by simpa using ho,?_⟩;rw[if_neg (by rw[hs];simp)];exact⟨undef,by unfold pJ;rw[if_neg (by rw[hw];simp)],k⟩
theorem ax (ho:ops.toList[i]? =some o) (hs:sp.contains i=true) (hw:Region.wanted o (yielded ops a.tmps)=true)
  (h:∀w,W L w→∀K:Act→World→Prop,(∀v w',W (L++[v]) w'→K (a.put o.dst v) w')→o.wp P a w K (fun _ _ _=>False))
  (k:∀v,(∃w',W (L++[v]) w')→kT P ops sp pin Wb W R rest (L++[v]) (a.put o.dst v)):kT P ops sp pin Wb W R (i::rest) L a:=by
 refine⟨o,by simpa using ho,?_⟩;rw[if_pos hs];exact⟨hw,h,k⟩
end
namespace fU
section
variable {P:Program} {ops:Array Oper}
theorem AP {Q:Exit→Act→World→Prop} {G:Value→World→Prop} {o:Oper} {A a:Act} {i:Nat} {w:World} (hi:ops[i]? =some o) (hw:Region.wanted o (yielded ops A.tmps)=true)
  (h:∀K:Act→World→Prop,(∀v w',G v w'→K (A.put o.dst v) w')→o.wp P A w K (fun _ _ _=>False))
  (hs:∀cs b,o.op≠.select cs b) (hz:A.tmps.size=a.tmps.size) (hn:∀t,t∈o.looksAt ops→a.tmps[t]? =A.tmps[t]?) {K:Act→World→Prop}
  (hK:∀v w',G v w'→K (a.put o.dst v) w'):wpOp P ops Q i K a w:=by
 unfold wpOp;simp only[hi];rw[ja hn,if_pos hw];refine .inl ?_;have h1:=h (fun x w''=>(∀u,x=A.put o.dst u→K (a.put o.dst u) w'')∧x.defers=A.defers) (fun v w' hw'=>⟨fun u hu=>by rw[←um hz hu];exact hK v w' hw',by cases o.dst<;>rfl⟩);unfold Oper.wp at h1 ⊢;rw[nR hs hn];generalize (execOp A.eval o).run P w=r at h1;cases r with
 |ok n w'=>
  cases n<;>simp only[Oper.upon] at h1 ⊢
  case value u=>exact h1.1 u rfl
  case skip=>exact h1.1 _ rfl
  case defer d=>
   have h2:=congrArg List.length h1.2;cases hd:o.dst<;>simp[hd,Act.put] at h2
  case enter f args=>
   refine Calls.mono h1 fun e w'' he=> ?_
   cases e with
   |returned u=>exact he.1 u rfl
   |panicked c=>exact he.elim
   |outgrown=>obtain⟨_,_,hf⟩:=he;exact hf.elim
  case row row args=>exact Rows.mono h1 fun u w'' he=>he.1 u rfl
 |halt x w'=>cases x<;>simp only[Oper.upon] at h1 ⊢
theorem Fh {Q:Exit→Act→World→Prop} {W:World→Prop} {o:Oper} {v:Value} {A a:Act} {i:Nat} {w:World} (hi:ops[i]? =some o) (h:pJ P ops W o v A) (hw:W w)
  (hs:∀cs b,o.op≠.select cs b) (hz:A.tmps.size=a.tmps.size) (hn:∀t,t∈o.looksAt ops→a.tmps[t]? =A.tmps[t]?) {K:Act→World→Prop}
  (hK:K (a.put o.dst v) w):wpOp P ops Q i K a w:=by
 unfold pJ at h;split at h
 ·rename_i hwn;exact AP (G:=fun u w'=>u=v∧w'=w) hi hwn (fun K hK=>h w hw K (hK v w ⟨rfl,rfl⟩)) hs hz hn (fun u w' e=>by rw[e.1,e.2];exact hK)
 ·rename_i hwn;subst h;unfold wpOp;simp only[hi];rw[ja hn,if_neg hwn];exact hK
theorem rE (l:List Oper) (us vs:Nat→Value) (a:Act) (S:Nat→Bool):∀n,(∀i,i<n→S i=true→us i=vs i)→aW l us a S n=aW l vs a S n
 |0,_=>rfl
 |n+1,h=>by
  simp only[aW];rw[rE l us vs a S n (fun i hi=>h i (by omega))];split
  ·split
   ·rename_i hs;rw[h n (by omega) hs]
   ·rfl
  ·rfl
theorem iL (l:List Oper) (vs:Nat→Value) (a:Act) (S:Nat→Bool):∀n,(aW l vs a S n).tmps.size=a.tmps.size
 |0=>rfl
 |n+1=>by
  have ih:=iL l vs a S n;simp only[aW];split
  ·split
   ·rename_i p _ _;cases hp:p.dst<;>simpa [Act.put] using ih
   ·exact ih
  ·exact ih
theorem nS {i j:Nat} (h:mG ops i j=true):j<i∧((Region.before ops).getD i 0).testBit j=true:=by
 unfold mG at h
 simpa using h
theorem uq {i j:Nat} (h:j<i) (hb:((Region.before ops).getD i 0).testBit j=true):mG ops i j=true:=by
 unfold mG;rw[hb];simp[h]
theorem yH (hok:dP ops=true) (vs:Nat→Value) (a:Act) {S:Nat→Bool} {i:Nat} {o:Oper} (ho:ops[i]? =some o) (h1:∀j,mG ops i j=true→S j=true) (h2:∀j,j<ops.size→mG ops j i=true→S j=false) (h3:S i=false):
  ∀t,t∈o.eH ops→(aW ops.toList vs a S ops.size).tmps[t]? =(aT ops.toList vs a i).tmps[t]? :=by
 intro t ht;have hil:i<ops.size:=(Array.getElem?_eq_some_iff.1 ho).1;rw[show aT ops.toList vs a i=aT ops.toList vs a (min ops.size i) by rw[show min ops.size i=i by omega]];refine nP _ _ _ _ i t ?_ ?_ _
 ·intro j p hj hp hd;have hp':ops[j]? =some p:=by simpa using hp
  rcases eP hok hj hp' ho with hbit|⟨hn,_⟩
  ·exact h1 j (uq hj hbit)
  ·exact absurd ht (hn t hd)
 ·intro j p hj hp hd;have hp':ops[j]? =some p:=by simpa using hp
  by_cases e:j=i
  ·subst e;exact h3
  ·rcases eP hok (show i<j by omega) ho hp' with hbit|⟨_,hn⟩
   ·exact h2 j (Array.getElem?_eq_some_iff.1 hp').1 (uq (by omega) hbit)
   ·exact absurd ht (hn t hd)
structure StL (P:Program) (ops:Array Oper) (ord sp pin:List Nat) (Wb:World→Prop) (W:List Value→World→Prop) (R:List Value→Act→Prop) (a:Act) (rest D:List Nat) (vs:Nat→Value) (L:List Value) (listed:Array Bool) (w:World):Prop where
 split:ord=D++rest
 size:listed.size=ops.size
 closed:∀j o,ops[j]? =some o→listed.getD j false=true→∀e∈o.after,Region.binds .any e=true→listed.getD e.on false=true
 sub:∀i,listed.getD i false=true→i∈D
 acts:∀i,i∈D→i∈sp→listed.getD i false=true
 un:∀i,i∈D→listed.getD i false=false→∃o D1 D2 X,ops[i]? =some o∧D=D1++i::D2∧pJ P ops X o (vs i) (aW ops.toList vs a (fun j=>D1.contains j) ops.size)∧(∀w,W L w→X w)∧(i∉pin→X=Wb)
 count:L.length+(rest.filter fun j=>sp.contains j).length=(ord.filter fun j=>sp.contains j).length
 oZ:kT P ops sp pin Wb W R rest L (aW ops.toList vs a (fun j=>D.contains j) ops.size)
 world:W L w
variable {ord sp pin:List Nat} {Wb:World→Prop} {W:List Value→World→Prop} {R:List Value→Act→Prop} {a:Act} {rest D:List Nat} {vs:Nat→Value} {L:List Value} {listed:Array Bool} {w:World}
theorem Ei (hok:dP ops=true) (hord:okL ops ord sp pin=true) {i:Nat} {r:List Nat} (he:ord=D++i::r) {o:Oper} (ho:ops[i]? =some o) (vs:Nat→Value) (a:Act):
  aW ops.toList vs a (fun j=>(D++[i]).contains j) ops.size=(aW ops.toList vs a (fun j=>D.contains j) ops.size).put o.dst (vs i):=by
 have hat:=mP hord he;have hil:i<ops.size:=(Array.getElem?_eq_some_iff.1 ho).1;have hc:D.contains i=false:=by simpa using hat.fresh
 rw[←jr ops.toList vs a (fun j=>D.contains j) i o (by simpa using ho) hc ops.size hil]
 ·refine fB _ _ _ _ _ _ fun k _=> ?_
  by_cases e:k=i
  ·subst e;simp
  ·rw[if_neg e];simp[e]
 ·intro j p hij hp hj d hd hpd;have hp':ops[j]? =some p:=by simpa using hp
  rcases eP hok hij ho hp' with hbit|⟨hn,_⟩
  ·have hjD:j∈D:=by simpa using hj
   obtain⟨E1,E2,rfl⟩:=List.append_of_mem hjD;have:=(mP (ops:=ops) (sp:=sp) (pin:=pin) hord (D:=E1) (i:=j) (rest:=E2++i::r) (by rw[he];simp)).H8 i hil (uq hij hbit);exact hat.fresh (by simp[this])
  ·exact hn d hd (by simp[Oper.eH,hpd])
theorem StL.read (hok:dP ops=true) (hord:okL ops ord sp pin=true) (hb:∀L w,W L w→L.length<(ord.filter fun j=>sp.contains j).length→Wb w) {i:Nat} {r:List Nat}
  (h:StL P ops ord sp pin Wb W R a (i::r) D vs L listed w) (hi:i∉sp):∃vs',StL P ops ord sp pin Wb W R a r (D++[i]) vs' L listed w∧aW ops.toList vs' a (fun i=>listed.getD i false) ops.size=aW ops.toList vs a (fun i=>listed.getD i false) ops.size:=by
 have hat:=mP hord h.split;have H9:=h.oZ;obtain⟨o,ho,hf⟩:=H9;rw[if_neg (by simpa using hi)] at hf;obtain⟨v,hr,hk⟩:=hf;have key:∀S:Nat→Bool,S i=false→aW ops.toList (fun k=>if k=i then v else vs k) a S ops.size=aW ops.toList vs a S ops.size:=fun S hS=>
  rE _ _ _ _ _ _ fun j _ hj=>by
   by_cases e:j=i
   ·subst e;rw[hS] at hj;cases hj
   ·rw[if_neg e]
 have hnl:listed.getD i false=false:=by
  cases e:listed.getD i false with
  |false=>rfl
  |true=>exact absurd (h.sub i e) hat.fresh
 have hDi:D.contains i=false:=by simpa using hat.fresh
 have hput:=Ei hok hord h.split ho (fun k=>if k=i then v else vs k) a;rw[key _ hDi,if_pos rfl] at hput;have hcount:(r.filter fun j=>sp.contains j).length=((i::r).filter fun j=>sp.contains j).length:=by
  rw[List.filter_cons_of_neg (by simpa using hi)]
 refine⟨fun k=>if k=i then v else vs k,⟨by rw[h.split];simp,h.size,h.closed,fun j hj=>List.mem_append_left _ (h.sub j hj),fun j hj hs=> ?_,fun j hj hl=> ?_,by rw[hcount];exact h.count,by rw[hput];exact hk,h.world⟩,key _ hnl⟩
 ·rcases List.mem_append.1 hj with hj|hj
  ·exact h.acts j hj hs
  ·simp only[List.mem_singleton] at hj;subst hj;exact absurd hs hi
 ·rcases List.mem_append.1 hj with hj|hj
  ·obtain⟨p,D1,D2,X,h1,h2,h3,h4,h5⟩:=h.un j hj hl;have hji:j≠i:=fun e=>hat.fresh (e ▸ hj)
   have hD1:D1.contains i=false:=by
    have:i∉D1:=fun e=>hat.fresh (by rw[h2];simp[e])
    simpa using this
   refine⟨p,D1,D2++[i],X,h1,by rw[h2];simp,?_,h4,h5⟩;rw[if_neg hji,key _ hD1];exact h3
  ·simp only[List.mem_singleton] at hj;subst hj;refine⟨o,D,[],if pin.contains j then W L else Wb,ho,rfl,?_,?_,?_⟩
   ·rw[if_pos rfl,key _ hDi];exact hr
   ·intro w' hw';by_cases hp:j∈pin
    ·rw[if_pos (by simpa using hp)];exact hw'
    ·rw[if_neg (by simpa using hp)];refine hb L w' hw' ?_;obtain⟨k,hk1,hk2⟩:=(hat.free hi).resolve_left hp;have:=h.count;rw[←hcount] at this;have hpos:0<(r.filter fun j=>sp.contains j).length:=List.length_pos_of_mem (List.mem_filter.2 ⟨hk1,by simpa using hk2⟩);omega
   ·intro hp;rw[if_neg (by simpa using hp)]
theorem StL.norm (hok:dP ops=true) (hord:okL ops ord sp pin=true) (hb:∀L w,W L w→L.length<(ord.filter fun j=>sp.contains j).length→Wb w):
  ∀(rest D:List Nat) (vs:Nat→Value),StL P ops ord sp pin Wb W R a rest D vs L listed w→
  ∃rest' D' vs',StL P ops ord sp pin Wb W R a rest' D' vs' L listed w∧aW ops.toList vs' a (fun i=>listed.getD i false) ops.size=aW ops.toList vs a (fun i=>listed.getD i false) ops.size∧∀i r,rest'=i::r→i∈sp
 |[],D,vs,h=>⟨[],D,vs,h,rfl,fun _ _ e=>by cases e⟩
 |i::r,D,vs,h=>by
  by_cases hi:i∈sp
  ·exact⟨i::r,D,vs,h,rfl,fun j q e=>by simp only[List.cons.injEq] at e;rw[←e.1];exact hi⟩
  ·obtain⟨vs1,h1,e1⟩:=h.read hok hord hb hi;obtain⟨rest',D',vs',h2,e2,h3⟩:=StL.norm hok hord hb r (D++[i]) vs1 h1;exact⟨rest',D',vs',h2,e2.trans e1,h3⟩
theorem yI {Q:Exit→Act→World→Prop} (hok:dP ops=true) (hord:okL ops ord sp pin=true) (hb:∀L w,W L w→L.length<(ord.filter fun j=>sp.contains j).length→Wb w)
  (hq:∀L a' w',R L a'→W L w'→Q .normal a' w'):
  ∀(fuel:Nat) (rest D:List Nat) (vs:Nat→Value) (L:List Value) (listed:Array Bool) (w:World),left listed ops.size=fuel→StL P ops ord sp pin Wb W R a rest D vs L listed w→
   wpAny P .any ops Q fuel listed (aW ops.toList vs a (fun i=>listed.getD i false) ops.size) w:=by
 intro fuel
 induction fuel with
 |zero=>
  intro rest D vs L listed w hl h;have hall:=jv _ hl;have hsz:=h.size;refine⟨?_,?_⟩
  ·apply List.eq_nil_iff_forall_not_mem.2;intro j hj;rw[mem_ready] at hj;obtain⟨h0,o,ho,_⟩:=hj;have:=hall j (Array.getElem?_eq_some_iff.1 ho).1;rw[h0] at this;cases this
  ·obtain⟨rest',D',vs',h',Lh,hhead⟩:=StL.norm hok hord hb rest D vs h;rw[←Lh];have hnil:rest'=[]:=by
    cases rest' with
    |nil=>rfl
    |cons i r=>
     exfalso;obtain⟨o,ho,-⟩:=h'.oZ;have hil:=(Array.getElem?_eq_some_iff.1 ho).1;exact(mP hord h'.split).fresh (h'.sub i (by rw[←eG (by omega)];exact hall i hil))
   subst hnil;have hf:=h'.oZ;rw[fB ops.toList vs' a (fun i=>listed.getD i false) (fun j=>D'.contains j) ops.size (fun i hi=>by
    have e1:listed.getD i false=true:=by rw[←eG (by omega)];exact hall i hi
    rw[e1];have:=h'.sub i e1
    simpa using this)]
   exact hq L _ w hf h'.world
 |succ fuel ih=>
  intro rest D vs L listed w hl h0;obtain⟨rest,D,vs',h,Lh,hhead⟩:=StL.norm hok hord hb rest D vs h0;rw[←Lh];clear Lh h0 vs;have hsz:=h.size;have hcl:=h.closed;refine⟨?_,?_⟩
  ·intro hnil;exfalso;obtain⟨i,h1,h2,h3⟩:=kP _ (show 0<left listed ops.size by omega);have ho:ops[i]? =some ops[i]:=Array.getElem?_eq_getElem h1;have:i∈Region.ready .any ops listed:=by
    rw[mem_ready];refine⟨h2,_,ho,fun e he hb=> ?_⟩;have hlt:=qy hok ho e he hb;rw[←eG (by omega)];exact h3 _ hlt
   rw[hnil] at this;cases this
  ·intro i hi;rw[mem_ready] at hi;obtain⟨hi0,o,ho,mO⟩:=hi;have hil:i<ops.size:=(Array.getElem?_eq_some_iff.1 ho).1;have hol:ops.toList[i]? =some o:=by simpa using ho
   have h0':listed.getD i false=false:=by rw[←eG (by omega)];exact hi0
   have hcl':∀j p,ops[j]? =some p→(if j=i then true else listed.getD j false)=true→∀e∈p.after,Region.binds .any e=true→(if e.on=i then true else listed.getD e.on false)=true:=by
    intro j p hj hs e he hb;by_cases e1:e.on=i
    ·rw[if_pos e1]
    ·rw[if_neg e1];by_cases e2:j=i
     ·subst e2;rw[ho] at hj;cases hj;exact mO e he hb
     ·rw[if_neg e2] at hs;exact hcl j p hj hs e he hb
   have hb1:∀j,mG ops i j=true→listed.getD j false=true:=by
    intro j hbit;obtain⟨hj,hbit⟩:=nS hbit;have:=gW hok (S:=fun k=>if k=i then true else listed.getD k false) hcl' i j hj hil hbit (by simp)
    simpa [show j≠i by omega] using this
   have hb2:∀j,j<ops.size→mG ops j i=true→listed.getD j false=false:=by
    intro j hjl hbit;obtain⟨hj,hbit⟩:=nS hbit;cases hs:listed.getD j false with
    |false=>rfl
    |true=>
     have:=gW hok (S:=fun k=>listed.getD k false) hcl j i hj hjl hbit hs;rw[h0'] at this;cases this
   have o8:∀j p,i<j→ops.toList[j]? =some p→listed.getD j false=true→∀d,o.dst=some d→p.dst≠some d:=by
    intro j p hj hp hs d hd hpd;have hp':ops[j]? =some p:=by simpa using hp
    rcases eP hok hj ho hp' with hbit|⟨hn,_⟩
    ·have:=hb2 j (Array.getElem?_eq_some_iff.1 hp').1 (uq hj hbit);rw[hs] at this;cases this
    ·exact hn d hd (by simp[Oper.eH,hpd])
   have hsame:∀vs,aW ops.toList vs a (fun k=>(listed.setIfInBounds i true).getD k false) ops.size=(aW ops.toList vs a (fun k=>listed.getD k false) ops.size).put o.dst (vs i):=by
    intro vs;rw[←jr ops.toList vs a (fun k=>listed.getD k false) i o hol h0' ops.size hil o8];refine fB _ _ _ _ _ _ fun k _=> ?_
    by_cases e:k=i
    ·subst e;simp[hsz,hil]
    ·rw[if_neg e,getD_set_ne false (Ne.symm e)]
   have hleft:left (listed.setIfInBounds i true) ops.size=fuel:=by
    have:=kQ (by omega) hi0 ops.size;rw[if_pos hil] at this;omega
   have hset:∀j,(listed.setIfInBounds i true).getD j false=true→j=i∨listed.getD j false=true:=by
    intro j hj;by_cases e:j=i
    ·exact .inl e
    ·rw[getD_set_ne false (Ne.symm e)] at hj;exact .inr hj
   have hclosed:∀j p,ops[j]? =some p→(listed.setIfInBounds i true).getD j false=true→∀e∈p.after,Region.binds .any e=true→(listed.setIfInBounds i true).getD e.on false=true:=by
    intro j p hj hs e he hb;by_cases e2:j=i
    ·subst e2;rw[ho] at hj;cases hj;exact getD_set_true (mO e he hb)
    ·rw[getD_set_ne false (Ne.symm e2)] at hs;exact getD_set_true (hcl j p hj hs e he hb)
   by_cases hiD:i∈D
   ·
    obtain⟨p,D1,D2,X,k1,k2,k3,k4,k5⟩:=h.un i hiD h0';rw[ho] at k1;simp only[Option.some.injEq] at k1;subst k1;have hat:=mP (ops:=ops) (sp:=sp) (pin:=pin) hord (D:=D1) (i:=i) (rest:=D2++rest) (by rw[h.split,k2];simp);refine Fh ho k3 (k4 w h.world) (uN hok ho) (by rw[iL,iL]) (fun t ht=> ?_) ?_
    ·have ht':t∈o.eH ops:=by simp[Oper.eH,ht]
     rw[yH hok vs' a ho hb1 hb2 h0' t ht',yH hok vs' a ho (S:=fun j=>D1.contains j) (fun j hj=> ?_) (fun j hjl hj=> ?_) (by simpa using hat.fresh) t ht']
     ·have:=hat.H8 j (by have:=(nS hj).1;omega) hj
      simpa using this
     ·cases e:D1.contains j with
      |false=>rfl
      |true=>
       exfalso;have hj1:j∈D1:=by simpa using e
       obtain⟨E1,E2,rfl⟩:=List.append_of_mem hj1;have:=(mP (ops:=ops) (sp:=sp) (pin:=pin) hord (D:=E1) (i:=j) (rest:=E2++i::(D2++rest)) (by rw[h.split,k2];simp)).H8 i hil hj;exact hat.fresh (by simp[this])
    ·rw[←hsame];refine ih rest D vs' L _ w hleft ⟨h.split,by simp[hsz],hclosed,fun j hj=>(hset j hj).elim (fun e=>e ▸ hiD) (h.sub j),fun j hj hs=>getD_set_true (h.acts j hj hs),fun j hj hu=>h.un j hj ?_,h.count,h.oZ,h.world⟩;cases e:listed.getD j false with
     |false=>rfl
     |true=>rw[getD_set_true e] at hu;cases hu
   ·
    have hmem:=Le hord hil;rw[h.split] at hmem;have hir:i∈rest:=(List.mem_append.1 hmem).resolve_left hiD;have hsplit:=h.split;have H9:=h.oZ;have hcount:=h.count;obtain⟨s,r,hrest⟩:∃s r,rest=s::r:=by
     cases rest with
     |nil=>cases hir
     |cons s r=>exact⟨s,r,rfl⟩
    have hs:=hhead s r hrest;subst hrest;have hat:=mP hord hsplit;have his:i=s:=by
     rcases List.mem_cons.1 hir with e|e
     ·exact e
     ·exfalso;have:=hb1 s (hat.behind hs i e);exact hat.fresh (h.sub s this)
    subst his;obtain⟨p,hp,hf⟩:=H9;rw[ho] at hp;simp only[Option.some.injEq] at hp;subst hp;rw[if_pos (by simpa using hs)] at hf;obtain⟨hw1,hw2,hw3⟩:=hf;have hDi:D.contains i=false:=by simpa using hat.fresh
    refine AP (G:=fun v w'=>W (L++[v]) w') ho hw1 (fun K hK=>hw2 w h.world K hK) (uN hok ho) (by rw[iL,iL]) (fun t ht=> ?_) (fun v w' hw'=> ?_)
    ·have ht':t∈o.eH ops:=by simp[Oper.eH,ht]
     rw[yH hok vs' a ho hb1 hb2 h0' t ht',yH hok vs' a ho (S:=fun j=>D.contains j) (fun j hj=> ?_) (fun j hjl hj=> ?_) hDi t ht']
     ·have:=hat.H8 j (by have:=(nS hj).1;omega) hj
      simpa using this
     ·cases e:D.contains j with
      |false=>rfl
      |true=>
       exfalso;have hj1:j∈D:=by simpa using e
       obtain⟨E1,E2,rfl⟩:=List.append_of_mem hj1;have:=(mP (ops:=ops) (sp:=sp) (pin:=pin) hord (D:=E1) (i:=j) (rest:=E2++i::r) (by rw[hsplit];simp)).H8 i hil hj;exact hat.fresh (by simp[this])
    ·have key:∀S:Nat→Bool,S i=false→aW ops.toList (fun k=>if k=i then v else vs' k) a S ops.size=aW ops.toList vs' a S ops.size:=fun S hS=>
      rE _ _ _ _ _ _ fun j _ hj=>by
       by_cases e:j=i
       ·subst e;rw[hS] at hj;cases hj
       ·rw[if_neg e]
     have hput:=Ei hok hord hsplit ho (fun k=>if k=i then v else vs' k) a;rw[key _ hDi,if_pos rfl] at hput;have hsm:=hsame (fun k=>if k=i then v else vs' k);rw[key (fun k=>listed.getD k false) h0',if_pos rfl] at hsm;rw[←hsm];refine ih r (D++[i]) _ (L++[v]) _ w' hleft ⟨by rw[hsplit];simp,by simp[hsz],hclosed,fun j hj=>(hset j hj).elim (fun e=>by simp[e]) (fun e=>List.mem_append_left _ (h.sub j e)),fun j hj hsj=> ?_,fun j hj hu=> ?_,?_,by rw[hput];exact hw3 v ⟨w',hw'⟩,hw'⟩
     ·rcases List.mem_append.1 hj with hj|hj
      ·exact getD_set_true (h.acts j hj hsj)
      ·simp only[List.mem_singleton] at hj;subst hj;simp[hsz,hil]
     ·have QV:j≠i:=fun e=>by
       subst e;simp[hsz,hil] at hu
      have hjD:j∈D:=(List.mem_append.1 hj).resolve_right (by simpa using QV);have hju:listed.getD j false=false:=by
       cases e:listed.getD j false with
       |false=>rfl
       |true=>rw[getD_set_true e] at hu;cases hu
      obtain⟨p,D1,D2,X,k1,k2,k3,k4,k5⟩:=h.un j hjD hju;have hjp:j∉pin:=fun hp=>by
       have:=hb1 j (hat.pins hs j hjD hp);rw[hju] at this;cases this
      have hX:=k5 hjp;subst hX;have hD1:D1.contains i=false:=by
       have:i∉D1:=fun e=>hat.fresh (by rw[k2];simp[e])
       simpa using this
      refine⟨p,D1,D2++[i],_,k1,by rw[k2];simp,?_,fun w2 hw2=>hb _ _ hw2 ?_,fun _=>rfl⟩
      ·rw[if_neg QV,key _ hD1];exact k3
      ·rcases hat.last hs with⟨m,hm1,hm2⟩|hlast
       ·have hpos:0<(r.filter fun j=>sp.contains j).length:=List.length_pos_of_mem (List.mem_filter.2 ⟨hm1,by simpa using hm2⟩);rw[List.filter_cons_of_pos (by simpa using hs),List.length_cons] at hcount;rw[List.length_append,List.length_singleton];omega
       ·have:=hb1 j (hlast j hjD);rw[hju] at this;cases this
     ·rw[List.filter_cons_of_pos (by simpa using hs),List.length_cons] at hcount;rw[List.length_append,List.length_singleton];omega
end
end fU
theorem aJ {P:Program} {id:Nat} {ops:Array Oper} {Q:Exit→Act→World→Prop} {a:Act} {w:World} (hm:P.follows .mixedOrders=true) (hok:dP ops=true)
  (ord sp pin:List Nat) (hord:okL ops ord sp pin=true) (Wb:World→Prop) (W:List Value→World→Prop)
  (hb:∀L w,W L w→L.length<(ord.filter fun j=>sp.contains j).length→Wb w) (hw:W [] w.drew)
  (h:kT P ops sp pin Wb W (fun L a'=>∀w',W L w'→Q .normal a' w') ord [] a):(Code.region id ops true).wp P Q a w:=by
 refine wp_region_any hm ?_;have h3:=fU.yI (P:=P) (W:=W) (R:=fun L a'=>∀w',W L w'→Q .normal a' w') (Q:=Q) (a:=a) hok hord hb (fun L a' w' h1 h2=>h1 w' h2) ops.size ord [] (fun _=>undef) [] (Array.replicate ops.size false) w.drew
  (by
   have:∀n,n≤ops.size→fU.left (Array.replicate ops.size false) n=n:=by
    intro n
    induction n with
    |zero=>intro _;rfl
    |succ n ih=>
     intro hn;simp only[fU.left];rw[ih (by omega)];have:(Array.replicate ops.size false).getD n true=false:=by simp[show n<ops.size by omega]
     rw[this];rfl
   exact this _ (Nat.le_refl _))
  ⟨rfl,by simp,(by
   intro j o _ hs;exfalso;by_cases hj:j<ops.size
   ·simp[hj] at hs
   ·simp[hj] at hs),(by
   intro j hs;exfalso;by_cases hj:j<ops.size
   ·simp[hj] at hs
   ·simp[hj] at hs),(fun i hi=>by cases hi),(fun i hi=>by cases hi),by simp,(by
   rw[fU.iJ _ _ _ _ _ (fun i _=>by simp)];exact h),hw⟩
 rw[fU.iJ _ _ _ _ _ (fun i hi=>by simp[hi])] at h3;exact h3
end Go
namespace Go.Proofs.Wy
open Go Go.Lib
structure Op where
 dE:List Nd
 items:List Nd
 group:Bool
def dV (k:Int):List Nd→Nd
 |[]=> .mk 1 [] 0 0 false []
 |[t]=>t
 |l=> .mk k [] 0 0 false l
def gu (o:Op):Nd:=dV 4 (o.dE++[dV 3 o.items])
def qE:List Nat:=[92,46,91,93,40,41,123,125,42,43,63,124,94,36]
def byteAt (s:ByteArray) (i:Nat):Nat:=(s.get! i).toNat
def gQ (s:ByteArray) (i:Nat):Option (Nat×Nat):=
 if byteAt s i<128 then some (byteAt s i,1)
 else if 192≤byteAt s i∧byteAt s i<224∧i+2≤s.size∧128≤byteAt s (i+1)∧byteAt s (i+1)<192∧128≤64*(byteAt s i-192)+(byteAt s (i+1)-128) then some (64*(byteAt s i-192)+(byteAt s (i+1)-128),2)
 else none
def Fj (s:ByteArray) (i:Nat):Option (List Rg×Nat):=
 match gQ s i with
 |some (c,n)=>if c∈qE then none else some ([⟨c,c⟩],n)
 |none=>none
def gy (s:ByteArray) (i:Nat):Option (Int×Int×Nat):=
 if s.size≤i then some (0,0,0)
 else if byteAt s i=42 then some (0,-1,1)
 else if byteAt s i=43 then some (1,-1,1)
 else if byteAt s i=63 then some (0,1,1)
 else if byteAt s i=123 then none
 else some (0,0,0)
def pK (st:List Op):Op:=st.getLastD ⟨[],[],false⟩
def sZ (st:List Op) (t:Nd):List Op:=st.dropLast++[{pK st with items:=(pK st).items++[t]}]
def l7 (s:ByteArray) (i:Nat):Bool:=decide (i<s.size) && decide (byteAt s i=63)
def yJ (s:ByteArray) (i:Nat) (st:List Op) (t:Nd):Option (Nat×List Op):=
 match gy s i with
 |none=>none
 |some (lo,hi,k)=>
  if k=0 then some (i,sZ st t)
  else some (i+k+if l7 s (i+k) then 1 else 0,sZ st (.mk 5 [] lo hi (l7 s (i+k)) [t]))
def stepM (s:ByteArray) (i:Nat) (st:List Op):Option (Nat×List Op):=
 if byteAt s i=124 then some (i+1,st.dropLast++[{pK st with dE:=(pK st).dE++[dV 3 (pK st).items],items:=[]}])
 else if byteAt s i=40 then
  if i+2<s.size∧byteAt s (i+1)=63∧byteAt s (i+2)=58 then some (i+3,st++[⟨[],[],false⟩]) else some (i+1,st++[⟨[],[],true⟩])
 else if byteAt s i=41 then
  if st.length≤1 then none
  else yJ s (i+1) st.dropLast (if(pK st).group then .mk 6 [] 0 0 false [gu (pK st)] else gu (pK st))
 else match Fj s i with
  |none=>none
  |some (l,n)=>yJ s (i+n) st (.mk 2 l 0 0 false [])
def xI (s:ByteArray):Nat→Nat→List Op→Option Nd
 |0,_,_=>none
 |k+1,i,st=>
  if i<s.size then match stepM s i st with
   |none=>none
   |some (j,st')=>xI s k j st'
  else match st with
   |[o]=>some (gu o)
   |_=>none
def mQ (s:ByteArray):Option Nd:=xI s (s.size+1) 0 [⟨[],[],false⟩]
end Go.Proofs.Wy
namespace Go.Proofs.Wy
open Go Go.RowKit Go.Proofs.Mem Go.Proofs.Grow
def fO (T:TypeId) (B:Nat) (N:Nat→Prop) (w:World) (v:Value) (l:List Nd):Prop:=∃cs,w.ownsRow B T 6 v l.length cs∧au N w l cs
theorem fO.go {T:TypeId} {B:Nat} {N M X:Nat→Prop} {w w':World} {v:Value} {l:List Nd} (h:fO T B N w v l) (k:Kept X w w') (hv:∀g,v.ownBlock=some g→¬X g) (hd:∀b,b<w.heap.size→N b→¬X b∧M b):fO T B M w' v l:=by
 obtain⟨cs,h1,h2⟩:=h;exact⟨cs,fC h1 k hv,au.go k hd h2⟩
theorem fO.nil {T:TypeId} {B:Nat} {N:Nat→Prop} {w:World}:fO T B N w (.slice none 0 0) []:=⟨[],zN,by rw[au]⟩
theorem fO.slice {T:TypeId} {B:Nat} {N:Nat→Prop} {w:World} {v:Value} {l:List Nd} (h:fO T B N w v l):∃o c,v= .slice o l.length c:=by
 obtain⟨cs,h1,-⟩:=h;exact eX h1
theorem fO.lt {T:TypeId} {B:Nat} {N:Nat→Prop} {w:World} {v:Value} {l:List Nd} (h:fO T B N w v l):∀g,v.ownBlock=some g→B≤g∧g<w.heap.size:=by
 obtain⟨cs,h1,-⟩:=h;exact h1.lt
theorem fO.read {T:TypeId} {B:Nat} {N M:Nat→Prop} {w:World} {v:Value} {l:List Nd} (h:fO T B N w v l) (hv:∀g,v.ownBlock=some g→M g) (hm:∀b,N b→M b):∃cs,Row M w v l.length 6 cs∧au M w l cs:=by
 obtain⟨cs,h1,h2⟩:=h;exact⟨cs,pI h1 hv,au.mono hm h2⟩
structure OpV where
 sv:Value
 iv:Value
def wS (v:Value):List Nat:=match v.ownBlock with|some b=>[b]|none=>[]
theorem aQ {v:Value} {b:Nat}:b∈wS v↔v.ownBlock=some b:=by
 unfold wS;cases h:v.ownBlock with
 |none=>simp
 |some c=>simp[eq_comm]
def OpV.own (x:OpV):List Nat:=wS x.sv++wS x.iv
def kU (xs:List OpV):List Nat:=xs.flatMap OpV.own
def iM:List Op→List OpV→List Value
 |o::st,x::xs=>x.sv::x.iv:: .bool o.group::iM st xs
 |_,_=>[]
def bD (B:Nat) (v:Value) (xs:List OpV) (b:Nat):Prop:=B≤b∧v.ownBlock≠some b∧b∉kU xs
structure aZ (TO TN:TypeId) (B:Nat) (w:World) (v:Value) (st:List Op) (xs:List OpV):Prop where
 len:xs.length=st.length
 row:w.ownsRow B TO 3 v st.length (iM st xs)
 ops:∀i (hi:i<st.length) (hx:i<xs.length),fO TN B (bD B v xs) w xs[i].sv st[i].dE∧fO TN B (bD B v xs) w xs[i].iv st[i].items
 nodup:(kU xs).Nodup
 apart:∀b∈kU xs,v.ownBlock≠some b
theorem jE:∀(st:List Op) (xs:List OpV),xs.length=st.length→(iM st xs).length=st.length*3
 |[],[],_=>rfl
 |[],_::_,h=>by simp at h
 |_::_,[],h=>by simp at h
 |o::st,x::xs,h=>by
  have:=jE st xs (by simpa using h);simp only[iM,List.length_cons,this];omega
theorem fD:∀(st:List Op) (xs:List OpV) (su:List Op) (ys:List OpV),xs.length=st.length→iM (st++su) (xs++ys)=iM st xs++iM su ys
 |[],[],_,_,_=>rfl
 |[],_::_,_,_,h=>by simp at h
 |_::_,[],_,_,h=>by simp at h
 |o::st,x::xs,su,ys,h=>by
  simp only[List.cons_append,iM];rw[fD st xs su ys (by simpa using h)]
theorem aO (xs ys:List OpV):kU (xs++ys)=kU xs++kU ys:=by simp[kU]
theorem dK (x:OpV):kU [x]=x.own:=by simp[kU]
section
variable {TO TN:TypeId} {B:Nat} {w w':World} {v v':Value} {st:List Op} {xs:List OpV}
theorem aZ.lt (h:aZ TO TN B w v st xs):∀b∈kU xs,B≤b∧b<w.heap.size:=by
 intro b hb;obtain⟨x,hx,hb⟩:=List.mem_flatMap.1 hb;obtain⟨i,hi,rfl⟩:=List.getElem_of_mem hx;have:=h.ops i (by rw[←h.len];exact hi) hi;rcases List.mem_append.1 hb with hb|hb
 ·exact this.1.lt b (aQ.1 hb)
 ·exact this.2.lt b (aQ.1 hb)
theorem aZ.go {X:Nat→Prop} (h:aZ TO TN B w v st xs) (k:Kept X w w') (hX:∀b,b<w.heap.size→¬X b):aZ TO TN B w' v st xs:=
 ⟨h.len,fC h.row k (fun g hg=>hX g (h.row.lt g hg).2),fun i hi hx=>
  ⟨(h.ops i hi hx).1.go k (fun g hg=>hX g ((h.ops i hi hx).1.lt g hg).2) (fun b hb hn=>⟨hX b hb,hn⟩),(h.ops i hi hx).2.go k (fun g hg=>hX g ((h.ops i hi hx).2.lt g hg).2) (fun b hb hn=>⟨hX b hb,hn⟩)⟩,h.nodup,h.apart⟩
theorem aZ.below (h:aZ TO TN B w v st xs) (k:Below w.heap.size w w'):aZ TO TN B w' v st xs:=
 h.go (zK k) (fun _ _=>id)
theorem aZ.low {pre:List Op} {ys:List OpV} {o:Op} {x:OpV} (h:aZ TO TN B w v (pre++[o]) (ys++[x])):ys.length=pre.length:=by
 have:=h.len
 simpa using this
theorem aZ.last {pre:List Op} {ys:List OpV} {o:Op} {x:OpV} (h:aZ TO TN B w v (pre++[o]) (ys++[x])):
  fO TN B (bD B v (ys++[x])) w x.sv o.dE∧fO TN B (bD B v (ys++[x])) w x.iv o.items:=by
 have hl:=h.low;have:=h.ops pre.length (by simp) (by simp;omega);rw[List.getElem_append_right (by omega)] at this;simp only[hl,Nat.sub_self,List.getElem_cons_zero] at this;rw[List.getElem_append_right (by omega)] at this
 simpa using this
theorem aZ.qF {pre:List Op} {ys:List OpV} {o:Op} {x:OpV} (h:aZ TO TN B w v (pre++[o]) (ys++[x])) (b:Nat) (hb:b∈x.own):b∉kU ys∧v.ownBlock≠some b:=by
 have hn:=h.nodup;rw[aO,dK,List.nodup_append] at hn;exact⟨fun hc=>hn.2.2 b hc b hb rfl,h.apart b (by rw[aO,dK];exact List.mem_append.2 (.inr hb))⟩
theorem aZ.top {X:Nat→Prop} {pre:List Op} {ys:List OpV} {o o':Op} {x x':OpV} (h:aZ TO TN B w v (pre++[o]) (ys++[x])) (k:Kept X w w')
  (hX:∀b,b<w.heap.size→X b→b∈x.own∨v.ownBlock=some b) (hrow:w'.ownsRow B TO 3 v (pre.length+1) (iM pre ys++[x'.sv,x'.iv,.bool o'.group]))
  (hx:∀b∈x'.own,b∈x.own∨w.heap.size≤b) (hxn:x'.own.Nodup)
  (h1:fO TN B (bD B v (ys++[x'])) w' x'.sv o'.dE) (h2:fO TN B (bD B v (ys++[x'])) w' x'.iv o'.items):aZ TO TN B w' v (pre++[o']) (ys++[x']):=by
 have hl:=h.low;have hlt:=h.lt;have hvlt:=h.row.lt;have hfree:∀b,b<w.heap.size→bD B v (ys++[x]) b→¬X b∧bD B v (ys++[x']) b:=by
  intro b hb hn;obtain⟨n0,n1,n2⟩:=hn;rw[aO,dK,List.mem_append,not_or] at n2;refine⟨fun hc=> ?_,n0,n1,?_⟩
  ·rcases hX b hb hc with hc|hc
   ·exact n2.2 hc
   ·exact n1 hc
  ·rw[aO,dK,List.mem_append,not_or];refine⟨n2.1,fun hc=> ?_⟩;rcases hx b hc with hc|hc
   ·exact n2.2 hc
   ·omega
 have hlow:∀b∈kU ys,¬X b:=fun b hb hc=>by
  have h3:=hlt b (by rw[aO];exact List.mem_append.2 (.inl hb));rcases hX b h3.2 hc with hc|hc
  ·exact(h.qF b hc).1 hb
  ·exact h.apart b (by rw[aO];exact List.mem_append.2 (.inl hb)) hc
 refine⟨by simp;omega,?_,?_,?_,?_⟩
 ·rw[fD _ _ _ _ hl,List.length_append];exact hrow
 ·intro i hi hx';by_cases hip:i<pre.length
  ·have:=h.ops i (by simp;omega) (by simp;omega);rw[List.getElem_append_left (by omega),List.getElem_append_left (by omega)] at this ⊢;have hm:ys[i]∈ys:=List.getElem_mem _;refine⟨this.1.go k (fun g hg=>hlow g (List.mem_flatMap.2 ⟨_,hm,List.mem_append.2 (.inl (aQ.2 hg))⟩)) hfree,this.2.go k (fun g hg=>hlow g (List.mem_flatMap.2 ⟨_,hm,List.mem_append.2 (.inr (aQ.2 hg))⟩)) hfree⟩
  ·obtain rfl:i=pre.length:=by simp at hi;omega
   rw[List.getElem_append_right (by omega)];simp only[hl,Nat.sub_self,List.getElem_cons_zero];rw[List.getElem_append_right (by omega)]
   simpa using ⟨h1,h2⟩
 ·have hn:=h.nodup;rw[aO,dK,List.nodup_append] at hn ⊢;refine⟨hn.1,hxn,fun a ha b hb e=> ?_⟩;subst e;rcases hx a hb with hb|hb
  ·exact hn.2.2 a ha a hb rfl
  ·have:=hlt a (by rw[aO];exact List.mem_append.2 (.inl ha));omega
 ·intro b hb;rw[aO,dK] at hb;rcases List.mem_append.1 hb with hb|hb
  ·exact h.apart b (by rw[aO];exact List.mem_append.2 (.inl hb))
  ·rcases hx b hb with hb|hb
   ·exact(h.qF b hb).2
   ·intro hc;have:=(hvlt b hc).2;omega
theorem aZ.push (h:aZ TO TN B w v st xs) (group:Bool) (ho:w'.ownsRow B TO 3 v' (st.length+1) (iM st xs++[.slice none 0 0,.slice none 0 0,.bool group])) (hg:w.grownBy w' v.ownBlock)
  (hv:v'.ownBlock=v.ownBlock∨v'.ownBlock=some w.heap.size):aZ TO TN B w' v' (st++[⟨[],[],group⟩]) (xs++[⟨.slice none 0 0,.slice none 0 0⟩]):=by
 have k:=eU hg;have hlt:=h.lt;have hn0:kU (xs++[⟨.slice none 0 0,.slice none 0 0⟩])=kU xs:=by
  rw[aO,dK];simp[OpV.own,wS,Value.ownBlock]
 have hfree:∀b,b<w.heap.size→bD B v xs b→¬(v.ownBlock=some b)∧bD B v' (xs++[⟨.slice none 0 0,.slice none 0 0⟩]) b:=by
  intro b hb hn;refine⟨hn.2.1,hn.1,fun e=> ?_,by rw[hn0];exact hn.2.2⟩;rcases hv with hv|hv
  ·exact hn.2.1 (hv ▸ e)
  ·rw[hv] at e;simp only[Option.some.injEq] at e;omega
 refine⟨by simp[h.len],?_,?_,by rw[hn0];exact h.nodup,?_⟩
 ·rw[fD _ _ _ _ h.len,List.length_append];exact ho
 ·intro i hi hx;by_cases hip:i<st.length
  ·have hix:i<xs.length:=by rw[h.len];exact hip
   have:=h.ops i hip hix;have hm:xs[i]∈xs:=List.getElem_mem _;rw[List.getElem_append_left hip,List.getElem_append_left hix];exact⟨this.1.go k (fun g hg e=>h.apart g (List.mem_flatMap.2 ⟨_,hm,List.mem_append.2 (.inl (aQ.2 hg))⟩) e) hfree,this.2.go k (fun g hg e=>h.apart g (List.mem_flatMap.2 ⟨_,hm,List.mem_append.2 (.inr (aQ.2 hg))⟩) e) hfree⟩
  ·obtain rfl:i=st.length:=by simp at hi;omega
   have hl:=h.len;have e1:(st++[(⟨[],[],group⟩:Op)])[st.length]'hi=⟨[],[],group⟩:=by simp
   have e2:(xs++[(⟨.slice none 0 0,.slice none 0 0⟩:OpV)])[st.length]'hx=⟨.slice none 0 0,.slice none 0 0⟩:=by simp[←hl]
   rw[e1,e2];exact⟨fO.nil,fO.nil⟩
 ·rw[hn0];intro b hb e;rcases hv with hv|hv
  ·exact h.apart b hb (hv ▸ e)
  ·rw[hv] at e;simp only[Option.some.injEq] at e;have:=hlt b hb;omega
theorem aZ.pop {pre:List Op} {ys:List OpV} {o:Op} {x:OpV} {g c:Nat} (h:aZ TO TN B w (.slice (some ⟨g,0,none⟩) (pre++[o]).length c) (pre++[o]) (ys++[x])):
  aZ TO TN B w (.slice (some ⟨g,0,none⟩) pre.length c) pre ys∧
  (∃cs,Row (bD B (.slice (some ⟨g,0,none⟩) pre.length c) ys) w x.sv o.dE.length 6 cs∧au (bD B (.slice (some ⟨g,0,none⟩) pre.length c) ys) w o.dE cs)∧
  (∃cs,Row (bD B (.slice (some ⟨g,0,none⟩) pre.length c) ys) w x.iv o.items.length 6 cs∧au (bD B (.slice (some ⟨g,0,none⟩) pre.length c) ys) w o.items cs):=by
 have hl:=h.low;have hm:∀b,bD B (.slice (some ⟨g,0,none⟩) (pre++[o]).length c) (ys++[x]) b→bD B (.slice (some ⟨g,0,none⟩) pre.length c) ys b:=fun b hb=>
  ⟨hb.1,hb.2.1,fun e=>hb.2.2 (by rw[aO];exact List.mem_append.2 (.inl e))⟩
 have ht:=Eh h.row (m:=pre.length) (by simp);rw[fD _ _ _ _ hl,List.take_left' (jE pre ys hl)] at ht;have hlast:=h.last;refine⟨⟨hl,ht,?_,?_,?_⟩,hlast.1.read (fun b hb=> ?_) hm,hlast.2.read (fun b hb=> ?_) hm⟩
 ·intro i hi hx;have:=h.ops i (by simp;omega) (by simp;omega);rw[List.getElem_append_left (by omega),List.getElem_append_left (by omega)] at this;have mono:∀{v:Value} {l:List Nd},fO TN B (bD B (.slice (some ⟨g,0,none⟩) (pre++[o]).length c) (ys++[x])) w v l→fO TN B (bD B (.slice (some ⟨g,0,none⟩) pre.length c) ys) w v l:=by
   rintro v l ⟨cs,h1,h2⟩;exact⟨cs,h1,au.mono hm h2⟩
  exact⟨mono this.1,mono this.2⟩
 ·have hn:=h.nodup;rw[aO,List.nodup_append] at hn;exact hn.1
 ·exact fun b hb=>h.apart b (by rw[aO];exact List.mem_append.2 (.inl hb))
 ·have:=h.qF b (List.mem_append.2 (.inl (aQ.2 hb)));exact⟨(hlast.1.lt b hb).1,this.2,this.1⟩
 ·have:=h.qF b (List.mem_append.2 (.inr (aQ.2 hb)));exact⟨(hlast.2.lt b hb).1,this.2,this.1⟩
end
end Go.Proofs.Wy
namespace Go
open RowKit
def okN (ops:Array Oper) (nd bd:List Nat):Bool:=
 bd.all fun j=>nd.all fun i=> !decide (i<j) || ((Region.before ops).getD j 0).testBit i
def uX (nd:List Nat) (V:Nat→Value→World→Prop) (u:Nat→Value) (j:Nat) (w:World):Prop:=∀i,i∈nd→i<j→V i (u i) w
def ji (P:Program) (ops:Array Oper) (W:World→Prop) (nd bd:List Nat) (V:Nat→Value→World→Prop) (u:Nat→Value) (j:Nat) (A:Value→World→Prop) (o:Oper) (a:Act):Prop:=
 if Region.wanted o (yielded ops a.tmps) then∀w,W w→(j∈bd→uX nd V u j w)→∀K:Act→World→Prop,(∀v w',Below w.heap.size w w'→A v w'→K (a.put o.dst v) w')→o.wp P a w K (fun _ _ _=>False)
 else∀w,W w→(j∈bd→uX nd V u j w)→A undef w
def l9 (P:Program) (ops:Array Oper) (W:World→Prop) (nd bd:List Nat) (V:Nat→Value→World→Prop) (u:Nat→Value) (R:Act→Prop):Nat→List (Option Value)→List Oper→Act→Prop
 |j,some v::vs,o::rest,a=>ji P ops W nd bd V u j (fun x _=>x=v) o a∧l9 P ops W nd bd V u R (j+1) vs rest (a.put o.dst v)
 |j,none::vs,o::rest,a=>ji P ops W nd bd V u j (V j) o a∧l9 P ops W nd bd V u R (j+1) vs rest (a.put o.dst (u j))
 |_,[],[],a=>R a
 |_,_,_,_=>False
section
variable {P:Program} {ops:Array Oper} {W:World→Prop} {nd bd:List Nat} {V:Nat→Value→World→Prop} {u:Nat→Value} {R:Act→Prop} {j:Nat} {o:Oper} {rest:List Oper} {a:Act} {v:Value} {vs:List (Option Value)}
theorem aP (hw:Region.wanted o (yielded ops a.tmps)=true)
  (h:∀w,W w→∀K:Act→World→Prop,(∀w',Below w.heap.size w w'→K (a.put o.dst v) w')→o.wp P a w K (fun _ _ _=>False)) (k:l9 P ops W nd bd V u R (j+1) vs rest (a.put o.dst v)):
  l9 P ops W nd bd V u R j (some v::vs) (o::rest) a:=⟨by unfold ji;rw[if_pos hw];exact fun w hw' _ K hK=>h w hw' K fun w' hb=>hK v w' hb rfl,k⟩
theorem uY (hw:Region.wanted o (yielded ops a.tmps)=false) (k:l9 P ops W nd bd V u R (j+1) vs rest (a.put o.dst undef)):
  l9 P ops W nd bd V u R j (some undef::vs) (o::rest) a:=⟨by unfold ji;rw[if_neg (by simp[hw])];exact fun _ _ _=>rfl,k⟩
theorem iO (hw:Region.wanted o (yielded ops a.tmps)=true)
  (h:∀w,W w→(j∈bd→uX nd V u j w)→∀K:Act→World→Prop,(∀v w',Below w.heap.size w w'→V j v w'→K (a.put o.dst v) w')→o.wp P a w K (fun _ _ _=>False)) (k:l9 P ops W nd bd V u R (j+1) vs rest (a.put o.dst (u j))):
  l9 P ops W nd bd V u R j (none::vs) (o::rest) a:=⟨by unfold ji;rw[if_pos hw];exact h,k⟩
theorem nT (h:R a):l9 P ops W nd bd V u R j [] [] a:=h
end
namespace fU
section
variable {P:Program} {ops:Array Oper} {W:World→Prop} {nd bd:List Nat} {V:Nat→Value→World→Prop}
theorem uZ (l:List Oper) (us vs:Nat→Value) (a:Act) (S:Nat→Bool):∀n,(∀i,i<n→S i=true→us i=vs i)→aW l us a S n=aW l vs a S n
 |0,_=>rfl
 |n+1,h=>by
  simp only[aW];rw[uZ l us vs a S n (fun i hi=>h i (by omega))];split
  ·split
   ·rename_i hs;rw[h n (by omega) hs]
   ·rfl
  ·rfl
theorem rF {R:Act→Prop} {u:Nat→Value}:∀(l:List Oper) (vs:List (Option Value)) (j:Nat) (a:Act),l9 P ops W nd bd V u R j vs l a→
  (∀i o,l[i]? =some o→ji P ops W nd bd V u (j+i) (fun v w=>match vs[i]? with|some (some v0)=>v=v0|_=>V (j+i) v w) o (aT l (fun i=>match vs[i]? with|some (some v)=>v|_=>u (j+i)) a i))∧R (aT l (fun i=>match vs[i]? with|some (some v)=>v|_=>u (j+i)) a l.length)
 |[],[],_,a,h=>⟨by simp,h⟩
 |[],some _::_,_,a,h=>h.elim
 |[],none::_,_,a,h=>h.elim
 |_::_,[],_,a,h=>h.elim
 |o::rest,some v::vs,j,a,⟨h,k⟩=>by
  obtain⟨h1,h2⟩:=rF rest vs (j+1) (a.put o.dst v) k;have key:∀n,aT (o::rest) (fun i=>match (some v::vs)[i]? with|some (some v)=>v|_=>u (j+i)) a (n+1)=aT rest (fun i=>match vs[i]? with|some (some v)=>v|_=>u (j+1+i)) (a.put o.dst v) n:=by
   intro n
   induction n with
   |zero=>rfl
   |succ n ih=>
    rw[aT,ih,aT];simp only[List.getElem?_cons_succ,show j+(n+1)=j+1+n by omega]
  refine⟨fun i p hi=> ?_,?_⟩
  ·cases i with
   |zero=>simp at hi;subst hi;exact h
   |succ i=>
    rw[key];have:=h1 i p (by simpa using hi)
    simpa only[List.getElem?_cons_succ,show j+(i+1)=j+1+i by omega] using this
  ·rw[List.length_cons,key];exact h2
 |o::rest,none::vs,j,a,⟨h,k⟩=>by
  obtain⟨h1,h2⟩:=rF rest vs (j+1) (a.put o.dst (u j)) k;have key:∀n,aT (o::rest) (fun i=>match (none::vs)[i]? with|some (some v)=>v|_=>u (j+i)) a (n+1)=aT rest (fun i=>match vs[i]? with|some (some v)=>v|_=>u (j+1+i)) (a.put o.dst (u j)) n:=by
   intro n
   induction n with
   |zero=>rfl
   |succ n ih=>
    rw[aT,ih,aT];simp only[List.getElem?_cons_succ,show j+(n+1)=j+1+n by omega]
  refine⟨fun i p hi=> ?_,?_⟩
  ·cases i with
   |zero=>simp at hi;subst hi;exact h
   |succ i=>
    rw[key];have:=h1 i p (by simpa using hi)
    simpa only[List.getElem?_cons_succ,show j+(i+1)=j+1+i by omega] using this
  ·rw[List.length_cons,key];exact h2
theorem yK {Q:Exit→Act→World→Prop} {o:Oper} {A a:Act} {i:Nat} {w:World} {u:Nat→Value} {B:Value→World→Prop} (hi:ops[i]? =some o) (h:ji P ops W nd bd V u i B o A)
  (hs:∀cs b,o.op≠.select cs b) (hz:A.tmps.size=a.tmps.size) (hn:∀t,t∈o.looksAt ops→a.tmps[t]? =A.tmps[t]?) (hw:W w) (hF:i∈bd→uX nd V u i w) {K:Act→World→Prop}
  (hK:∀v w',Below w.heap.size w w'→B v w'→K (a.put o.dst v) w'):wpOp P ops Q i K a w:=by
 unfold wpOp;simp only[hi];rw[ja hn];unfold ji at h;split
 ·rename_i hwn;rw[if_pos hwn] at h;refine .inl ?_;have h1:=h w hw hF (fun x w''=>(∀z,x=A.put o.dst z→K (a.put o.dst z) w'')∧x.defers=A.defers) (fun v w' hb hB=>⟨fun z hz'=>by rw[←um hz hz'];exact hK v w' hb hB,by cases o.dst<;>rfl⟩);unfold Oper.wp at h1 ⊢;rw[nR hs hn];generalize (execOp A.eval o).run P w=r at h1;cases r with
  |ok n w'=>
   cases n<;>simp only[Oper.upon] at h1 ⊢
   case value x=>exact h1.1 x rfl
   case skip=>exact h1.1 _ rfl
   case defer d=>
    have h2:=congrArg List.length h1.2;cases hd:o.dst<;>simp[hd,Act.put] at h2
   case enter f args=>
    refine Calls.mono h1 fun e w'' he=> ?_
    cases e with
    |returned x=>exact he.1 x rfl
    |panicked c=>exact he.elim
    |outgrown=>obtain⟨_,_,hf⟩:=he;exact hf.elim
   case row row args=>exact Rows.mono h1 fun x w'' he=>he.1 x rfl
  |halt x w'=>cases x<;>simp only[Oper.upon] at h1 ⊢
 ·rename_i hwn;rw[if_neg hwn] at h;exact hK _ w (Below.refl _ _) (h w hw hF)
def pk (vs:List (Option Value)) (u:Nat→Value) (i:Nat):Value:=match vs[i]? with
 |some (some v)=>v
 |_=>u i
end
end fU
end Go
