/- Parts of the proof. Conditions: none. -/
import Derived.Test.YtnhjakdmbfadlaaGreatDoorT01
import Derived.Test.YtnhjakdmbfadlaaGreatDoorT00
import Derived.Test.YtnhjakdmbfadlaaGreatDoorT28
import Derived.Test.YtnhjakdmbfadlaaGreatDoorT04
set_option linter.all false
set_option maxHeartbeats 8000000
set_option maxRecDepth 100000
namespace Go.Proofs.Wy
def Steps (S:Str):Nat→Nat→Nat→Prop
 |0,p,q=>p=q
 |k+1,p,q=>0<(S.dec p).2∧Steps S k (p+(S.dec p).2) q
def Bnd (lm:Int×Int) (k:Nat):Prop:=lm.1≤k∧(lm.2= -1∨(k:Int)≤lm.2)
theorem BU {α β:Type} {f:α→Option (List β)}:∀{l:List α} {m:List β},allOf f l=some m→∀a∈l,∃n,f a=some n∧∀x∈n,x∈m
 |[],m,_,a,ha=>by cases ha
 |b::r,m,h,a,ha=>by
  rw[allOf] at h;split at h
  ·next x y hx hy=>
   cases h;rcases List.mem_cons.1 ha with rfl|ha
   ·exact⟨x,hx,fun z hz=>List.mem_append_left _ hz⟩
   ·obtain⟨n,hn,hs⟩:=BU hy a ha;exact⟨n,hn,fun z hz=>List.mem_append_right _ (hs z hz)⟩
  ·cases h
end Go.Proofs.Wy
namespace Go.Proofs.Wy
theorem fH {α β:Type} (f:α→Option (List β)) (a b:List α):allOf f (a++b)=match allOf f a,allOf f b with|some x,some y=>some (x++y)|_,_=>none:=by
 have:=rD (f:=f) (l:=a++b) a.length;rw[List.take_left,List.drop_left] at this;exact this
section
variable {W:Type} (A:Alg W) (f:Nat→Option (List W)) (lo hi:Int) (lazy:Bool)
def lq (t:Nat) (w:W) (m:List W):List W:=(if(decide (lo≤(t:Int)) && lazy)=true then[w] else[])++m++(if(decide (lo≤(t:Int)) && !lazy)=true then[w] else[])
def dfs:Nat→W→Nat→Option (List W)
 |0,_,_=>none
 |k+1,w,t=>(if hi= -1∨(t:Int)<hi then(bV A f w).bind (allOf fun v=>dfs k v (t+1)) else some []).map (lq lo lazy t w)
theorem jd (k:Nat) (w:W) (t:Nat):dfs A f lo hi lazy (k+1) w t=(if hi= -1∨(t:Int)<hi then(bV A f w).bind (allOf fun v=>dfs A f lo hi lazy k v (t+1)) else some []).map (lq lo lazy t w):=rfl
def lev:Nat→List W→Nat→Option (List W)
 |0,l,_=>some l
 |j+1,l,t=>if hi= -1∨(t:Int)<hi then(allOf (bV A f) l).bind fun m=>lev j m (t+1) else some []
theorem uG:∀(j t:Nat),lev A f hi j [] t=some []
 |0,_=>rfl
 |j+1,t=>by
  unfold lev;split
  ·exact uG j (t+1)
  ·rfl
theorem qm:∀(j:Nat) (a b:List W) (t:Nat),lev A f hi j (a++b) t=match lev A f hi j a t,lev A f hi j b t with|some x,some y=>some (x++y)|_,_=>none
 |0,a,b,t=>rfl
 |j+1,a,b,t=>by
  unfold lev;by_cases hc:hi= -1∨(t:Int)<hi
  ·simp only[if_pos hc];rw[fH];cases ha:allOf (bV A f) a with
   |none=>rfl
   |some x=>
    cases hb:allOf (bV A f) b with
    |none=>simp
    |some y=>exact qm j x y (t+1)
  ·simp only[if_neg hc,List.append_nil]
def wG (k t:Nat) (ws:List W) (σ τ:Fs W):Prop:=
 ∃l,allOf (fun v=>dfs A f lo hi lazy k v t) ws=some l∧τ.out=σ.out++l∧σ.counts.length≤τ.counts.length∧(∀i,i<t→τ.counts.getD i 0=σ.counts.getD i 0)∧
  ∀j,∃m,lev A f hi j ws t=some m∧τ.counts.getD (t+j) 0=σ.counts.getD (t+j) 0+m.length∧(m≠[]→τ.counts.getD (t+j) 0≤500)
variable {A f lo hi lazy}
theorem wG.nil (k t:Nat) (σ:Fs W):wG A f lo hi lazy k t [] σ σ:=
 ⟨[],rfl,by simp,Nat.le_refl _,fun _ _=>rfl,fun j=>⟨[],uG A f hi j t,by simp,fun h=>absurd rfl h⟩⟩
theorem wG.append {k t:Nat} {a b:List W} {σ τ ρ:Fs W} (h:wG A f lo hi lazy k t a σ τ) (g:wG A f lo hi lazy k t b τ ρ):wG A f lo hi lazy k t (a++b) σ ρ:=by
 obtain⟨l1,h1,h2,h3,h4,h5⟩:=h;obtain⟨l2,g1,g2,g3,g4,g5⟩:=g;refine⟨l1++l2,by rw[fH,h1,g1],by rw[g2,h2,List.append_assoc],Nat.le_trans h3 g3,fun i hi=>(g4 i hi).trans (h4 i hi),fun j=> ?_⟩;obtain⟨m1,a1,a2,a3⟩:=h5 j;obtain⟨m2,b1,b2,b3⟩:=g5 j;refine⟨m1++m2,by rw[qm,a1,b1],by rw[b2,a2,List.length_append];omega,fun hne=> ?_⟩;by_cases hm:m2=[]
 ·subst hm;rw[List.append_nil] at hne;have:=a3 hne;rw[List.length_nil,Nat.add_zero] at b2;rw[b2];exact this
 ·exact b3 hm
theorem sH {g:W→Fs W→Fs W} {c:W→W} {k t:Nat} (hm:∀v σ,Less σ (g v σ)) (H:∀v σ,t≤σ.counts.length→Fine (g v σ)→wG A f lo hi lazy k t [c v] σ (g v σ)):
  ∀(more:List W) (σ:Fs W),t≤σ.counts.length→Fine (dA g more σ).1→(dA g more σ).2=false∧wG A f lo hi lazy k t (more.map c) σ (dA g more σ).1
 |[],σ,_,_=>⟨rfl,wG.nil _ _ _⟩
 |v::rest,σ,ht,h=>by
  have hf:=h.less (iK hm (v::rest) σ);have e:(!σ.ok || decide (500<σ.out.length))=false:=by
   rw[hf.1];have:=hf.2;simp;omega
  unfold dA at h ⊢;rw[e] at h ⊢;simp only[Bool.false_eq_true,if_false] at h ⊢;have hg:=h.less (iK hm rest (g v σ));have h1:=H v σ ht hg;have ht':t≤(g v σ).counts.length:=by obtain⟨_,_,_,h3,_⟩:=h1;omega
  obtain⟨h3,h4⟩:=sH hm H rest (g v σ) ht' h;exact⟨h3,h1.append h4⟩
theorem dF {α β:Type} (f:α→Option (List β)) (a:α):allOf f [a]=f a:=by
 unfold allOf allOf;cases f a<;>simp
theorem kD:∀(k:Nat) (w:W) (t:Nat) (σ:Fs W),t≤σ.counts.length→Fine (follow A f lo hi lazy k w t σ)→wG A f lo hi lazy k t [w] σ (follow A f lo hi lazy k w t σ)
 |0,w,t,σ,_,h=>by have:=h.1;simp[follow] at this
 |k+1,w,t,σ,ht,h=>by
  have ih:=kD k;have hb:=fun i=>qB ht i
  have hbl:=bump_length σ.counts t;unfold follow at h ⊢;simp only at h ⊢;have e1:(dS (decide (lo≤t) && lazy) w ⟨σ.out,bump σ.counts t,σ.ok && decide ((bump σ.counts t).getD t 0≤500)⟩:Fs W).out=σ.out++if(decide (lo≤t) && lazy)=true then[w] else[]:=fK _ _ _
  have e2:(dS (decide (lo≤t) && lazy) w ⟨σ.out,bump σ.counts t,σ.ok && decide ((bump σ.counts t).getD t 0≤500)⟩:Fs W).ok=(σ.ok && decide ((bump σ.counts t).getD t 0≤500)):=iV _ _ _;have e3:(dS (decide (lo≤t) && lazy) w ⟨σ.out,bump σ.counts t,σ.ok && decide ((bump σ.counts t).getD t 0≤500)⟩:Fs W).counts=bump σ.counts t:=dn _ _ _;generalize dS (decide (lo≤t) && lazy) w ⟨σ.out,bump σ.counts t,σ.ok && decide ((bump σ.counts t).getD t 0≤500)⟩=σ1 at h e1 e2 e3 ⊢;have hlen:t+1≤σ1.counts.length:=by rw[e3,hbl];split<;>omega
  have hlen2:σ.counts.length≤σ1.counts.length:=by rw[e3,hbl];split<;>omega
  by_cases hok:(σ.ok && decide ((bump σ.counts t).getD t 0≤500))=true
  ·have hct:(bump σ.counts t).getD t 0≤500:=by simp only[Bool.and_eq_true,decide_eq_true_eq] at hok;exact hok.2
   by_cases hhi:hi= -1∨(t:Int)<hi
   ·have hbb:((σ.ok && decide ((bump σ.counts t).getD t 0≤500)) && (decide (hi= -1) || decide ((t:Int)<hi)))=true:=by
     rw[hok];simpa using hhi
    rw[hbb] at h ⊢;simp only[if_true] at h ⊢;have hst:bV A f w=(f (A.stop w)).map fun m=>m.map (A.thn w):=rfl
    revert h
    cases hfw:f (A.stop w) with
    |none=>intro h;have:=h.1;rw[iV] at this;simp at this
    |some more=>
     simp only;intro h;rw[hfw] at hst;have hst:bV A f w=some (more.map (A.thn w)):=hst;have hm:∀v (τ:Fs W),Less τ (follow A f lo hi lazy k (A.thn w v) (t+1) τ):=fun v τ=>jT A f lo hi lazy k _ _ τ
     have gX:Fine (dA (fun v σ=>follow A f lo hi lazy k (A.thn w v) (t+1) σ) more σ1).1:=by
      revert h
      split
      ·exact id
      ·exact fun h=>h.less (jb _ _ _)
     obtain⟨h2,h3⟩:=sH (c:=A.thn w) hm (fun v τ hl hf=>ih _ (t+1) τ hl hf) more σ1 hlen gX;generalize dA (fun v σ=>follow A f lo hi lazy k (A.thn w v) (t+1) σ) more σ1=q at h2 h3 h ⊢;obtain⟨l,g1,g2,g3,g4,g5⟩:=h3;simp only[h2,Bool.false_eq_true,if_false];refine⟨lq lo lazy t w l,?_,?_,?_,?_,?_⟩
     ·rw[dF];rw[jd,if_pos hhi,hst,Option.bind_some,g1]
      rfl
     ·rw[fK,g2,e1];unfold lq;simp
     ·rw[dn];omega
     ·intro i hi';rw[dn,g4 i (by omega),e3,hb,if_neg (by omega),Nat.add_zero]
     ·intro j;rw[dn];cases j with
      |zero=>
       refine⟨[w],rfl,?_,fun _=> ?_⟩
       ·rw[Nat.add_zero,g4 t (by omega),e3,hb,if_pos rfl];rfl
       ·rw[Nat.add_zero,g4 t (by omega),e3];exact hct
      |succ j=>
       obtain⟨m,a1,a2,a3⟩:=g5 j;refine⟨m,?_,?_,?_⟩
       ·unfold lev;rw[if_pos hhi,dF,hst];exact a1
       ·rw[show t+(j+1)=t+1+j by omega,a2,e3,hb,if_neg (by omega),Nat.add_zero]
       ·rw[show t+(j+1)=t+1+j by omega];exact a3
   ·have hbb:((σ.ok && decide ((bump σ.counts t).getD t 0≤500)) && (decide (hi= -1) || decide ((t:Int)<hi)))=false:=by
     rw[hok]
     simpa using hhi
    rw[hbb];simp only[Bool.false_eq_true,if_false];refine⟨lq lo lazy t w [],?_,?_,?_,?_,?_⟩
    ·rw[dF];rw[jd,if_neg hhi]
     rfl
    ·rw[fK,e1];unfold lq;simp
    ·rw[dn];exact hlen2
    ·intro i hi';rw[dn,e3,hb,if_neg (by omega),Nat.add_zero]
    ·intro j;rw[dn,e3];cases j with
     |zero=>
      refine⟨[w],rfl,?_,fun _=> ?_⟩
      ·rw[Nat.add_zero,hb,if_pos rfl];rfl
      ·rw[Nat.add_zero];exact hct
     |succ j=>
      refine⟨[],?_,?_,fun h=>absurd rfl h⟩
      ·unfold lev;rw[if_neg hhi]
      ·rw[hb,if_neg (by omega)];rfl
  ·exfalso;have hbb:((σ.ok && decide ((bump σ.counts t).getD t 0≤500)) && (decide (hi= -1) || decide ((t:Int)<hi)))=false:=by
    simp only[Bool.not_eq_true] at hok;rw[hok];rfl
   rw[hbb] at h;simp only[Bool.false_eq_true,if_false] at h;have:=(h.less (jb _ _ _)).1;rw[e2] at this;exact hok this
theorem wH {V:Type} {s:W→Option (List W)} {d:W→Option (List V)} {o:W→List V→List V}:∀{ws:List W} {l:List V},allOf (fun w=>((s w).bind (allOf d)).map (o w)) ws=some l→∃m l',allOf s ws=some m∧allOf d m=some l'
 |[],l,_=>⟨[],[],rfl,rfl⟩
 |w::r,l,h=>by
  unfold allOf at h;cases hs:s w with
  |none=>rw[hs] at h;simp at h
  |some m1=>
   cases hd:allOf d m1 with
   |none=>rw[hs] at h;simp[hd] at h
   |some l1=>
    rw[hs,Option.bind_some,hd] at h;cases hr:allOf (fun w=>((s w).bind (allOf d)).map (o w)) r with
    |none=>rw[hr] at h;simp at h
    |some l2=>
     obtain⟨m2,l3,h1,h2⟩:=wH hr;exact⟨m1++m2,l1++l3,by simp[allOf,hs,h1],by rw[fH,hd,h2]⟩
theorem DR {α β:Type} {d:α→Option (List β)} (hd:∀a,d a=none):∀{l:List α} {m:List β},allOf d l=some m→l=[]
 |[],_,_=>rfl
 |a::r,m,h=>by unfold allOf at h;rw[hd a] at h;simp at h
theorem zV:∀(k:Nat) (ws:List W) (t:Nat) (l:List W),allOf (fun v=>dfs A f lo hi lazy k v t) ws=some l→∀j,∃m,lev A f hi j ws t=some m
 |0,ws,t,l,h,j=>by
  obtain rfl:=DR (fun _=>rfl) h;exact⟨[],uG A f hi j t⟩
 |k+1,ws,t,l,h,0=>⟨ws,rfl⟩
 |k+1,ws,t,l,h,j+1=>by
  unfold lev;by_cases hhi:hi= -1∨(t:Int)<hi
  ·rw[if_pos hhi];have h':allOf (fun w=>((bV A f w).bind (allOf fun v=>dfs A f lo hi lazy k v (t+1))).map (lq lo lazy t w)) ws=some l:=by
    rw[←h];congr 1;funext w;rw[jd,if_pos hhi]
   obtain⟨m,l',h1,h2⟩:=wH h';rw[h1];exact zV k m (t+1) l' h2 j
  ·rw[if_neg hhi];exact⟨[],rfl⟩
theorem yt {g:W→Fs W→Fs W} {c:W→W} {k t:Nat} (hm:∀v σ,Less σ (g v σ)) (H:∀v σ,t≤σ.counts.length→Fine (g v σ)→wG A f lo hi lazy k t [c v] σ (g v σ))
  (G:∀v σ l,t≤σ.counts.length→σ.ok=true→dfs A f lo hi lazy k (c v) t=some l→(σ.out++l).length≤500→(∀j m,lev A f hi j [c v] t=some m→m≠[]→σ.counts.getD (t+j) 0+m.length≤500)→Fine (g v σ)):
  ∀(more:List W) (σ:Fs W) (l:List W),t≤σ.counts.length→σ.ok=true→allOf (fun v=>dfs A f lo hi lazy k v t) (more.map c)=some l→(σ.out++l).length≤500→(∀j m,lev A f hi j (more.map c) t=some m→m≠[]→σ.counts.getD (t+j) 0+m.length≤500)→Fine (dA g more σ).1
 |[],σ,l,_,hok,hl,ho,_=>⟨hok,by simp at ho;have:(dA g [] σ).1=σ:=rfl;rw[this];omega⟩
 |v::rest,σ,l,ht,hok,hl,ho,hj=>by
  have e:(!σ.ok || decide (500<σ.out.length))=false:=by
   rw[hok];simp at ho;simp;omega
  unfold dA;rw[e];simp only[Bool.false_eq_true,if_false];rw[List.map_cons,show c v::rest.map c=[c v]++rest.map c from rfl,fH,dF] at hl;cases h1:dfs A f lo hi lazy k (c v) t with
  |none=>rw[h1] at hl;simp at hl
  |some l1=>
   cases h2:allOf (fun v=>dfs A f lo hi lazy k v t) (rest.map c) with
   |none=>rw[h1,h2] at hl;simp at hl
   |some l2=>
    rw[h1,h2] at hl;simp only[Option.some.injEq] at hl;subst hl;have hv:∀j,∃m,lev A f hi j [c v] t=some m:=zV k [c v] t l1 (by rw[dF];exact h1);have hr:∀j,∃m,lev A f hi j (rest.map c) t=some m:=zV k _ t l2 h2;have hj2:∀j m n,lev A f hi j [c v] t=some m→lev A f hi j (rest.map c) t=some n→m++n≠[]→σ.counts.getD (t+j) 0+(m++n).length≤500:=fun j m n hm hn hne=>
     hj j (m++n) (by rw[List.map_cons,show c v::rest.map c=[c v]++rest.map c from rfl,qm,hm,hn]) hne
    have hf:=G v σ l1 ht hok h1 (by simp at ho ⊢;omega) (fun j m hm hne=>by
     obtain⟨n,hn⟩:=hr j;have:=hj2 j m n hm hn (by simp[hne]);rw[List.length_append] at this;omega)
    have hmn:=H v σ ht hf;obtain⟨l',g1,g2,g3,g4,g5⟩:=hmn;rw[dF,h1] at g1;obtain rfl:=zI g1;exact yt hm H G rest (g v σ) l2 (by omega) hf.1 h2 (by rw[g2];simp at ho ⊢;omega) (fun j n hn hne=>by
     obtain⟨m,a1,a2,-⟩:=g5 j;have:=hj2 j m n a1 hn (by simp[hne]);rw[List.length_append] at this;omega)
theorem tV:∀(k:Nat) (w:W) (t:Nat) (σ:Fs W) (l:List W),t≤σ.counts.length→σ.ok=true→dfs A f lo hi lazy k w t=some l→(σ.out++l).length≤500→
  (∀j m,lev A f hi j [w] t=some m→m≠[]→σ.counts.getD (t+j) 0+m.length≤500)→Fine (follow A f lo hi lazy k w t σ)
 |0,w,t,σ,l,_,_,h,_,_=>by simp[dfs] at h
 |k+1,w,t,σ,l,ht,hok,h,ho,hj=>by
  have ih:=tV k;have hb:=fun i=>qB ht i
  have hbl:=bump_length σ.counts t;have h0:=hj 0 [w] rfl (by simp);rw[Nat.add_zero,List.length_singleton] at h0;have hct:(bump σ.counts t).getD t 0≤500:=by rw[hb,if_pos rfl];exact h0
  rw[jd] at h;unfold follow;simp only;have e1:(dS (decide (lo≤t) && lazy) w ⟨σ.out,bump σ.counts t,σ.ok && decide ((bump σ.counts t).getD t 0≤500)⟩:Fs W).out=σ.out++if(decide (lo≤t) && lazy)=true then[w] else[]:=fK _ _ _
  have e2:(dS (decide (lo≤t) && lazy) w ⟨σ.out,bump σ.counts t,σ.ok && decide ((bump σ.counts t).getD t 0≤500)⟩:Fs W).ok=(σ.ok && decide ((bump σ.counts t).getD t 0≤500)):=iV _ _ _;have e3:(dS (decide (lo≤t) && lazy) w ⟨σ.out,bump σ.counts t,σ.ok && decide ((bump σ.counts t).getD t 0≤500)⟩:Fs W).counts=bump σ.counts t:=dn _ _ _;generalize dS (decide (lo≤t) && lazy) w ⟨σ.out,bump σ.counts t,σ.ok && decide ((bump σ.counts t).getD t 0≤500)⟩=σ1 at e1 e2 e3 ⊢;have Nz:(σ.ok && decide ((bump σ.counts t).getD t 0≤500))=true:=by rw[hok];simpa using hct
  have hlen:t+1≤σ1.counts.length:=by rw[e3,hbl];split<;>omega
  by_cases hhi:hi= -1∨(t:Int)<hi
  ·have hbb:((σ.ok && decide ((bump σ.counts t).getD t 0≤500)) && (decide (hi= -1) || decide ((t:Int)<hi)))=true:=by
    rw[Nz];simpa using hhi
   rw[hbb];simp only[if_true];rw[if_pos hhi] at h;have hst:bV A f w=(f (A.stop w)).map fun m=>m.map (A.thn w):=rfl
   cases hfw:f (A.stop w) with
   |none=>rw[hst,hfw] at h;simp at h
   |some more=>
    rw[hfw] at hst;have hst:bV A f w=some (more.map (A.thn w)):=hst;rw[hst,Option.bind_some] at h;cases hl:allOf (fun v=>dfs A f lo hi lazy k v (t+1)) (more.map (A.thn w)) with
    |none=>rw[hl] at h;simp at h
    |some l'=>
     rw[hl] at h;have h:lq lo lazy t w l'=l:=zI h;have hm:∀v (τ:Fs W),Less τ (follow A f lo hi lazy k (A.thn w v) (t+1) τ):=fun v τ=>jT A f lo hi lazy k _ _ τ
     have OQ:=fun v (τ:Fs W) (hl:t+1≤τ.counts.length) (hf:Fine (follow A f lo hi lazy k (A.thn w v) (t+1) τ))=>kD (A:=A) (f:=f) (lo:=lo) (hi:=hi) (lazy:=lazy) k _ (t+1) τ hl hf
     have hord:(lq lo lazy t w l').length=(if(decide (lo≤(t:Int)) && lazy)=true then[w] else[]).length+l'.length+(if(decide (lo≤(t:Int)) && !lazy)=true then[w] else[]).length:=by
      unfold lq;rw[List.length_append,List.length_append]
     have gX:=yt (c:=A.thn w) hm OQ (fun v τ l ht hok hd ho hj=>ih _ (t+1) τ l ht hok hd ho hj) more σ1 l' hlen (e2.trans Nz) hl
      (by rw[e1];rw[←h,List.length_append,hord] at ho;simp only[List.length_append];omega)
      (fun j m hm' hne=>by
       have:=hj (j+1) m (by unfold lev;rw[if_pos hhi,dF,hst];exact hm') hne;rw[e3,hb,if_neg (by omega),Nat.add_zero];rw[show t+(j+1)=t+1+j by omega] at this;exact this)
     obtain⟨h2,h3⟩:=sH (c:=A.thn w) hm OQ more σ1 hlen gX;simp only[h2,Bool.false_eq_true,if_false];obtain⟨l'',g1,g2,-⟩:=h3;rw[hl] at g1;obtain rfl:=zI g1;refine⟨by rw[iV];exact gX.1,?_⟩;rw[fK,g2,e1];rw[←h,List.length_append,hord] at ho;simp only[List.length_append];omega
  ·have hbb:((σ.ok && decide ((bump σ.counts t).getD t 0≤500)) && (decide (hi= -1) || decide ((t:Int)<hi)))=false:=by
    rw[Nz]
    simpa using hhi
   rw[hbb];simp only[Bool.false_eq_true,if_false];rw[if_neg hhi] at h;have h:lq lo lazy t w []=l:=zI h;refine⟨by rw[iV];exact e2.trans Nz,?_⟩;rw[fK,e1];rw[←h] at ho;unfold lq at ho
   simpa [Nat.add_assoc] using ho
theorem uH {k p:Nat} {l:List W}:rep A f lo hi lazy k p=some l↔dfs A f lo hi lazy k (A.still p) 0=some l∧l.length≤500∧∀j m,lev A f hi j [A.still p] 0=some m→m.length≤500:=by
 unfold rep;simp only;constructor
 ·intro h;split at h
  ·next hc=>
   simp only[Bool.and_eq_true,decide_eq_true_eq] at hc;obtain⟨l',h1,h2,h3,h4,h5⟩:=kD (A:=A) (f:=f) (lo:=lo) (hi:=hi) (lazy:=lazy) k (A.still p) 0 ⟨[],[],true⟩ (Nat.zero_le _) hc;rw[dF] at h1;rw[List.nil_append] at h2;have h:=zI h;rw[h2] at h;subst h;refine⟨h1,by rw[←h2];exact hc.2,fun j m hm=> ?_⟩;obtain⟨m',a1,a2,a3⟩:=h5 j;rw[hm] at a1;obtain rfl:=zI a1;by_cases hne:m=[]
   ·simp[hne]
   ·have:=a3 hne;simp at a2 this;omega
  ·cases h
 ·rintro⟨h1,h2,h3⟩;have hf:=tV (A:=A) (f:=f) (lo:=lo) (hi:=hi) (lazy:=lazy) k (A.still p) 0 ⟨[],[],true⟩ l (Nat.zero_le _) rfl h1 (by simpa using h2) (fun j m hm _=>by have:=h3 j m hm;simp;exact this);obtain⟨l',g1,g2,-⟩:=kD (A:=A) (f:=f) (lo:=lo) (hi:=hi) (lazy:=lazy) k (A.still p) 0 ⟨[],[],true⟩ (Nat.zero_le _) hf;rw[dF,h1] at g1;obtain rfl:=zI g1;rw[List.nil_append] at g2;rw[if_pos (by rw[hf.1];simpa using hf.2),g2]
end
end Go.Proofs.Wy
namespace Go.Proofs.Wy
section
variable {W:Type} (A:Alg W) (f:Nat→Option (List W)) (lo hi:Int) (lazy:Bool)
def kN (q:(W×Int)×Nat):Option (List (W×Int)):=(bV A f q.1.1).map (List.map fun v=>(v,(q.2:Int)))
def nxF (L:List (W×Int)):Option (List (W×Int)):=most (allOf (kN A f) L.zipIdx)
def lvs:Nat→List (W×Int)→Nat→Option (List (List (W×Int)))
 |0,_,_=>none
 |k+1,L,t=>if hi= -1∨(t:Int)<hi then(nxF A f L).bind fun M=>if M=[] then some [] else(lvs k M (t+1)).map (M:: ·) else some []
def dC {V:Type} (at_:Nat) (g:Nat→List V) (M:List (W×Int)) (n:Nat):List V:=(M.zipIdx n).flatMap fun q=>if q.1.2=(at_:Int) then g q.2 else[]
def flw:List (List (W×Int))→Nat→Nat→List W
 |[],_,_=>[]
 |L::R,t,at_=>match L[at_]? with
  |none=>[]
  |some x=>lq lo lazy t x.1 (match R with
   |[]=>[]
   |M::_=>dC at_ (fun i=>flw R (t+1) i) M 0)
theorem wJ (k:Nat) (L:List (W×Int)) (t:Nat):lvs A f hi (k+1) L t=if hi= -1∨(t:Int)<hi then(nxF A f L).bind fun M=>if M=[] then some [] else(lvs A f hi k M (t+1)).map (M:: ·) else some []:=rfl
theorem nH (j:Nat) (l:List W) (t:Nat):lev A f hi (j+1) l t=if hi= -1∨(t:Int)<hi then(allOf (bV A f) l).bind fun m=>lev A f hi j m (t+1) else some []:=rfl
variable {A f lo hi lazy}
theorem EO:∀{L:List (W×Int)} {n:Nat} {M:List (W×Int)},allOf (kN A f) (L.zipIdx n)=some M→allOf (bV A f) (L.map Prod.fst)=some (M.map Prod.fst)
 |[],n,M,h=>by
  simp only[List.zipIdx_nil,allOf,Option.some.injEq] at h;subst h
  rfl
 |a::r,n,M,h=>by
  rw[List.zipIdx_cons] at h;unfold allOf at h;unfold kN at h;rw[List.map_cons];unfold allOf;simp only at h;cases ha:bV A f a.1 with
  |none=>rw[ha] at h;simp at h
  |some m=>
   rw[ha] at h;simp only[Option.map_some] at h;cases hr:allOf (kN A f) (r.zipIdx (n+1)) with
   |none=>
    have hr':allOf (fun q:(W×Int)×Nat=>(bV A f q.1.1).map (List.map fun v=>(v,(q.2:Int)))) (r.zipIdx (n+1))=none:=hr;rw[hr'] at h;simp at h
   |some M'=>
    have hr':allOf (fun q:(W×Int)×Nat=>(bV A f q.1.1).map (List.map fun v=>(v,(q.2:Int)))) (r.zipIdx (n+1))=some M':=hr;rw[hr'] at h;simp only[Option.some.injEq] at h;subst h;rw[EO hr];simp[List.map_map,Function.comp_def]
theorem BV:∀{L:List (W×Int)} {m:List W} (n:Nat),allOf (bV A f) (L.map Prod.fst)=some m→∃M,allOf (kN A f) (L.zipIdx n)=some M∧M.map Prod.fst=m
 |[],m,n,h=>by
  simp only[List.map_nil,allOf,Option.some.injEq] at h;subst h;exact⟨[],rfl,rfl⟩
 |a::r,m,n,h=>by
  rw[List.map_cons] at h;unfold allOf at h;cases ha:bV A f a.1 with
  |none=>rw[ha] at h;simp at h
  |some m1=>
   cases hr:allOf (bV A f) (r.map Prod.fst) with
   |none=>rw[ha,hr] at h;simp at h
   |some m2=>
    rw[ha,hr] at h;simp only[Option.some.injEq] at h;subst h;obtain⟨M2,h1,rfl⟩:=BV (n+1) hr;refine⟨m1.map (fun v=>(v,(n:Int)))++M2,?_,?_⟩
    ·rw[List.zipIdx_cons];unfold allOf;rw[h1];unfold kN;simp[ha]
    ·simp[List.map_map,Function.comp_def]
theorem Kq:∀{L:List (W×Int)} {n:Nat} {M:List (W×Int)},allOf (kN A f) (L.zipIdx n)=some M→∀x∈M,(n:Int)≤x.2
 |[],n,M,h,x,hx=>by
  simp only[List.zipIdx_nil,allOf,Option.some.injEq] at h;subst h;simp at hx
 |a::r,n,M,h,x,hx=>by
  rw[List.zipIdx_cons] at h;have h:=h;unfold allOf at h;cases ha:kN A f (a,n) with
  |none=>rw[ha] at h;simp at h
  |some m=>
   cases hr:allOf (kN A f) (r.zipIdx (n+1)) with
   |none=>rw[ha,hr] at h;simp at h
   |some M'=>
    rw[ha,hr] at h;simp only[Option.some.injEq] at h;subst h;rcases List.mem_append.1 hx with hx|hx
    ·unfold kN at ha;simp only at ha;cases hs:bV A f a.1 with
     |none=>rw[hs] at ha;simp at ha
     |some m1=>
      rw[hs] at ha;simp only[Option.map_some,Option.some.injEq] at ha;subst ha;obtain⟨v,-,rfl⟩:=List.mem_map.1 hx;exact Int.le_refl _
    ·have:=Kq hr x hx;omega
theorem DT:∀{L:List (W×Int)} {n:Nat} {M:List (W×Int)} {i:Nat} {x:W×Int},allOf (kN A f) (L.zipIdx n)=some M→L[i]? =some x→bV A f x.1=some ((M.filter fun q=>decide (q.2=((n+i:Nat):Int))).map Prod.fst)
 |[],n,M,i,x,h,hx=>by simp at hx
 |a::r,n,M,i,x,h,hx=>by
  rw[List.zipIdx_cons] at h;unfold allOf at h;cases ha:kN A f (a,n) with
  |none=>rw[ha] at h;simp at h
  |some m=>
   cases hr:allOf (kN A f) (r.zipIdx (n+1)) with
   |none=>rw[ha,hr] at h;simp at h
   |some M'=>
    rw[ha,hr] at h;simp only[Option.some.injEq] at h;subst h;unfold kN at ha;simp only at ha;cases hs:bV A f a.1 with
    |none=>rw[hs] at ha;simp at ha
    |some m1=>
     rw[hs] at ha;simp only[Option.map_some,Option.some.injEq] at ha;subst ha;rw[List.filter_append,List.map_append];cases i with
     |zero=>
      simp only[List.getElem?_cons_zero,Option.some.injEq] at hx;subst hx;rw[hs];have h1:(m1.map fun v=>(v,(n:Int))).filter (fun q=>decide (q.2=((n+0:Nat):Int)))=m1.map fun v=>(v,(n:Int)):=by
       rw[List.filter_eq_self];intro q hq;obtain⟨v,-,rfl⟩:=List.mem_map.1 hq;simp
      have h2:M'.filter (fun q=>decide (q.2=((n+0:Nat):Int)))=[]:=by
       rw[List.filter_eq_nil_iff];intro q hq;have:=Kq hr q hq;simp;omega
      rw[h1,h2];simp[List.map_map,Function.comp_def]
     |succ i=>
      simp only[List.getElem?_cons_succ] at hx;have h1:(m1.map fun v=>(v,(n:Int))).filter (fun q=>decide (q.2=((n+(i+1):Nat):Int)))=[]:=by
       rw[List.filter_eq_nil_iff];intro q hq;obtain⟨v,-,rfl⟩:=List.mem_map.1 hq;simp;omega
      have:=DT hr hx;rw[this,h1,show n+1+i=n+(i+1) by omega]
      rfl
theorem BX {V:Type} {d:W→Option (List V)} {g:Nat→List V} {at_:Nat}:∀{M:List (W×Int)} {n:Nat},(∀i x,M[i]? =some x→d x.1=some (g (n+i)))→
  allOf d ((M.filter fun q=>decide (q.2=(at_:Int))).map Prod.fst)=some (dC at_ g M n)
 |[],n,h=>rfl
 |a::r,n,h=>by
  have h0:=h 0 a rfl;have ih:=BX (d:=d) (g:=g) (at_:=at_) (M:=r) (n:=n+1) (fun i x hx=>by
   have:=h (i+1) x (by simpa using hx);rw[this,show n+1+i=n+(i+1) by omega])
  have hp:dC at_ g (a::r) n=(if a.2=(at_:Int) then g n else[])++dC at_ g r (n+1):=by
   unfold dC;rw[List.zipIdx_cons,List.flatMap_cons]
  rw[hp];by_cases hc:a.2=(at_:Int)
  ·rw[if_pos hc,List.filter_cons_of_pos (by simpa using hc),List.map_cons];unfold allOf;rw[h0,ih]
   rfl
  ·rw[if_neg hc,List.filter_cons_of_neg (by simpa using hc)]
   simpa using ih
theorem EP:∀(k:Nat) (L:List (W×Int)) (t:Nat) (R:List (List (W×Int))),lvs A f hi k L t=some R→
  (∀i x,L[i]? =some x→dfs A f lo hi lazy k x.1 t=some (flw lo lazy (L::R) t i))∧∀j m,lev A f hi (j+1) (L.map Prod.fst) t=some m→m.length≤500
 |0,L,t,R,h=>by simp[lvs] at h
 |k+1,L,t,R,h=>by
  rw[wJ] at h;by_cases hhi:hi= -1∨(t:Int)<hi
  ·rw[if_pos hhi] at h;cases hn:nxF A f L with
   |none=>rw[hn] at h;simp at h
   |some M=>
    rw[hn,Option.bind_some] at h;obtain⟨hM,ho⟩:=gI hn;have hmap:=EO ho;by_cases hM0:M=[]
    ·rw[if_pos hM0] at h;obtain rfl:=zI h;subst hM0;refine⟨fun i x hx=> ?_,fun j m hm=> ?_⟩
     ·rw[jd,if_pos hhi,DT ho hx];unfold flw;rw[hx]
      rfl
     ·rw[nH,if_pos hhi,hmap,Option.bind_some,List.map_nil,uG] at hm;obtain rfl:=zI hm;simp
    ·rw[if_neg hM0] at h;cases hr:lvs A f hi k M (t+1) with
     |none=>rw[hr] at h;simp at h
     |some R'=>
      rw[hr] at h;obtain rfl:=zI h;obtain⟨h1,h2⟩:=EP k M (t+1) R' hr;refine⟨fun i x hx=> ?_,fun j m hm=> ?_⟩
      ·have hs:=DT ho hx;rw[Nat.zero_add] at hs;rw[jd,if_pos hhi,hs,Option.bind_some,BX (g:=fun i=>flw lo lazy (M::R') (t+1) i) (n:=0) (fun i x hx=>by rw[h1 i x hx,Nat.zero_add])];rw[flw,hx]
       rfl
      ·rw[nH,if_pos hhi,hmap,Option.bind_some] at hm;cases j with
       |zero=>
        obtain rfl:=zI hm;rw[List.length_map];exact hM
       |succ j=>exact h2 j m hm
  ·rw[if_neg hhi] at h;obtain rfl:=zI h;refine⟨fun i x hx=> ?_,fun j m hm=> ?_⟩
   ·rw[jd,if_neg hhi];unfold flw;rw[hx]
    rfl
   ·rw[nH,if_neg hhi] at hm;obtain rfl:=zI hm;simp
theorem BZ:∀(k:Nat) (L:List (W×Int)) (t:Nat),L≠[]→(∀x∈L,∃l,dfs A f lo hi lazy k x.1 t=some l)→(∀j m,lev A f hi j (L.map Prod.fst) t=some m→m.length≤500)→∃R,lvs A f hi k L t=some R
 |0,L,t,hne,hd,_=>by
  obtain⟨a,r,rfl⟩:=List.exists_cons_of_ne_nil hne;obtain⟨l,hl⟩:=hd a (by simp);simp[dfs] at hl
 |k+1,L,t,hne,hd,hj=>by
  rw[wJ];by_cases hhi:hi= -1∨(t:Int)<hi
  ·rw[if_pos hhi];have NC:∀x∈L,∃m l,bV A f x.1=some m∧allOf (fun v=>dfs A f lo hi lazy k v (t+1)) m=some l:=fun x hx=>by
    obtain⟨l,hl⟩:=hd x hx;rw[jd,if_pos hhi] at hl;cases hs:bV A f x.1 with
    |none=>rw[hs] at hl;simp at hl
    |some m=>
     rw[hs,Option.bind_some] at hl;cases ha:allOf (fun v=>dfs A f lo hi lazy k v (t+1)) m with
     |none=>rw[ha] at hl;simp at hl
     |some l'=>exact⟨m,l',rfl,ha⟩
   have hall:∀l:List (W×Int),(∀x∈l,x∈L)→∃m,allOf (bV A f) (l.map Prod.fst)=some m∧∀v∈m,∃d,dfs A f lo hi lazy k v (t+1)=some d:=fun l=>by
    induction l with
    |nil=>exact fun _=>⟨[],rfl,fun v hv=>by simp at hv⟩
    |cons a r ih=>
     intro hl;obtain⟨m1,l1,h1,h2⟩:=NC a (hl a (by simp));obtain⟨m2,h3,h4⟩:=ih (fun x hx=>hl x (by simp[hx]));refine⟨m1++m2,?_,fun v hv=> ?_⟩
     ·rw[List.map_cons];unfold allOf;rw[h1,h3]
     ·rcases List.mem_append.1 hv with hv|hv
      ·obtain⟨n,hn,-⟩:=BU h2 v hv;exact⟨n,hn⟩
      ·exact h4 v hv
   obtain⟨m,h1,h2⟩:=hall L (fun x hx=>hx);obtain⟨M,h3,rfl⟩:=BV 0 h1;have hlen:M.length≤500:=by
    have:=hj 1 (M.map Prod.fst) (by rw[nH,if_pos hhi,h1];rfl)
    rwa [List.length_map] at this
   have hn:nxF A f L=some M:=by
    unfold nxF;rw[h3];exact eQ hlen
   rw[hn,Option.bind_some];by_cases hM0:M=[]
   ·exact⟨[],by rw[if_pos hM0]⟩
   ·rw[if_neg hM0];obtain⟨R,hR⟩:=BZ k M (t+1) hM0 (fun x hx=>h2 x.1 (List.mem_map_of_mem hx)) (fun j m hm=>hj (j+1) m (by rw[nH,if_pos hhi,h1];exact hm));exact⟨M::R,by rw[hR];rfl⟩
  ·exact⟨[],by rw[if_neg hhi]⟩
theorem ND (k p:Nat):rep A f lo hi lazy k p=(lvs A f hi k [(A.still p,-1)] 0).bind fun R=>most (some (flw lo lazy ([(A.still p,-1)]::R) 0 0)):=by
 cases h:lvs A f hi k [(A.still p,-1)] 0 with
 |none=>
  rw[Option.bind_none];cases hr:rep A f lo hi lazy k p with
  |none=>rfl
  |some l=>
   obtain⟨h1,h2,h3⟩:=uH.1 hr;obtain⟨R,hR⟩:=BZ (lo:=lo) (lazy:=lazy) k [(A.still p,-1)] 0 (by simp) (fun x hx=>by simp only[List.mem_singleton] at hx;subst hx;exact⟨l,h1⟩) (fun j m hm=>h3 j m hm);rw[h] at hR;cases hR
 |some R=>
  rw[Option.bind_some];obtain⟨h1,h2⟩:=EP (lo:=lo) (lazy:=lazy) k _ 0 R h;have h1:=h1 0 (A.still p,-1) rfl;generalize flw lo lazy ([(A.still p,-1)]::R) 0 0=l at h1;have h3:∀j m,lev A f hi j [A.still p] 0=some m→m.length≤500:=fun j m hm=>by
   cases j with
   |zero=>
    obtain rfl:=zI hm;simp
   |succ j=>exact h2 j m hm
  by_cases hl:l.length≤500
  ·rw[eQ hl];exact uH.2 ⟨h1,hl,h3⟩
  ·have hm:most (some l)=none:=if_neg hl;rw[hm];cases hr:rep A f lo hi lazy k p with
   |none=>rfl
   |some l'=>
    obtain⟨g1,g2,-⟩:=uH.1 hr;have g1:dfs A f lo hi lazy k (A.still p) 0=some l':=g1;rw[g1] at h1;obtain rfl:=zI h1;exact absurd g2 hl
end
end Go.Proofs.Wy
namespace Go.Proofs.Wy
theorem mg {α β:Type} {f:α→Option (List β)} {l:List α} {i:Nat} (hi:i<l.length) {a b:List β} (ha:allOf f (l.take i)=some a) (hb:f l[i]=some b):allOf f (l.take (i+1))=some (a++b):=by
 rw[List.take_succ_eq_append_getElem hi,fH,ha,dF,hb]
theorem mi {α β:Type} {f:α→Option (List β)} {l:List α} {i:Nat} (hi:i<l.length) (hb:f l[i]=none):allOf f l=none:=by
 have h:allOf f (l.take i++l.drop i)=none:=by
  rw[fH,List.drop_eq_getElem_cons hi];have:allOf f (l[i]::l.drop (i+1))=none:=by
   unfold allOf;rw[hb]
  rw[this];cases allOf f (l.take i)<;>rfl
 rwa [List.take_append_drop] at h
theorem mr {α β:Type} {f:α→Option (List β)} {l:List α} {i:Nat} {a:List β} (ha:allOf f (l.take i)=some a) (hl:500<a.length):most (allOf f l)=none:=by
 have h:most (allOf f (l.take i++l.drop i))=none:=by
  rw[fH,ha];cases allOf f (l.drop i) with
  |none=>rfl
  |some y=>
   unfold most;simp only;rw[if_neg (by rw[List.length_append];omega)]
 rwa [List.take_append_drop] at h
section
variable {W:Type} {A:Alg W} {f:Nat→Option (List W)} {lo hi:Int} {lazy:Bool} {k:Nat} {L0 L M:List (W×Int)} {R:List (List (W×Int))}
structure Lvd (A:Alg W) (f:Nat→Option (List W)) (hi:Int) (k:Nat) (L0:List (W×Int)) (R:List (List (W×Int))) (L:List (W×Int)):Prop where
 eq:lvs A f hi k L0 0=(lvs A f hi (k-R.length) L R.length).map (R++ ·)
 last:(L0::R).getLast? =some L
theorem Lvd.start:Lvd A f hi k L0 [] L0:=⟨by simp,rfl⟩
theorem Lvd.step (h:Lvd A f hi k L0 R L) (hk:R.length<k):lvs A f hi k L0 0=(if hi= -1∨(R.length:Int)<hi then(nxF A f L).bind fun M=>if M=[] then some [] else(lvs A f hi (k-(R.length+1)) M (R.length+1)).map (M:: ·) else some []).map (R++ ·):=by
 have e:k-R.length=(k-(R.length+1))+1:=(by omega);rw[h.eq,e,wJ]
theorem Lvd.stop (h:Lvd A f hi k L0 R L) (hk:R.length<k) (hn:¬(hi= -1∨(R.length:Int)<hi)):lvs A f hi k L0 0=some R:=by
 rw[h.step hk,if_neg hn];simp
theorem Lvd.none (h:Lvd A f hi k L0 R L) (hk:R.length<k) (hy:hi= -1∨(R.length:Int)<hi) (hn:nxF A f L=none):lvs A f hi k L0 0=none:=by
 rw[h.step hk,if_pos hy,hn];rfl
theorem Lvd.nil (h:Lvd A f hi k L0 R L) (hk:R.length<k) (hy:hi= -1∨(R.length:Int)<hi) (hn:nxF A f L=some []):lvs A f hi k L0 0=some R:=by
 rw[h.step hk,if_pos hy,hn];simp
theorem Lvd.more (h:Lvd A f hi k L0 R L) (hk:R.length<k) (hy:hi= -1∨(R.length:Int)<hi) (hn:nxF A f L=some M) (hM:M≠[]):Lvd A f hi k L0 (R++[M]) M:=by
 refine⟨?_,?_⟩
 ·rw[h.step hk,if_pos hy,hn,Option.bind_some,if_neg hM,List.length_append,List.length_singleton,Option.map_map];congr 1;funext x;simp
 ·show((L0::R)++[M]).getLast? =some M
  exact List.getLast?_concat
def sumF {V:Type} (g:Nat→List V):Nat→Nat→Nat
 |_,0=>0
 |n,k+1=>(g n).length+sumF g (n+1) k
theorem ER {V:Type} {g:Nat→List V}:∀(M:List (W×Int)) (n:Nat) (S:Nat),(∀at_:Nat,at_<S→True)→sumF (fun at_=>dC at_ g M n) 0 S≤sumF g n M.length
 |[],n,S,_=>by
  have:∀a b,sumF (fun at_=>dC at_ g ([]:List (W×Int)) n) a b=0:=by
   intro a b
   induction b generalizing a with
   |zero=>rfl
   |succ b ih=>simp only[sumF];rw[ih];simp[dC]
  rw[this];exact Nat.zero_le _
 |x::M,n,S,h=>by
  have ih:=ER (g:=g) M (n+1) S h;have key:∀b a,sumF (fun at_=>dC at_ g (x::M) n) a b≤sumF (fun at_=>dC at_ g M (n+1)) a b+(if((a:Int)≤x.2∧x.2<((a+b:Nat):Int)) then(g n).length else 0):=by
   intro b
   induction b with
   |zero=>intro a;simp[sumF]
   |succ b ihb=>
    intro a;have i1:=ihb (a+1);simp only[sumF];have e:(dC a g (x::M) n).length=(if x.2=(a:Int) then(g n).length else 0)+(dC a g M (n+1)).length:=by
     simp only[dC,List.zipIdx_cons,List.flatMap_cons,List.length_append];split<;>simp
    rw[e];by_cases hx:x.2=(a:Int)
    ·rw[if_pos hx,if_pos (by omega)];rw[if_neg (by omega)] at i1;omega
    ·rw[if_neg hx];by_cases hc:((a+1:Nat):Int)≤x.2∧x.2<((a+1+b:Nat):Int)
     ·rw[if_pos hc] at i1;rw[if_pos (by omega)];omega
     ·rw[if_neg hc] at i1;omega
  have:=key S 0;simp only[List.length_cons,sumF];split at this<;>omega
def zX:List (List (W×Int))→Nat
 |[]=>0
 |L::R=>L.length+zX R
theorem NF (t:Nat) (w:W) (m:List W):(lq lo lazy t w m).length≤m.length+1:=by
 unfold lq;cases lazy<;>simp<;>split<;>simp<;>omega
theorem wK (L:List (W×Int)) (R:List (List (W×Int))) (t at_:Nat):flw lo lazy (L::R) t at_=match L[at_]? with
  |none=>[]
  |some x=>lq lo lazy t x.1 (match R with
   |[]=>[]
   |M::_=>dC at_ (fun i=>flw lo lazy R (t+1) i) M 0):=by rw[flw.eq_def]<;>rfl
theorem ES:∀(R:List (List (W×Int))) (L:List (W×Int)) (t:Nat),sumF (fun i=>flw lo lazy (L::R) t i) 0 L.length≤zX (L::R)
 |R,L,t=>by
  have one:∀i,(flw lo lazy (L::R) t i).length≤1+(match R with|[]=>[]|M::_=>dC i (fun i=>flw lo lazy R (t+1) i) M 0).length:=by
   intro i;rw[wK];cases L[i]? with
   |none=>simp
   |some x=>
    have:=NF (lo:=lo) (lazy:=lazy) t x.1 (match R with|[]=>[]|M::_=>dC i (fun i=>flw lo lazy R (t+1) i) M 0);simp only;omega
  have add:∀b a,sumF (fun i=>flw lo lazy (L::R) t i) a b≤b+sumF (fun i=>match R with|[]=>[]|M::_=>dC i (fun i=>flw lo lazy R (t+1) i) M 0) a b:=by
   intro b
   induction b with
   |zero=>intro a;simp[sumF]
   |succ b ih=>
    intro a;have:=ih (a+1);have:=one a;simp only[sumF];omega
  have h1:=add L.length 0
  match R with
  |[]=>
   have z:∀b a,sumF (fun _:Nat=>([]:List W)) a b=0:=by
    intro b
    induction b with
    |zero=>intro a;rfl
    |succ b ih=>intro a;simp[sumF,ih]
   rw[z] at h1;simp only[zX];omega
  |M::R=>
   have h2:=ER (g:=fun i=>flw lo lazy (M::R) (t+1) i) M 0 L.length (fun _ _=>trivial);have h3:=ES R M (t+1);simp only[zX] at h3 ⊢;simp only at h1;omega
theorem NG {R:List (List (W×Int))} {L:List (W×Int)} {t i:Nat} (hi:i<L.length):(flw lo lazy (L::R) t i).length≤zX (L::R):=by
 have h:=ES (lo:=lo) (lazy:=lazy) R L t;have key:∀b a,a≤i→i<a+b→(flw lo lazy (L::R) t i).length≤sumF (fun i=>flw lo lazy (L::R) t i) a b:=by
  intro b
  induction b with
  |zero=>intro a h1 h2;omega
  |succ b ih=>
   intro a h1 h2;simp only[sumF];by_cases e:a=i
   ·subst e;omega
   ·have:=ih (a+1) (by omega) (by omega);omega
 have:=key L.length 0 (by omega) (by omega);omega
theorem ET:∀{R:List (List (W×Int))},(∀L∈R,L.length≤500)→zX R≤R.length*500
 |[],_=>by simp[zX]
 |L::R,h=>by
  have:=ET (R:=R) (fun x hx=>h x (by simp[hx]));have:=h L (by simp);simp only[zX,List.length_cons];omega
end
end Go.Proofs.Wy
namespace Go.Proofs.YtnhjakdmbfadlaaGreatDoor
open Go.RowKit Wy Mem Grow
variable {R:List (List (Wy.Way×Int))} {cs:List Value} {G L:Nat} {X:Nat→Prop} {T:TypeId} {v:Value} {w w':World}
def fE (T:TypeId) (w:World) (G L:Nat):List (Wy.Way×Int)→List Value→Prop
 |[],cs=>cs=[]
 |x::r,cs=>∃v q,cs= .int .i64 x.1.stop::v:: .int .i64 x.2::q∧aC (TB T w) w v x.1.spans∧(x.1.stop≤L∧x.1.spans.length=G)∧fE T w G L r q
theorem fE.typ (k:Kept X w w') (hx:∀b,TB T w b→¬X b):∀{l:List (Wy.Way×Int)} {cs:List Value},fE T w G L l cs→fE T w' G L l cs
 |[],_,h=>h
 |_::_,_,h=>by
  obtain⟨v,q,h1,h2,h3,h4⟩:=h;exact⟨v,q,h1,h2.typ k hx,h3,fE.typ k hx h4⟩
theorem fE.ed {l:List (Wy.Way×Int)} (h:fE T w G L l cs) (k:Below w.heap.size w w'):fE T w' G L l cs:=
 h.typ (zK k) fun _ _=>id
theorem fE.length:∀{l:List (Wy.Way×Int)} {cs:List Value},fE T w G L l cs→cs.length=l.length*3
 |[],cs,h=>by rw[fE] at h;subst h;rfl
 |x::r,cs,h=>by
  obtain⟨v,q,rfl,h2,h3,h4⟩:=h;simp only[List.length_cons,h4.length];omega
theorem fE.append:∀{l m:List (Wy.Way×Int)} {cs ds:List Value},fE T w G L l cs→fE T w G L m ds→fE T w G L (l++m) (cs++ds)
 |[],m,cs,ds,h,k=>by rw[fE] at h;subst h;exact k
 |x::r,m,cs,ds,h,k=>by
  obtain⟨v,q,rfl,h2,h3,h4⟩:=h;exact⟨v,q++ds,rfl,h2,h3,h4.append k⟩
theorem fE.one {x:Wy.Way×Int} (h:aC (TB T w) w v x.1.spans) (h1:x.1.stop≤L) (h2:x.1.spans.length=G):fE T w G L [x] [.int .i64 x.1.stop,v,.int .i64 x.2]:=
 ⟨v,[],rfl,h,⟨h1,h2⟩,rfl⟩
theorem fE.get:∀{l:List (Wy.Way×Int)} {cs:List Value},fE T w G L l cs→∀i (hi:i<l.length),∃v,cs[i*3]? =some (.int .i64 l[i].1.stop)∧cs[i*3+1]? =some v∧cs[i*3+2]? =some (.int .i64 l[i].2)∧aC (TB T w) w v l[i].1.spans∧l[i].1.stop≤L∧l[i].1.spans.length=G
 |[],cs,_,i,hi=>absurd hi (by simp)
 |x::r,cs,h,i,hi=>by
  obtain⟨v,q,rfl,h2,h3,h4⟩:=h;cases i with
  |zero=>exact⟨v,rfl,rfl,rfl,h2,h3⟩
  |succ i=>
   obtain⟨u,h5,h6,h7,h8⟩:=h4.get i (by simpa using hi);have e:(i+1)*3=i*3+1+1+1:=(by omega);refine⟨u,?_,?_,?_,h8⟩
   ·rw[e];simpa using h5
   ·rw[e,show i*3+1+1+1+1=(i*3+1)+1+1+1 by omega];simpa using h6
   ·rw[e,show i*3+1+1+1+2=(i*3+2)+1+1+1 by omega];simpa using h7
def jJ (w:World) (G L:Nat) (v:Value) (l:List (Wy.Way×Int)):Prop:=∃cs,Row (TB 175 w) w v l.length 3 cs∧fE 129 w G L l cs
theorem jJ.typ {l:List (Wy.Way×Int)} (h:jJ w G L v l) (k:Kept X w w') (h1:∀b,TB 175 w b→¬X b) (h2:∀b,TB 129 w b→¬X b):jJ w' G L v l:=by
 obtain⟨cs,h3,h4⟩:=h;exact⟨cs,Row.typ h3 k h1,h4.typ k h2⟩
theorem jJ.cells {l:List (Wy.Way×Int)} (h:jJ w G L v l) (hne:0<l.length):
  ∃b off cap:Nat,v= .slice (some ⟨b,off,none⟩) l.length cap∧l.length≤cap∧cap≤maxLen∧TB 175 w b∧b<w.heap.size∧∀i (hi:i<l.length),∃sv,w.cell? ⟨b,off+i*3,none⟩=some (.int .i64 l[i].1.stop)∧w.cell? ⟨b,off+i*3+1,none⟩=some sv∧w.cell? ⟨b,off+i*3+2,none⟩=some (.int .i64 l[i].2)∧aC (TB 129 w) w sv l[i].1.spans∧l[i].1.stop≤L∧l[i].1.spans.length=G:=by
 obtain⟨cs,h1,h2⟩:=h;rcases h1.at_ with⟨h0,_⟩|⟨b,off,cap,rfl,k1,k2,k3,k4,k5⟩
 ·omega
 ·refine⟨b,off,cap,rfl,k1,k2,k3,k4,fun i hi=> ?_⟩;obtain⟨sv,e1,e2,e3,e4⟩:=h2.get i hi;have hl:=h2.length;exact⟨sv,(k5 _ (by omega)).trans e1,by rw[Nat.add_assoc];exact(k5 _ (by omega)).trans e2,by rw[Nat.add_assoc];exact(k5 _ (by omega)).trans e3,e4⟩
def eu (w:World) (G L:Nat):List (List (Wy.Way×Int))→List Value→Prop
 |[],hs=>hs=[]
 |l::R,hs=>∃v q,hs=v::q∧jJ w G L v l∧eu w G L R q
theorem eu.typ (k:Kept X w w') (h1:∀b,TB 175 w b→¬X b) (h2:∀b,TB 129 w b→¬X b):∀{R:List (List (Wy.Way×Int))} {hs:List Value},eu w G L R hs→eu w' G L R hs
 |[],_,h=>h
 |_::_,_,h=>by
  obtain⟨v,q,e,h3,h4⟩:=h;exact⟨v,q,e,h3.typ k h1 h2,eu.typ k h1 h2 h4⟩
theorem eu.append:∀{R S:List (List (Wy.Way×Int))} {hs gs:List Value},eu w G L R hs→eu w G L S gs→eu w G L (R++S) (hs++gs)
 |[],_,hs,gs,h,k=>by rw[eu] at h;subst h;exact k
 |_::_,_,hs,gs,h,k=>by
  obtain⟨v,q,rfl,h3,h4⟩:=h;exact⟨v,q++gs,rfl,h3,h4.append k⟩
theorem eu.one {l:List (Wy.Way×Int)} (h:jJ w G L v l):eu w G L [l] [v]:=⟨v,[],rfl,h,rfl⟩
theorem eu.length:∀{R:List (List (Wy.Way×Int))} {hs:List Value},eu w G L R hs→hs.length=R.length
 |[],hs,h=>by rw[eu] at h;subst h;rfl
 |_::_,hs,h=>by
  obtain⟨v,q,rfl,h3,h4⟩:=h;simp only[List.length_cons,h4.length]
theorem eu.get:∀{R:List (List (Wy.Way×Int))} {hs:List Value},eu w G L R hs→∀i (hi:i<R.length),∃v,hs[i]? =some v∧jJ w G L v R[i]
 |[],_,_,i,hi=>absurd hi (by simp)
 |_::_,hs,h,i,hi=>by
  obtain⟨v,q,rfl,h3,h4⟩:=h;cases i with
  |zero=>exact⟨v,rfl,h3⟩
  |succ i=>
   obtain⟨u,e,h5⟩:=h4.get i (by simpa using hi);exact⟨u,by simpa using e,h5⟩
def kE (w:World) (G L:Nat) (v:Value) (R:List (List (Wy.Way×Int))):Prop:=∃hs,Row (TB 176 w) w v R.length 1 hs∧eu w G L R hs
theorem kE.typ (h:kE w G L v R) (k:Kept X w w') (h0:∀b,TB 176 w b→¬X b) (h1:∀b,TB 175 w b→¬X b) (h2:∀b,TB 129 w b→¬X b):kE w' G L v R:=by
 obtain⟨hs,h3,h4⟩:=h;exact⟨hs,Row.typ h3 k h0,h4.typ k h1 h2⟩
theorem kE.below (h:kE w G L v R) (k:Below w.heap.size w w'):kE w' G L v R:=
 h.typ (zK k) (fun _ _=>id) (fun _ _=>id) (fun _ _=>id)
theorem kE.level (h:kE w G L v R) (hne:0<R.length):
  ∃b off cap:Nat,v= .slice (some ⟨b,off,none⟩) R.length cap∧R.length≤cap∧cap≤maxLen∧b<w.heap.size∧∀i (hi:i<R.length),∃lv,w.cell? ⟨b,off+i,none⟩=some lv∧jJ w G L lv R[i]:=by
 obtain⟨hs,h1,h2⟩:=h;rcases h1.at_ with⟨h0,_⟩|⟨b,off,cap,rfl,k1,k2,k3,k4,k5⟩
 ·omega
 ·refine⟨b,off,cap,rfl,k1,k2,k4,fun i hi=> ?_⟩;obtain⟨lv,e1,e2⟩:=h2.get i hi;have hl:=h2.length;exact⟨lv,(k5 _ (by omega)).trans e1,e2⟩
def Flr (G L:Nat) (l:List Wy.Way) (w:World) (e:Ending) (w':World):Prop:=
 ∃v cs,e= .returned v∧w'.ownsRow w.heap.size 79 2 v l.length cs∧aH (TB 129 w') w' G L l cs∧Below w.heap.size w w'
end Go.Proofs.YtnhjakdmbfadlaaGreatDoor
namespace Go.Proofs.YtnhjakdmbfadlaaGreatDoor
open Go.RowKit Wy Mem Grow
noncomputable def foC (p:List Nat):Code:=gU (way p) (Tryz.f99.body.getD .skip)
theorem qX {l:List Value} (h:l.length=80):∃e:Nat→Value,l=[e 0,e 1,e 2,e 3,e 4,e 5,e 6,e 7,e 8,e 9,e 10,e 11,e 12,e 13,e 14,e 15,e 16,e 17,e 18,e 19,e 20,e 21,e 22,e 23,e 24,e 25,e 26,e 27,e 28,e 29,e 30,e 31,e 32,e 33,e 34,e 35,e 36,e 37,e 38,e 39,e 40,e 41,e 42,e 43,e 44,e 45,e 46,e 47,e 48,e 49,e 50,e 51,e 52,e 53,e 54,e 55,e 56,e 57,e 58,e 59,e 60,e 61,e 62,e 63,e 64,e 65,e 66,e 67,e 68,e 69,e 70,e 71,e 72,e 73,e 74,e 75,e 76,e 77,e 78,e 79]:=by
 refine⟨fun k=>l.getD k undef,?_⟩;have h2:l=(List.range 80).map fun k=>l.getD k undef:=by
  apply List.ext_getElem
  ·simp[h]
  ·intro i h1 h2;simp[List.getD_eq_getElem?_getD,h1]
 exact h2
theorem sJ:(Tryz.prog.info? 79).map (fun i=>(i.zero,i.size,i.bytes))=some (some (.agg #[.int .i64 0,.slice none 0 0]),2,32):=by kernel_rfl
structure jo (B G L:Nat) (nc:Array Value) (x:Wy.Way) (sv lv:Value) (LV:List (List (Wy.Way×Int))) (w0:World) (out:List Wy.Way) (ov:Value) (w:World):Prop where
 node:Blk w B nc 70
 own:Blk w (B+1) #[.int .i64 x.stop,sv] 79
 sps:aC (TB 129 w) w sv x.spans
 lvs:kE w G L lv LV
 row:∃cs,w.ownsRow (B+2) 79 2 ov out.length cs∧aH (TB 129 w) w G L out cs
 below:Below B w0 w
 hB:w0.heap.size=B
section
variable {B G L:Nat} {nc:Array Value} {x:Wy.Way} {sv lv ov:Value} {LV:List (List (Wy.Way×Int))} {w0 w w':World} {out:List Wy.Way}
theorem jo.go (h:jo B G L nc x sv lv LV w0 out ov w) (hb:Below w.heap.size w w'):jo B G L nc x sv lv LV w0 out ov w':=by
 obtain⟨cs,h1,h2⟩:=h.row;have k:Kept (fun _=>False) w w':=Kept.of_below hb _;exact⟨h.node.kept k id,h.own.kept k id,h.sps.ed hb,h.lvs.below hb,⟨cs,aB h1 k (fun _ _=>id),h2.ed hb⟩,h.below.trans (hb.mono (by have:=h.below.size;have:=h.node.lt;omega)),h.hB⟩
theorem jo.alloc (h:jo B G L nc x sv lv LV w0 out ov w) (o:Obj):jo B G L nc x sv lv LV w0 out ov (w.alloc o):=h.go (zR.alloc zL o)
theorem jo.push (h:jo B G L nc x sv lv LV w0 out ov w) {m:List Wy.Way} {cs ds:List Value} {v':Value} {w4:World} (hcs:w.ownsRow (B+2) 79 2 ov out.length cs) (hw:aH (TB 129 w) w G L out cs)
  (hd:aH (TB 129 w) w G L m ds) (hg:w.grownBy w4 ov.ownBlock) (ho:w4.ownsRow (B+2) 79 2 v' (out.length+m.length) (cs++ds)):jo B G L nc x sv lv LV w0 (out++m) v' w4:=by
 have k:=Kept.bK hg;have hne:ov.ownBlock≠some (B+1):=fun e=>by have:=(hcs.lt _ e).1;omega
 exact⟨h.node.kept k (cZ hcs h.node (by decide)),h.own.kept k hne,h.sps.typ k (dR hcs (by decide)),h.lvs.typ k (dR hcs (by decide)) (dR hcs (by decide)) (dR hcs (by decide)),
  ⟨cs++ds,by rw[List.length_append];exact ho,(hw.typ k (dR hcs (by decide))).append (hd.typ k (dR hcs (by decide)))⟩,
  by have h0:=h.below;have h1:=h.hB;subst h1;exact((Kept.of_below h0 (fun b=>ov.ownBlock=some b)).trans k).below (fun q hq e=>by have:=(hcs.lt q e).1;omega),h.hB⟩
end
theorem wL {V:Type} (at_:Nat) (g:Nat→List V) (M:List (Wy.Way×Int)) {i:Nat} (hi:i<M.length):dC at_ g (M.take (i+1)) 0=dC at_ g (M.take i) 0++(if M[i].2=(at_:Int) then g i else[]):=by
 unfold dC;rw[List.take_succ_eq_append_getElem hi,List.zipIdx_append,List.flatMap_append,List.length_take,Nat.min_eq_left (by omega)];simp
theorem sK {V:Type} (at_:Nat) (g:Nat→List V) (K:Nat) (hK:∀i,(g i).length≤K) (M:List (Wy.Way×Int)):∀i,i≤M.length→(dC at_ g (M.take i) 0).length≤i*K
 |0,_=>by simp[dC]
 |i+1,hi=>by
  rw[wL at_ g M (by omega),List.length_append];have:=sK at_ g K hK M i (by omega);have h2:=hK i;have e:(i+1)*K=i*K+K:=Nat.succ_mul i K;split<;>simp<;>omega
theorem foA {B G L times at_:Nat} {kk lo hi:Int} {lazy:Bool} {dm uv sv lv:Value} {x:Wy.Way} {LV:List (List (Wy.Way×Int))} {w0 W:World} {out:List Wy.Way} {oo:Option Addr} {oc:Nat} {J:Act→World→Prop} {Q:Exit→Act→World→Prop} (e:Nat→Value) (ht:times≤40) (hl0:0≤lo) (hl1:lo≤1000) (hlen:out.length≤20000000) (hx1:x.stop≤L) (hx2:x.spans.length=G)
  (hF:jo B G L #[.int .u8 kk,dm,.int .i64 lo,.int .i64 hi,.bool lazy,uv] x sv lv LV w0 out (.slice oo out.length oc) W)
  (hJ:∀(m:List Value) (w':World) (o':Option Addr) (c':Nat),m.length=80→m[0]? =some lv→m[1]? =some (.int .i64 (times:Nat))→m[2]? =some (.int .i64 (at_:Nat))→m[7]? =some (.pointer (some ⟨B,0,none⟩))→m[10]? =some (.pointer (some ⟨B+1,0,none⟩))→m[9]? =some (.slice o' (out++(if(decide (lo≤(times:Int)) && lazy)=true then[x] else[])).length c')→jo B G L #[.int .u8 kk,dm,.int .i64 lo,.int .i64 hi,.bool lazy,uv] x sv lv LV w0 (out++(if(decide (lo≤(times:Int)) && lazy)=true then[x] else[])) (.slice o' (out++(if(decide (lo≤(times:Int)) && lazy)=true then[x] else[])).length c') w'→J ⟨m.toArray,[]⟩ w'):
  Code.wp Tryz.prog (foC [1,1,1,0]) (Exit.then J Q) ⟨#[lv,.int .i64 (times:Nat),.int .i64 (at_:Nat),e 3,e 4,e 5,e 6,.pointer (some ⟨B,0,none⟩),e 8,.slice oo out.length oc,.pointer (some ⟨B+1,0,none⟩),e 11,e 12,e 13,e 14,e 15,e 16,e 17,e 18,e 19,e 20,e 21,e 22,e 23,e 24,e 25,e 26,e 27,e 28,e 29,e 30,e 31,e 32,e 33,e 34,e 35,e 36,e 37,e 38,e 39,e 40,e 41,e 42,e 43,e 44,e 45,e 46,e 47,e 48,e 49,e 50,e 51,e 52,e 53,e 54,e 55,e 56,e 57,e 58,e 59,e 60,e 61,e 62,e 63,e 64,e 65,e 66,e 67,e 68,e 69,e 70,e 71,e 72,e 73,e 74,e 75,e 76,e 77,e 78,e 79],[]⟩ W:=by
 obtain⟨i0,hi0,hz0,hz1,hz2⟩:=info_parts sJ;obtain⟨cs,hcs,hws⟩:=hF.row;have b2:=hF.node.cell 2;have b4:=hF.node.cell 4;have bz:=hF.node.lt;have d0:=hF.own.cell 0;have d1:=hF.own.cell 1;have dz:=hF.own.lt;have HF:=zh hF;have HJ:=zh hJ;have HCS:=zh hcs;have HWS:=zh hws;clear hF hJ hcs hws;cases lazy
 case false=>
  have eo:(out++(if(decide (lo≤(times:Int)) && false)=true then[x] else[]))=out:=by simp
  rw[eo] at HJ;conv=>arg 2;whnf
  go_wp2_with fail
  exact HJ.out _ _ _ _ rfl rfl rfl rfl rfl rfl rfl HF.out
 case true=>
  by_cases hlt:lo≤(times:Int)
  ·have eo:(out++(if(decide (lo≤(times:Int)) && true)=true then[x] else[]))=out++[x]:=by simp[hlt]
   rw[eo] at HJ;have hf2:=HF.out.alloc (.cells #[.int .i64 x.stop,sv] 79);obtain⟨cs2,hcs2,hws2⟩:=hf2.row;have hbs:B+2≤(W.alloc (.cells #[.int .i64 x.stop,sv] 79)).heap.size:=by simp;omega
   have hsr:dI (W.alloc (.cells #[.int .i64 x.stop,sv] 79)) (.slice (some ⟨W.heap.size,0,none⟩) 1 1) 1 [.int .i64 x.stop,sv]:=Bz rfl;have hmx:out.length+1≤maxLen:=by unfold maxLen;omega
   have hby:(out.length+1)*32≤140737488355328:=(by omega);have h1c:∀u∈[Value.int .i64 x.stop,sv],u.oneCell'=true:=by
    obtain⟨o1,c1,e1⟩:=HF.out.sps.row.slice;subst e1;simp[Value.oneCell']
   have hd:aH (TB 129 (W.alloc (.cells #[.int .i64 x.stop,sv] 79))) (W.alloc (.cells #[.int .i64 x.stop,sv] 79)) G L [x] [.int .i64 x.stop,sv]:=aH.one hf2.sps hx1 hx2;have hfin:∀(v':Value) w4,(W.alloc (.cells #[.int .i64 x.stop,sv] 79)).grownBy w4 (Value.slice oo out.length oc).ownBlock→w4.ownsRow (B+2) 79 2 v' (out.length+1) (cs2++[.int .i64 x.stop,sv])→jo B G L #[.int .u8 kk,dm,.int .i64 lo,.int .i64 hi,.bool true,uv] x sv lv LV w0 (out++[x]) v' w4:=fun v' w4 hg ho=>hf2.push hcs2 hws2 hd hg ho
   have bW:=zh hfin;have HBS:=zh hbs;have HSR:=zh hsr;have HR2:=zh hcs2;have H1C:=zh h1c;clear hf2 hcs2 hws2 hbs hsr hd hfin h1c eo;conv=>arg 2;whnf
   go_wp2_with (first|(at_builtin;(refine aA rfl _ _ 73 rfl Tryz.underlying73 hi0 hz0 hz1 hz2 rfl (.slice oo out.length oc) out.length cs2 rfl HR2.out _ 1 _ rfl HSR.out rfl H1C.out hmx hby HBS.out ?_;intro v' w4 hown' hgrow h3' h4';obtain⟨o',c',rfl⟩:=ay hown';have HG:=zh (bW.out _ w4 hgrow hown');clear hown' hgrow h3' h4')))
   exact HJ.out _ _ o' c' rfl rfl rfl rfl rfl rfl (by simp) (by rw[List.length_append];exact HG.out)
  ·have hlf:decide (lo≤(times:Int))=false:=by simpa using hlt
   have eo:(out++(if(decide (lo≤(times:Int)) && true)=true then[x] else[]))=out:=by simp[hlt]
   rw[eo] at HJ;conv=>arg 2;whnf
   go_wp2_with fail
   exact HJ.out _ _ _ _ rfl rfl rfl rfl rfl rfl rfl HF.out
theorem foD {B G L times at_:Nat} {kk lo hi:Int} {lazy:Bool} {dm uv sv lv:Value} {x:Wy.Way} {LV:List (List (Wy.Way×Int))} {w0 W:World} {out:List Wy.Way} {oo:Option Addr} {oc:Nat} {J:Act→World→Prop} {Q:Exit→Act→World→Prop} (e:Nat→Value) (ht:times≤40) (hl0:0≤lo) (hl1:lo≤1000) (hlen:out.length≤20000000) (hx1:x.stop≤L) (hx2:x.spans.length=G)
  (hF:jo B G L #[.int .u8 kk,dm,.int .i64 lo,.int .i64 hi,.bool lazy,uv] x sv lv LV w0 out (.slice oo out.length oc) W)
  (hJ:∀(m:List Value) (w':World) (o':Option Addr) (c':Nat),m.length=80→m[0]? =some lv→m[1]? =some (.int .i64 (times:Nat))→m[2]? =some (.int .i64 (at_:Nat))→m[7]? =some (.pointer (some ⟨B,0,none⟩))→m[10]? =some (.pointer (some ⟨B+1,0,none⟩))→m[9]? =some (.slice o' (out++(if(decide (lo≤(times:Int)) && !lazy)=true then[x] else[])).length c')→jo B G L #[.int .u8 kk,dm,.int .i64 lo,.int .i64 hi,.bool lazy,uv] x sv lv LV w0 (out++(if(decide (lo≤(times:Int)) && !lazy)=true then[x] else[])) (.slice o' (out++(if(decide (lo≤(times:Int)) && !lazy)=true then[x] else[])).length c') w'→J ⟨m.toArray,[]⟩ w'):
  Code.wp Tryz.prog (foC [1,1,1,1,1,0]) (Exit.then J Q) ⟨#[lv,.int .i64 (times:Nat),.int .i64 (at_:Nat),e 3,e 4,e 5,e 6,.pointer (some ⟨B,0,none⟩),e 8,.slice oo out.length oc,.pointer (some ⟨B+1,0,none⟩),e 11,e 12,e 13,e 14,e 15,e 16,e 17,e 18,e 19,e 20,e 21,e 22,e 23,e 24,e 25,e 26,e 27,e 28,e 29,e 30,e 31,e 32,e 33,e 34,e 35,e 36,e 37,e 38,e 39,e 40,e 41,e 42,e 43,e 44,e 45,e 46,e 47,e 48,e 49,e 50,e 51,e 52,e 53,e 54,e 55,e 56,e 57,e 58,e 59,e 60,e 61,e 62,e 63,e 64,e 65,e 66,e 67,e 68,e 69,e 70,e 71,e 72,e 73,e 74,e 75,e 76,e 77,e 78,e 79],[]⟩ W:=by
 obtain⟨i0,hi0,hz0,hz1,hz2⟩:=info_parts sJ;obtain⟨cs,hcs,hws⟩:=hF.row;have b2:=hF.node.cell 2;have b4:=hF.node.cell 4;have bz:=hF.node.lt;have d0:=hF.own.cell 0;have d1:=hF.own.cell 1;have dz:=hF.own.lt;have HF:=zh hF;have HJ:=zh hJ;have HCS:=zh hcs;have HWS:=zh hws;clear hF hJ hcs hws;cases lazy
 case true=>
  have eo:(out++(if(decide (lo≤(times:Int)) && !true)=true then[x] else[]))=out:=by simp
  rw[eo] at HJ;conv=>arg 2;whnf
  go_wp2_with fail
  exact HJ.out _ _ _ _ rfl rfl rfl rfl rfl rfl rfl HF.out
 case false=>
  by_cases hlt:lo≤(times:Int)
  ·have eo:(out++(if(decide (lo≤(times:Int)) && !false)=true then[x] else[]))=out++[x]:=by simp[hlt]
   rw[eo] at HJ;have hf2:=HF.out.alloc (.cells #[.int .i64 x.stop,sv] 79);obtain⟨cs2,hcs2,hws2⟩:=hf2.row;have hbs:B+2≤(W.alloc (.cells #[.int .i64 x.stop,sv] 79)).heap.size:=by simp;omega
   have hsr:dI (W.alloc (.cells #[.int .i64 x.stop,sv] 79)) (.slice (some ⟨W.heap.size,0,none⟩) 1 1) 1 [.int .i64 x.stop,sv]:=Bz rfl;have hmx:out.length+1≤maxLen:=by unfold maxLen;omega
   have hby:(out.length+1)*32≤140737488355328:=(by omega);have h1c:∀u∈[Value.int .i64 x.stop,sv],u.oneCell'=true:=by
    obtain⟨o1,c1,e1⟩:=HF.out.sps.row.slice;subst e1;simp[Value.oneCell']
   have hd:aH (TB 129 (W.alloc (.cells #[.int .i64 x.stop,sv] 79))) (W.alloc (.cells #[.int .i64 x.stop,sv] 79)) G L [x] [.int .i64 x.stop,sv]:=aH.one hf2.sps hx1 hx2;have hfin:∀(v':Value) w4,(W.alloc (.cells #[.int .i64 x.stop,sv] 79)).grownBy w4 (Value.slice oo out.length oc).ownBlock→w4.ownsRow (B+2) 79 2 v' (out.length+1) (cs2++[.int .i64 x.stop,sv])→jo B G L #[.int .u8 kk,dm,.int .i64 lo,.int .i64 hi,.bool false,uv] x sv lv LV w0 (out++[x]) v' w4:=fun v' w4 hg ho=>hf2.push hcs2 hws2 hd hg ho
   have bW:=zh hfin;have HBS:=zh hbs;have HSR:=zh hsr;have HR2:=zh hcs2;have H1C:=zh h1c;clear hf2 hcs2 hws2 hbs hsr hd hfin h1c eo;conv=>arg 2;whnf
   go_wp2_with (first|(at_builtin;(refine aA rfl _ _ 73 rfl Tryz.underlying73 hi0 hz0 hz1 hz2 rfl (.slice oo out.length oc) out.length cs2 rfl HR2.out _ 1 _ rfl HSR.out rfl H1C.out hmx hby HBS.out ?_;intro v' w4 hown' hgrow h3' h4';obtain⟨o',c',rfl⟩:=ay hown';have HG:=zh (bW.out _ w4 hgrow hown');clear hown' hgrow h3' h4')))
   exact HJ.out _ _ o' c' rfl rfl rfl rfl rfl rfl (by simp) (by rw[List.length_append];exact HG.out)
  ·have hlf:decide (lo≤(times:Int))=false:=by simpa using hlt
   have eo:(out++(if(decide (lo≤(times:Int)) && !false)=true then[x] else[]))=out:=by simp[hlt]
   rw[eo] at HJ;conv=>arg 2;whnf
   go_wp2_with fail
   exact HJ.out _ _ _ _ rfl rfl rfl rfl rfl rfl rfl HF.out
theorem foBn {B G L times at_:Nat} {kk lo hi:Int} {lazy:Bool} {dm uv sv lv:Value} {x:Wy.Way} {LV:List (List (Wy.Way×Int))} {w0 W:World} {out:List Wy.Way} {oo:Option Addr} {oc:Nat} {J:Act→World→Prop} {Q:Exit→Act→World→Prop} (e:Nat→Value) (ht:times≤40) (hLV:LV.length≤40) (h1:¬times+1<LV.length)
  (hF:jo B G L #[.int .u8 kk,dm,.int .i64 lo,.int .i64 hi,.bool lazy,uv] x sv lv LV w0 out (.slice oo out.length oc) W)
  (hJ:∀(m:List Value) (w':World) (o':Option Addr) (c':Nat),m.length=80→m[0]? =some lv→m[1]? =some (.int .i64 (times:Nat))→m[2]? =some (.int .i64 (at_:Nat))→m[7]? =some (.pointer (some ⟨B,0,none⟩))→m[10]? =some (.pointer (some ⟨B+1,0,none⟩))→m[9]? =some (.slice o' (out).length c')→jo B G L #[.int .u8 kk,dm,.int .i64 lo,.int .i64 hi,.bool lazy,uv] x sv lv LV w0 (out) (.slice o' (out).length c') w'→J ⟨m.toArray,[]⟩ w'):
  Code.wp Tryz.prog (foC [1,1,1,1,0]) (Exit.then J Q) ⟨#[lv,.int .i64 (times:Nat),.int .i64 (at_:Nat),e 3,e 4,e 5,e 6,.pointer (some ⟨B,0,none⟩),e 8,.slice oo out.length oc,.pointer (some ⟨B+1,0,none⟩),e 11,e 12,e 13,e 14,e 15,e 16,e 17,e 18,e 19,e 20,e 21,e 22,e 23,e 24,e 25,e 26,e 27,e 28,e 29,e 30,e 31,e 32,e 33,e 34,e 35,e 36,e 37,e 38,e 39,e 40,e 41,e 42,e 43,e 44,e 45,e 46,e 47,e 48,e 49,e 50,e 51,e 52,e 53,e 54,e 55,e 56,e 57,e 58,e 59,e 60,e 61,e 62,e 63,e 64,e 65,e 66,e 67,e 68,e 69,e 70,e 71,e 72,e 73,e 74,e 75,e 76,e 77,e 78,e 79],[]⟩ W:=by
 obtain⟨hs,hrow,-⟩:=hF.lvs;obtain⟨ob,cb,rfl⟩:=hrow.slice;have h1I:decide ((times:Int)+1<(LV.length:Int))=false:=by simp;omega
 have hLI:(LV.length:Int)≤40:=(by omega);have htI:(times:Int)≤40:=(by omega);have HF:=zh hF;have HJ:=zh hJ;clear hF hJ hrow h1;conv=>arg 2;whnf
 go_wp2_with fail
 exact HJ.out _ _ _ _ rfl rfl rfl rfl rfl rfl rfl HF.out
theorem foB {B G L times at_:Nat} {kk lo hi:Int} {lazy:Bool} {dm uv sv lv:Value} {x:Wy.Way} {LV:List (List (Wy.Way×Int))} {w0 W:World} {out:List Wy.Way} {oo:Option Addr} {oc:Nat} {J:Act→World→Prop} {Q:Exit→Act→World→Prop} (e:Nat→Value) (ht:times≤40) (hLV:LV.length≤40) (h1:times+1<LV.length) (hM:(LV[times+1]'h1).length≤500) (hlen:out.length≤1)
  (hg:∀i,((fun i=>flw lo lazy (LV.drop (times+1)) (times+1) i) i).length≤20000)
  (ih:∀i,i<(LV[times+1]'h1).length→∀w',kE w' G L lv LV→Calls Tryz.prog 99 #[lv,.int .i64 ((times+1:Nat):Int),.int .i64 (i:Nat),.agg #[.int .u8 kk,dm,.int .i64 lo,.int .i64 hi,.bool lazy,uv]] w' (Flr G L ((fun i=>flw lo lazy (LV.drop (times+1)) (times+1) i) i) w'))
  (hF:jo B G L #[.int .u8 kk,dm,.int .i64 lo,.int .i64 hi,.bool lazy,uv] x sv lv LV w0 out (.slice oo out.length oc) W)
  (hJ:∀(m:List Value) (w':World) (o':Option Addr) (c':Nat),m.length=80→m[0]? =some lv→m[1]? =some (.int .i64 (times:Nat))→m[2]? =some (.int .i64 (at_:Nat))→m[7]? =some (.pointer (some ⟨B,0,none⟩))→m[10]? =some (.pointer (some ⟨B+1,0,none⟩))→m[9]? =some (.slice o' (out++dC at_ (fun i=>flw lo lazy (LV.drop (times+1)) (times+1) i) (LV[times+1]'h1) 0).length c')→jo B G L #[.int .u8 kk,dm,.int .i64 lo,.int .i64 hi,.bool lazy,uv] x sv lv LV w0 (out++dC at_ (fun i=>flw lo lazy (LV.drop (times+1)) (times+1) i) (LV[times+1]'h1) 0) (.slice o' (out++dC at_ (fun i=>flw lo lazy (LV.drop (times+1)) (times+1) i) (LV[times+1]'h1) 0).length c') w'→J ⟨m.toArray,[]⟩ w'):
  Code.wp Tryz.prog (foC [1,1,1,1,0]) (Exit.then J Q) ⟨#[lv,.int .i64 (times:Nat),.int .i64 (at_:Nat),e 3,e 4,e 5,e 6,.pointer (some ⟨B,0,none⟩),e 8,.slice oo out.length oc,.pointer (some ⟨B+1,0,none⟩),e 11,e 12,e 13,e 14,e 15,e 16,e 17,e 18,e 19,e 20,e 21,e 22,e 23,e 24,e 25,e 26,e 27,e 28,e 29,e 30,e 31,e 32,e 33,e 34,e 35,e 36,e 37,e 38,e 39,e 40,e 41,e 42,e 43,e 44,e 45,e 46,e 47,e 48,e 49,e 50,e 51,e 52,e 53,e 54,e 55,e 56,e 57,e 58,e 59,e 60,e 61,e 62,e 63,e 64,e 65,e 66,e 67,e 68,e 69,e 70,e 71,e 72,e 73,e 74,e 75,e 76,e 77,e 78,e 79],[]⟩ W:=by
 obtain⟨i0,hi0,hz0,hz1,hz2⟩:=info_parts sJ;obtain⟨lb,lo_,lc,rfl,hlc,Qv,IC,hlv⟩:=hF.lvs.level (by omega);have h1I:(times:Int)+1<(LV.length:Int):=(by omega);have hLI:(LV.length:Int)≤40:=(by omega);have hcI:(LV.length:Int)≤lc:=(by omega);have htI:(times:Int)≤40:=(by omega);obtain⟨v1,hv1,hl1⟩:=hlv (times+1) h1;obtain⟨M,hMe⟩:∃M,M=(LV[times+1]'h1):=⟨_,rfl⟩;obtain⟨g,hge⟩:∃g:Nat→List Wy.Way,g=(fun i=>flw lo lazy (LV.drop (times+1)) (times+1) i):=⟨_,rfl⟩;rw[←hMe] at hM ih hJ hl1;rw[←hge] at hg ih hJ;have HME:=zh hMe;clear hMe hge hlv;have HIH:=zh ih;have HG:=zh hg;have HF:=zh hF;have HJ:=zh hJ;have HL1:=zh hl1;obtain⟨ov1,cv1,rfl⟩:∃o c,v1= .slice o M.length c:=by
  obtain⟨_,hr,-⟩:=hl1;exact hr.slice
 have hMI:(M.length:Int)≤500:=(by omega);have bz:=hF.node.lt;have hv1':W.cell? ⟨lb,lo_+(times+1),none⟩=some (.slice ov1 M.length cv1):=hv1;have hB0:=hF.hB;have hcell:∀w',Below W.heap.size W w'→w'.cell? ⟨lb,lo_+(times+1),none⟩=some (.slice ov1 M.length cv1)∧lb<w'.heap.size:=fun w' h=>⟨(zW (h.block _ IC)).trans hv1,by have:=h.size;omega⟩
 have HCELL:=zh hcell;clear hF hJ ih hg hl1 hcell hv1;conv=>arg 2;whnf
 go_wp2_with fail
 go_loopw [9,11] (fun s9 s11 wx=>∃(i:Nat) (o':Option Addr) (c':Nat),i≤M.length∧s11= .int .i64 i∧s9= .slice o' (out++dC at_ g (M.take i) 0).length c'∧jo B G L #[.int .u8 kk,dm,.int .i64 lo,.int .i64 hi,.bool lazy,uv] x sv (.slice (some ⟨lb,lo_,none⟩) LV.length lc) LV w0 (out++dC at_ g (M.take i) 0) (.slice o' (out++dC at_ g (M.take i) 0).length c') wx) (fun _ s11 _=>M.length-(intOf s11).toNat)
 case atStart=>exact⟨0,oo,oc,by omega,rfl,by simp[dC],by simpa [dC] using HF.out⟩
 case round=>
  rename World=>Wa
  obtain⟨i,o',c',hi,rfl,rfl,hat⟩:=hrel;obtain⟨lb2,lo2,lc2,e2,-,-,hz3,hlv2⟩:=hat.lvs.level (by omega);simp only[Value.slice.injEq,Option.some.injEq,Addr.mk.injEq,and_true,true_and] at e2;obtain⟨⟨rfl,rfl⟩,rfl⟩:=e2;obtain⟨v2,hv2,hl2⟩:=hlv2 (times+1) h1;obtain⟨P,hP⟩:∃P,P=out++dC at_ g (M.take i) 0:=⟨_,rfl⟩;have hPl:P.length≤10000001:=by
   rw[hP,List.length_append];have:=sK at_ g 20000 HG.out M i hi;omega
  rw[←hP] at hat ⊢;rw[←HME.out] at hl2;obtain⟨ov2,cv2,rfl⟩:∃o c,v2= .slice o M.length c:=by
   obtain⟨_,hr,-⟩:=hl2;exact hr.slice
  have hv2':Wa.cell? ⟨lb,lo_+(times+1),none⟩=some (.slice ov2 M.length cv2):=hv2;have HAT:=zh hat;have HP:=zh hP;have nz:=hat.node.lt;have nz2:=hat.own.lt;by_cases hil:i<M.length
  ·have hiI:(i:Int)<M.length:=(by omega);obtain⟨sb,so,sc,e3,hsc,hsc2,-,hsz,hcl⟩:=hl2.cells (by omega);simp only[Value.slice.injEq,true_and] at e3;obtain⟨rfl,rfl⟩:=e3;obtain⟨sw,-,-,c2,-⟩:=hcl i hil;have hsu:=wL at_ g M hil;obtain⟨q,hq⟩:∃q,q=M[i].2:=⟨_,rfl⟩;rw[←hq] at c2 hsu;have HSU:=zh hsu;clear hcl hsu hl2 hlv2 hv2 hat hP hq;by_cases hqa:q=(at_:Int)
   ·subst hqa;have nb:=HAT.out.node.cell;have n0:=nb 0;have n1:=nb 1;have n2:=nb 2;have n3:=nb 3;have n4:=nb 4;have n5:=nb 5;clear nb
    go_wp2_with (first|(go_at_call 99;(refine(HIH.out i hil Wa HAT.out.lvs).mono ?_;rintro e w2 ⟨v3,cs3,rfl,hown3,hw3,hb3⟩;obtain⟨ov3,cv3,rfl⟩:=ay hown3;have wC:=HAT.out.go hb3;obtain⟨cs4,Tj,Tm⟩:=wC.row;have HA2:=zh wC;have HC4:=zh Tj;have HW4:=zh Tm;have HO3:=zh hown3;have HW3:=zh hw3;have HS3:=zh (jV (Row.dD (N:=fun _=>True) hown3 (fun _ _ _=>trivial)));have HZ2:=zh hb3.size;have HN3:=zh (HG.out i);clear wC Tj Tm hown3 hw3 hb3))|(at_builtin;(refine aA rfl _ _ 73 rfl Tryz.underlying73 hi0 hz0 hz1 hz2 rfl (.slice o' P.length c') P.length cs4 rfl HC4.out _ (g i).length cs3 rfl HS3.out HO3.out.1 HW3.out.oneCell (by have:=HN3.out;unfold maxLen;omega) (by have:=HN3.out;omega) (by have:=HZ2.out;omega) ?_;intro v' w4 hown' hgrow h3' h4';obtain⟨o5,c5,rfl⟩:=ay hown';have HGR:=zh (HA2.out.push HC4.out HW4.out HW3.out hgrow hown');clear hown' hgrow h3' h4')))
    go_roundw
    case rel=>
     have e5:P++g i=out++dC at_ g (M.take (i+1)) 0:=by rw[HSU.out,if_pos (by simp),HP.out,List.append_assoc]
     have hl5:P.length+(g i).length=(out++dC at_ g (M.take (i+1)) 0).length:=by rw[←e5,List.length_append]
     exact⟨i+1,o5,c5,by omega,by go_num,by rw[←hl5],by rw[←e5,List.length_append];exact HGR.out⟩
    case measure=>simp[intOf];omega
   ·have hqf:(q == (at_:Int))=false:=by simpa using hqa
    go_wp2_with fail
    go_roundw
    case rel=>
     have e5:P=out++dC at_ g (M.take (i+1)) 0:=by rw[HSU.out,if_neg hqa,List.append_nil,HP.out]
     exact⟨i+1,o',c',by omega,by go_num,by rw[←e5],by rw[←e5];exact HAT.out⟩
    case measure=>simp[intOf];omega
  ·obtain rfl:i=M.length:=(by omega);clear hl2 hlv2 hv2 hat hP;have hPM:P=out++dC at_ g M 0:=by rw[HP.out,List.take_length]
   have HPM:=zh hPM;clear hPM
   go_wp2_with fail
   have HJ2:=HJ.out;rw[←HPM.out] at HJ2;exact HJ2 _ _ _ _ rfl rfl rfl rfl rfl rfl rfl HAT.out
end Go.Proofs.YtnhjakdmbfadlaaGreatDoor
namespace Go.Proofs.YtnhjakdmbfadlaaGreatDoor
open Go.RowKit Wy Mem Grow
variable {lazy:Bool} {Q:Exit→Act→World→Prop} {hi kk lo:Int} {LV:List (List (Wy.Way×Int))} {res:List Wy.Way} {B G L at_ times:Nat} {lv dm sv uv:Value} {W w0:World} {x:Wy.Way}
theorem NH (m:List Value) (hm:m.length=80)
  (k0:m[0]? =some lv) (k1:m[1]? =some (.int .i64 (times:Nat))) (k2:m[2]? =some (.int .i64 (at_:Nat))) (k7:m[7]? =some (.pointer (some ⟨B,0,none⟩))) (k10:m[10]? =some (.pointer (some ⟨B+1,0,none⟩))) (k9:m[9]? =some (.slice none 0 0))
  (hl0:0≤lo) (hl1:lo≤1000) (ht:times≤40) (htl:times<LV.length) (hLV:LV.length≤40) (hx1:x.stop≤L) (hx2:x.spans.length=G)
  (ih:∀(h1:times+1<LV.length) i,i<(LV[times+1]).length→∀w',kE w' G L lv LV→Calls Tryz.prog 99 #[lv,.int .i64 ((times+1:Nat):Int),.int .i64 (i:Nat),.agg #[.int .u8 kk,dm,.int .i64 lo,.int .i64 hi,.bool lazy,uv]] w' (Flr G L (flw lo lazy (LV.drop (times+1)) (times+1) i) w'))
  (hg:∀i,(flw lo lazy (LV.drop (times+1)) (times+1) i).length≤20000) (hsz:∀M∈LV,M.length≤500)
  (hres:res=lq lo lazy times x (if h1:times+1<LV.length then dC at_ (fun i=>flw lo lazy (LV.drop (times+1)) (times+1) i) (LV[times+1]) 0 else[]))
  (hF:jo B G L #[.int .u8 kk,dm,.int .i64 lo,.int .i64 hi,.bool lazy,uv] x sv lv LV w0 [] (.slice none 0 0) W)
  (jR:∀(m:List Value) (w':World) (o':Option Addr) (c':Nat),m.length=80→m[8]? =some (.slice o' res.length c')→jo B G L #[.int .u8 kk,dm,.int .i64 lo,.int .i64 hi,.bool lazy,uv] x sv lv LV w0 res (.slice o' res.length c') w'→Q .ret ⟨m.toArray,[]⟩ w'):
  Code.wp Tryz.prog (foC [1,1,1]) Q ⟨m.toArray,[]⟩ W:=by
 obtain⟨e,rfl⟩:=qX hm;rw[zI k0,zI k1,zI k2,zI k7,zI k10,zI k9];show Code.wp Tryz.prog (Code.seq (foC [1,1,1,0]) (foC [1,1,1,1])) _ _ _
 refine wp_seq (foA (out:=[]) e ht hl0 hl1 (by simp) hx1 hx2 hF (fun m w1 o2 c2 hm k0 k1 k2 k7 k10 k9 hF1=> ?_));obtain⟨f,rfl⟩:=qX hm;rw[zI k0,zI k1,zI k2,zI k7,zI k10,zI k9];have hol:([]++(if(decide (lo≤(times:Int)) && lazy)=true then[x] else[])).length≤1:=by split<;>simp
 generalize ho1:([]++(if(decide (lo≤(times:Int)) && lazy)=true then[x] else[]))=out1 at hF1 hol ⊢;show Code.wp Tryz.prog (Code.seq (foC [1,1,1,1,0]) (foC [1,1,1,1,1])) _ _ _
 have fin:∀(m:List Value) (w1:World) (o2:Option Addr) (c2:Nat) (oK:List Wy.Way),m.length=80→m[0]? =some lv→m[1]? =some (.int .i64 (times:Nat))→m[2]? =some (.int .i64 (at_:Nat))→m[7]? =some (.pointer (some ⟨B,0,none⟩))→m[10]? =some (.pointer (some ⟨B+1,0,none⟩))→m[9]? =some (.slice o2 oK.length c2)→
   jo B G L #[.int .u8 kk,dm,.int .i64 lo,.int .i64 hi,.bool lazy,uv] x sv lv LV w0 oK (.slice o2 oK.length c2) w1→oK.length≤20000000→res=oK++(if(decide (lo≤(times:Int)) && !lazy)=true then[x] else[])→Code.wp Tryz.prog (foC [1,1,1,1,1]) Q ⟨m.toArray,[]⟩ w1:=by
  intro m w1 o2 c2 oK hm k0 k1 k2 k7 k10 k9 hF hlB hr;obtain⟨e,rfl⟩:=qX hm;rw[zI k0,zI k1,zI k2,zI k7,zI k10,zI k9];show Code.wp Tryz.prog (Code.seq (foC [1,1,1,1,1,0]) (foC [1,1,1,1,1,1])) _ _ _
  refine wp_seq (foD e ht hl0 hl1 hlB hx1 hx2 hF (fun m w2 o3 c3 hm k0 k1 k2 k7 k10 k9 hF2=> ?_));rw[←hr] at k9 hF2;obtain⟨g,rfl⟩:=qX hm;have g9:=zI k9;have HF2:=zh hF2;have HR:=zh jR;clear hF2 jR hF ih hg hsz hres hr;conv=>arg 2;whnf
  go_wp2_with fail
  exact HR.out _ _ o3 c3 rfl (by simp[g9]) HF2.out
 by_cases h1:times+1<LV.length
 ·refine wp_seq (foB f ht hLV h1 (hsz _ (List.getElem_mem h1)) hol hg (fun i hi w' hl=>ih h1 i hi w' hl) hF1 (fun m w1 o2 c2 hm k0 k1 k2 k7 k10 k9 hF2=> ?_));refine fin m w1 o2 c2 _ hm k0 k1 k2 k7 k10 k9 hF2 ?_ ?_
  ·rw[List.length_append];have:=sK at_ (fun i=>flw lo lazy (LV.drop (times+1)) (times+1) i) 20000 hg (LV[times+1]) _ zL;rw[List.take_length] at this;have:=hsz _ (List.getElem_mem h1);omega
  ·rw[hres,dif_pos h1,←ho1];unfold lq;simp
 ·refine wp_seq (foBn f ht hLV h1 hF1 (fun m w1 o2 c2 hm k0 k1 k2 k7 k10 k9 hF2=> ?_));refine fin m w1 o2 c2 _ hm k0 k1 k2 k7 k10 k9 hF2 (by omega) ?_;rw[hres,dif_neg h1,←ho1];unfold lq;simp
theorem lH (hl0:0≤lo) (hl1:lo≤1000) (hLV:LV.length≤40) (hsz:∀M∈LV,M.length≤500):
  ∀(k times at_:Nat) (w:World),LV.length-times≤k→kE w G L lv LV→∀(ht:times<LV.length),at_<(LV[times]).length→
   Calls Tryz.prog 99 #[lv,.int .i64 (times:Nat),.int .i64 (at_:Nat),.agg #[.int .u8 kk,dm,.int .i64 lo,.int .i64 hi,.bool lazy,uv]] w (Flr G L (flw lo lazy (LV.drop times) times at_) w)
 |0,times,at_,w,hk,hlv,ht,_=>absurd ht (by omega)
 |k+1,times,at_,w,hk,hlv,ht,hat=>by
  have ih:∀(h1:times+1<LV.length) i,i<(LV[times+1]).length→∀w',kE w' G L lv LV→Calls Tryz.prog 99 #[lv,.int .i64 ((times+1:Nat):Int),.int .i64 (i:Nat),.agg #[.int .u8 kk,dm,.int .i64 lo,.int .i64 hi,.bool lazy,uv]] w' (Flr G L (flw lo lazy (LV.drop (times+1)) (times+1) i) w'):=
   fun h1 i hi w' hl=>lH hl0 hl1 hLV hsz k (times+1) i w' (by omega) hl h1 hi
  have hg:∀i,(flw lo lazy (LV.drop (times+1)) (times+1) i).length≤20000:=fun i=>by
   cases hd:LV.drop (times+1) with
   |nil=>simp[flw]
   |cons M R=>
    by_cases hi:i<M.length
    ·have h2:=NG (lo:=lo) (lazy:=lazy) (t:=times+1) (R:=R) hi;have h3:zX (M::R)≤(M::R).length*500:=ET (fun x hx=>hsz x (List.mem_of_mem_drop (i:=times+1) (by rw[hd];exact hx)));have h4:(M::R).length=LV.length-(times+1):=by rw[←hd,List.length_drop]
     omega
    ·have:M[i]? =none:=List.getElem?_eq_none (by omega);rw[wK,this];simp
  have HIH:=zh ih;have HG:=zh hg;clear ih hg;have hM0:(LV[times]).length≤500:=hsz _ (List.getElem_mem ht);have heq:LV.drop times=LV[times]::LV.drop (times+1):=List.drop_eq_getElem_cons ht;obtain⟨x,hx⟩:∃x,x=(LV[times])[at_].1:=⟨_,rfl⟩;have hres:flw lo lazy (LV.drop times) times at_=lq lo lazy times x (if h1:times+1<LV.length then dC at_ (fun i=>flw lo lazy (LV.drop (times+1)) (times+1) i) (LV[times+1]) 0 else[]):=by
   rw[heq,wK,List.getElem?_eq_getElem hat,hx];by_cases h1:times+1<LV.length
   ·rw[dif_pos h1];have e2:LV.drop (times+1)=LV[times+1]::LV.drop (times+1+1):=List.drop_eq_getElem_cons h1;simp only[e2]
   ·rw[dif_neg h1];have e2:LV.drop (times+1)=[]:=List.drop_eq_nil_of_le (by omega);simp only[e2]
  obtain⟨lb,lo_,lc,rfl,hlc,Qv,IC,hlv2⟩:=hlv.level (by omega);obtain⟨v1,hv1,Tn⟩:=hlv2 times ht;obtain⟨sb,so,sc,rfl,hsc,hsc2,-,hsz',hcl⟩:=Tn.cells (by omega);obtain⟨sv,c0,c1,-,hsp,hxl,hxg⟩:=hcl at_ hat;have HX:=zh hx;rw[←hx] at c0 hsp hxl hxg;obtain⟨o1,s1,esv⟩:=hsp.row.slice;have htI:(times:Int)<LV.length:=(by omega);have hLI:(LV.length:Int)≤40:=(by omega);have hcI:(LV.length:Int)≤lc:=(by omega);have haI:(at_:Int)<(LV[times]).length:=(by omega);have haL:((LV[times]).length:Int)≤500:=(by omega);have jf:=zh hres;obtain⟨n1,hn1⟩:∃n,n=(LV[times]).length:=⟨_,rfl⟩;rw[←hn1] at haI haL hv1;have HLV:=zh hlv;have HSP:=zh hsp;subst esv;clear hres heq hx hlv hlv2 Tn hcl hsp hM0 hsc hn1;go_enter Tryz.func99,Tryz.ntmps99
  go_upto_region 2 with fail
  rename_i K hK;have HK:=zh hK;clear hK
  go_wp2_with fail
  refine HK.out _ _ ?_;have hB0:Blk ((w.alloc (.cells #[.int .u8 kk,dm,.int .i64 lo,.int .i64 hi,.bool lazy,uv] 70)).alloc (.cells #[.int .i64 x.stop,.slice o1 G s1] 79)) w.heap.size #[.int .u8 kk,dm,.int .i64 lo,.int .i64 hi,.bool lazy,uv] 70:=(Blk.new _ _ _).alloc _;have hB1:Blk ((w.alloc (.cells #[.int .u8 kk,dm,.int .i64 lo,.int .i64 hi,.bool lazy,uv] 70)).alloc (.cells #[.int .i64 x.stop,.slice o1 G s1] 79)) (w.heap.size+1) #[.int .i64 x.stop,.slice o1 G s1] 79:=Blk.new' _ _ (by simp);have hbW:Below w.heap.size w ((w.alloc (.cells #[.int .u8 kk,dm,.int .i64 lo,.int .i64 hi,.bool lazy,uv] 70)).alloc (.cells #[.int .i64 x.stop,.slice o1 G s1] 79)):=(zR.alloc zL _).alloc (by simp) _;generalize ((w.alloc (.cells #[.int .u8 kk,dm,.int .i64 lo,.int .i64 hi,.bool lazy,uv] 70)).alloc (.cells #[.int .i64 x.stop,.slice o1 G s1] 79))=W at hB0 hB1 hbW ⊢;have hF:jo w.heap.size G L #[.int .u8 kk,dm,.int .i64 lo,.int .i64 hi,.bool lazy,uv] x (.slice o1 G s1) (.slice (some ⟨lb,lo_,none⟩) LV.length lc) LV w [] (.slice none 0 0) W:=
   ⟨hB0,hB1,by have:=HSP.out.ed hbW;rw[hxg] at this;exact this,HLV.out.below hbW,⟨[],zN,rfl⟩,hbW,rfl⟩
  refine NH _ rfl rfl rfl rfl rfl rfl rfl hl0 hl1 (by omega) ht hLV hxl hxg HIH.out HG.out hsz jf.out hF (fun m w1 o' c' hm h8 hf=> ?_);obtain⟨cs,hcs,hws⟩:=hf.row;obtain⟨e,he⟩:=qX hm;subst he;have h8:=zI h8;exact bodyPost_ret (v:= .slice o' (flw lo lazy (LV.drop times) times at_).length c') (by simp[results,Tryz.results99,go_sem,h8]) rfl ⟨_,cs,rfl,bY hcs (by omega),hws,hf.below⟩
variable {last nx:List (Wy.Way×Int)} {l more:List Wy.Way} {b cm cn i lb lc lo_:Nat} {X:Nat→Prop} {om on:Option Addr} {T:TypeId} {v:Value} {w w' wb:World}
noncomputable def rqC (p:List Nat):Code:=gU (way p) (Tryz.f82.body.getD .skip)
theorem iE {l:List Value} (h:l.length=100):∃e:Nat→Value,l=[e 0,e 1,e 2,e 3,e 4,e 5,e 6,e 7,e 8,e 9,e 10,e 11,e 12,e 13,e 14,e 15,e 16,e 17,e 18,e 19,e 20,e 21,e 22,e 23,e 24,e 25,e 26,e 27,e 28,e 29,e 30,e 31,e 32,e 33,e 34,e 35,e 36,e 37,e 38,e 39,e 40,e 41,e 42,e 43,e 44,e 45,e 46,e 47,e 48,e 49,e 50,e 51,e 52,e 53,e 54,e 55,e 56,e 57,e 58,e 59,e 60,e 61,e 62,e 63,e 64,e 65,e 66,e 67,e 68,e 69,e 70,e 71,e 72,e 73,e 74,e 75,e 76,e 77,e 78,e 79,e 80,e 81,e 82,e 83,e 84,e 85,e 86,e 87,e 88,e 89,e 90,e 91,e 92,e 93,e 94,e 95,e 96,e 97,e 98,e 99]:=by
 refine⟨fun k=>l.getD k undef,?_⟩;have h2:l=(List.range 100).map fun k=>l.getD k undef:=by
  apply List.ext_getElem
  ·simp[h]
  ·intro i h1 h2;simp[List.getD_eq_getElem?_getD,h1]
 exact h2
theorem Qw:(Tryz.prog.info? 175).map (fun i=>(i.zero,i.size,i.bytes))=some (some (.agg #[.int .i64 0,.slice none 0 0,.int .i64 0]),3,40):=by kernel_rfl
theorem srcS {c0 c1 c2:Value} (hB:Blk w b #[c0,c1,c2] T):dI w (.slice (some ⟨b,0,none⟩) 1 1) 1 [c0,c1,c2]:=by
 refine .inr ⟨_,_,rfl,fun j u hu=> ?_⟩
 match j with
 |0=>simp at hu;subst hu;simp[Addr.add,hB.cell]
 |1=>simp at hu;subst hu;simp[Addr.add,hB.cell]
 |2=>simp at hu;subst hu;simp[Addr.add,hB.cell]
 |j+3=>simp at hu
def nI (G L:Nat) (wb:World) (nx:List (Wy.Way×Int)) (nv:Value) (w:World):Prop:=Below wb.heap.size wb w∧∃cs,w.ownsRow wb.heap.size 175 3 nv nx.length cs∧fE 129 w G L nx cs
def nJ (w:World) (G L:Nat) (v:Value) (l:List Wy.Way):Prop:=∃cs,Row (TB 79 w) w v l.length 2 cs∧aH (TB 129 w) w G L l cs
theorem nJ.typ (h:nJ w G L v l) (k:Kept X w w') (h1:∀b,TB 79 w b→¬X b) (h2:∀b,TB 129 w b→¬X b):nJ w' G L v l:=by
 obtain⟨cs,h3,h4⟩:=h;exact⟨cs,Row.typ h3 k h1,h4.typ k h2⟩
theorem nJ.cells (h:nJ w G L v l) (hne:0<l.length):
  ∃b off cap:Nat,v= .slice (some ⟨b,off,none⟩) l.length cap∧l.length≤cap∧cap≤maxLen∧b<w.heap.size∧∀i (hi:i<l.length),∃sv,w.cell? ⟨b,off+i*2,none⟩=some (.int .i64 l[i].stop)∧w.cell? ⟨b,off+i*2+1,none⟩=some sv∧aC (TB 129 w) w sv l[i].spans∧l[i].stop≤L∧l[i].spans.length=G:=by
 obtain⟨cs,h1,h2⟩:=h;rcases h1.at_ with⟨h0,_⟩|⟨b,off,cap,rfl,k1,k2,k3,k4,k5⟩
 ·omega
 ·refine⟨b,off,cap,rfl,k1,k2,k4,fun i hi=> ?_⟩;obtain⟨sv,e1,e2,e3⟩:=h2.get i hi;have hl:=h2.length;exact⟨sv,(k5 _ (by omega)).trans e1,by rw[Nat.add_assoc];exact(k5 _ (by omega)).trans e2,e3⟩
def rqW (G L:Nat) (wb Wa:World) (nx:List (Wy.Way×Int)) (nv:Value) (more:List Wy.Way) (mv:Value) (y:Wy.Way) (i:Nat):List Value→World→Prop
 |[]=>fun w'=>w'=Wa.drew
 |[v]=>fun w'=>∃v',v= .agg #[.int .i64 y.stop,v']∧aC (TB 129 w') w' v' y.spans∧Below Wa.heap.size Wa w'
 |[v,p]=>fun w'=>∃v' a,v= .agg #[.int .i64 y.stop,v']∧p= .slice (some ⟨a,0,none⟩) 1 1∧aC (TB 129 w') w' v' y.spans∧Below Wa.heap.size Wa w'∧Blk w' a #[.int .i64 y.stop,v',.int .i64 (i:Nat)] 175∧Wa.heap.size≤a
 |[_,_,v]=>fun w'=>∃o c,v= .slice o (nx.length+1) c∧nI G L wb (nx++[(y,(i:Int))]) v w'∧nJ w' G L mv more
 |_=>fun _=>False
theorem Tq (e:Nat→Value)
  (hi:i<last.length) (hx:x=last[i].1) (hll:last.length≤500) (hlc:last.length≤lc) (hml:more.length≤500) (hnl:nx.length≤500) (hpr:∀y∈more,Prp y.spans) (hG:G≤64)
  (hL:jJ wb G L (.slice (some ⟨lb,lo_,none⟩) last.length lc) last) (hM:nJ W G L (.slice om more.length cm) more) (hN:nI G L wb nx (.slice on nx.length cn) W)
  (hQ:∀(m:List Value) (w':World) (o':Option Addr) (c':Nat),m.length=100→(m[1]? =some (e 1)∧m[2]? =some (e 2)∧m[3]? =some (e 3)∧m[4]? =some (e 4)∧m[5]? =some (e 5)∧m[12]? =some (e 12)∧m[13]? =some (.slice (some ⟨lb,lo_,none⟩) last.length lc)∧m[15]? =some (.int .i64 (i:Nat))∧m[16]? =some (.slice om more.length cm)∧m[17]? =some (e 17))→m[14]? =some (.slice o' (nx++more.map fun y=>((ak G).thn x y,(i:Int))).length c')→
   nI G L wb (nx++more.map fun y=>((ak G).thn x y,(i:Int))) (.slice o' (nx++more.map fun y=>((ak G).thn x y,(i:Int))).length c') w'→Q (.exit 4) ⟨m.toArray,[]⟩ w'):
  Code.wp Tryz.prog (rqC [1,1,0,0,0,1,0,1,1,0,1,0,0,1,0,0,1,1,0,1,0]) Q ⟨#[e 0,e 1,e 2,e 3,e 4,e 5,e 6,e 7,e 8,e 9,e 10,e 11,e 12,.slice (some ⟨lb,lo_,none⟩) last.length lc,.slice on nx.length cn,.int .i64 (i:Nat),.slice om more.length cm,e 17,.int .i64 0,e 19,e 20,e 21,e 22,e 23,e 24,e 25,e 26,e 27,e 28,e 29,e 30,e 31,e 32,e 33,e 34,e 35,e 36,e 37,e 38,e 39,e 40,e 41,e 42,e 43,e 44,e 45,e 46,e 47,e 48,e 49,e 50,e 51,e 52,e 53,e 54,e 55,e 56,e 57,e 58,e 59,e 60,e 61,e 62,e 63,e 64,e 65,e 66,e 67,e 68,e 69,e 70,e 71,e 72,e 73,e 74,e 75,e 76,e 77,e 78,e 79,e 80,e 81,e 82,e 83,e 84,e 85,e 86,e 87,e 88,e 89,e 90,e 91,e 92,e 93,e 94,e 95,e 96,e 97,e 98,e 99],[]⟩ W:=by
 obtain⟨i0,hi0,hz0,hz1,hz2⟩:=info_parts Qw;obtain⟨lb2,lo2,lc2,e2,-,-,-,hlz,wM⟩:=hL.cells (by omega);simp only[Value.slice.injEq,Option.some.injEq,Addr.mk.injEq,and_true,true_and] at e2;obtain⟨⟨rfl,rfl⟩,rfl⟩:=e2;obtain⟨xs,hx0,hx1,hx2,hxs,hxl,hxg⟩:=wM i hi;rw[←hx] at hx0 hxs hxl hxg;have hiI:(i:Int)<last.length:=(by omega);have hlI:(last.length:Int)≤500:=(by omega);have MC:(last.length:Int)≤lc:=(by omega);have hmI:(more.length:Int)≤500:=(by omega);have HXC:=zh (And.intro hx0 (And.intro hx1 (And.intro hxs (And.intro hxl hxg))));have HPR:=zh hpr;have HQ:=zh hQ;have HMN:=zh (And.intro hM hN);clear wM hx0 hx1 hx2 hxs hxl hxg hpr hQ hM hN hL hx;conv=>arg 2;whnf
 go_wp2_with fail
 go_loopw [14,18] (fun s14 s18 wx=>∃(k:Nat) (o':Option Addr) (c':Nat),k≤more.length∧s18= .int .i64 k∧s14= .slice o' (nx++(more.take k).map fun y=>((ak G).thn x y,(i:Int))).length c'∧nI G L wb (nx++(more.take k).map fun y=>((ak G).thn x y,(i:Int))) (.slice o' (nx++(more.take k).map fun y=>((ak G).thn x y,(i:Int))).length c') wx∧nJ wx G L (.slice om more.length cm) more) (fun _ s18 _=>more.length-(intOf s18).toNat)
 case atStart=>exact⟨0,on,cn,by omega,rfl,by simp,by simpa using HMN.out.2,HMN.out.1⟩
 case round=>
  rename World=>Wa
  obtain⟨k,o',c',hk,rfl,rfl,hnx,hmr⟩:=hrel;obtain⟨P,hP⟩:∃P,P=nx++(more.take k).map fun y=>((ak G).thn x y,(i:Int)):=⟨_,rfl⟩
  have hPl:P.length≤1000:=by
   rw[hP,List.length_append,List.length_map,List.length_take];omega
  rw[←hP] at hnx ⊢;have HP:=zh hP;by_cases hkl:k<more.length
  ·have hkI:(k:Int)<more.length:=(by omega);obtain⟨mb,mo,mc,e3,hmc,hmc2,hmz,oN⟩:=hmr.cells (by omega);simp only[Value.slice.injEq,true_and] at e3;obtain⟨rfl,rfl⟩:=e3;have CV:(more.length:Int)≤cm:=(by omega);obtain⟨ys,hy0,hy1,hys,hyl,hyg⟩:=oN k hkl;obtain⟨y,hy⟩:∃y,y=more[k]:=⟨_,rfl⟩;have hpy:Prp y.spans:=by rw[hy];exact HPR.out _ (List.getElem_mem hkl)
   have hPs:P++[((ak G).thn x y,(i:Int))]=nx++(more.take (k+1)).map fun y=>((ak G).thn x y,(i:Int)):=by
    rw[HP.out,List.take_succ_eq_append_getElem hkl,List.map_append,List.append_assoc,hy]
    rfl
   rw[←hy] at hy0 hys hyl hyg;have zY:lb<Wa.heap.size:=by have:=hnx.1.size;omega
   have hxa:Wa.cell? ⟨lb,lo_+i*3,none⟩=some (.int .i64 x.stop)∧Wa.cell? ⟨lb,lo_+i*3+1,none⟩=some xs∧aC (TB 129 Wa) Wa xs x.spans:=by
    obtain⟨h0,h1,h2,-,-⟩:=HXC.out;exact⟨(zW (hnx.1.block _ hlz)).trans h0,(zW (hnx.1.block _ hlz)).trans h1,h2.typ (zK hnx.1) (fun _ _=>id)⟩
   obtain⟨Kr,Kt,hxs⟩:=hxa;obtain⟨ox,cx,rfl⟩:=hxs.row.slice;obtain⟨oy,cy,rfl⟩:=hys.row.slice;have hxg:x.spans.length=G:=HXC.out.2.2.2.2;have hR:∀w',Below Wa.heap.size Wa w'→w'.cell? ⟨lb,lo_+i*3,none⟩=some (.int .i64 x.stop)∧w'.cell? ⟨lb,lo_+i*3+1,none⟩=some (.slice ox x.spans.length cx)∧w'.cell? ⟨mb,mo+k*2,none⟩=some (.int .i64 y.stop)∧w'.cell? ⟨mb,mo+k*2+1,none⟩=some (.slice oy y.spans.length cy)∧lb<w'.heap.size∧mb<w'.heap.size:=fun w' h=>
    ⟨(zW (h.block _ zY)).trans Kr,(zW (h.block _ zY)).trans Kt,(zW (h.block _ hmz)).trans hy0,(zW (h.block _ hmz)).trans hy1,by have:=h.size;omega,by have:=h.size;omega⟩
   have hcall:∀w',Below Wa.heap.size Wa w'→Calls Tryz.prog 81 #[.agg #[.int .i64 x.stop,.slice ox x.spans.length cx],.agg #[.int .i64 y.stop,.slice oy y.spans.length cy]] w' (Rwy y.stop (thenS x.spans y.spans) w'):=fun w' h=>
    yg (hxs.ed h) (hys.ed h) (by rw[hxg,hyg]) hpy
   obtain⟨z,hz⟩:∃z,z=(ak G).thn x y:=⟨_,rfl⟩;have hzs:(y.stop:Int)=z.stop:=by rw[hz];rfl
   rw[←hz] at hPs;have Ku:∀(w1:World) (v':Value),w1.ownsRow Wa.heap.size 129 2 v' (thenS x.spans y.spans).length ((thenS x.spans y.spans).flatMap bP)→aC (TB 129 w1) w1 v' z.spans:=fun w1 v' h=>by
    rw[hz];exact⟨Row.iR h,fun s hs=>(rP hs).elim (hxs.ok s) (hys.ok s),by rw[vM];rw[dY (by rw[hxg,hyg]),hyg];exact hG⟩
   have hzl:z.stop≤L:=by rw[hz];exact hyl
   have hend:∀(w1 w4:World) (v' nv':Value) (a:Nat),Below Wa.heap.size Wa w1→aC (TB 129 w1) w1 v' z.spans→∀cs,w1.ownsRow wb.heap.size 175 3 (.slice o' P.length c') P.length cs→fE 129 w1 G L P cs→w1.grownBy w4 (Value.slice o' P.length c').ownBlock→w4.ownsRow wb.heap.size 175 3 nv' (P.length+1) (cs++[.int .i64 z.stop,v',.int .i64 (i:Nat)])→
     nI G L wb (P++[(z,(i:Int))]) nv' w4∧nJ w4 G L (.slice (some ⟨mb,mo,none⟩) more.length cm) more:=fun w1 w4 v' nv' a hb1 hsp cs hcs hsw hg ho=>by
    have k4:=Kept.bK hg;have k1:Kept (fun _=>False) Wa w1:=Kept.of_below hb1 _;refine⟨⟨?_,_,by rw[List.length_append];exact ho,(hsw.typ k4 (dR hcs (by decide))).append (fE.one (x:=(z,(i:Int))) (hsp.typ k4 (dR hcs (by decide))) hzl (by show z.spans.length=G;rw[hz,vM];exact(dY (by rw[hxg,hyg])).trans hyg))⟩,(hmr.typ k1 (fun _ _=>id) (fun _ _=>id)).typ k4 (dR hcs (by decide)) (dR hcs (by decide))⟩;have hb0:Below wb.heap.size wb w1:=hnx.1.trans (hb1.mono hnx.1.size);exact((Kept.of_below hb0 (fun b=>(Value.slice o' P.length c').ownBlock=some b)).trans k4).below (fun q hq e=>by have:=(hcs.lt q e).1;omega)
   have hown:∀w1,Below Wa.heap.size Wa w1→∃cs,w1.ownsRow wb.heap.size 175 3 (.slice o' P.length c') P.length cs∧fE 129 w1 G L P cs:=fun w1 hb1=>by
    obtain⟨-,cs,h1,h2⟩:=hnx;exact⟨cs,aB h1 (zK hb1) (fun _ _=>id),h2.ed hb1⟩
   have hbz:wb.heap.size≤Wa.heap.size:=hnx.1.size;have HR:=zh hR;have aS:=zh hcall;have Qx:=zh Ku;have dL:=zh hend;have HOWN:=zh hown;have HPS:=zh hPs;have hmx:P.length+1≤maxLen:=by unfold maxLen;omega
   have hby:(P.length+1)*40≤140737488355328:=(by omega);have HXG:=zh hxg;have HZ:=zh hz;have HZS:=zh hzs;have HYG:=zh hyg;clear hR hcall Ku hend hown hPs hxg hyg hz hzs hzl hxs hys Kr Kt hy0 hy1 oN hmr hnx hP hy hpy
   go_wp2_with fail
   apply aJ ?hm ?hok [0,1,2,3,4,5,6,7,8,9,11,10,12,13,14,15] [10,13,14] [12,15] ?hord (fun w'=>Below Wa.heap.size Wa w') (rqW G L wb Wa P (.slice o' P.length c') more (.slice (some ⟨mb,mo,none⟩) more.length cm) z i)
   case hm=>rfl
   case hok=>kernel_rfl
   case hord=>kernel_rfl
   case hb=>
    intro L' w' h hl
    match L' with
    |[]=>rw[h];exact zR.drew
    |[v]=>obtain⟨_,_,_,h3⟩:=h;exact h3
    |[v,p]=>obtain⟨_,_,_,_,_,h3,_⟩:=h;exact h3
    |_::_::_::_=>simp at hl;omega
   case hw=>rfl
   case h=>
    apply ae _ rfl rfl rfl rfl
    case h=>
     intro W1 hW K hK
     go_wp2_with fail
     exact hK
    simp only[zP,zQ,zB,zC];apply ae _ rfl rfl rfl rfl
    case h=>
     intro W1 hW K hK
     go_wp2_with fail
     exact hK
    simp only[zP,zQ,zB,zC];apply ae _ rfl rfl rfl rfl
    case h=>
     intro W1 hW K hK
     go_wp2_with fail
     exact hK
    simp only[zP,zQ,zB,zC];apply ae _ rfl rfl rfl rfl
    case h=>
     intro W1 hW K hK
     (obtain⟨q0,q1,q2,q3,q4,q5⟩:=HR.out _ hW)
     go_wp2_with fail
     exact hK
    simp only[zP,zQ,zB,zC];apply ae _ rfl rfl rfl rfl
    case h=>
     intro W1 hW K hK
     go_wp2_with fail
     exact hK
    simp only[zP,zQ,zB,zC];apply ae _ rfl rfl rfl rfl
    case h=>
     intro W1 hW K hK
     (obtain⟨q0,q1,q2,q3,q4,q5⟩:=HR.out _ hW)
     go_wp2_with fail
     exact hK
    simp only[zP,zQ,zB,zC];apply ae _ rfl rfl rfl rfl
    case h=>
     intro W1 hW K hK
     go_wp2_with fail
     exact hK
    simp only[zP,zQ,zB,zC];apply ae _ rfl rfl rfl rfl
    case h=>
     intro W1 hW K hK
     go_wp2_with fail
     exact hK
    simp only[zP,zQ,zB,zC];apply ae _ rfl rfl rfl rfl
    case h=>
     intro W1 hW K hK
     (obtain⟨q0,q1,q2,q3,q4,q5⟩:=HR.out _ hW)
     go_wp2_with fail
     exact hK
    simp only[zP,zQ,zB,zC];apply ae _ rfl rfl rfl rfl
    case h=>
     intro W1 hW K hK
     (obtain⟨q0,q1,q2,q3,q4,q5⟩:=HR.out _ hW)
     go_wp2_with fail
     exact hK
    simp only[zP,zQ,zB,zC];apply ae _ rfl rfl rfl rfl
    case h=>
     intro W1 hW K hK
     go_wp2_with fail
     exact hK
    simp only[zP,zQ,zB,zC];apply ax rfl rfl rfl
    case h=>
     intro W1 hW K hK;obtain rfl:W1=Wa.drew:=hW
     go_wp2_with (go_at_call 81;(refine(aS.out _ zR.drew).mono ?_;rintro e w' ⟨v',rfl,hown',hb'⟩))
     exact⟨v',by rw[HZS.out],Qx.out w' v' hown',(Below.refl Wa.heap.size Wa).drew.trans hb'⟩
    intro v hv;obtain⟨_,v',rfl,hsv,-⟩:=hv;obtain⟨oz,cz,rfl⟩:=hsv.row.slice;obtain⟨zn,hzn⟩:∃zn,zn=z.spans.length:=⟨_,rfl⟩;rw[←hzn];have HZN:=zh hzn;clear hsv hzn;simp only[zP,zQ,zB,zC];apply ag _ rfl rfl rfl rfl
    case h=>
     intro W1 hW K hK
     go_wp2_with fail
     exact hK
    simp only[zP,zQ,zB,zC];apply ax rfl rfl rfl
    case h=>
     intro W1 hW K hK;obtain⟨v',e1,hsp,hb1⟩:=hW;simp only[Value.agg.injEq,Array.mk.injEq,List.cons.injEq,and_true,true_and] at e1;subst e1;have H1:=zh (And.intro hsp hb1);clear hsp hb1
     go_wp2_with fail
     have hz1:=H1.out.2.size;refine⟨_,W1.heap.size,rfl,rfl,H1.out.1.ed (zR.alloc zL _),H1.out.2.alloc hz1 _,Blk.new _ _ _,hz1⟩
    intro v hv;obtain⟨_,v',a,e1,rfl,-⟩:=hv;clear e1;simp only[zP,zQ,zB,zC];apply ax rfl rfl rfl
    case h=>
     intro W1 hW K hK;obtain⟨v',a2,e1,e2,hsp,hb1,hB,-⟩:=hW;simp only[Value.agg.injEq,Array.mk.injEq,List.cons.injEq,and_true,true_and] at e1;subst e1;simp only[Value.slice.injEq,Option.some.injEq,Addr.mk.injEq,and_true] at e2;subst e2;obtain⟨cs,hcs,hsw⟩:=HOWN.out W1 hb1;have hsz1:wb.heap.size≤W1.heap.size:=by have:=hb1.size;omega
     refine aY _ _ 176 rfl Tryz.underlying176 hi0 hz0 hz1 hz2 rfl (.slice o' P.length c') P.length cs rfl hcs _ 1 _ rfl (srcS hB) rfl (by simp[Value.oneCell']) hmx hby hsz1 ?_;intro nv' w4 hown' hgrow h3' h4';obtain⟨o5,c5,rfl⟩:=ay hown';obtain⟨h5,h6⟩:=dL.out W1 w4 _ _ a hb1 hsp cs hcs hsw hgrow hown';exact hK _ _ ⟨o5,c5,rfl,h5,h6⟩
    intro v hv;obtain⟨_,o5,c5,rfl,-⟩:=hv;simp only[zP,zQ,zB,zC];apply ag _ rfl rfl rfl rfl
    case h=>
     intro W1 hW K hK
     go_wp2_with fail
     exact hK
    simp only[zP,zQ,zB,zC];refine aG fun W7 h7=> ?_
    obtain⟨o6,c6,e6,h7,h8⟩:=h7;simp only[Value.slice.injEq,true_and] at e6;obtain⟨rfl,rfl⟩:=e6;have H7:=zh (And.intro h7 h8);clear h7 h8
    go_wp2_with fail
    go_roundw
    case rel=>
     have hl5:P.length+1=(nx++(more.take (k+1)).map fun y=>((ak G).thn x y,(i:Int))).length:=by rw[←HPS.out,List.length_append];rfl
     exact⟨k+1,o5,c5,by omega,by go_num,by rw[←hl5],by rw[←hl5,←HPS.out];exact H7.out.1,H7.out.2⟩
    case measure=>simp[intOf];omega
  ·obtain rfl:k=more.length:=(by omega);have hPe:P=nx++more.map fun y=>((ak G).thn x y,(i:Int)):=by rw[HP.out,List.take_length]
   have HN2:=zh hnx;have HPE:=zh hPe;clear hnx hmr hP hPe
   go_wp2_with fail
   have HQ2:=HQ.out;rw[←HPE.out] at HQ2;exact HQ2 _ _ o' c' rfl ⟨rfl,rfl,rfl,rfl,rfl,rfl,rfl,rfl,rfl,rfl⟩ rfl HN2.out
end Go.Proofs.YtnhjakdmbfadlaaGreatDoor
