/- Parts of the proof. Conditions: none. -/
import Derived.Test.YtnhjakdmbfadlaaGreatDoorT00
import Derived.WalkKit
import Derived.Deep.AppendLies
import Derived.Deep.AppendSrc
set_option linter.all false
set_option maxHeartbeats 8000000
set_option maxRecDepth 100000
namespace Go.Proofs.Wy
theorem xx {α α' β β':Type} (f:α→Option (List β)) (f':α'→Option (List β')) (h:β→β') (k:α→α'):
  ∀l:List α,(∀a∈l,(f a).map (List.map h)=f' (k a))→(allOf f l).map (List.map h)=allOf f' (l.map k)
 |[],_=>rfl
 |a::l,H=>by
  have h1:=H a (by simp);have h2:=xx f f' h k l (fun b hb=>H b (List.mem_cons_of_mem _ hb));simp only[allOf,List.map_cons,←h1,←h2];cases f a<;>cases allOf f l<;>simp
theorem Au {β β':Type} (h:β→β') (o:Option (List β)):(most o).map (List.map h)=most (o.map (List.map h)):=by
 cases o with
 |none=>rfl
 |some l=>
  simp only[most,Option.map_some,List.length_map];split<;>rfl
structure Hom {W V:Type} (A:Alg W) (B:Alg V) (S' S:Str) (h:W→V) (at_ c:Nat):Prop where
 stop:∀w,B.stop (h w)=at_+A.stop w
 thn:∀w v,h (A.thn w v)=B.thn (h w) (h v)
 still:∀p,h (A.still p)=B.still (at_+p)
 mark:∀g p w,h (A.mark g p w)=B.mark (c+g) (at_+p) (h w)
 dec:∀p,S'.dec p=S.dec (at_+p)
def kG {W V:Type} (h:W→V) (σ:Fs W):Fs V:=⟨σ.out.map h,σ.counts,σ.ok⟩
theorem xy {W V:Type} (h:W→V) (g:W→Fs W→Fs W) (g':V→Fs V→Fs V) (H:∀v σ,kG h (g v σ)=g' (h v) (kG h σ)):
  ∀(l:List W) (σ:Fs W),(kG h (dA g l σ).1,(dA g l σ).2)=dA g' (l.map h) (kG h σ)
 |[],σ=>rfl
 |v::r,σ=>by
  simp only[dA,List.map_cons];have e:(!(kG h σ).ok || decide (500<(kG h σ).out.length))=(!σ.ok || decide (500<σ.out.length)):=by simp[kG]
  rw[e];split
  ·rfl
  ·rw[xy h g g' H r,H]
theorem qA {W V:Type} (h:W→V) (b:Bool) (w:W) (σ:Fs W):kG h (dS b w σ)=dS b (h w) (kG h σ):=by
 unfold dS;split<;>simp[kG]
theorem uO {W V:Type} {A:Alg W} {B:Alg V} {h:W→V} {at_:Nat} (f:Nat→Option (List W)) (f':Nat→Option (List V)) (lo hi:Int) (lazy:Bool)
  (hs:∀w,B.stop (h w)=at_+A.stop w) (ht:∀w v,h (A.thn w v)=B.thn (h w) (h v)) (hf:∀p,(f p).map (List.map h)=f' (at_+p)):
  ∀(k:Nat) (w:W) (t:Nat) (σ:Fs W),kG h (follow A f lo hi lazy k w t σ)=follow B f' lo hi lazy k (h w) t (kG h σ)
 |0,_,_,_=>rfl
 |k+1,w,t,σ=>by
  have ih:=uO f f' lo hi lazy hs ht hf k;have hl:=fun(l:List W) (τ:Fs W)=>xy h (fun v σ=>follow A f lo hi lazy k (A.thn w v) (t+1) σ) (fun v σ=>follow B f' lo hi lazy k (B.thn (h w) v) (t+1) σ) (fun v σ=>by rw[ih,ht]) l τ
  have e1:kG h (dS (decide (lo≤t) && lazy) w ⟨σ.out,bump σ.counts t,σ.ok && decide ((bump σ.counts t).getD t 0≤500)⟩)=
   dS (decide (lo≤t) && lazy) (h w) ⟨(kG h σ).out,bump (kG h σ).counts t,(kG h σ).ok && decide ((bump (kG h σ).counts t).getD t 0≤500)⟩:=qA h _ w _
  unfold follow;simp only[hs,←hf];rw[←e1];have ec:((kG h σ).ok && decide ((bump (kG h σ).counts t).getD t 0≤500))=(σ.ok && decide ((bump σ.counts t).getD t 0≤500)):=rfl;rw[ec];generalize dS (decide (lo≤t) && lazy) w ⟨σ.out,bump σ.counts t,σ.ok && decide ((bump σ.counts t).getD t 0≤500)⟩=σ1;split
  ·cases f (A.stop w) with
   |none=>exact qA h _ w _
   |some more=>
    have:=hl more σ1;simp only[Option.map_some];rw[←this];cases (dA (fun v σ=>follow A f lo hi lazy k (A.thn w v) (t+1) σ) more σ1).2 with
    |true=>rfl
    |false=>exact qA h _ w _
  ·exact qA h _ w _
theorem KY {W V:Type} {A:Alg W} {B:Alg V} {h:W→V} {at_:Nat} (f:Nat→Option (List W)) (f':Nat→Option (List V)) (lo hi:Int) (lazy:Bool) (fuel p:Nat)
  (hs:∀w,B.stop (h w)=at_+A.stop w) (ht:∀w v,h (A.thn w v)=B.thn (h w) (h v)) (hp:h (A.still p)=B.still (at_+p)) (hf:∀p,(f p).map (List.map h)=f' (at_+p)):
  (rep A f lo hi lazy fuel p).map (List.map h)=rep B f' lo hi lazy fuel (at_+p):=by
 have:=uO f f' lo hi lazy hs ht hf fuel (A.still p) 0 ⟨[],[],true⟩;unfold rep;rw[←hp];have e:(⟨[],[],true⟩:Fs V)=kG h ⟨[],[],true⟩:=rfl;rw[e,←this];generalize follow A f lo hi lazy fuel (A.still p) 0 ⟨[],[],true⟩=σ;simp only[kG,List.length_map];split<;>rfl
theorem Hz {W V:Type} {A:Alg W} {B:Alg V} {h:W→V} {at_:Nat} (f:Nat→Option (List W)) (f':Nat→Option (List V))
  (hs:∀w,B.stop (h w)=at_+A.stop w) (ht:∀w v,h (A.thn w v)=B.thn (h w) (h v)) (hf:∀p,(f p).map (List.map h)=f' (at_+p)) (l:List W):
  (jh A f l).map (List.map h)=jh B f' (l.map h):=by
 unfold jh;rw[Au,xx _ (fun v=>(f' (B.stop v)).map fun m=>m.map (B.thn v)) h h l];intro w _;rw[hs,←hf];cases f (A.stop w) with
 |none=>rfl
 |some m=>simp[ht]
mutual
theorem yE {W V:Type} {A:Alg W} {B:Alg V} {S' S:Str} {h:W→V} {at_ c:Nat} (H:Hom A B S' S h at_ c):
  ∀(t:Nd) (g p:Nat),(wy A S' t g p).map (List.map h)=wy B S t (c+g) (at_+p)
 | .mk k set lo hi lazy subs,g,p=>by
  unfold wy;rw[Au];congr 1;split
  ·simp[H.still]
  split
  ·rw[H.dec];split
   ·simp[H.still,Nat.add_assoc]
   ·rfl
  split
  ·rw[xA H subs g,List.map_cons,List.map_nil,H.still]
  split
  ·exact Fa H lo hi lazy subs g p
  split
  ·have:=rq H subs (g+1) p;rw[←Nat.add_assoc] at this;rw[←this];cases bI A S' subs (g+1) p with
   |none=>rfl
   |some l=>simp[H.mark]
  ·exact rq H subs g p
theorem xA {W V:Type} {A:Alg W} {B:Alg V} {S' S:Str} {h:W→V} {at_ c:Nat} (H:Hom A B S' S h at_ c):
  ∀(l:List Nd) (g:Nat) (q:List W),(dH A S' l g q).map (List.map h)=dH B S l (c+g) (q.map h)
 |[],_,_=>rfl
 |s::r,g,q=>by
  unfold dH;rw[←Hz (fun p=>wy A S' s g p) (fun p=>wy B S s (c+g) p) H.stop H.thn (fun p=>yE H s g p)];cases jh A (fun p=>wy A S' s g p) q with
  |none=>rfl
  |some m=>
   have:=xA H r (g+opened s) m;rw[←Nat.add_assoc] at this;exact this
theorem Fa {W V:Type} {A:Alg W} {B:Alg V} {S' S:Str} {h:W→V} {at_ c:Nat} (H:Hom A B S' S h at_ c) (lo hi:Int) (lazy:Bool):
  ∀(l:List Nd) (g p:Nat),(iY A S' lo hi lazy l g p).map (List.map h)=iY B S lo hi lazy l (c+g) (at_+p)
 |[],_,_=>rfl
 |s::r,g,p=>by
  unfold iY;exact KY _ _ lo hi lazy 36 p H.stop H.thn (H.still p) (fun q=>yE H s g q)
theorem rq {W V:Type} {A:Alg W} {B:Alg V} {S' S:Str} {h:W→V} {at_ c:Nat} (H:Hom A B S' S h at_ c):
  ∀(l:List Nd) (g p:Nat),(bI A S' l g p).map (List.map h)=bI B S l (c+g) (at_+p)
 |[],_,_=>rfl
 |s::r,g,p=>by
  unfold bI;have h1:=yE H s g p;have h2:=rq H r (g+opened s) p;rw[←Nat.add_assoc] at h2;rw[←h1,←h2];cases wy A S' s g p<;>cases bI A S' r (g+opened s) p<;>simp
end
theorem Fb (S' S:Str) (at_ c:Nat) (h:∀p,S'.dec p=S.dec (at_+p)):Hom qZ qZ S' S (at_+ ·) at_ c:=
 ⟨fun _=>rfl,fun _ _=>rfl,fun _=>rfl,fun _ _ _=>rfl,h⟩
theorem Aw (S:Str) (t:Nd) (g p:Nat):wy qZ S t g p=ends S t p:=by
 have:=yE (Fb S S 0 g (fun p=>by rw[Nat.zero_add])) t 0 p;unfold ends;rw[Nat.add_zero,Nat.zero_add] at this;rw[←this];cases wy qZ S t 0 p with
 |none=>rfl
 |some l=>simp
variable {g p:Nat} {t:Nd}
theorem gI {α:Type} {o:Option (List α)} {l:List α} (h:most o=some l):l.length≤500∧o=some l:=by
 cases o with
 |none=>cases h
 |some m=>
  simp only[most] at h;split at h
  ·cases h;exact⟨by assumption,rfl⟩
  ·cases h
theorem eQ {α:Type} {l:List α} (h:l.length≤500):most (some l)=some l:=by simp[most,h]
theorem fV {W:Type} {A:Alg W} {S:Str} {l:List W} (h:wy A S t g p=some l):l.length≤500:=by
 cases t;rw[wy] at h;exact(gI h).1
def KZ (f:Nat→Option (List Nat)) (lo hi:Int) (lazy:Bool):Nat→Nat→Nat→Option (List Nat)
 |0,_,_=>none
 |k+1,w,t=>
  let more:=if hi= -1∨(t:Int)<hi then(match f w with
   |some m=>allOf (fun v=>KZ f lo hi lazy k v (t+1)) m
   |none=>none) else some []
  more.map fun m=>if lazy then(if lo≤t then[w] else[])++m else m++(if lo≤t then[w] else[])
theorem iV {W:Type} (b:Bool) (w:W) (σ:Fs W):(dS b w σ).ok=σ.ok:=by unfold dS;split<;>rfl
theorem dn {W:Type} (b:Bool) (w:W) (σ:Fs W):(dS b w σ).counts=σ.counts:=by unfold dS;split<;>rfl
theorem fK {W:Type} (b:Bool) (w:W) (σ:Fs W):(dS b w σ).out=σ.out++if b then[w] else[]:=by unfold dS;split<;>simp
def Less {W:Type} (σ τ:Fs W):Prop:=(τ.ok=true→σ.ok=true)∧σ.out.length≤τ.out.length
theorem Less.trans {W:Type} {a b c:Fs W} (h:Less a b) (k:Less b c):Less a c:=⟨fun e=>h.1 (k.1 e),Nat.le_trans h.2 k.2⟩
theorem Less.refl {W:Type} (a:Fs W):Less a a:=⟨id,Nat.le_refl _⟩
theorem jb {W:Type} (b:Bool) (w:W) (σ:Fs W):Less σ (dS b w σ):=⟨by rw[iV];exact id,by rw[fK];simp⟩
theorem iK {W:Type} {g:W→Fs W→Fs W} (h:∀v σ,Less σ (g v σ)):∀(l:List W) (σ:Fs W),Less σ (dA g l σ).1
 |[],σ=>Less.refl σ
 |v::r,σ=>by
  unfold dA;split
  ·exact Less.refl σ
  ·exact(h v σ).trans (iK h r _)
theorem jT {W:Type} (A:Alg W) (f:Nat→Option (List W)) (lo hi:Int) (lazy:Bool):∀(k:Nat) (w:W) (t:Nat) (σ:Fs W),Less σ (follow A f lo hi lazy k w t σ)
 |0,w,t,σ=>⟨fun h=>by simp[follow] at h,Nat.le_refl _⟩
 |k+1,w,t,σ=>by
  have ih:=jT A f lo hi lazy k;have h0:Less σ ⟨σ.out,bump σ.counts t,σ.ok && decide ((bump σ.counts t).getD t 0≤500)⟩:=⟨fun h=>by simp only[Bool.and_eq_true] at h;exact h.1,Nat.le_refl _⟩;have h1:=h0.trans (jb (decide (lo≤t) && lazy) w _);unfold follow;simp only;generalize dS (decide (lo≤t) && lazy) w ⟨σ.out,bump σ.counts t,σ.ok && decide ((bump σ.counts t).getD t 0≤500)⟩=σ1 at h1 ⊢;split
  ·split
   ·have h2:Less σ1 {σ1 with ok:=false}:=⟨fun h=>by simp at h,Nat.le_refl _⟩;exact(h1.trans h2).trans (jb _ _ _)
   ·next more _=>
    have h2:=iK (g:=fun v σ=>follow A f lo hi lazy k (A.thn w v) (t+1) σ) (fun v σ=>ih _ _ σ) more σ1;split
    ·exact h1.trans h2
    ·exact(h1.trans h2).trans (jb _ _ _)
  ·exact h1.trans (jb _ _ _)
def Fine {W:Type} (σ:Fs W):Prop:=σ.ok=true∧σ.out.length≤500
theorem Fine.less {W:Type} {a b:Fs W} (h:Fine b) (l:Less a b):Fine a:=⟨l.1 h.1,Nat.le_trans l.2 h.2⟩
theorem Az {g:Nat→Fs Nat→Fs Nat} {r:Nat→Option (List Nat)} (hm:∀v σ,Less σ (g v σ)) (H:∀v σ,Fine (g v σ)→∃l,r v=some l∧(g v σ).out=σ.out++l):
  ∀(more:List Nat) (σ:Fs Nat),Fine (dA g more σ).1→(dA g more σ).2=false∧∃l,allOf r more=some l∧(dA g more σ).1.out=σ.out++l
 |[],σ,_=>⟨rfl,[],rfl,by simp[dA]⟩
 |v::rest,σ,h=>by
  have hf:=h.less (iK hm (v::rest) σ);have e:(!σ.ok || decide (500<σ.out.length))=false:=by
   rw[hf.1];have:=hf.2;simp;omega
  unfold dA at h ⊢;rw[e] at h ⊢;simp only[Bool.false_eq_true,if_false] at h ⊢;have hg:=h.less (iK hm rest (g v σ));obtain⟨l1,h1,h2⟩:=H v σ hg;obtain⟨h3,l2,h4,h5⟩:=Az hm H rest (g v σ) h;refine⟨h3,l1++l2,?_,?_⟩
  ·simp[allOf,h1,h4]
  ·rw[h5,h2,List.append_assoc]
theorem lH (f:Nat→Option (List Nat)) (lo hi:Int) (lazy:Bool):∀(k w t:Nat) (σ:Fs Nat),Fine (follow qZ f lo hi lazy k w t σ)→
  ∃l,KZ f lo hi lazy k w t=some l∧(follow qZ f lo hi lazy k w t σ).out=σ.out++l
 |0,w,t,σ,h=>by have:=h.1;simp[follow] at this
 |k+1,w,t,σ,h=>by
  have ih:=lH f lo hi lazy k;unfold follow at h ⊢;simp only at h ⊢;have e1:(dS (decide (lo≤t) && lazy) w ⟨σ.out,bump σ.counts t,σ.ok && decide ((bump σ.counts t).getD t 0≤500)⟩:Fs Nat).out=σ.out++if(decide (lo≤t) && lazy)=true then[w] else[]:=fK _ _ _
  have e2:(dS (decide (lo≤t) && lazy) w ⟨σ.out,bump σ.counts t,σ.ok && decide ((bump σ.counts t).getD t 0≤500)⟩:Fs Nat).ok=(σ.ok && decide ((bump σ.counts t).getD t 0≤500)):=iV _ _ _;generalize dS (decide (lo≤t) && lazy) w ⟨σ.out,bump σ.counts t,σ.ok && decide ((bump σ.counts t).getD t 0≤500)⟩=σ1 at h e1 e2 ⊢;have key:∀m:List Nat,(σ1.out++m)++(if(decide (lo≤t) && !lazy)=true then[w] else[])=σ.out++(if lazy then(if lo≤t then[w] else[])++m else m++(if lo≤t then[w] else[])):=fun m=>by
   rw[e1];by_cases hl:lo≤(t:Int)<;>cases lazy<;>simp[hl]
  by_cases hok:(σ.ok && decide ((bump σ.counts t).getD t 0≤500))=true
  ·by_cases hhi:hi= -1∨(t:Int)<hi
   ·have hb:((σ.ok && decide ((bump σ.counts t).getD t 0≤500)) && (decide (hi= -1) || decide ((t:Int)<hi)))=true:=by
     rw[hok];simpa using hhi
    rw[hb] at h ⊢;simp only[if_true] at h ⊢;unfold KZ;simp only[if_pos hhi];simp only[show qZ.stop w=w from rfl] at h ⊢
    revert h
    cases f w with
    |none=>intro h;have:=h.1;rw[iV] at this;simp at this
    |some more=>
     simp only;intro h;have hm:∀v (τ:Fs Nat),Less τ (follow qZ f lo hi lazy k (qZ.thn w v) (t+1) τ):=fun v τ=>jT qZ f lo hi lazy k _ _ τ
     have gX:Fine (dA (fun v σ=>follow qZ f lo hi lazy k (qZ.thn w v) (t+1) σ) more σ1).1:=by
      revert h
      split
      ·exact id
      ·exact fun h=>h.less (jb _ _ _)
     obtain⟨h2,l,h3,h4⟩:=Az hm (fun v τ hf=>ih v (t+1) τ hf) more σ1 gX;rw[h3];refine⟨_,rfl,?_⟩;simp only[h2,Bool.false_eq_true,if_false];rw[fK,h4];exact key l
   ·have hb:((σ.ok && decide ((bump σ.counts t).getD t 0≤500)) && (decide (hi= -1) || decide ((t:Int)<hi)))=false:=by
     rw[hok]
     simpa using hhi
    rw[hb];simp only[Bool.false_eq_true,if_false];unfold KZ;simp only[if_neg hhi];refine⟨_,rfl,?_⟩;rw[fK];have:=key []
    rwa [List.append_nil] at this
  ·exfalso;have hb:((σ.ok && decide ((bump σ.counts t).getD t 0≤500)) && (decide (hi= -1) || decide ((t:Int)<hi)))=false:=by
    simp only[Bool.not_eq_true] at hok;rw[hok];rfl
   rw[hb] at h;simp only[Bool.false_eq_true,if_false] at h;have:=(h.less (jb _ _ _)).1;rw[e2] at this;exact hok this
variable {lazy:Bool} {hi lo:Int} {k' n n':Nat}
structure Lawful {W:Type} (A:Alg W):Prop where
 thn:∀w v,A.stop (A.thn w v)=A.stop v
 still:∀p,A.stop (A.still p)=p
 mark:∀g p w,A.stop (A.mark g p w)=A.stop w
theorem sV (G:Nat):Lawful (ak G):=⟨fun _ _=>rfl,fun _=>rfl,fun _ _ _=>rfl⟩
theorem ru {α β:Type} {f:α→Option (List β)}:∀{l:List α} {m:List β},allOf f l=some m→∀x∈m,∃a∈l,∃n,f a=some n∧x∈n
 |[],m,h,x,hx=>by simp only[allOf,Option.some.injEq] at h;subst h;simp at hx
 |a::l,m,h,x,hx=>by
  rw[allOf] at h;split at h
  ·next n k h1 h2=>
   simp only[Option.some.injEq] at h;subst h;rcases List.mem_append.1 hx with hx|hx
   ·exact⟨a,by simp,n,h1,hx⟩
   ·obtain⟨b,hb,n',h3,h4⟩:=ru h2 x hx;exact⟨b,List.mem_cons_of_mem _ hb,n',h3,h4⟩
  ·cases h
theorem uP {W:Type} {A:Alg W} {f:Nat→Option (List W)} {l m:List W} (h:jh A f l=some m):∀x∈m,∃w∈l,∃n,f (A.stop w)=some n∧∃v∈n,x=A.thn w v:=by
 intro x hx;have h1:=(gI h).2;obtain⟨w,hw,n,hn,hxn⟩:=ru h1 x hx;cases hf:f (A.stop w) with
 |none=>rw[hf] at hn;cases hn
 |some k=>
  rw[hf] at hn;simp only[Option.map_some,Option.some.injEq] at hn;subst hn;obtain⟨v,hv,rfl⟩:=List.mem_map.1 hxn;exact⟨w,hw,k,hf,v,hv,rfl⟩
theorem ry {W:Type} {g:W→Fs W→Fs W} {J:Fs W→Prop}:∀{l:List W},(∀v∈l,∀σ,σ.ok=true→σ.out.length≤500→J σ→J (g v σ))→∀{σ:Fs W},J σ→J (dA g l σ).1
 |[],_,σ,h=>h
 |v::r,hg,σ,h=>by
  rw[dA];split
  ·exact h
  ·next hc=>
   simp only[Bool.or_eq_true,Bool.not_eq_true',decide_eq_true_eq,not_or,Bool.not_eq_false] at hc;exact ry (fun v hv=>hg v (List.mem_cons_of_mem _ hv)) (hg v (by simp) σ hc.1 (by omega) h)
theorem pq {W:Type} {A:Alg W} {f:Nat→Option (List W)} {I:Nat→W→Prop} {P:W→Prop}
  (step:∀(t:Nat) w m,I t w→f (A.stop w)=some m→∀v∈m,I (t+1) (A.thn w v)) (fin:∀(t:Nat) w,lo≤(t:Int)→I t w→P w):
  ∀(k:Nat) (w:W) (t:Nat) (σ:Fs W),I t w→(∀x∈σ.out,P x)→∀x∈(follow A f lo hi lazy k w t σ).out,P x
 |0,w,t,σ,_,h=>h
 |k+1,w,t,σ,hI,h=>by
  have hfin:∀(b:Bool) (τ:Fs W),(∀x∈τ.out,P x)→∀x∈(dS (decide (lo≤(t:Int)) && b) w τ).out,P x:=by
   intro b τ hτ x hx;rw[fK] at hx;rcases List.mem_append.1 hx with hx|hx
   ·exact hτ x hx
   ·split at hx
    ·next hb=>
     simp only[Bool.and_eq_true,decide_eq_true_eq] at hb;simp only[List.mem_singleton] at hx;subst hx;exact fin t _ hb.1 hI
    ·simp at hx
  have h1:=hfin lazy ⟨σ.out,bump σ.counts t,σ.ok && decide ((bump σ.counts t).getD t 0≤500)⟩ h;unfold follow;simp only;generalize dS (decide (lo≤(t:Int)) && lazy) w ⟨σ.out,bump σ.counts t,σ.ok && decide ((bump σ.counts t).getD t 0≤500)⟩=σ1 at h1 ⊢;split
  ·cases hm:f (A.stop w) with
   |none=>exact hfin _ _ h1
   |some more=>
    have h2:∀x∈(dA (fun v σ=>follow A f lo hi lazy k (A.thn w v) (t+1) σ) more σ1).1.out,P x:=
     ry (J:=fun τ=>∀x∈τ.out,P x) (fun v hv τ _ _ hτ=>pq step fin k (A.thn w v) (t+1) τ (step t w more hI hm v hv) hτ) h1
    simp only;split
    ·exact h2
    ·exact hfin _ _ h2
  ·exact hfin _ _ h1
theorem bump_length (c:List Nat) (t:Nat):(bump c t).length=if c.length=t then c.length+1 else c.length:=by
 unfold bump;split<;>simp
theorem qB {c:List Nat} {t:Nat} (ht:t≤c.length) (i:Nat):(bump c t).getD i 0=c.getD i 0+if i=t then 1 else 0:=by
 unfold bump;simp only[List.getD_eq_getElem?_getD,List.getElem?_modify];by_cases h:c.length=t
 ·rw[if_pos h];by_cases hi:i=t
  ·subst hi;simp[←h]
  ·have hi':¬t=i:=fun e=>hi e.symm
   simp only[hi',hi,if_false,Nat.add_zero,id_map'];by_cases hl:i<c.length
   ·rw[List.getElem?_append_left hl]
    try (cases c[i]? <;>rfl)
   ·have h0:c[i]? =none:=List.getElem?_eq_none (by omega);have h1:(c++[0])[i]? =none:=List.getElem?_eq_none (by simp;omega)
    first|(rw[h0];simp;done)|(rw[h0,h1];rfl)|(rw[h0];by_cases e:i=c.length<;>simp_all)
 ·rw[if_neg h];by_cases hi:i=t
  ·subst hi;have hl:i<c.length:=(by omega);simp[hl]
  ·have hi':¬t=i:=fun e=>hi e.symm
   simp only[hi',hi,if_false,Nat.add_zero];cases c[i]? <;>rfl
structure jM {W:Type} (n k:Nat) (σ:Fs W):Prop where
 long:n≤σ.counts.length
 short:σ.counts.length≤36
 counts:∀c∈σ.counts,c≤501
 ok:σ.ok=true→∀c∈σ.counts,c≤500
 out:σ.out.length≤k
theorem H5 {c:List Nat} {t:Nat} (h:∀x∈c,x≤n) (ht:t≤c.length):∀x∈bump c t,x≤n+1:=by
 intro x hx;obtain⟨i,hi,rfl⟩:=List.getElem_of_mem hx;have e:=qB ht i;rw[List.getD_eq_getElem?_getD,List.getElem?_eq_getElem hi,Option.getD_some] at e;rw[e];have hc:c.getD i 0≤n:=by
  by_cases hl:i<c.length
  ·rw[List.getD_eq_getElem?_getD,List.getElem?_eq_getElem hl,Option.getD_some];exact h _ (List.getElem_mem hl)
  ·rw[List.getD_eq_getElem?_getD,List.getElem?_eq_none (by omega)];simp
 split<;>omega
theorem La {c:List Nat} {t:Nat} (h:∀x∈c,x≤500) (ht:t≤c.length) (hb:(bump c t).getD t 0≤500):∀x∈bump c t,x≤500:=by
 intro x hx;obtain⟨i,hi,rfl⟩:=List.getElem_of_mem hx;have e:=qB ht i;by_cases hit:i=t
 ·subst hit;rw[List.getD_eq_getElem?_getD,List.getElem?_eq_getElem hi,Option.getD_some] at hb;exact hb
 ·rw[List.getD_eq_getElem?_getD,List.getElem?_eq_getElem hi,Option.getD_some,if_neg hit] at e;rw[e];by_cases hl:i<c.length
  ·rw[List.getD_eq_getElem?_getD,List.getElem?_eq_getElem hl,Option.getD_some];exact h _ (List.getElem_mem hl)
  ·rw[List.getD_eq_getElem?_getD,List.getElem?_eq_none (by omega)];simp
theorem jM.mono {W:Type} {k:Nat} {σ:Fs W} (h:jM n k σ) (hn:n'≤n) (hk:k≤k'):jM n' k' σ:=⟨Nat.le_trans hn h.long,h.short,h.counts,h.ok,Nat.le_trans h.out hk⟩
theorem jM.fin {W:Type} {k:Nat} {σ:Fs W} (h:jM n k σ) (b:Bool) (w:W):jM n (k+1) (dS b w σ):=by
 refine⟨by rw[dn];exact h.long,by rw[dn];exact h.short,by rw[dn];exact h.counts,by rw[dn,iV];exact h.ok,?_⟩;have:=h.out;rw[fK,List.length_append];split<;>simp<;>omega
theorem jM.bump {W:Type} {t k:Nat} {σ:Fs W} (h:jM t k σ) (ht:t<36) (hok:σ.ok=true):
  jM (t+1) k (⟨σ.out,bump σ.counts t,σ.ok && decide ((bump σ.counts t).getD t 0≤500)⟩:Fs W):=by
 refine⟨?_,?_,H5 (h.ok hok) h.long,fun e=> ?_,h.out⟩
 ·have:=h.long;simp only[bump_length];split<;>omega
 ·have:=h.short;simp only[bump_length];split<;>omega
 ·simp only[Bool.and_eq_true,decide_eq_true_eq] at e;exact La (h.ok hok) h.long e.2
theorem jM.bad {W:Type} {k:Nat} {σ:Fs W} (h:jM n k σ):jM n k ({σ with ok:=false}:Fs W):=⟨h.long,h.short,h.counts,fun e=>(Bool.noConfusion e),h.out⟩
theorem xB {W:Type} (A:Alg W) (f:Nat→Option (List W)) (lo hi:Int) (lazy:Bool):
  ∀(k:Nat) (w:W) (t:Nat) (σ:Fs W),t+k=36→σ.ok=true→jM t 500 σ→jM (if k=0 then t else t+1) (502+k) (follow A f lo hi lazy k w t σ)
 |0,w,t,σ,_,_,h=>(h.mono zL (by omega)).bad
 |k+1,w,t,σ,htk,hok,h=>by
  have h1:=(h.bump (by omega) hok).fin (decide (lo≤(t:Int)) && lazy) w;unfold follow;simp only[Nat.add_eq_zero_iff,and_false,if_false,show¬(1:Nat)=0 by omega];generalize dS (decide (lo≤(t:Int)) && lazy) w ⟨σ.out,Wy.bump σ.counts t,σ.ok && decide ((Wy.bump σ.counts t).getD t 0≤500)⟩=σ1 at h1 ⊢;split
  ·cases hm:f (A.stop w) with
   |none=>exact(h1.bad.fin _ w).mono zL (by omega)
   |some more=>
    have h2:jM (t+1) (502+k) (dA (fun v σ=>follow A f lo hi lazy k (A.thn w v) (t+1) σ) more σ1).1:=
     ry (J:=fun τ=>jM (t+1) (502+k) τ) (fun v hv τ h3 h4 hτ=>
      (xB A f lo hi lazy k (A.thn w v) (t+1) τ (by omega) h3 ⟨hτ.long,hτ.short,hτ.counts,hτ.ok,h4⟩).mono (by split<;>omega) zL) (h1.mono zL (by omega))
    simp only;split
    ·exact h2.mono zL (by omega)
    ·exact(h2.fin _ w).mono zL (by omega)
  ·exact(h1.fin _ w).mono zL (by omega)
def dN (t:Nd):Nat:=if(look t).ah then 0 else 1
theorem Lc {W:Type} {A:Alg W} (hA:Lawful A) {f:Nat→Option (List W)} {d:Nat} (hf:∀p m,f p=some m→∀v∈m,p+d≤A.stop v) {lo hi:Int} {lazy:Bool} {k p:Nat} {l:List W}
  (h:rep A f lo hi lazy k p=some l):∀x∈l,∃t:Nat,lo≤(t:Int)∧p+t*d≤A.stop x:=by
 unfold rep at h;simp only at h;split at h
 ·simp only[Option.some.injEq] at h;subst h;refine pq (I:=fun t w=>p+t*d≤A.stop w) (P:=fun x=>∃t:Nat,lo≤(t:Int)∧p+t*d≤A.stop x) ?_ ?_ k (A.still p) 0 ⟨[],[],true⟩ ?_ (by simp)
  ·intro t w m hI hm v hv;have:=hf _ m hm v hv;rw[hA.thn,Nat.succ_mul];omega
  ·exact fun t w h1 h2=>⟨t,h1,h2⟩
  ·rw[hA.still];omega
 ·cases h
mutual
theorem uQ {W:Type} {A:Alg W} (hA:Lawful A) (S:Str):∀(t:Nd),(look t).shaped=true→∀(g p:Nat) (l:List W),wy A S t g p=some l→∀w∈l,p+dN t≤A.stop w
 | .mk k set lo hi lazy subs,hsh,g,p,l,h,w,hw=>by
  rw[wy] at h;have h1:=(gI h).2;rw[dM,Bool.and_eq_true,List.all_eq_true] at hsh;obtain⟨hs1,hs2⟩:=hsh;unfold dN;rw[kF];by_cases k1:k=1
  ·rw[if_pos k1] at h1 ⊢;cases h1;simp only[List.mem_singleton] at hw;subst hw;rw[hA.still];simp
  rw[if_neg k1] at h1 ⊢;by_cases k2:k=2
  ·subst k2;rw[if_pos rfl] at h1;split at h1
   ·next hc=>
    cases h1;simp only[List.mem_singleton] at hw;subst hw;rw[hA.still];have h01:∀c:Prop,[Decidable c]→(if c then(0:Nat) else 1)≤1:=fun c _=>by split<;>omega
    have:=h01;exact Nat.add_le_add_left (Nat.le_trans (h01 _) hc.1) _
   ·cases h1;simp at hw
  rw[if_neg k2] at h1;by_cases k3:k=3
  ·rw[if_pos k3] at h1 ⊢;have:=xC hA S subs hs2 g [A.still p] l h1 p (by simp[hA.still]) w hw;exact this
  rw[if_neg k3] at h1 ⊢;by_cases k5:k=5
  ·rw[if_pos k5] at h1 ⊢;subst k5;rw[bT] at hs1;simp only[if_true,Bool.and_eq_true,decide_eq_true_eq] at hs1;cases subs with
   |nil=>rw[iY] at h1;cases h1
   |cons s r=>
    rw[iY] at h1;have hs:=uQ hA S s (hs2 s (by simp)) g;obtain⟨t,ht1,ht2⟩:=Lc hA (d:=dN s) (fun q m hm v hv=>hs q m hm v hv) h1 w hw;rw[List.any_cons];cases hn:(look s).ah with
    |true=>simp;omega
    |false=>
     have hd:dN s=1:=by unfold dN;rw[hn];rfl
     rw[hd] at ht2;split
     ·omega
     ·next hc=>
      simp only[Bool.false_or,Bool.or_eq_true,decide_eq_true_eq,not_or] at hc;omega
  rw[if_neg k5] at h1 ⊢;by_cases k6:k=6
  ·rw[if_pos k6] at h1;cases ha:bI A S subs (g+1) p with
   |none=>rw[ha] at h1;cases h1
   |some m=>
    rw[ha] at h1;simp only[Option.map_some,Option.some.injEq] at h1;subst h1;obtain⟨v,hv,rfl⟩:=List.mem_map.1 hw;rw[hA.mark];exact rC hA S subs hs2 (g+1) p m ha v hv
  ·rw[if_neg k6] at h1;exact rC hA S subs hs2 g p l h1 w hw
theorem xC {W:Type} {A:Alg W} (hA:Lawful A) (S:Str):∀(subs:List Nd),(∀s∈subs,(look s).shaped=true)→∀(g:Nat) (l m:List W),dH A S subs g l=some m→∀a,(∀w∈l,a≤A.stop w)→
  ∀w∈m,a+(if subs.all (fun s=>(look s).ah) then 0 else 1)≤A.stop w
 |[],_,g,l,m,h,a,hl,w,hw=>by
  rw[dH] at h;cases h;have:=hl w hw
  simpa using this
 |s::r,hs,g,l,m,h,a,hl,w,hw=>by
  have AA:=uQ hA S s (hs s (by simp)) g;rw[dH] at h;split at h
  ·next n hn=>
   have hn1:∀x∈n,a+dN s≤A.stop x:=by
    intro x hx;obtain⟨u,hu,q,hq,v,hv,rfl⟩:=uP hn x hx;have:=AA _ q hq v hv;have:=hl u hu;rw[hA.thn];omega
   have:=xC hA S r (fun s h=>hs s (List.mem_cons_of_mem _ h)) _ n m h (a+dN s) hn1 w hw;rw[List.all_cons];unfold dN at this;cases hc:(look s).ah with
   |true=>rw[hc] at this;simpa using this
   |false=>
    rw[hc] at this;simp only[Bool.false_and,Bool.false_eq_true,if_false] at this ⊢;split at this<;>omega
  ·cases h
theorem rC {W:Type} {A:Alg W} (hA:Lawful A) (S:Str):∀(subs:List Nd),(∀s∈subs,(look s).shaped=true)→∀(g p:Nat) (m:List W),bI A S subs g p=some m→
  ∀w∈m,p+(if subs.any (fun s=>(look s).ah) then 0 else 1)≤A.stop w
 |[],_,g,p,m,h,w,hw=>by
  rw[bI] at h;cases h;simp at hw
 |s::r,hs,g,p,m,h,w,hw=>by
  have AA:=uQ hA S s (hs s (by simp)) g p;rw[bI] at h;split at h
  ·next x y hx hy=>
   cases h;rw[List.any_cons];rcases List.mem_append.1 hw with hw|hw
   ·have:=AA x hx w hw;unfold dN at this;cases hc:(look s).ah with
    |true=>rw[hc] at this;simpa using this
    |false=>rw[hc] at this;simp only[Bool.false_eq_true,if_false,Bool.false_or] at this ⊢;split<;>omega
   ·have:=rC hA S r (fun s h=>hs s (List.mem_cons_of_mem _ h)) _ p y hy w hw;cases hc:(look s).ah with
    |true=>simp;split at this<;>omega
    |false=>simpa using this
  ·cases h
end
mutual
def nodes:Nd→Nat
 | .mk _ _ _ _ _ subs=>aF subs+1
def aF:List Nd→Nat
 |[]=>0
 |s::r=>nodes s+aF r
end
mutual
def lZ:Nd→Nat→List (Nd×Nat)
 | .mk k set lo hi lazy subs,g=>(.mk k set lo hi lazy subs,g)::uS subs (g+if k=6 then 1 else 0)
def uS:List Nd→Nat→List (Nd×Nat)
 |[],_=>[]
 |s::r,g=>lZ s g++uS r (g+opened s)
end
mutual
theorem kR:∀(t:Nd) (g:Nat),(lZ t g).length=nodes t
 | .mk k set lo hi lazy subs,g=>by rw[lZ,nodes,List.length_cons,xE subs]
theorem xE:∀(l:List Nd) (g:Nat),(uS l g).length=aF l
 |[],g=>rfl
 |s::r,g=>by rw[uS,aF,List.length_append,kR s,xE r]
end
mutual
def mF (T:Nat→Option (Nd×Nat)):Nd→Nat→Nat→Prop
 | .mk k set lo hi lazy subs,n,g=>T n=some (.mk k set lo hi lazy subs,g)∧kS T subs (n+1) (g+if k=6 then 1 else 0)
def kS (T:Nat→Option (Nd×Nat)):List Nd→Nat→Nat→Prop
 |[],_,_=>True
 |s::r,n,g=>mF T s n g∧kS T r (n+nodes s) (g+opened s)
end
mutual
theorem Eg {T:Nat→Option (Nd×Nat)}:∀(t:Nd) (n g:Nat),(∀i,i<nodes t→T (n+i)=(lZ t g)[i]?)→mF T t n g
 | .mk k set lo hi lazy subs,n,g,h=>by
  rw[mF];have h0:=h 0 (by rw[nodes];omega);rw[lZ] at h0;refine⟨by simpa using h0,AB subs (n+1) _ fun i hi=> ?_⟩;have:=h (i+1) (by rw[nodes];omega);rw[lZ,List.getElem?_cons_succ] at this;rw[←this];congr 1;omega
theorem AB {T:Nat→Option (Nd×Nat)}:∀(l:List Nd) (n g:Nat),(∀i,i<aF l→T (n+i)=(uS l g)[i]?)→kS T l n g
 |[],n,g,h=>trivial
 |s::r,n,g,h=>by
  rw[kS];refine⟨Eg s n g fun i hi=> ?_,AB r _ _ fun i hi=> ?_⟩
  ·rw[h i (by rw[aF];omega),uS,List.getElem?_append_left (by rw[kR];exact hi)]
  ·have:=h (nodes s+i) (by rw[aF];omega);rw[uS,List.getElem?_append_right (by rw[kR];omega),kR] at this;rw[Nat.add_assoc,this];congr 1;omega
end
theorem xG (t:Nd):mF (fun n=>(lZ t 0)[n]?) t 0 0:=Eg t 0 0 fun i _=>by rw[Nat.zero_add]
theorem mF.self {T:Nat→Option (Nd×Nat)} (h:mF T t n g):T n=some (t,g):=by
 cases t;rw[mF] at h;exact h.1
end Go.Proofs.Wy
namespace Go.Proofs.Wy
section
variable {α β:Type} {f:α→Option (List β)}
theorem pF:∀{l:List α} {i:Nat} (hi:i<l.length),allOf f (l.take (i+1))=match allOf f (l.take i),f l[i] with|some x,some y=>some (x++y)|_,_=>none
 |[],i,hi=>absurd hi (by simp)
 |a::r,0,hi=>by
  simp only[List.take_succ_cons,List.take_zero,allOf,List.getElem_cons_zero];cases f a<;>simp
 |a::r,i+1,hi=>by
  have hi':i<r.length:=by simpa using hi
  have ih:=pF (l:=r) (i:=i) hi';rw[List.take_succ_cons,allOf,ih,List.take_succ_cons,allOf];simp only[List.getElem_cons_succ];cases f a<;>cases allOf f (r.take i)<;>cases f r[i]<;>simp
theorem rD:∀{l:List α} (i:Nat),allOf f l=match allOf f (l.take i),allOf f (l.drop i) with|some x,some y=>some (x++y)|_,_=>none
 |[],i=>by simp[allOf]
 |a::r,0=>by
  simp only[List.take_zero,List.drop_zero,allOf];cases f a<;>cases allOf f r<;>simp
 |a::r,i+1=>by
  rw[List.take_succ_cons,List.drop_succ_cons,allOf,allOf,rD i];cases f a<;>cases allOf f (r.take i)<;>cases allOf f (r.drop i)<;>simp
theorem uT {l:List α} {m:List β} (h:allOf f l=some m) {i:Nat} (hi:i<l.length):∃n,f l[i]=some n∧∃p,allOf f (l.take i)=some p∧p.length+n.length≤m.length:=by
 have h1:=rD (f:=f) (l:=l) (i+1);rw[h,pF hi] at h1;cases hp:allOf f (l.take i) with
 |none=>rw[hp] at h1;simp at h1
 |some p=>
  cases hn:f l[i] with
  |none=>rw[hp,hn] at h1;simp at h1
  |some n=>
   refine⟨n,rfl,p,rfl,?_⟩;rw[hp,hn] at h1;cases hd:allOf f (l.drop (i+1)) with
   |none=>rw[hd] at h1;simp at h1
   |some d=>
    rw[hd] at h1;simp only[Option.some.injEq] at h1;subst h1;simp
end
section
variable {W:Type} {A:Alg W} {f:Nat→Option (List W)} {l:List W}
def bV (A:Alg W) (f:Nat→Option (List W)) (w:W):Option (List W):=(f (A.stop w)).map fun m=>m.map (A.thn w)
theorem Fe {i:Nat} (hi:i<l.length) (h:f (A.stop l[i])=none):jh A f l=none:=by
 cases hg:jh A f l with
 |none=>rfl
 |some m=>
  obtain⟨n,hn,-⟩:=uT (gI hg).2 hi;rw[h] at hn;cases hn
theorem Ff {i:Nat} (hi:i<l.length) {n m:List W} (hn:allOf (bV A f) (l.take i)=some n) (hm:f (A.stop l[i])=some m) (h:500<n.length+m.length):jh A f l=none:=by
 cases hg:jh A f l with
 |none=>rfl
 |some k=>
  obtain⟨n',hn',p,hp,hl⟩:=uT (gI hg).2 hi;have:=(gI hg).1;have hp':allOf (bV A f) (l.take i)=some p:=hp;rw[hp'] at hn;cases hn;rw[hm] at hn';cases hn';rw[List.length_map] at hl;omega
theorem H6 {n:List W} (hn:allOf (bV A f) l=some n) (h:n.length≤500):jh A f l=some n:=by
 show most (allOf (bV A f) l)=_
 rw[hn];exact eQ h
theorem step_take {i:Nat} (hi:i<l.length) {n m:List W} (hn:allOf (bV A f) (l.take i)=some n) (hm:f (A.stop l[i])=some m):
  allOf (bV A f) (l.take (i+1))=some (n++m.map (A.thn l[i])):=by
 rw[pF hi,hn];unfold bV;rw[hm]
 rfl
end
section
variable {W:Type} (A:Alg W) (S:Str)
theorem ik {subs:List Nd} {i:Nat} (hi:i<subs.length):aj (subs.take (i+1))=aj (subs.take i)+opened subs[i]:=by
 rw[List.take_succ_eq_append_getElem hi,aV,dO]
theorem tZ (subs:List Nd) (i:Nat):aj (subs.take i)≤aj subs:=by
 conv=>rhs;rw[←List.take_append_drop i subs,aV]
 omega
theorem lI {subs:List Nd} {i:Nat} (hi:i<subs.length):aj (subs.take i)+opened subs[i]≤aj subs:=by
 rw[←ik hi];exact tZ _ _
theorem pG:∀{subs:List Nd} {i:Nat} (hi:i<subs.length) (g p:Nat),bI A S (subs.take (i+1)) g p=match bI A S (subs.take i) g p,wy A S subs[i] (g+aj (subs.take i)) p with|some x,some y=>some (x++y)|_,_=>none
 |[],i,hi,g,p=>absurd hi (by simp)
 |a::r,0,hi,g,p=>by
  simp only[List.take_succ_cons,List.take_zero,bI,List.getElem_cons_zero,aj,Nat.add_zero];cases wy A S a g p<;>simp
 |a::r,i+1,hi,g,p=>by
  have hi':i<r.length:=by simpa using hi
  have ih:=pG (subs:=r) (i:=i) hi' (g+opened a) p;rw[List.take_succ_cons,bI,ih,List.take_succ_cons,bI,aj,←Nat.add_assoc];simp only[List.getElem_cons_succ];cases wy A S a g p<;>cases bI A S (r.take i) (g+opened a) p<;>cases wy A S r[i] (g+opened a+aj (r.take i)) p<;>simp
def iq (subs:List Nd) (g i:Nat) (l:List W):Option (List W):=dH A S (subs.drop i) (g+aj (subs.take i)) l
theorem yF (subs:List Nd) (g:Nat) (l:List W):iq A S subs g 0 l=dH A S subs g l:=by
 simp[iq,aj]
theorem AL (subs:List Nd) (g:Nat) (l:List W):iq A S subs g subs.length l=some l:=by
 simp[iq,dH]
theorem qC {subs:List Nd} {g i:Nat} {l:List W} (hi:i<subs.length) (h:jh A (fun q=>wy A S subs[i] (g+aj (subs.take i)) q) l=none):iq A S subs g i l=none:=by
 unfold iq;rw[List.drop_eq_getElem_cons hi,dH,h]
theorem yG {subs:List Nd} {g i:Nat} {l m:List W} (hi:i<subs.length) (h:jh A (fun q=>wy A S subs[i] (g+aj (subs.take i)) q) l=some m):iq A S subs g i l=iq A S subs g (i+1) m:=by
 unfold iq;rw[List.drop_eq_getElem_cons hi,dH,h,ik hi,Nat.add_assoc]
end
structure Fit (t:Nd):Prop where
 shaped:(look t).shaped=true
 bC:(look t).bC=true
theorem Fit.subs {k:Int} {set:List Rg} {lo hi:Int} {lazy:Bool} {subs:List Nd} (h:Fit (.mk k set lo hi lazy subs)):∀s∈subs,Fit s:=by
 have h1:=h.shaped;have h2:=h.bC;rw[dM,Bool.and_eq_true,List.all_eq_true] at h1;rw[iI,Bool.and_eq_true,List.all_eq_true] at h2;exact fun s hs=>⟨h1.2 s hs,h2.1 s hs⟩
theorem Fit.shape {k:Int} {set:List Rg} {lo hi:Int} {lazy:Bool} {subs:List Nd} (h:Fit (.mk k set lo hi lazy subs)):bT (.mk k set lo hi lazy subs)=true:=by
 have h1:=h.shaped;rw[dM,Bool.and_eq_true] at h1;exact h1.1
theorem Fit.kind {k:Int} {set:List Rg} {lo hi:Int} {lazy:Bool} {subs:List Nd} (h:Fit (.mk k set lo hi lazy subs)):
  k=1∨(k=2∧fJ set=true∧subs=[])∨k=3∨k=4∨(k=5∧∃s,subs=[s]∧0≤lo∧lo≤1000∧(hi= -1∨lo≤hi∧hi≤1000)∧((look s).ah=true→0≤hi∧hi≤1))∨(k=6∧∃s,subs=[s]):=by
 have h1:=h.shape;have h2:=h.bC;rw[bT] at h1;by_cases k5:k=5
 ·subst k5;simp only[if_true,Bool.and_eq_true,decide_eq_true_eq,Bool.or_eq_true] at h1;obtain⟨⟨⟨⟨a,b⟩,c⟩,d⟩,e⟩:=h1;obtain⟨s,rfl⟩:=List.length_eq_one_iff.1 e;refine .inr (.inr (.inr (.inr (.inl ⟨rfl,s,rfl,a,b,c,fun hn=> ?_⟩))));rw[iI] at h2;simp[hn] at h2;rcases c with c|c
  ·exact absurd c h2.2.1
  ·exact⟨by omega,h2.2.2⟩
 ·rw[if_neg k5,Bool.and_eq_true] at h1;have h3:=h1.2;by_cases k1:k=1
  ·exact .inl k1
  rw[if_neg k1] at h3;by_cases k2:k=2
  ·rw[if_pos k2,Bool.and_eq_true,decide_eq_true_eq] at h3;exact .inr (.inl ⟨k2,h3.1,h3.2⟩)
  rw[if_neg k2] at h3;by_cases k34:k=3∨k=4
  ·rcases k34 with k3|k4
   ·exact .inr (.inr (.inl k3))
   ·exact .inr (.inr (.inr (.inl k4)))
  rw[if_neg k34] at h3;by_cases k6:k=6
  ·rw[if_pos k6,Bool.and_eq_true,decide_eq_true_eq,decide_eq_true_eq] at h3;obtain⟨s,hs⟩:=List.length_eq_one_iff.1 h3.2;exact .inr (.inr (.inr (.inr (.inr ⟨k6,s,hs⟩))))
  ·rw[if_neg k6] at h3;cases h3
end Go.Proofs.Wy
namespace Go.Proofs.Wy
open Go Go.RowKit Go.Proofs.Mem
variable {subs:List Nd} {cs:List Value} {i n sz:Nat} {M N X:Nat→Prop} {v:Value} {w w':World}
theorem gp (h:Row N w v n sz cs) (k:Kept X w w') (hd:∀b,b<w.heap.size→N b→¬X b∧M b):Row M w' v n sz cs:=by
 refine⟨h.len,?_⟩;rcases h.at_ with h0|⟨b,off,cap,rfl,h1,h2,h3,h4,h5⟩
 ·exact .inl h0
 ·refine .inr ⟨b,off,cap,rfl,h1,h2,(hd b h4 h3).2,k.lt h4,fun j hj=> ?_⟩;rw[←h5 j hj];exact zW (k.block b h4 (hd b h4 h3).1)
theorem sW {l:List Rg} (h:dG N w v l) (k:Kept X w w') (hd:∀b,b<w.heap.size→N b→¬X b∧M b):dG M w' v l:=⟨gp h.row k hd,h.ok,h.small⟩
mutual
theorem ai.go (k:Kept X w w') (hd:∀b,b<w.heap.size→N b→¬X b∧M b):∀{t:Nd} {cs:List Value},ai N w t cs→ai M w' t cs
 | .mk kd set lo hi lazy subs,cs,h=>by
  rw[ai] at h ⊢;obtain⟨sv,uv,ucs,h1,h2,h3,h4,h5,h6,h7⟩:=h;exact⟨sv,uv,ucs,h1,h2,h3,h4,sW h5 k hd,gp h6 k hd,au.go k hd h7⟩
theorem au.go (k:Kept X w w') (hd:∀b,b<w.heap.size→N b→¬X b∧M b):∀{l:List Nd} {cs:List Value},au N w l cs→au M w' l cs
 |[],cs,h=>h
 |s::r,cs,h=>by
  rw[au] at h ⊢;obtain⟨a,b,h1,h2,h3⟩:=h;exact⟨a,b,h1,ai.go k hd h2,au.go k hd h3⟩
end
theorem bJ:∀a b:List Nd,aF (a++b)=aF a+aF b
 |[],b=>by simp[aF]
 |s::r,b=>by rw[List.cons_append,aF,bJ r b,aF];omega
theorem fG (t:Nd):aF [t]=nodes t:=by simp[aF]
theorem AO (hi:i<subs.length):aF (subs.take (i+1))=aF (subs.take i)+nodes subs[i]:=by
 rw[List.take_succ_eq_append_getElem hi,bJ,fG]
theorem uU (subs:List Nd) (i:Nat):aF (subs.take i)≤aF subs:=by
 conv=>rhs;rw[←List.take_append_drop i subs,bJ]
 omega
theorem jw (hi:i<subs.length):aF (subs.take i)+nodes subs[i]≤aF subs:=by
 rw[←AO hi];exact uU _ _
end Go.Proofs.Wy
namespace Go.Proofs.Grow
open Go Go.RowKit
section
variable {P:Program} {w:World} {base:Nat} {e:TypeId} {i:TypeInfo} {z:Value} {size bytes:Nat}
def dI (w:World) (x:Value) (m:Nat) (news:List Value):Prop:=
 (∃c,x= .slice none 0 c∧m=0∧news=[])∨∃a c,x= .slice (some a) m c∧∀j u,news[j]? =some u→w.cell? (a.add j)=some u
theorem Fg (hz:z.cells.size=size) {xs:List Value} {n cap:Nat} (hl:xs.length=n*size) (hb:base≤w.heap.size) (hn:n≤cap) (hc:cap≤maxLen):
  (w.drew.alloc (.cells (xs.toArray++Builtin.zeroCells z.cells (cap-n)) e)).ownsRow base e size (.slice (some ⟨w.heap.size,0,none⟩) n cap) n xs:=by
 refine⟨hl,.inr ⟨w.heap.size,cap,_,rfl,hb,heap_alloc_new w.drew _,hn,hc,?_,?_⟩⟩
 ·simp only[Array.size_append,List.size_toArray,size_zeroCells,hz,hl];rw[←Nat.add_mul];congr 1;omega
 ·simp only[Array.toList_append];rw[←hl];exact List.take_left
theorem Ld {v:Value} {n:Nat} {xs:List Value} (h:w.ownsRow base e size v n xs) (o:Obj):(w.drew.alloc o).ownsRow base e size v n xs:=by
 refine⟨h.1,?_⟩;rcases h.2 with hn|⟨g,c,cur,rfl,hb,hg,rest⟩
 ·exact .inl hn
 ·exact .inr ⟨g,c,cur,rfl,hb,(Below.heap_alloc w.drew o g (Array.getElem?_eq_some_iff.1 hg).1).trans hg,rest⟩
theorem uV (t ty:TypeId) (ht:P.underlying t=some (.slice e)) (hi:P.info? e=some i) (hz:i.zero=some z) (hsize:i.size=size) (hby:i.bytes=bytes) (hzs:z.cells.size=size)
  (v:Value) (n:Nat) (xs:List Value) (hown:w.ownsRow base e size v n xs) (x:Value) (m:Nat) (news:List Value) (hx:dI w x m news) (hl:news.length=m*size) (h1:∀u∈news,u.oneCell'=true)
  (h63:n+m≤maxLen) (hbytes:(n+m)*bytes≤140737488355328) (hbase:base≤w.heap.size):
  ∃v' w',(Builtin.append_ #[t,t] ty #[v,x]).run P w= .ok v' w'∧w'.ownsRow base e size v' (n+m) (xs++news)∧w.grownBy w' v.ownBlock∧
   (v'.ownBlock=v.ownBlock∨v'.ownBlock=some w.heap.size)∧w'.ownsRow base e size v n xs:=by
 subst hsize hby;rcases hx with⟨c,rfl,rfl,rfl⟩|⟨a,c,rfl,hnews⟩
 ·refine⟨v,w,?_,by simpa using hown,⟨rfl,rfl,rfl,Nat.le_refl _,fun _ _ _=>rfl⟩,.inl rfl,hown⟩;rcases hown.2 with⟨rfl,rfl⟩|⟨g,cap,cur,rfl,-,hg,hnc,-,hcs,-⟩
  ·simp[Builtin.append_,run_underlying ht,sizeOf,typeInfo,hi,Builtin.lenOf,Builtin.firstCells]
  ·have hs:=Src.ofNil (P:=P) w (size:=i.size) ht c;have hr:=run_append_room_src (P:=P) w t t ty e i ht hi g 0 n cap _ 0 [] hs (by simpa using hnc) (fun j hj=>by simp at hj) (fun j hj=>by simp at hj);rw[hr]
   rfl
 ·have hlen:(xs++news).length=(n+m)*i.size:=by rw[List.length_append,hown.1,hl,Nat.add_mul]
  have hsm:((n+m:Nat):Int)≤9223372036854775807:=by simp only[maxLen] at h63;omega
  have new:∀old,old<n+m→∀row:Option Nat,∃v' w',
    Result.ok (.slice (some ⟨w.heap.size,0,none⟩) (n+m) (grownCap w (n+m) old e)) (w.drew.alloc (.cells ((xs++news).toArray++Builtin.zeroCells z.cells (grownCap w (n+m) old e-(n+m))) e))=(.ok v' w':Result Value)∧
    w'.ownsRow base e i.size v' (n+m) (xs++news)∧w.grownBy w' row∧(v'.ownBlock=v.ownBlock∨v'.ownBlock=some w.heap.size)∧w'.ownsRow base e i.size v n xs:=fun old ho row=>
   ⟨_,_,rfl,Fg hzs hlen hbase (grownCap_ge w (n+m) old e) (grownCap_le_maxLen w (n+m) old e h63),⟨rfl,rfl,rfl,by simp,fun k hk _=>Below.heap_alloc w.drew _ k hk⟩,.inr rfl,Ld hown _⟩
  rcases hown.2 with⟨rfl,rfl⟩|⟨g,cap,cur,rfl,hbg,hg,hnc,hcm,hcs,htake⟩
  ·obtain rfl:xs=[]:=List.eq_nil_of_length_eq_zero (by simpa using hown.1);by_cases hm:m=0
   ·subst hm;obtain rfl:news=[]:=List.eq_nil_of_length_eq_zero (by simpa using hl);refine⟨.slice none 0 0,w,?_,by simpa using hown,⟨rfl,rfl,rfl,Nat.le_refl _,fun _ _ _=>rfl⟩,.inl rfl,hown⟩;simp[Builtin.append_,run_underlying ht,sizeOf,typeInfo,hi,Builtin.lenOf,Builtin.firstCells,loadCells,loadCellsFrom]
   ·have hr:=run_append_nil (P:=P) w t ty e i z ht hi hz a m c news hl hnews (by omega) (by omega) (by have hb:=hbytes;simp only[Nat.zero_add] at hb;omega);rw[hr]
    simpa using new 0 (by omega) (Value.slice none 0 0).ownBlock
  ·by_cases hroom:n+m≤cap
   ·have hfit:n*i.size+news.length≤cur.size:=by rw[hl,hcs,←Nat.add_mul];exact Nat.mul_le_mul_right _ hroom
    have hr:=run_append_room (P:=P) w t ty e i ht hi g n cap cur hg a m c news hl hnews h1 hroom hfit;have hxl:(cur.toList.take (n*i.size)).length=n*i.size:=by rw[htake];exact hown.1
    refine⟨_,_,hr,⟨hlen,.inr ⟨g,cap,_,rfl,hbg,setRow_heap w g cur _ e _ hg,hroom,hcm,?_,?_⟩⟩,⟨rfl,rfl,rfl,by simp,fun k _ hk=>setRow_other w g k _ (fun e=>hk (by simp[Value.ownBlock,e]))⟩,.inl rfl,
     ⟨hown.1,.inr ⟨g,cap,_,rfl,hbg,setRow_heap w g cur _ e _ hg,hnc,hcm,?_,?_⟩⟩⟩
    ·simp only[List.size_toArray,List.length_append,List.length_take,List.length_drop,Array.length_toList];omega
    ·rw[htake,←hlen];exact List.take_left
    ·simp only[List.size_toArray,List.length_append,List.length_take,List.length_drop,Array.length_toList];omega
    ·show List.take (n*i.size) (cur.toList.take (n*i.size)++news++cur.toList.drop (n*i.size+news.length))=xs
     rw[List.append_assoc,List.take_append_of_le_length (by omega),List.take_of_length_le (by omega)];exact htake
   ·have hr:=run_append_grow (P:=P) w t ty e i z ht hi hz ⟨g,0,none⟩ n cap xs hown.1 (hown.cells (g:=g) rfl) a m c news hl hnews (by omega) hsm (growslice_fits (by omega) hbytes);rw[hr];have:=new cap (by omega) (Value.slice (some ⟨g,0,none⟩) n cap).ownBlock
    simpa using this
theorem aY {o:Oper} {a:Act} {K:Act→World→Prop} {Q:Exit→Act→World→Prop} (s x:Operand) (t:TypeId)
  (ho:o.op= .call {callee:= .builtin .append,args:= #[s,x],argTypes:= #[t,t]})
  (ht:P.underlying t=some (.slice e)) (hi:P.info? e=some i) (hz:i.zero=some z) (hsize:i.size=size) (hby:i.bytes=bytes) (hzs:z.cells.size=size)
  (v:Value) (n:Nat) (xs:List Value) (hs:a.eval s=v) (hown:w.ownsRow base e size v n xs) (y:Value) (m:Nat) (news:List Value) (hx:a.eval x=y) (hy:dI w y m news) (hl:news.length=m*size) (h1:∀u∈news,u.oneCell'=true)
  (h63:n+m≤maxLen) (hbytes:(n+m)*bytes≤140737488355328) (hbase:base≤w.heap.size)
  (h:∀v' w',w'.ownsRow base e size v' (n+m) (xs++news)→w.grownBy w' v.ownBlock→(v'.ownBlock=v.ownBlock∨v'.ownBlock=some w.heap.size)→w'.ownsRow base e size v n xs→K (a.put o.dst v') w'):o.wp P a w K Q:=by
 obtain⟨v',w',hr,h2,h3,h4,h5⟩:=uV (P:=P) t o.type ht hi hz hsize hby hzs v n xs hown y m news hy hl h1 h63 hbytes hbase;unfold Oper.wp execOp;simp only[ho,resolve,invoke,builtin,Sem.run_bind,Sem.run_pure,Result.andThen_ok,List.map_toArray,List.map_cons,List.map_nil,hs,hx,hr];exact h v' w' h2 h3 h4 h5
theorem aA {ops:Array Oper} {rest:List Oper} {o:Oper} {a:Act} {Q:Exit→Act→World→Prop} (hgd:o.guard=none) (s x:Operand) (t:TypeId)
  (ho:o.op= .call {callee:= .builtin .append,args:= #[s,x],argTypes:= #[t,t]})
  (ht:P.underlying t=some (.slice e)) (hi:P.info? e=some i) (hz:i.zero=some z) (hsize:i.size=size) (hby:i.bytes=bytes) (hzs:z.cells.size=size)
  (v:Value) (n:Nat) (xs:List Value) (hs:a.eval s=v) (hown:w.ownsRow base e size v n xs) (y:Value) (m:Nat) (news:List Value) (hx:a.eval x=y) (hy:dI w y m news) (hl:news.length=m*size) (h1:∀u∈news,u.oneCell'=true)
  (h63:n+m≤maxLen) (hbytes:(n+m)*bytes≤140737488355328) (hbase:base≤w.heap.size)
  (h:∀v' w',w'.ownsRow base e size v' (n+m) (xs++news)→w.grownBy w' v.ownBlock→(v'.ownBlock=v.ownBlock∨v'.ownBlock=some w.heap.size)→w'.ownsRow base e size v n xs→wpList P ops Q rest (a.put o.dst v') w'):wpList P ops Q (o::rest) a w:=
 wpList_plain hgd fun _ hK=>aY s x t ho ht hi hz hsize hby hzs v n xs hs hown y m news hx hy hl h1 h63 hbytes hbase fun v' w' h2 h3 h4 h5=>hK _ _ (h v' w' h2 h3 h4 h5)
end
end Go.Proofs.Grow
namespace Go.Proofs.Wy
open Go Go.RowKit Go.Proofs.Mem Go.Proofs.Grow
theorem eU {w w':World} {row:Option Nat} (h:w.grownBy w' row):Kept (fun b=>row=some b) w w':=
 ⟨h.os,h.tape,h.output,h.size,fun k hk hx=>h.block k hk (fun e=>hx e.symm)⟩
theorem fC {X:Nat→Prop} {w w':World} {base sz n:Nat} {e:TypeId} {v:Value} {xs:List Value} (h:w.ownsRow base e sz v n xs) (k:Kept X w w') (hx:∀g,v.ownBlock=some g→¬X g):w'.ownsRow base e sz v n xs:=by
 refine⟨h.1,?_⟩;rcases h.2 with hn|⟨g,c,cur,rfl,hb,hg,rest⟩
 ·exact .inl hn
 ·exact .inr ⟨g,c,cur,rfl,hb,(k.block g (Array.getElem?_eq_some_iff.1 hg).1 (hx g rfl)).trans hg,rest⟩
theorem eX {w:World} {base sz n:Nat} {e:TypeId} {v:Value} {xs:List Value} (h:w.ownsRow base e sz v n xs):∃o c,v= .slice o n c:=by
 rcases h.2 with⟨rfl,rfl⟩|⟨g,c,cur,rfl,_⟩
 ·exact⟨_,_,rfl⟩
 ·exact⟨_,_,rfl⟩
theorem Eh {w:World} {base sz n c g m:Nat} {e:TypeId} {xs:List Value} (h:w.ownsRow base e sz (.slice (some ⟨g,0,none⟩) n c) n xs) (hm:m≤n):
  w.ownsRow base e sz (.slice (some ⟨g,0,none⟩) m c) m (xs.take (m*sz)):=by
 have hl:=h.1;refine⟨?_,?_⟩
 ·rw[List.length_take,hl];have:=Nat.mul_le_mul_right sz hm;omega
 rcases h.2 with⟨he,-⟩|⟨g',c',cur,he,hb,hg,hnc,hcm,hsz,ht⟩
 ·cases he
 ·simp only[Value.slice.injEq,Option.some.injEq,Addr.mk.injEq,and_true,true_and] at he;obtain⟨rfl,rfl⟩:=he;refine .inr ⟨g,c,cur,rfl,hb,hg,by omega,hcm,hsz,?_⟩;have:=Nat.mul_le_mul_right sz hm;rw[←ht,List.take_take,Nat.min_eq_left this]
theorem pI {N:Nat→Prop} {w:World} {base sz n:Nat} {e:TypeId} {v:Value} {cs:List Value} (h:w.ownsRow base e sz v n cs) (hN:∀g,v.ownBlock=some g→N g):Row N w v n sz cs:=by
 refine⟨h.1,?_⟩;rcases h.2 with⟨rfl,h0⟩|⟨g,cap,cur,rfl,hb,hg,hnc,hcm,-,-⟩
 ·exact .inl ⟨h0,none,0,rfl⟩
 ·refine .inr ⟨g,0,cap,rfl,hnc,hcm,hN g rfl,(Array.getElem?_eq_some_iff.1 hg).1,fun j hj=> ?_⟩;rw[Nat.zero_add];exact h.cellAt _ (by rw[←h.1];exact hj)
structure kH (T:TypeId) (B:Nat) (w:World) (v:Value) (l:List Nd):Prop where
 row:∃cs,w.ownsRow B T 6 v l.length cs∧au (fun b=>v.ownBlock≠some b∧B≤b) w l cs
section
variable {T:TypeId} {B:Nat} {w w':World} {v v':Value} {l:List Nd}
theorem kH.nil:kH T B w (.slice none 0 0) []:=⟨[],zN,by rw[au]⟩
theorem kH.slice (h:kH T B w v l):∃o c,v= .slice o l.length c:=by
 obtain⟨cs,h1,-⟩:=h.row;exact eX h1
theorem kH.go {X:Nat→Prop} (h:kH T B w v l) (k:Kept X w w') (hX:∀b,b<w.heap.size→¬X b):kH T B w' v l:=by
 obtain⟨cs,h1,h2⟩:=h.row;exact⟨cs,fC h1 k (fun g hg=>hX g (h1.lt g hg).2),au.go k (fun b hb hn=>⟨hX b hb,hn⟩) h2⟩
theorem kH.below (h:kH T B w v l) (k:Below w.heap.size w w'):kH T B w' v l:=
 h.go (zK k) (fun _ _=>id)
theorem kH.at_ (h:kH T B w v l) (hl:l≠[]):∃g c,v= .slice (some ⟨g,0,none⟩) l.length c∧B≤g∧g<w.heap.size∧l.length≤c∧c≤maxLen:=by
 obtain⟨cs,h1,-⟩:=h.row;rcases h1.2 with⟨rfl,h0⟩|⟨g,cap,cur,rfl,hb,hg,hnc,hcm,-,-⟩
 ·exact absurd (List.eq_nil_of_length_eq_zero h0) hl
 ·exact⟨g,cap,rfl,hb,(Array.getElem?_eq_some_iff.1 hg).1,hnc,hcm⟩
theorem kH.more {x:Nd} {cs xs:List Value} (hr:w.ownsRow B T 6 v l.length cs) (hn:au (fun b=>v.ownBlock≠some b∧B≤b) w l cs) (hx:ai (fun b=>v.ownBlock≠some b∧B≤b) w x xs)
  (ho:w'.ownsRow B T 6 v' (l.length+1) (cs++xs)) (hg:w.grownBy w' v.ownBlock) (hv:v'.ownBlock=v.ownBlock∨v'.ownBlock=some w.heap.size):kH T B w' v' (l++[x]):=by
 have k:=eU hg;have hd:∀b,b<w.heap.size→(v.ownBlock≠some b∧B≤b)→¬(v.ownBlock=some b)∧(v'.ownBlock≠some b∧B≤b):=fun b hb hn=>⟨hn.1,fun e=>by
  rcases hv with hv|hv
  ·exact hn.1 (hv ▸ e)
  ·rw[hv] at e;simp only[Option.some.injEq] at e;omega,hn.2⟩
 refine⟨cs++xs,by rw[List.length_append,List.length_singleton];exact ho,au.append (au.go k hd hn) (au.one (ai.go k hd hx))⟩
theorem au.take {N:Nat→Prop} {w:World}:∀{l:List Nd} {cs:List Value} (m:Nat),au N w l cs→au N w (l.take m) (cs.take (m*6))
 |[],cs,m,h=>by rw[au] at h;subst h;simp[au]
 |s::r,cs,0,h=>by simp[au]
 |s::r,cs,m+1,h=>by
  rw[au] at h;obtain⟨a,b,rfl,h2,h3⟩:=h;rw[List.take_succ_cons,au];refine⟨a,b.take (m*6),?_,h2,h3.take m⟩;have e:(m+1)*6=a.length+m*6:=by rw[h2.six];omega
  rw[e,List.take_length_add_append]
theorem au.drop {N:Nat→Prop} {w:World}:∀{l:List Nd} {cs:List Value} (m:Nat),au N w l cs→au N w (l.drop m) (cs.drop (m*6))
 |[],cs,m,h=>by rw[au] at h;subst h;simp[au]
 |s::r,cs,0,h=>by simpa using h
 |s::r,cs,m+1,h=>by
  rw[au] at h;obtain⟨a,b,rfl,h2,h3⟩:=h;rw[List.drop_succ_cons];have e:(m+1)*6=a.length+m*6:=by rw[h2.six];omega
  rw[e,List.drop_length_add_append];exact h3.drop m
theorem au.split {N:Nat→Prop} {w:World} {l m:List Nd} {cs:List Value} (h:au N w (l++m) cs):au N w l (cs.take (l.length*6))∧au N w m (cs.drop (l.length*6)):=by
 have h1:=h.take l.length;have h2:=h.drop l.length;rw[List.take_left] at h1;rw[List.drop_left] at h2;exact⟨h1,h2⟩
theorem kH.cut {g c m:Nat} (h:kH T B w (.slice (some ⟨g,0,none⟩) l.length c) l) (hm:m≤l.length):kH T B w (.slice (some ⟨g,0,none⟩) m c) (l.take m):=by
 obtain⟨cs,h1,h2⟩:=h.row;refine⟨cs.take (m*6),?_,?_⟩
 ·rw[List.length_take,Nat.min_eq_left hm];exact Eh h1 hm
 ·exact au.mono (fun b hb=>hb) (h2.take m)
theorem xH (l:List Value) (a0 a1 a2 a3 a4 a5 b0 b1 b2 b3 b4 b5:Value) {k:Nat} (hk:l.length=k):
  ((((((l++[a0,a1,a2,a3,a4,a5]).set k b0).set (k+1) b1).set (k+2) b2).set (k+3) b3).set (k+4) b4).set (k+5) b5=l++[b0,b1,b2,b3,b4,b5]:=by
 subst hk;simp[List.set_append_right]
end
end Go.Proofs.Wy
