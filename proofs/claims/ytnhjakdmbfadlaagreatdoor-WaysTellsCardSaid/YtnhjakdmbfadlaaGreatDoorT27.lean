/- Parts of the proof. Conditions: none. -/
import Derived.Test.YtnhjakdmbfadlaaGreatDoorT01
import Derived.Test.YtnhjakdmbfadlaaGreatDoorT09
import Derived.Test.YtnhjakdmbfadlaaGreatDoorT00
import Derived.Test.YtnhjakdmbfadlaaGreatDoorT26
import Derived.Test.YtnhjakdmbfadlaaGreatDoorT16
set_option linter.all false
set_option maxHeartbeats 8000000
set_option maxRecDepth 100000
namespace Go.Proofs.Wy
structure Inv {W:Type} (A:Alg W) (S:Str) (Q:Nat→Prop) (I:Nat→W→Prop):Prop where
 stop:∀p w,I p w→Q (A.stop w)
 still:∀p,Q p→I p (A.still p)
 set:∀p,Q p→0<(S.dec p).2→I p (A.still (p+(S.dec p).2))
 thn:∀p w v,I p w→I (A.stop w) v→I p (A.thn w v)
 mark:∀g p w,Q p→I p w→I p (A.mark g p w)
theorem Ns {W:Type} {A:Alg W} {S:Str} {Q:Nat→Prop} {I:Nat→W→Prop} (hA:Inv A S Q I) {f:Nat→Option (List W)} (hf:∀p m,f p=some m→Q p→∀v∈m,I p v) {lo hi:Int} {lazy:Bool} {k p:Nat} {l:List W}
  (h:rep A f lo hi lazy k p=some l) (hp:Q p):∀x∈l,I p x:=by
 unfold rep at h;simp only at h;split at h
 ·simp only[Option.some.injEq] at h;subst h;refine pq (I:=fun _ w=>I p w) (P:=fun x=>I p x) ?_ ?_ k (A.still p) 0 ⟨[],[],true⟩ ?_ (by simp)
  ·intro t w m hI hm v hv;exact hA.thn p w v hI (hf _ m hm (hA.stop p w hI) v hv)
  ·exact fun t w _ h2=>h2
  ·exact hA.still p hp
 ·cases h
mutual
theorem zO {W:Type} {A:Alg W} {S:Str} {Q:Nat→Prop} {I:Nat→W→Prop} (hA:Inv A S Q I):
  ∀(t:Nd) (g p:Nat) (l:List W),wy A S t g p=some l→Q p→∀w∈l,I p w
 | .mk k set lo hi lazy subs,g,p,l,h,hp,w,hw=>by
  rw[wy] at h;have h1:=(gI h).2;by_cases k1:k=1
  ·rw[if_pos k1] at h1;cases h1;simp only[List.mem_singleton] at hw;subst hw;exact hA.still p hp
  rw[if_neg k1] at h1;by_cases k2:k=2
  ·rw[if_pos k2] at h1;split at h1
   ·next hc=>
    cases h1;simp only[List.mem_singleton] at hw;subst hw;exact hA.set p hp hc.1
   ·cases h1;simp at hw
  rw[if_neg k2] at h1;by_cases k3:k=3
  ·rw[if_pos k3] at h1;exact yf hA subs g p [A.still p] l h1 (fun w hw=>by simp only[List.mem_singleton] at hw;subst hw;exact hA.still p hp) w hw
  rw[if_neg k3] at h1;by_cases k5:k=5
  ·rw[if_pos k5] at h1;exact Gs hA lo hi lazy subs g p l h1 hp w hw
  rw[if_neg k5] at h1;by_cases k6:k=6
  ·rw[if_pos k6] at h1;cases ha:bI A S subs (g+1) p with
   |none=>rw[ha] at h1;cases h1
   |some m=>
    rw[ha] at h1;simp only[Option.map_some,Option.some.injEq] at h1;subst h1;obtain⟨v,hv,rfl⟩:=List.mem_map.1 hw;exact hA.mark g p v hp (rZ hA subs (g+1) p m ha hp v hv)
  ·rw[if_neg k6] at h1;exact rZ hA subs g p l h1 hp w hw
theorem yf {W:Type} {A:Alg W} {S:Str} {Q:Nat→Prop} {I:Nat→W→Prop} (hA:Inv A S Q I):
  ∀(subs:List Nd) (g p:Nat) (l m:List W),dH A S subs g l=some m→(∀w∈l,I p w)→∀w∈m,I p w
 |[],g,p,l,m,h,hl,w,hw=>by
  rw[dH] at h;cases h;exact hl w hw
 |s::r,g,p,l,m,h,hl,w,hw=>by
  have hs:=zO hA s g;rw[dH] at h;split at h
  ·next n hn=>
   have hn1:∀x∈n,I p x:=by
    intro x hx;obtain⟨u,hu,q,hq,v,hv,rfl⟩:=uP hn x hx;exact hA.thn p u v (hl u hu) (hs _ q hq (hA.stop p u (hl u hu)) v hv)
   exact yf hA r _ p n m h hn1 w hw
  ·cases h
theorem Gs {W:Type} {A:Alg W} {S:Str} {Q:Nat→Prop} {I:Nat→W→Prop} (hA:Inv A S Q I) (lo hi:Int) (lazy:Bool):
  ∀(subs:List Nd) (g p:Nat) (l:List W),iY A S lo hi lazy subs g p=some l→Q p→∀w∈l,I p w
 |[],g,p,l,h,_,w,hw=>by rw[iY] at h;cases h
 |s::r,g,p,l,h,hp,w,hw=>by
  rw[iY] at h;exact Ns hA (fun q m hm hq v hv=>zO hA s g q m hm hq v hv) h hp w hw
theorem rZ {W:Type} {A:Alg W} {S:Str} {Q:Nat→Prop} {I:Nat→W→Prop} (hA:Inv A S Q I):
  ∀(subs:List Nd) (g p:Nat) (m:List W),bI A S subs g p=some m→Q p→∀w∈m,I p w
 |[],g,p,m,h,_,w,hw=>by
  rw[bI] at h;cases h;simp at hw
 |s::r,g,p,m,h,hp,w,hw=>by
  have hs:=zO hA s g p;rw[bI] at h;split at h
  ·next x y hx hy=>
   cases h;rcases List.mem_append.1 hw with hw|hw
   ·exact hs x hx hp w hw
   ·exact rZ hA r _ p y hy hp w hw
  ·cases h
end
theorem JM {α β γ:Type} {f:α→β→γ}:∀{l:List α} {m:List β} {x:γ},x∈List.zipWith f l m→∃a∈l,∃b∈m,x=f a b
 |[],_,x,h=>by simp at h
 |_::_,[],x,h=>by simp at h
 |a::l,b::m,x,h=>by
  rw[List.zipWith_cons_cons] at h;rcases List.mem_cons.1 h with h|h
  ·exact⟨a,List.mem_cons_self,b,List.mem_cons_self,h⟩
  ·obtain⟨a',h1,b',h2,h3⟩:=JM h;exact⟨a',List.mem_cons_of_mem _ h1,b',List.mem_cons_of_mem _ h2,h3⟩
def WIn (Q:Nat→Prop) (G p:Nat) (w:Way):Prop:=Q w.stop∧p≤w.stop∧w.spans.length=G∧∀x∈w.spans,x=(-1,-1)∨∃a b:Nat,x=((a:Int),(b:Int))∧Q a∧Q b∧a≤b∧b≤w.stop
theorem Nu {S:Str} {Q:Nat→Prop} (hQ:∀p,Q p→0<(S.dec p).2→Q (p+(S.dec p).2)) (G:Nat):Inv (ak G) S Q (WIn Q G):=by
 refine⟨fun p w h=>h.1,fun p hp=>⟨hp,Nat.le_refl _,List.length_replicate,fun x hx=> .inl (List.eq_of_mem_replicate hx)⟩,fun p hp h0=>⟨hQ p hp h0,Nat.le_add_right _ _,List.length_replicate,fun x hx=> .inl (List.eq_of_mem_replicate hx)⟩,?_,?_⟩
 ·rintro p w v ⟨h1,h2,h3,h4⟩ ⟨g1,g2,g3,g4⟩;refine⟨g1,Nat.le_trans h2 g2,?_,fun x hx=> ?_⟩
  ·show(List.zipWith _ w.spans v.spans).length=G
   rw[List.length_zipWith,h3,g3,Nat.min_self]
  ·obtain⟨y,hy,z,hz,rfl⟩:=JM (show x∈List.zipWith (fun p q=>if q.1= -1∧q.2= -1 then p else q) w.spans v.spans from hx);split
   ·rcases h4 y hy with e|⟨a,b,e,ha,hb,hab,hbs⟩
    ·exact .inl e
    ·exact .inr ⟨a,b,e,ha,hb,hab,Nat.le_trans hbs g2⟩
   ·exact g4 z hz
 ·rintro g p w hp ⟨h1,h2,h3,h4⟩;refine⟨h1,h2,?_,fun x hx=> ?_⟩
  ·show(w.spans.set g _).length=G
   rw[List.length_set,h3]
  ·rcases List.mem_or_eq_of_mem_set (show x∈w.spans.set g ((p:Int),(w.stop:Int)) from hx) with hx|rfl
   ·exact h4 x hx
   ·exact .inr ⟨p,w.stop,rfl,hp,h1,h2,Nat.le_refl _⟩
end Go.Proofs.Wy
namespace Go.Proofs.YtnhjakdmbfadlaaGreatDoor
open Go.RowKit Wy Mem Grow
variable {cs xs:List Value} {l:List Wy.Way} {G L b base n p q sz:Nat} {X:Nat→Prop} {T e:TypeId} {v:Value} {w w':World} {x:Wy.Way}
def TB (T:TypeId) (w:World) (b:Nat):Prop:=∃cs z,w.heap[b]? =some (.cells cs T z)
theorem TB.lt (h:TB T w b):b<w.heap.size:=by
 obtain⟨cs,z,h⟩:=h;exact(Array.getElem?_eq_some_iff.1 h).1
theorem TB.kept (h:TB T w b) (k:Kept X w w') (hx:¬X b):TB T w' b:=by
 have hl:=h.lt;obtain⟨cs,z,h⟩:=h;exact⟨cs,z,(k.block b hl hx).trans h⟩
theorem dR (h:w.ownsRow base e sz v n xs) (he:e≠T):∀b,TB T w b→¬(v.ownBlock=some b):=by
 rintro b ⟨cs,z,hb⟩ h1;rcases h.2 with⟨rfl,-⟩|⟨a,c,cur,rfl,-,ha,-⟩
 ·simp[Value.ownBlock] at h1
 ·simp only[Value.ownBlock,Option.some.injEq] at h1;subst h1;rw[ha] at hb;simp only[Option.some.injEq,Obj.cells.injEq] at hb;exact he hb.2.1
theorem EK {cs:Array Value} {t:TypeId} (h:Blk w q cs t) (ht:t≠T):∀b,TB T w b→b≠q:=by
 rintro b ⟨cs',z,hb⟩ rfl;unfold Blk at h;rw[h] at hb;simp only[Option.some.injEq,Obj.cells.injEq] at hb;exact ht hb.2.1
theorem Row.iR (h:w.ownsRow base e sz v n cs):Row (TB e w) w v n sz cs:=by
 refine⟨h.1,?_⟩;rcases h.2 with⟨rfl,h0⟩|⟨g,cap,cur,rfl,hb,hg,hnc,hcm,-,-⟩
 ·exact .inl ⟨h0,none,0,rfl⟩
 ·have hlt:=(Array.getElem?_eq_some_iff.1 hg).1;refine .inr ⟨g,0,cap,rfl,hnc,hcm,⟨_,_,hg⟩,hlt,fun j hj=> ?_⟩;rw[Nat.zero_add];exact h.cellAt _ (by rw[←h.1];exact hj)
theorem Row.typ (h:Row (TB T w) w v n sz cs) (k:Kept X w w') (hx:∀b,TB T w b→¬X b):Row (TB T w') w' v n sz cs:=
 Row.go h k fun b _ hb=>⟨hx b hb,hb.kept k (hx b hb)⟩
theorem aC.typ {l:List (Int×Int)} (h:aC (TB T w) w v l) (k:Kept X w w') (hx:∀b,TB T w b→¬X b):aC (TB T w') w' v l:=
 aC.go h k fun b _ hb=>⟨hx b hb,hb.kept k (hx b hb)⟩
theorem aH.typ (h:aH (TB T w) w G L l cs) (k:Kept X w w') (hx:∀b,TB T w b→¬X b):aH (TB T w') w' G L l cs:=
 h.go k fun b _ hb=>⟨hx b hb,hb.kept k (hx b hb)⟩
theorem aH.ed (h:aH (TB T w) w G L l cs) (k:Below w.heap.size w w'):aH (TB T w') w' G L l cs:=
 h.typ (zK k) fun _ _=>id
theorem aC.ed {l:List (Int×Int)} (h:aC (TB T w) w v l) (k:Below w.heap.size w w'):aC (TB T w') w' v l:=
 h.typ (zK k) fun _ _=>id
def lV (T:TypeId) (R:Nat→Prop) (w:World) (G L:Nat) (v:Value) (l:List Wy.Way):Prop:=∃cs,Row R w v l.length 2 cs∧aH (TB T w) w G L l cs
theorem lV.dD {R:Nat→Prop} (h:w.ownsRow base e 2 v l.length cs) (hw:aH (TB T w) w G L l cs) (hR:∀b,base≤b→b<w.heap.size→R b):lV T R w G L v l:=
 ⟨cs,Row.dD h hR,hw⟩
theorem lV.cells {R:Nat→Prop} (h:lV T R w G L v l) (hne:0<l.length):
  ∃b off cap:Nat,v= .slice (some ⟨b,off,none⟩) l.length cap∧l.length≤cap∧cap≤maxLen∧R b∧b<w.heap.size∧∀i (hi:i<l.length),∃sv,w.cell? ⟨b,off+i*2,none⟩=some (.int .i64 l[i].stop)∧w.cell? ⟨b,off+i*2+1,none⟩=some sv∧aC (TB T w) w sv l[i].spans∧l[i].stop≤L∧l[i].spans.length=G:=by
 obtain⟨cs,h1,h2⟩:=h;rcases h1.at_ with⟨h0,_⟩|⟨b,off,cap,rfl,k1,k2,k3,k4,k5⟩
 ·omega
 ·refine⟨b,off,cap,rfl,k1,k2,k3,k4,fun i hi=> ?_⟩;obtain⟨sv,e1,e2,e3⟩:=h2.get i hi;have hl:=h2.length;exact⟨sv,(k5 _ (by omega)).trans e1,by rw[Nat.add_assoc];exact(k5 _ (by omega)).trans e2,e3⟩
def Prp (l:List (Int×Int)):Prop:=∀x∈l,x=(-1,-1)∨0≤x.1∧x.1≤1000000∧0≤x.2∧x.2≤1000000
theorem Prp.Qe {Q:Nat→Prop} (h:WIn Q G p x) (hQ:∀n,Q n→n≤1000000):Prp x.spans:=by
 intro y hy;rcases h.2.2.2 y hy with rfl|⟨a,b,rfl,ha,hb,-⟩
 ·exact .inl rfl
 ·have:=hQ a ha;have:=hQ b hb;exact .inr ⟨by show(0:Int)≤a;omega,by show(a:Int)≤_;omega,by show(0:Int)≤b;omega,by show(b:Int)≤_;omega⟩
end Go.Proofs.YtnhjakdmbfadlaaGreatDoor
namespace Go.Proofs.YtnhjakdmbfadlaaGreatDoor
open Go.RowKit Wy Mem Grow
theorem wB {N:Nat→Prop} {w:World} {b off n cap sz k:Nat} {cs:List Value} (h:Row N w (.slice (some ⟨b,off,none⟩) n cap) n sz cs) (hk:k≤n):Row N w (.slice (some ⟨b,off+k*sz,none⟩) (n-k) (cap-k)) (n-k) sz (cs.drop (k*sz)):=by
 have hl:=h.len;refine⟨by rw[List.length_drop,hl,Nat.sub_mul],?_⟩;by_cases e:n-k=0
 ·exact .inl ⟨e,some ⟨b,off+k*sz,none⟩,cap-k,by rw[e]⟩
 ·rcases h.at_ with⟨h0,-⟩|⟨b',off',cap',e',h1,h2,h3,h4,h5⟩
  ·omega
  ·simp only[Value.slice.injEq,Option.some.injEq,Addr.mk.injEq,and_true,true_and] at e';obtain⟨⟨rfl,rfl⟩,rfl⟩:=e';refine .inr ⟨b,off+k*sz,cap-k,rfl,by omega,by omega,h3,h4,fun j hj=> ?_⟩;rw[List.length_drop] at hj;have:=h5 (k*sz+j) (by omega);rw[List.getElem?_drop,←this,Nat.add_assoc]
theorem aH.JO {N:Nat→Prop} {w:World} {G L:Nat}:∀(k:Nat) {l:List Wy.Way} {cs:List Value},aH N w G L l cs→aH N w G L (l.drop k) (cs.drop (k*2))
 |0,l,cs,h=>by simpa using h
 |k+1,[],cs,h=>by
  rw[aH] at h;subst h;simp[aH]
 |k+1,x::r,cs,h=>by
  obtain⟨v,q,rfl,h2,h3,h4⟩:=h;have e:(k+1)*2=k*2+1+1:=(by omega);rw[e,List.drop_succ_cons,List.drop_succ_cons,List.drop_succ_cons];exact aH.JO k h4
theorem Nv {N:Nat→Prop} {w:World} {v:Value} {n sz:Nat} {cs:List Value} (h:Row N w v n sz cs):Row (fun q=>N q∧v.ownBlock=some q) w v n sz cs:=by
 refine⟨h.len,?_⟩;rcases h.at_ with h0|⟨b,off,cap,rfl,h1,h2,h3,h4,h5⟩
 ·exact .inl h0
 ·exact .inr ⟨b,off,cap,rfl,h1,h2,⟨h3,rfl⟩,h4,h5⟩
theorem aH.ownB {N:Nat→Prop} {w:World} {G L:Nat}:∀{l:List Wy.Way} {cs:List Value},aH N w G L l cs→aH (fun q=>N q∧∃u∈cs,u.ownBlock=some q) w G L l cs
 |[],cs,h=>h
 |x::r,cs,h=>by
  obtain⟨v,q,rfl,h2,h3,h4⟩:=h;refine⟨v,q,rfl,⟨(Nv h2.row).mono (fun b hb=>⟨hb.1,v,by simp,hb.2⟩),h2.ok,h2.small⟩,h3,(aH.ownB h4).mono (fun b hb=>⟨hb.1,?_⟩)⟩;obtain⟨u,hu,he⟩:=hb.2;exact⟨u,by simp[hu],he⟩
theorem aH.nth {N:Nat→Prop} {w:World} {G L:Nat}:∀{l:List Wy.Way} {cs:List Value} (_:aH N w G L l cs) (i:Nat) (hi:i<l.length),∃u,cs[i*2+1]? =some u∧aC N w u l[i].spans∧l[i].spans.length=G
 |[],_,_,i,hi=>absurd hi (by simp)
 |x::r,cs,h,0,_=>by
  obtain⟨v,q,rfl,h2,h3,h4⟩:=h;exact⟨v,rfl,h2,h3.2⟩
 |x::r,cs,h,i+1,hi=>by
  obtain⟨v,q,rfl,h2,h3,h4⟩:=h;obtain⟨u,h5,h6,h7⟩:=aH.nth h4 i (by simpa using hi);refine⟨u,?_,h6,h7⟩;rw[show(i+1)*2+1=(i*2+1)+1+1 by omega];exact h5
structure jI (B1 B2 G L L2:Nat) (lv av:Value) (l:List Wy.Way) (cs cs2:List Value) (w:World):Prop where
 own:w.ownsRow B1 43 2 lv l.length cs
 wys:aH (fun q=>B1≤q∧lv.ownBlock≠some q) w G L l cs
 ap:cs.Pairwise ApV
 sp:SpB B1 w cs
 ref:w.ownsRow B2 79 2 av l.length cs2
 rwy:aH (TB 129 w) w G L2 l cs2
theorem jI.go {B1 B2 G L L2:Nat} {lv av:Value} {l:List Wy.Way} {cs cs2:List Value} {w w':World} (h:jI B1 B2 G L L2 lv av l cs cs2 w) (hb:Below w.heap.size w w'):jI B1 B2 G L L2 lv av l cs cs2 w':=by
 have kp:Kept (fun _=>False) w w':=Kept.of_below hb _;refine⟨aB h.own kp (fun _ _=>id),h.wys.go kp (fun _ _ hq=>⟨id,hq⟩),h.ap,fun u hu q e=> ?_,aB h.ref kp (fun _ _=>id),h.rwy.ed hb⟩;obtain⟨hB,d,hd⟩:=h.sp u hu q e;exact⟨hB,d,hd.kept kp id⟩
def TlX (lv:Value) (cs:List Value) (k:Nat) (q:Nat):Prop:=lv.ownBlock=some q∨∃u∈cs.take k,u.ownBlock=some q
theorem TlX.mono {lv:Value} {cs:List Value} {k k' q:Nat} (h:TlX lv cs k q) (hk:k≤k'):TlX lv cs k' q:=by
 rcases h with h|⟨u,hu,e⟩
 ·exact .inl h
 ·exact .inr ⟨u,(List.take_subset_take_left cs hk) hu,e⟩
structure TlR (B1:Nat) (lv:Value) (n:Nat) (cs:List Value) (Wl:World) (k a:Nat) (w:World):Prop where
 kept:Kept (TlX lv cs k) Wl w
 row:∃cs',w.ownsRow B1 43 2 lv n cs'∧cs'.drop (a*2)=cs.drop (a*2)
variable {B1 B2 G L L2:Nat} {lv av:Value} {l:List Wy.Way} {cs cs2:List Value} {Wl w w':World}
theorem TlR.start (h:jI B1 B2 G L L2 lv av l cs cs2 Wl):TlR B1 lv l.length cs Wl 0 0 Wl:=⟨Kept.refl _ _,cs,h.own,rfl⟩
theorem TlR.mono {k k' a:Nat} {n:Nat} (h:TlR B1 lv n cs Wl k a w) (hk:k≤k'):TlR B1 lv n cs Wl k' a w:=⟨h.kept.mono (fun _ _ e=>e.mono hk),h.row⟩
theorem TlR.below {k a n:Nat} (h:TlR B1 lv n cs Wl k a w) (hb:Below w.heap.size w w'):TlR B1 lv n cs Wl k a w':=by
 obtain⟨cs',h1,h2⟩:=h.row;exact⟨h.kept.trans (Kept.of_below hb _),cs',aB h1 (zK hb) (fun _ _=>id),h2⟩
theorem jI.apart (h:jI B1 B2 G L L2 lv av l cs cs2 Wl) {k q:Nat} (hq:∃u∈cs.drop k,u.ownBlock=some q) (hne:lv.ownBlock≠some q):¬TlX lv cs k q:=by
 rintro(h1|⟨u,hu,e⟩)
 ·exact hne h1
 ·obtain⟨v,hv,e'⟩:=hq;have hp:=h.ap;rw[←List.take_append_drop k cs,List.pairwise_append] at hp;exact hp.2.2 u hu v hv q e e'
theorem jI.left (h:jI B1 B2 G L L2 lv av l cs cs2 Wl) {a:Nat} (hr:TlR B1 lv l.length cs Wl (a*2) a w):aH (fun _=>True) w G L (l.drop a) (cs.drop (a*2)):=
 ((h.wys.JO a).ownB).go hr.kept (fun q _ hq=>⟨h.apart hq.2 hq.1.2,trivial⟩)
theorem jI.SN (h:jI B1 B2 G L L2 lv av l cs cs2 Wl) {a g c:Nat} (hr:TlR B1 lv l.length cs Wl (a*2) a w) (hv:lv= .slice (some ⟨g,0,none⟩) l.length c) (ha:a≤l.length):aI (fun _=>True) w G L (.slice (some ⟨g,a*2,none⟩) (l.length-a) (c-a)) (l.drop a):=by
 obtain⟨cs',h1,h2⟩:=hr.row;subst hv;have h3:=wB (Row.dD (N:=fun _=>True) h1 (fun _ _ _=>trivial)) ha;rw[h2,Nat.zero_add] at h3;exact⟨cs.drop (a*2),by rw[List.length_drop];exact h3,h.left hr⟩
theorem jI.typX (h:jI B1 B2 G L L2 lv av l cs cs2 Wl) {k:Nat}:∀q,TB 129 Wl q→¬TlX lv cs k q:=by
 rintro q hq (h1|⟨u,hu,e⟩)
 ·exact dR h.own (by decide) q hq h1
 ·obtain⟨-,d,hd⟩:=h.sp u (List.mem_of_mem_take hu) q e;exact EK hd (by decide) q hq rfl
theorem jI.Qg (h:jI B1 B2 G L L2 lv av l cs cs2 Wl) {k a:Nat} (hr:TlR B1 lv l.length cs Wl k a w):w.ownsRow B2 79 2 av l.length cs2:=by
 refine aB h.ref hr.kept (fun q hq e=> ?_);rcases e with e|⟨u,hu,e⟩
 ·exact rO h.own h.ref (by decide) e hq
 ·obtain⟨-,d,hd⟩:=h.sp u (List.mem_of_mem_take hu) q e;exact cZ h.ref hd (by decide) hq
theorem jI.SQ (h:jI B1 B2 G L L2 lv av l cs cs2 Wl) {k a b g c:Nat} (hr:TlR B1 lv l.length cs Wl k b w) (hv:av= .slice (some ⟨g,0,none⟩) l.length c) (ha:a≤l.length):aI (fun _=>True) w G L2 (.slice (some ⟨g,a*2,none⟩) (l.length-a) (c-a)) (l.drop a):=by
 have h1:=h.Qg hr;subst hv;have h3:=wB (Row.dD (N:=fun _=>True) h1 (fun _ _ _=>trivial)) ha;rw[Nat.zero_add] at h3;exact⟨cs2.drop (a*2),by rw[List.length_drop];exact h3,(h.rwy.typ hr.kept h.typX).JO a |>.mono (fun _ _=>trivial)⟩
theorem jI.way (h:jI B1 B2 G L L2 lv av l cs cs2 Wl) {a g c:Nat} (hr:TlR B1 lv l.length cs Wl (a*2+2) a w) (hv:lv= .slice (some ⟨g,0,none⟩) l.length c) (ha:a<l.length):
  ∃o so,cs[a*2+1]? =some (.slice o G so)∧w.cell? ⟨g,a*2+1,none⟩=some (.slice o G so)∧G≤64∧(∀i,w.frozen? ⟨g,i,none⟩=false)∧g<w.heap.size∧(∃e0,w.cell? ⟨g,a*2,none⟩=some e0)∧
   (G=0∨∃q off d,o=some ⟨q,off,none⟩∧G≤so∧so≤maxLen∧q≠g∧Blk Wl q d 57∧off+G*2≤d.size):=by
 obtain⟨cs',h1,h2⟩:=hr.row;obtain⟨u,h3,h4,h5⟩:=h.wys.nth a ha;subst hv;have hl:=h.own.1;have hl':=h1.1;have e1:∀j,a*2≤j→cs'[j]? =cs[j]? :=fun j hj=>by
  have:=congrArg (fun x=>x[j-a*2]?) h2;simp only[List.getElem?_drop] at this
  rwa [show a*2+(j-a*2)=j by omega] at this
 obtain⟨o,so,rfl⟩:=h4.row.slice;rw[h5] at h3 h4;refine⟨o,so,h3,by rw[h1.cellAt _ (by omega),e1 _ (by omega),h3],by have:=h4.small;omega,fun i=>h1.frozenAt _,(h1.lt g rfl).2,⟨cs'[a*2]'(by omega),by rw[h1.cellAt _ (by omega)];exact List.getElem?_eq_getElem _⟩,?_⟩;rcases h4.row.at_ with⟨h0,-⟩|⟨q,off,cap,e,k1,k2,k3,k4,k5⟩
 ·exact .inl (by omega)
 ·simp only[Value.slice.injEq,true_and] at e;obtain⟨rfl,e2,rfl⟩:=e;obtain⟨-,d,hd⟩:=h.sp _ (List.mem_of_getElem? h3) q rfl;by_cases hG:G=0
  ·exact .inl hG
  refine .inr ⟨q,off,d,rfl,by omega,k2,fun e=>k3.2 (by rw[e];rfl),hd,?_⟩;have hlen:=h4.row.len;have h6:=k5 (G*2-1) (by omega);rw[hd.cell,List.getElem?_eq_getElem (by omega)] at h6;have:=(Array.getElem?_eq_some_iff.1 h6).1;omega
structure TlI (B1:Nat) (lv:Value) (n:Nat) (cs:List Value) (Wl:World) (a G q D:Nat) (w:World):Prop where
 r:TlR B1 lv n cs Wl (a*2+2) a w
 blk:0<G→∃d,Blk w q d 57∧d.size=D
theorem TlI.put {n a q D i g c:Nat} {so:Nat} {x y:Value} {off G:Nat} (h:TlI B1 lv n cs Wl a G q D w) (hG:0<G) (hv:lv= .slice (some ⟨g,0,none⟩) n c) (hq:q≠g) (hc:cs[a*2+1]? =some (.slice (some ⟨q,off,none⟩) G so)) (j:Nat):TlI B1 lv n cs Wl a G q D ((w.setCell ⟨q,i,none⟩ x).setCell ⟨q,j,none⟩ y):=by
 obtain⟨cs',h1,h2⟩:=h.r.row;obtain⟨d,h3,h4⟩:=h.blk hG;have hX:TlX lv cs (a*2+2) q:= .inr ⟨_,List.mem_of_getElem? (i:=a*2+1) (by rw[List.getElem?_take,if_pos (by omega),hc]),rfl⟩;refine⟨⟨(h.r.kept.setCell (p:=⟨q,i,none⟩) (fun _=>hX) _).setCell (p:=⟨q,j,none⟩) (fun _=>hX) _,cs',?_,h2⟩,fun _=>⟨_,(h3.set i x).set j y,by simp[h4]⟩⟩;subst hv;have hne:(Value.slice (some ⟨g,0,none⟩) n c).ownBlock≠some q:=by simp[Value.ownBlock];omega
 exact ownsRow_setCell_other (ownsRow_setCell_other h1 (a:=⟨q,i,none⟩) hne _) (a:=⟨q,j,none⟩) hne _
theorem TlR.fin {n a g c:Nat} {x:Value} (h:TlR B1 lv n cs Wl (a*2+2) a w) (hv:lv= .slice (some ⟨g,0,none⟩) n c):TlR B1 lv n cs Wl ((a+1)*2) (a+1) (w.setCell ⟨g,a*2,none⟩ x):=by
 obtain⟨cs',h1,h2⟩:=h.row;have e:(a+1)*2=a*2+2:=(by omega);subst hv;refine⟨by rw[e];exact h.kept.setCell (p:=⟨g,a*2,none⟩) (fun _=> .inl rfl) _,cs'.set (a*2) x,(h1.stored (a*2) x).1,?_⟩;rw[List.drop_set,if_pos (by omega),e,←List.drop_drop,h2,List.drop_drop]
end Go.Proofs.YtnhjakdmbfadlaaGreatDoor
