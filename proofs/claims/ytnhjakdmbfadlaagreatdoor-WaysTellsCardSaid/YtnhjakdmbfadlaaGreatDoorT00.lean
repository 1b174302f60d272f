/- Parts of the proof. Conditions: none. -/
import Derived.WalkKit
import Derived.ScopeJumps
import Derived.WalkMore
import Derived.Lib.Hide
import Derived.Laws.AppendOwn
import Derived.Orders
import Derived.Below
set_option linter.all false
set_option maxHeartbeats 8000000
set_option maxRecDepth 100000
namespace Go.Proofs.Mem
open Go Go.RowKit
structure Kept (X:Nat→Prop) (w w':World):Prop where
 os:w'.os=w.os
 tape:w'.tape=w.tape
 output:w'.output=w.output
 size:w.heap.size≤w'.heap.size
 block:∀k,k<w.heap.size→¬X k→w'.heap[k]? =w.heap[k]?
namespace Kept
variable {X Y:Nat→Prop} {a b c:World}
theorem refl (X:Nat→Prop) (w:World):Kept X w w:=⟨rfl,rfl,rfl,Nat.le_refl _,fun _ _ _=>rfl⟩
theorem trans (h:Kept X a b) (k:Kept X b c):Kept X a c:=
 ⟨k.os.trans h.os,k.tape.trans h.tape,k.output.trans h.output,Nat.le_trans h.size k.size,fun i hi hx=>(k.block i (Nat.lt_of_lt_of_le hi h.size) hx).trans (h.block i hi hx)⟩
theorem trans' (h:Kept X a b) (k:Kept Y b c) (hY:∀i,i<a.heap.size→Y i→X i):Kept X a c:=
 ⟨k.os.trans h.os,k.tape.trans h.tape,k.output.trans h.output,Nat.le_trans h.size k.size,
  fun i hi hx=>(k.block i (Nat.lt_of_lt_of_le hi h.size) (fun hy=>hx (hY i hi hy))).trans (h.block i hi hx)⟩
theorem mono (h:Kept X a b) (hX:∀i,i<a.heap.size→X i→Y i):Kept Y a b:=
 ⟨h.os,h.tape,h.output,h.size,fun i hi hy=>h.block i hi (fun hx=>hy (hX i hi hx))⟩
theorem of_below (h:Below a.heap.size a b) (X:Nat→Prop):Kept X a b:=⟨h.os,h.tape,h.output,h.size,fun i hi _=>h.block i hi⟩
theorem below (h:Kept X a b) (hX:∀i,i<a.heap.size→¬X i):Below a.heap.size a b:=⟨h.os,h.tape,h.output,h.size,fun i hi=>h.block i hi (hX i hi)⟩
theorem gK {B:Nat} (h:Kept X a b) (hB:B≤a.heap.size) (hX:∀i,i<B→¬X i):Below B a b:=⟨h.os,h.tape,h.output,h.size,fun i hi=>h.block i (Nat.lt_of_lt_of_le hi hB) (hX i hi)⟩
theorem drew (h:Kept X a b):Kept X a b.drew:=⟨h.os,h.tape,h.output,h.size,h.block⟩
theorem alloc (h:Kept X a b) (o:Obj):Kept X a (b.alloc o):=
 h.trans ⟨rfl,rfl,rfl,by simp,fun k hk _=>Below.heap_alloc _ _ _ hk⟩
theorem setCell (h:Kept X a b) {p:Addr} (hp:p.block<a.heap.size→X p.block) (u:Value):Kept X a (b.setCell p u):=
 ⟨h.os,h.tape,h.output,by simp[World.setCell];exact h.size,fun k hk hx=>by
  rw[Below.heap_setCell _ _ _ _ (fun e=>hx (by subst e;exact hp hk))];exact h.block k hk hx⟩
theorem lt (h:Kept X a b) {k:Nat} (hk:k<a.heap.size):k<b.heap.size:=Nat.lt_of_lt_of_le hk h.size
end Kept
def Blk (w:World) (b:Nat) (cs:Array Value) (t:TypeId):Prop:=w.heap[b]? =some (.cells cs t (0,0))
theorem Blk.lt {w:World} {b:Nat} {cs:Array Value} {t:TypeId} (h:Blk w b cs t):b<w.heap.size:=(Array.getElem?_eq_some_iff.1 h).1
theorem Blk.cell {w:World} {b:Nat} {cs:Array Value} {t:TypeId} (h:Blk w b cs t) (i:Nat):w.cell? ⟨b,i,none⟩=cs[i]? :=by
 unfold Blk at h;simp[World.cell?,h]
theorem Blk.frozen {w:World} {b:Nat} {cs:Array Value} {t:TypeId} (h:Blk w b cs t) (i:Nat):w.frozen? ⟨b,i,none⟩=false:=by
 unfold Blk at h;simp[World.frozen?,h]
theorem Blk.kept {w w':World} {X:Nat→Prop} {b:Nat} {cs:Array Value} {t:TypeId} (h:Blk w b cs t) (k:Kept X w w') (hb:¬X b):Blk w' b cs t:=by
 have:=k.block b h.lt hb;unfold Blk at*;rw[this,h]
theorem Blk.below {w w':World} {B:Nat} {b:Nat} {cs:Array Value} {t:TypeId} (h:Blk w b cs t) (k:Below B w w') (hb:b<B):Blk w' b cs t:=by
 have:=k.block b hb;unfold Blk at*;rw[this,h]
theorem Blk.drew {w:World} {b:Nat} {cs:Array Value} {t:TypeId} (h:Blk w b cs t):Blk w.drew b cs t:=h
theorem Blk.alloc {w:World} {b:Nat} {cs:Array Value} {t:TypeId} (h:Blk w b cs t) (o:Obj):Blk (w.alloc o) b cs t:=by
 unfold Blk;rw[Below.heap_alloc _ _ _ h.lt];exact h
theorem Blk.new (w:World) (cs:Array Value) (t:TypeId):Blk (w.alloc (.cells cs t)) w.heap.size cs t:=by
 show(w.heap.push _)[w.heap.size]? =_
 simp
theorem Blk.setOther {w:World} {b:Nat} {cs:Array Value} {t:TypeId} (h:Blk w b cs t) {p:Addr} (hp:b≠p.block) (u:Value):Blk (w.setCell p u) b cs t:=by
 unfold Blk;rw[Below.heap_setCell _ _ _ _ hp];exact h
theorem Blk.set {w:World} {b:Nat} {cs:Array Value} {t:TypeId} (h:Blk w b cs t) (i:Nat) (u:Value):Blk (w.setCell ⟨b,i,none⟩ u) b (cs.setIfInBounds i u) t:=by
 unfold Blk at*;simp[World.setCell,Array.getElem?_modify,h]
theorem Blk.one {w:World} {b:Nat} {v0:Value} {t:TypeId} (h:Blk w b #[v0] t):w.cell? ⟨b,0,none⟩=some v0∧w.frozen? ⟨b,0,none⟩=false:=⟨by rw[h.cell];rfl,h.frozen 0⟩
theorem Blk.two {w:World} {b:Nat} {v0 v1:Value} {t:TypeId} (h:Blk w b #[v0,v1] t):
  w.cell? ⟨b,0,none⟩=some v0∧w.cell? ⟨b,1,none⟩=some v1∧w.frozen? ⟨b,0,none⟩=false∧w.frozen? ⟨b,1,none⟩=false:=
 ⟨by rw[h.cell];rfl,by rw[h.cell];rfl,h.frozen 0,h.frozen 1⟩
theorem Blk.five {w:World} {b:Nat} {v0 v1 v2 v3 v4:Value} {t:TypeId} (h:Blk w b #[v0,v1,v2,v3,v4] t):
  w.cell? ⟨b,0,none⟩=some v0∧w.cell? ⟨b,1,none⟩=some v1∧w.cell? ⟨b,2,none⟩=some v2∧w.cell? ⟨b,3,none⟩=some v3∧w.cell? ⟨b,4,none⟩=some v4∧
  w.frozen? ⟨b,0,none⟩=false∧w.frozen? ⟨b,1,none⟩=false∧w.frozen? ⟨b,2,none⟩=false∧w.frozen? ⟨b,3,none⟩=false∧w.frozen? ⟨b,4,none⟩=false:=
 ⟨by rw[h.cell];rfl,by rw[h.cell];rfl,by rw[h.cell];rfl,by rw[h.cell];rfl,by rw[h.cell];rfl,h.frozen 0,h.frozen 1,h.frozen 2,h.frozen 3,h.frozen 4⟩
theorem Blk.new' {w:World} {b:Nat} (cs:Array Value) (t:TypeId) (hb:b=w.heap.size):Blk (w.alloc (.cells cs t)) b cs t:=by subst hb;exact Blk.new _ _ _
end Go.Proofs.Mem
namespace Go.Proofs.Wy
structure Rg where
 lo:Int
 hi:Int
inductive Nd where
 |mk (kind:Int) (set:List Rg) (lo hi:Int) (lazy:Bool) (subs:List Nd)
namespace Nd
def kind:Nd→Int|mk k _ _ _ _ _=>k
def set:Nd→List Rg|mk _ s _ _ _ _=>s
def lo:Nd→Int|mk _ _ m _ _ _=>m
def hi:Nd→Int|mk _ _ _ m _ _=>m
def lazy:Nd→Bool|mk _ _ _ _ l _=>l
def subs:Nd→List Nd|mk _ _ _ _ _ u=>u
end Nd
def point (c:Int):Bool:=(decide (0≤c) && decide (c≤55295)) || (decide (57344≤c) && decide (c≤1114111))
def oW (r:Rg):Bool:=point r.lo && point r.hi && !decide (r.hi<r.lo) && !(decide (r.lo≤55295) && decide (55295<r.hi))
def fJ:List Rg→Bool
 |[]=>true
 |[r]=>oW r
 |r::q::l=>oW r && !decide (q.lo≤r.hi+1) && fJ (q::l)
def iG (l:List Rg) (c:Int):Bool:=l.any fun r=>decide (r.lo≤c) && decide (c≤r.hi)
structure Facts where
 depth:Int
 groups:Int
 ah:Bool
 shaped:Bool
 bC:Bool
def bT:Nd→Bool
 | .mk k set lo hi lazy subs=>
  if k=5 then decide (0≤lo) && decide (lo≤1000) && (decide (hi= -1) || (decide (lo≤hi) && decide (hi≤1000))) && decide (set=[]) && decide (subs.length=1)
  else decide (lo=0) && decide (hi=0) && !lazy &&
   (if k=1 then decide (set=[]) && decide (subs=[])
    else if k=2 then fJ set && decide (subs=[])
    else if k=3∨k=4 then decide (set=[]) && decide (1<subs.length)
    else if k=6 then decide (set=[]) && decide (subs.length=1)
    else false)
mutual
def look:Nd→Facts
 | .mk k set lo hi lazy subs=>
  let f:=dw k ⟨0,0,decide (k=1) || decide (k=3),bT (.mk k set lo hi lazy subs),true⟩ subs
  ⟨f.depth+1,if k=6 then f.groups+1 else f.groups,if k=5 then f.ah || decide (lo=0) else f.ah,f.shaped,
   if k=5 then f.bC && !(f.ah && (decide (hi= -1) || decide (1<hi))) else f.bC⟩
def dw (k:Int) (f:Facts):List Nd→Facts
 |[]=>f
 |s::r=>let g:=look s
  dw k ⟨max f.depth g.depth,f.groups+g.groups,if k=3 then f.ah && g.ah else f.ah || g.ah,f.shaped && g.shaped,f.bC && g.bC⟩ r
end
def mM (f:Facts):Bool:=f.shaped && f.bC && decide (f.groups≤30) && decide (f.depth≤40)
def right (t:Nd):Bool:=mM (look t)
mutual
def opened:Nd→Nat
 | .mk k _ _ _ _ subs=>(if k=6 then 1 else 0)+aj subs
def aj:List Nd→Nat
 |[]=>0
 |s::r=>opened s+aj r
end
structure Alg (W:Type) where
 stop:W→Nat
 thn:W→W→W
 still:Nat→W
 mark:Nat→Nat→W→W
def allOf {α β:Type} (f:α→Option (List β)):List α→Option (List β)
 |[]=>some []
 |a::l=>match f a,allOf f l with
  |some x,some y=>some (x++y)
  |_,_=>none
def most {α:Type}:Option (List α)→Option (List α)
 |some l=>if l.length≤500 then some l else none
 |none=>none
def jh {W:Type} (A:Alg W) (f:Nat→Option (List W)) (l:List W):Option (List W):=
 most (allOf (fun w=>(f (A.stop w)).map fun m=>m.map (A.thn w)) l)
structure Fs (W:Type) where
 out:List W
 counts:List Nat
 ok:Bool
def bump (c:List Nat) (t:Nat):List Nat:=(if c.length=t then c++[0] else c).modify t (· +1)
def dA {W:Type} (g:W→Fs W→Fs W):List W→Fs W→Fs W×Bool
 |[],σ=>(σ,false)
 |v::r,σ=>if !σ.ok || decide (500<σ.out.length) then(σ,true) else dA g r (g v σ)
def dS {W:Type} (b:Bool) (w:W) (σ:Fs W):Fs W:=if b then {σ with out:=σ.out++[w]} else σ
def follow {W:Type} (A:Alg W) (f:Nat→Option (List W)) (lo hi:Int) (lazy:Bool):Nat→W→Nat→Fs W→Fs W
 |0,_,_,σ=>{σ with ok:=false}
 |k+1,w,t,σ=>
  let c:=bump σ.counts t
  let ok:=σ.ok && decide (c.getD t 0≤500)
  let σ1:Fs W:=dS (decide (lo≤t) && lazy) w ⟨σ.out,c,ok⟩
  if ok && (decide (hi= -1) || decide ((t:Int)<hi)) then
   match f (A.stop w) with
   |none=>dS (decide (lo≤t) && !lazy) w {σ1 with ok:=false}
   |some more=>
    let q:=dA (fun v σ=>follow A f lo hi lazy k (A.thn w v) (t+1) σ) more σ1
    if q.2 then q.1 else dS (decide (lo≤t) && !lazy) w q.1
  else dS (decide (lo≤t) && !lazy) w σ1
def rep {W:Type} (A:Alg W) (f:Nat→Option (List W)) (lo hi:Int) (lazy:Bool) (fuel place:Nat):Option (List W):=
 let σ:=follow A f lo hi lazy fuel (A.still place) 0 ⟨[],[],true⟩
 if σ.ok && decide (σ.out.length≤500) then some σ.out else none
structure Str where
 len:Nat
 dec:Nat→Int×Nat
mutual
def wy {W:Type} (A:Alg W) (S:Str):Nd→Nat→Nat→Option (List W)
 | .mk k set lo hi lazy subs,g,p=>most (
  if k=1 then some [A.still p]
  else if k=2 then(if 0<(S.dec p).2∧iG set (S.dec p).1=true then some [A.still (p+(S.dec p).2)] else some [])
  else if k=3 then dH A S subs g [A.still p]
  else if k=5 then iY A S lo hi lazy subs g p
  else if k=6 then(bI A S subs (g+1) p).map fun l=>l.map (A.mark g p)
  else bI A S subs g p)
def dH {W:Type} (A:Alg W) (S:Str):List Nd→Nat→List W→Option (List W)
 |[],_,l=>some l
 |s::r,g,l=>match jh A (fun q=>wy A S s g q) l with
  |some m=>dH A S r (g+opened s) m
  |none=>none
def iY {W:Type} (A:Alg W) (S:Str) (lo hi:Int) (lazy:Bool):List Nd→Nat→Nat→Option (List W)
 |[],_,_=>none
 |s::_,g,p=>rep A (fun q=>wy A S s g q) lo hi lazy 36 p
def bI {W:Type} (A:Alg W) (S:Str):List Nd→Nat→Nat→Option (List W)
 |[],_,_=>some []
 |s::r,g,p=>match wy A S s g p,bI A S r (g+opened s) p with
  |some x,some y=>some (x++y)
  |_,_=>none
end
structure Way where
 stop:Nat
 spans:List (Int×Int)
def ak (G:Nat):Alg Way where
 stop:=Way.stop
 thn w v:=⟨v.stop,List.zipWith (fun p q=>if q.1= -1∧q.2= -1 then p else q) w.spans v.spans⟩
 still p:=⟨p,List.replicate G (-1,-1)⟩
 mark g p w:=⟨w.stop,w.spans.set g (p,w.stop)⟩
def qZ:Alg Nat where
 stop n:=n
 thn _ v:=v
 still p:=p
 mark _ _ w:=w
def ends (S:Str) (t:Nd) (p:Nat):Option (List Nat):=wy qZ S t 0 p
def ways (S:Str) (t:Nd):Option (List Way):=wy (ak (opened t)) S t 0 0
variable {k:Int} {d d' g g':Nat} {t:Nd}
theorem qp (k:Int):∀(l:List Nd) (f:Facts),(dw k f l).shaped=(f.shaped && l.all fun s=>(look s).shaped)
 |[],f=>by simp[dw]
 |s::r,f=>by rw[dw,qp k r];simp[Bool.and_assoc]
theorem uI (k:Int):∀(l:List Nd) (f:Facts),(dw k f l).bC=(f.bC && l.all fun s=>(look s).bC)
 |[],f=>by simp[dw]
 |s::r,f=>by rw[dw,uI k r];simp[Bool.and_assoc]
theorem qw (k:Int):∀(l:List Nd) (f:Facts),(dw k f l).groups=f.groups+(l.map fun s=>(look s).groups).sum
 |[],f=>by simp[dw]
 |s::r,f=>by rw[dw,qw k r];simp;omega
theorem sQ (k:Int) (n:Int):∀(l:List Nd) (f:Facts),f.depth≤n→(∀s∈l,(look s).depth≤n)→(dw k f l).depth≤n
 |[],f,h,_=>by simpa [dw] using h
 |s::r,f,h,hl=>by
  rw[dw];exact sQ k n r _ (by have:=hl s (by simp);simp only;omega) (fun t ht=>hl t (List.mem_cons_of_mem _ ht))
theorem jy (k:Int):∀(l:List Nd) (f:Facts),(dw k f l).ah=if k=3 then(f.ah && l.all fun s=>(look s).ah) else(f.ah || l.any fun s=>(look s).ah)
 |[],f=>by simp[dw]
 |s::r,f=>by
  rw[dw,jy k r];by_cases h:k=3<;>simp[h,Bool.and_assoc,Bool.or_assoc]
theorem dM (k:Int) (set:List Rg) (lo hi:Int) (lazy:Bool) (subs:List Nd):
  (look (.mk k set lo hi lazy subs)).shaped=(bT (.mk k set lo hi lazy subs) && subs.all fun s=>(look s).shaped):=by
 rw[look];simp only[qp]
theorem Ak (k:Int) (set:List Rg) (lo hi:Int) (lazy:Bool) (subs:List Nd):
  (look (.mk k set lo hi lazy subs)).groups=(subs.map fun s=>(look s).groups).sum+if k=6 then 1 else 0:=by
 rw[look];simp only[qw];split<;>omega
theorem lD (k:Int) (set:List Rg) (lo hi:Int) (lazy:Bool) (subs:List Nd) (n:Int) (h0:0≤n) (h:∀s∈subs,(look s).depth≤n):
  (look (.mk k set lo hi lazy subs)).depth≤n+1:=by
 rw[look];have:=sQ k n subs ⟨0,0,decide (k=1) || decide (k=3),bT (.mk k set lo hi lazy subs),true⟩ h0 h;simp only;omega
theorem kF (k:Int) (set:List Rg) (lo hi:Int) (lazy:Bool) (subs:List Nd):
  (look (.mk k set lo hi lazy subs)).ah=if k=1 then true else if k=3 then subs.all fun s=>(look s).ah else if k=5 then(subs.any fun s=>(look s).ah) || decide (lo=0) else subs.any fun s=>(look s).ah:=by
 rw[look];simp only[jy];by_cases h1:k=1
 ·subst h1;simp
 by_cases h3:k=3
 ·subst h3;simp
 by_cases h5:k=5
 ·subst h5;simp
 simp[h1,h3,h5]
theorem iI (k:Int) (set:List Rg) (lo hi:Int) (lazy:Bool) (subs:List Nd):
  (look (.mk k set lo hi lazy subs)).bC=((subs.all fun s=>(look s).bC) && (!decide (k=5) || !((subs.any fun s=>(look s).ah) && (decide (hi= -1) || decide (1<hi))))):=by
 rw[look];simp only[jy,uI];by_cases h5:k=5
 ·subst h5;simp
 ·simp[h5]
mutual
theorem jS:∀t:Nd,(look t).groups=opened t
 | .mk k set lo hi lazy subs=>by
  rw[Ak,opened,uJ subs];by_cases h:k=6
  ·simp[h];omega
  ·simp[h]
theorem uJ:∀l:List Nd,(l.map fun s=>(look s).groups).sum=aj l
 |[]=>by simp[aj]
 |s::r=>by
  rw[List.map_cons,List.sum_cons,jS s,uJ r,aj];omega
end
structure Good (t:Nd) (d g:Nat):Prop where
 shaped:(look t).shaped=true
 bC:(look t).bC=true
 depth:(look t).depth≤d
 groups:opened t≤g
theorem Good.right (h:Good t d g) (hd:d≤40) (hg:g≤30):right t=true:=by
 have h1:=h.depth;have h2:=h.groups;have h3:=jS t;simp only[Wy.right,mM,h.shaped,h.bC,Bool.true_and,Bool.and_eq_true,decide_eq_true_eq];omega
theorem Good.mono (h:Good t d g) (hd:d≤d') (hg:g≤g'):Good t d' g':=
 ⟨h.shaped,h.bC,by have:=h.depth;omega,by have:=h.groups;omega⟩
theorem uK:Good (.mk 1 [] 0 0 false []) 1 0:=⟨by decide,by decide,by decide,by decide⟩
theorem Ho {l:List Rg} (h:fJ l=true):Good (.mk 2 l 0 0 false []) 1 0:=by
 refine⟨?_,?_,?_,?_⟩
 ·rw[dM];simp[bT,h]
 ·rw[iI];simp
 ·exact lD 2 l 0 0 false [] 0 (by omega) (by simp)
 ·simp[opened,aj]
theorem xw (hk:k=3∨k=4) {l:List Nd} (hl:1<l.length) {d g:Nat} (h:∀s∈l,∃g,Good s d g) (hg:aj l≤g):Good (.mk k [] 0 0 false l) (d+1) g:=by
 refine⟨?_,?_,?_,?_⟩
 ·rw[dM];have:(l.all fun s=>(look s).shaped)=true:=by
   rw[List.all_eq_true];intro s hs;obtain⟨_,hs⟩:=h s hs;exact hs.shaped
  rw[this];rcases hk with rfl|rfl<;>simp[bT,hl]
 ·rw[iI];have:(l.all fun s=>(look s).bC)=true:=by
   rw[List.all_eq_true];intro s hs;obtain⟨_,hs⟩:=h s hs;exact hs.bC
  rw[this];rcases hk with rfl|rfl<;>simp
 ·have:=lD k [] 0 0 false l d (by omega) (fun s hs=>by obtain⟨_,hs⟩:=h s hs;exact hs.depth);omega
 ·rw[opened];rcases hk with rfl|rfl<;>simpa using hg
theorem Cj (h:Good t d g):Good (.mk 6 [] 0 0 false [t]) (d+1) (g+1):=by
 refine⟨?_,?_,?_,?_⟩
 ·rw[dM];simp[bT,h.shaped]
 ·rw[iI];simp[h.bC]
 ·have:=lD 6 [] 0 0 false [t] d (by omega) (by simpa using h.depth);omega
 ·have:=h.groups;simp[opened,aj];omega
theorem Hq (h:Good t d g) {lo hi:Int} (lazy:Bool) (h0:0≤lo) (h1:lo≤1000) (h2:hi= -1∨lo≤hi∧hi≤1000) (hn:(look t).ah=true→0≤hi∧hi≤1):Good (.mk 5 [] lo hi lazy [t]) (d+1) g:=by
 refine⟨?_,?_,?_,?_⟩
 ·rw[dM];simp only[bT,List.all_cons,List.all_nil,h.shaped];simp[h0,h1,h2]
 ·rw[iI];simp only[List.all_cons,List.all_nil,h.bC,List.any_cons,List.any_nil];cases hz:(look t).ah with
  |false=>simp
  |true=>
   have:=hn hz;simp;omega
 ·have:=lD 5 [] lo hi lazy [t] d (by omega) (by simpa using h.depth);omega
 ·have:=h.groups;simp[opened,aj];omega
variable {n:Nat}
structure Sm where
 kind:Nat
 a:Nat
 b:Nat
def signs:List Int:=[42,46,124,92,45,93]
def oO (a b:Nat):List Rg:=
 if a%8=0 then[⟨0,55295⟩,⟨57344,1114111⟩]
 else if a%8=1 then[⟨97,99⟩]
 else if a%8=2 then[⟨48,57⟩,⟨97,98⟩]
 else if a%8=3 then[⟨8364,8364⟩]
 else if a%8=4 then[⟨signs.getD (b%6) 0,signs.getD (b%6) 0⟩]
 else[⟨97+(b%4:Nat),97+(b%4:Nat)⟩]
def oP (a b:Nat):Nd:= .mk 2 (oO a b) 0 0 false []
def bU:Nd:= .mk 1 [] 0 0 false []
def sS (t:Nd) (x:Sm):Int:=if(look t).ah then((x.a%4:Nat):Int)%2 else(x.a%4:Nat)
def uM (t:Nd) (x:Sm):Int:=if(look t).ah then 1 else if x.b%5=0 then -1 else(x.a%4:Nat)+(x.b/2%3:Nat)
def tY (t:Nd) (x:Sm):Nd:= .mk 5 [] (sS t x) (uM t x) (decide (x.b%2=1)) [t]
def stepT (l:List Nd) (x:Sm):List Nd:=
 if x.kind%10=0 then l++[bU]
 else if x.kind%10<5∨l=[] then l++[oP x.a x.b]
 else if x.kind%10=5 then l.dropLast++[.mk 6 [] 0 0 false [l.getLastD bU]]
 else if x.kind%10<8∨l.length<2 then l.dropLast++[tY (l.getLastD bU) x]
 else l.take (l.length-2-x.a%2)++[.mk (3+(x.kind%10%2:Nat)) [] 0 0 false (l.drop (l.length-2-x.a%2))]
def Hr:List Nd→Nd
 |[]=>bU
 |[t]=>t
 |l=> .mk 3 [] 0 0 false l
def sU (L:List Sm):Nd:=Hr ((L.take 20).foldl stepT [])
theorem aV:∀a b:List Nd,aj (a++b)=aj a+aj b
 |[],b=>by simp[aj]
 |s::r,b=>by rw[List.cons_append,aj,aj,aV r b];omega
theorem dO (t:Nd):aj [t]=opened t:=by simp[aj]
structure jA (n:Nat) (l:List Nd):Prop where
 good:∀s∈l,∃g,Good s n g
 groups:aj l≤n
 len:l.length≤n
theorem Ht (a b:Nat):fJ (oO a b)=true:=by
 have h4:∀i,i<4→fJ [⟨97+(i:Nat),97+(i:Nat)⟩]=true:=by decide
 have h6:∀i,i<6→fJ [⟨signs.getD i 0,signs.getD i 0⟩]=true:=by decide
 unfold oO;split;· decide
 split;· decide
 split;· decide
 split;· decide
 split
 ·exact h6 _ (Nat.mod_lt _ (by omega))
 ·exact h4 _ (Nat.mod_lt _ (by omega))
theorem jB {l:List Nd} (h:l≠[]):l=l.dropLast++[l.getLastD bU]:=by
 rw[List.getLastD_eq_getLast?,List.getLast?_eq_some_getLast h,Option.getD_some];exact(List.dropLast_concat_getLast h).symm
theorem jA.last {l:List Nd} (h:jA n l) (hne:l≠[]) {t:Nd} (ht:∃g,Good t (n+1) g) (ho:opened t≤opened (l.getLastD bU)+1):jA (n+1) (l.dropLast++[t]):=by
 have hs:=jB hne;have hg:=h.groups;have hl:=h.len;rw[hs,aV,dO] at hg;refine⟨?_,?_,?_⟩
 ·intro s hs';rcases List.mem_append.1 hs' with hs'|hs'
  ·obtain⟨g,hg⟩:=h.good s (List.dropLast_subset l hs');exact⟨g,hg.mono (by omega) (Nat.le_refl _)⟩
  ·rw[List.mem_singleton] at hs';subst hs';exact ht
 ·rw[aV,dO];omega
 ·simp;omega
theorem jA.push {l:List Nd} (h:jA n l) {t:Nd} (ht:Good t 1 0):jA (n+1) (l++[t]):=by
 have hg:=h.groups;have hl:=h.len;have h0:=ht.groups;refine⟨?_,?_,?_⟩
 ·intro s hs';rcases List.mem_append.1 hs' with hs'|hs'
  ·obtain⟨g,hg⟩:=h.good s hs';exact⟨g,hg.mono (by omega) (Nat.le_refl _)⟩
  ·rw[List.mem_singleton] at hs';subst hs';exact⟨0,ht.mono (by omega) (Nat.le_refl _)⟩
 ·rw[aV,dO];omega
 ·simp;omega
theorem jA.step {l:List Nd} (h:jA n l) (x:Sm):jA (n+1) (stepT l x):=by
 unfold stepT;split
 ·exact h.push uK
 split
 ·exact h.push (Ho (Ht _ _))
 next hc=>
 have hne:l≠[]:=fun e=>hc (.inr e)
 obtain⟨g,hg⟩:=h.good (l.getLastD bU) (by
  have:=jB hne;rw[this];simp)
 split
 ·exact h.last hne ⟨_,Cj hg⟩ (by simp[opened,aj];omega)
 split
 ·refine h.last hne ⟨_,Hq hg _ ?_ ?_ ?_ ?_⟩ (by simp[tY,opened,aj])
  ·unfold sS;split<;>omega
  ·unfold sS;split<;>omega
  ·unfold sS uM;split
   ·right;omega
   ·split
    ·left;rfl
    ·right;omega
  ·intro hn;unfold uM;rw[if_pos hn];omega
 ·next hk=>
  have hsp:l.take (l.length-2-x.a%2)++l.drop (l.length-2-x.a%2)=l:=List.take_append_drop _ _;have hgr:=h.groups;have hlen:=h.len;rw[←hsp,aV] at hgr;have hk2:(3+((x.kind%10%2:Nat):Int))=3∨(3+((x.kind%10%2:Nat):Int))=4:=(by omega);have hgm:=xw hk2 (l:=l.drop (l.length-2-x.a%2)) (by rw[List.length_drop];omega) (d:=n) (g:=aj (l.drop (l.length-2-x.a%2))) (fun s hs=>h.good s (List.mem_of_mem_drop hs)) (Nat.le_refl _);have hon:=hgm.groups;refine⟨?_,?_,?_⟩
  ·intro s hs';rcases List.mem_append.1 hs' with hs'|hs'
   ·obtain⟨g,hg⟩:=h.good s (List.mem_of_mem_take hs');exact⟨g,hg.mono (by omega) (Nat.le_refl _)⟩
   ·rw[List.mem_singleton] at hs';subst hs';exact⟨_,hgm⟩
  ·rw[aV,dO];omega
  ·simp only[List.length_append,List.length_take,List.length_cons,List.length_nil];omega
theorem jA.fold:∀(L:List Sm) (n:Nat) (l:List Nd),jA n l→jA (n+L.length) (L.foldl stepT l)
 |[],n,l,h=>h
 |x::L,n,l,h=>by
  have:=jA.fold L (n+1) (stepT l x) (h.step x);rw[List.foldl_cons,List.length_cons]
  rwa [show n+(L.length+1)=n+1+L.length by omega]
theorem Am:jA 0 []:=⟨by simp,by simp[aj],by simp⟩
theorem Hu {l:List Nd} (h:jA n l):Good (Hr l) (n+1) n:=by
 match l,h with
 |[],h=>exact uK.mono (by omega) (by omega)
 |[t],h=>
  obtain⟨g,hg⟩:=h.good t (by simp);have:=h.groups;rw[dO] at this;exact⟨hg.shaped,hg.bC,by have:=hg.depth;show(look t).depth≤_;omega,this⟩
 |a::b::r,h=>exact xw (.inl rfl) (by simp) h.good h.groups
theorem E5 (L:List Sm) {n:Nat} (hn:(L.take 20).length≤n):Good (sU L) (n+1) n:=by
 have:=jA.fold (L.take 20) 0 [] Am;exact(Hu this).mono (by omega) (by omega)
end Go.Proofs.Wy
namespace Go.Proofs
variable {a:Act} {B b i n:Nat} {e:TypeId} {v:Value} {w w':World}
theorem zA {α:Type _} (l : List α) (i : Nat) (a : α) : l.toArray.setIfInBounds i a = (l.set i a).toArray := List.setIfInBounds_toArray l i a
theorem zB {α:Type _} {x:α} {xs:List α} {a:α} : (x :: xs).set 0 a = a :: xs := rfl
theorem zC {α:Type _} {x:α} {xs:List α} {a:α} : (x :: xs).set (i + 1) a = x :: xs.set i a := rfl
theorem zh {p:Prop} (h : p) : Go.RowKit.Hid p := Lib.hid h
theorem zS {cs:Array Value} {t:TypeId} (h : Mem.Blk w b cs t) : w.cell? ⟨b, 0, none⟩ = cs[0]? ∧ w.cell? ⟨b, 1, none⟩ = cs[1]? ∧ w.cell? ⟨b, 2, none⟩ = cs[2]? ∧ w.cell? ⟨b, 3, none⟩ = cs[3]? ∧ w.cell? ⟨b, 4, none⟩ = cs[4]? ∧ w.cell? ⟨b, 5, none⟩ = cs[5]? ∧ b < w.heap.size :=
  ⟨h.cell 0, h.cell 1, h.cell 2, h.cell 3, h.cell 4, h.cell 5, h.lt⟩
theorem zR : RowKit.Below B w w := RowKit.Below.refl B w
theorem zL : n ≤ n := Nat.le_refl n
theorem zI {α:Type _} {a b:α} (h : some a = some b) : a = b := Option.some.inj h
theorem zK {a b:World} (h : RowKit.Below a.heap.size a b) : Mem.Kept (fun _ => False) a b := Mem.Kept.of_below h _
theorem zW {a:Addr} (h : w'.heap[a.block]? = w.heap[a.block]?) : w'.cell? a = w.cell? a := World.cell?_of_block h
theorem zN : w.ownsRow B e n (.slice none 0 0) 0 [] := World.ownsRow_nil w B e n
theorem zP {l:List Value} {d:List Deferred} : Act.put ⟨l.toArray, d⟩ (some i) v = ⟨(l.set i v).toArray, d⟩ := by simp [Act.put]
theorem zQ : Act.put a none v = a := rfl
end Go.Proofs
namespace Go.Proofs.Wy
open Go Go.RowKit Go.Proofs.Mem
variable {cs:List Value} {base n sz:Nat} {M N X:Nat→Prop} {t:Nd} {e:TypeId} {v:Value} {w w':World}
def I64 (x:Int):Prop:= -9223372036854775808≤x∧x≤9223372036854775807
structure Row (N:Nat→Prop) (w:World) (v:Value) (n sz:Nat) (cs:List Value):Prop where
 len:cs.length=n*sz
 at_:(n=0∧∃o c,v= .slice o 0 c)∨∃b off cap:Nat,v= .slice (some ⟨b,off,none⟩) n cap∧n≤cap∧cap≤maxLen∧N b∧b<w.heap.size∧∀j,j<cs.length→w.cell? ⟨b,off+j,none⟩=cs[j]?
theorem Row.kept (h:Row N w v n sz cs) (k:Kept X w w') (hd:∀b,b<w.heap.size→N b→¬X b):Row N w' v n sz cs:=by
 refine⟨h.len,?_⟩;rcases h.at_ with h0|⟨b,off,cap,rfl,h1,h2,h3,h4,h5⟩
 ·exact .inl h0
 ·refine .inr ⟨b,off,cap,rfl,h1,h2,h3,k.lt h4,fun j hj=> ?_⟩;rw[←h5 j hj];exact zW (k.block b h4 (hd b h4 h3))
theorem Row.mono (h:Row N w v n sz cs) (hm:∀b,N b→M b):Row M w v n sz cs:=by
 refine⟨h.len,?_⟩;rcases h.at_ with h0|⟨b,off,cap,rfl,h1,h2,h3,h4,h5⟩
 ·exact .inl h0
 ·exact .inr ⟨b,off,cap,rfl,h1,h2,hm b h3,h4,h5⟩
theorem Row.slice (h:Row N w v n sz cs):∃o c,v= .slice o n c:=by
 rcases h.at_ with⟨rfl,o,c,rfl⟩|⟨b,off,cap,rfl,_⟩
 ·exact⟨_,_,rfl⟩
 ·exact⟨_,_,rfl⟩
theorem Row.Hw (h:Row N w v n sz cs):n≤maxLen:=by
 rcases h.at_ with⟨rfl,_⟩|⟨b,off,cap,rfl,h1,h2,_⟩
 ·exact Nat.zero_le _
 ·omega
theorem Row.dD (h:w.ownsRow base e sz v n cs) (hN:∀b,base≤b→b<w.heap.size→N b):Row N w v n sz cs:=by
 refine⟨h.1,?_⟩;rcases h.2 with⟨rfl,h0⟩|⟨g,cap,cur,rfl,hb,hg,hnc,hcm,-,-⟩
 ·exact .inl ⟨h0,none,0,rfl⟩
 ·have hlt:=(Array.getElem?_eq_some_iff.1 hg).1;refine .inr ⟨g,0,cap,rfl,hnc,hcm,hN g hb hlt,hlt,fun j hj=> ?_⟩;rw[Nat.zero_add];exact h.cellAt _ (by rw[←h.1];exact hj)
theorem iZ {α β:Type} {f:α→List β} (hf:∀x,(f x).length=n):∀l:List α,(l.flatMap f).length=l.length*n
 |[]=>by simp
 |x::r=>by rw[List.flatMap_cons,List.length_append,hf,iZ hf r,List.length_cons,Nat.succ_mul];omega
theorem qx {α β:Type} {f:α→List β} (hf:∀x,(f x).length=n):∀(l:List α) (j i:Nat) (hj:j<l.length),i<n→(l.flatMap f)[j*n+i]? =(f l[j])[i]?
 |[],_,_,hj,_=>absurd hj (by simp)
 |x::r,0,i,_,hi=>by
  rw[List.flatMap_cons,Nat.zero_mul,Nat.zero_add,List.getElem?_append_left (by rw[hf];exact hi)]
  rfl
 |x::r,j+1,i,hj,hi=>by
  rw[List.flatMap_cons,List.getElem?_append_right (by rw[hf,Nat.succ_mul];omega),hf];have e:(j+1)*n+i-n=j*n+i:=by rw[Nat.succ_mul];omega
  rw[e,qx hf r j i (by simpa using hj) hi]
  rfl
theorem Row.cells {α:Type} {l:List α} {f:α→List Value} (hf:∀x,(f x).length=sz) (h:Row N w v l.length sz (l.flatMap f)) (hne:0<l.length):
  ∃b off cap:Nat,v= .slice (some ⟨b,off,none⟩) l.length cap∧l.length≤cap∧cap≤maxLen∧N b∧b<w.heap.size∧∀i (hi:i<l.length) j,j<sz→w.cell? ⟨b,off+(i*sz+j),none⟩=(f l[i])[j]? :=by
 rcases h.at_ with⟨h0,_⟩|⟨b,off,cap,rfl,h1,h2,h3,h4,h5⟩
 ·omega
 ·refine⟨b,off,cap,rfl,h1,h2,h3,h4,fun i hi j hj=> ?_⟩;rw[h5 _ (by
   rw[iZ hf];have:(i+1)*sz≤l.length*sz:=Nat.mul_le_mul_right _ hi;rw[Nat.succ_mul] at this;omega),qx hf l i j hi hj]
def jL (r:Rg):List Value:=[.int .i64 r.lo,.int .i64 r.hi]
structure dG (N:Nat→Prop) (w:World) (v:Value) (l:List Rg):Prop where
 row:Row N w v l.length 2 (l.flatMap jL)
 ok:∀r∈l,I64 r.lo∧I64 r.hi
 small:l.length≤1048576
theorem dG.kept {l:List Rg} (h:dG N w v l) (k:Kept X w w') (hd:∀b,b<w.heap.size→N b→¬X b):dG N w' v l:=⟨h.row.kept k hd,h.ok,h.small⟩
theorem dG.mono {l:List Rg} (h:dG N w v l) (hm:∀b,N b→M b):dG M w v l:=⟨h.row.mono hm,h.ok,h.small⟩
theorem dG.cells {l:List Rg} (h:dG N w v l) (hne:0<l.length):
  ∃b off cap:Nat,v= .slice (some ⟨b,off,none⟩) l.length cap∧l.length≤cap∧cap≤maxLen∧N b∧b<w.heap.size∧∀i (hi:i<l.length),I64 l[i].lo∧I64 l[i].hi∧w.cell? ⟨b,off+i*2,none⟩=some (.int .i64 l[i].lo)∧w.cell? ⟨b,off+i*2+1,none⟩=some (.int .i64 l[i].hi):=by
 obtain⟨b,off,cap,rfl,h1,h2,h3,h4,h5⟩:=h.row.cells (f:=jL) (fun _=>rfl) hne;refine⟨b,off,cap,rfl,h1,h2,h3,h4,fun i hi=>⟨(h.ok _ (List.getElem_mem hi)).1,(h.ok _ (List.getElem_mem hi)).2,?_,?_⟩⟩
 ·exact h5 i hi 0 (by omega)
 ·exact h5 i hi 1 (by omega)
mutual
def ai (N:Nat→Prop) (w:World):Nd→List Value→Prop
 | .mk k set lo hi lazy subs,cs=>∃sv uv ucs,cs=[.int .u8 k,sv,.int .i64 lo,.int .i64 hi,.bool lazy,uv]∧(0≤k∧k≤255∧subs.length≤1048576)∧I64 lo∧I64 hi∧dG N w sv set∧Row N w uv subs.length 6 ucs∧au N w subs ucs
def au (N:Nat→Prop) (w:World):List Nd→List Value→Prop
 |[],cs=>cs=[]
 |s::r,cs=>∃a b,cs=a++b∧ai N w s a∧au N w r b
end
mutual
theorem ai.kept (k:Kept X w w') (hd:∀b,b<w.heap.size→N b→¬X b):∀{t:Nd} {cs:List Value},ai N w t cs→ai N w' t cs
 | .mk kd set lo hi lazy subs,cs,h=>by
  rw[ai] at h ⊢;obtain⟨sv,uv,ucs,h1,h2,h3,h4,h5,h6,h7⟩:=h;exact⟨sv,uv,ucs,h1,h2,h3,h4,h5.kept k hd,h6.kept k hd,au.kept k hd h7⟩
theorem au.kept (k:Kept X w w') (hd:∀b,b<w.heap.size→N b→¬X b):∀{l:List Nd} {cs:List Value},au N w l cs→au N w' l cs
 |[],cs,h=>h
 |s::r,cs,h=>by
  rw[au] at h ⊢;obtain⟨a,b,h1,h2,h3⟩:=h;exact⟨a,b,h1,ai.kept k hd h2,au.kept k hd h3⟩
end
mutual
theorem ai.mono (hm:∀b,N b→M b):∀{t:Nd} {cs:List Value},ai N w t cs→ai M w t cs
 | .mk kd set lo hi lazy subs,cs,h=>by
  rw[ai] at h ⊢;obtain⟨sv,uv,ucs,h1,h2,h3,h4,h5,h6,h7⟩:=h;exact⟨sv,uv,ucs,h1,h2,h3,h4,h5.mono hm,h6.mono hm,au.mono hm h7⟩
theorem au.mono (hm:∀b,N b→M b):∀{l:List Nd} {cs:List Value},au N w l cs→au M w l cs
 |[],cs,h=>h
 |s::r,cs,h=>by
  rw[au] at h ⊢;obtain⟨a,b,h1,h2,h3⟩:=h;exact⟨a,b,h1,ai.mono hm h2,au.mono hm h3⟩
end
theorem ai.six (h:ai N w t cs):cs.length=6:=by
 cases t;rw[ai] at h;obtain⟨sv,uv,ucs,rfl,_⟩:=h
 rfl
theorem au.get:∀{l:List Nd} {cs:List Value},au N w l cs→∀i (hi:i<l.length),∃a,ai N w l[i] a∧∀j,j<6→cs[i*6+j]? =a[j]?
 |[],cs,_,i,hi=>absurd hi (by simp)
 |s::r,cs,h,i,hi=>by
  rw[au] at h;obtain⟨a,b,rfl,h2,h3⟩:=h;cases i with
  |zero=>exact⟨a,h2,fun j hj=>by rw[Nat.zero_mul,Nat.zero_add,List.getElem?_append_left (by rw[h2.six];exact hj)]⟩
  |succ i=>
   obtain⟨c,h4,h5⟩:=h3.get i (by simpa using hi);refine⟨c,h4,fun j hj=> ?_⟩;rw[List.getElem?_append_right (by rw[h2.six];omega),h2.six,←h5 j hj];congr 1;omega
theorem au.append:∀{l m:List Nd} {cs ds:List Value},au N w l cs→au N w m ds→au N w (l++m) (cs++ds)
 |[],m,cs,ds,h,k=>by rw[au] at h;subst h;exact k
 |s::r,m,cs,ds,h,k=>by
  rw[au] at h;obtain⟨a,b,rfl,h2,h3⟩:=h;rw[List.cons_append,au];exact⟨a,b++ds,by rw[List.append_assoc],h2,h3.append k⟩
theorem au.one (h:ai N w t cs):au N w [t] cs:=by
 rw[au];exact⟨cs,[],by simp,h,by rw[au]⟩
theorem Row.parts {l:List Nd} (h:Row N w v l.length 6 cs) (hn:au N w l cs) (hne:0<l.length):
  ∃b off cap:Nat,v= .slice (some ⟨b,off,none⟩) l.length cap∧l.length≤cap∧cap≤maxLen∧N b∧b<w.heap.size∧∀i (hi:i<l.length),∃sv uv,ai N w l[i] [.int .u8 l[i].kind,sv,.int .i64 l[i].lo,.int .i64 l[i].hi,.bool l[i].lazy,uv]∧
   w.cell? ⟨b,off+i*6,none⟩=some (.int .u8 l[i].kind)∧w.cell? ⟨b,off+i*6+1,none⟩=some sv∧w.cell? ⟨b,off+i*6+2,none⟩=some (.int .i64 l[i].lo)∧
   w.cell? ⟨b,off+i*6+3,none⟩=some (.int .i64 l[i].hi)∧w.cell? ⟨b,off+i*6+4,none⟩=some (.bool l[i].lazy)∧w.cell? ⟨b,off+i*6+5,none⟩=some uv:=by
 rcases h.at_ with⟨h0,_⟩|⟨b,off,cap,rfl,h1,h2,h3,h4,h5⟩
 ·omega
 ·refine⟨b,off,cap,rfl,h1,h2,h3,h4,fun i hi=> ?_⟩;obtain⟨a,ha,hc⟩:=hn.get i hi;have hlen:=h.len;have key:∀j,j<6→w.cell? ⟨b,off+i*6+j,none⟩=a[j]? :=fun j hj=>by
   rw[Nat.add_assoc,h5 _ (by rw[hlen];omega),hc j hj]
  generalize l[i]=t at ha ⊢;cases t with
  |mk k set lo hi' lazy subs=>
   have ha':=ha;rw[ai] at ha;obtain⟨sv,uv,ucs,rfl,_⟩:=ha;exact⟨sv,uv,ha',key 0 (by omega),key 1 (by omega),key 2 (by omega),key 3 (by omega),key 4 (by omega),key 5 (by omega)⟩
end Go.Proofs.Wy
namespace Go
def Oper.eH (ops:Array Oper) (o:Oper):List Tmp:=o.looksAt ops++o.dst.toList
def dP (ops:Array Oper):Bool:=
 let b:=Region.before ops
 let l:=ops.toList
 (l.zipIdx.all fun(o,j)=>o.after.all fun e=> !Region.binds .any e || decide (e.on<j)) &&
 (l.zipIdx.all fun(o,j)=>(List.range j).all fun i=> !(b.getD j 0).testBit i || o.after.any fun e=>Region.binds .any e && (e.on == i || (decide (i<e.on) && (b.getD e.on 0).testBit i))) &&
 (l.zipIdx.all fun(o,j)=>(l.zipIdx.take j).all fun(p,i)=>
  (b.getD j 0).testBit i || ((match p.dst with|some d=> !(o.eH ops).contains d|none=>true) && (match o.dst with|some d=> !(p.eH ops).contains d|none=>true))) &&
 (l.all fun o=>match o.op with| .select .. =>false| .defer _=>false|_=>true)
def lF (P:Program) (ops:Array Oper) (W:World→Prop) (o:Oper) (v:Value) (a:Act):Prop:=
 if Region.wanted o (yielded ops a.tmps) then∀w,W w→∀K:Act→World→Prop,(∀w',W w'→K (a.put o.dst v) w')→o.wp P a w K (fun _ _ _=>False) else v=undef
def oZ (P:Program) (ops:Array Oper) (W:World→Prop) (R:Act→Prop):List Oper→Act→Prop
 |[],a=>R a
 |o::rest,a=>∃v,lF P ops W o v a∧oZ P ops W R rest (a.put o.dst v)
theorem Cm {P:Program} {ops:Array Oper} {W:World→Prop} {o:Oper} {v:Value} {a:Act} (hw:Region.wanted o (yielded ops a.tmps)=true)
  (h:∀w,W w→∀K:Act→World→Prop,(∀w',W w'→K (a.put o.dst v) w')→o.wp P a w K (fun _ _ _=>False)):lF P ops W o v a:=by
 unfold lF;rw[if_pos hw];exact h
theorem E8 {P:Program} {ops:Array Oper} {W:World→Prop} {o:Oper} {a:Act} (hw:Region.wanted o (yielded ops a.tmps)=false):lF P ops W o undef a:=by
 unfold lF;rw[if_neg (by simp[hw])]
theorem jC {P:Program} {ops:Array Oper} {W:World→Prop} {R:Act→Prop} {o:Oper} {rest:List Oper} {a:Act} {v:Value} (hw:Region.wanted o (yielded ops a.tmps)=true)
  (h:∀w,W w→∀K:Act→World→Prop,(∀w',W w'→K (a.put o.dst v) w')→o.wp P a w K (fun _ _ _=>False)) (k:oZ P ops W R rest (a.put o.dst v)):
  oZ P ops W R (o::rest) a:=⟨v,Cm hw h,k⟩
theorem lG {P:Program} {ops:Array Oper} {W:World→Prop} {R:Act→Prop} {o:Oper} {rest:List Oper} {a:Act} (hw:Region.wanted o (yielded ops a.tmps)=false)
  (k:oZ P ops W R rest (a.put o.dst undef)):oZ P ops W R (o::rest) a:=⟨undef,E8 hw,k⟩
theorem jD {P:Program} {ops:Array Oper} {W:World→Prop} {R:Act→Prop} {a:Act} (h:R a):oZ P ops W R [] a:=h
namespace fU
section
variable {P:Program} {ops:Array Oper} {W:World→Prop}
def aT (l:List Oper) (vs:Nat→Value) (a:Act):Nat→Act
 |0=>a
 |i+1=>match l[i]? with
  |some o=>(aT l vs a i).put o.dst (vs i)
  |none=>aT l vs a i
def aW (l:List Oper) (vs:Nat→Value) (a:Act) (S:Nat→Bool):Nat→Act
 |0=>a
 |i+1=>match l[i]? with
  |some o=>if S i then(aW l vs a S i).put o.dst (vs i) else aW l vs a S i
  |none=>aW l vs a S i
theorem iJ (l:List Oper) (vs:Nat→Value) (a:Act) (S:Nat→Bool):∀n,(∀i,i<n→S i=false)→aW l vs a S n=a
 |0,_=>rfl
 |n+1,h=>by
  simp only[aW];have ih:=iJ l vs a S n (fun i hi=>h i (by omega));split
  ·rw[if_neg (by simp[h n (by omega)]),ih]
  ·exact ih
theorem nO (l:List Oper) (vs:Nat→Value) (a:Act) (S:Nat→Bool):∀n,(∀i,i<n→i<l.length→S i=true)→aW l vs a S n=aT l vs a n
 |0,_=>rfl
 |n+1,h=>by
  simp only[aW,aT];have ih:=nO l vs a S n (fun i hi=>h i (by omega));split
  ·rename_i o ho;rw[if_pos (h n (by omega) (List.getElem?_eq_some_iff.1 ho).1),ih]
  ·exact ih
theorem fB (l:List Oper) (vs:Nat→Value) (a:Act) (S T:Nat→Bool):∀n,(∀i,i<n→S i=T i)→aW l vs a S n=aW l vs a T n
 |0,_=>rfl
 |n+1,h=>by
  simp only[aW];rw[fB l vs a S T n (fun i hi=>h i (by omega)),h n (by omega)]
theorem jr (l:List Oper) (vs:Nat→Value) (a:Act) (S:Nat→Bool) (i:Nat) (o:Oper) (hi:l[i]? =some o) (hS:S i=false):∀n,i<n→
  (∀j p,i<j→l[j]? =some p→S j=true→∀d,o.dst=some d→p.dst≠some d)→
  aW l vs a (fun k=>if k=i then true else S k) n=(aW l vs a S n).put o.dst (vs i)
 |0,h,_=>by omega
 |n+1,h,hd=>by
  simp only[aW];by_cases e:n=i
  ·subst e;rw[hi];simp only[if_true,hS];rw[if_neg (by simp)];rw[fB l vs a (fun k=>if k=n then true else S k) S n (fun k hk=>by simp[show k≠n by omega])]
  ·have ih:=jr l vs a S i o hi hS n (by omega) hd;cases hp:l[n]? with
   |none=>simp only;exact ih
   |some p=>
    simp only[if_neg e];cases hs:S n with
    |false=>simp only[Bool.false_eq_true,if_false];exact ih
    |true=>
     simp only[if_true];rw[ih,Act.put_comm _ _ _ (fun d hd'=>hd n p (by omega) hp hs d hd')]
theorem nP (l:List Oper) (vs:Nat→Value) (a:Act) (S:Nat→Bool) (i:Nat) (t:Tmp)
  (h1:∀j p,j<i→l[j]? =some p→p.dst=some t→S j=true) (h2:∀j p,i≤j→l[j]? =some p→p.dst=some t→S j=false):
  ∀n,(aW l vs a S n).tmps[t]? =(aT l vs a (min n i)).tmps[t]? :=by
 intro n
 induction n with
 |zero=>rfl
 |succ n ih=>
  have CB:∀(b:Act) (d:Option Tmp) (v:Value),d≠some t→(b.put d v).tmps[t]? =b.tmps[t]? :=by
   intro b d v hd;cases d with
   |none=>rfl
   |some d=>simp only[Act.put];rw[Array.getElem?_setIfInBounds_ne (fun e=>hd (by rw[e]))]
  have sz:∀(b:Act) (d:Option Tmp) (v:Value),(b.put d v).tmps.size=b.tmps.size:=by
   intro b d v;cases d<;>simp[Act.put]
  have szO:∀n,(aW l vs a S n).tmps.size=a.tmps.size:=by
   intro n;induction n with
   |zero=>rfl
   |succ n ih=>simp only[aW];split<;>(try split)<;>simp[sz,ih]
  have szA:∀n,(aT l vs a n).tmps.size=a.tmps.size:=by
   intro n;induction n with
   |zero=>rfl
   |succ n ih=>simp only[aT];split<;>simp[sz,ih]
  have put_eq:∀(b c:Act) (v:Value),b.tmps.size=c.tmps.size→(b.put (some t) v).tmps[t]? =(c.put (some t) v).tmps[t]? :=by
   intro b c v hbc;simp[Act.put,Array.getElem?_setIfInBounds,hbc]
  simp only[aW];by_cases hni:n<i
  ·rw[show min (n+1) i=n+1 by omega];rw[show min n i=n by omega] at ih;simp only[aT];cases hp:l[n]? with
   |none=>simp only;exact ih
   |some p=>
    simp only;by_cases hd:p.dst=some t
    ·rw[if_pos (h1 n p hni hp hd),hd];exact put_eq _ _ _ (by rw[szO,szA])
    ·rw[CB _ _ _ hd];split
     ·rw[CB _ _ _ hd];exact ih
     ·exact ih
  ·rw[show min (n+1) i=i by omega];rw[show min n i=i by omega] at ih;cases hp:l[n]? with
   |none=>simp only;exact ih
   |some p=>
    simp only;by_cases hd:p.dst=some t
    ·rw[if_neg (by simp[h2 n p (by omega) hp hd])];exact ih
    ·split
     ·rw[CB _ _ _ hd];exact ih
     ·exact ih
theorem Ap {R:Act→Prop}:∀(l:List Oper) (a:Act),oZ P ops W R l a→
  ∃vs:Nat→Value,(∀i o,l[i]? =some o→lF P ops W o (vs i) (aT l vs a i))∧R (aT l vs a l.length)
 |[],a,h=>⟨fun _=>undef,by simp,h⟩
 |o::rest,a,⟨v,h,k⟩=>by
  obtain⟨vs,h1,h2⟩:=Ap rest (a.put o.dst v) k;have key:∀n,aT (o::rest) (fun|0=>v|i+1=>vs i) a (n+1)=aT rest vs (a.put o.dst v) n:=by
   intro n
   induction n with
   |zero=>rfl
   |succ n ih=>
    rw[aT,ih];simp only[List.getElem?_cons_succ,aT]
  refine⟨fun|0=>v|i+1=>vs i,?_,?_⟩
  ·intro i p hp;cases i with
   |zero=>simp only[List.getElem?_cons_zero,Option.some.injEq] at hp;subst hp;exact h
   |succ i=>rw[key];exact h1 i p (by simpa using hp)
  ·rw[List.length_cons,key];exact h2
theorem qy (h:dP ops=true) {j:Nat} {o:Oper} (hj:ops[j]? =some o):∀e∈o.after,Region.binds .any e=true→e.on<j:=by
 unfold dP at h;simp only[Bool.and_eq_true] at h;have h1:=h.1.1.1;rw[List.all_eq_true] at h1;have hm:(o,j)∈ops.toList.zipIdx:=by rw[List.mem_zipIdx_iff_getElem?];simpa using hj
 have:=h1 _ hm;simp only[Array.all_eq_true_iff_forall_mem,Bool.or_eq_true,Bool.not_eq_true',decide_eq_true_eq] at this;intro e he hb;rcases this e he with g|g
 ·rw[hb] at g;cases g
 ·exact g
theorem gW (h:dP ops=true) {S:Nat→Bool} (hS:∀j o,ops[j]? =some o→S j=true→∀e∈o.after,Region.binds .any e=true→S e.on=true):
  ∀(j i:Nat),i<j→j<ops.size→((Region.before ops).getD j 0).testBit i=true→S j=true→S i=true:=by
 have hb:= @qy ops h;unfold dP at h;simp only[Bool.and_eq_true] at h;have h1:=h.1.1.2;rw[List.all_eq_true] at h1;intro j
 induction j using Nat.strongRecOn with
 |_ j ih=>
  intro i hij hj hbit hSj;have ho:ops[j]? =some ops[j]:=Array.getElem?_eq_getElem hj;have hm:(ops[j],j)∈ops.toList.zipIdx:=by rw[List.mem_zipIdx_iff_getElem?];simp[hj]
  have h2:=h1 _ hm;simp only[List.all_eq_true,List.mem_range] at h2;have h3:=h2 i hij;simp only[Bool.or_eq_true,Bool.not_eq_true',hbit] at h3;rcases h3 with h3|h3
  ·cases h3
  ·rw[Array.any_eq_true'] at h3;obtain⟨e,he,h4⟩:=h3;simp only[Bool.and_eq_true,Bool.or_eq_true,beq_iff_eq] at h4;obtain⟨h5,h6⟩:=h4;have hlt:=hb ho e he h5;have hSe:=hS j _ ho hSj e he h5;rcases h6 with h6|⟨h6,h7⟩
   ·rw[←h6];exact hSe
   ·exact ih e.on hlt i (of_decide_eq_true h6) (by omega) h7 hSe
theorem eP (h:dP ops=true) {i j:Nat} {p o:Oper} (hij:i<j) (hi:ops[i]? =some p) (hj:ops[j]? =some o):
  ((Region.before ops).getD j 0).testBit i=true∨((∀d,p.dst=some d→d∉o.eH ops)∧(∀d,o.dst=some d→d∉p.eH ops)):=by
 unfold dP at h;simp only[Bool.and_eq_true] at h;have h1:=h.1.2;rw[List.all_eq_true] at h1;have hm:(o,j)∈ops.toList.zipIdx:=by rw[List.mem_zipIdx_iff_getElem?];simpa using hj
 have h2:=h1 _ hm;rw[List.all_eq_true] at h2;have hm2:(p,i)∈ops.toList.zipIdx.take j:=by
  rw[List.mem_take_iff_getElem];have hl:i<ops.size:=(Array.getElem?_eq_some_iff.1 hi).1;have hl2:j<ops.size:=(Array.getElem?_eq_some_iff.1 hj).1;refine⟨i,by simp;omega,?_⟩;have:=(Array.getElem?_eq_some_iff.1 hi).2;simp[this]
 have h3:=h2 _ hm2;simp only[Bool.or_eq_true,Bool.and_eq_true] at h3;rcases h3 with h3|⟨h3,h4⟩
 ·exact .inl h3
 ·refine .inr ⟨fun d hd=> ?_,fun d hd=> ?_⟩
  ·rw[hd] at h3;simpa using h3
  ·rw[hd] at h4;simpa using h4
theorem uN (h:dP ops=true) {i:Nat} {o:Oper} (hi:ops[i]? =some o):∀cs b,o.op≠.select cs b:=by
 unfold dP at h;simp only[Bool.and_eq_true] at h;have h1:=h.2;rw[List.all_eq_true] at h1;have h2:=h1 o (by rw[Array.mem_toList_iff];exact Array.mem_of_getElem? hi);intro cs b e;rw[e] at h2;cases h2
theorem ja {o:Oper} {a b:Act} (h:∀t,t∈o.looksAt ops→a.tmps[t]? =b.tmps[t]?):
  Region.wanted o (yielded ops a.tmps)=Region.wanted o (yielded ops b.tmps):=by
 unfold Region.wanted;cases hg:o.guard with
 |none=>rfl
 |some gw=>
  obtain⟨g,want⟩:=gw;have hy:yielded ops a.tmps g=yielded ops b.tmps g:=by
   unfold yielded;cases ht:(ops[g]?).bind (·.dst) with
   |none=>rfl
   |some t=>
    have:=h t (by simp[Oper.looksAt,hg,ht]);simp[this]
  simp only[hy]
theorem nR {o:Oper} {a b:Act} (hs:∀cs b,o.op≠.select cs b) (h:∀t,t∈o.looksAt ops→a.tmps[t]? =b.tmps[t]?):execOp a.eval o=execOp b.eval o:=by
 refine execOp_congr o hs fun x hx=> ?_
 cases x with
 |tmp t=>
  have:=h t (List.mem_append_left _ (List.mem_filterMap.2 ⟨.tmp t,by simpa using hx,rfl⟩));simp[Act.eval,this]
 |_=>rfl
theorem um {A a:Act} {dst:Option Tmp} {u v:Value} (hs:A.tmps.size=a.tmps.size) (h:A.put dst v=A.put dst u):a.put dst v=a.put dst u:=by
 cases dst with
 |none=>rfl
 |some d=>
  simp only[Act.put,Act.mk.injEq,and_true] at h ⊢;by_cases hd:d<A.tmps.size
  ·have:=congrArg (fun l=>l[d]?) h;simp[hd] at this;rw[this]
  ·have hd':a.tmps.size≤d:=by rw[hs] at hd;exact Nat.le_of_not_lt hd
   simp[Array.setIfInBounds_eq_of_size_le hd']
theorem Aq {Q:Exit→Act→World→Prop} {o:Oper} {v:Value} {A a:Act} {i:Nat} {w:World} (hi:ops[i]? =some o) (h:lF P ops W o v A)
  (hs:∀cs b,o.op≠.select cs b) (hz:A.tmps.size=a.tmps.size) (hn:∀t,t∈o.looksAt ops→a.tmps[t]? =A.tmps[t]?) (hw:W w) {K:Act→World→Prop}
  (hK:∀w',W w'→K (a.put o.dst v) w'):wpOp P ops Q i K a w:=by
 unfold wpOp;simp only[hi];rw[ja hn];unfold lF at h;split
 ·rename_i hwn;rw[if_pos hwn] at h;refine .inl ?_;have h1:=h w hw (fun x w''=>(∀u,x=A.put o.dst u→K (a.put o.dst u) w'')∧x.defers=A.defers) (fun w' hw'=>⟨fun u hu=>by rw[←um hz hu];exact hK w' hw',by cases o.dst<;>rfl⟩);unfold Oper.wp at h1 ⊢;rw[nR hs hn];generalize (execOp A.eval o).run P w=r at h1;cases r with
  |ok n w'=>
   cases n<;>simp only[Oper.upon] at h1 ⊢
   case value u=>exact h1.1 u rfl
   case skip=>exact h1.1 _ rfl
   case defer d=>
    have h2:=congrArg List.length h1.2;cases hd:o.dst<;>simp[hd,Act.put] at h2
   case enter f args=>
    refine Calls.mono h1 fun e w'' he=> ?_
    cases e with
    |returned u=>exact he.1 u rfl
    |panicked c=>exact he.elim
    |outgrown=>obtain⟨_,_,hf⟩:=he;exact hf.elim
   case row row args=>exact Rows.mono h1 fun u w'' he=>he.1 u rfl
  |halt x w'=>cases x<;>simp only[Oper.upon] at h1 ⊢
 ·rename_i hwn;rw[if_neg hwn] at h;subst h;exact hK w hw
def left (listed:Array Bool):Nat→Nat
 |0=>0
 |n+1=>left listed n+if listed.getD n true then 0 else 1
theorem jv {listed:Array Bool}:∀n,left listed n=0→∀i,i<n→listed.getD i true=true
 |0,_,i,hi=>by omega
 |n+1,h,i,hi=>by
  simp only[left] at h;by_cases e:i=n
  ·subst e;cases hl:listed.getD i true with
   |true=>rfl
   |false=>rw[hl] at h;simp at h
  ·exact jv n (by omega) i (by omega)
theorem kP {listed:Array Bool}:∀n,0<left listed n→∃i,i<n∧listed.getD i true=false∧∀k,k<i→listed.getD k true=true
 |0,h=>by simp[left] at h
 |n+1,h=>by
  by_cases e:0<left listed n
  ·obtain⟨i,h1,h2⟩:=kP n e;exact⟨i,by omega,h2⟩
  ·simp only[left] at h;refine⟨n,by omega,?_,jv n (by omega)⟩;cases hl:listed.getD n true with
   |false=>rfl
   |true=>rw[hl] at h;simp at h;omega
theorem kQ {listed:Array Bool} {i:Nat} (hi:i<listed.size) (hl:listed.getD i true=false):∀n,left (listed.setIfInBounds i true) n+(if i<n then 1 else 0)=left listed n
 |0=>by simp[left]
 |n+1=>by
  have ih:=kQ hi hl n;simp only[left];by_cases e:i=n
  ·subst e;rw[hl];have:(listed.setIfInBounds i true).getD i true=true:=by simp
   rw[this];simp at ih ⊢;omega
  ·rw[getD_set_ne true e];by_cases c:i<n
   ·rw[if_pos c] at ih;rw[if_pos (show i<n+1 by omega)];omega
   ·rw[if_neg c] at ih;rw[if_neg (show¬i<n+1 by omega)];omega
theorem eG {listed:Array Bool} {i:Nat} (hi:i<listed.size):listed.getD i true=listed.getD i false:=by
 simp[Array.getD,hi]
theorem Ar {Q:Exit→Act→World→Prop} (hok:dP ops=true) (vs:Nat→Value) (a:Act)
  (hf:∀i o,ops.toList[i]? =some o→lF P ops W o (vs i) (aT ops.toList vs a i)) (hq:∀w',W w'→Q .normal (aT ops.toList vs a ops.size) w'):
  ∀(fuel:Nat) (listed:Array Bool) (w:World),listed.size=ops.size→left listed ops.size=fuel→
   (∀j o,ops[j]? =some o→listed.getD j false=true→∀e∈o.after,Region.binds .any e=true→listed.getD e.on false=true)→W w→
   wpAny P .any ops Q fuel listed (aW ops.toList vs a (fun i=>listed.getD i false) ops.size) w:=by
 intro fuel
 induction fuel with
 |zero=>
  intro listed w hsz hl _ hw;have hall:=jv _ hl;refine⟨?_,?_⟩
  ·apply List.eq_nil_iff_forall_not_mem.2;intro j hj;rw[mem_ready] at hj;obtain⟨h0,o,ho,_⟩:=hj;have:=hall j (Array.getElem?_eq_some_iff.1 ho).1;rw[h0] at this;cases this
  ·rw[nO _ _ _ _ _ (fun i hi _=>by rw[←eG (by omega)];exact hall i hi)];exact hq w hw
 |succ fuel ih=>
  intro listed w hsz hl hcl hw;refine⟨?_,?_⟩
  ·intro hnil;exfalso;obtain⟨i,h1,h2,h3⟩:=kP _ (show 0<left listed ops.size by omega);have ho:ops[i]? =some ops[i]:=Array.getElem?_eq_getElem h1;have:i∈Region.ready .any ops listed:=by
    rw[mem_ready];refine⟨h2,_,ho,fun e he hb=> ?_⟩;have hlt:=qy hok ho e he hb;rw[←eG (by omega)];exact h3 _ hlt
   rw[hnil] at this;cases this
  ·intro i hi;rw[mem_ready] at hi;obtain⟨h0,o,ho,mO⟩:=hi;have hil:i<ops.size:=(Array.getElem?_eq_some_iff.1 ho).1;have hol:ops.toList[i]? =some o:=by simpa using ho
   have h0':listed.getD i false=false:=by rw[←eG (by omega)];exact h0
   have hcl':∀j p,ops[j]? =some p→(if j=i then true else listed.getD j false)=true→∀e∈p.after,Region.binds .any e=true→(if e.on=i then true else listed.getD e.on false)=true:=by
    intro j p hj hs e he hb;by_cases e1:e.on=i
    ·rw[if_pos e1]
    ·rw[if_neg e1];by_cases e2:j=i
     ·subst e2;rw[ho] at hj;cases hj;exact mO e he hb
     ·rw[if_neg e2] at hs;exact hcl j p hj hs e he hb
   have hb1:∀j,j<i→((Region.before ops).getD i 0).testBit j=true→listed.getD j false=true:=by
    intro j hj hbit;have:=gW hok (S:=fun k=>if k=i then true else listed.getD k false) hcl' i j hj hil hbit (by simp)
    simpa [show j≠i by omega] using this
   have hb2:∀j,i<j→j<ops.size→((Region.before ops).getD j 0).testBit i=true→listed.getD j false=false:=by
    intro j hj hjl hbit;cases hs:listed.getD j false with
    |false=>rfl
    |true=>
     have:=gW hok (S:=fun k=>listed.getD k false) hcl j i hj hjl hbit hs;rw[h0'] at this;cases this
   have Hy:∀t,t∈o.eH ops→(aW ops.toList vs a (fun i=>listed.getD i false) ops.size).tmps[t]? =(aT ops.toList vs a i).tmps[t]? :=by
    intro t ht;rw[show aT ops.toList vs a i=aT ops.toList vs a (min ops.size i) by rw[show min ops.size i=i by omega]];refine nP _ _ _ _ i t ?_ ?_ _
    ·intro j p hj hp hd;have hp':ops[j]? =some p:=by simpa using hp
     rcases eP hok hj hp' ho with hbit|⟨hn,_⟩
     ·exact hb1 j hj hbit
     ·exact absurd ht (hn t hd)
    ·intro j p hj hp hd;have hp':ops[j]? =some p:=by simpa using hp
     by_cases e:j=i
     ·subst e;exact h0'
     ·rcases eP hok (show i<j by omega) ho hp' with hbit|⟨_,hn⟩
      ·exact hb2 j (by omega) (Array.getElem?_eq_some_iff.1 hp').1 hbit
      ·exact absurd ht (hn t hd)
   have o8:∀j p,i<j→ops.toList[j]? =some p→listed.getD j false=true→∀d,o.dst=some d→p.dst≠some d:=by
    intro j p hj hp hs d hd hpd;have hp':ops[j]? =some p:=by simpa using hp
    rcases eP hok hj ho hp' with hbit|⟨hn,_⟩
    ·have:=hb2 j hj (Array.getElem?_eq_some_iff.1 hp').1 hbit;rw[hs] at this;cases this
    ·exact hn d hd (by simp[Oper.eH,hpd])
   have hsame:aW ops.toList vs a (fun k=>(listed.setIfInBounds i true).getD k false) ops.size=(aW ops.toList vs a (fun k=>listed.getD k false) ops.size).put o.dst (vs i):=by
    rw[←jr ops.toList vs a (fun k=>listed.getD k false) i o hol h0' ops.size hil o8];refine fB _ _ _ _ _ _ fun k _=> ?_
    by_cases e:k=i
    ·subst e;simp[hsz,hil]
    ·rw[if_neg e,getD_set_ne false (Ne.symm e)]
   have szO:∀(S:Nat→Bool) n,(aW ops.toList vs a S n).tmps.size=a.tmps.size:=by
    intro S n;induction n with
    |zero=>rfl
    |succ n ih=>
     simp only[aW];split
     ·split
      ·rename_i p _ _;cases hp:p.dst<;>simpa [Act.put] using ih
      ·exact ih
     ·exact ih
   have szA:∀n,(aT ops.toList vs a n).tmps.size=a.tmps.size:=by
    intro n;induction n with
    |zero=>rfl
    |succ n ih=>
     simp only[aT];split
     ·rename_i p _;cases hp:p.dst<;>simpa [Act.put] using ih
     ·exact ih
   refine Aq ho (hf i o hol) (uN hok ho) (by rw[szA,szO]) (fun t ht=>Hy t (by simp[Oper.eH,ht])) hw fun w' hw'=> ?_
   rw[←hsame];refine ih _ w' (by simp[hsz]) ?_ ?_ hw'
   ·have:=kQ (by omega) h0 ops.size;rw[if_pos hil] at this;omega
   ·intro j p hj hs e he hb;by_cases e2:j=i
    ·subst e2;rw[ho] at hj;cases hj;exact getD_set_true (mO e he hb)
    ·rw[getD_set_ne false (Ne.symm e2)] at hs;exact getD_set_true (hcl j p hj hs e he hb)
end
end fU
theorem KX {P:Program} {id:Nat} {ops:Array Oper} {Q:Exit→Act→World→Prop} {a:Act} {w:World} (hm:P.follows .mixedOrders=true) (hok:dP ops=true)
  (W:World→Prop) (hW:W w.drew) (h:oZ P ops W (fun a'=>∀w',W w'→Q .normal a' w') ops.toList a):(Code.region id ops true).wp P Q a w:=by
 refine wp_region_any hm ?_;obtain⟨vs,h1,h2⟩:=fU.Ap ops.toList a h;have h3:=fU.Ar (W:=W) hok vs a h1 (by simpa using h2) ops.size (Array.replicate ops.size false) w.drew (by simp)
  (by
   have:∀n,n≤ops.size→fU.left (Array.replicate ops.size false) n=n:=by
    intro n
    induction n with
    |zero=>intro _;rfl
    |succ n ih=>
     intro hn;simp only[fU.left];rw[ih (by omega)];have:(Array.replicate ops.size false).getD n true=false:=by simp[show n<ops.size by omega]
     rw[this];rfl
   exact this _ (Nat.le_refl _))
  (by
   intro j o _ hs;exfalso;by_cases hj:j<ops.size
   ·simp[hj] at hs
   ·simp[hj] at hs) hW
 rw[fU.iJ _ _ _ _ _ (fun i hi=>by simp[hi])] at h3;exact h3
theorem dZ {P:Program} {id:Nat} {ops:Array Oper} {Q:Exit→Act→World→Prop} {a:Act} {w:World} (hm:P.follows .mixedOrders=true) (hok:dP ops=true)
  (h:oZ P ops (RowKit.Below w.heap.size w) (fun a'=>∀w',RowKit.Below w.heap.size w w'→Q .normal a' w') ops.toList a):(Code.region id ops true).wp P Q a w:=
 KX hm hok _ (RowKit.Below.drew (RowKit.Below.refl _ _)) h
end Go
