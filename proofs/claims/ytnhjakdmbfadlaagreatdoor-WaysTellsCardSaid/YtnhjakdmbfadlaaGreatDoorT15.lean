/- Parts of the proof. Conditions: none. -/
import Derived.Test.YtnhjakdmbfadlaaGreatDoorT04
import Derived.Test.YtnhjakdmbfadlaaGreatDoorT03
import Derived.Test.YtnhjakdmbfadlaaGreatDoorT00
set_option linter.all false
set_option maxHeartbeats 8000000
set_option maxRecDepth 100000
namespace Go.Proofs.YtnhjakdmbfadlaaGreatDoor
open Go.RowKit Wy Mem Grow
structure wY (w0:World) (M:Nat→Prop) (B p:Nat) (k lo hi:Int) (lazy:Bool) (sv:Value) (w:World) (l:List Nd) (pv:Value):Prop where
 node:Blk w p #[.int .u8 k,sv,.int .i64 lo,.int .i64 hi,.bool lazy,pv] 27
 row:∃cs,w.ownsRow B 27 6 pv l.length cs∧au (fun q=>M q∧q≠p∧pv.ownBlock≠some q) w l cs
 pB:p<B
 pz:w0.heap.size≤p
 below:Below w0.heap.size w0 w
section
variable {w0 w w':World} {M:Nat→Prop} {B p:Nat} {k lo hi:Int} {lazy:Bool} {sv pv:Value} {l:List Nd}
theorem wY.go (h:wY w0 M B p k lo hi lazy sv w l pv) (kb:Below w.heap.size w w'):wY w0 M B p k lo hi lazy sv w' l pv:=by
 obtain⟨cs,h1,h2⟩:=h.row;exact⟨h.node.below kb h.node.lt,⟨cs,fC h1 (zK kb) (fun _ _=>id),au.go (zK kb) (fun q _ hq=>⟨id,hq⟩) h2⟩,h.pB,h.pz,h.below.trans (kb.mono h.below.size)⟩
theorem wY.more (h:wY w0 M B p k lo hi lazy sv w l pv) {t:Nd} {cs xs:List Value} {pv':Value} (hr:w.ownsRow B 27 6 pv l.length cs) (hn:au (fun q=>M q∧q≠p∧pv.ownBlock≠some q) w l cs) (hx:ai (fun q=>M q∧q≠p∧pv.ownBlock≠some q) w t xs)
  (ho:w'.ownsRow B 27 6 pv' (l.length+1) (cs++xs)) (hg:w.grownBy w' pv.ownBlock) (hv:pv'.ownBlock=pv.ownBlock∨pv'.ownBlock=some w.heap.size):
  wY w0 M B p k lo hi lazy sv (w'.setCell ⟨p,5,none⟩ pv') (l++[t]) pv':=by
 have hlt:=hr.lt;have hpz:=h.node.lt;have hpB:=h.pB;have k1:Kept (fun q=>pv.ownBlock=some q) w w':=eU hg;have hpp:¬(pv.ownBlock=some p):=fun e=>by have:=hlt p e;omega
 have k2:Kept (fun q=>pv.ownBlock=some q∨q=p) w (w'.setCell ⟨p,5,none⟩ pv'):=(k1.mono (fun _ _ e=> .inl e)).setCell (p:=⟨p,5,none⟩) (fun _=> .inr rfl) _;have hd:∀q,q<w.heap.size→(M q∧q≠p∧pv.ownBlock≠some q)→¬(pv.ownBlock=some q∨q=p)∧(M q∧q≠p∧pv'.ownBlock≠some q):=fun q hq hn=>
  ⟨fun e=>e.elim hn.2.2 hn.2.1,hn.1,hn.2.1,fun e=>by
   rcases hv with hv|hv
   ·exact hn.2.2 (hv ▸ e)
   ·rw[hv] at e;simp only[Option.some.injEq] at e;omega⟩
 refine⟨(h.node.kept k1 hpp).set 5 pv',⟨cs++xs,?_,au.append (au.go k2 hd hn) (au.one (ai.go k2 hd hx))⟩,h.pB,h.pz,?_⟩
 ·rw[List.length_append,List.length_singleton];exact fC ho ((Kept.refl (fun q=>q=p) w').setCell (p:=⟨p,5,none⟩) (fun _=>rfl) _) (fun g hg e=>by have:=(ho.lt g hg).1;omega)
 ·exact((Kept.of_below h.below (fun q=>pv.ownBlock=some q∨q=p)).trans k2).below (fun q hq e=>by
   rcases e with e|e
   ·have:=(hlt q e).1;have:=h.pz;omega
   ·have:=h.pz;omega)
def brW (w0:World) (M:Nat→Prop) (B p:Nat) (k lo hi:Int) (lazy:Bool) (sv:Value) (W:World) (l:List Nd) (t:Nd) (pv:Value):List Value→World→Prop
 |[]=>fun w'=>w'=W.drew
 |[v3]=>fun w'=>∃(k lo hi:Int) (lz:Bool) (o1 o2:Option Addr) (n1 c1 n2 c2:Nat),v3= .agg (six k lo hi lz o1 o2 n1 c1 n2 c2).toArray∧ai (fun q=>M q∧q≠p∧pv.ownBlock≠some q) w' t (six k lo hi lz o1 o2 n1 c1 n2 c2)∧Below W.heap.size W w'
 |[v3,v4]=>fun w'=>∃(k lo hi:Int) (lz:Bool) (o1 o2:Option Addr) (n1 c1 n2 c2 q:Nat),v3= .agg (six k lo hi lz o1 o2 n1 c1 n2 c2).toArray∧v4= .slice (some ⟨q,0,none⟩) 1 1∧dI w' (.slice (some ⟨q,0,none⟩) 1 1) 1 (six k lo hi lz o1 o2 n1 c1 n2 c2)∧ai (fun q=>M q∧q≠p∧pv.ownBlock≠some q) w' t (six k lo hi lz o1 o2 n1 c1 n2 c2)∧Below W.heap.size W w'
 |[_,_,v5]=>fun w'=>∃o c,v5= .slice o (l.length+1) c∧wY w0 M B p k lo hi lazy sv (w'.setCell ⟨p,5,none⟩ (.slice o (l.length+1) c)) (l++[t]) (.slice o (l.length+1) c)∧Kept (fun q=>pv.ownBlock=some q) W w'
 |[_,_,_,_]=>fun w'=>∃o c,wY w0 M B p k lo hi lazy sv w' (l++[t]) (.slice o (l.length+1) c)∧Kept (fun q=>pv.ownBlock=some q∨q=p) W w'
 |_=>fun _=>False
end
end Go.Proofs.YtnhjakdmbfadlaaGreatDoor
