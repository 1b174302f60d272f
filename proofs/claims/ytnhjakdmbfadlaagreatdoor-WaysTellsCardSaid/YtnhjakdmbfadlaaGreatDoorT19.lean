/- Parts of the proof. Conditions: none. -/
import Derived.Test.YtnhjakdmbfadlaaGreatDoorT04
import Derived.Deep.DeepCutAuto
import Derived.Test.YtnhjakdmbfadlaaGreatDoorT00
set_option linter.all false
set_option maxHeartbeats 8000000
set_option maxRecDepth 100000
namespace Go.Proofs.YtnhjakdmbfadlaaGreatDoor
open Go.RowKit Wy Mem Grow
variable {J:Act→World→Prop} {gr lz s10 s12 s13 s14 s15 s18:Bool} {s:ByteArray} {Q:Exit→Act→World→Prop} {hi k lo:Int} {bs cs:List Value} {B b c c0 c1 c2 g g0 i m n n1 n2 rb:Nat} {M:Nat→Prop} {tc:Nd} {o1 o2:Option Addr} {T:TypeId} {c3 c4 c5 iv sv u10 u12 u13 u14 v':Value} {W W0 w w':World}
theorem srcB {c0 c1 c2:Value} (hB:Blk w b #[c0,c1,c2,c3,c4,c5] T):dI w (.slice (some ⟨b,0,none⟩) 1 1) 1 [c0,c1,c2,c3,c4,c5]:=by
 refine .inr ⟨_,_,rfl,fun j u hu=> ?_⟩
 match j with
 |0=>simp at hu;subst hu;simp[Addr.add,hB.cell]
 |1=>simp at hu;subst hu;simp[Addr.add,hB.cell]
 |2=>simp at hu;subst hu;simp[Addr.add,hB.cell]
 |3=>simp at hu;subst hu;simp[Addr.add,hB.cell]
 |4=>simp at hu;subst hu;simp[Addr.add,hB.cell]
 |5=>simp at hu;subst hu;simp[Addr.add,hB.cell]
 |j+6=>simp at hu
def rdB (M:Nat→Prop) (B:Nat) (W:World) (v:Value) (m:Nat) (bs:List Value) (sv iv:Value) (gr:Bool) (n:Nat) (cs:List Value) (tc:Nd) (s10 s12 s13 s14 s15 s18:Bool) (u10 u12 u13 u14:Value) (w':World):Prop:=
 (s13=false→Below W.heap.size W w'∧(s10=true→∃(k lo hi:Int) (lz:Bool) (o1 o2:Option Addr) (n1 c1 n2 c2:Nat),u10= .agg (six k lo hi lz o1 o2 n1 c1 n2 c2).toArray∧ai M w' tc (six k lo hi lz o1 o2 n1 c1 n2 c2))∧(s12=true→∃z,u12= .slice (some ⟨z,0,none⟩) 1 1∧W.heap.size≤z∧Blk w' z zero6.toArray 70))∧
 (s13=true→∃g c,u13= .slice (some ⟨g,0,none⟩) (n+1) c∧(s14=true→u14= .pointer (some ⟨g,n*6,none⟩))∧(sv.ownBlock=some g∨W.heap.size≤g)∧g≠v.ownBlock.getD 0∧Kept (fun b=>sv.ownBlock=some b∨v.ownBlock=some b) W w'∧
  w'.ownsRow B 155 3 v (m+1) (bs++[if s18 then .slice (some ⟨g,0,none⟩) (n+1) c else sv,iv,.bool gr])∧
  ∃(k lo hi:Int) (lz:Bool) (o1 o2:Option Addr) (n1 c1 n2 c2:Nat),u10= .agg (six k lo hi lz o1 o2 n1 c1 n2 c2).toArray∧ai M w' tc (six k lo hi lz o1 o2 n1 c1 n2 c2)∧w'.ownsRow B 70 6 (.slice (some ⟨g,0,none⟩) (n+1) c) (n+1) (cs++if s15 then(six k lo hi lz o1 o2 n1 c1 n2 c2) else zero6))
theorem Gf (h:rdB M B W (Value.slice (some ⟨g0,0,none⟩) (m+1) c0) m bs sv iv gr n cs tc s10 s12 s13 s14 s15 s18 u10 u12 u13 u14 w') (h13:s13=false):Below W.heap.size W w'∧(s10=true→∃(k lo hi:Int) (lz:Bool) (o1 o2:Option Addr) (n1 c1 n2 c2:Nat),u10= .agg (six k lo hi lz o1 o2 n1 c1 n2 c2).toArray∧ai M w' tc (six k lo hi lz o1 o2 n1 c1 n2 c2))∧(s12=true→∃z,u12= .slice (some ⟨z,0,none⟩) 1 1∧W.heap.size≤z∧Blk w' z zero6.toArray 70):=h.1 h13
theorem Jh (h13:s13=false) (h:rdB M B W (Value.slice (some ⟨g0,0,none⟩) (m+1) c0) m bs sv iv gr n cs tc s10 s12 s13 s14 s15 s18 u10 u12 u13 u14 w) (hn:ai M w' tc (six k lo hi lz o1 o2 n1 c1 n2 c2)) (hb:Below w.heap.size w w'):rdB M B W (Value.slice (some ⟨g0,0,none⟩) (m+1) c0) m bs sv iv gr n cs tc true s12 s13 s14 s15 s18 (.agg (six k lo hi lz o1 o2 n1 c1 n2 c2).toArray) u12 u13 u14 w':=by
 obtain⟨h1,h2,h3⟩:=h.1 h13;refine⟨fun _=>⟨h1.trans (hb.mono h1.size),fun _=>⟨k,lo,hi,lz,o1,o2,n1,c1,n2,c2,rfl,hn⟩,fun e=> ?_⟩,fun e=>(by rw[h13] at e;cases e)⟩;obtain⟨z,hz1,hz2,hz3⟩:=h3 e;exact⟨z,hz1,hz2,hz3.below hb hz3.lt⟩
theorem Gg (h13:s13=false) (h:rdB M B W (Value.slice (some ⟨g0,0,none⟩) (m+1) c0) m bs sv iv gr n cs tc s10 s12 s13 s14 s15 s18 u10 u12 u13 u14 w):rdB M B W (Value.slice (some ⟨g0,0,none⟩) (m+1) c0) m bs sv iv gr n cs tc s10 true s13 s14 s15 s18 u10 (.slice (some ⟨w.heap.size,0,none⟩) 1 1) u13 u14 (w.alloc (.cells zero6.toArray 70)):=by
 obtain⟨h1,h2,h3⟩:=h.1 h13;refine⟨fun _=>⟨h1.alloc h1.size _,fun e=> ?_,fun _=>⟨_,rfl,h1.size,Blk.new _ _ _⟩⟩,fun e=>(by rw[h13] at e;cases e)⟩;obtain⟨k,lo,hi,lz,o1,o2,n1,c1,n2,c2,e1,hn⟩:=h2 e;exact⟨k,lo,hi,lz,o1,o2,n1,c1,n2,c2,e1,ai.go ((Kept.refl (fun _=>False) w).alloc _) (fun q _ hq=>⟨id,hq⟩) hn⟩
theorem MG (h14:s14=false) (h15:s15=false) (h18:s18=false) (h:rdB M B W (Value.slice (some ⟨g0,0,none⟩) (m+1) c0) m bs sv iv gr n cs tc true true false s14 s15 s18 u10 u12 u12 u14 w) (hM:∀b,b<w.heap.size→M b→sv.ownBlock≠some b)
  (hrow:W.ownsRow B 155 3 (Value.slice (some ⟨g0,0,none⟩) (m+1) c0) (m+1) (bs++[sv,iv,.bool gr])) (hne:sv.ownBlock≠some g0)
  (h1:w'.ownsRow B 70 6 v' (n+1) (cs++zero6)) (h2:w.grownBy w' sv.ownBlock) (h3:v'.ownBlock=sv.ownBlock∨v'.ownBlock=some w.heap.size):rdB M B W (Value.slice (some ⟨g0,0,none⟩) (m+1) c0) m bs sv iv gr n cs tc true true true s14 s15 s18 u10 u12 v' u14 w':=by
 obtain⟨hb,hc,-⟩:=h.1 rfl;have h1':=h1;rcases h1.2 with⟨_,h0⟩|⟨g,c,cur,rfl,-⟩
 ·omega
 have hg0:g0<W.heap.size:=(hrow.lt g0 rfl).2;have hsz:=hb.size;have k1:Kept (fun b=>sv.ownBlock=some b) W w':=(Kept.of_below hb _).trans (eU h2);obtain⟨k,lo,hi,lz,o1,o2,n1,c1,n2,c2,e1,hn⟩:=hc rfl;subst h14 h15 h18;refine⟨fun e=>(by cases e),fun _=>⟨g,c,rfl,fun e=>(by cases e),?_,?_,k1.mono (fun _ _ h=> .inl h),fC hrow k1 (fun b hb e=>hne (by rw[e];exact hb.symm)),k,lo,hi,lz,o1,o2,n1,c1,n2,c2,e1,ai.go (eU h2) (fun q hq hm=>⟨fun e=>hM q hq hm e,hm⟩) hn,h1'⟩⟩
 ·rcases h3 with h3|h3
  ·exact .inl h3.symm
  ·simp only[Value.ownBlock,Option.some.injEq] at h3;exact .inr (by omega)
 ·show g≠g0
  intro e;subst e;rcases h3 with h3|h3
  ·exact hne h3.symm
  ·simp only[Value.ownBlock,Option.some.injEq] at h3;omega
theorem PT (h:rdB M B W (Value.slice (some ⟨g0,0,none⟩) (m+1) c0) m bs sv iv gr n cs tc s10 s12 true s14 s15 s18 u10 u12 u13 u14 w') (hu:u13= .slice (some ⟨g,0,none⟩) (n+1) c):rdB M B W (Value.slice (some ⟨g0,0,none⟩) (m+1) c0) m bs sv iv gr n cs tc s10 s12 true true s15 s18 u10 u12 u13 (.pointer (some ⟨g,n*6,none⟩)) w':=by
 obtain⟨g',c',e,-,h3⟩:=h.2 rfl;rw[hu] at e;simp only[Value.slice.injEq,Option.some.injEq,Addr.mk.injEq,and_true,true_and] at e;obtain⟨rfl,rfl⟩:=e;exact⟨fun e=>(by cases e),fun _=>⟨g,c,hu,fun _=>rfl,h3⟩⟩
theorem PU (hcl:cs.length=n*6) (hM:∀b,M b→sv.ownBlock≠some b∧b<W.heap.size) (h:rdB M B W (Value.slice (some ⟨g0,0,none⟩) (m+1) c0) m bs sv iv gr n cs tc s10 s12 true s14 false s18 u10 u12 u13 u14 w') (hu:u13= .slice (some ⟨g,0,none⟩) (n+1) c) (Dz:u10= .agg (six k lo hi lz o1 o2 n1 c1 n2 c2).toArray):
  rdB M B W (Value.slice (some ⟨g0,0,none⟩) (m+1) c0) m bs sv iv gr n cs tc s10 s12 true s14 true s18 u10 u12 u13 u14 ((((((w'.setCell ⟨g,n*6,none⟩ (.int .u8 k)).setCell ⟨g,n*6+1,none⟩ (.slice o1 n1 c1)).setCell ⟨g,n*6+2,none⟩ (.int .i64 lo)).setCell ⟨g,n*6+3,none⟩ (.int .i64 hi)).setCell ⟨g,n*6+4,none⟩ (.bool lz)).setCell ⟨g,n*6+5,none⟩ (.slice o2 n2 c2)):=by
 obtain⟨g',c',e,h2,h3,h4,h5,h6,k',lo',hi',lz',o1',o2',n1',c1',n2',c2',e1,hn,h7⟩:=h.2 rfl;rw[hu] at e;simp only[Value.slice.injEq,Option.some.injEq,Addr.mk.injEq,and_true,true_and] at e;obtain⟨rfl,rfl⟩:=e;rw[Dz] at e1;simp only[six,Value.agg.injEq,List.toArray_inj,List.cons.injEq,Value.int.injEq,Value.slice.injEq,Value.bool.injEq,true_and,and_true] at e1;obtain⟨rfl,⟨rfl,rfl,rfl⟩,rfl,rfl,rfl,rfl,rfl,rfl⟩:=e1;have kk:Kept (fun b=>b=g) w' _:=og (g:=g) (Kept.refl (fun b=>b=g) w') (fun _=>rfl) (.int .u8 k) (.slice o1 n1 c1) (.int .i64 lo) (.int .i64 hi) (.bool lz) (.slice o2 n2 c2) (m:=n);refine⟨fun e=>(by cases e),fun _=>⟨g,c,hu,h2,h3,h4,?_,?_,k,lo,hi,lz,o1,o2,n1,c1,n2,c2,Dz,?_,?_⟩⟩
 ·exact og h5 (fun hg=>(h3.resolve_right (by omega)) |> .inl) _ _ _ _ _ _
 ·exact fC h6 kk (fun b hb e=>h4 (by rw[←e];rw[hb];rfl))
 ·refine ai.go kk (fun q hq hm=>⟨fun e=> ?_,hm⟩) hn;have:=hM q hm;rcases h3 with h3|h3
  ·exact this.1 (by rw[e];exact h3)
  ·omega
 ·exact AY h7 hcl _ _ _ _ _ _
theorem MH (hbl:bs.length=m*3) (hM:∀b,M b→b≠g0) (h:rdB M B W (Value.slice (some ⟨g0,0,none⟩) (m+1) c0) m bs sv iv gr n cs tc s10 s12 true s14 s15 false u10 u12 u13 u14 w') (hu:u13= .slice (some ⟨g,0,none⟩) (n+1) c):rdB M B W (Value.slice (some ⟨g0,0,none⟩) (m+1) c0) m bs sv iv gr n cs tc s10 s12 true s14 s15 true u10 u12 u13 u14 (w'.setCell ⟨g0,m*3,none⟩ (.slice (some ⟨g,0,none⟩) (n+1) c)):=by
 obtain⟨g',c',e,h2,h3,h4,h5,h6,k,lo,hi,lz,o1,o2,n1,c1,n2,c2,e1,hn,h7⟩:=h.2 rfl;rw[hu] at e;simp only[Value.slice.injEq,Option.some.injEq,Addr.mk.injEq,and_true,true_and] at e;obtain⟨rfl,rfl⟩:=e;have kk:Kept (fun b=>b=g0) w' (w'.setCell ⟨g0,m*3,none⟩ (.slice (some ⟨g,0,none⟩) (n+1) c)):=(Kept.refl (fun b=>b=g0) w').setCell (p:=⟨g0,m*3,none⟩) (fun _=>rfl) _;refine⟨fun e=>(by cases e),fun _=>⟨g,c,hu,h2,h3,h4,h5.setCell (p:=⟨g0,m*3,none⟩) (fun _=> .inr rfl) _,(yS h6 hbl _).1,k,lo,hi,lz,o1,o2,n1,c1,n2,c2,e1,ai.go kk (fun q _ hm=>⟨hM q hm,hm⟩) hn,?_⟩⟩;exact fC h7 kk (fun b hb e=>h4 (by simp only[Value.ownBlock,Option.some.injEq] at hb;rw[hb,e];rfl))
def uB (B:Nat) (W:World) (v:Value) (xs:List OpV) (iv:Value) (b:Nat):Prop:=b<W.heap.size∧(bD B v xs b∨iv.ownBlock=some b)
theorem MI {pre:List Wy.Op} {ys:List OpV} {o:Wy.Op}
  (hst:aZ 155 70 B W (Value.slice (some ⟨g0,0,none⟩) (m+1) c0) (pre++[o]) (ys++[⟨sv,iv⟩])) (hm:pre.length=m) (hn:n=o.dE.length) (hB:B≤W.heap.size) (jF:au (bD B (Value.slice (some ⟨g0,0,none⟩) (m+1) c0) (ys++[⟨sv,iv⟩])) W o.dE cs)
  (h:rdB (uB B W (Value.slice (some ⟨g0,0,none⟩) (m+1) c0) (ys++[⟨sv,iv⟩]) iv) B W (Value.slice (some ⟨g0,0,none⟩) (m+1) c0) m (iM pre ys) sv iv o.group n cs (dV 3 o.items) s10 s12 true s14 true true u10 u12 u13 u14 w'):
  ∃xs,aZ 155 70 B (w'.setCell ⟨g0,m*3+1,none⟩ (.slice none 0 0)) (Value.slice (some ⟨g0,0,none⟩) (m+1) c0) (pre++[{o with dE:=o.dE++[dV 3 o.items],items:=[]}]) xs∧Below B W (w'.setCell ⟨g0,m*3+1,none⟩ (.slice none 0 0)):=by
 obtain⟨g,c,-,-,h3,h4,h5,h6,k,lo,hi,lz,o1,o2,n1,c1,n2,c2,-,ht,h7⟩:=h.2 rfl;simp only[if_true] at h6 h7;have hlast:=hst.last;have hlt:=hst.lt;have hbl:(iM pre ys).length=m*3:=by rw[jE pre ys hst.low,hm]
 have hk0:Kept (fun b=>b=g0) w' (w'.setCell ⟨g0,m*3+1,none⟩ (.slice none 0 0)):=(Kept.refl (fun b=>b=g0) w').setCell (p:=⟨g0,m*3+1,none⟩) (fun _=>rfl) _;have h5':=h5.setCell (p:=⟨g0,m*3+1,none⟩) (fun _=> .inr rfl) (.slice none 0 0);have h6':=(yS h6 hbl (.slice none 0 0)).2;have h7':=fC h7 hk0 (fun b hb e=>h4 (by simp only[Value.ownBlock,Option.some.injEq] at hb;rw[hb,e];rfl));have hownS:∀b,sv.ownBlock=some b→b∈kU (ys++[(⟨sv,iv⟩:OpV)]):=fun b hb=>by rw[aO,dK];exact List.mem_append.2 (.inr (List.mem_append.2 (.inl (aQ.2 hb))))
 have Sr:∀b,iv.ownBlock=some b→b∈kU (ys++[(⟨sv,iv⟩:OpV)]):=fun b hb=>by rw[aO,dK];exact List.mem_append.2 (.inr (List.mem_append.2 (.inr (aQ.2 hb))))
 have mJ:(⟨sv,iv⟩:OpV).own.Nodup:=by
  have:=hst.nodup;rw[aO,dK,List.nodup_append] at this;exact this.2.1
 have hsi:∀b,sv.ownBlock=some b→iv.ownBlock≠some b:=fun b hb hi=>by
  unfold OpV.own at mJ;rw[List.nodup_append] at mJ;exact mJ.2.2 b (aQ.2 hb) b (aQ.2 hi) rfl
 have hnew:∀b,b<W.heap.size→B≤b→(Value.slice (some ⟨g0,0,none⟩) (m+1) c0).ownBlock≠some b→b∉kU ys→sv.ownBlock≠some b→bD B (Value.slice (some ⟨g0,0,none⟩) (m+1) c0) (ys++[⟨.slice (some ⟨g,0,none⟩) (n+1) c,.slice none 0 0⟩]) b:=by
  intro b hb f0 f1 f2 f3;refine⟨f0,f1,fun e=> ?_⟩;rw[aO,dK] at e;rcases List.mem_append.1 e with e|e
  ·exact f2 e
  ·rcases List.mem_append.1 e with e|e
   ·have e':g=b:=by simpa [Value.ownBlock] using aQ.1 e
    subst e';rcases h3 with h3|h3
    ·exact f3 h3
    ·omega
   ·have:=aQ.1 e;simp[Value.ownBlock] at this
 have hfree:∀b,b<W.heap.size→bD B (Value.slice (some ⟨g0,0,none⟩) (m+1) c0) (ys++[⟨sv,iv⟩]) b→¬(sv.ownBlock=some b∨(Value.slice (some ⟨g0,0,none⟩) (m+1) c0).ownBlock=some b)∧bD B (Value.slice (some ⟨g0,0,none⟩) (m+1) c0) (ys++[⟨.slice (some ⟨g,0,none⟩) (n+1) c,.slice none 0 0⟩]) b:=by
  intro b hb hf;obtain⟨f0,f1,f2⟩:=hf;have f3:sv.ownBlock≠some b:=fun e=>f2 (hownS b e)
  exact⟨fun e=>e.elim f3 f1,hnew b hb f0 f1 (fun e=>f2 (by rw[aO];exact List.mem_append.2 (.inl e))) f3⟩
 refine⟨ys++[⟨.slice (some ⟨g,0,none⟩) (n+1) c,.slice none 0 0⟩],hst.top (x':=⟨.slice (some ⟨g,0,none⟩) (n+1) c,.slice none 0 0⟩) h5' (fun b _ hb=> ?_) (by rw[hm];exact h6') (fun b hb=> ?_) ?_ ?_ ?_,h5'.gK hB (fun b hb e=> ?_)⟩
 ·rcases hb with hb|hb
  ·exact .inl (List.mem_append.2 (.inl (aQ.2 hb)))
  ·exact .inr hb
 ·rcases List.mem_append.1 hb with hb|hb
  ·have e':g=b:=by simpa [Value.ownBlock] using aQ.1 hb
   subst e';rcases h3 with h3|h3
   ·exact .inl (List.mem_append.2 (.inl (aQ.2 h3)))
   ·exact .inr h3
  ·have:=aQ.1 hb;simp[Value.ownBlock] at this
 ·simp[OpV.own,wS,Value.ownBlock]
 ·refine⟨cs++(six k lo hi lz o1 o2 n1 c1 n2 c2),?_,au.append (au.go h5' hfree jF) (au.one (ai.go hk0 (fun b hb hb2=> ?_) ht))⟩
  ·rw[List.length_append,List.length_singleton,←hn];exact h7'
  ·obtain⟨hbW,hb2⟩:=hb2;rcases hb2 with hb2|hb2
   ·exact⟨fun e=>hb2.2.1 (by rw[e];rfl),(hfree b hbW hb2).2⟩
   ·have hl:=hst.qF b (List.mem_append.2 (.inr (aQ.2 hb2)));refine⟨fun e=>hl.2 (by rw[e];rfl),hnew b hbW (hlt b (Sr b hb2)).1 hl.2 hl.1 (fun e=>hsi b e hb2)⟩
 ·exact fO.nil
 ·rcases e with e|e
  ·have:=(hlt b (hownS b e)).1;omega
  ·have:=(hst.row.lt b e).1;omega
theorem PV {pre:List Wy.Op} {ys:List OpV} {o:Wy.Op} {x:OpV} (e:Nat→Value)
  (hi:i<s.size) (hs:s.size≤1024) (hbar:byteAt s i=124)
  (dh:aZ 155 70 B W0 (Value.slice (some ⟨g0,0,none⟩) (m+1) c0) (pre++[o]) (ys++[x])) (hm:pre.length=m) (hml:m≤1000000) (hB0:B≤W0.heap.size) (hil:o.dE.length≤1000000) (hil2:o.items.length≤1000000)
  (hJ:∀a' w',gG B rb s (i+1) (pre++[{o with dE:=o.dE++[dV 3 o.items],items:=[]}]) W0 a' w'→J a' w'):
  Code.wp Tryz.prog (rdC [1,1,1,0,0,0]) (Exit.then J Q) ⟨#[.string s,e 1,.pointer (some ⟨rb,0,none⟩),e 3,.slice (some ⟨g0,0,none⟩) (m+1) c0,.int .i64 i,e 6,e 7,e 8,e 9,e 10,e 11,e 12,e 13,e 14,e 15,e 16,e 17,e 18,e 19,e 20,e 21,e 22,e 23,e 24,e 25,e 26,e 27,e 28,e 29,e 30,e 31,e 32,e 33,e 34,e 35,e 36,e 37,e 38,e 39,e 40,e 41,e 42,e 43,e 44,e 45,e 46,e 47,e 48,e 49,e 50,e 51,e 52,e 53,e 54,e 55,e 56,e 57,e 58,e 59,e 60,e 61,e 62,e 63,e 64,e 65,e 66,e 67,e 68,e 69,e 70,e 71,e 72,e 73,e 74,e 75,e 76,e 77,e 78,e 79,e 80,e 81,e 82,e 83,e 84,e 85,e 86,e 87,e 88,e 89,e 90,e 91,e 92,e 93,e 94,e 95,e 96,e 97,e 98,e 99,e 100,e 101,e 102,e 103,e 104,e 105,e 106,e 107,e 108,e 109,e 110,e 111,e 112,e 113,e 114,e 115,e 116,e 117,e 118,e 119,e 120,e 121,e 122,e 123,e 124,e 125,e 126,e 127,e 128,e 129,e 130,e 131,e 132,e 133,e 134,e 135,e 136,e 137,e 138,e 139,e 140,e 141,e 142,e 143,e 144,e 145,e 146,e 147,e 148,e 149,e 150,e 151,e 152,e 153,e 154,e 155,e 156,e 157,e 158,e 159,e 160,e 161,e 162,e 163,e 164,e 165,e 166,e 167,e 168,e 169,e 170,e 171,e 172,e 173,e 174,e 175,e 176],[]⟩ W0:=by
 have hb:(s[i].toNat:Int)=124:=by rw[get_at hi,hbar];rfl
 have hsI:(s.size:Int)≤1024:=(by omega);have hiI:(i:Int)<s.size:=(by omega);have hmI:(m:Int)≤1000000:=(by omega);have HJ:=zh hJ;have hbw:Below W0.heap.size W0 (W0.alloc (.cells #[.int .u8 2,.slice none 0 0,.int .i64 0,.int .i64 0,.bool false,.slice none 0 0] 70)):=zR.alloc zL _;have hst:=dh.below hbw;have hB:B≤(W0.alloc (.cells #[.int .u8 2,.slice none 0 0,.int .i64 0,.int .i64 0,.bool false,.slice none 0 0] 70)).heap.size:=Nat.le_trans hB0 hbw.size;have HBW:=zh (hbw.mono hB0);have HST:=zh hst;have HB:=zh hB;have HM:=zh hm;clear hJ hbw dh hst hB hB0 hm hbar;conv=>arg 2;whnf
 go_upto_region 13 with fail
 generalize (W0.alloc (.cells #[.int .u8 2,.slice none 0 0,.int .i64 0,.int .i64 0,.bool false,.slice none 0 0] 70))=W at HBW HST HB ⊢;have hst:=HST.out;have hm:=HM.out;have hlast:=hst.last;have hlow:=hst.low;obtain⟨sv,iv⟩:=x;obtain⟨cs,hown,jF⟩:=hlast.1;obtain⟨gs,cc,hsv⟩:=hlast.1.slice;obtain⟨is,Ji,OG⟩:=hlast.2;obtain⟨gi,ci,hiv⟩:=hlast.2.slice;simp only at hsv hown hiv Ji;subst hsv hiv;have hrow:=hst.row;rw[fD _ _ _ _ hlow,List.length_append,List.length_singleton,hm] at hrow;have hbs:(iM pre ys).length=m*3:=by rw[jE pre ys hlow,hm]
 have hne:(Value.slice gs o.dE.length cc).ownBlock≠some g0:=fun e=>(hst.qF g0 (List.mem_append.2 (.inl (aQ.2 e)))).2 rfl
 have PW:(Value.slice gi o.items.length ci).ownBlock≠some g0:=fun e=>(hst.qF g0 (List.mem_append.2 (.inr (aQ.2 e)))).2 rfl
 have mJ:(⟨Value.slice gs o.dE.length cc,Value.slice gi o.items.length ci⟩:OpV).own.Nodup:=by
  have:=hst.nodup;rw[aO,dK,List.nodup_append] at this;exact this.2.1
 have hM1:∀b,uB B W (Value.slice (some ⟨g0,0,none⟩) (m+1) c0) (ys++[⟨Value.slice gs o.dE.length cc,Value.slice gi o.items.length ci⟩]) (Value.slice gi o.items.length ci) b→(Value.slice gs o.dE.length cc).ownBlock≠some b∧b<W.heap.size∧b≠g0:=by
  intro b hb;refine⟨fun e=> ?_,hb.1,fun e=> ?_⟩
  ·rcases hb.2 with h|h
   ·exact h.2.2 (by rw[aO,dK];exact List.mem_append.2 (.inr (List.mem_append.2 (.inl (aQ.2 e)))))
   ·unfold OpV.own at mJ;rw[List.nodup_append] at mJ;exact mJ.2.2 b (aQ.2 e) b (aQ.2 h) rfl
  ·rcases hb.2 with h|h
   ·exact h.2.1 (by rw[e];rfl)
   ·exact PW (by rw[←e];exact h)
 have hcall:∀w,Below W.heap.size W w→Calls Tryz.prog 83 #[.int .u8 3,.slice gi o.items.length ci] w (Trd (uB B W (Value.slice (some ⟨g0,0,none⟩) (m+1) c0) (ys++[⟨Value.slice gs o.dE.length cc,Value.slice gi o.items.length ci⟩]) (Value.slice gi o.items.length ci)) (dV 3 o.items) w):=by
  intro w hb;have kb:=zK hb;exact pU (k:=3) (gp (pI Ji (N:=fun b=>(Value.slice gi o.items.length ci).ownBlock=some b) (fun b hb=>hb)) kb (fun b hb h=>⟨id,hb,.inr h⟩)) (au.go kb (fun b hb h=>⟨id,hb,.inl h⟩) OG) (by omega) (by omega)
 have hfin:=fun s10 s12 s14 u10 u12 u13 u14 w'=>MI (s10:=s10) (s12:=s12) (s14:=s14) (u10:=u10) (u12:=u12) (u13:=u13) (u14:=u14) (w':=w') hst hm rfl HB.out jF
 obtain⟨i0,hi0,hz0,hz1,hz2⟩:=info_parts CO;obtain⟨n,hn⟩:∃n,n=o.dE.length:=⟨_,rfl⟩;obtain⟨ni,hni⟩:∃n,n=o.items.length:=⟨_,rfl⟩;rw[←hn] at hne hown hil;rw[←hni] at PW;rw[←hn,←hni] at hM1 hcall hfin;have hrow':W.ownsRow B 155 3 (Value.slice (some ⟨g0,0,none⟩) (m+1) c0) (m+1) (iM pre ys++[.slice gs n cc,.slice gi ni ci,.bool o.group]):=by rw[←hn,←hni] at hrow;exact hrow
 have htop:=last3 hrow' hbs;have hcl:cs.length=n*6:=hown.1;have hm1:(m:Int)<(m:Int)+1:=(by omega);have hn1:(n:Int)<(n:Int)+1:=(by omega);have hnI:(n:Int)≤1000000:=(by omega);have PX:=zh htop;have HOWN:=zh hown;have dQ:=zh hrow';have HBS:=zh hbs;have HCL:=zh hcl;have HNE:=zh hne;have HM1:=zh hM1;have aS:=zh hcall;have bW:=zh hfin;clear hst hm hlast hlow hrow hrow' hbs htop hown jF Ji OG hn hni hcl hne PW mJ hM1 hcall hfin;apply mV ?hm ?hok [some _,some _,some _,some _,some _,some _,some _,some _,some _,some _,none,some _,none,none,none,some undef,some _,some _,some undef] (fun S u w'=>rdB (uB B W (Value.slice (some ⟨g0,0,none⟩) (m+1) c0) (ys++[⟨.slice gs n cc,.slice gi ni ci⟩]) (.slice gi ni ci)) B W (Value.slice (some ⟨g0,0,none⟩) (m+1) c0) m (iM pre ys) (.slice gs n cc) (.slice gi ni ci) o.group n cs (dV 3 o.items) (S 10) (S 12) (S 13) (S 14) (S 15) (S 18) (u 10) (u 12) (u 13) (u 14) w') ?hw ?h
 case hm=>rfl
 case hok=>kernel_rfl
 case hw=>exact⟨fun _=>⟨zR.drew,fun e=>(by cases e),fun e=>(by cases e)⟩,fun e=>(by cases e)⟩
 case h=>
  intro u;iterate 10
   apply bZ rfl
   case hs=>exact fun _ _ _ h=>h
   case h=>
    intro S w hS hW K hK;have hb:=(Gf hW (hS.last 13 (by kernel_rfl))).1;have t:=PX.out;have t0:=((dU hb).1 _ _ t.2.2.2.2).trans t.1;have t1:=((dU hb).1 _ _ t.2.2.2.2).trans t.2.1;have tz:g0<w.heap.size:=Nat.lt_of_lt_of_le t.2.2.2.2 hb.size;clear t hb hW hS
    go_wp2_with fail
    exact hK
   case' k=>simp only[zP,zQ,zB,zC]
  apply bH rfl
  case h=>
   intro S w hS hW K hK;have h13:=hS.last 13 (by kernel_rfl);have hC:=aS.out w (hW.1 h13).1;have hK':=fun k lo hi lz o1 o2 n1 c1 n2 c2 w' hn hb=>hK (.agg (six k lo hi lz o1 o2 n1 c1 n2 c2).toArray) w' (Jh h13 hW hn hb)
   have HK:=zh hK';have HC:=zh hC;clear hS hW hK hK' h13 hC
   go_wp2_with (go_at_call 83;(refine HC.out.mono ?_;rintro e w' ⟨cs,rfl,hn,hb'⟩))
   obtain⟨k,lo,hi,lz,o1,o2,n1,c1,n2,c2,rfl⟩:=iP hn;exact HK.out k lo hi lz o1 o2 n1 c1 n2 c2 _ hn hb'
  case' k=>simp only[zP,zQ,zB,zC]
  apply bZ rfl
  case hs=>exact fun _ _ _ h=>h
  case h=>
   intro S w hS hW K hK;clear hS hW
   go_wp2_with fail
   exact hK
  case' k=>simp only[zP,zQ,zB,zC]
  apply bH rfl
  case h=>
   intro S w hS hW K hK;have hK':=hK _ _ (Gg (hS.last 13 (by kernel_rfl)) hW);have HK:=zh hK';clear hS hW hK hK'
   go_wp2_with fail
   exact HK.out
  case' k=>simp only[zP,zQ,zB,zC]
  apply bH rfl
  case h=>
   intro S w hS hW K hK;have h10:=hS.deps 10 (by kernel_rfl);have h12:=hS.deps 12 (by kernel_rfl);have h13:=hS.new;have hK':=fun v' w' h1 h2 h3=>hK v' w' (by
    show rdB _ _ _ _ _ _ _ _ _ _ _ _ (S 10) (S 12) true (S 14) (S 15) (S 18) (u 10) (u 12) v' (u 14) w'
    rw[h10,h12];refine MG (hS.last 14 (by kernel_rfl)) (hS.last 15 (by kernel_rfl)) (hS.last 18 (by kernel_rfl)) (w:=w) ?_ (fun b _ hb=>(HM1.out b hb).1) dQ.out HNE.out h1 h2 h3;simp only[h10,h12,h13] at hW;exact⟨hW.1,fun e=>(by cases e)⟩)
   simp only[h10,h12,h13] at hW;obtain⟨hb,-,hz⟩:=hW.1 rfl;obtain⟨z,zJ,ze1,ze2⟩:=hz rfl;rw[zJ];rw[zJ] at hK';refine aY _ _ 68 rfl Tryz.underlying68 hi0 hz0 hz1 hz2 rfl (.slice gs n cc) n cs rfl (fC HOWN.out (zK hb) (fun _ _=>id)) _ 1 zero6 rfl (srcB ze2) rfl (by simp[zero6,Value.oneCell']) (by unfold maxLen;omega) (by omega) (Nat.le_trans HB.out hb.size) ?_;intro v' w' h1 h2 h3 h4;exact hK' _ _ h1 h2 h3
  case' k=>simp only[zP,zQ,zB,zC]
  apply bH rfl
  case h=>
   intro S w hS hW K hK;have h13:=hS.deps 13 (by kernel_rfl);simp only[h13] at hW;obtain⟨g,c,hu,-⟩:=hW.2 rfl;have hK':=hK _ _ (by show rdB _ _ _ _ _ _ _ _ _ _ _ _ (S 10) (S 12) (S 13) true (S 15) (S 18) (u 10) (u 12) (u 13) _ w;rw[h13];exact PT hW hu);rw[hu] at hK' ⊢;have HK:=zh hK';clear hS hW hK hK' h13 hu
   go_wp2_with fail
   exact HK.out
  case' k=>simp only[zP,zQ,zB,zC]
  apply gY rfl
  case h=>
   intro S w hS hW K hK;have h13:=hS.deps 13 (by kernel_rfl);have h14:=hS.deps 14 (by kernel_rfl);have h15:=hS.new;simp only[h13,h14,h15] at hW;obtain⟨g,c,hu,Jj,-,-,-,-,k,lo,hi,lz,o1,o2,n1,c1,n2,c2,Dz,-,hrow⟩:=hW.2 rfl;have Jj:=Jj rfl;simp only[Bool.false_eq_true,if_false] at hrow;obtain⟨r0,r1,r2,r3,r4,r5,rf,rz⟩:=Om hrow HCL.out;have hK':=hK _ (by show rdB _ _ _ _ _ _ _ _ _ _ _ _ (S 10) (S 12) (S 13) (S 14) true (S 18) (u 10) (u 12) (u 13) (u 14) _;rw[h13,h14];exact PU HCL.out (fun b hb=>⟨(HM1.out b hb).1,(HM1.out b hb).2.1⟩) hW hu Dz);rw[Jj,Dz];rw[Jj,Dz] at hK';simp only[six];simp only[six] at hK';have HK:=zh hK';clear hS hW hK hK' h13 h14 h15 hu Jj Dz hrow
   go_wp2_with fail
   exact HK.out
  case' k=>simp only[zP,zQ,zB,zC]
  iterate 2
   apply bZ rfl
   case hs=>exact fun _ _ _ h=>h
   case h=>
    intro S w hS hW K hK;clear hS hW
    go_wp2_with fail
    exact hK
   case' k=>simp only[zP,zQ,zB,zC]
  apply gY rfl
  case h=>
   intro S w hS hW K hK;have h13:=hS.deps 13 (by kernel_rfl);have h18:=hS.new;simp only[h13,h18] at hW;obtain⟨g,c,hu,-,-,-,-,hrow,-⟩:=hW.2 rfl;simp only[Bool.false_eq_true,if_false] at hrow;obtain⟨r0,r1,r2,rf,rz⟩:=last3 hrow HBS.out;have hK':=hK _ (by show rdB _ _ _ _ _ _ _ _ _ _ _ _ (S 10) (S 12) (S 13) (S 14) (S 15) true (u 10) (u 12) (u 13) (u 14) _;rw[h13];exact MH HBS.out (fun b hb=>(HM1.out b hb).2.2) hW hu);rw[hu];rw[hu] at hK';have HK:=zh hK';clear hS hW hK hK' h13 h18 hu hrow
   go_wp2_with fail
   exact HK.out
  case' k=>simp only[zP,zQ,zB,zC]
  refine kV ?_;intro S w' hS hW;have h13:=hS 13 (by decide);have h15:=hS 15 (by decide);have h18:=hS 18 (by decide);simp only[h13,h15,h18] at hW;obtain⟨xs,f1,f2⟩:=bW.out _ _ _ _ _ _ _ _ hW;obtain⟨g,c,hu,-,-,-,-,hrow,-⟩:=hW.2 rfl;simp only[if_true] at hrow;obtain⟨r0,r1,r2,rf,rz⟩:=last3 hrow HBS.out;have hJ':=fun(l:List Value) h1 h2 h3 h4 h5=>HJ.out ⟨l.toArray,[]⟩ _ ⟨l,_,xs,rfl,h1,h2,h3,h4,h5,f1,HBW.out.trans f2⟩
  have HJ':=zh hJ';clear hW hS h13 h15 h18 f1 f2 hrow hu hJ'
  go_wp2_with fail
  exact HJ'.out _ rfl rfl rfl rfl rfl
end Go.Proofs.YtnhjakdmbfadlaaGreatDoor
