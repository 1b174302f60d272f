/- Parts of the proof. Conditions: none. -/
import Derived.Test.YtnhjakdmbfadlaaGreatDoorT04
import Derived.Test.YtnhjakdmbfadlaaGreatDoorT00
import Derived.Test.YtnhjakdmbfadlaaGreatDoorT02
import Derived.Outline
set_option linter.all false
set_option maxHeartbeats 8000000
set_option maxRecDepth 100000
namespace Go.Proofs.YtnhjakdmbfadlaaGreatDoor
open Go.RowKit Wy Mem Grow
variable {lazy:Bool} {hi k lo:Int} {bs cs xs:List Value} {B b base c g m n q sz:Nat} {N:Nat→Prop} {t tp:Nd} {T e:TypeId} {a0 a1 a2 a3 a4 a5 c3 c4 c5 v v':Value} {W w w' w0:World}
theorem O1:(Tryz.prog.info? 27).map (fun i=>(i.zero,i.size,i.bytes))=some (some (.agg #[.int .u8 0,.slice none 0 0,.int .i64 0,.int .i64 0,.bool false,.slice none 0 0]),6,80):=by kernel_rfl
theorem CU (w:World) (e:TypeId) (sz:Nat):(w.alloc (.cells #[] e)).ownsRow w.heap.size e sz (.slice (some ⟨w.heap.size,0,none⟩) 0 0) 0 []:=
 ⟨by simp,.inr ⟨w.heap.size,0,_,rfl,Nat.le_refl _,heap_alloc_new w _,Nat.le_refl _,by unfold maxLen;omega,by simp,by simp⟩⟩
def qJ (x:Sm):List Value:=[.int .u8 x.kind,.int .u8 x.a,.int .u8 x.b]
structure xQ (N:Nat→Prop) (w:World) (v:Value) (L:List Sm):Prop where
 row:Row N w v L.length 3 (L.flatMap qJ)
 ok:∀x∈L,x.kind<256∧x.a<256∧x.b<256
theorem xQ.take {L:List Sm} (h:xQ N w v L) {o:Option Addr} {c n:Nat} (hv:v= .slice o L.length c) (hn:n≤L.length):xQ N w (.slice o n c) (L.take n):=by
 refine⟨⟨iZ (f:=qJ) (n:=3) (fun _=>rfl) _,?_⟩,fun x hx=>h.ok x (List.mem_of_mem_take hx)⟩;have hl:(L.take n).length=n:=by rw[List.length_take];omega
 rcases h.row.at_ with⟨h0,_⟩|⟨b,off,cap,rfl,h1,h2,h3,h4,h5⟩
 ·left
  exact⟨by omega,o,c,by rw[show n=0 by omega]⟩
 ·simp only[Value.slice.injEq,true_and] at hv;obtain⟨rfl,rfl⟩:=hv;refine .inr ⟨b,off,cap,by rw[hl],by omega,h2,h3,h4,fun j hj=> ?_⟩;have hj':j<(L.flatMap qJ).length:=by
   rw[iZ (f:=qJ) (n:=3) (fun _=>rfl)] at hj ⊢;rw[hl] at hj;omega
  rw[h5 j hj'];have:L.flatMap qJ=(L.take n).flatMap qJ++(L.drop n).flatMap qJ:=by rw[←List.flatMap_append,List.take_append_drop]
  rw[this,List.getElem?_append_left hj]
theorem qK {c0 c1 c2:Value} (hb:b=W.heap.size):dI (W.alloc (.cells #[c0,c1,c2,c3,c4,c5] T)) (.slice (some ⟨b,0,none⟩) 1 1) 1 [c0,c1,c2,c3,c4,c5]:=by
 subst hb;have hB:=Blk.new W #[c0,c1,c2,c3,c4,c5] T;refine .inr ⟨_,_,rfl,fun j u hu=> ?_⟩
 match j with
 |0=>simp at hu;subst hu;simp[Addr.add,hB.cell]
 |1=>simp at hu;subst hu;simp[Addr.add,hB.cell]
 |2=>simp at hu;subst hu;simp[Addr.add,hB.cell]
 |3=>simp at hu;subst hu;simp[Addr.add,hB.cell]
 |4=>simp at hu;subst hu;simp[Addr.add,hB.cell]
 |5=>simp at hu;subst hu;simp[Addr.add,hB.cell]
 |j+6=>simp at hu
def Mde (L:List Sm) (w:World) (e:Ending) (w':World):Prop:=∃cs,e= .returned (.agg cs.toArray)∧ai (fun q=>w.heap.size≤q) w' (sU L) cs∧Below w.heap.size w w'
def Oo:Array Value:= #[.int .u8 0,.slice none 0 0,.int .i64 0,.int .i64 0,.bool false,.slice none 0 0]
structure jP (w0 w:World) (v:Value) (l:List Nd) (n:Nat):Prop where
 pile:kH 27 (w0.heap.size+1) w v l
 res:Blk w w0.heap.size Oo 27
 below:Below w0.heap.size w0 w
 good:jA n l
theorem jP.go {l:List Nd} (h:jP w0 w v l n) (k:Below w.heap.size w w'):jP w0 w' v l n:=
 ⟨h.pile.below k,h.res.below k h.res.lt,h.below.trans (k.mono h.below.size),h.good⟩
theorem jP.len {l:List Nd} (h:jP w0 w v l n):l.length≤n:=h.good.len
theorem jP.more {l:List Nd} {x:Nd} (h:jP w0 w v l n) (hr:w.ownsRow (w0.heap.size+1) 27 6 v l.length cs) (hn:au (fun b=>v.ownBlock≠some b∧w0.heap.size+1≤b) w l cs) (hx:ai (fun b=>v.ownBlock≠some b∧w0.heap.size+1≤b) w x xs)
  (ho:w'.ownsRow (w0.heap.size+1) 27 6 v' (l.length+1) (cs++xs)) (hg:w.grownBy w' v.ownBlock) (hv:v'.ownBlock=v.ownBlock∨v'.ownBlock=some w.heap.size) (hp:jA (n+1) (l++[x])):jP w0 w' v' (l++[x]) (n+1):=by
 have hb:=hr.lt;have k:Kept (fun b=>v.ownBlock=some b) w w':=eU hg;exact⟨kH.more hr hn hx ho hg hv,h.res.kept k (fun e=>by have:=hb _ e;omega),(((Kept.of_below h.below (fun b=>v.ownBlock=some b)).trans k).gK zL (fun i hi e=>by have:=hb _ e;omega)),hp⟩
theorem nd6 (h:ai N w t cs):∃(o1 o2:Option Addr) (n1 c1 n2 c2:Nat),cs=[.int .u8 t.kind,.slice o1 n1 c1,.int .i64 t.lo,.int .i64 t.hi,.bool t.lazy,.slice o2 n2 c2]:=by
 cases t;rw[ai] at h;obtain⟨sv,uv,ucs,rfl,_,_,_,h5,h6,_⟩:=h;obtain⟨o,c,rfl⟩:=h5.row.slice;obtain⟨o',c',rfl⟩:=h6.slice;exact⟨_,_,_,_,_,_,rfl⟩
theorem Oq {l:List Nd} (h:kH T B w v l) (hl:l≠[]):∃(g c m:Nat) (cs tc:List Value),v= .slice (some ⟨g,0,none⟩) (m+1) c∧l.length=m+1∧m+1≤c∧B≤g∧g<w.heap.size∧
  w.ownsRow B T 6 (.slice (some ⟨g,0,none⟩) (m+1) c) (m+1) (cs++tc)∧cs.length=m*6∧au (fun b=>v.ownBlock≠some b∧B≤b) w l.dropLast cs∧ai (fun b=>v.ownBlock≠some b∧B≤b) w (l.getLastD bU) tc:=by
 obtain⟨cs,h1,h2⟩:=h.row;obtain⟨g,c,rfl,hb,hg,hc,-⟩:=h.at_ hl;have hs:=jB hl;have hm:l.length=l.dropLast.length+1:=by rw[List.length_dropLast];have:=List.length_pos_iff.2 hl;omega
 rw[hs] at h2;obtain⟨k1,k2⟩:=h2.split;have hcl:=h1.1;rw[au] at k2;obtain⟨a,b,e1,e2,e3⟩:=k2;rw[au] at e3;subst e3;rw[List.append_nil] at e1;refine⟨g,c,l.dropLast.length,cs.take (l.dropLast.length*6),cs.drop (l.dropLast.length*6),by rw[hm],hm,by omega,hb,hg,?_,?_,k1,?_⟩
 ·rw[List.take_append_drop,←hm];exact h1
 ·rw[List.length_take,hcl,hm];omega
 ·rw[e1];exact e2
theorem AZ:ai N w bU [.int .u8 1,.slice none 0 0,.int .i64 0,.int .i64 0,.bool false,.slice none 0 0]:=by
 unfold bU;rw[ai];exact⟨_,_,[],rfl,⟨by omega,by omega,by simp⟩,⟨by decide,by decide⟩,⟨by decide,by decide⟩,⟨⟨rfl,.inl ⟨rfl,_,_,rfl⟩⟩,by simp,by simp⟩,⟨rfl,.inl ⟨rfl,_,_,rfl⟩⟩,by rw[au]⟩
theorem yT {x:Sm} (h:x.kind%10=0) (l:List Nd):Wy.stepT l x=l++[bU]:=by unfold Wy.stepT;rw[if_pos h]
theorem En {x:Sm} {l:List Nd} (h:¬x.kind%10=0) (h5:x.kind%10<5∨l=[]):Wy.stepT l x=l++[oP x.a x.b]:=by unfold Wy.stepT;rw[if_neg h,if_pos h5]
theorem yU {x:Sm} {l:List Nd} (hl:l≠[]) (h5:x.kind%10=5):Wy.stepT l x=l.dropLast++[.mk 6 [] 0 0 false [l.getLastD bU]]:=by unfold Wy.stepT;rw[if_neg (by omega),if_neg (by rintro(h|h);omega;exact hl h),if_pos h5]
theorem jl {x:Sm} {l:List Nd} (hl:l≠[]) (h5:5<x.kind%10) (h8:x.kind%10<8∨l.length<2):Wy.stepT l x=l.dropLast++[tY (l.getLastD bU) x]:=by unfold Wy.stepT;rw[if_neg (by omega),if_neg (by rintro(h|h);omega;exact hl h),if_neg (by omega),if_pos h8]
theorem yV {x:Sm} {l:List Nd} (h8:8≤x.kind%10) (hl:2≤l.length):Wy.stepT l x=l.take (l.length-2-x.a%2)++[.mk (3+(x.kind%10%2:Nat)) [] 0 0 false (l.drop (l.length-2-x.a%2))]:=by
 unfold Wy.stepT;rw[if_neg (by omega),if_neg (by rintro(h|h);omega;subst h;simp at hl),if_neg (by omega),if_neg (by omega)]
theorem qL (h:W.ownsRow B T 6 (.slice (some ⟨g,0,none⟩) (m+1) c) (m+1) (cs++[a0,a1,a2,a3,a4,a5])) (hl:cs.length=m*6) (b0 b1 b2 b3 b4 b5:Value):
  ((((((W.setCell ⟨g,m*6,none⟩ b0).setCell ⟨g,m*6+1,none⟩ b1).setCell ⟨g,m*6+2,none⟩ b2).setCell ⟨g,m*6+3,none⟩ b3).setCell ⟨g,m*6+4,none⟩ b4).setCell ⟨g,m*6+5,none⟩ b5).ownsRow B T 6 (.slice (some ⟨g,0,none⟩) (m+1) c) (m+1) (cs++[b0,b1,b2,b3,b4,b5]):=by
 have:=((((((h.stored (m*6) b0).1.stored (m*6+1) b1).1.stored (m*6+2) b2).1.stored (m*6+3) b3).1.stored (m*6+4) b4).1.stored (m*6+5) b5).1;rw[xH _ _ _ _ _ _ _ _ _ _ _ _ _ hl] at this;exact this
theorem kY (b0 b1 b2 b3 b4 b5:Value):Kept (fun q=>q=g) W ((((((W.setCell ⟨g,m*6,none⟩ b0).setCell ⟨g,m*6+1,none⟩ b1).setCell ⟨g,m*6+2,none⟩ b2).setCell ⟨g,m*6+3,none⟩ b3).setCell ⟨g,m*6+4,none⟩ b4).setCell ⟨g,m*6+5,none⟩ b5):=
 ((((((Kept.refl (fun q=>q=g) W).setCell (p:=⟨g,m*6,none⟩) (fun _=>rfl) b0).setCell (p:=⟨g,m*6+1,none⟩) (fun _=>rfl) b1).setCell (p:=⟨g,m*6+2,none⟩) (fun _=>rfl) b2).setCell (p:=⟨g,m*6+3,none⟩) (fun _=>rfl) b3).setCell (p:=⟨g,m*6+4,none⟩) (fun _=>rfl) b4).setCell (p:=⟨g,m*6+5,none⟩) (fun _=>rfl) b5
theorem vH {c0 c1 c2:Value} (hB:Blk W q #[c0,c1,c2,c3,c4,c5] T) (hN:N q) (h:ai N W tp [c0,c1,c2,c3,c4,c5]) (hk:0≤k∧k≤255) (hlo:I64 lo) (hhi:I64 hi):
  ai N W (.mk k [] lo hi lazy [tp]) [.int .u8 k,.slice none 0 0,.int .i64 lo,.int .i64 hi,.bool lazy,.slice (some ⟨q,0,none⟩) 1 1]:=by
 rw[ai];refine⟨_,_,[c0,c1,c2,c3,c4,c5],rfl,⟨hk.1,hk.2,by simp⟩,hlo,hhi,⟨⟨rfl,.inl ⟨rfl,_,_,rfl⟩⟩,by simp,by simp⟩,⟨rfl,.inr ⟨q,0,1,rfl,Nat.le_refl _,by unfold maxLen;omega,hN,hB.lt,fun j hj=> ?_⟩⟩,au.one h⟩;rw[Nat.zero_add,hB.cell];simp
theorem jP.put {l:List Nd} (h:jP w0 w (.slice (some ⟨g,0,none⟩) l.length c) l n) (hl:l.length=m+1) (hBg:w0.heap.size+1≤g) (k:Kept (fun q=>q=g) w w')
  (hr:w'.ownsRow (w0.heap.size+1) 27 6 (.slice (some ⟨g,0,none⟩) (m+1) c) (m+1) (cs++bs)) (hn:au (fun q=>(Value.slice (some ⟨g,0,none⟩) l.length c).ownBlock≠some q∧w0.heap.size+1≤q) w l.dropLast cs) (ht:ai (fun q=>q≠g∧w0.heap.size+1≤q) w' t bs) (hp:jA (n+1) (l.dropLast++[t])):
  jP w0 w' (.slice (some ⟨g,0,none⟩) (m+1) c) (l.dropLast++[t]) (n+1):=by
 have hlen:(l.dropLast++[t]).length=m+1:=by simp;omega
 refine⟨⟨cs++bs,by rw[hlen];exact hr,au.append (au.go k (fun q _ hq=> ?_) hn) (au.one (ai.mono (fun q hq=> ?_) ht))⟩,h.res.kept k (by omega),((Kept.of_below h.below (fun q=>q=g)).trans k).gK zL (fun i hi e=>by omega),hp⟩
 ·have e:q≠g:=fun e=>hq.1 (by rw[e];rfl)
  exact⟨e,fun e'=>e (by simpa [Value.ownBlock] using e'.symm),hq.2⟩
 ·exact⟨fun e'=>hq.1 (by simpa [Value.ownBlock] using e'.symm),hq.2⟩
theorem dX (h:w.ownsRow base e sz v n xs) (k:Below w.heap.size w w'):w'.ownsRow base e sz v n xs:=
 fC h (zK k) (fun _ _=>id)
theorem Eo (b:Nat):((b:Int)%2 == 1)=decide (b%2=1):=by
 by_cases h:b%2=1
 ·simp[h];omega
 ·simp[h];omega
theorem Ep:∀{l:List Nd} {cs:List Value},au N w l cs→∀u∈cs,u.oneCell'=true
 |[],cs,h,u,hu=>by rw[au] at h;subst h;simp at hu
 |s::r,cs,h,u,hu=>by
  rw[au] at h;obtain⟨a,b,rfl,h2,h3⟩:=h;rcases List.mem_append.1 hu with hu|hu
  ·obtain⟨o1,o2,n1,c1,n2,c2,rfl⟩:=nd6 h2;simp only[List.mem_cons,List.not_mem_nil,or_false] at hu;rcases hu with rfl|rfl|rfl|rfl|rfl|rfl<;>rfl
  ·exact Ep h3 u hu
theorem FK {kk:Nat} (h:W.ownsRow B T 6 (.slice (some ⟨g,0,none⟩) m c) m cs) (hk:kk≤m):dI W (.slice (some ⟨g,kk*6,none⟩) (m-kk) (c-kk)) (m-kk) (cs.drop (kk*6)):=by
 refine .inr ⟨_,_,rfl,fun j u hu=> ?_⟩;rw[List.getElem?_drop] at hu;have hl:=h.1;have hj:kk*6+j<cs.length:=by
  by_cases e:kk*6+j<cs.length
  ·exact e
  ·rw[List.getElem?_eq_none (by omega)] at hu;cases hu
 have:=h.cellAt (kk*6+j) (by omega);rw[hu] at this;by_cases e:j=0
 ·subst e;simpa [Addr.add] using this
 ·simpa [Addr.add,e] using this
theorem jA.cut {k:Nat} {l:List Nd} (h:jA n l):jA n (l.take k):=by
 refine⟨fun s hs=>h.good s (List.mem_of_mem_take hs),?_,by rw[List.length_take];have:=h.len;omega⟩;have h1:=h.groups;conv at h1=>lhs;rw[←List.take_append_drop k l,aV]
 omega
theorem Es {l:List Nd} (hr:Row N W v l.length 6 cs) (h:au N W l cs) (hk:0≤k∧k≤255) (hl:l.length≤1048576):
  ai N W (.mk k [] 0 0 false l) [.int .u8 k,.slice none 0 0,.int .i64 0,.int .i64 0,.bool false,v]:=by
 rw[ai];exact⟨_,_,cs,rfl,⟨hk.1,hk.2,hl⟩,⟨by decide,by decide⟩,⟨by decide,by decide⟩,⟨⟨rfl,.inl ⟨rfl,_,_,rfl⟩⟩,by simp,by simp⟩,hr,h⟩
def mk9 (W5:World) (B g kk:Nat) (es cn:List Value):List Value→World→Prop
 |[]=>fun w'=>w'=W5.drew
 |[v1]=>fun w'=>v1= .slice (some ⟨W5.heap.size,0,none⟩) 1 1∧w'=W5.drew.alloc (.cells cn.toArray 27)
 |[_,v2]=>fun w'=>∃o c,v2= .slice o (kk+1) c∧w'.ownsRow B 27 6 (.slice o (kk+1) c) (kk+1) (es++cn)∧(W5.drew.alloc (.cells cn.toArray 27)).grownBy w' (some g)∧
   ((Value.slice o (kk+1) c).ownBlock=some g∨(Value.slice o (kk+1) c).ownBlock=some (W5.drew.alloc (.cells cn.toArray 27)).heap.size)
 |_=>fun _=>False
theorem Io {L:List Sm} (h:xQ N w v L) (hL:L.length≤9223372036854775807):Calls Tryz.prog 9 #[v] w (Mde L w):=by
 obtain⟨o,c,rfl⟩:=h.row.slice;have h20:=h.take (n:=min L.length 20) rfl (Nat.min_le_left _ _);have hcap:L.length≤c:=by
  rcases h.row.at_ with⟨h0,_⟩|⟨b,off,cap,he,h1,_⟩
  ·omega
  ·simp only[Value.slice.injEq,true_and] at he;omega
 have H20:=zh h20;clear h h20;obtain⟨n,hn⟩:∃n,n=min L.length 20:=⟨_,rfl⟩;rw[←hn] at H20;have HN:=zh hn;clear hn;go_enter Tryz.func9,Tryz.ntmps9
 go_upto_region 2 with fail
 have hB:Blk (w.alloc (.cells #[.int .u8 0,.slice none 0 0,.int .i64 0,.int .i64 0,.bool false,.slice none 0 0] 27)) w.heap.size Oo 27:=Blk.new _ _ _;have hbW:Below w.heap.size w (w.alloc (.cells #[.int .u8 0,.slice none 0 0,.int .i64 0,.int .i64 0,.bool false,.slice none 0 0] 27)):=zR.alloc zL _;generalize (w.alloc (.cells #[.int .u8 0,.slice none 0 0,.int .i64 0,.int .i64 0,.bool false,.slice none 0 0] 27))=W at hB hbW ⊢
 go_cut [11,12,13,14,15,16,17] (fun s11 s12 s13 s14 s15 s16 s17 wx=>s11= .slice o L.length c∧s12= .slice o L.length c∧s13= .int .i64 L.length∧s14= .int .i64 n∧s15= .slice o n c∧s16= .int .i64 n∧s17= .int .i64 0∧wx=W)
 case first=>
  have hn:=HN.out;by_cases h20:L.length≤20
  ·obtain rfl:n=L.length:=(by omega);have e20:(L.length:Int)≤20:=(by omega);clear hn
   go_wp2_with fail
   go_meet
   exact⟨by first|rfl|(congr 1<;>omega),by first|rfl|(congr 1<;>omega),by first|rfl|(congr 1<;>omega),by first|rfl|(congr 1<;>omega),by first|rfl|(congr 1<;>omega),by first|rfl|(congr 1<;>omega),by first|rfl|(congr 1<;>omega),rfl⟩
  ·obtain rfl:n=20:=(by omega);have e20:(20:Int)<L.length:=(by omega);clear hn
   go_wp2_with fail
   go_meet
   exact⟨by first|rfl|(congr 1<;>omega),by first|rfl|(congr 1<;>omega),by first|rfl|(congr 1<;>omega),by first|rfl|(congr 1<;>omega),by first|rfl|(congr 1<;>omega),by first|rfl|(congr 1<;>omega),by first|rfl|(congr 1<;>omega),rfl⟩
 case rest=>
  obtain⟨rfl,rfl,rfl,rfl,rfl,rfl,rfl,rfl⟩:=hcut;have O3:(L.take n).length=n:=by rw[List.length_take];have:=HN.out;omega
  have hn20:n≤20:=by have:=HN.out;omega
  obtain⟨M,hM⟩:∃M,M=L.take n:=⟨_,rfl⟩;have htk:L.take 20=M:=by
   rw[hM];have:=HN.out;by_cases h:L.length≤20
   ·rw[List.take_of_length_le h,List.take_of_length_le (by omega)]
   ·rw[show n=20 by omega]
  have HTK:=zh htk;rw[←hM] at H20 O3;have HML:=zh O3;have hn20I:(n:Int)≤20:=(by omega);obtain⟨i0,hi0,hz0,hz1,hz2⟩:=info_parts O1;have HB:=zh hB;have HBW:=zh hbW;clear hM O3 hB hbW htk
  go_wp2_with fail
  go_loopw [3,17] (fun s3 s17 wx=>∃j:Nat,j≤n∧s17= .int .i64 j∧jP w wx s3 ((M.take j).foldl Wy.stepT []) j) (fun _ s17 _=>n-(intOf s17).toNat)
  case atStart=>exact⟨0,by omega,rfl,by rw[List.take_zero];exact⟨kH.nil,HB.out,HBW.out,Am⟩⟩
  case round=>
   rename World=>Wa
   obtain⟨j,hj,rfl,hmk⟩:=hrel;by_cases hjn:¬j<n
   ·skip
    obtain rfl:n=j:=(by omega);have hml:M.take n=M:=List.take_of_length_le (by have:=HML.out;omega);rw[hml] at hmk;have hmd:sU L=Hr (M.foldl Wy.stepT []):=by unfold sU;rw[HTK.out]
    obtain⟨l,hl⟩:∃l,l=M.foldl Wy.stepT []:=⟨_,rfl⟩;rw[←hl] at hmk hmd;have hbB:=hmk.res;have hbz:=hmk.res.lt;obtain⟨b0,b1,b2,b3,b4,b5⟩:Wa.cell? ⟨w.heap.size,0,none⟩=some (.int .u8 0)∧Wa.cell? ⟨w.heap.size,1,none⟩=some (.slice none 0 0)∧Wa.cell? ⟨w.heap.size,2,none⟩=some (.int .i64 0)∧Wa.cell? ⟨w.heap.size,3,none⟩=some (.int .i64 0)∧Wa.cell? ⟨w.heap.size,4,none⟩=some (.bool false)∧Wa.cell? ⟨w.heap.size,5,none⟩=some (.slice none 0 0):=
     ⟨hbB.cell 0,hbB.cell 1,hbB.cell 2,hbB.cell 3,hbB.cell 4,hbB.cell 5⟩
    have bf:∀i,Wa.frozen? ⟨w.heap.size,i,none⟩=false:=hbB.frozen;have fin:∀(c0 c1 c2 c3 c4 c5:Value),ai (fun q=>w.heap.size<q) Wa (Hr l) [c0,c1,c2,c3,c4,c5]→Mde L w (.returned (.agg #[c0,c1,c2,c3,c4,c5])) ((((((Wa.setCell ⟨w.heap.size,0,none⟩ c0).setCell ⟨w.heap.size,1,none⟩ c1).setCell ⟨w.heap.size,2,none⟩ c2).setCell ⟨w.heap.size,3,none⟩ c3).setCell ⟨w.heap.size,4,none⟩ c4).setCell ⟨w.heap.size,5,none⟩ c5):=by
     intro c0 c1 c2 c3 c4 c5 hnd;have hk:Kept (fun q=>q=w.heap.size) Wa _:=kY (W:=Wa) (g:=w.heap.size) (m:=0) c0 c1 c2 c3 c4 c5;refine⟨[c0,c1,c2,c3,c4,c5],rfl,?_,((Kept.of_below hmk.below (fun q=>q=w.heap.size)).trans (by simpa using hk)).below (fun i hi e=>by omega)⟩;rw[hmd];exact ai.go (by simpa using hk) (fun q _ hq=>⟨by omega,by omega⟩) hnd
    have hres:∀(c0 c1 c2 c3 c4 c5:Value),Blk ((((((Wa.setCell ⟨w.heap.size,0,none⟩ c0).setCell ⟨w.heap.size,1,none⟩ c1).setCell ⟨w.heap.size,2,none⟩ c2).setCell ⟨w.heap.size,3,none⟩ c3).setCell ⟨w.heap.size,4,none⟩ c4).setCell ⟨w.heap.size,5,none⟩ c5) w.heap.size #[c0,c1,c2,c3,c4,c5] 27:=fun c0 c1 c2 c3 c4 c5=>
     (((((hbB.set 0 c0).set 1 c1).set 2 c2).set 3 c3).set 4 c4).set 5 c5
    have bW:=zh fin;have jf:=zh hres;have HPL:=zh hmk.pile;obtain⟨po,pc,rfl⟩:=hmk.pile.slice;clear fin hres hmd hbB hml hl hj hjn;rcases l with _|⟨t,_|⟨t2,r⟩⟩
    ·clear hmk;have hR:=jf.out (.int .u8 1) (.slice none 0 0) (.int .i64 0) (.int .i64 0) (.bool false) (.slice none 0 0);have HR:=zh hR;clear hR;simp only[List.length_nil]
     go_wp2_with fail
     have hR:=HR.out;have d0:=hR.cell 0;have d1:=hR.cell 1;have d2:=hR.cell 2;have d3:=hR.cell 3;have d4:=hR.cell 4;have d5:=hR.cell 5;simp at d0 d1 d2 d3 d4 d5;exact bodyPost_ret (v:= .agg #[.int .u8 1,.slice none 0 0,.int .i64 0,.int .i64 0,.bool false,.slice none 0 0]) (by simp[results,Tryz.results9,go_sem,d0,d1,d2,d3,d4,d5]) rfl (bW.out _ _ _ _ _ _ AZ)
    ·obtain⟨g,pc',m,cs,tc,hve,hlm,hmc,hBg,hgz,hown,hcl,jF,hnd⟩:=Oq HPL.out (by simp);obtain rfl:m=0:=by simpa using hlm.symm
     simp only[List.length_cons,List.length_nil,Value.slice.injEq] at hve;obtain⟨rfl,-,rfl⟩:=hve;obtain⟨o1,o2,n1,c1,n2,c2,rfl⟩:=nd6 hnd;obtain rfl:cs=[]:=List.eq_nil_of_length_eq_zero (by simpa using hcl);rw[List.nil_append] at hown;have t0:=hown.cellAt 0 (by omega);have t1:=hown.cellAt 1 (by omega);have t2:=hown.cellAt 2 (by omega);have t3:=hown.cellAt 3 (by omega);have t4:=hown.cellAt 4 (by omega);have t5:=hown.cellAt 5 (by omega);simp only[List.getElem?_cons_zero,List.getElem?_cons_succ] at t0 t1 t2 t3 t4 t5;have hnd':=ai.mono (M:=fun q=>w.heap.size<q) (fun q hq=>by omega) hnd;have HND:=zh hnd';have hR:=jf.out (.int .u8 ([t].getLastD bU).kind) (.slice o1 n1 c1) (.int .i64 ([t].getLastD bU).lo) (.int .i64 ([t].getLastD bU).hi) (.bool ([t].getLastD bU).lazy) (.slice o2 n2 c2);have HR:=zh hR;have hpc:(1:Int)≤pc:=(by omega);clear hR hown jF hnd hnd' hmk hlm hcl;simp only[List.length_cons,List.length_nil]
     go_wp2_with fail
     have hR:=HR.out;have d0:=hR.cell 0;have d1:=hR.cell 1;have d2:=hR.cell 2;have d3:=hR.cell 3;have d4:=hR.cell 4;have d5:=hR.cell 5;simp at d0 d1 d2 d3 d4 d5;exact bodyPost_ret (v:= .agg #[.int .u8 ([t].getLastD bU).kind,.slice o1 n1 c1,.int .i64 ([t].getLastD bU).lo,.int .i64 ([t].getLastD bU).hi,.bool ([t].getLastD bU).lazy,.slice o2 n2 c2]) (by simp[results,Tryz.results9,go_sem,d0,d1,d2,d3,d4,d5]) rfl (bW.out _ _ _ _ _ _ HND.out)
    ·obtain⟨cs,hown,jF⟩:=HPL.out.row;have hrow:=pI (N:=fun q=>w.heap.size<q) hown (fun q hq=>by have:=(hown.lt q hq).1;omega);have hnd:=Es (k:=3) hrow (au.mono (fun q hq=>by omega) jF) (by omega) (by have:=hmk.len;omega);have HND:=zh hnd;have hlI:(2:Int)≤((t::t2::r).length:Nat):=by simp;omega
     have hR:=jf.out (.int .u8 3) (.slice none 0 0) (.int .i64 0) (.int .i64 0) (.bool false) (.slice po (t::t2::r).length pc);have HR:=zh hR;clear hR hown jF hrow hnd hmk;generalize (t::t2::r).length=ll at HND HR hlI ⊢;have l0:((ll:Int) == 0)=false:=by simp;omega
     have l1:((ll:Int) == 1)=false:=by simp;omega
     go_wp2_with fail
     have hR:=HR.out;have d0:=hR.cell 0;have d1:=hR.cell 1;have d2:=hR.cell 2;have d3:=hR.cell 3;have d4:=hR.cell 4;have d5:=hR.cell 5;simp at d0 d1 d2 d3 d4 d5;exact bodyPost_ret (v:= .agg #[.int .u8 3,.slice none 0 0,.int .i64 0,.int .i64 0,.bool false,.slice po ll pc]) (by simp[results,Tryz.results9,go_sem,d0,d1,d2,d3,d4,d5]) rfl (bW.out _ _ _ _ _ _ HND.out)
   ·have hjn:=Decidable.not_not.1 hjn;obtain⟨b,off,cap,hve,hcap1,hcap2,-,hbz,hcell⟩:=H20.out.row.cells (f:=qJ) (fun _=>rfl) (by have:=HML.out;omega);have hML:=HML.out;simp only[Value.slice.injEq,hML,true_and] at hve;obtain⟨rfl,rfl⟩:=hve;have hjM:j<M.length:=(by omega);obtain⟨x,hx⟩:∃x,x=M[j]:=⟨_,rfl⟩;have hc0:=hcell j hjM;have hok:=H20.out.ok M[j] (List.getElem_mem hjM);have hfold:(M.take (j+1)).foldl Wy.stepT []=Wy.stepT ((M.take j).foldl Wy.stepT []) x:=by rw[List.take_succ_eq_append_getElem hjM,List.foldl_append,←hx];rfl
    rw[←hx] at hc0 hok;have hpl:=hmk.good.step x;have x0:Wa.cell? ⟨b,off+j*3,none⟩=some (.int .u8 x.kind):=(hmk.below.cell (p:=⟨b,off+j*3,none⟩) hbz).trans (hc0 0 (by omega));have x1:Wa.cell? ⟨b,off+j*3+1,none⟩=some (.int .u8 x.a):=(hmk.below.cell (p:=⟨b,off+j*3+1,none⟩) hbz).trans (hc0 1 (by omega));have x2:Wa.cell? ⟨b,off+j*3+2,none⟩=some (.int .u8 x.b):=(hmk.below.cell (p:=⟨b,off+j*3+2,none⟩) hbz).trans (hc0 2 (by omega));have FM:b<Wa.heap.size:=by have:=hmk.below.size;omega
    have hll:=hmk.len;obtain⟨l,hl⟩:∃l,l=(M.take j).foldl Wy.stepT []:=⟨_,rfl⟩;rw[←hl] at hmk hfold hpl hll;have hjnI:(j:Int)<n:=(by omega);have hcI:(n:Int)≤c:=(by omega);obtain⟨hok0,hok1,hok2⟩:=hok;have HF:=zh hfold;have HMK:=zh hmk;have HPL:=zh hpl;have HX:=zh hx;have HL:=zh hl;obtain⟨po,pc,rfl⟩:=hmk.pile.slice;clear hcell hc0 hfold hmk hpl hx hl hML;have hk0:0≤(x.kind:Int)%10:=(by omega);by_cases hA:x.kind%10=0
    ·skip
     have hAb:((x.kind:Int)%10 == 0)=true:=by simp;omega
     have hmx:l.length+1≤maxLen:=by unfold maxLen;omega
     have hby:(l.length+1)*80≤140737488355328:=(by omega);have hm2:jP w ((Wa.alloc (.cells #[.int .u8 x.kind,.int .u8 x.a,.int .u8 x.b] 92)).alloc (.cells #[.int .u8 1,.slice none 0 0,.int .i64 0,.int .i64 0,.bool false,.slice none 0 0] 27)) (.slice po l.length pc) l j:=HMK.out.go ((zR.alloc zL _).alloc (by simp) _);obtain⟨cs,hown,jF⟩:=hm2.pile.row;have HOWN:=zh hown;have A7:=zh jF;have HM2:=zh hm2;have hsrc:dI ((Wa.alloc (.cells #[.int .u8 x.kind,.int .u8 x.a,.int .u8 x.b] 92)).alloc (.cells #[.int .u8 1,.slice none 0 0,.int .i64 0,.int .i64 0,.bool false,.slice none 0 0] 27)) (.slice (some ⟨Wa.heap.size+1,0,none⟩) 1 1) 1 [.int .u8 1,.slice none 0 0,.int .i64 0,.int .i64 0,.bool false,.slice none 0 0]:=qK (by simp);have jG:=zh hsrc;have hbase:=HM2.out.below.size;have kZ:=zh (show w.heap.size+1≤_ from by have:=HM2.out.res.lt;exact this);clear hm2 jF hown hbase hsrc
     go_wp2_with (first|(at_builtin;refine aA rfl _ _ 25 rfl Tryz.underlying25 hi0 hz0 hz1 hz2 rfl (.slice po l.length pc) l.length cs rfl HOWN.out _ 1 _ rfl jG.out rfl (by simp[Value.oneCell']) hmx hby kZ.out ?_;intro v' w4 hown' hgrow h3' h4';have HR:=zh (HM2.out.more HOWN.out A7.out (x:=bU) AZ hown' hgrow h3');clear hown' hgrow h3' h4'))
     go_roundw
     case rel=>exact⟨j+1,by omega,by go_num,by rw[HF.out,yT hA];exact HR.out (by have:=HPL.out;rwa [yT hA] at this)⟩
     case measure=>simp[intOf];omega
    have hAb:((x.kind:Int)%10 == 0)=false:=by simp;omega
    by_cases hB5:x.kind%10<5∨l=[]
    ·skip
     have hmx:l.length+1≤maxLen:=by unfold maxLen;omega
     have hby:(l.length+1)*80≤140737488355328:=(by omega);have Ot:=Ii x.a x.b hok1 hok2 (Wa.alloc (.cells #[.int .u8 x.kind,.int .u8 x.a,.int .u8 x.b] 92));have hm1:jP w (Wa.alloc (.cells #[.int .u8 x.kind,.int .u8 x.a,.int .u8 x.b] 92)) (.slice po l.length pc) l j:=HMK.out.go (zR.alloc zL _);have Ou:=zh Ot;have HM1:=zh hm1;clear Ot hm1;have key:∀w5 cs5,ai (fun q=>(Wa.alloc (.cells #[.int .u8 x.kind,.int .u8 x.a,.int .u8 x.b] 92)).heap.size≤q) w5 (oP x.a x.b) cs5→Below (Wa.alloc (.cells #[.int .u8 x.kind,.int .u8 x.a,.int .u8 x.b] 92)).heap.size (Wa.alloc (.cells #[.int .u8 x.kind,.int .u8 x.a,.int .u8 x.b] 92)) w5→
      ∃(o1 o2:Option Addr) (n1 c1 n2 c2:Nat) (k lo hi:Int) (lz:Bool) (cs:List Value),cs5=[.int .u8 k,.slice o1 n1 c1,.int .i64 lo,.int .i64 hi,.bool lz,.slice o2 n2 c2]∧
       (w5.alloc (.cells #[.int .u8 k,.slice o1 n1 c1,.int .i64 lo,.int .i64 hi,.bool lz,.slice o2 n2 c2] 27)).ownsRow (w.heap.size+1) 27 6 (.slice po l.length pc) l.length cs∧w.heap.size+1≤(w5.alloc (.cells #[.int .u8 k,.slice o1 n1 c1,.int .i64 lo,.int .i64 hi,.bool lz,.slice o2 n2 c2] 27)).heap.size∧
       ∀v' w4,w4.ownsRow (w.heap.size+1) 27 6 v' (l.length+1) (cs++[.int .u8 k,.slice o1 n1 c1,.int .i64 lo,.int .i64 hi,.bool lz,.slice o2 n2 c2])→(w5.alloc (.cells #[.int .u8 k,.slice o1 n1 c1,.int .i64 lo,.int .i64 hi,.bool lz,.slice o2 n2 c2] 27)).grownBy w4 (Value.slice po l.length pc).ownBlock→
        (v'.ownBlock=(Value.slice po l.length pc).ownBlock∨v'.ownBlock=some (w5.alloc (.cells #[.int .u8 k,.slice o1 n1 c1,.int .i64 lo,.int .i64 hi,.bool lz,.slice o2 n2 c2] 27)).heap.size)→jP w w4 v' (Wy.stepT l x) (j+1):=by
      intro w5 cs5 A8 hb5;obtain⟨o1,o2,n1,c1,n2,c2,rfl⟩:=nd6 A8;have hm5:=HM1.out.go (hb5.alloc hb5.size (.cells #[.int .u8 (oP x.a x.b).kind,.slice o1 n1 c1,.int .i64 (oP x.a x.b).lo,.int .i64 (oP x.a x.b).hi,.bool (oP x.a x.b).lazy,.slice o2 n2 c2] 27));obtain⟨cs,hown,jF⟩:=hm5.pile.row;refine⟨o1,o2,n1,c1,n2,c2,_,_,_,_,cs,rfl,hown,by have:=hm5.res.lt;omega,fun v' w4 h1 h2 h3=> ?_⟩;have hp:=HPL.out;rw[En hA hB5] at hp ⊢;have hB1:=HM1.out.res.lt;refine hm5.more hown jF (ai.go ((Kept.refl (fun _=>False) w5).alloc _) (fun q _ hn=>⟨id,fun e=> ?_,by omega⟩) A8) h1 h2 h3 hp;have hlt:=HM1.out.pile;obtain⟨cs',hown',-⟩:=hlt.row;have:=(hown'.lt q e).2;omega
     have HKEY:=zh key;clear key;have Et:(x.kind:Int)%10<5∨((5:Int)≤(x.kind:Int)%10∧(l.length:Int)=0):=by
      rcases hB5 with h|h
      ·left;omega
      ·by_cases h5:x.kind%10<5
       ·left;omega
       ·right;subst h;exact⟨by omega,by simp⟩
     rcases Et with h5|⟨h5,h0⟩
     ·go_wp2_with (first|(go_at_call 36;refine Ou.out.mono ?_;rintro e w5 ⟨cs5,rfl,A8,hb5⟩;obtain⟨o1,o2,n1,c1,n2,c2,k',lo',hi',lz',cs,rfl,hown,hbase,hend⟩:=HKEY.out w5 cs5 A8 hb5;have HOWN:=zh hown;have kZ:=zh hbase;have dL:=zh hend;clear A8 hb5 hown hbase hend)|(at_builtin;refine aA rfl _ _ 25 rfl Tryz.underlying25 hi0 hz0 hz1 hz2 rfl (.slice po l.length pc) l.length cs rfl HOWN.out _ 1 _ rfl (qK rfl) rfl (by simp[Value.oneCell']) hmx hby kZ.out ?_;intro v' w4 hown' hgrow h3' h4';have HR:=zh (dL.out v' w4 hown' hgrow h3');clear hown' hgrow h3' h4'))
      go_roundw
      case rel=>exact⟨j+1,by omega,by go_num,by rw[HF.out];exact HR.out⟩
      case measure=>simp[intOf];omega
     ·have hd1:decide ((l.length:Int)-1<0)=true:=by simp;omega
      have hd2:decide ((x.kind:Int)%10<5)=false:=by simp;omega
      clear h0
      go_wp2_with (first|(go_at_call 36;refine Ou.out.mono ?_;rintro e w5 ⟨cs5,rfl,A8,hb5⟩;obtain⟨o1,o2,n1,c1,n2,c2,k',lo',hi',lz',cs,rfl,hown,hbase,hend⟩:=HKEY.out w5 cs5 A8 hb5;have HOWN:=zh hown;have kZ:=zh hbase;have dL:=zh hend;clear A8 hb5 hown hbase hend)|(at_builtin;refine aA rfl _ _ 25 rfl Tryz.underlying25 hi0 hz0 hz1 hz2 rfl (.slice po l.length pc) l.length cs rfl HOWN.out _ 1 _ rfl (qK rfl) rfl (by simp[Value.oneCell']) hmx hby kZ.out ?_;intro v' w4 hown' hgrow h3' h4';have HR:=zh (dL.out v' w4 hown' hgrow h3');clear hown' hgrow h3' h4'))
      go_roundw
      case rel=>exact⟨j+1,by omega,by go_num,by rw[HF.out];exact HR.out⟩
      case measure=>simp[intOf];omega
    have hB5':5≤x.kind%10∧l≠[]:=by
     constructor
     ·by_cases h:x.kind%10<5
      ·exact absurd (Or.inl h) hB5
      ·omega
     ·exact fun h=>hB5 (Or.inr h)
    obtain⟨h5,hne⟩:=hB5';clear hB5;have hd2:decide ((x.kind:Int)%10<5)=false:=by simp;omega
    obtain⟨g,pc',m,cs,tc,hve,hlm,hmc,hBg,hgz,hown,hcl,jF,hnd⟩:=Oq HMK.out.pile hne;rw[hlm] at hve;simp only[Value.slice.injEq,true_and] at hve;obtain⟨rfl,rfl⟩:=hve;obtain⟨o1,o2,n1,c1,n2,c2,rfl⟩:=nd6 hnd;have hd1:decide ((m:Int)<0)=false:=by simp
    have t0:Wa.cell? ⟨g,m*6,none⟩=some (.int .u8 (l.getLastD bU).kind):=by rw[hown.cellAt (m*6) (by omega),List.getElem?_append_right (by omega),hcl,Nat.sub_self];rfl
    have t1:Wa.cell? ⟨g,m*6+1,none⟩=some (.slice o1 n1 c1):=by rw[hown.cellAt (m*6+1) (by omega),List.getElem?_append_right (by omega),hcl,Nat.add_sub_cancel_left];rfl
    have t2:Wa.cell? ⟨g,m*6+2,none⟩=some (.int .i64 (l.getLastD bU).lo):=by rw[hown.cellAt (m*6+2) (by omega),List.getElem?_append_right (by omega),hcl,Nat.add_sub_cancel_left];rfl
    have t3:Wa.cell? ⟨g,m*6+3,none⟩=some (.int .i64 (l.getLastD bU).hi):=by rw[hown.cellAt (m*6+3) (by omega),List.getElem?_append_right (by omega),hcl,Nat.add_sub_cancel_left];rfl
    have t4:Wa.cell? ⟨g,m*6+4,none⟩=some (.bool (l.getLastD bU).lazy):=by rw[hown.cellAt (m*6+4) (by omega),List.getElem?_append_right (by omega),hcl,Nat.add_sub_cancel_left];rfl
    have t5:Wa.cell? ⟨g,m*6+5,none⟩=some (.slice o2 n2 c2):=by rw[hown.cellAt (m*6+5) (by omega),List.getElem?_append_right (by omega),hcl,Nat.add_sub_cancel_left];rfl
    have fz:∀i,Wa.frozen? ⟨g,i,none⟩=false:=fun i=>hown.frozenAt i
    have hmI:(m:Int)<m+1:=(by omega);have CV:(m:Int)+1≤pc:=(by omega);have hm20:m<20:=(by omega);rw[hlm];have HOWN:=zh hown;have A7:=zh jF;have HND:=zh hnd;have HCL:=zh hcl;have HLM:=zh hlm;clear hown jF hnd hcl hlm;obtain⟨tp,htp⟩:∃tp,tp=l.getLastD bU:=⟨_,rfl⟩;rw[←htp] at t0 t2 t3 t4 HND;have HTP:=zh htp;clear htp;by_cases hC:x.kind%10=5
    ·skip
     have hCb:((x.kind:Int)%10 == 5)=true:=by simp;omega
     go_wp2_with fail
     go_roundw
     case rel=>
      refine⟨j+1,by omega,by go_num,?_⟩;have k1:Kept (fun q=>q=g) Wa _:=((kY (W:=Wa) (g:=g) (m:=m) (.int .u8 6) (.slice none 0 0) (.int .i64 0) (.int .i64 0) (.bool false) (.slice (some ⟨Wa.heap.size+1,0,none⟩) 1 1)).alloc (.cells #[.int .u8 x.kind,.int .u8 x.a,.int .u8 x.b] 92)).alloc (.cells #[.int .u8 tp.kind,.slice o1 n1 c1,.int .i64 tp.lo,.int .i64 tp.hi,.bool tp.lazy,.slice o2 n2 c2] 27);have hm0:=HMK.out;rw[HF.out,yU hne hC];have hp:=HPL.out;rw[yU hne hC,←HTP.out] at hp;rw[←HTP.out];refine jP.put (by have:=HMK.out;rw[HLM.out] at this ⊢;exact this) HLM.out hBg k1 (((qL HOWN.out HCL.out _ _ _ _ _ _).alloc _).alloc _) ?_ ?_ hp
      ·have:=A7.out;rw[HLM.out] at this ⊢;exact this
      ·have hB:=Blk.new' (w:=(((((((Wa.setCell ⟨g,m*6,none⟩ (.int .u8 6)).setCell ⟨g,m*6+1,none⟩ (.slice none 0 0)).setCell ⟨g,m*6+2,none⟩ (.int .i64 0)).setCell ⟨g,m*6+3,none⟩ (.int .i64 0)).setCell ⟨g,m*6+4,none⟩ (.bool false)).setCell ⟨g,m*6+5,none⟩ (.slice (some ⟨Wa.heap.size+1,0,none⟩) 1 1)).alloc (.cells #[.int .u8 x.kind,.int .u8 x.a,.int .u8 x.b] 92))) (b:=Wa.heap.size+1) #[.int .u8 tp.kind,.slice o1 n1 c1,.int .i64 tp.lo,.int .i64 tp.hi,.bool tp.lazy,.slice o2 n2 c2] 27 (by simp[World.setCell]);exact vH hB ⟨by omega,by have:=HMK.out.res.lt;omega⟩ (ai.go k1 (fun q _ hq=>by have e:q≠g:=fun e=>hq.1 (by rw[e];rfl);exact⟨e,e,hq.2⟩) HND.out) (by omega) ⟨by decide,by decide⟩ ⟨by decide,by decide⟩
     case measure=>simp[intOf];omega
    have hCb:((x.kind:Int)%10 == 5)=false:=by simp;omega
    have h6:5<x.kind%10:=(by omega);by_cases hD:x.kind%10<8∨l.length<2
    ·skip
     have Et:(x.kind:Int)%10<8∨(decide ((x.kind:Int)%10<8)=false∧decide ((m:Int)<1)=true):=by
      have:=HLM.out;rcases hD with h|h
      ·left;omega
      ·by_cases h8:x.kind%10<8
       ·left;omega
       ·right;exact⟨by simp;omega,by simp;omega⟩
     have QY:=zh Et;clear Et;go_upto_region 16 with fail
     have hBx:Blk (Wa.alloc (.cells #[.int .u8 x.kind,.int .u8 x.a,.int .u8 x.b] 92)) Wa.heap.size #[.int .u8 x.kind,.int .u8 x.a,.int .u8 x.b] 92:=Blk.new _ _ _;have hb1:Below Wa.heap.size Wa (Wa.alloc (.cells #[.int .u8 x.kind,.int .u8 x.a,.int .u8 x.b] 92)):=zR.alloc zL _;generalize (Wa.alloc (.cells #[.int .u8 x.kind,.int .u8 x.a,.int .u8 x.b] 92))=W1 at hBx hb1 ⊢;obtain⟨xb,hxb⟩:∃xb,xb=Wa.heap.size:=⟨_,rfl⟩;rw[←hxb] at hBx ⊢;have HXB:=zh hxb;have HB1:=zh hb1;obtain⟨y0,y1,y2⟩:W1.cell? ⟨xb,0,none⟩=some (.int .u8 x.kind)∧W1.cell? ⟨xb,1,none⟩=some (.int .u8 x.a)∧W1.cell? ⟨xb,2,none⟩=some (.int .u8 x.b):=⟨hBx.cell 0,hBx.cell 1,hBx.cell 2⟩;have hxz:=hBx.lt;have HBX:=zh hBx;have z0:W1.cell? ⟨g,m*6,none⟩=some (.int .u8 tp.kind):=(hb1.cell (p:=⟨g,m*6,none⟩) hgz).trans t0;have z1:W1.cell? ⟨g,m*6+1,none⟩=some (.slice o1 n1 c1):=(hb1.cell (p:=⟨g,m*6+1,none⟩) hgz).trans t1;have z2:W1.cell? ⟨g,m*6+2,none⟩=some (.int .i64 tp.lo):=(hb1.cell (p:=⟨g,m*6+2,none⟩) hgz).trans t2;have z3:W1.cell? ⟨g,m*6+3,none⟩=some (.int .i64 tp.hi):=(hb1.cell (p:=⟨g,m*6+3,none⟩) hgz).trans t3;have z4:W1.cell? ⟨g,m*6+4,none⟩=some (.bool tp.lazy):=(hb1.cell (p:=⟨g,m*6+4,none⟩) hgz).trans t4;have z5:W1.cell? ⟨g,m*6+5,none⟩=some (.slice o2 n2 c2):=(hb1.cell (p:=⟨g,m*6+5,none⟩) hgz).trans t5;have hgz1:g<W1.heap.size:=by have:=hb1.size;omega
     have HGX:=zh (show xb≠g by omega);have HT:=zh (And.intro t0 (And.intro t1 (And.intro t2 (And.intro t3 (And.intro t4 t5)))));clear hBx hb1 hxb t0 t1 t2 t3 t4 t5 x0 x1 x2
     go_cut [84,85,86,87,88,89,90] (fun s84 _ _ _ _ _ _ wx=>s84= .bool true∧wx=W1)
     case first=>
      rcases QY.out with h|⟨h,h'⟩
      ·go_wp2_with fail
       go_meet
       exact⟨rfl,rfl⟩
      ·go_wp2_with fail
       go_meet
       exact⟨rfl,rfl⟩
     case rest=>
      obtain⟨rfl,rfl⟩:=hcut
      rename World=>W1
      go_upto_region 17 with fail
      go_cut [8,91,92,93,94,95,96,97,98,99,100,101,102,103,104] (fun s8 _ _ _ _ _ _ _ _ _ _ _ _ _ _ wx=>∃q r,s8= .pointer (some ⟨q,0,none⟩)∧q≠r∧W1.heap.size≤q∧W1.heap.size≤r∧Blk wx q #[.int .u8 5,.slice none 0 0,.int .i64 ((x.a:Int)%4),.int .i64 0,.bool ((x.b:Int)%2 == 1),.slice (some ⟨r,0,none⟩) 1 1] 27∧
       Blk wx r #[.int .u8 tp.kind,.slice o1 n1 c1,.int .i64 tp.lo,.int .i64 tp.hi,.bool tp.lazy,.slice o2 n2 c2] 27∧Below W1.heap.size W1 wx)
      case first=>
       go_region
       ·go_wp2_with fail
        go_meet
        refine⟨W1.heap.size+1,W1.heap.size,rfl,by omega,by omega,by omega,?_,?_,?_⟩
        ·exact Blk.new' (w:=W1.alloc _) _ _ (by simp)
        ·exact Blk.alloc (w:=W1.alloc _) (Blk.new W1 _ _) _
        ·exact((zR.alloc zL _).alloc (by simp) _).drew
       ·go_wp2_with fail
        go_meet
        refine⟨W1.heap.size,W1.heap.size+1,rfl,by omega,by omega,by omega,?_,?_,?_⟩
        ·exact Blk.alloc (w:=W1.alloc _) (Blk.new W1 _ _) _
        ·exact Blk.new' (w:=W1.alloc _) _ _ (by simp)
        ·exact((zR.alloc zL _).alloc (by simp) _).drew
      case rest=>
       rename World=>W2
       obtain⟨q,r,rfl,hqr,hq,hr,hBq,hBr,hbw⟩:=hcut;have hWa:Below Wa.heap.size Wa W2:=HB1.out.trans (hbw.mono HB1.out.size);obtain⟨q0,q1,q2,q3,q4,q5⟩:W2.cell? ⟨q,0,none⟩=some (.int .u8 5)∧W2.cell? ⟨q,1,none⟩=some (.slice none 0 0)∧W2.cell? ⟨q,2,none⟩=some (.int .i64 ((x.a:Int)%4))∧W2.cell? ⟨q,3,none⟩=some (.int .i64 0)∧W2.cell? ⟨q,4,none⟩=some (.bool ((x.b:Int)%2 == 1))∧W2.cell? ⟨q,5,none⟩=some (.slice (some ⟨r,0,none⟩) 1 1):=
        ⟨hBq.cell 0,hBq.cell 1,hBq.cell 2,hBq.cell 3,hBq.cell 4,hBq.cell 5⟩
       have qf:∀i,W2.frozen? ⟨q,i,none⟩=false:=hBq.frozen;have qz:=hBq.lt;have x2:W2.cell? ⟨xb,2,none⟩=some (.int .u8 x.b):=(hbw.cell (p:=⟨xb,2,none⟩) hxz).trans y2;have xz2:xb<W2.heap.size:=by have:=hbw.size;omega
       have hxq:xb≠q:=(by omega);have QZ:=zh hbw;have HWA:=zh hWa;obtain⟨lz,hlz⟩:∃lz,lz=((x.b:Int)%2 == 1):=⟨_,rfl⟩;rw[←hlz] at hBq q4;have HLZ:=zh hlz;have HBQ:=zh hBq;have HBR:=zh hBr;clear hlz;clear hbw hWa hBq hBr y0 y1 y2 z0 z1 z2 z3 z4 z5;by_cases hb5:x.b%5=0
       ·have hb5b:((x.b:Int)%5 == 0)=true:=by simp;omega
        go_upto_region 21 with fail
        have hB3:Blk ((W2.setCell ⟨q,3,none⟩ (.int .i64 ((x.a:Int)%4+(x.b:Int)/2%3))).setCell ⟨q,3,none⟩ (.int .i64 (-1))) q #[.int .u8 5,.slice none 0 0,.int .i64 ((x.a:Int)%4),.int .i64 (-1),.bool lz,.slice (some ⟨r,0,none⟩) 1 1] 27:=(HBQ.out.set 3 _).set 3 _;have hR3:Blk ((W2.setCell ⟨q,3,none⟩ (.int .i64 ((x.a:Int)%4+(x.b:Int)/2%3))).setCell ⟨q,3,none⟩ (.int .i64 (-1))) r #[.int .u8 tp.kind,.slice o1 n1 c1,.int .i64 tp.lo,.int .i64 tp.hi,.bool tp.lazy,.slice o2 n2 c2] 27:=(HBR.out.setOther (p:=⟨q,3,none⟩) (fun e=>hqr e.symm) _).setOther (p:=⟨q,3,none⟩) (fun e=>hqr e.symm) _;have hb3:Below W1.heap.size W1 ((W2.setCell ⟨q,3,none⟩ (.int .i64 ((x.a:Int)%4+(x.b:Int)/2%3))).setCell ⟨q,3,none⟩ (.int .i64 (-1))):=(QZ.out.setCell hq _).setCell hq _;generalize ((W2.setCell ⟨q,3,none⟩ (.int .i64 ((x.a:Int)%4+(x.b:Int)/2%3))).setCell ⟨q,3,none⟩ (.int .i64 (-1)))=W3 at hB3 hR3 hb3 ⊢;have kJ:Below Wa.heap.size Wa W3:=HB1.out.trans (hb3.mono HB1.out.size);have hcall:=yR tp (fun p=>p≠g) W3 _ (ai.go (zK kJ) (fun p _ hn=>⟨id,fun e=>hn.1 (by rw[e];rfl)⟩) HND.out);obtain⟨nb,hnb⟩:∃nb,nb=(Wy.look tp).ah:=⟨_,rfl⟩;rw[←hnb] at hcall;have HNB:=zh hnb;have aS:=zh hcall;have HB3:=zh hB3;have HR3:=zh hR3;have yX:=zh kJ;have iw:g<W3.heap.size:=by have:=kJ.size;omega
        have g0:=(kJ.cell (p:=⟨g,m*6,none⟩) hgz).trans HT.out.1;have g1:=(kJ.cell (p:=⟨g,m*6+1,none⟩) hgz).trans HT.out.2.1;have g2:=(kJ.cell (p:=⟨g,m*6+2,none⟩) hgz).trans HT.out.2.2.1;have g3:=(kJ.cell (p:=⟨g,m*6+3,none⟩) hgz).trans HT.out.2.2.2.1;have g4:=(kJ.cell (p:=⟨g,m*6+4,none⟩) hgz).trans HT.out.2.2.2.2.1;have g5:=(kJ.cell (p:=⟨g,m*6+5,none⟩) hgz).trans HT.out.2.2.2.2.2;have hqg:q≠g:=by have:=HB1.out.size;omega
        clear hcall hnb hB3 hR3 hb3 kJ q0 q1 q2 q3 q4 q5 qf qz x2 xz2;cases nb
        ·go_wp2_with (go_at_call 37;(refine aS.out.mono ?_;rintro e w6 ⟨rfl,hb6⟩;have B6:=HB3.out.below hb6 HB3.out.lt;have q0:=B6.cell 0;have q1:=B6.cell 1;have q2:=B6.cell 2;have q3:=B6.cell 3;have q4:=B6.cell 4;have q5:=B6.cell 5;have qf:∀i,w6.frozen? ⟨q,i,none⟩=false:=B6.frozen;have qz:=B6.lt;have HB6:=zh B6;have HR6:=zh (HR3.out.below hb6 HR3.out.lt);have vI:=zh (yX.out.trans (hb6.mono yX.out.size));have gz6:g<w6.heap.size:=Nat.lt_of_lt_of_le iw hb6.size;have h0:=(hb6.cell (p:=⟨g,m*6,none⟩) iw).trans g0;have h1:=(hb6.cell (p:=⟨g,m*6+1,none⟩) iw).trans g1;have h2:=(hb6.cell (p:=⟨g,m*6+2,none⟩) iw).trans g2;have h3:=(hb6.cell (p:=⟨g,m*6+3,none⟩) iw).trans g3;have h4:=(hb6.cell (p:=⟨g,m*6+4,none⟩) iw).trans g4;have h5:=(hb6.cell (p:=⟨g,m*6+5,none⟩) iw).trans g5;have gf:∀i,w6.frozen? ⟨g,i,none⟩=false:=fun i=>((dU vI.out).2 g i hgz).trans (fz i);clear hb6 B6))
         go_roundw
         case rel=>
          refine⟨j+1,by omega,by go_num,?_⟩;have hW9:Below Wa.heap.size Wa w6:=vI.out;have hR9:Blk w6 r #[.int .u8 tp.kind,.slice o1 n1 c1,.int .i64 tp.lo,.int .i64 tp.hi,.bool tp.lazy,.slice o2 n2 c2] 27:=HR6.out;have hrg:r≠g:=by have:=HB1.out.size;omega
          have hk:=kY (W:=w6) (g:=g) (m:=m) (.int .u8 5) (.slice none 0 0) (.int .i64 ((x.a:Int)%4)) (.int .i64 (-1)) (.bool lz) (.slice (some ⟨r,0,none⟩) 1 1);have k1:=(Kept.of_below hW9 (fun q=>q=g)).trans hk;have hro:=qL (dX HOWN.out hW9) HCL.out (.int .u8 5) (.slice none 0 0) (.int .i64 ((x.a:Int)%4)) (.int .i64 (-1)) (.bool lz) (.slice (some ⟨r,0,none⟩) 1 1);have hrep:tY tp x= .mk 5 [] ((x.a:Int)%4) (-1) lz [tp]:=by
           unfold tY sS uM;rw[←HNB.out,HLZ.out];rw[if_neg (by decide),if_neg (by decide),if_pos hb5,Eo];rfl
          have hp:=HPL.out;rw[HF.out,jl hne h6 hD];rw[jl hne h6 hD,←HTP.out,hrep] at hp;rw[←HTP.out,hrep];refine jP.put (by have:=HMK.out;rw[HLM.out] at this ⊢;exact this) HLM.out hBg k1 hro ?_ ?_ hp
          ·have:=A7.out;rw[HLM.out] at this ⊢;exact this
          ·exact vH (hR9.kept hk hrg) ⟨hrg,by have:=HB1.out.size;have:=HMK.out.res.lt;omega⟩ (ai.go k1 (fun q _ hq=>by have e:q≠g:=fun e=>hq.1 (by rw[e];rfl);exact⟨e,e,hq.2⟩) HND.out) (by omega) ⟨by omega,by omega⟩ ⟨by omega,by omega⟩
         case measure=>simp[intOf];omega
        ·go_wp2_with (go_at_call 37;(refine aS.out.mono ?_;rintro e w6 ⟨rfl,hb6⟩;have B6:=HB3.out.below hb6 HB3.out.lt;have q0:=B6.cell 0;have q1:=B6.cell 1;have q2:=B6.cell 2;have q3:=B6.cell 3;have q4:=B6.cell 4;have q5:=B6.cell 5;have qf:∀i,w6.frozen? ⟨q,i,none⟩=false:=B6.frozen;have qz:=B6.lt;have HB6:=zh B6;have HR6:=zh (HR3.out.below hb6 HR3.out.lt);have vI:=zh (yX.out.trans (hb6.mono yX.out.size));have gz6:g<w6.heap.size:=Nat.lt_of_lt_of_le iw hb6.size;have h0:=(hb6.cell (p:=⟨g,m*6,none⟩) iw).trans g0;have h1:=(hb6.cell (p:=⟨g,m*6+1,none⟩) iw).trans g1;have h2:=(hb6.cell (p:=⟨g,m*6+2,none⟩) iw).trans g2;have h3:=(hb6.cell (p:=⟨g,m*6+3,none⟩) iw).trans g3;have h4:=(hb6.cell (p:=⟨g,m*6+4,none⟩) iw).trans g4;have h5:=(hb6.cell (p:=⟨g,m*6+5,none⟩) iw).trans g5;have gf:∀i,w6.frozen? ⟨g,i,none⟩=false:=fun i=>((dU vI.out).2 g i hgz).trans (fz i);clear hb6 B6))
         go_roundw
         case rel=>
          refine⟨j+1,by omega,by go_num,?_⟩;have hW9:Below Wa.heap.size Wa ((w6.setCell ⟨q,2,none⟩ (.int .i64 ((x.a:Int)%2))).setCell ⟨q,3,none⟩ (.int .i64 1)):=(vI.out.setCell (by show Wa.heap.size≤q;have:=HB1.out.size;omega) _).setCell (by show Wa.heap.size≤q;have:=HB1.out.size;omega) _;have hR9:Blk ((w6.setCell ⟨q,2,none⟩ (.int .i64 ((x.a:Int)%2))).setCell ⟨q,3,none⟩ (.int .i64 1)) r #[.int .u8 tp.kind,.slice o1 n1 c1,.int .i64 tp.lo,.int .i64 tp.hi,.bool tp.lazy,.slice o2 n2 c2] 27:=(HR6.out.setOther (p:=⟨q,2,none⟩) (fun e=>hqr e.symm) _).setOther (p:=⟨q,3,none⟩) (fun e=>hqr e.symm) _;have hrg:r≠g:=by have:=HB1.out.size;omega
          have hk:=kY (W:=((w6.setCell ⟨q,2,none⟩ (.int .i64 ((x.a:Int)%2))).setCell ⟨q,3,none⟩ (.int .i64 1))) (g:=g) (m:=m) (.int .u8 5) (.slice none 0 0) (.int .i64 ((x.a:Int)%2)) (.int .i64 1) (.bool lz) (.slice (some ⟨r,0,none⟩) 1 1);have k1:=(Kept.of_below hW9 (fun q=>q=g)).trans hk;have hro:=qL (dX HOWN.out hW9) HCL.out (.int .u8 5) (.slice none 0 0) (.int .i64 ((x.a:Int)%2)) (.int .i64 1) (.bool lz) (.slice (some ⟨r,0,none⟩) 1 1);have hrep:tY tp x= .mk 5 [] ((x.a:Int)%2) 1 lz [tp]:=by
           unfold tY sS uM;rw[←HNB.out,HLZ.out];have e:((x.a%4:Nat):Int)%2=(x.a:Int)%2:=(by omega);simp only[if_true,e];rw[Eo]
          have hp:=HPL.out;rw[HF.out,jl hne h6 hD];rw[jl hne h6 hD,←HTP.out,hrep] at hp;rw[←HTP.out,hrep];refine jP.put (by have:=HMK.out;rw[HLM.out] at this ⊢;exact this) HLM.out hBg k1 hro ?_ ?_ hp
          ·have:=A7.out;rw[HLM.out] at this ⊢;exact this
          ·exact vH (hR9.kept hk hrg) ⟨hrg,by have:=HB1.out.size;have:=HMK.out.res.lt;omega⟩ (ai.go k1 (fun q _ hq=>by have e:q≠g:=fun e=>hq.1 (by rw[e];rfl);exact⟨e,e,hq.2⟩) HND.out) (by omega) ⟨by omega,by omega⟩ ⟨by omega,by omega⟩
         case measure=>simp[intOf];omega
       ·have hb5b:((x.b:Int)%5 == 0)=false:=by simp;omega
        go_upto_region 21 with fail
        have hB3:Blk (W2.setCell ⟨q,3,none⟩ (.int .i64 ((x.a:Int)%4+(x.b:Int)/2%3))) q #[.int .u8 5,.slice none 0 0,.int .i64 ((x.a:Int)%4),.int .i64 ((x.a:Int)%4+(x.b:Int)/2%3),.bool lz,.slice (some ⟨r,0,none⟩) 1 1] 27:=HBQ.out.set 3 _;have hR3:Blk (W2.setCell ⟨q,3,none⟩ (.int .i64 ((x.a:Int)%4+(x.b:Int)/2%3))) r #[.int .u8 tp.kind,.slice o1 n1 c1,.int .i64 tp.lo,.int .i64 tp.hi,.bool tp.lazy,.slice o2 n2 c2] 27:=HBR.out.setOther (p:=⟨q,3,none⟩) (fun e=>hqr e.symm) _;have hb3:Below W1.heap.size W1 (W2.setCell ⟨q,3,none⟩ (.int .i64 ((x.a:Int)%4+(x.b:Int)/2%3))):=QZ.out.setCell hq _;generalize (W2.setCell ⟨q,3,none⟩ (.int .i64 ((x.a:Int)%4+(x.b:Int)/2%3)))=W3 at hB3 hR3 hb3 ⊢;have kJ:Below Wa.heap.size Wa W3:=HB1.out.trans (hb3.mono HB1.out.size);have hcall:=yR tp (fun p=>p≠g) W3 _ (ai.go (zK kJ) (fun p _ hn=>⟨id,fun e=>hn.1 (by rw[e];rfl)⟩) HND.out);obtain⟨nb,hnb⟩:∃nb,nb=(Wy.look tp).ah:=⟨_,rfl⟩;rw[←hnb] at hcall;have HNB:=zh hnb;have aS:=zh hcall;have HB3:=zh hB3;have HR3:=zh hR3;have yX:=zh kJ;have iw:g<W3.heap.size:=by have:=kJ.size;omega
        have g0:=(kJ.cell (p:=⟨g,m*6,none⟩) hgz).trans HT.out.1;have g1:=(kJ.cell (p:=⟨g,m*6+1,none⟩) hgz).trans HT.out.2.1;have g2:=(kJ.cell (p:=⟨g,m*6+2,none⟩) hgz).trans HT.out.2.2.1;have g3:=(kJ.cell (p:=⟨g,m*6+3,none⟩) hgz).trans HT.out.2.2.2.1;have g4:=(kJ.cell (p:=⟨g,m*6+4,none⟩) hgz).trans HT.out.2.2.2.2.1;have g5:=(kJ.cell (p:=⟨g,m*6+5,none⟩) hgz).trans HT.out.2.2.2.2.2;have hqg:q≠g:=by have:=HB1.out.size;omega
        clear hcall hnb hB3 hR3 hb3 kJ q0 q1 q2 q3 q4 q5 qf qz x2 xz2;cases nb
        ·go_wp2_with (go_at_call 37;(refine aS.out.mono ?_;rintro e w6 ⟨rfl,hb6⟩;have B6:=HB3.out.below hb6 HB3.out.lt;have q0:=B6.cell 0;have q1:=B6.cell 1;have q2:=B6.cell 2;have q3:=B6.cell 3;have q4:=B6.cell 4;have q5:=B6.cell 5;have qf:∀i,w6.frozen? ⟨q,i,none⟩=false:=B6.frozen;have qz:=B6.lt;have HB6:=zh B6;have HR6:=zh (HR3.out.below hb6 HR3.out.lt);have vI:=zh (yX.out.trans (hb6.mono yX.out.size));have gz6:g<w6.heap.size:=Nat.lt_of_lt_of_le iw hb6.size;have h0:=(hb6.cell (p:=⟨g,m*6,none⟩) iw).trans g0;have h1:=(hb6.cell (p:=⟨g,m*6+1,none⟩) iw).trans g1;have h2:=(hb6.cell (p:=⟨g,m*6+2,none⟩) iw).trans g2;have h3:=(hb6.cell (p:=⟨g,m*6+3,none⟩) iw).trans g3;have h4:=(hb6.cell (p:=⟨g,m*6+4,none⟩) iw).trans g4;have h5:=(hb6.cell (p:=⟨g,m*6+5,none⟩) iw).trans g5;have gf:∀i,w6.frozen? ⟨g,i,none⟩=false:=fun i=>((dU vI.out).2 g i hgz).trans (fz i);clear hb6 B6))
         go_roundw
         case rel=>
          refine⟨j+1,by omega,by go_num,?_⟩;have hW9:Below Wa.heap.size Wa w6:=vI.out;have hR9:Blk w6 r #[.int .u8 tp.kind,.slice o1 n1 c1,.int .i64 tp.lo,.int .i64 tp.hi,.bool tp.lazy,.slice o2 n2 c2] 27:=HR6.out;have hrg:r≠g:=by have:=HB1.out.size;omega
          have hk:=kY (W:=w6) (g:=g) (m:=m) (.int .u8 5) (.slice none 0 0) (.int .i64 ((x.a:Int)%4)) (.int .i64 ((x.a:Int)%4+(x.b:Int)/2%3)) (.bool lz) (.slice (some ⟨r,0,none⟩) 1 1);have k1:=(Kept.of_below hW9 (fun q=>q=g)).trans hk;have hro:=qL (dX HOWN.out hW9) HCL.out (.int .u8 5) (.slice none 0 0) (.int .i64 ((x.a:Int)%4)) (.int .i64 ((x.a:Int)%4+(x.b:Int)/2%3)) (.bool lz) (.slice (some ⟨r,0,none⟩) 1 1);have hrep:tY tp x= .mk 5 [] ((x.a:Int)%4) ((x.a:Int)%4+(x.b:Int)/2%3) lz [tp]:=by
           unfold tY sS uM;rw[←HNB.out,HLZ.out];rw[if_neg (by decide),if_neg (by decide),if_neg hb5,Eo];rfl
          have hp:=HPL.out;rw[HF.out,jl hne h6 hD];rw[jl hne h6 hD,←HTP.out,hrep] at hp;rw[←HTP.out,hrep];refine jP.put (by have:=HMK.out;rw[HLM.out] at this ⊢;exact this) HLM.out hBg k1 hro ?_ ?_ hp
          ·have:=A7.out;rw[HLM.out] at this ⊢;exact this
          ·exact vH (hR9.kept hk hrg) ⟨hrg,by have:=HB1.out.size;have:=HMK.out.res.lt;omega⟩ (ai.go k1 (fun q _ hq=>by have e:q≠g:=fun e=>hq.1 (by rw[e];rfl);exact⟨e,e,hq.2⟩) HND.out) (by omega) ⟨by omega,by omega⟩ ⟨by omega,by omega⟩
         case measure=>simp[intOf];omega
        ·go_wp2_with (go_at_call 37;(refine aS.out.mono ?_;rintro e w6 ⟨rfl,hb6⟩;have B6:=HB3.out.below hb6 HB3.out.lt;have q0:=B6.cell 0;have q1:=B6.cell 1;have q2:=B6.cell 2;have q3:=B6.cell 3;have q4:=B6.cell 4;have q5:=B6.cell 5;have qf:∀i,w6.frozen? ⟨q,i,none⟩=false:=B6.frozen;have qz:=B6.lt;have HB6:=zh B6;have HR6:=zh (HR3.out.below hb6 HR3.out.lt);have vI:=zh (yX.out.trans (hb6.mono yX.out.size));have gz6:g<w6.heap.size:=Nat.lt_of_lt_of_le iw hb6.size;have h0:=(hb6.cell (p:=⟨g,m*6,none⟩) iw).trans g0;have h1:=(hb6.cell (p:=⟨g,m*6+1,none⟩) iw).trans g1;have h2:=(hb6.cell (p:=⟨g,m*6+2,none⟩) iw).trans g2;have h3:=(hb6.cell (p:=⟨g,m*6+3,none⟩) iw).trans g3;have h4:=(hb6.cell (p:=⟨g,m*6+4,none⟩) iw).trans g4;have h5:=(hb6.cell (p:=⟨g,m*6+5,none⟩) iw).trans g5;have gf:∀i,w6.frozen? ⟨g,i,none⟩=false:=fun i=>((dU vI.out).2 g i hgz).trans (fz i);clear hb6 B6))
         go_roundw
         case rel=>
          refine⟨j+1,by omega,by go_num,?_⟩;have hW9:Below Wa.heap.size Wa ((w6.setCell ⟨q,2,none⟩ (.int .i64 ((x.a:Int)%2))).setCell ⟨q,3,none⟩ (.int .i64 1)):=(vI.out.setCell (by show Wa.heap.size≤q;have:=HB1.out.size;omega) _).setCell (by show Wa.heap.size≤q;have:=HB1.out.size;omega) _;have hR9:Blk ((w6.setCell ⟨q,2,none⟩ (.int .i64 ((x.a:Int)%2))).setCell ⟨q,3,none⟩ (.int .i64 1)) r #[.int .u8 tp.kind,.slice o1 n1 c1,.int .i64 tp.lo,.int .i64 tp.hi,.bool tp.lazy,.slice o2 n2 c2] 27:=(HR6.out.setOther (p:=⟨q,2,none⟩) (fun e=>hqr e.symm) _).setOther (p:=⟨q,3,none⟩) (fun e=>hqr e.symm) _;have hrg:r≠g:=by have:=HB1.out.size;omega
          have hk:=kY (W:=((w6.setCell ⟨q,2,none⟩ (.int .i64 ((x.a:Int)%2))).setCell ⟨q,3,none⟩ (.int .i64 1))) (g:=g) (m:=m) (.int .u8 5) (.slice none 0 0) (.int .i64 ((x.a:Int)%2)) (.int .i64 1) (.bool lz) (.slice (some ⟨r,0,none⟩) 1 1);have k1:=(Kept.of_below hW9 (fun q=>q=g)).trans hk;have hro:=qL (dX HOWN.out hW9) HCL.out (.int .u8 5) (.slice none 0 0) (.int .i64 ((x.a:Int)%2)) (.int .i64 1) (.bool lz) (.slice (some ⟨r,0,none⟩) 1 1);have hrep:tY tp x= .mk 5 [] ((x.a:Int)%2) 1 lz [tp]:=by
           unfold tY sS uM;rw[←HNB.out,HLZ.out];have e:((x.a%4:Nat):Int)%2=(x.a:Int)%2:=(by omega);simp only[if_true,e];rw[Eo]
          have hp:=HPL.out;rw[HF.out,jl hne h6 hD];rw[jl hne h6 hD,←HTP.out,hrep] at hp;rw[←HTP.out,hrep];refine jP.put (by have:=HMK.out;rw[HLM.out] at this ⊢;exact this) HLM.out hBg k1 hro ?_ ?_ hp
          ·have:=A7.out;rw[HLM.out] at this ⊢;exact this
          ·exact vH (hR9.kept hk hrg) ⟨hrg,by have:=HB1.out.size;have:=HMK.out.res.lt;omega⟩ (ai.go k1 (fun q _ hq=>by have e:q≠g:=fun e=>hq.1 (by rw[e];rfl);exact⟨e,e,hq.2⟩) HND.out) (by omega) ⟨by omega,by omega⟩ ⟨by omega,by omega⟩
         case measure=>simp[intOf];omega
    ·skip
     have h8:8≤x.kind%10:=by
      by_cases h:x.kind%10<8
      ·exact absurd (Or.inl h) hD
      ·omega
     have hl2:2≤l.length:=by
      by_cases h:l.length<2
      ·exact absurd (Or.inr h) hD
      ·omega
     have hd8:decide ((x.kind:Int)%10<8)=false:=by simp;omega
     have hm1:1≤m:=by have:=HLM.out;omega
     have hd9:decide ((m:Int)<1)=false:=by simp;omega
     obtain⟨kk,hkk⟩:∃kk,kk=l.length-2-x.a%2:=⟨_,rfl⟩;have hkm:kk+1≤m:=by have:=HLM.out;omega
     have hmax:max 0 ((m:Int)-1-(x.a:Int)%2)=kk:=by have:=HLM.out;omega
     have HKK:=zh hkk;have HMAX:=zh hmax;clear hkk hmax hD;go_upto_region 7 with fail
     have hBx:Blk (Wa.alloc (.cells #[.int .u8 x.kind,.int .u8 x.a,.int .u8 x.b] 92)) Wa.heap.size #[.int .u8 x.kind,.int .u8 x.a,.int .u8 x.b] 92:=Blk.new _ _ _;have hb1:Below Wa.heap.size Wa (Wa.alloc (.cells #[.int .u8 x.kind,.int .u8 x.a,.int .u8 x.b] 92)):=zR.alloc zL _;generalize (Wa.alloc (.cells #[.int .u8 x.kind,.int .u8 x.a,.int .u8 x.b] 92))=W1 at hBx hb1 ⊢;obtain⟨xb,hxb⟩:∃xb,xb=Wa.heap.size:=⟨_,rfl⟩;rw[←hxb] at hBx ⊢;have y1:W1.cell? ⟨xb,1,none⟩=some (.int .u8 x.a):=hBx.cell 1;have hxz:=hBx.lt;have HB1:=zh hb1;clear hBx hb1 hxb t0 t1 t2 t3 t4 t5 x0 x1 x2
     go_cut [9,27,28,29,30,31,32,33,34] (fun s9 _ _ _ _ _ _ _ _ wx=>s9= .int .i64 kk∧wx=W1)
     case first=>
      go_wp2_with fail
      all_goals go_meet
      all_goals exact⟨by have:=HMAX.out;congr 1<;>omega,rfl⟩
     case rest=>
      obtain⟨rfl,rfl⟩:=hcut
      rename World=>W1
      have hkI:(kk:Int)≤(m:Int)+1:=(by omega);have hkI':(kk:Int)+1≤(m:Int):=(by omega);have hownW:W1.ownsRow (w.heap.size+1) 27 6 (.slice (some ⟨g,0,none⟩) (m+1) pc) (m+1) (cs++[.int .u8 tp.kind,.slice o1 n1 c1,.int .i64 tp.lo,.int .i64 tp.hi,.bool tp.lazy,.slice o2 n2 c2]):=by
       have:=HOWN.out;rw[←HTP.out] at this;exact dX this HB1.out
      have hsrc:=FK (dX hownW (zR.alloc zL (.cells #[] 27))) (kk:=kk) (by omega);obtain⟨ds,hds⟩:∃ds:List Value,ds=(cs++([.int .u8 tp.kind,.slice o1 n1 c1,.int .i64 tp.lo,.int .i64 tp.hi,.bool tp.lazy,.slice o2 n2 c2]:List Value)).drop (kk*6):=⟨_,rfl⟩;rw[←hds] at hsrc;have hdl:ds.length=(m+1-kk)*6:=by rw[hds,List.length_drop,hownW.1];omega
      have hall:au (fun q=>q≠g∧w.heap.size+1≤q) Wa l (cs++[.int .u8 tp.kind,.slice o1 n1 c1,.int .i64 tp.lo,.int .i64 tp.hi,.bool tp.lazy,.slice o2 n2 c2]):=by
       have h1:=au.mono (M:=fun q=>q≠g∧w.heap.size+1≤q) (fun q hq=>⟨fun e=>hq.1 (by rw[e];rfl),hq.2⟩) A7.out;have h2:=ai.mono (M:=fun q=>q≠g∧w.heap.size+1≤q) (fun q hq=>⟨fun e=>hq.1 (by rw[e];rfl),hq.2⟩) HND.out;have:=h1.append (au.one h2);have e:=jB hne;rw[←HTP.out] at e
       rwa [←e] at this
      have hdn:au (fun q=>q≠g∧w.heap.size+1≤q) Wa (l.drop kk) ds:=by rw[hds];exact hall.drop kk
      have hd1:∀u∈ds,u.oneCell'=true:=Ep hdn;have hmx:m+1-kk≤maxLen:=by unfold maxLen;omega
      have hby:(m+1-kk)*80≤140737488355328:=(by omega);have hem:=CU W1 27 6;have HEM:=zh hem;have jG:=zh hsrc;have HDS:=zh hds;have HDL:=zh hdl;have fQ:=zh hall;have HDN:=zh hdn;have HD1:=zh hd1;have HOW:=zh hownW;have HBS:=zh (show W1.heap.size≤(W1.alloc (.cells #[] 27)).heap.size by simp);clear hem hsrc hds hdl hall hdn hd1 hownW;have key:∀w4 v1,w4.ownsRow W1.heap.size 27 6 v1 (0+(m+1-kk)) ([]++ds)→(W1.alloc (.cells #[] 27)).grownBy w4 (Value.slice (some ⟨W1.heap.size,0,none⟩) 0 0).ownBlock→
       ∃o' c',v1= .slice o' (m+1-kk) c'∧Below W1.heap.size W1 w4∧w4.ownsRow W1.heap.size 27 6 (.slice o' (m+1-kk) c') (m+1-kk) ds:=by
       intro w4 v1 h1 h2;rw[Nat.zero_add,List.nil_append] at h1;obtain⟨o',c',rfl⟩:=eX h1;exact⟨o',c',rfl,(zR.alloc zL _).grown h2 (by simp) (fun q hq'=>by have e:W1.heap.size=q:=(by simpa [Value.ownBlock] using hq');omega),h1⟩
      have HKEY:=zh key;clear key;go_upto_region 9 with(first|(at_builtin;refine aA rfl _ _ 25 rfl Tryz.underlying25 hi0 hz0 hz1 hz2 rfl (.slice (some ⟨W1.heap.size,0,none⟩) 0 0) 0 [] rfl HEM.out _ (m+1-kk) ds rfl jG.out HDL.out HD1.out (by omega) (by omega) HBS.out ?_;intro v1 w4 hown1 hgrow1 h31 h41;obtain⟨o',c',rfl,hb4,hr4⟩:=HKEY.out w4 v1 hown1 hgrow1;have HB4:=zh hb4;have HR4:=zh hr4;clear hown1 hgrow1 h31 h41 hb4 hr4))
      have O4:jP w Wa (.slice (some ⟨g,0,none⟩) l.length pc) l j:=by have:=HMK.out;rw[HLM.out] at this ⊢;exact this
      have hb4:Below Wa.heap.size Wa w4:=HB1.out.trans (HB4.out.mono HB1.out.size);have hb5:Below Wa.heap.size Wa (w4.alloc (.cells #[.int .u8 (3+(x.kind:Int)%2),.slice none 0 0,.int .i64 0,.int .i64 0,.bool false,.slice o' (m+1-kk) c'] 27)):=hb4.alloc hb4.size _;have hB5:Blk (w4.alloc (.cells #[.int .u8 (3+(x.kind:Int)%2),.slice none 0 0,.int .i64 0,.int .i64 0,.bool false,.slice o' (m+1-kk) c'] 27)) w4.heap.size #[.int .u8 (3+(x.kind:Int)%2),.slice none 0 0,.int .i64 0,.int .i64 0,.bool false,.slice o' (m+1-kk) c'] 27:=Blk.new _ _ _;have hr5:=dX HR4.out (zR.alloc zL (.cells #[.int .u8 (3+(x.kind:Int)%2),.slice none 0 0,.int .i64 0,.int .i64 0,.bool false,.slice o' (m+1-kk) c'] 27));obtain⟨q,hq⟩:∃q,q=w4.heap.size:=⟨_,rfl⟩;generalize (w4.alloc (.cells #[.int .u8 (3+(x.kind:Int)%2),.slice none 0 0,.int .i64 0,.int .i64 0,.bool false,.slice o' (m+1-kk) c'] 27))=W5 at hb5 hB5 hr5 ⊢;rw[←hq] at hB5 ⊢;have hkc:(kk:Int)≤pc:=(by omega);have hm5:jP w (W5.drew.alloc (.cells #[.int .u8 (3+(x.kind:Int)%2),.slice none 0 0,.int .i64 0,.int .i64 0,.bool false,.slice o' (m+1-kk) c'] 27)) (.slice (some ⟨g,0,none⟩) kk pc) (l.take kk) j:=by
       have h1:=O4.go (hb5.drew.alloc hb5.size (.cells #[.int .u8 (3+(x.kind:Int)%2),.slice none 0 0,.int .i64 0,.int .i64 0,.bool false,.slice o' (m+1-kk) c'] 27));exact⟨h1.pile.cut (by have:=HLM.out;omega),h1.res,h1.below,jA.cut h1.good⟩
      have htl:(l.take kk).length=kk:=by rw[List.length_take];have:=HLM.out;omega
      obtain⟨es,hes,hen⟩:=hm5.pile.row;have hN5:ai (fun p=>p≠g∧w.heap.size+1≤p) (W5.drew.alloc (.cells #[.int .u8 (3+(x.kind:Int)%2),.slice none 0 0,.int .i64 0,.int .i64 0,.bool false,.slice o' (m+1-kk) c'] 27)) (.mk (3+(x.kind%10%2:Nat)) [] 0 0 false (l.drop kk)) [.int .u8 (3+(x.kind:Int)%2),.slice none 0 0,.int .i64 0,.int .i64 0,.bool false,.slice o' (m+1-kk) c']:=by
       have e1:(3+((x.kind%10%2:Nat):Int))=3+(x.kind:Int)%2:=(by omega);have e2:(l.drop kk).length=m+1-kk:=by rw[List.length_drop,HLM.out]
       have hr6:=dX (dX hr5 (zR.drew)) ((Below.refl W5.drew.heap.size W5.drew).alloc zL (.cells #[.int .u8 (3+(x.kind:Int)%2),.slice none 0 0,.int .i64 0,.int .i64 0,.bool false,.slice o' (m+1-kk) c'] 27));have hro:Row (fun p=>p≠g∧w.heap.size+1≤p) _ _ _ _ _:=pI hr6 (fun p hp=>by have:=(hr6.lt p hp).1;have:=HB1.out.size;omega);rw[e1];exact Es (cs:=ds) (by rw[e2];exact hro) (au.go (Kept.of_below (hb5.drew.alloc hb5.size _) (fun _=>False)) (fun p _ hp=>⟨id,hp⟩) HDN.out) (by omega) (by omega)
      have HM5:=zh hm5;have HB5:=zh hB5;rw[htl] at hes;have HES:=zh hes;have HEN:=zh hen;have HN5:=zh hN5;have HTL:=zh htl;have lM:kk+1≤maxLen:=by unfold maxLen;omega
      have hby2:(kk+1)*80≤140737488355328:=(by omega);have hgz5:g<W5.heap.size:=by have:=hb5.size;omega
      have hsz5:w.heap.size+1≤W5.heap.size:=by have:=hb5.size;omega
      have hqg:q≠g:=by have:=hb4.size;omega
      clear O4 hb4 hb5 hB5 hr5 hq hm5 hes hen hN5 htl;apply aJ ?hm ?hok [0,1,2,3,4,5,6] [4,5] [6] ?hord (fun w'=>Blk w' q #[.int .u8 (3+(x.kind:Int)%2),.slice none 0 0,.int .i64 0,.int .i64 0,.bool false,.slice o' (m+1-kk) c'] 27) (mk9 W5 (w.heap.size+1) g kk es [.int .u8 (3+(x.kind:Int)%2),.slice none 0 0,.int .i64 0,.int .i64 0,.bool false,.slice o' (m+1-kk) c'])
      case hm=>rfl
      case hok=>kernel_rfl
      case hord=>kernel_rfl
      case hb=>
       intro L w' h hl
       match L with
       |[]=>obtain rfl:w'=W5.drew:=h;exact HB5.out
       |[_]=>obtain⟨-,rfl⟩:_∧w'=_:=h;exact HB5.out.drew.alloc _
       |_::_::_=>
        exfalso;rw[show(List.filter (fun j=>[4,5].contains j) [0,1,2,3,4,5,6]).length=2 by decide] at hl;simp only[List.length_cons] at hl;omega
      case hw=>rfl
      case h=>
       iterate 4
        apply ae _ rfl rfl rfl rfl
        case h=>
         intro W1 hW K hK
         (have p0:=hW.cell 0;have p1:=hW.cell 1;have p2:=hW.cell 2;have p3:=hW.cell 3;have p4:=hW.cell 4;have p5:=hW.cell 5;have pz:=hW.lt;clear hW)
         go_wp2_with fail
         exact hK
        simp only[zP,zQ,zB,zC]
       apply ax rfl rfl rfl
       case h=>
        intro W10 hW K hK;obtain rfl:W10=W5.drew:=hW
        go_wp2_with fail
        exact⟨rfl,rfl⟩
       intro v1 hv1;obtain⟨_,rfl,-⟩:=hv1;simp only[zP,zQ,zB,zC];apply ax rfl rfl rfl
       case h=>
        intro W10 hW K hK;obtain⟨-,rfl⟩:=hW;refine aY _ _ 25 rfl Tryz.underlying25 hi0 hz0 hz1 hz2 rfl (.slice (some ⟨g,0,none⟩) kk pc) kk es rfl HES.out _ 1 _ rfl (qK (W:=W5.drew) rfl) rfl (by simp[Value.oneCell']) lM hby2 (by simp;omega) ?_;intro v' w' h1 h2 h3 h4;obtain⟨ov,cv,rfl⟩:=eX h1;exact hK _ _ ⟨ov,cv,rfl,h1,h2,h3⟩
       intro v2 hv2;obtain⟨_,o3,c3,rfl,-⟩:=hv2;simp only[zP,zQ,zB,zC];apply ag _ rfl rfl rfl rfl
       case h=>
        intro W1 hW K hK
        go_wp2_with fail
        exact hK
       simp only[zP,zQ,zB,zC];refine aG fun W11 h11=> ?_
       obtain⟨o4,c4,he4,Q3,hg4,hv4⟩:=h11;simp only[Value.slice.injEq,true_and] at he4;obtain⟨rfl,rfl⟩:=he4;have hend:=HM5.out.more (x:= .mk (3+(x.kind%10%2:Nat)) [] 0 0 false (l.drop kk)) (by rw[HTL.out];exact HES.out) HEN.out (ai.mono (fun p hp=>⟨fun e=>hp.1 (by simpa [Value.ownBlock] using e.symm),hp.2⟩) HN5.out) (by rw[HTL.out];exact Q3) hg4 hv4 (by
        have hp:=HPL.out;rw[yV h8 hl2,←HKK.out] at hp;exact hp)
       have dL:=zh hend;clear hend Q3 hg4 hv4
       go_wp2_with fail
       go_roundw
       case rel=>exact⟨j+1,by omega,by go_num,by rw[HF.out,yV h8 hl2,←HKK.out];exact dL.out⟩
       case measure=>simp[intOf];omega
end Go.Proofs.YtnhjakdmbfadlaaGreatDoor
