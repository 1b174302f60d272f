/- Parts of the proof. Conditions: none. -/
import Derived.Test.YtnhjakdmbfadlaaGreatDoorT11
import Derived.Test.YtnhjakdmbfadlaaGreatDoorT12
import Derived.Test.YtnhjakdmbfadlaaGreatDoorT13
import Derived.Test.YtnhjakdmbfadlaaGreatDoorT06
import Derived.Deep.CutBlock
import Derived.Shelf.Unicode.DecodeLastEight
import Derived.Lib.TrimU
import Derived.Test.YtnhjakdmbfadlaaGreatDoorT00
import Derived.Test.YtnhjakdmbfadlaaGreatDoorT10
import Derived.Test.YtnhjakdmbfadlaaGreatDoorT09
import Derived.Outline
import Derived.Carry
set_option linter.all false
set_option maxHeartbeats 8000000
set_option maxRecDepth 100000
namespace Go.Proofs.YtnhjakdmbfadlaaGreatDoor
open Go.RowKit Wy Mem Grow
variable {fine:Bool} {cs xs ys:List Value} {l:List Wy.Way} {B G L b b' c g n sz:Nat} {N N' N0:Nat→Prop} {o:Option (List Wy.Way)} {e e':TypeId} {nv v:Value} {W W' w w' w1 w7:World}
theorem xW {C:Cx} (hC:C.Ok) (h:At C N w) {p:Nat} (hp:p≤C.s.size) {ob:Option Addr} {c:Nat} (hown:w1.ownsRow w.heap.size 57 2 (.slice ob C.G c) C.G ((List.replicate C.G (-1,-1)).flatMap bP)) (hb:Below w.heap.size w w1):
  aI N (w1.alloc (.cells #[.int .i64 p,.slice ob C.G c] 43)) C.G C.s.size (.slice (some ⟨w1.heap.size,0,none⟩) 1 1) [(ak C.G).still p]∧Below w.heap.size w (w1.alloc (.cells #[.int .i64 p,.slice ob C.G c] 43)):=by
 refine⟨?_,hb.alloc hb.size _⟩;have hB:=Blk.new w1 #[.int .i64 p,.slice ob C.G c] 43;refine⟨[.int .i64 p,.slice ob C.G c],⟨rfl,.inr ⟨w1.heap.size,0,1,rfl,Nat.le_refl _,by decide,h.new _ hb.size,by simp,fun j hj=> ?_⟩⟩,aH.one (x:=(ak C.G).still p) (aC.still (aB hown ((Kept.refl (fun _=>False) w1).alloc _) (fun _ _=>id)) (fun q hq _=>h.new q hq) (by have:=hC.G;omega)) hp (by rw[vN];simp)⟩;rw[hB.cell,Nat.zero_add];simp
theorem tH {C:Cx} (hA:At C N w) (hg:Goes (C.r w.heap.size) N w N' w') (hA':At C N' w') (hs:∀b,N' b→N b) (ho:o=none):
  vG C N w o (.returned (.tuple #[.slice none 0 0,.bool false])) w':=by
 subst ho;exact⟨hg.kept,hA'.mono hs hA.not,_,rfl,fun _=>rfl,fun l hl=>by cases hl⟩
theorem World.ownsRow.uniq (h:w.ownsRow b e sz v n xs) (k:w.ownsRow b' e' sz v n ys):xs=ys:=by
 rcases h.2 with⟨rfl,rfl⟩|⟨g,c,cur,rfl,-,hg,-,-,-,h1⟩
 ·have a:=h.1;have b:=k.1;simp at a b;rw[a,b]
 ·rcases k.2 with⟨h2,-⟩|⟨g',c',cur',h2,-,hg',-,-,-,k1⟩
  ·cases h2
  ·simp only[Value.slice.injEq,Option.some.injEq,Addr.mk.injEq] at h2;obtain⟨⟨rfl,-⟩,-⟩:=h2;rw[hg] at hg';simp only[Option.some.injEq,Obj.cells.injEq] at hg';rw[←h1,←k1,hg'.1]
theorem aH.set {sp:List (Int×Int)} (hs:aC N w nv sp) (hG:sp.length=G):∀{l:List Wy.Way} {cs:List Value} (j:Nat) (hj:j<l.length),aH N w G L l cs→aH N w G L (l.set j ⟨l[j].stop,sp⟩) (cs.set (j*2+1) nv)
 |[],cs,j,hj,h=>absurd hj (by simp)
 |x::r,cs,0,hj,h=>by
  obtain⟨v,q,rfl,h2,h3,h4⟩:=h;exact⟨nv,q,rfl,hs,⟨h3.1,hG⟩,h4⟩
 |x::r,cs,j+1,hj,h=>by
  obtain⟨v,q,rfl,h2,h3,h4⟩:=h;have hj':j<r.length:=by simpa using hj
  rw[show(j+1)*2+1=j*2+1+1+1 by omega];exact⟨v,q.set (j*2+1) nv,rfl,h2,h3,h4.set hs hG j hj'⟩
theorem gV.marked {C:Cx} {L:List Wy.Way} (h:gV C B N0 N w (.slice (some ⟨g,0,none⟩) n c) L) {j:Nat} (hj:j<L.length) {nv:Value} {sp:List (Int×Int)} (k:Kept (fun b=>b=g) w w7)
  (hr:∀cs,w.ownsRow B 43 2 (.slice (some ⟨g,0,none⟩) n c) L.length cs→w7.ownsRow B 43 2 (.slice (some ⟨g,0,none⟩) n c) L.length (cs.set (j*2+1) nv)) (hs:aC N w7 nv sp) (hG:sp.length=C.G):
  gV C B N0 N w7 (.slice (some ⟨g,0,none⟩) n c) (L.set j ⟨L[j].stop,sp⟩)∧Goes (C.r B) N w N w7:=by
 have hd:∀b,b<w.heap.size→N b→¬(b=g)∧N b:=fun b _ hb=>⟨fun e=>h.FQ g rfl (e ▸ hb),hb⟩
 have hgB:=h.rowB g rfl;have hA:At C N w7:=h.at_.go k hd ⟨by have:=h.mbB;omega,h.at_.not⟩ (fun b hb=>h.at_.new b (Nat.le_trans k.size hb));obtain⟨cs,h1,h2⟩:=h.row;refine⟨⟨hA,h.sub,h.mbB,Nat.le_trans h.size k.size,⟨cs.set (j*2+1) nv,by rw[List.length_set];exact hr cs h1,(h2.go k hd).set hs hG j hj⟩,h.FQ⟩,k.mono fun i _ e=> .inr ⟨by have:B≤g:=hgB.1;show B≤i;omega,fun hn=>h.FQ g rfl (e ▸ hn)⟩,fun _ _ hn=>hn⟩
theorem gV.dD {C:Cx} (h:At C N w) (hs:∀b,N b→N0 b) (hmb:C.mb<B) (hB:B≤w.heap.size) (k:Below w.heap.size w w') (hr:w'.ownsRow w.heap.size 43 2 v l.length cs) (hw:aH N w C.G C.s.size l cs):
  gV C B N0 (fun b=>N b∧v.ownBlock≠some b) w' v l∧Goes (C.r B) N w (fun b=>N b∧v.ownBlock≠some b) w':=by
 have hd:∀b,b<w.heap.size→N b→¬False∧(N b∧v.ownBlock≠some b):=fun b hb hn=>⟨id,hn,fun e=>by have:=(hr.lt b e).1;omega⟩
 have hA:At C (fun b=>N b∧v.ownBlock≠some b) w':=h.go (zK k) hd ⟨id,fun e=>h.not e.1⟩ (fun b hb=>⟨h.new b (Nat.le_trans k.size hb),fun e=>by have:=(hr.lt b e).2;omega⟩);exact⟨⟨hA,fun b hb=>hs b hb.1,hmb,Nat.le_trans hB k.size,⟨cs,iy hr hB,hw.go (zK k) hd⟩,fun g hg e=>e.2 hg⟩,Kept.of_below k _,fun b hb hn=>(hd b hb hn).2⟩
def fM (G g p:Nat) (l:List Wy.Way) (j:Nat):List Wy.Way:=(l.take j).map ((ak G).mark g p)++l.drop j
theorem iW (G g p:Nat) (l:List Wy.Way) (j:Nat) (hj:j≤l.length):(fM G g p l j).length=l.length:=by
 unfold fM;rw[List.length_append,List.length_map,List.length_take,List.length_drop];omega
theorem vX (G g p:Nat) {l:List Wy.Way} {j:Nat} (hj:j<l.length):(fM G g p l j)[j]? =some l[j]:=by
 unfold fM;rw[List.getElem?_append_right (by simp;omega),List.length_map,List.length_take,Nat.min_eq_left (by omega),Nat.sub_self,List.getElem?_drop,Nat.add_zero,List.getElem?_eq_getElem hj]
theorem Bq (G g p:Nat) {l:List Wy.Way} {j:Nat} (hj:j<l.length):fM G g p l (j+1)=(fM G g p l j).set j ((ak G).mark g p l[j]):=by
 unfold fM;rw[List.take_succ_eq_append_getElem hj,List.map_append,List.set_append_right _ _ (by simp;omega),List.length_map,List.length_take,Nat.min_eq_left (by omega),Nat.sub_self,List.drop_eq_getElem_cons hj,List.set_cons_zero,List.append_assoc]
 rfl
def Sw (C:Cx) (N:Nat→Prop) (B:Nat) (w:World) (o:Option (List Wy.Way)) (s11 s12:Value) (wx:World):Prop:=
 ∃(N':Nat→Prop) (ok:Bool) (a:Option Addr) (n c:Nat),s11= .slice a n c∧s12= .bool ok∧At C N' wx∧(∀q,N' q→N q)∧Goes (C.r B) N w N' wx∧
  (ok=true→∃l,l.length=n∧aI N' wx C.G C.s.size (.slice a n c) l∧o=most (some l))∧(ok=false→o=none)
theorem Sw.IV {C:Cx} (hg:Goes (C.r B) N w N W) (h:Wys C N W o (.returned (.tuple #[v,.bool fine])) W'):Sw C N B w (most o) v (.bool fine) W':=by
 obtain⟨h1,h2,v',h3,⟨a,n,c,rfl⟩,h5⟩:=h;simp only[Ending.returned.injEq,Value.tuple.injEq,Array.mk.injEq,List.cons.injEq,Value.bool.injEq,and_true] at h3;obtain⟨rfl,rfl⟩:=h3;refine⟨N,o.isSome,a,n,c,rfl,rfl,h2,fun _ hq=>hq,hg.trans (Goes.memo h1),fun ho=> ?_,fun ho=> ?_⟩
 ·obtain⟨l,rfl⟩:=Option.isSome_iff_exists.1 ho;have hw:=h5 l rfl;obtain⟨a',c',e⟩:=hw.slice;simp only[Value.slice.injEq] at e;exact⟨l,e.2.1.symm,hw,rfl⟩
 ·cases o with
  |none=>rfl
  |some l=>cases ho
theorem Wys.pair {C:Cx} {e:Ending} (h:Wys C N w o e w'):∃(a:Option Addr) (n c:Nat) (fine:Bool),e= .returned (.tuple #[.slice a n c,.bool fine]):=by
 obtain⟨h1,h2,v',h3,⟨a,n,c,rfl⟩,h5⟩:=h;exact⟨a,n,c,_,h3⟩
theorem oU (C:Cx) (k:Int) (set:List Rg) (lo hi:Int) (lazy:Bool) (subs:List Nd) (g p:Nat):C.wy (.mk k set lo hi lazy subs) g p=most (
  if k=1 then some [(ak C.G).still p]
  else if k=2 then(if 0<((aN C.s).dec p).2∧iG set ((aN C.s).dec p).1=true then some [(ak C.G).still (p+((aN C.s).dec p).2)] else some [])
  else if k=3 then dH (ak C.G) (aN C.s) subs g [(ak C.G).still p]
  else if k=5 then iY (ak C.G) (aN C.s) lo hi lazy subs g p
  else if k=6 then(bI (ak C.G) (aN C.s) subs (g+1) p).map fun l=>l.map ((ak C.G).mark g p)
  else bI (ak C.G) (aN C.s) subs g p):=by
 unfold Cx.wy;rw[Wy.wy]
theorem F6 {C:Cx} (hC:C.Ok) {k:Int} {set:List Rg} {lo hi:Int} {lazy:Bool} {subs:List Nd} (hf:Fit (.mk k set lo hi lazy subs)) (ih:∀s∈subs,fA C s):fA C (.mk k set lo hi lazy subs):=by
 intro N w num grp b place h hp ht hg hpl;obtain⟨sv,uv,pv,ps,B0,hNb,hk,hu,hlo,hhi,hset,hrow,hparts⟩:=oC hp;obtain⟨b6,b0⟩:w.cell? ⟨b,6,none⟩=some (.int .i64 num)∧w.cell? ⟨b,0,none⟩=some (.int .u8 k):=⟨B0.cell 6,B0.cell 0⟩;have hbz:=B0.lt;have HA:=zh h;have HP:=zh hp;have HB0:=zh B0;clear h hp B0;go_enter Tryz.func43,Tryz.ntmps43
 go_upto_region 2 with fail
 have hb2:Below w.heap.size w (w.alloc (.cells #[.int .i64 num,.int .i64 place] 142)):=zR.alloc zL _;have hB8:Blk (w.alloc (.cells #[.int .i64 num,.int .i64 place] 142)) w.heap.size #[.int .i64 num,.int .i64 place] 142:=Blk.new _ _ _;generalize (w.alloc (.cells #[.int .i64 num,.int .i64 place] 142))=W2 at hb2 hB8 ⊢;have hA2:At C N W2.drew:=(HA.out.below hb2).below (zR.drew);have hself:=ht.self;have hn:num≤1000000000:=hC.T num _ hself;have IA:Goes (C.r w.heap.size) N w N W2.drew:=Goes.below hb2.drew;have gZ:=zh IA;have HB8:=zh hB8;have HA2:=zh hA2;have OC:=zh hself;obtain⟨q0,q1,-,-⟩:=(show Blk W2.drew w.heap.size _ _ from hB8).two;have qz:=(show Blk W2.drew w.heap.size _ _ from hB8).lt;have m3:W2.drew.cell? ⟨C.m,3,none⟩=some (.map (some C.mb)):=hA2.maker.cell 3;have mz:=hA2.maker.lt;have hlook:=Dl hC hA2 (n:=num) (p:=place) hn (by have:=hC.len;omega);clear hb2 IA hB8 hA2 hself b6 hbz;rcases hlook with hlk|⟨v,t,g,l,hlk,hT,hwy,hwa⟩
 ·apply aJ ?hm ?hok [0,1,2,3,4,5,6,7,8,9,10] [] [0,1,2,3,4,5,6,7,8,9,10] ?hord (fun _=>True) (fun L w'=>L=[]∧w'=W2.drew)
  case hm=>rfl
  case hok=>kernel_rfl
  case hord=>kernel_rfl
  case hb=>exact fun _ _ _ _=>trivial
  case hw=>exact⟨rfl,rfl⟩
  case h=>
   iterate 11
    apply ag _ rfl rfl rfl rfl
    case h=>
     intro W1 hW K hK
     (obtain⟨-,rfl⟩:=hW)
     go_wp2_with fail
     exact hK
    simp only[zP,zQ,zB,zC]
   refine aG fun W3 h3=> ?_
   obtain⟨-,rfl⟩:=h3;have w0:W2.drew.cell? ⟨b,0,none⟩=some (.int .u8 k):=(gZ.out.cell HA.out HP.out.lt.1 HP.out.lt.2 0).trans b0
   go_upto_block 0 with fail
   go_cut [11,12] (fun s11 s12 wx=>Sw C N w.heap.size W2.drew (C.wy (.mk k set lo hi lazy subs) grp place) s11 s12 wx)
   case first=>
    clear hlk m3 mz q0 q1 qz;rcases hf.kind with rfl|⟨rfl,hrg,rfl⟩|rfl|rfl|⟨rfl,s,rfl,hlo1,hlo2,hhi2,jQ⟩|⟨rfl,s,hs6⟩
    ·have hst:=oq (place:=place) HA2.out.maker HA2.out.none (by have:=hC.G;omega);have HST:=zh hst;clear hst
     go_wp2_with (go_at_call 66;refine HST.out.mono ?_;rintro e w1 ⟨v',rfl,hown,hb1⟩;obtain⟨ob,c,rfl⟩:=ay hown)
     go_meet
     obtain⟨hw1,hb2⟩:=xW hC HA2.out hpl hown hb1;refine⟨N,true,_,_,_,rfl,rfl,HA2.out.below hb2,fun _ hq=>hq,Goes.below hb2,fun _=>⟨_,rfl,hw1,?_⟩,fun e=>by cases e⟩;rw[oU,if_pos rfl]
    ·have hdec:=Tryz.utf8_DecodeRuneInString (C.s.extract place C.s.size) W2.drew HA2.out.tabs;obtain⟨cp,hcp⟩:∃cp,cp=(Lib.decodeGo (C.s.extract place C.s.size)).1:=⟨_,rfl⟩;obtain⟨nb,hnb⟩:∃nb,nb=(Lib.decodeGo (C.s.extract place C.s.size)).2:=⟨_,rfl⟩;rw[←hcp,←hnb] at hdec;have hd:(aN C.s).dec place=((cp:Int),nb):=by rw[hcp,hnb];rfl
     have hnbz:place+nb≤C.s.size:=by
      have:=Lib.decodeGo_le_size (C.s.extract place C.s.size);rw[←hnb,ByteArray.size_extract] at this;omega
     have hcp1:(cp:Int)≤1114111:=by
      have:cp≤1114111:=by
       rw[hcp];unfold Lib.decodeGo;split
       ·decide
       ·exact Lib.rune_le _ _
      omega
     have hcp0:(0:Int)≤cp:=(by omega);have hlen:=hC.len;have hnbI:(place:Int)+nb≤32:=(by omega);have hplI:(place:Int)≤C.s.size:=(by omega);obtain⟨os,cs,rfl⟩:=hset.row.slice;have hs2:dG N W2.drew (.slice os set.length cs) set:=dG.go hset gZ.out.own (gZ.out.hd HA.out);have s1:W2.drew.cell? ⟨b,1,none⟩=some (.slice os set.length cs):=(gZ.out.blk HA.out HB0.out hNb).cell 1;have sbz:b<W2.drew.heap.size:=(gZ.out.blk HA.out HB0.out hNb).lt;have s0:W2.drew.cell? ⟨C.m,0,none⟩=some (.string C.s):=HA2.out.maker.cell 0;have sz:C.m<W2.drew.heap.size:=HA2.out.maker.lt;have PH:=zh hdec;have HD:=zh hd;have HS2:=zh hs2;clear hdec hd hs2 hcp hnb;by_cases hnb0:nb=0
     ·subst hnb0
      go_wp2_with (go_at_call 67;refine PH.out.mono ?_;rintro e w1 ⟨rfl,hb1⟩;have HB1:=zh hb1;clear hb1)
      go_meet
      refine⟨N,true,none,0,0,rfl,rfl,HA2.out.below HB1.out,fun _ hq=>hq,Goes.below HB1.out,fun _=>⟨[],rfl,aI.nil _ _ _ _ _ _,?_⟩,fun e=>by cases e⟩;rw[oU,if_neg (by omega),if_pos rfl,HD.out,if_neg (by simp)]
     ·have hnbp:(0:Int)<nb:=(by omega);have hhas:∀w1,Below W2.drew.heap.size W2.drew w1→Calls Tryz.prog 68 #[.slice os set.length cs,.int .i64 cp] w1 fun e w'=>e= .returned (.bool (iG set cp))∧Below w1.heap.size w1 w':=fun w1 hb1=>Me (dG.go HS2.out (Goes.below (R:=C.r w.heap.size) (N:=N) hb1).own ((Goes.below (R:=C.r w.heap.size) (N:=N) hb1).hd HA2.out)) hrg cp
      have Dp:=zh hhas;clear hhas;cases hh:iG set cp with
      |false=>
       go_wp2_with (first|(go_at_call 67;refine PH.out.mono ?_;rintro e w1 ⟨rfl,hb1⟩;have HB1:=zh hb1;have s2:=(hb1.cell (p:=⟨b,1,none⟩) (by omega)).trans s1;clear hb1)|(go_at_call 68;refine(Dp.out _ HB1.out).mono ?_;rintro e w2 ⟨rfl,hb2⟩;have HB2:=zh (HB1.out.trans (hb2.mono HB1.out.size));clear hb2;rw[hh]))
       go_meet
       refine⟨N,true,none,0,0,rfl,rfl,HA2.out.below HB2.out,fun _ hq=>hq,Goes.below HB2.out,fun _=>⟨[],rfl,aI.nil _ _ _ _ _ _,?_⟩,fun e=>by cases e⟩;rw[oU,if_neg (by omega),if_pos rfl,HD.out,if_neg (by simp[hh])]
      |true=>
       have hst:∀w1,Below W2.drew.heap.size W2.drew w1→Calls Tryz.prog 66 #[.pointer (some ⟨C.m,0,none⟩),.int .i64 ((place:Int)+nb)] w1 (Stl ((place:Int)+nb) C.G w1):=fun w1 hb1=>oq (HA2.out.below hb1).maker (HA2.out.below hb1).none (by have:=hC.G;omega)
       have HST:=zh hst;clear hst
       go_wp2_with (first|(go_at_call 67;refine PH.out.mono ?_;rintro e w1 ⟨rfl,hb1⟩;have HB1:=zh hb1;have s2:=(hb1.cell (p:=⟨b,1,none⟩) (by omega)).trans s1;clear hb1)|(go_at_call 68;refine(Dp.out _ HB1.out).mono ?_;rintro e w2 ⟨rfl,hb2⟩;have HB2:=zh (HB1.out.trans (hb2.mono HB1.out.size));clear hb2;rw[hh])|(go_at_call 66;refine(HST.out _ HB2.out).mono ?_;rintro e w3 ⟨v',rfl,hown,hb3⟩;obtain⟨ob,c,rfl⟩:=ay hown))
       go_meet
       rw[show(place:Int)+nb=((place+nb:Nat):Int) by omega];obtain⟨hw1,hb4⟩:=xW hC (HA2.out.below HB2.out) hnbz hown hb3;have hb5:=HB2.out.trans (hb4.mono HB2.out.size);refine⟨N,true,_,_,_,rfl,rfl,HA2.out.below hb5,fun _ hq=>hq,Goes.below hb5,fun _=>⟨_,rfl,hw1,?_⟩,fun e=>by cases e⟩;rw[oU,if_neg (by omega),if_pos rfl,HD.out,if_pos ⟨by omega,hh⟩]
    ·have IB:=LP hC HA2.out (gZ.out.part HA.out HP.out) ht (by rw[opened] at hg;simpa using hg) hpl (by
      have:=hf.shape;simp only[bT] at this;simp at this;omega) ih
     have FW:=zh IB;clear IB
     go_wp2_with (go_at_call 69;refine FW.out.mono ?_;intro e w1 hw1;obtain⟨a,n,c,fine,rfl⟩:=hw1.pair;have HWY:=zh hw1;clear hw1)
     go_meet
     rw[oU,if_neg (by omega),if_neg (by omega),if_pos rfl];exact Sw.IV (Goes.refl _ _ _) HWY.out
    ·have htab:=oD ht;simp only[show¬((4:Int)=6) by omega,if_false,Nat.add_zero] at htab hparts;have hne:0<subs.length:=by have:=hf.shape;simp only[bT] at this;simp at this;omega
     have hog:grp+aj subs≤C.G:=by rw[opened] at hg;simpa using hg
     obtain⟨pb,po,pc,rfl,LQ,O6,FT,FU,hcell⟩:=jY hrow hparts hne;have HC:=zh hcell;have HIH:=zh ih;have mZ:=zh htab;have Dc:=zh hog;have s8:W2.drew.cell? ⟨b,8,none⟩=some (.slice (some ⟨pb,po,none⟩) subs.length pc):=(gZ.out.blk HA.out HB0.out hNb).cell 8;have sbz:b<W2.drew.heap.size:=(gZ.out.blk HA.out HB0.out hNb).lt;have Dq:(subs.length:Int)≤1048576:=by have:=hk.2.2;omega
     have Ry:(subs.length:Int)≤pc:=(by omega);obtain⟨i0,hi0,hz0,hz1,hz2⟩:=info_parts rJ;clear hcell htab hog hparts hrow hset
     go_wp2_with fail
     go_loopw [48,11,12] (fun s48 s11 s12 wx=>∃(i:Nat) (N1:Nat→Prop) (l:List Wy.Way) (ok:Bool),i≤subs.length∧s48= .int .i64 i∧gV C w.heap.size N N1 wx s11 l∧s12= .bool ok∧l.length≤500*i∧Goes (C.r w.heap.size) N W2.drew N1 wx∧Hid (bI (ak C.G) (aN C.s) (subs.take i) grp place=if ok then some l else none)∧Hid (i=1→ok=false→l=[])) (fun s48 _ _ _=>subs.length-(intOf s48).toNat)
     case atStart=>exact⟨0,N,[],true,by omega,rfl,gV.nil HA2.out (fun _ hq=>hq) HA.out.CS gZ.out.own.size,rfl,by simp,Goes.refl _ _ _,zh rfl,zh (fun e=>by omega)⟩
     case round=>
      rename World=>Wa
      obtain⟨i,N1,l,ok,hi,rfl,hgr,rfl,hll,hgo,halt,hone⟩:=hrel;obtain⟨ol,cl,rfl⟩:=hgr.slice;have HGR:=zh hgr;have HGO:=zh hgo;have O7:(l.length:Int)≤1000000000:=(by omega);clear hgr hgo;by_cases hil:i<subs.length
      ·obtain⟨sb,hsb,ug⟩:=HC.out i hil;have c1:Wa.cell? ⟨pb,po+i,none⟩=some (.pointer (some ⟨sb,0,none⟩)):=((gZ.out.trans HGO.out).cell HA.out FU FT _).trans hsb;have hcall:=(HIH.out subs[i] (List.getElem_mem hil)).any HGR.out.at_ ((gZ.out.trans HGO.out).part HA.out ug) (kS.get mZ.out i hil) (by have:=lI hil;have:=Dc.out;omega) hpl;obtain⟨o,ho⟩:∃o,o=C.wy subs[i] (grp+aj (subs.take i)) place:=⟨_,rfl⟩;rw[←ho] at hcall;obtain⟨more,hmore⟩:∃more,more=o.getD []:=⟨_,rfl⟩;obtain⟨fine,gX⟩:∃fine,fine=o.isSome:=⟨_,rfl⟩;rw[←hmore,←gX] at hcall;have aS:=zh hcall;have hml:more.length≤500:=by
        rw[hmore];cases e:o with
        |none=>simp
        |some l=>exact fV (ho.symm.trans e)
       have hnext:bI (ak C.G) (aN C.s) (subs.take (i+1)) grp place=if(ok && fine) then some (l++more) else none:=by
        have hw:wy (ak C.G) (aN C.s) subs[i] (grp+aj (subs.take i)) place=o:=ho.symm;rw[pG _ _ hil,halt.out,hw,hmore,gX];cases ok<;>cases o<;>simp
       have hone':i+1=1→(ok && fine)=false→l++more=[]:=by
        intro e hof;obtain rfl:i=0:=(by omega);have hl0:l=[]:=List.eq_nil_of_length_eq_zero (by omega);subst hl0;have hok:ok=true:=by
         have:=halt.out;cases ok with
         |true=>rfl
         |false=>simp[bI] at this
        rw[hok,Bool.true_and] at hof;rw[hmore];cases o with
        |none=>rfl
        |some _=>rw[gX] at hof;cases hof
       have IW:=zh hnext;have PI:=zh hone';have pO:(i:Int)<subs.length:=(by omega);have ng:l.length+more.length≤maxLen:=by unfold maxLen;omega
       have lM:(l.length+more.length)*32≤140737488355328:=(by omega);obtain⟨cs,hr1,hr2⟩:=HGR.out.row;have HR1:=zh hr1;have HR2:=zh hr2;clear hcall ho hmore gX ug hsb hnext hone' hr1 hr2;cases ok<;>
       (go_wp2_with (first|(go_at_call 43;refine aS.out.mono ?_;rintro e w3 ⟨am,cm,rfl,hk3,hA3,hW3⟩;obtain⟨ns,hn1,hn2⟩:=hW3;have HN1:=zh hn1;have HN2:=zh hn2;have HK3:=zh hk3;have HG3:=zh (HGR.out.memo hk3 hA3);have HR3:=zh (aB HR1.out hk3 (fun q hq e=>by have:=HGR.out.rowB q hq;have:=HGR.out.mbB;omega));have jG:=zh (jV hn1);have IX:=zh hn2.oneCell;have HL3:=zh hn1.len;clear hk3 hA3 hn1 hn2)|(at_builtin;refine aA rfl _ _ 38 rfl Tryz.underlying38 hi0 hz0 hz1 hz2 rfl (.slice ol l.length cl) l.length cs rfl HR3.out _ more.length ns rfl jG.out HL3.out IX.out ng lM HG3.out.size ?_;intro v7 w7 bQ fZ h37 h47;obtain⟨ov7,cv7,rfl⟩:=ay bQ))
        obtain⟨Bg,qM⟩:=HG3.out.more (HR2.out.go HK3.out (fun q _ hq=>⟨fun e=>HGR.out.at_.not (e ▸ hq),hq⟩)) HN2.out bQ fZ h37;go_roundw
        case rel=>
         refine⟨i+1,_,l++more,_,by omega,by go_num,Bg,rfl,by rw[List.length_append];omega,HGO.out.trans ((Goes.memo HK3.out).trans qM),IW,PI⟩
        case measure=>simp[intOf];omega)
      ·obtain rfl:i=subs.length:=(by omega);have w0':Wa.cell? ⟨b,0,none⟩=some (.int .u8 4):=(HGO.out.cell HA2.out sbz (gZ.out.keep b HP.out.lt.1 hNb) 0).trans w0;have sbz':b<Wa.heap.size:=HGO.out.own.lt sbz
       go_wp2_with fail
       go_meet
       obtain⟨N',hA',hN',hgo',hW'⟩:=HGR.out.done (fun q hq=>HA.out.new q hq);have ha:=halt.out;rw[List.take_length] at ha;refine⟨N',ok,_,_,_,rfl,rfl,hA',hN',HGO.out.trans hgo',fun hok=>⟨l,rfl,hW',?_⟩,fun hok=> ?_⟩
       ·rw[oU,if_neg (by omega),if_neg (by omega),if_neg (by omega),if_neg (by omega),if_neg (by omega),ha,hok,if_pos rfl]
       ·rw[oU,if_neg (by omega),if_neg (by omega),if_neg (by omega),if_neg (by omega),if_neg (by omega),ha,hok]
        rfl
    ·have hrp:=L8 hC HA2.out (gZ.out.part HA.out HP.out) ht (by rw[opened,aj,aj] at hg;simpa using hg) hpl hf (ih s (by simp));have HRP:=zh hrp;clear hrp
     go_wp2_with (go_at_call 70;refine HRP.out.mono ?_;intro e w1 hw1;obtain⟨a,n,c,fine,rfl⟩:=hw1.pair;have HWY:=zh hw1;clear hw1)
     go_meet
     rw[oU,if_neg (by omega),if_neg (by omega),if_neg (by omega),if_pos rfl];exact Sw.IV (Goes.refl _ _ _) HWY.out
    ·have htab:=oD ht;simp only[show((6:Int)=6) by omega,if_true] at htab hparts;have hne:0<subs.length:=by rw[hs6];simp
     have hog:(grp+1)+aj subs≤C.G:=by rw[opened] at hg;simp only[if_true] at hg;omega
     obtain⟨pb,po,pc,rfl,LQ,O6,FT,FU,hcell⟩:=jY hrow hparts hne;have HC:=zh hcell;have HIH:=zh ih;have mZ:=zh htab;have Dc:=zh hog;have s8:W2.drew.cell? ⟨b,8,none⟩=some (.slice (some ⟨pb,po,none⟩) subs.length pc):=(gZ.out.blk HA.out HB0.out hNb).cell 8;have sbz:b<W2.drew.heap.size:=(gZ.out.blk HA.out HB0.out hNb).lt;have Dq:(subs.length:Int)≤1048576:=by have:=hk.2.2;omega
     have Ry:(subs.length:Int)≤pc:=(by omega);obtain⟨i0,hi0,hz0,hz1,hz2⟩:=info_parts rJ;have HS6:=zh hs6;clear hs6;clear hcell htab hog hparts hrow hset
     go_wp2_with fail
     go_loopw [48,11,12] (fun s48 s11 s12 wx=>∃(i:Nat) (N1:Nat→Prop) (l:List Wy.Way) (ok:Bool),i≤subs.length∧s48= .int .i64 i∧gV C w.heap.size N N1 wx s11 l∧s12= .bool ok∧l.length≤500*i∧Goes (C.r w.heap.size) N W2.drew N1 wx∧Hid (bI (ak C.G) (aN C.s) (subs.take i) (grp+1) place=if ok then some l else none)∧Hid (i=1→ok=false→l=[])) (fun s48 _ _ _=>subs.length-(intOf s48).toNat)
     case atStart=>exact⟨0,N,[],true,by omega,rfl,gV.nil HA2.out (fun _ hq=>hq) HA.out.CS gZ.out.own.size,rfl,by simp,Goes.refl _ _ _,zh rfl,zh (fun e=>by omega)⟩
     case round=>
      rename World=>Wa
      obtain⟨i,N1,l,ok,hi,rfl,hgr,rfl,hll,hgo,halt,hone⟩:=hrel;obtain⟨ol,cl,rfl⟩:=hgr.slice;have HGR:=zh hgr;have HGO:=zh hgo;have O7:(l.length:Int)≤1000000000:=(by omega);clear hgr hgo;by_cases hil:i<subs.length
      ·obtain⟨sb,hsb,ug⟩:=HC.out i hil;have c1:Wa.cell? ⟨pb,po+i,none⟩=some (.pointer (some ⟨sb,0,none⟩)):=((gZ.out.trans HGO.out).cell HA.out FU FT _).trans hsb;have hcall:=(HIH.out subs[i] (List.getElem_mem hil)).any HGR.out.at_ ((gZ.out.trans HGO.out).part HA.out ug) (kS.get mZ.out i hil) (by have:=lI hil;have:=Dc.out;omega) hpl;obtain⟨o,ho⟩:∃o,o=C.wy subs[i] ((grp+1)+aj (subs.take i)) place:=⟨_,rfl⟩;rw[←ho] at hcall;obtain⟨more,hmore⟩:∃more,more=o.getD []:=⟨_,rfl⟩;obtain⟨fine,gX⟩:∃fine,fine=o.isSome:=⟨_,rfl⟩;rw[←hmore,←gX] at hcall;have aS:=zh hcall;have hml:more.length≤500:=by
        rw[hmore];cases e:o with
        |none=>simp
        |some l=>exact fV (ho.symm.trans e)
       have hnext:bI (ak C.G) (aN C.s) (subs.take (i+1)) (grp+1) place=if(ok && fine) then some (l++more) else none:=by
        have hw:wy (ak C.G) (aN C.s) subs[i] ((grp+1)+aj (subs.take i)) place=o:=ho.symm;rw[pG _ _ hil,halt.out,hw,hmore,gX];cases ok<;>cases o<;>simp
       have hone':i+1=1→(ok && fine)=false→l++more=[]:=by
        intro e hof;obtain rfl:i=0:=(by omega);have hl0:l=[]:=List.eq_nil_of_length_eq_zero (by omega);subst hl0;have hok:ok=true:=by
         have:=halt.out;cases ok with
         |true=>rfl
         |false=>simp[bI] at this
        rw[hok,Bool.true_and] at hof;rw[hmore];cases o with
        |none=>rfl
        |some _=>rw[gX] at hof;cases hof
       have IW:=zh hnext;have PI:=zh hone';have pO:(i:Int)<subs.length:=(by omega);have ng:l.length+more.length≤maxLen:=by unfold maxLen;omega
       have lM:(l.length+more.length)*32≤140737488355328:=(by omega);obtain⟨cs,hr1,hr2⟩:=HGR.out.row;have HR1:=zh hr1;have HR2:=zh hr2;clear hcall ho hmore gX ug hsb hnext hone' hr1 hr2;cases ok<;>
       (go_wp2_with (first|(go_at_call 43;refine aS.out.mono ?_;rintro e w3 ⟨am,cm,rfl,hk3,hA3,hW3⟩;obtain⟨ns,hn1,hn2⟩:=hW3;have HN1:=zh hn1;have HN2:=zh hn2;have HK3:=zh hk3;have HG3:=zh (HGR.out.memo hk3 hA3);have HR3:=zh (aB HR1.out hk3 (fun q hq e=>by have:=HGR.out.rowB q hq;have:=HGR.out.mbB;omega));have jG:=zh (jV hn1);have IX:=zh hn2.oneCell;have HL3:=zh hn1.len;clear hk3 hA3 hn1 hn2)|(at_builtin;refine aA rfl _ _ 38 rfl Tryz.underlying38 hi0 hz0 hz1 hz2 rfl (.slice ol l.length cl) l.length cs rfl HR3.out _ more.length ns rfl jG.out HL3.out IX.out ng lM HG3.out.size ?_;intro v7 w7 bQ fZ h37 h47;obtain⟨ov7,cv7,rfl⟩:=ay bQ))
        obtain⟨Bg,qM⟩:=HG3.out.more (HR2.out.go HK3.out (fun q _ hq=>⟨fun e=>HGR.out.at_.not (e ▸ hq),hq⟩)) HN2.out bQ fZ h37;go_roundw
        case rel=>
         refine⟨i+1,_,l++more,_,by omega,by go_num,Bg,rfl,by rw[List.length_append];omega,HGO.out.trans ((Goes.memo HK3.out).trans qM),IW,PI⟩
        case measure=>simp[intOf];omega)
      ·obtain rfl:i=subs.length:=(by omega);have w0':Wa.cell? ⟨b,0,none⟩=some (.int .u8 6):=(HGO.out.cell HA2.out sbz (gZ.out.keep b HP.out.lt.1 hNb) 0).trans w0;have sbz':b<Wa.heap.size:=HGO.out.own.lt sbz;obtain⟨N',hA',hN',hgo',hW'⟩:=HGR.out.done (fun q hq=>HA.out.new q hq);obtain⟨cs,hr1,hr2⟩:=hW';have hl1:l.length≤500:=by rw[HS6.out] at hll;simp at hll;omega
       have hcl:=pR hr1 hr2.oneCell (by omega);have HCL:=zh hcl;have HA':=zh hA';have HN':=zh hN';have HGO':=zh hgo';have HR2':=zh hr2;clear hA' hN' hgo' hr1 hr2 hcl
       go_wp2_with (go_at_call 71;refine HCL.out.mono ?_;rintro e w7 ⟨v7,rfl,bQ,hb7⟩;obtain⟨o7,c7,rfl⟩:=ay bQ;have HO7:=zh bQ;have HB7:=zh hb7;clear bQ hb7)
       obtain⟨Bg,qM⟩:=gV.dD (N0:=N) (B:=w.heap.size) HA'.out HN'.out HA.out.CS HGR.out.size HB7.out HO7.out HR2'.out;have PK:=zh Bg;have Bj:=zh (HGO.out.trans (HGO'.out.trans qM));generalize (fun b=>N' b∧(Value.slice o7 l.length c7).ownBlock≠some b)=N7 at PK Bj;have RP:N7 b:=Bj.out.keep b sbz (gZ.out.keep b HP.out.lt.1 hNb);clear Bg qM;have hgrpG:grp+1≤C.G:=by have:=Dc.out;omega
       have hgI:(grp:Int)≤30:=by have:=hC.G;omega
       have hgG:(grp:Int)<C.G:=(by omega);go_loopw [77] (fun s77 wx=>∃j:Nat,j≤l.length∧s77= .int .i64 j∧gV C w.heap.size N N7 wx (.slice o7 l.length c7) (fM C.G grp place l j)∧Goes (C.r w.heap.size) N7 w7 N7 wx) (fun s77 _=>l.length-(intOf s77).toNat)
       case atStart=>exact⟨0,by omega,rfl,by have:=PK.out;simpa [fM] using this,Goes.refl _ _ _⟩
       case round=>
        rename World=>Wb
        obtain⟨j,hj,rfl,MB,FZ⟩:=hrel;have F7:=zh MB;have IY:=zh FZ;clear MB FZ;by_cases hjl:j<l.length
        ·obtain⟨cs8,hr8,hw8⟩:=F7.out.row;rw[iW C.G grp place l j hj] at hr8;obtain⟨g,c8,he8,hg1,hg2,hnc⟩:=gJ hr8 (by omega);simp only[Value.slice.injEq,true_and] at he8;obtain⟨rfl,rfl⟩:=he8;have hjm:j<(fM C.G grp place l j).length:=by rw[iW _ _ _ _ _ hj];exact hjl
         obtain⟨sv8,ec0,ec1,es8,ex8,eG8⟩:=hw8.get j hjm;have hgx:(fM C.G grp place l j)[j]=l[j]:=by
          have:=vX C.G grp place hjl;rw[List.getElem?_eq_getElem hjm] at this
          simpa using this
         obtain⟨x,hx⟩:∃x,x=l[j]:=⟨_,rfl⟩;rw[hgx,←hx] at ec0 es8 ex8 eG8;obtain⟨sx,sxc,rfl⟩:=es8.row.slice;have hcl8:=hr8.1;have y0:Wb.cell? ⟨g,j*2,none⟩=some (.int .i64 x.stop):=by rw[hr8.cellAt (j*2) (by omega)];exact ec0
         have y1:Wb.cell? ⟨g,j*2+1,none⟩=some (.slice sx x.spans.length sxc):=by rw[hr8.cellAt (j*2+1) (by omega)];exact ec1
         have O8:(j:Int)<l.length:=(by omega);have MC:(l.length:Int)≤c7:=(by omega);have HX:=zh hx;have HS8:=zh es8;have HXG:=zh eG8;have HR8:=zh hr8;have hcs:=lL (w:=Wb.alloc (.cells #[.int .i64 x.stop,.slice sx x.spans.length sxc] 43)) (aC.row ((Goes.below (R:=C.r w.heap.size) (N:=N7) (zR.alloc zL _)).spans F7.out.at_ es8)) (mX _) (by have:=es8.small;omega);have HCS:=zh hcs;have yb7:Wb.cell? ⟨b,7,none⟩=some (.int .i64 grp):=(IY.out.blk PK.out.at_ (Bj.out.blk HA2.out (gZ.out.blk HA.out HB0.out hNb) (gZ.out.keep b HP.out.lt.1 hNb)) RP).cell 7;have HNb8:N7 b:=IY.out.keep b (Bj.out.own.lt sbz) RP;have ybz:b<Wb.heap.size:=IY.out.own.lt (Bj.out.own.lt sbz);clear hcs hx es8 eG8 hr8 hw8 ec0 ec1 hgx hcl8;go_upto_region 20 with(first|(go_at_call 72;refine HCS.out.mono ?_;rintro e w5 ⟨nv,rfl,hown5,hb5⟩;obtain⟨o5,c5,rfl⟩:=ay hown5;have HO5:=zh hown5;have HB5:=zh hb5;have HR5:=zh (aB HR8.out (Kept.of_below ((zR.alloc zL _).trans (hb5.mono (by simp))) (fun _=>False)) (fun _ _=>id));have y15:w5.cell? ⟨g,j*2+1,none⟩=some (.slice sx x.spans.length sxc):=((((Below.refl Wb.heap.size Wb).alloc zL _).trans (hb5.mono (by simp))).cell (p:=⟨g,j*2+1,none⟩) hg2).trans y1;have f15:w5.frozen? ⟨g,j*2+1,none⟩=false:=HR5.out.frozenAt _;have RQ:=zh y15;clear hown5 hb5))
         have hbA:Below Wb.heap.size Wb w5:=(zR.alloc zL _).trans (HB5.out.mono (by simp));have RS:Blk w5 Wb.heap.size #[.int .i64 x.stop,.slice sx x.spans.length sxc] 43:=(Blk.new _ _ _).below HB5.out (by simp);obtain⟨sg,sgc,hsg,hsgb,hsgz,hsgn⟩:=gJ HO5.out (by rw[HXG.out];omega);simp only[Value.slice.injEq,true_and] at hsg;obtain⟨rfl,rfl⟩:=hsg;have hsgb':Wb.heap.size<sg:=by simp at hsgb;omega
         have hO6:(w5.setCell ⟨g,j*2+1,none⟩ (.slice (some ⟨sg,0,none⟩) x.spans.length c5)).ownsRow (Wb.heap.size+1) 57 2 (.slice (some ⟨sg,0,none⟩) x.spans.length c5) x.spans.length (x.spans.flatMap bP):=
          ownsRow_setCell_other (iy HO5.out (by simp)) (by simp[Value.ownBlock];omega) _
         have hR6:=(HR5.out.stored (j*2+1) (.slice (some ⟨sg,0,none⟩) x.spans.length c5)).1;have k6:Kept (fun q=>q=g) Wb (w5.setCell ⟨g,j*2+1,none⟩ (.slice (some ⟨sg,0,none⟩) x.spans.length c5)):=(Kept.of_below hbA (fun q=>q=g)).setCell (p:=⟨g,j*2+1,none⟩) (fun _=>rfl) _;have v1:(w5.setCell ⟨g,j*2+1,none⟩ (.slice (some ⟨sg,0,none⟩) x.spans.length c5)).cell? ⟨g,j*2+1,none⟩=some (.slice (some ⟨sg,0,none⟩) x.spans.length c5):=World.cell?_setCell_same' _ _ _ (by rw[RQ.out];rfl);have v7:(w5.setCell ⟨g,j*2+1,none⟩ (.slice (some ⟨sg,0,none⟩) x.spans.length c5)).cell? ⟨b,7,none⟩=some (.int .i64 grp):=(zW (k6.block b ybz (fun e=>F7.out.FQ g rfl (e ▸ HNb8)))).trans yb7;have EG:=RS.setOther (p:=⟨g,j*2+1,none⟩) (by show Wb.heap.size≠g;omega) (.slice (some ⟨sg,0,none⟩) x.spans.length c5);have vz:sg<(w5.setCell ⟨g,j*2+1,none⟩ (.slice (some ⟨sg,0,none⟩) x.spans.length c5)).heap.size:=by simpa [World.setCell] using hsgz
         have vbz:b<(w5.setCell ⟨g,j*2+1,none⟩ (.slice (some ⟨sg,0,none⟩) x.spans.length c5)).heap.size:=k6.lt ybz;have vgz:g<(w5.setCell ⟨g,j*2+1,none⟩ (.slice (some ⟨sg,0,none⟩) x.spans.length c5)).heap.size:=k6.lt hg2;generalize (w5.setCell ⟨g,j*2+1,none⟩ (.slice (some ⟨sg,0,none⟩) x.spans.length c5))=W6 at hO6 hR6 k6 v1 v7 EG vz vbz vgz ⊢;obtain⟨v20,-,-,-⟩:=EG.two;have v20z:=EG.lt;have hgx:grp<x.spans.length:=by rw[HXG.out];omega
         have hgxI:(grp:Int)<x.spans.length:=(by omega);have hxnI:(x.spans.length:Int)≤c5:=(by omega);have RU:grp*2+1<(x.spans.flatMap bP).length:=by rw[hO6.1];omega
         obtain⟨d0,hd0⟩:∃u,W6.cell? ⟨sg,grp*2,none⟩=some u:=⟨_,by rw[hO6.cellAt (grp*2) (by omega),List.getElem?_eq_getElem (by omega)]⟩;obtain⟨d1,hd1⟩:∃u,W6.cell? ⟨sg,grp*2+1,none⟩=some u:=⟨_,by rw[hO6.cellAt (grp*2+1) (by omega),List.getElem?_eq_getElem RU]⟩;have fd0:=hO6.frozenAt (grp*2);have fd1:=hO6.frozenAt (grp*2+1);have hO7:=((hO6.stored (grp*2) (.int .i64 place)).1.stored (grp*2+1) (.int .i64 x.stop)).1;rw[nY x.spans grp ((place:Int),(x.stop:Int)) hgx] at hO7;have hR7:=ownsRow_setCell_other (a:=⟨sg,grp*2+1,none⟩) (ownsRow_setCell_other (a:=⟨sg,grp*2,none⟩) hR6 (by simp[Value.ownBlock];omega) (.int .i64 place)) (by simp[Value.ownBlock];omega) (.int .i64 x.stop);have k7:Kept (fun q=>q=g) Wb ((W6.setCell ⟨sg,grp*2,none⟩ (.int .i64 place)).setCell ⟨sg,grp*2+1,none⟩ (.int .i64 x.stop)):=(k6.setCell (p:=⟨sg,grp*2,none⟩) (fun h=>by have:sg<Wb.heap.size:=h;omega) _).setCell (p:=⟨sg,grp*2+1,none⟩) (fun h=>by have:sg<Wb.heap.size:=h;omega) _;have RV:aC N7 ((W6.setCell ⟨sg,grp*2,none⟩ (.int .i64 place)).setCell ⟨sg,grp*2+1,none⟩ (.int .i64 x.stop)) (.slice (some ⟨sg,0,none⟩) x.spans.length c5) (x.spans.set grp ((place:Int),(x.stop:Int))):=by
          refine⟨?_,fun q hq=> ?_,by rw[List.length_set];exact HS8.out.small⟩
          ·rw[List.length_set];exact Row.dD hO7 (fun q hq _=>F7.out.at_.new q (by omega))
          ·rcases List.mem_or_eq_of_mem_set hq with hq|rfl
           ·exact HS8.out.ok q hq
           ·have:=hC.len;refine⟨⟨?_,?_⟩,⟨?_,?_⟩⟩<;>(show _≤_)<;>omega
         have hjm:j<(fM C.G grp place l j).length:=by rw[iW _ _ _ _ _ hj];exact hjl
         have RX:=F7.out.marked hjm k7 (fun cs' h'=>by
          rw[iW _ _ _ _ _ hj] at h' ⊢;have e:cs'=cs8:=World.ownsRow.uniq h' HR8.out;rw[e];exact hR7) RV (by rw[List.length_set];exact HXG.out)
         obtain⟨hm1,hm2⟩:=RX;have hgx2:(fM C.G grp place l j)[j]=l[j]:=by
          have:=vX C.G grp place hjl;rw[List.getElem?_eq_getElem hjm] at this
          simpa using this
         have hms:(fM C.G grp place l j).set j ⟨(fM C.G grp place l j)[j].stop,x.spans.set grp ((place:Int),(x.stop:Int))⟩=fM C.G grp place l (j+1):=by
          rw[Bq C.G grp place hjl,hgx2,HX.out]
          rfl
         rw[hms] at hm1;have PL:Below ((W6.setCell ⟨sg,grp*2,none⟩ (.int .i64 place)).setCell ⟨sg,grp*2+1,none⟩ (.int .i64 x.stop)).heap.size ((W6.setCell ⟨sg,grp*2,none⟩ (.int .i64 place)).setCell ⟨sg,grp*2+1,none⟩ (.int .i64 x.stop)) ((W6.setCell ⟨sg,grp*2,none⟩ (.int .i64 place)).setCell ⟨sg,grp*2+1,none⟩ (.int .i64 x.stop)).drew:=zR.drew;have HM1:=zh (hm1.below PL);have HM2:=zh (IY.out.trans (hm2.trans (Goes.below PL)));clear hm1 hm2 PL hms hgx2 RV k7 hR7 hO7 hR6 k6 hO6 EG hbA RS RU y0 y1 RQ y15 f15;apply aJ ?hm ?hok [0,1,2,3,4,5,6,7,8,9,10,11,12,13,14] [14] [] ?hord (fun w'=>w'=W6.drew) (fun L w'=>match L with|[]=>w'=W6.drew|_=>w'=((W6.setCell ⟨sg,grp*2,none⟩ (.int .i64 place)).setCell ⟨sg,grp*2+1,none⟩ (.int .i64 x.stop)).drew)
         case hm=>rfl
         case hok=>kernel_rfl
         case hord=>kernel_rfl
         case hb=>
          intro L w' h hl
          match L with
          |[]=>exact h
          |_::_=>
           exfalso;rw[show(List.filter (fun j=>[14].contains j) [0,1,2,3,4,5,6,7,8,9,10,11,12,13,14]).length=1 by decide] at hl;simp only[List.length_cons] at hl;omega
         case hw=>rfl
         case h=>
          iterate 14
           apply ae _ rfl rfl rfl rfl
           case h=>
            intro W1 hW K hK
            (obtain rfl:=hW)
            go_wp2_with fail
            exact hK
           simp only[zP,zQ,zB,zC]
          apply ax rfl rfl rfl
          case h=>
           intro W10 hW K hK;obtain rfl:W10=W6.drew:=hW
           go_wp2_with fail
           exact hK undef _ rfl
          intro v10 AV;simp only[zP,zQ,zB,zC];refine aG fun W11 h11=> ?_
          obtain rfl:W11=((W6.setCell ⟨sg,grp*2,none⟩ (.int .i64 place)).setCell ⟨sg,grp*2+1,none⟩ (.int .i64 x.stop)).drew:=h11
          go_wp2_with fail
          go_roundw
          case rel=>exact⟨j+1,by omega,by go_num,HM1.out,HM2.out⟩
          case measure=>simp[intOf];omega
        ·obtain rfl:j=l.length:=by omega
         go_wp2_with fail
         go_meet
         obtain⟨N9,hA9,hN9,hgo9,hW9⟩:=F7.out.done (fun q hq=>HA.out.new q hq);have ha:=halt.out;rw[List.take_length] at ha;have hmk:fM C.G grp place l l.length=l.map ((ak C.G).mark grp place):=by simp[fM]
         rw[hmk] at hW9;refine⟨N9,ok,_,_,_,rfl,rfl,hA9,hN9,Bj.out.trans (IY.out.trans hgo9),fun hok=>⟨_,by simp,hW9,?_⟩,fun hok=> ?_⟩
         ·rw[oU,if_neg (by omega),if_neg (by omega),if_neg (by omega),if_neg (by omega),if_pos rfl,ha,hok,if_pos rfl]
          rfl
         ·rw[oU,if_neg (by omega),if_neg (by omega),if_neg (by omega),if_neg (by omega),if_pos rfl,ha,hok]
          rfl
   case rest=>
    rename World=>W5
    obtain⟨N',ok,a,n,c,rfl,rfl,hA5,hN5,hg5,h1,h2⟩:=hcut;have HA5:=zh hA5;have HN5:=zh hN5;have HG5:=zh (gZ.out.trans hg5);have HB5:=zh (hg5.blk HA2.out (show Blk W2.drew w.heap.size _ _ from HB8.out) (HA.out.new _ zL));have HH1:=zh h1;have HH2:=zh h2;clear hA5 hN5 hg5 h1 h2;cases ok with
    |false=>
     have ho:=HH2.out rfl;clear HH1 HH2
     go_wp2_with fail
     exact bodyPost_ret (v:= .tuple #[.slice none 0 0,.bool false]) (by simp[results,Tryz.results43,go_sem]) rfl (tH HA.out HG5.out HA5.out HN5.out ho)
    |true=>
     obtain⟨l,rfl,hw,ho⟩:=HH1.out rfl;clear HH1 HH2;have HW:=zh hw;have HO:=zh ho;have hlm:l.length≤maxLen:=by obtain⟨cs,h1,-⟩:=hw;exact h1.Hw
     have hlmI:(l.length:Int)≤9223372036854775807:=by unfold maxLen at hlm;omega
     clear hw ho;by_cases hl:l.length≤500
     ·have hlI:(l.length:Int)≤500:=(by omega);have ho:C.wy (.mk k set lo hi lazy subs) grp place=some l:=by rw[HO.out];exact eQ hl
      have hdr:Below W5.heap.size W5 W5.drew:=zR.drew;obtain⟨W6,hrun,hk6,hz6,hA6⟩:=Bl hC (HA5.out.below hdr) (n:=num) (p:=place) (g:=grp) (by have:=hC.len;omega) OC.out ho ((Goes.below (R:=C.r w.heap.size) (N:=N') hdr).ways HA5.out HW.out);obtain⟨x0,x1,-,-⟩:=(show Blk W5.drew w.heap.size _ _ from HB5.out).two;have xz:=(show Blk W5.drew w.heap.size _ _ from HB5.out).lt;have x3:W5.drew.cell? ⟨C.m,3,none⟩=some (.map (some C.mb)):=HA5.out.maker.cell 3;have x3z:C.m<W5.drew.heap.size:=HA5.out.maker.lt;have HO6:=zh ho;have hend:vG C N w (some l) (.returned (.tuple #[.slice a l.length c,.bool true])) W6:=by
       refine⟨(HG5.out.trans ((Goes.below hdr).trans (Goes.memo hk6))).kept,hA6.mono HN5.out HA.out.not,_,rfl,(fun e=>by cases e),fun l' hl'=> ?_⟩;simp only[Option.some.injEq] at hl';subst hl';exact(((Goes.below (R:=C.r w.heap.size) (N:=N') hdr).trans (Goes.memo hk6)).ways HA5.out HW.out).mono HN5.out
      have dL:=zh hend;have HRUN:=zh hrun;clear hend ho hk6 hz6 hA6 hrun;go_upto_region 34 with fail
      apply aJ ?hm ?hok [0,1,2,3,4,5,6] [6] [] ?hord (fun w'=>w'=W5.drew) (fun L w'=>match L with|[]=>w'=W5.drew|_=>w'=W6)
      case hm=>rfl
      case hok=>kernel_rfl
      case hord=>kernel_rfl
      case hb=>
       intro L w' h hl
       match L with
       |[]=>exact h
       |_::_=>
        exfalso;rw[show(List.filter (fun j=>[6].contains j) [0,1,2,3,4,5,6]).length=1 by decide] at hl;simp only[List.length_cons] at hl;omega
      case hw=>rfl
      case h=>
       iterate 6
        apply ae _ rfl rfl rfl rfl
        case h=>
         intro W1 hW K hK
         (obtain rfl:=hW)
         go_wp2_with fail
         exact hK
        simp only[zP,zQ,zB,zC]
       apply ax rfl rfl rfl
       case h=>
        intro W10 hW K hK;obtain rfl:W10=W5.drew:=hW;have hrun:=HRUN.out
        go_wp2_with fail
        exact hK undef _ rfl
       intro v10 AV;simp only[zP,zQ,zB,zC];refine aG fun W11 h11=> ?_
       obtain rfl:W11=W6:=h11
       go_wp2_with fail
       refine bodyPost_ret (v:= .tuple #[.slice a l.length c,.bool true]) (by simp[results,Tryz.results43,go_sem]) rfl ?_;rw[HO6.out];exact dL.out
     ·have hlI:(500:Int)<l.length:=(by omega);have ho:C.wy (.mk k set lo hi lazy subs) grp place=none:=by rw[HO.out];simp[most,hl]
      go_wp2_with fail
      exact bodyPost_ret (v:= .tuple #[.slice none 0 0,.bool false]) (by simp[results,Tryz.results43,go_sem]) rfl (tH HA.out HG5.out HA5.out HN5.out ho)
 ·obtain⟨vo,vcap,rfl⟩:=hwa.slice;apply aJ ?hm ?hok [0,1,2,3,4,5,6,7,8,9,10] [] [0,1,2,3,4,5,6,7,8,9,10] ?hord (fun _=>True) (fun L w'=>L=[]∧w'=W2.drew)
  case hm=>rfl
  case hok=>kernel_rfl
  case hord=>kernel_rfl
  case hb=>exact fun _ _ _ _=>trivial
  case hw=>exact⟨rfl,rfl⟩
  case h=>
   have HW:=zh hwa;iterate 11
    apply ag _ rfl rfl rfl rfl
    case h=>
     intro W1 hW K hK
     (obtain⟨-,rfl⟩:=hW)
     go_wp2_with fail
     exact hK
    simp only[zP,zQ,zB,zC]
   refine aG fun W3 h3=> ?_
   obtain⟨-,rfl⟩:=h3
   go_wp2_with fail
   refine bodyPost_ret (v:= .tuple #[.slice vo l.length vcap,.bool true]) (by simp[results,Tryz.results43,go_sem]) rfl ?_;rw[OC.out] at hT;simp only[Option.some.injEq,Prod.mk.injEq] at hT;obtain⟨rfl,rfl⟩:=hT;rw[hwy];refine⟨gZ.out.kept,HA2.out,_,rfl,(fun e=>by cases e),(fun l' hl'=> ?_)⟩;simp only[Option.some.injEq] at hl';subst hl';exact HW.out
theorem vY {C:Cx} (hC:C.Ok):∀t:Nd,Fit t→fA C t
 | .mk k set lo hi lazy subs,hf=>F6 hC hf (fun s hs=>vY hC s (hf.subs s hs))
termination_by t=>SizeOf.sizeOf t
decreasing_by
 have:=List.sizeOf_lt_of_mem hs;simp;omega
variable {s:ByteArray} {m mb:Nat} {t:Nd}
theorem pX (h:ai N w t cs):∃(k lo hi:Int) (lz:Bool) (o1 o2:Option Addr) (n1 c1 n2 c2:Nat),cs=[.int .u8 k,.slice o1 n1 c1,.int .i64 lo,.int .i64 hi,.bool lz,.slice o2 n2 c2]:=by
 cases t;rw[ai] at h;obtain⟨sv,uv,ucs,rfl,_,_,_,h5,h6,_⟩:=h;obtain⟨o,c,rfl⟩:=h5.row.slice;obtain⟨o',c',rfl⟩:=h6.slice;exact⟨_,_,_,_,_,_,_,_,_,_,rfl⟩
theorem rV (h:right t=true):Fit t:=by
 simp only[Wy.right,mM,Bool.and_eq_true,decide_eq_true_eq] at h;exact⟨h.1.1.1,h.1.1.2⟩
theorem iC (h:right t=true):opened t≤30:=by
 simp only[Wy.right,mM,Bool.and_eq_true,decide_eq_true_eq] at h;have:=jS t;omega
def F8 (s:ByteArray) (t:Nd) (w:World) (e:Ending) (w':World):Prop:=
 Below w.heap.size w w'∧match Wy.ways (aN s) t with
  |none=>e= .returned (.tuple #[.slice none 0 0,.int .i64 5])
  |some l=>∃v,e= .returned (.tuple #[v,.int .i64 0])∧aI (fun q=>w.heap.size≤q) w' (opened t) s.size v l
def IZ (t:Nd) (s:ByteArray) (m mb:Nat):Cx:=⟨m,mb,s,opened t,nodes t,fun n=>(lZ t 0)[n]?⟩
theorem EH (hr:right t=true) (hno:nodes t≤1000000) (hs:s.size≤32) (hmb:2<mb):(IZ t s m mb).Ok:=by
 refine⟨hs,iC hr,fun n x h=> ?_,hmb⟩;have hn:n<(lZ t 0).length:=by
  by_cases e:n<(lZ t 0).length
  ·exact e
  ·have:(lZ t 0)[n]? =none:=List.getElem?_eq_none (by omega);have h':(lZ t 0)[n]? =some x:=h;rw[this] at h';cases h'
 rw[kR] at hn;omega
theorem uy (h:ai (fun _=>True) w t cs) (hr:right t=true) (hno:nodes t≤1000000) (hs:s.size≤32) (hv:Lib.validD s.data.toList=true) (htab:Lib.Utf8Tabs 0 1 w) (hnone:bu w):
  Calls Tryz.prog 13 #[.agg cs.toArray,.string s] w (F8 s t w):=by
 obtain⟨k,lo,hi,lz,o1,o2,n1,c1,n2,c2,rfl⟩:=pX h;have HND:=zh h;have gq:=zh hnone;have mZ:=zh htab;have hsI:(s.size:Int)≤32:=(by omega);clear h hnone htab;go_enter Tryz.func13,Tryz.ntmps13
 go_upto_region 1 with fail
 have hB1:Blk (w.alloc (.cells #[.int .u8 k,.slice o1 n1 c1,.int .i64 lo,.int .i64 hi,.bool lz,.slice o2 n2 c2] 27)) w.heap.size #[.int .u8 k,.slice o1 n1 c1,.int .i64 lo,.int .i64 hi,.bool lz,.slice o2 n2 c2] 27:=Blk.new _ _ _;have hb1:Below w.heap.size w (w.alloc (.cells #[.int .u8 k,.slice o1 n1 c1,.int .i64 lo,.int .i64 hi,.bool lz,.slice o2 n2 c2] 27)):=zR.alloc zL _;generalize (w.alloc (.cells #[.int .u8 k,.slice o1 n1 c1,.int .i64 lo,.int .i64 hi,.bool lz,.slice o2 n2 c2] 27))=W1 at hB1 hb1 ⊢;have hright:=lN (ai.go (M:=fun _=>True) (zK hb1) (fun _ _ _=>⟨id,trivial⟩) HND.out) hno;rw[hr] at hright;obtain⟨d0,d1,d2,d3,d4,d5,-⟩:=zS hB1;have dz:=hB1.lt;have HR:=zh hright;have HB1:=zh hB1;have oL:=zh hb1;clear hright hB1 hb1;have hvalid:∀W,Below w.heap.size w W→Calls Tryz.prog 41 #[.string s] W fun e w'=>e= .returned (.bool true)∧Below W.heap.size W w':=fun W hW=>by
  have:=Tryz.utf8_ValidString s W (by omega) (bF mZ.out (zK hW) id id (by have:=gq.out.1;omega))
  rwa [hv] at this
 have HV:=zh hvalid;clear hvalid;have hmm:= @run_makeMap Tryz.prog;go_upto_region 8 with(first|(go_at_call 40;(refine HR.out.mono ?_;rintro e w2 ⟨rfl,hb2⟩;have HB2:=zh hb2;have rW:=zh (oL.out.trans (hb2.mono oL.out.size));clear hb2))|(go_at_call 41;(refine(HV.out _ rW.out).mono ?_;rintro e w3 ⟨rfl,hb3⟩;have HB3:=zh (HB2.out.trans (hb3.mono HB2.out.size));have Dt:=zh (rW.out.trans (hb3.mono rW.out.size));clear hb3)))
 have hb4:Below w3.heap.size w3 ((w3.alloc (.map #[] 0)).alloc (.cells #[.string s,.int .i64 0,.int .i64 0,.map (some w3.heap.size)] 105)):=(zR.alloc zL _).alloc (by simp) _;have hM4:Blk ((w3.alloc (.map #[] 0)).alloc (.cells #[.string s,.int .i64 0,.int .i64 0,.map (some w3.heap.size)] 105)) (w3.heap.size+1) (mkC (.string s) (.map (some w3.heap.size)) 0 0) 105:=Blk.new' _ _ (by simp);have hmap:((w3.alloc (.map #[] 0)).alloc (.cells #[.string s,.int .i64 0,.int .i64 0,.map (some w3.heap.size)] 105)).heap[w3.heap.size]? =some (.map #[] 0):=by
  rw[Below.heap_alloc _ _ _ (by simp)];exact heap_alloc_new w3 _
 have hz4:((w3.alloc (.map #[] 0)).alloc (.cells #[.string s,.int .i64 0,.int .i64 0,.map (some w3.heap.size)] 105)).heap.size=w3.heap.size+2:=by simp
 obtain⟨mb,hmb⟩:∃mb,mb=w3.heap.size:=⟨_,rfl⟩;generalize ((w3.alloc (.map #[] 0)).alloc (.cells #[.string s,.int .i64 0,.int .i64 0,.map (some w3.heap.size)] 105))=W4 at hb4 hM4 hmap hz4 ⊢;rw[←hmb] at hM4 hmap hz4 ⊢;have hw4:Below w.heap.size w W4:=Dt.out.trans (hb4.mono Dt.out.size);have hB4:=(HB1.out.below HB3.out HB1.out.lt).below hb4 (Nat.lt_of_lt_of_le HB1.out.lt HB3.out.size);have hwm:w.heap.size<mb:=by have:=HB1.out.lt;have:=HB3.out.size;omega
 obtain⟨f0,f1,f2,f3,f4,f5,-⟩:=zS hB4;have fz:=hB4.lt;have hop:=iC hr;have hpart:=vS t (fun q=>q≠mb+1∧q≠mb) W4 (mb+1) (.string s) (.map (some mb)) 0 0 _ hM4 (ai.go (zK hw4) (fun q hq _=>⟨id,by omega,by omega⟩) HND.out) (fun q hq=>by omega) (fun e=>e.1 rfl) (by omega) (by omega);have I4:=zh hpart;have HM4:=zh hM4;have PM:=zh hmap;have HZ4:=zh hz4;have HW4:=zh hw4;have HWM:=zh hwm;have HMB:=zh hmb;clear hpart hM4 hmap hz4 hw4 hwm hmb hb4 hB4 d0 d1 d2 d3 d4 d5 dz;go_upto_region 9 with(first|(go_at_call 42;(refine I4.out.mono ?_;rintro e w5 ⟨b,rfl,hp5,hm5,hk5⟩;have HP5:=zh hp5;have HM5:=zh hm5;have HK5:=zh hk5;clear hp5 hm5 hk5)))
 have hC:=EH (m:=mb+1) (mb:=mb) hr hno hs (by have:=gq.out.1;have:=HWM.out;omega);have hsz:=gq.out.1;have hat:At (IZ t s (mb+1) mb) (fun q=>q≠mb) w5:=by
  have hw:=HWM.out;have hz:=HZ4.out;have hk5:Kept (fun q=>q=mb+1) w w5:=(Kept.of_below HW4.out _).trans HK5.out;have hM:=HM5.out;unfold mkC at hM;rw[Nat.zero_add,Nat.zero_add] at hM;refine⟨bF mZ.out hk5 (by omega) (by omega) (by omega),gq.out.kept hk5 (by omega),hM,⟨#[],0,?_,fun x hx=>by simp at hx⟩,fun q hq e=> ?_,fun q hq e=> ?_,?_,fun e=>e rfl⟩
  ·exact(HK5.out.block mb (by omega) (by omega)).trans PM.out
  ·have:=HK5.out.size;show False
   have e':q=mb:=e;omega
  ·have e':q=mb:=e;omega
  ·show¬(mb+1=mb)
   omega
 have Bv:Calls Tryz.prog 43 #[.pointer (some ⟨mb+1,0,none⟩),.pointer (some ⟨b,0,none⟩),.int .i64 0] w5 (vG (IZ t s (mb+1) mb) (fun q=>q≠mb) w5 (Wy.ways (aN s) t)):=
  vY hC t (rV hr) (fun q=>q≠mb) w5 0 0 b 0 hat (aX.mono (fun q hq=>hq.2) HP5.out) (xG t) (by show 0+opened t≤opened t;omega) (Nat.zero_le _)
 have I5:Below w.heap.size w w5:=((Kept.of_below HW4.out (fun q=>q=mb+1)).trans HK5.out).below (fun q hq e=>by have:=HWM.out;omega);have qN:=zh Bv;have I7:=zh I5;clear Bv I5 hat hC hsz f0 f1 f2 f3 f4 f5 fz;unfold F8;cases ho:Wy.ways (aN s) t with
 |none=>
  rw[ho] at qN;have hw:Calls Tryz.prog 43 #[.pointer (some ⟨mb+1,0,none⟩),.pointer (some ⟨b,0,none⟩),.int .i64 0] w5 fun e w'=>e= .returned (.tuple #[.slice none 0 0,.bool false])∧Below w.heap.size w w':=
   qN.out.mono fun e w' ⟨h1,h2,v,h3,h4,_⟩=>by
    rw[h4 rfl] at h3;exact⟨h3,((Kept.of_below I7.out (fun q=>q=mb)).trans h1).below (fun q hq e=>by have:=HWM.out;omega)⟩
  have HW:=zh hw;have HO:=zh ho;clear hw ho
  go_wp2_with (go_at_call 43;(refine HW.out.mono ?_;rintro e w6 ⟨rfl,hb6⟩;have HB6:=zh hb6;clear hb6))
  exact bodyPost_ret (v:= .tuple #[.slice none 0 0,.int .i64 5]) (by simp[results,Tryz.results13,go_sem]) rfl ⟨HB6.out,by rw[HO.out]⟩
 |some l=>
  rw[ho] at qN;have hlen:l.length≤500:=by unfold Wy.ways at ho;exact fV ho
  have hw:Calls Tryz.prog 43 #[.pointer (some ⟨mb+1,0,none⟩),.pointer (some ⟨b,0,none⟩),.int .i64 0] w5 fun e w'=>∃o c,e= .returned (.tuple #[.slice o l.length c,.bool true])∧Below w.heap.size w w'∧aI (fun _=>True) w' (opened t) s.size (.slice o l.length c) l:=
   qN.out.mono fun e w' ⟨h1,h2,v,h3,_,h5⟩=>by
    have h6:=h5 l rfl;obtain⟨o,c,rfl⟩:=h6.slice;exact⟨o,c,h3,((Kept.of_below I7.out (fun q=>q=mb)).trans h1).below (fun q hq e=>by have:=HWM.out;omega),h6.mono (fun _ _=>trivial)⟩
  have HW:=zh hw;have HO:=zh ho;clear hw ho
  go_wp2_with (first|(go_at_call 43;(refine HW.out.mono ?_;rintro e w6 ⟨o6,c6,rfl,hb6,hw6⟩;have HB6:=zh hb6;have hcp:=Di hw6 hlen (by omega);have HCP:=zh hcp;clear hb6 hw6 hcp))|(go_at_call 44;(refine HCP.out.mono ?_;rintro e w7 ⟨v7,rfl,⟨cs7,hr7,hw7⟩,hb7⟩;have bW:=zh (And.intro (HB6.out.trans (hb7.mono HB6.out.size)) (aI.dD (N:=fun q=>w.heap.size≤q) hr7 (hw7.mono (fun q hq=>Nat.le_trans HB6.out.size hq.1)) (fun q hq _=>Nat.le_trans HB6.out.size hq)));clear hr7 hw7 hb7)))
  exact bodyPost_ret (v:= .tuple #[v7,.int .i64 0]) (by simp[results,Tryz.results13,go_sem]) rfl ⟨bW.out.1,by rw[HO.out];exact⟨v7,rfl,bW.out.2⟩⟩
def cO (l:List Nat):List Value:=l.map fun x:Nat=> .int .i64 x
theorem xX (l:List Nat):(cO l).length=l.length*1:=by simp[cO]
def Ens (l:List Nat) (w:World) (e:Ending) (w':World):Prop:=∃v,e= .returned v∧w'.ownsRow w.heap.size 3 1 v l.length (cO l)∧Below w.heap.size w w'
theorem zl {c0:Value} (hb:b=W.heap.size):dI (W.alloc (.cells #[c0] 3)) (.slice (some ⟨b,0,none⟩) 1 1) 1 [c0]:=by
 subst hb;have hB:=Blk.new W #[c0] 3;refine .inr ⟨_,_,rfl,fun j u hu=> ?_⟩
 match j with
 |0=>simp at hu;subst hu;simp[Addr.add,hB.cell]
 |j+1=>simp at hu
theorem Aw (h:aI N w G L v l) (hl:l.length≤500):Calls Tryz.prog 38 #[v] w (Ens (l.map Wy.Way.stop) w):=by
 obtain⟨o,c,rfl⟩:=h.slice;have H:=zh h;clear h;have hlI:(l.length:Int)≤500:=(by omega);obtain⟨i0,hi0,hz0,hz1,hz2⟩:=info_parts info3;go_enter Tryz.func38,Tryz.ntmps38
 go_wp2_with fail
 go_loopw [3,8] (fun s3 s8 wx=>∃j:Nat,j≤l.length∧s8= .int .i64 j∧wx.ownsRow w.heap.size 3 1 s3 j (cO ((l.take j).map Wy.Way.stop))∧Below w.heap.size w wx) (fun _ s8 _=>l.length-(intOf s8).toNat)
 case atStart=>exact⟨0,by omega,rfl,zN,zR⟩
 case round=>
  rename World=>Wa
  obtain⟨j,hj,rfl,hro,hbw⟩:=hrel;have HBW:=zh hbw;obtain⟨ov,cv,rfl⟩:=ay hro;by_cases hjl:j<l.length
  ·obtain⟨b,off,cap,hve,hc1,hc2,hNb,hbz,hcell⟩:=H.out.cells (by omega);simp only[Value.slice.injEq,true_and] at hve;obtain⟨rfl,rfl⟩:=hve;obtain⟨sv,e0,e1,hsv,-,-⟩:=hcell j hjl;obtain⟨so,sc,rfl⟩:=hsv.row.slice;have y0:Wa.cell? ⟨b,off+j*2,none⟩=some (.int .i64 l[j].stop):=(hbw.cell (p:=⟨b,off+j*2,none⟩) hbz).trans e0;have y1:Wa.cell? ⟨b,off+j*2+1,none⟩=some (.slice so l[j].spans.length sc):=(hbw.cell (p:=⟨b,off+j*2+1,none⟩) hbz).trans e1;have FM:b<Wa.heap.size:=by have:=hbw.size;omega
   have hjI:(j:Int)<l.length:=(by omega);have hcI:(l.length:Int)≤c:=(by omega);obtain⟨x,hx⟩:∃x,x=l[j]:=⟨_,rfl⟩;rw[←hx] at y0 y1;have hr2:((Wa.alloc (.cells #[.int .i64 x.stop,.slice so x.spans.length sc] 43)).alloc (.cells #[.int .i64 x.stop] 3)).ownsRow w.heap.size 3 1 (.slice ov j cv) j (cO ((l.take j).map Wy.Way.stop)):=aB hro (((Kept.refl (fun _=>False) Wa).alloc _).alloc _) (fun _ _=>id);have hbs:w.heap.size≤((Wa.alloc (.cells #[.int .i64 x.stop,.slice so x.spans.length sc] 43)).alloc (.cells #[.int .i64 x.stop] 3)).heap.size:=by have:=hbw.size;simp;omega
   have hsr:dI ((Wa.alloc (.cells #[.int .i64 x.stop,.slice so x.spans.length sc] 43)).alloc (.cells #[.int .i64 x.stop] 3)) (.slice (some ⟨Wa.heap.size+1,0,none⟩) 1 1) 1 [.int .i64 x.stop]:=zl (by simp);have hmx:j+1≤maxLen:=by unfold maxLen;omega
   have hby:(j+1)*8≤140737488355328:=(by omega);have HR2:=zh hr2;have HBS:=zh hbs;have HSR:=zh hsr;have HX:=zh hx;have hfin:∀w4,((Wa.alloc (.cells #[.int .i64 x.stop,.slice so x.spans.length sc] 43)).alloc (.cells #[.int .i64 x.stop] 3)).grownBy w4 (Value.slice ov j cv).ownBlock→Below w.heap.size w w4:=fun w4 hg=>
    ((Kept.of_below ((HBW.out.alloc HBW.out.size (.cells #[.int .i64 x.stop,.slice so x.spans.length sc] 43)).alloc (by have:=HBW.out.size;simp;omega) (.cells #[.int .i64 x.stop] 3)) (fun q=>(Value.slice ov j cv).ownBlock=some q)).trans (Kept.bK hg)).below (fun q hq e=>by have:=(HR2.out.lt q e).1;omega)
   have bW:=zh hfin;clear hcell e0 e1 hsv hr2 hbs hsr hx hro hbw hfin
   go_wp2_with (first|(at_builtin;(refine aA rfl _ _ 48 rfl Tryz.underlying48 hi0 hz0 hz1 hz2 rfl (.slice ov j cv) j (cO ((l.take j).map Wy.Way.stop)) rfl HR2.out _ 1 _ rfl HSR.out rfl (by simp[Value.oneCell']) hmx hby HBS.out ?_;intro v' w4 hown' hgrow h3' h4';have HO:=zh hown';have HB4:=zh (bW.out w4 hgrow);clear hown' hgrow h3' h4')))
   go_roundw
   case rel=>exact⟨j+1,by omega,by go_num,by
    have:=HO.out;rw[List.take_succ_eq_append_getElem hjl,←HX.out]
    simpa [cO] using this,HB4.out⟩
   case measure=>simp[intOf];omega
  ·obtain rfl:j=l.length:=(by omega);rw[List.take_length] at hro;have HRO:=zh hro;clear hro hbw
   go_wp2_with fail
   go_ret
   exact⟨_,rfl,by rw[List.length_map];exact HRO.out,HBW.out⟩
variable {j:Nat} {M:Nat→Prop} {v1 v2:Value}
def Eqs (b:Bool) (w:World) (e:Ending) (w':World):Prop:=e= .returned (.bool b)∧Below w.heap.size w w'
theorem take_same {α:Type} {l m:List α} (hj:j<l.length) (hm:j<m.length) (h:l.take j=m.take j) (e:l[j]=m[j]):l.take (j+1)=m.take (j+1):=by
 rw[List.take_succ_eq_append_getElem hj,List.take_succ_eq_append_getElem hm,h,e]
theorem ints_at {l:List Nat} (h:Row N w v l.length 1 (cO l)) (hne:0<l.length):
  ∃b off cap:Nat,v= .slice (some ⟨b,off,none⟩) l.length cap∧l.length≤cap∧b<w.heap.size∧∀i (hi:i<l.length),w.cell? ⟨b,off+i,none⟩=some (.int .i64 l[i]):=by
 rcases h.at_ with⟨h0,_⟩|⟨b,off,cap,rfl,k1,k2,k3,k4,k5⟩
 ·omega
 ·refine⟨b,off,cap,rfl,k1,k4,fun i hi=> ?_⟩;rw[k5 i (by rw[xX];omega)];simp[cO,hi]
theorem I8 {l:List (Int×Int)} (h:aC N w v l) (hne:0<l.length):
  ∃b off cap:Nat,v= .slice (some ⟨b,off,none⟩) l.length cap∧l.length≤cap∧b<w.heap.size∧∀i (hi:i<l.length),w.cell? ⟨b,off+i*2,none⟩=some (.int .i64 l[i].1)∧w.cell? ⟨b,off+i*2+1,none⟩=some (.int .i64 l[i].2):=by
 obtain⟨b,off,cap,rfl,h1,h2,h3,h4,h5⟩:=h.row.cells (f:=bP) (fun _=>rfl) hne;exact⟨b,off,cap,rfl,h1,h4,fun i hi=>⟨h5 i hi 0 (by omega),h5 i hi 1 (by omega)⟩⟩
theorem vZ {l m:List Nat} (h1:Row N w v1 l.length 1 (cO l)) (h2:Row M w v2 m.length 1 (cO m)) (hl:l.length≤1000000000) (hm:m.length≤1000000000):Calls Tryz.prog 34 #[v1,v2] w (Eqs (decide (l=m)) w):=by
 obtain⟨oa,ca,rfl⟩:=h1.slice;obtain⟨ob,cb,rfl⟩:=h2.slice;have H1:=zh h1;have H2:=zh h2;have hlI:(l.length:Int)≤1000000000:=(by omega);have hmI:(m.length:Int)≤1000000000:=(by omega);clear h1 h2;by_cases hlen:l.length=m.length
 ·have hb:((l.length:Int) == m.length)=true:=by rw[hlen];simp
  have hb':((l.length:Int) !=m.length)=false:=by rw[hlen];simp
  have HLEN:=zh hlen;clear hlen;go_enter Tryz.func34,Tryz.ntmps34
  go_wp2_with fail
  go_loopw [13] (fun s13 wx=>∃j:Nat,j≤l.length∧s13= .int .i64 j∧l.take j=m.take j∧Below w.heap.size w wx) (fun s13 _=>l.length-(intOf s13).toNat)
  case atStart=>exact⟨0,by omega,rfl,by simp,zR⟩
  case round=>
   rename World=>Wa
   obtain⟨j,hj,rfl,htk,hbw⟩:=hrel;have HBW:=zh hbw;have HTK:=zh htk;by_cases hjl:j<l.length
   ·have hjm:j<m.length:=by have:=HLEN.out;omega
    obtain⟨b1,of1,c1,hv1,hc1,hz1,he1⟩:=ints_at H1.out (by omega);obtain⟨b2,of2,c2,hv2,hc2,hz2,he2⟩:=ints_at H2.out (by omega);simp only[Value.slice.injEq,true_and] at hv1 hv2;obtain⟨rfl,rfl⟩:=hv1;obtain⟨rfl,rfl⟩:=hv2;have hjI:(j:Int)<l.length:=(by omega);have hjJ:(j:Int)<m.length:=(by omega);have hcI:(l.length:Int)≤ca:=(by omega);have hcJ:(m.length:Int)≤cb:=(by omega);have hza1:b1<Wa.heap.size:=Nat.lt_of_lt_of_le hz1 hbw.size;have hza2:b2<Wa.heap.size:=Nat.lt_of_lt_of_le hz2 hbw.size;have y1:Wa.cell? ⟨b1,of1+j,none⟩=some (.int .i64 l[j]):=(hbw.cell (p:=⟨b1,of1+j,none⟩) hz1).trans (he1 j hjl);have y2:Wa.cell? ⟨b2,of2+j,none⟩=some (.int .i64 m[j]):=(hbw.cell (p:=⟨b2,of2+j,none⟩) hz2).trans (he2 j hjm);obtain⟨x,hx⟩:∃x,x=l[j]:=⟨_,rfl⟩;obtain⟨y,hy⟩:∃y,y=m[j]:=⟨_,rfl⟩;rw[←hx] at y1;rw[←hy] at y2;have HX:=zh hx;have HY:=zh hy;clear hx hy he1 he2 htk hbw;by_cases hxy:x=y
    ·subst hxy;go_upto_region 6 with fail
     go_region
     go_wp2_with fail
     go_roundw
     case rel=>exact⟨j+1,by omega,by go_num,take_same hjl hjm HTK.out (HX.out.symm.trans HY.out),HBW.out.drew⟩
     case measure=>simp[intOf];omega
    ·have hne1:((x:Int) == y)=false:=by simp;omega
     have hne2:((x:Int) !=y)=true:=by simp;omega
     have HNE:=zh hxy;clear hxy;go_upto_region 6 with fail
     go_region
     go_wp2_with fail
     go_ret
     refine⟨?_,HBW.out.drew⟩;have:l≠m:=fun e=>HNE.out (by rw[HX.out,HY.out];subst e;rfl)
     simp[this]
   ·obtain rfl:j=l.length:=(by omega);have he:l=m:=by
     have h:=HTK.out;rw[List.take_length] at h;rw[h,List.take_of_length_le (by have:=HLEN.out;omega)]
    have HE:=zh he;clear he htk hbw
    go_wp2_with fail
    go_ret
    exact⟨by simp[HE.out],HBW.out⟩
 ·have hb:((l.length:Int) == m.length)=false:=by simp;omega
  have hb':((l.length:Int) !=m.length)=true:=by simp;omega
  have HLEN:=zh hlen;clear hlen;go_enter Tryz.func34,Tryz.ntmps34
  go_wp2_with fail
  go_ret
  refine⟨?_,zR⟩;have:l≠m:=fun e=>HLEN.out (by rw[e])
  simp[this]
theorem pY {l m:List (Int×Int)} (h1:aC N w v1 l) (h2:aC M w v2 m) (hl:l.length≤1000000000) (hm:m.length≤1000000000):Calls Tryz.prog 20 #[v1,v2] w (Eqs (decide (l=m)) w):=by
 obtain⟨oa,ca,rfl⟩:=h1.row.slice;obtain⟨ob,cb,rfl⟩:=h2.row.slice;have H1:=zh h1;have H2:=zh h2;have hlI:(l.length:Int)≤1000000000:=(by omega);have hmI:(m.length:Int)≤1000000000:=(by omega);clear h1 h2;by_cases hlen:l.length=m.length
 ·have hb:((l.length:Int) == m.length)=true:=by rw[hlen];simp
  have hb':((l.length:Int) !=m.length)=false:=by rw[hlen];simp
  have HLEN:=zh hlen;clear hlen;go_enter Tryz.func20,Tryz.ntmps20
  go_wp2_with fail
  go_loopw [13] (fun s13 wx=>∃j:Nat,j≤l.length∧s13= .int .i64 j∧l.take j=m.take j∧Below w.heap.size w wx) (fun s13 _=>l.length-(intOf s13).toNat)
  case atStart=>exact⟨0,by omega,rfl,by simp,zR⟩
  case round=>
   rename World=>Wa
   obtain⟨j,hj,rfl,htk,hbw⟩:=hrel;have HBW:=zh hbw;have HTK:=zh htk;by_cases hjl:j<l.length
   ·have hjm:j<m.length:=by have:=HLEN.out;omega
    obtain⟨b1,of1,c1,hv1,hc1,hz1,he1⟩:=I8 H1.out (by omega);obtain⟨b2,of2,c2,hv2,hc2,hz2,he2⟩:=I8 H2.out (by omega);simp only[Value.slice.injEq,true_and] at hv1 hv2;obtain⟨rfl,rfl⟩:=hv1;obtain⟨rfl,rfl⟩:=hv2;have hjI:(j:Int)<l.length:=(by omega);have hjJ:(j:Int)<m.length:=(by omega);have hcI:(l.length:Int)≤ca:=(by omega);have hcJ:(m.length:Int)≤cb:=(by omega);have hza1:b1<Wa.heap.size:=Nat.lt_of_lt_of_le hz1 hbw.size;have hza2:b2<Wa.heap.size:=Nat.lt_of_lt_of_le hz2 hbw.size;have y1:Wa.cell? ⟨b1,of1+j*2,none⟩=some (.int .i64 l[j].1):=(hbw.cell (p:=⟨b1,of1+j*2,none⟩) hz1).trans (he1 j hjl).1;have y1':Wa.cell? ⟨b1,of1+j*2+1,none⟩=some (.int .i64 l[j].2):=(hbw.cell (p:=⟨b1,of1+j*2+1,none⟩) hz1).trans (he1 j hjl).2;have y2:Wa.cell? ⟨b2,of2+j*2,none⟩=some (.int .i64 m[j].1):=(hbw.cell (p:=⟨b2,of2+j*2,none⟩) hz2).trans (he2 j hjm).1;have y2':Wa.cell? ⟨b2,of2+j*2+1,none⟩=some (.int .i64 m[j].2):=(hbw.cell (p:=⟨b2,of2+j*2+1,none⟩) hz2).trans (he2 j hjm).2;obtain⟨x,hx⟩:∃x,x=l[j]:=⟨_,rfl⟩;obtain⟨y,hy⟩:∃y,y=m[j]:=⟨_,rfl⟩;rw[←hx] at y1 y1';rw[←hy] at y2 y2';obtain⟨xa,xb⟩:=x;obtain⟨ya,yb⟩:=y;have HX:=zh hx;have HY:=zh hy;simp only at y1 y1' y2 y2';clear hx hy he1 he2 htk hbw;by_cases hxa:xa=ya
    ·subst hxa;by_cases hxb:xb=yb
     ·subst hxb;go_upto_region 6 with fail
      go_region
      go_wp2_with fail
      go_roundw
      case rel=>exact⟨j+1,by omega,by go_num,take_same hjl hjm HTK.out (HX.out.symm.trans HY.out),HBW.out.drew⟩
      case measure=>simp[intOf];omega
     ·have HNE:=zh hxb;go_upto_region 6 with fail
      go_region
      go_wp2_with fail
      go_ret
      refine⟨?_,HBW.out.drew⟩;have:l≠m:=fun e=>HNE.out (by have h:=HX.out.trans (by subst e;exact HY.out.symm);simpa using h)
      simp[this]
    ·have HNE:=zh (show¬(xa=ya∧xb=yb) from fun e=>hxa e.1);go_upto_region 6 with fail
     go_region
     go_wp2_with fail
     go_ret
     refine⟨?_,HBW.out.drew⟩;have:l≠m:=fun e=>HNE.out (by have h:=HX.out.trans (by subst e;exact HY.out.symm);simpa using h)
     simp[this]
   ·obtain rfl:j=l.length:=(by omega);have he:l=m:=by
     have h:=HTK.out;rw[List.take_length] at h;rw[h,List.take_of_length_le (by have:=HLEN.out;omega)]
    have HE:=zh he;clear he htk hbw
    go_wp2_with fail
    go_ret
    exact⟨by simp[HE.out],HBW.out⟩
 ·have hb:((l.length:Int) == m.length)=false:=by simp;omega
  have hb':((l.length:Int) !=m.length)=true:=by simp;omega
  have HLEN:=zh hlen;clear hlen;go_enter Tryz.func20,Tryz.ntmps20
  go_wp2_with fail
  go_ret
  refine⟨?_,zR⟩;have:l≠m:=fun e=>HLEN.out (by rw[e])
  simp[this]
theorem zq {α:Type} {p:α→Bool}:∀{l:List α} {i:Nat} (hi:i<l.length),(∀j (hj:j<i),p (l[j]'(by omega))=false)→p l[i]=true→l.find? p=some l[i]
 |[],i,hi,_,_=>absurd hi (by simp)
 |a::r,0,hi,_,h=>List.find?_cons_of_pos h
 |a::r,i+1,hi,h0,h=>by
  have ha:=h0 0 (by omega);simp only[List.getElem_cons_zero] at ha;rw[List.find?_cons_of_neg (by rw[ha];simp)];have:=zq (l:=r) (i:=i) (by simpa using hi) (fun j hj=>by have:=h0 (j+1) (by omega);simpa using this) (by simpa using h)
  simpa using this
theorem xY {α:Type} {p:α→Bool} {l:List α} (h:∀j (hj:j<l.length),p l[j]=false):l.find? p=none:=by
 rw[List.find?_eq_none];intro x hx;obtain⟨i,hi,rfl⟩:=List.getElem_of_mem hx;rw[h i hi];simp
def Idx (p:Wy.Way→Bool) (l:List Wy.Way) (w:World) (e:Ending) (w':World):Prop:=
 Below w.heap.size w w'∧((l.find? p=none∧e= .returned (.int .i64 (-1)))∨∃(i:Nat) (hi:i<l.length),l.find? p=some l[i]∧e= .returned (.int .i64 i))
def Fnd (p:Wy.Way→Bool) (s:ByteArray) (t:Nd) (w:World) (e:Ending) (w':World):Prop:=
 Below w.heap.size w w'∧match Wy.ways (aN s) t with
  |none=>e= .returned (.tuple #[.agg #[.int .i64 0,.slice none 0 0],.bool false,.int .i64 5])
  |some l=>match l.find? p with
   |none=>e= .returned (.tuple #[.agg #[.int .i64 0,.slice none 0 0],.bool false,.int .i64 0])
   |some x=>∃sv,e= .returned (.tuple #[.agg #[.int .i64 x.stop,sv],.bool true,.int .i64 0])∧aC (fun q=>w.heap.size≤q) w' sv x.spans
theorem ny {p:Wy.Way→Bool} {e:Ending} (h:((([]:List Wy.Way).find? p=none∧e= .returned (.int .i64 (-1)))∨∃(i:Nat) (hi:i<([]:List Wy.Way).length),([]:List Wy.Way).find? p=some ([]:List Wy.Way)[i]∧e= .returned (.int .i64 i))):e= .returned (.int .i64 (-1)):=by
 rcases h with⟨-,h⟩|⟨i,hi,-,-⟩
 ·exact h
 ·simp at hi
theorem xZ {p:Wy.Way→Bool} {e:Ending} (h:((l.find? p=none∧e= .returned (.int .i64 (-1)))∨∃(i:Nat) (hi:i<l.length),l.find? p=some l[i]∧e= .returned (.int .i64 i))):
  ∃ix:Int,e= .returned (.int .i64 ix)∧((l.find? p=none∧ix= -1)∨∃(i:Nat) (hi:i<l.length),l.find? p=some l[i]∧ix=i):=by
 rcases h with⟨h,rfl⟩|⟨i,hi,h,rfl⟩
 ·exact⟨_,rfl,.inl ⟨h,rfl⟩⟩
 ·exact⟨_,rfl,.inr ⟨i,hi,h,rfl⟩⟩
def lQ:Wy.Way→Bool:=fun _=>true
def lT (s:ByteArray):Wy.Way→Bool:=fun x=>decide (x.stop=s.size)
theorem Du (st:Int) (o:Option Addr) (n c:Nat) (w:World):Calls Tryz.prog 46 #[.agg #[.int .i64 st,.slice o n c]] w fun e w'=>e= .returned (.bool true)∧Below w.heap.size w w':=by
 go_enter Tryz.func46,Tryz.ntmps46
 go_wp2
 go_ret
 exact⟨rfl,zR.alloc zL _⟩
theorem Dv (st:Nat) (o:Option Addr) (n c b:Nat) (s:ByteArray) (w:World) (hb:w.cell? ⟨b,0,none⟩=some (.string s)) (hz:b<w.heap.size) (hs:s.size≤32):Calls Tryz.prog 47 #[.agg #[.int .i64 st,.slice o n c],.pointer (some ⟨b,0,none⟩)] w fun e w'=>e= .returned (.bool (decide (st=s.size)))∧Below w.heap.size w w':=by
 by_cases h:st=s.size
 ·have hb1:((st:Int) == s.size)=true:=by rw[h];simp
  go_enter Tryz.func47,Tryz.ntmps47
  go_wp2
  go_ret
  exact⟨by simp[h],zR.alloc zL _⟩
 ·have hb1:((st:Int) == s.size)=false:=by simp;omega
  go_enter Tryz.func47,Tryz.ntmps47
  go_wp2
  go_ret
  exact⟨by simp[h],zR.alloc zL _⟩
theorem iD (h:aI N w G L v l) (hl:l.length≤500):Calls Tryz.prog 53 #[v,.func (.func 46) #[] #[]] w (Idx lQ l w):=by
 obtain⟨o,c,rfl⟩:=h.slice;have H:=zh h;clear h;have hlI:(l.length:Int)≤500:=(by omega);go_enter Tryz.func53,Tryz.ntmps53
 go_wp2_with fail
 go_loopw [8] (fun s8 wx=>∃j:Nat,j≤l.length∧s8= .int .i64 j∧(∀i (hi:i<l.length),i<j→lQ l[i]=false)∧Below w.heap.size w wx) (fun s8 _=>l.length-(intOf s8).toNat)
 case atStart=>exact⟨0,by omega,rfl,fun i _ hi=>by omega,zR⟩
 case round=>
  rename World=>Wa
  obtain⟨j,hj,rfl,hno,hbw⟩:=hrel;have HNO:=zh hno;have HBW:=zh hbw;clear hno;by_cases hjl:j<l.length
  ·obtain⟨b,off,cap,hve,hc1,hc2,hNb,hbz,hcell⟩:=H.out.cells (by omega);simp only[Value.slice.injEq,true_and] at hve;obtain⟨rfl,rfl⟩:=hve;obtain⟨sv,e0,e1,hsv,-,-⟩:=hcell j hjl;obtain⟨so,sc,rfl⟩:=hsv.row.slice;have y0:Wa.cell? ⟨b,off+j*2,none⟩=some (.int .i64 l[j].stop):=(hbw.cell (p:=⟨b,off+j*2,none⟩) hbz).trans e0;have y1:Wa.cell? ⟨b,off+j*2+1,none⟩=some (.slice so l[j].spans.length sc):=(hbw.cell (p:=⟨b,off+j*2+1,none⟩) hbz).trans e1;have FM:b<Wa.heap.size:=by have:=hbw.size;omega
   have hjI:(j:Int)<l.length:=(by omega);have hcI:(l.length:Int)≤c:=(by omega);have hcall:=Du l[j].stop so l[j].spans.length sc Wa;obtain⟨x,hx⟩:∃x,x=l[j]:=⟨_,rfl⟩;rw[←hx] at y0 y1 hcall;obtain⟨pb,hpb⟩:∃pb,pb=lQ x:=⟨_,rfl⟩;have wo:Calls Tryz.prog 46 #[.agg #[.int .i64 x.stop,.slice so x.spans.length sc]] Wa fun e w'=>e= .returned (.bool pb)∧Below Wa.heap.size Wa w':=by rw[hpb];exact hcall
   have HC:=zh wo;have HX:=zh hx;have HPB:=zh hpb;clear hcell e0 e1 hsv hcall wo hx hpb hbw;cases pb
   ·go_wp2_with (go_at_call 46;(refine HC.out.mono ?_;rintro e w5 ⟨rfl,hb5⟩;have HB5:=zh (HBW.out.trans (hb5.mono HBW.out.size));clear hb5))
    go_roundw
    case rel=>exact⟨j+1,by omega,by go_num,fun i hi hij=>by
     by_cases e:i=j
     ·subst e;rw[←HX.out];exact HPB.out.symm
     ·exact HNO.out i hi (by omega),HB5.out⟩
    case measure=>simp[intOf];omega
   ·go_wp2_with (go_at_call 46;(refine HC.out.mono ?_;rintro e w5 ⟨rfl,hb5⟩;have HB5:=zh (HBW.out.trans (hb5.mono HBW.out.size));clear hb5))
    go_ret
    exact⟨HB5.out,.inr ⟨j,hjl,zq hjl (fun i hi=>HNO.out i (by omega) hi) (by rw[←HX.out];exact HPB.out.symm),rfl⟩⟩
  ·obtain rfl:j=l.length:=(by omega);clear hbw
   go_wp2_with fail
   go_ret
   exact⟨HBW.out,.inl ⟨xY (fun i hi=>HNO.out i hi hi),rfl⟩⟩
theorem wW (h:ai (fun _=>True) w t cs) (hr:right t=true) (hno:nodes t≤1000000) (hs:s.size≤32) (hv:Lib.validD s.data.toList=true) (htab:Lib.Utf8Tabs 0 1 w) (hnone:bu w):
  Calls Tryz.prog 45 #[.agg cs.toArray,.string s,.func (.func 46) #[] #[]] w (Fnd lQ s t w):=by
 obtain⟨k,lo,hi,lz,o1,o2,n1,c1,n2,c2,rfl⟩:=pX h;have HND:=zh h;have hall:∀W,Below w.heap.size w W→Calls Tryz.prog 13 #[.agg #[.int .u8 k,.slice o1 n1 c1,.int .i64 lo,.int .i64 hi,.bool lz,.slice o2 n2 c2],.string s] W (F8 s t W):=fun W hW=>
  uy (ai.go (zK hW) (fun _ _ _=>⟨id,trivial⟩) HND.out) hr hno hs hv (bF htab (zK hW) id id (by have:=hnone.1;omega)) (hnone.below hW)
 have fQ:=zh hall;clear h hall htab hnone;go_enter Tryz.func45,Tryz.ntmps45
 go_upto_region 1 with fail
 have hB1:Blk ((w.alloc (.cells #[.int .u8 k,.slice o1 n1 c1,.int .i64 lo,.int .i64 hi,.bool lz,.slice o2 n2 c2] 27)).alloc (.cells #[.int .i64 0,.slice none 0 0] 43)) (w.heap.size+1) #[.int .i64 0,.slice none 0 0] 43:=Blk.new' _ _ (by simp);have hN1:Blk ((w.alloc (.cells #[.int .u8 k,.slice o1 n1 c1,.int .i64 lo,.int .i64 hi,.bool lz,.slice o2 n2 c2] 27)).alloc (.cells #[.int .i64 0,.slice none 0 0] 43)) w.heap.size #[.int .u8 k,.slice o1 n1 c1,.int .i64 lo,.int .i64 hi,.bool lz,.slice o2 n2 c2] 27:=(Blk.new _ _ _).alloc _;have hb1:Below w.heap.size w ((w.alloc (.cells #[.int .u8 k,.slice o1 n1 c1,.int .i64 lo,.int .i64 hi,.bool lz,.slice o2 n2 c2] 27)).alloc (.cells #[.int .i64 0,.slice none 0 0] 43)):=(zR.alloc zL _).alloc (by simp) _;generalize ((w.alloc (.cells #[.int .u8 k,.slice o1 n1 c1,.int .i64 lo,.int .i64 hi,.bool lz,.slice o2 n2 c2] 27)).alloc (.cells #[.int .i64 0,.slice none 0 0] 43))=W1 at hB1 hN1 hb1 ⊢;obtain⟨d0,d1,d2,d3,d4,d5,-⟩:=zS hN1;have dz:=hN1.lt;have hcall:=fQ.out W1 hb1;unfold F8 at hcall;have aS:=zh hcall;have HB1:=zh hB1;have HBE:=zh hb1;clear hcall hB1 hN1 hb1;unfold Fnd;cases ho:Wy.ways (aN s) t with
 |none=>
  rw[ho] at aS;have HO:=zh ho;clear ho;have hw:Calls Tryz.prog 13 #[.agg #[.int .u8 k,.slice o1 n1 c1,.int .i64 lo,.int .i64 hi,.bool lz,.slice o2 n2 c2],.string s] W1 fun e w'=>e= .returned (.tuple #[.slice none 0 0,.int .i64 5])∧Below W1.heap.size W1 w':=aS.out.mono fun e w' h=>⟨h.2,h.1⟩
  have HW:=zh hw;clear hw
  go_wp2_with (first|(go_at_call 13;(refine HW.out.mono ?_;rintro e w2 ⟨rfl,hb2⟩;have HB2:=zh hb2;have HI:=zh (iD (aI.nil (fun _=>True) w2 0 0 none 0) (by simp));clear hb2))|(go_at_call 53;(refine HI.out.mono ?_;rintro e w3 ⟨hb3,h3⟩;obtain rfl:=ny h3;have HB3:=zh (HB2.out.trans (hb3.mono HB2.out.size));have B3:=HB1.out.below HB3.out HB1.out.lt;obtain⟨r0,r1,rf0,rf1⟩:=B3.two;have rz:=B3.lt;have HBB:=zh B3;clear hb3 h3 B3)))
  have hR:=((HBB.out.set 0 (.int .i64 0)).set 1 (.slice none 0 0)).two;exact bodyPost_ret (v:= .tuple #[.agg #[.int .i64 0,.slice none 0 0],.bool false,.int .i64 5]) (by simp[results,Tryz.results45,go_sem,hR.1,hR.2.1]) rfl ⟨((HBE.out.trans (HB3.out.mono HBE.out.size)).setCell (by show w.heap.size≤w.heap.size+1;omega) _).setCell (by show w.heap.size≤w.heap.size+1;omega) _,by rw[HO.out]⟩
 |some l=>
  rw[ho] at aS;have hlen:l.length≤500:=by unfold Wy.ways at ho;exact fV ho
  have HO:=zh ho;clear ho;have hw:Calls Tryz.prog 13 #[.agg #[.int .u8 k,.slice o1 n1 c1,.int .i64 lo,.int .i64 hi,.bool lz,.slice o2 n2 c2],.string s] W1 fun e w'=>∃o c,e= .returned (.tuple #[.slice o l.length c,.int .i64 0])∧Below W1.heap.size W1 w'∧aI (fun q=>W1.heap.size≤q) w' (opened t) s.size (.slice o l.length c) l:=aS.out.mono fun e w' h=>by
   obtain⟨h1,v,h2,h3⟩:=h;obtain⟨o,c,rfl⟩:=h3.slice;exact⟨o,c,h2,h1,h3⟩
  have HW:=zh hw;clear hw;go_upto_region 3 with(first|(go_at_call 13;(refine HW.out.mono ?_;rintro e w2 ⟨o6,c6,rfl,hb2,hw2⟩;have HB2:=zh hb2;have HW2:=zh hw2;have HI:=zh (iD hw2 hlen);clear hb2 hw2))|(go_at_call 53;(refine HI.out.mono ?_;rintro e w3 ⟨hb3,h3⟩;obtain⟨ix,rfl,h4⟩:=xZ h3;have HB3:=zh (HB2.out.trans (hb3.mono HB2.out.size));have PN:=zh hb3;have B3:=HB1.out.below HB3.out HB1.out.lt;obtain⟨r0,r1,rf0,rf1⟩:=B3.two;have rz:=B3.lt;have HBB:=zh B3;have H4:=zh h4;clear hb3 h3 h4 B3)))
  rcases H4.out with⟨hf,rfl⟩|⟨i,hi,hf,rfl⟩
  ·have HF:=zh hf;clear hf
   go_wp2_with fail
   have hR:=((HBB.out.set 0 (.int .i64 0)).set 1 (.slice none 0 0)).two;exact bodyPost_ret (v:= .tuple #[.agg #[.int .i64 0,.slice none 0 0],.bool false,.int .i64 0]) (by simp[results,Tryz.results45,go_sem,hR.1,hR.2.1]) rfl ⟨((HBE.out.trans (HB3.out.mono HBE.out.size)).setCell (by show w.heap.size≤w.heap.size+1;omega) _).setCell (by show w.heap.size≤w.heap.size+1;omega) _,by rw[HO.out];simp only[HF.out]⟩
  ·have HF:=zh hf;have hw3:=HW2.out.go (M:=fun q=>W1.heap.size≤q) (zK PN.out) (fun q _ hn=>⟨id,hn⟩);obtain⟨b,off,cap,hve,hc1,hc2,hNb,hbz,hcell⟩:=hw3.cells (by omega);simp only[Value.slice.injEq,true_and] at hve;obtain⟨rfl,rfl⟩:=hve;obtain⟨sv,e0,e1,hsv,-,-⟩:=hcell i hi;obtain⟨so,sc,rfl⟩:=hsv.row.slice;have hiI:(i:Int)<l.length:=(by omega);have hi0:decide ((i:Int)<0)=false:=by simp
   have hcI:(l.length:Int)≤c6:=(by omega);have Dw:aC (fun q=>w.heap.size≤q) ((w3.setCell ⟨w.heap.size+1,0,none⟩ (.int .i64 l[i].stop)).setCell ⟨w.heap.size+1,1,none⟩ (.slice so l[i].spans.length sc)) (.slice so l[i].spans.length sc) l[i].spans:=by
    have hz:=HB1.out.lt;have:=HBE.out.size;exact aC.go hsv (((Kept.refl (fun q=>q=w.heap.size+1) w3).setCell (p:=⟨w.heap.size+1,0,none⟩) (fun _=>rfl) _).setCell (p:=⟨w.heap.size+1,1,none⟩) (fun _=>rfl) _) (fun q _ hq=>⟨by omega,by omega⟩)
   obtain⟨x,hx⟩:∃x,x=l[i]:=⟨_,rfl⟩;rw[←hx] at e0 e1 Dw hf;have HSV:=zh Dw;have HF:=zh hf;clear hcell hsv Dw hw3 hf hx hNb
   go_wp2_with fail
   have hR:=((HBB.out.set 0 (.int .i64 x.stop)).set 1 (.slice so x.spans.length sc)).two;exact bodyPost_ret (v:= .tuple #[.agg #[.int .i64 x.stop,.slice so x.spans.length sc],.bool true,.int .i64 0]) (by simp[results,Tryz.results45,go_sem,hR.1,hR.2.1]) rfl ⟨((HBE.out.trans (HB3.out.mono HBE.out.size)).setCell (by show w.heap.size≤w.heap.size+1;omega) _).setCell (by show w.heap.size≤w.heap.size+1;omega) _,by rw[HO.out];simp only[HF.out];exact⟨_,rfl,HSV.out⟩⟩
theorem qO (h:aI N w G L v l) (hl:l.length≤500) {sb:Nat} {s:ByteArray} (hsb:w.cell? ⟨sb,0,none⟩=some (.string s)) (hsz:sb<w.heap.size) (hs:s.size≤32):Calls Tryz.prog 53 #[v,.func (.func 47) #[] #[.pointer (some ⟨sb,0,none⟩)]] w (Idx (lT s) l w):=by
 obtain⟨o,c,rfl⟩:=h.slice;have H:=zh h;clear h;have hlI:(l.length:Int)≤500:=(by omega);go_enter Tryz.func53,Tryz.ntmps53
 go_wp2_with fail
 go_loopw [8] (fun s8 wx=>∃j:Nat,j≤l.length∧s8= .int .i64 j∧(∀i (hi:i<l.length),i<j→(lT s) l[i]=false)∧Below w.heap.size w wx) (fun s8 _=>l.length-(intOf s8).toNat)
 case atStart=>exact⟨0,by omega,rfl,fun i _ hi=>by omega,zR⟩
 case round=>
  rename World=>Wa
  obtain⟨j,hj,rfl,hno,hbw⟩:=hrel;have HNO:=zh hno;have HBW:=zh hbw;clear hno;by_cases hjl:j<l.length
  ·obtain⟨b,off,cap,hve,hc1,hc2,hNb,hbz,hcell⟩:=H.out.cells (by omega);simp only[Value.slice.injEq,true_and] at hve;obtain⟨rfl,rfl⟩:=hve;obtain⟨sv,e0,e1,hsv,-,-⟩:=hcell j hjl;obtain⟨so,sc,rfl⟩:=hsv.row.slice;have y0:Wa.cell? ⟨b,off+j*2,none⟩=some (.int .i64 l[j].stop):=(hbw.cell (p:=⟨b,off+j*2,none⟩) hbz).trans e0;have y1:Wa.cell? ⟨b,off+j*2+1,none⟩=some (.slice so l[j].spans.length sc):=(hbw.cell (p:=⟨b,off+j*2+1,none⟩) hbz).trans e1;have FM:b<Wa.heap.size:=by have:=hbw.size;omega
   have hjI:(j:Int)<l.length:=(by omega);have hcI:(l.length:Int)≤c:=(by omega);have hcall:=Dv l[j].stop so l[j].spans.length sc sb s Wa ((hbw.cell (p:=⟨sb,0,none⟩) hsz).trans hsb) (Nat.lt_of_lt_of_le hsz hbw.size) hs;obtain⟨x,hx⟩:∃x,x=l[j]:=⟨_,rfl⟩;rw[←hx] at y0 y1 hcall;obtain⟨pb,hpb⟩:∃pb,pb=(lT s) x:=⟨_,rfl⟩;have wo:Calls Tryz.prog 47 #[.agg #[.int .i64 x.stop,.slice so x.spans.length sc],.pointer (some ⟨sb,0,none⟩)] Wa fun e w'=>e= .returned (.bool pb)∧Below Wa.heap.size Wa w':=by rw[hpb];exact hcall
   have HC:=zh wo;have HX:=zh hx;have HPB:=zh hpb;clear hcell e0 e1 hsv hcall wo hx hpb hbw;cases pb
   ·go_wp2_with (go_at_call 47;(refine HC.out.mono ?_;rintro e w5 ⟨rfl,hb5⟩;have HB5:=zh (HBW.out.trans (hb5.mono HBW.out.size));clear hb5))
    go_roundw
    case rel=>exact⟨j+1,by omega,by go_num,fun i hi hij=>by
     by_cases e:i=j
     ·subst e;rw[←HX.out];exact HPB.out.symm
     ·exact HNO.out i hi (by omega),HB5.out⟩
    case measure=>simp[intOf];omega
   ·go_wp2_with (go_at_call 47;(refine HC.out.mono ?_;rintro e w5 ⟨rfl,hb5⟩;have HB5:=zh (HBW.out.trans (hb5.mono HBW.out.size));clear hb5))
    go_ret
    exact⟨HB5.out,.inr ⟨j,hjl,zq hjl (fun i hi=>HNO.out i (by omega) hi) (by rw[←HX.out];exact HPB.out.symm),rfl⟩⟩
  ·obtain rfl:j=l.length:=(by omega);clear hbw
   go_wp2_with fail
   go_ret
   exact⟨HBW.out,.inl ⟨xY (fun i hi=>HNO.out i hi hi),rfl⟩⟩
theorem wX (h:ai (fun _=>True) w t cs) (hr:right t=true) (hno:nodes t≤1000000) (hs:s.size≤32) (hv:Lib.validD s.data.toList=true) (htab:Lib.Utf8Tabs 0 1 w) (hnone:bu w) {sb:Nat} (hsb:w.cell? ⟨sb,0,none⟩=some (.string s)) (hsz:sb<w.heap.size):
  Calls Tryz.prog 45 #[.agg cs.toArray,.string s,.func (.func 47) #[] #[.pointer (some ⟨sb,0,none⟩)]] w (Fnd (lT s) s t w):=by
 obtain⟨k,lo,hi,lz,o1,o2,n1,c1,n2,c2,rfl⟩:=pX h;have HND:=zh h;have hall:∀W,Below w.heap.size w W→Calls Tryz.prog 13 #[.agg #[.int .u8 k,.slice o1 n1 c1,.int .i64 lo,.int .i64 hi,.bool lz,.slice o2 n2 c2],.string s] W (F8 s t W):=fun W hW=>
  uy (ai.go (zK hW) (fun _ _ _=>⟨id,trivial⟩) HND.out) hr hno hs hv (bF htab (zK hW) id id (by have:=hnone.1;omega)) (hnone.below hW)
 have fQ:=zh hall;clear h hall htab hnone;go_enter Tryz.func45,Tryz.ntmps45
 go_upto_region 1 with fail
 have hB1:Blk ((w.alloc (.cells #[.int .u8 k,.slice o1 n1 c1,.int .i64 lo,.int .i64 hi,.bool lz,.slice o2 n2 c2] 27)).alloc (.cells #[.int .i64 0,.slice none 0 0] 43)) (w.heap.size+1) #[.int .i64 0,.slice none 0 0] 43:=Blk.new' _ _ (by simp);have hN1:Blk ((w.alloc (.cells #[.int .u8 k,.slice o1 n1 c1,.int .i64 lo,.int .i64 hi,.bool lz,.slice o2 n2 c2] 27)).alloc (.cells #[.int .i64 0,.slice none 0 0] 43)) w.heap.size #[.int .u8 k,.slice o1 n1 c1,.int .i64 lo,.int .i64 hi,.bool lz,.slice o2 n2 c2] 27:=(Blk.new _ _ _).alloc _;have hb1:Below w.heap.size w ((w.alloc (.cells #[.int .u8 k,.slice o1 n1 c1,.int .i64 lo,.int .i64 hi,.bool lz,.slice o2 n2 c2] 27)).alloc (.cells #[.int .i64 0,.slice none 0 0] 43)):=(zR.alloc zL _).alloc (by simp) _;generalize ((w.alloc (.cells #[.int .u8 k,.slice o1 n1 c1,.int .i64 lo,.int .i64 hi,.bool lz,.slice o2 n2 c2] 27)).alloc (.cells #[.int .i64 0,.slice none 0 0] 43))=W1 at hB1 hN1 hb1 ⊢;obtain⟨d0,d1,d2,d3,d4,d5,-⟩:=zS hN1;have dz:=hN1.lt;have hcall:=fQ.out W1 hb1;unfold F8 at hcall;have aS:=zh hcall;have HB1:=zh hB1;have HBE:=zh hb1;clear hcall hB1 hN1 hb1;unfold Fnd;cases ho:Wy.ways (aN s) t with
 |none=>
  rw[ho] at aS;have HO:=zh ho;clear ho;have hw:Calls Tryz.prog 13 #[.agg #[.int .u8 k,.slice o1 n1 c1,.int .i64 lo,.int .i64 hi,.bool lz,.slice o2 n2 c2],.string s] W1 fun e w'=>e= .returned (.tuple #[.slice none 0 0,.int .i64 5])∧Below W1.heap.size W1 w':=aS.out.mono fun e w' h=>⟨h.2,h.1⟩
  have HW:=zh hw;clear hw
  go_wp2_with (first|(go_at_call 13;(refine HW.out.mono ?_;rintro e w2 ⟨rfl,hb2⟩;have HB2:=zh hb2;have HI:=zh (qO (aI.nil (fun _=>True) w2 0 0 none 0) (by simp) ((HB2.out.cell (p:=⟨sb,0,none⟩) (Nat.lt_of_lt_of_le hsz HBE.out.size)).trans ((HBE.out.cell (p:=⟨sb,0,none⟩) hsz).trans hsb)) (Nat.lt_of_lt_of_le hsz (Nat.le_trans HBE.out.size HB2.out.size)) hs);clear hb2))|(go_at_call 53;(refine HI.out.mono ?_;rintro e w3 ⟨hb3,h3⟩;obtain rfl:=ny h3;have HB3:=zh (HB2.out.trans (hb3.mono HB2.out.size));have B3:=HB1.out.below HB3.out HB1.out.lt;obtain⟨r0,r1,rf0,rf1⟩:=B3.two;have rz:=B3.lt;have HBB:=zh B3;clear hb3 h3 B3)))
  have hR:=((HBB.out.set 0 (.int .i64 0)).set 1 (.slice none 0 0)).two;exact bodyPost_ret (v:= .tuple #[.agg #[.int .i64 0,.slice none 0 0],.bool false,.int .i64 5]) (by simp[results,Tryz.results45,go_sem,hR.1,hR.2.1]) rfl ⟨((HBE.out.trans (HB3.out.mono HBE.out.size)).setCell (by show w.heap.size≤w.heap.size+1;omega) _).setCell (by show w.heap.size≤w.heap.size+1;omega) _,by rw[HO.out]⟩
 |some l=>
  rw[ho] at aS;have hlen:l.length≤500:=by unfold Wy.ways at ho;exact fV ho
  have HO:=zh ho;clear ho;have hw:Calls Tryz.prog 13 #[.agg #[.int .u8 k,.slice o1 n1 c1,.int .i64 lo,.int .i64 hi,.bool lz,.slice o2 n2 c2],.string s] W1 fun e w'=>∃o c,e= .returned (.tuple #[.slice o l.length c,.int .i64 0])∧Below W1.heap.size W1 w'∧aI (fun q=>W1.heap.size≤q) w' (opened t) s.size (.slice o l.length c) l:=aS.out.mono fun e w' h=>by
   obtain⟨h1,v,h2,h3⟩:=h;obtain⟨o,c,rfl⟩:=h3.slice;exact⟨o,c,h2,h1,h3⟩
  have HW:=zh hw;clear hw;go_upto_region 3 with(first|(go_at_call 13;(refine HW.out.mono ?_;rintro e w2 ⟨o6,c6,rfl,hb2,hw2⟩;have HB2:=zh hb2;have HW2:=zh hw2;have HI:=zh (qO hw2 hlen ((HB2.out.cell (p:=⟨sb,0,none⟩) (Nat.lt_of_lt_of_le hsz HBE.out.size)).trans ((HBE.out.cell (p:=⟨sb,0,none⟩) hsz).trans hsb)) (Nat.lt_of_lt_of_le hsz (Nat.le_trans HBE.out.size HB2.out.size)) hs);clear hb2 hw2))|(go_at_call 53;(refine HI.out.mono ?_;rintro e w3 ⟨hb3,h3⟩;obtain⟨ix,rfl,h4⟩:=xZ h3;have HB3:=zh (HB2.out.trans (hb3.mono HB2.out.size));have PN:=zh hb3;have B3:=HB1.out.below HB3.out HB1.out.lt;obtain⟨r0,r1,rf0,rf1⟩:=B3.two;have rz:=B3.lt;have HBB:=zh B3;have H4:=zh h4;clear hb3 h3 h4 B3)))
  rcases H4.out with⟨hf,rfl⟩|⟨i,hi,hf,rfl⟩
  ·have HF:=zh hf;clear hf
   go_wp2_with fail
   have hR:=((HBB.out.set 0 (.int .i64 0)).set 1 (.slice none 0 0)).two;exact bodyPost_ret (v:= .tuple #[.agg #[.int .i64 0,.slice none 0 0],.bool false,.int .i64 0]) (by simp[results,Tryz.results45,go_sem,hR.1,hR.2.1]) rfl ⟨((HBE.out.trans (HB3.out.mono HBE.out.size)).setCell (by show w.heap.size≤w.heap.size+1;omega) _).setCell (by show w.heap.size≤w.heap.size+1;omega) _,by rw[HO.out];simp only[HF.out]⟩
  ·have HF:=zh hf;have hw3:=HW2.out.go (M:=fun q=>W1.heap.size≤q) (zK PN.out) (fun q _ hn=>⟨id,hn⟩);obtain⟨b,off,cap,hve,hc1,hc2,hNb,hbz,hcell⟩:=hw3.cells (by omega);simp only[Value.slice.injEq,true_and] at hve;obtain⟨rfl,rfl⟩:=hve;obtain⟨sv,e0,e1,hsv,-,-⟩:=hcell i hi;obtain⟨so,sc,rfl⟩:=hsv.row.slice;have hiI:(i:Int)<l.length:=(by omega);have hi0:decide ((i:Int)<0)=false:=by simp
   have hcI:(l.length:Int)≤c6:=(by omega);have Dw:aC (fun q=>w.heap.size≤q) ((w3.setCell ⟨w.heap.size+1,0,none⟩ (.int .i64 l[i].stop)).setCell ⟨w.heap.size+1,1,none⟩ (.slice so l[i].spans.length sc)) (.slice so l[i].spans.length sc) l[i].spans:=by
    have hz:=HB1.out.lt;have:=HBE.out.size;exact aC.go hsv (((Kept.refl (fun q=>q=w.heap.size+1) w3).setCell (p:=⟨w.heap.size+1,0,none⟩) (fun _=>rfl) _).setCell (p:=⟨w.heap.size+1,1,none⟩) (fun _=>rfl) _) (fun q _ hq=>⟨by omega,by omega⟩)
   obtain⟨x,hx⟩:∃x,x=l[i]:=⟨_,rfl⟩;rw[←hx] at e0 e1 Dw hf;have HSV:=zh Dw;have HF:=zh hf;clear hcell hsv Dw hw3 hf hx hNb
   go_wp2_with fail
   have hR:=((HBB.out.set 0 (.int .i64 x.stop)).set 1 (.slice so x.spans.length sc)).two;exact bodyPost_ret (v:= .tuple #[.agg #[.int .i64 x.stop,.slice so x.spans.length sc],.bool true,.int .i64 0]) (by simp[results,Tryz.results45,go_sem,hR.1,hR.2.1]) rfl ⟨((HBE.out.trans (HB3.out.mono HBE.out.size)).setCell (by show w.heap.size≤w.heap.size+1;omega) _).setCell (by show w.heap.size≤w.heap.size+1;omega) _,by rw[HO.out];simp only[HF.out];exact⟨_,rfl,HSV.out⟩⟩
end Go.Proofs.YtnhjakdmbfadlaaGreatDoor
