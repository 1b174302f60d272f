/- Parts of the proof. Conditions: none. -/
import Derived.Test.YtnhjakdmbfadlaaGreatDoorT04
import Derived.OneCell
import Derived.Test.YtnhjakdmbfadlaaGreatDoorT00
import Derived.Test.YtnhjakdmbfadlaaGreatDoorT01
set_option linter.all false
set_option maxHeartbeats 8000000
set_option maxRecDepth 100000
namespace Go.Proofs.YtnhjakdmbfadlaaGreatDoor
open Go.RowKit Wy Mem Grow
variable {ve we:Int} {xs:List Value} {b b' base n sz:Nat} {N:Nat→Prop} {e:TypeId} {v vs ws:Value} {w:World}
theorem iy {s:Nat} (h:w.ownsRow b e s v n xs) (hb:b'≤b):w.ownsRow b' e s v n xs:=by
 refine⟨h.1,?_⟩;rcases h.2 with h0|⟨g,cap,cur,rfl,hg,rest⟩
 ·exact .inl h0
 ·exact .inr ⟨g,cap,cur,rfl,by omega,rest⟩
def Thn (ve:Int) (l:List (Int×Int)) (w:World) (e:Ending) (w':World):Prop:=
 ∃v',e= .returned (.agg #[.int .i64 ve,v'])∧w'.ownsRow w.heap.size 57 2 v' l.length (l.flatMap bP)∧Below w.heap.size w w'
theorem gJ (h:w.ownsRow base e sz v n xs) (hn:0<n):∃g c,v= .slice (some ⟨g,0,none⟩) n c∧base≤g∧g<w.heap.size∧n≤c:=by
 rcases h.2 with⟨rfl,h0⟩|⟨g,cap,cur,rfl,hb,hg,hnc,-⟩
 ·omega
 ·exact⟨g,cap,rfl,hb,(Array.getElem?_eq_some_iff.1 hg).1,hnc⟩
theorem Be {a b:List (Int×Int)} (ha:aC N w ws a) (hb:aC N w vs b) (hab:a.length=b.length) (hno:bu w):
  Calls Tryz.prog 91 #[.agg #[.int .i64 we,ws],.agg #[.int .i64 ve,vs]] w (Thn ve (thenS a b) w):=by
 have hcl:∀w',Below w.heap.size w w'→Calls Tryz.prog 72 #[vs] w' (Clo 57 b.length (b.flatMap bP) w'):=fun w' hw=>
  lL (hb.row.kept (zK hw) (fun _ _ _=>id)) (mX b) (by have:=hb.small;omega)
 have HCL:=zh hcl;have HA:=zh ha;have HB:=zh hb;have HAB:=zh hab;have HNO:=zh hno;have hsm:(b.length:Int)≤64:=by have:=hb.small;omega
 clear hcl ha hb hab hno;go_enter Tryz.func91,Tryz.ntmps91
 go_wp2_with fail
 refine(HCL.out _ ((((zR.alloc zL _).alloc (by simp) _).alloc (by simp;omega) _))).mono ?_;rintro e w1 ⟨v',rfl,hown,hb1⟩;have B2:Blk w1 w.heap.size #[.int .i64 we,ws] 43:=(((Blk.new w #[.int .i64 we,ws] 43).alloc _).alloc _).below hb1 (by simp;omega);have B3:Blk w1 (w.heap.size+1) #[.int .i64 ve,vs] 43:=((Blk.new' (w:=w.alloc _) #[.int .i64 ve,vs] 43 (by simp)).alloc _).below hb1 (by simp);have B4:Blk w1 (w.heap.size+1+1) #[.int .i64 0,.slice none 0 0] 43:=(Blk.new' (w:=(w.alloc _).alloc _) #[.int .i64 0,.slice none 0 0] 43 (by simp)).below hb1 (by simp);have hbw:Below w.heap.size w w1:=(((zR.alloc zL _).alloc (by simp) _).alloc (by simp;omega) _).trans (hb1.mono (by simp;omega));have hz1:w.heap.size+3≤w1.heap.size:=by have:=hb1.size;simp at this;omega
 have HB2:=zh B2;have HB3:=zh B3;have HB4:=zh B4;have HOWN:=zh hown;have hnp:0≤(b.length:Int):=(by omega);clear B2 B3 B4 hb1;by_cases hn:0<b.length
 ·obtain⟨g,c,rfl,hg1,hg2,hnc⟩:=gJ hown hn;simp only[World.size_alloc] at hg1 HOWN;clear hown
  go_wp2_with fail
  go_loopw [13] (fun i wr=>∃k:Nat,k≤b.length∧i= .int .i64 k∧wr.ownsRow w.heap.size 57 2 (.slice (some ⟨g,0,none⟩) b.length c) b.length ((jg a b k).flatMap bP)∧Kept (fun i=>i=g) w1 wr) (fun i _=>b.length-(intOf i).toNat)
  case atStart=>exact⟨0,by omega,rfl,by rw[CG];exact iy HOWN.out (by omega),Kept.refl _ _⟩
  case round=>
   obtain⟨k,hk,rfl,hrow,hkr⟩:=hrel;have HR:=zh hrow;have hrc:∀(hkl:k<b.length),wr.cell? ⟨g,k*2,none⟩=some (.int .i64 b[k].1)∧wr.cell? ⟨g,k*2+1,none⟩=some (.int .i64 b[k].2):=fun hkl=>by
    have hlen:=jk HAB.out k hk;have e:=xP HAB.out hkl;have hk2:k<(jg a b k).length:=(by omega);rw[List.getElem?_eq_getElem hk2] at e;simp only[Option.some.injEq] at e;have key:∀i,i<2→wr.cell? ⟨g,k*2+i,none⟩=(bP b[k])[i]? :=fun i hi=>by
     rw[hrow.cellAt (k*2+i) (by omega),qx (f:=bP) (n:=2) (fun _=>rfl) (jg a b k) k i hk2 hi,e]
    exact⟨key 0 (by omega),key 1 (by omega)⟩
   have HRC:=zh hrc;have hfz:∀j,wr.frozen? ⟨g,j,none⟩=false:=fun j=>hrow.frozenAt j
   clear hrc;have hsz:=hkr.size;have C2:=HB2.out.kept hkr (by omega);have C3:=HB3.out.kept hkr (by omega);have C4:=HB4.out.kept hkr (by omega);have hbr:Below w.heap.size w wr:=hbw.trans (hkr.gK (by omega) (fun i hi e=>by omega));clear hrow;by_cases hkl:k<b.length
   ·obtain⟨r0,r1⟩:=HRC.out hkl;have hok:=HB.out.ok b[k] (List.getElem_mem hkl);obtain⟨x,hx⟩:∃x,x=b[k].1:=⟨_,rfl⟩;obtain⟨y,hy⟩:∃y,y=b[k].2:=⟨_,rfl⟩;rw[←hx] at r0;rw[←hy] at r1;obtain⟨n0,n1,n2⟩:=HNO.out.below hbr;have HX:=zh hx;have HY:=zh hy;clear hok hx hy;have hgz:g<wr.heap.size:=(by omega);have hwz:w.heap.size<wr.heap.size:=(by omega);obtain⟨-,e21,-,-⟩:=C2.two;have hsucc:=CJ HAB.out hkl;rw[←HX.out,←HY.out] at hsucc;have HSU:=zh hsucc;clear hsucc;by_cases hxy:x= -1∧y= -1
    ·obtain⟨rfl,rfl⟩:=hxy;have ha0:0<a.length:=by have:=HAB.out;omega
     obtain⟨sb,so,sc,rfl,hsc,hsm2,-,hsb,hcc⟩:=HA.out.row.cells (f:=bP) (fun _=>rfl) ha0;have hka:k<a.length:=by have:=HAB.out;omega
     have hkaI:(k:Int)<a.length:=(by omega);have hbl:wr.heap[sb]? =w.heap[sb]? :=hbr.block _ hsb;have q0:wr.cell? ⟨sb,so+k*2,none⟩=some (.int .i64 a[k].1):=(zW hbl).trans (hcc k hka 0 (by omega));have q1:wr.cell? ⟨sb,so+k*2+1,none⟩=some (.int .i64 a[k].2):=(zW hbl).trans (hcc k hka 1 (by omega));have hsbz:sb<wr.heap.size:=(by omega);have hsbg:sb≠g:=(by omega);clear hcc hbl
     go_wp2_with fail
     go_roundw
     case rel=>
      refine⟨k+1,by omega,by go_num,?_,((hkr.setCell (p:=⟨g,k*2,none⟩) (fun _=>rfl) _).setCell (p:=⟨g,k*2+1,none⟩) (fun _=>rfl) _).alloc _⟩;have e:=((HR.out.stored (k*2) (.int .i64 a[k].1)).1.stored (k*2+1) (.int .i64 a[k].2)).1;rw[nY _ k a[k] (by rw[jk HAB.out k hk];exact hkl)] at e;rw[HSU.out,if_pos ⟨rfl,rfl⟩];exact e.alloc _
     case measure=>simp[intOf];omega
    ·have hne:(x == -1)=false∨(x= -1∧(y == -1)=false):=by
      by_cases h1:x= -1
      ·right;exact⟨h1,by simp;omega⟩
      ·left;simpa using h1
     have hst:(jg a b (k+1)).flatMap bP=(jg a b k).flatMap bP:=by
      rw[HSU.out,if_neg hxy];congr 1;have e:=xP HAB.out hkl;refine List.ext_getElem? fun i=> ?_
      by_cases hik:k=i
      ·subst hik;rw[List.getElem?_set_self (by rw[jk HAB.out k hk];exact hkl),e]
      ·rw[List.getElem?_set_ne hik]
     have HST:=zh hst;clear hst;rcases hne with h1|⟨rfl,h1⟩
     all_goals
      go_wp2_with fail
      go_roundw
      case rel=>exact⟨k+1,by omega,by go_num,by rw[HST.out];exact HR.out.alloc _,hkr.alloc _⟩
      case measure=>simp[intOf];omega
   ·obtain rfl:k=b.length:=(by omega);obtain⟨e30,-,-,-⟩:=C3.two;obtain⟨e40,e41,f40,f41⟩:=C4.two;have hal:=FC HAB.out;have hle:(thenS a b).length=b.length:=by rw[←hal,jk HAB.out b.length zL]
    have HAL:=zh hal;have HLE:=zh hle;have hgz:g<wr.heap.size:=(by omega);clear hal hle;have D4:Blk ((wr.setCell ⟨w.heap.size+1+1,0,none⟩ (.int .i64 ve)).setCell ⟨w.heap.size+1+1,1,none⟩ (.slice (some ⟨g,0,none⟩) b.length c)) (w.heap.size+1+1) #[.int .i64 ve,.slice (some ⟨g,0,none⟩) b.length c] 43:=(C4.set 0 (.int .i64 ve)).set 1 (.slice (some ⟨g,0,none⟩) b.length c);obtain⟨d0,d1,-,-⟩:=D4.two;have hend:Thn ve (thenS a b) w (.returned (.agg #[.int .i64 ve,.slice (some ⟨g,0,none⟩) b.length c])) ((wr.setCell ⟨w.heap.size+1+1,0,none⟩ (.int .i64 ve)).setCell ⟨w.heap.size+1+1,1,none⟩ (.slice (some ⟨g,0,none⟩) b.length c)):=by
     have e:=HR.out;rw[HAL.out] at e;refine⟨_,rfl,?_,(hbr.setCell (by show w.heap.size≤w.heap.size+1+1;omega) _).setCell (by show w.heap.size≤w.heap.size+1+1;omega) _⟩;rw[HLE.out];exact ownsRow_setCell_other (ownsRow_setCell_other e (by simp[Value.ownBlock];omega) _) (by simp[Value.ownBlock];omega) _
    have dL:=zh hend;clear D4 hend
    go_wp2_with fail
    exact bodyPost_ret (v:= .agg #[.int .i64 ve,.slice (some ⟨g,0,none⟩) b.length c]) (by simp[results,Tryz.results91,go_sem,d0,d1]) rfl dL.out
 ·have hb0:b=[]:=List.eq_nil_of_length_eq_zero (by omega);subst hb0;obtain⟨hl0,hv⟩:=hown;have hsl:∃ob c,v'= .slice ob 0 c:=by
   rcases hv with⟨rfl,-⟩|⟨g,cap,cur,rfl,-⟩<;>exact⟨_,_,rfl⟩
  obtain⟨ob,c,rfl⟩:=hsl;have D4:Blk ((w1.setCell ⟨w.heap.size+1+1,0,none⟩ (.int .i64 ve)).setCell ⟨w.heap.size+1+1,1,none⟩ (.slice ob 0 c)) (w.heap.size+1+1) #[.int .i64 ve,.slice ob 0 c] 43:=(HB4.out.set 0 (.int .i64 ve)).set 1 (.slice ob 0 c);obtain⟨d0,d1,-,-⟩:=D4.two;obtain⟨e30,-,-,-⟩:=HB3.out.two;obtain⟨e40,e41,f40,f41⟩:=HB4.out.two;have hend:Thn ve (thenS a []) w (.returned (.agg #[.int .i64 ve,.slice ob 0 c])) ((w1.setCell ⟨w.heap.size+1+1,0,none⟩ (.int .i64 ve)).setCell ⟨w.heap.size+1+1,1,none⟩ (.slice ob 0 c)):=by
   have e:thenS a []=[]:=by unfold thenS;simp
   have hx:=iy HOWN.out (b':=w.heap.size) (by simp;omega);rw[e];refine⟨_,rfl,?_,(hbw.setCell (by show w.heap.size≤w.heap.size+1+1;omega) _).setCell (by show w.heap.size≤w.heap.size+1+1;omega) _⟩;have hne:(Value.slice ob 0 c).ownBlock≠some (w.heap.size+1+1):=fun h=>by
    have:=(HOWN.out.lt _ h).1;simp at this;omega
   exact ownsRow_setCell_other (ownsRow_setCell_other hx hne _) hne _
  have dL:=zh hend;clear D4 hend hl0 hv;simp only[List.length_nil] at hnp hsm ⊢
  go_wp2_with fail
  go_rounds 1
  all_goals go_wp2_with fail
  exact bodyPost_ret (v:= .agg #[.int .i64 ve,.slice ob 0 c]) (by simp[results,Tryz.results91,go_sem,d0,d1]) rfl dL.out
end Go.Proofs.YtnhjakdmbfadlaaGreatDoor
namespace Go.Proofs.YtnhjakdmbfadlaaGreatDoor
open Go.RowKit Wy Mem Grow
theorem Kept.bK {w w':World} {row:Option Nat} (h:w.grownBy w' row):Kept (fun b=>row=some b) w w':=
 ⟨h.os,h.tape,h.output,h.size,fun k hk hx=>h.block k hk (fun e=>hx e.symm)⟩
theorem aB {X:Nat→Prop} {w w':World} {base sz n:Nat} {e:TypeId} {v:Value} {xs:List Value} (h:w.ownsRow base e sz v n xs) (k:Kept X w w') (hx:∀g,v.ownBlock=some g→¬X g):w'.ownsRow base e sz v n xs:=by
 refine⟨h.1,?_⟩;rcases h.2 with hn|⟨g,c,cur,rfl,hb,hg,rest⟩
 ·exact .inl hn
 ·exact .inr ⟨g,c,cur,rfl,hb,(k.block g (Array.getElem?_eq_some_iff.1 hg).1 (hx g rfl)).trans hg,rest⟩
theorem rO {w:World} {base base' sz sz' n n':Nat} {e e':TypeId} {v v':Value} {xs xs':List Value} (h:w.ownsRow base e sz v n xs) (k:w.ownsRow base' e' sz' v' n' xs') (he:e≠e') {g:Nat} (h1:v.ownBlock=some g):v'.ownBlock≠some g:=by
 intro h2;rcases h.2 with⟨rfl,-⟩|⟨a,c,cur,rfl,-,ha,-⟩
 ·simp[Value.ownBlock] at h1
 rcases k.2 with⟨rfl,-⟩|⟨a',c',cur',rfl,-,ha',-⟩
 ·simp[Value.ownBlock] at h2
 simp only[Value.ownBlock,Option.some.injEq] at h1 h2;subst h1;subst h2;rw[ha] at ha';simp only[Option.some.injEq,Obj.cells.injEq] at ha';exact he ha'.2.1
structure Rc where
 C:Cx
 B:Nat
 N0:Nat→Prop
 b:Nat
 sv:Value
 uv:Value
 lo:Int
 hi:Int
 lazy:Bool
def Rc.caps (R:Rc):Array Value:= #[.pointer (some ⟨R.B+4,0,none⟩),.pointer (some ⟨R.B+5,0,none⟩),.pointer (some ⟨R.B+2,0,none⟩),.pointer (some ⟨R.B+3,0,none⟩),.pointer (some ⟨R.B,0,none⟩),.pointer (some ⟨R.B+1,0,none⟩),.pointer (some ⟨R.B+6,0,none⟩)]
structure eF (R:Rc) (N:Nat→Prop) (w:World) (vo vc:Value) (σ:Fs Wy.Way):Prop where
 at_:At R.C N w
 sub:∀b,N b→R.N0 b
 mbB:R.C.mb<R.B
 size:R.B+7≤w.heap.size
 no3:¬N (R.B+3)
 no4:¬N (R.B+4)
 no5:¬N (R.B+5)
 own:N R.B∧N (R.B+1)∧N (R.B+2)∧N (R.B+6)
 b0:Blk w R.B #[.pointer (some ⟨R.C.m,0,none⟩)] 102
 b1:Blk w (R.B+1) #[.pointer (some ⟨R.b,0,none⟩)] 106
 b2:Blk w (R.B+2) #[.int .u8 5,R.sv,.int .i64 R.lo,.int .i64 R.hi,.bool R.lazy,R.uv] 27
 b3:Blk w (R.B+3) #[vo] 38
 b4:Blk w (R.B+4) #[vc] 48
 b5:Blk w (R.B+5) #[.bool σ.ok] 4
 b6:Blk w (R.B+6) #[.func (.func 92) #[] R.caps] 168
 out:∃cs,w.ownsRow (R.B+7) 43 2 vo σ.out.length cs∧aH N w R.C.G R.C.s.size σ.out cs
 Iw:∀g,vo.ownBlock=some g→¬N g
 cnt:w.ownsRow (R.B+7) 3 1 vc σ.counts.length (σ.counts.map fun c:Nat=> .int .i64 c)
 CY:∀g,vc.ownBlock=some g→¬N g
section
variable {R:Rc} {N M X:Nat→Prop} {w w':World} {vo vc:Value} {σ:Fs Wy.Way}
theorem eF.oK (h:eF R N w vo vc σ):∀g,vo.ownBlock=some g→R.B+7≤g∧g<w.heap.size:=by
 obtain⟨cs,h1,-⟩:=h.out;exact h1.lt
theorem eF.vJ (h:eF R N w vo vc σ):∀g,vc.ownBlock=some g→R.B+7≤g∧g<w.heap.size:=h.cnt.lt
theorem eF.apart (h:eF R N w vo vc σ) {g:Nat} (hg:vo.ownBlock=some g):vc.ownBlock≠some g:=by
 obtain⟨cs,h1,-⟩:=h.out;exact rO h1 h.cnt (by decide) hg
theorem eF.go (h:eF R N w vo vc σ) (hA:At R.C M w') (k:Kept X w w') (hd:∀b,b<w.heap.size→N b→¬X b∧M b) (hM:∀b,M b→R.N0 b)
  (hX:∀b,R.B≤b→b<w.heap.size→¬N b→¬X b∧¬M b):eF R M w' vo vc σ:=by
 have hs:=h.size;have h3:=hX (R.B+3) (by omega) (by omega) h.no3;have h4:=hX (R.B+4) (by omega) (by omega) h.no4;have h5:=hX (R.B+5) (by omega) (by omega) h.no5;have n0:=hd _ (by omega) h.own.1;have n1:=hd _ (by omega) h.own.2.1;have n2:=hd _ (by omega) h.own.2.2.1;have n6:=hd _ (by omega) h.own.2.2.2;have ho:∀g,vo.ownBlock=some g→¬X g∧¬M g:=fun g hg=>hX g (by have:=h.oK g hg;omega) (h.oK g hg).2 (h.Iw g hg)
 have hc:∀g,vc.ownBlock=some g→¬X g∧¬M g:=fun g hg=>hX g (by have:=h.vJ g hg;omega) (h.vJ g hg).2 (h.CY g hg)
 obtain⟨cs,o1,o2⟩:=h.out;exact⟨hA,hM,h.mbB,Nat.le_trans hs k.size,h3.2,h4.2,h5.2,⟨n0.2,n1.2,n2.2,n6.2⟩,h.b0.kept k n0.1,h.b1.kept k n1.1,h.b2.kept k n2.1,h.b3.kept k h3.1,h.b4.kept k h4.1,h.b5.kept k h5.1,h.b6.kept k n6.1,
  ⟨cs,aB o1 k (fun g hg=>(ho g hg).1),o2.go k hd⟩,fun g hg=>(ho g hg).2,aB h.cnt k (fun g hg=>(hc g hg).1),fun g hg=>(hc g hg).2⟩
theorem eF.below (h:eF R N w vo vc σ) (k:Below w.heap.size w w'):eF R N w' vo vc σ:=
 h.go (h.at_.below k) (zK k) (fun b _ hb=>⟨id,hb⟩) h.sub (fun _ _ _ hn=>⟨id,hn⟩)
theorem eF.memo (h:eF R N w vo vc σ) (k:Kept (fun b=>b=R.C.mb) w w') (hA:At R.C N w'):eF R N w' vo vc σ:=
 h.go hA k (fun b _ hb=>⟨fun e=>h.at_.not (e ▸ hb),hb⟩) h.sub (fun b hb _ hn=>⟨fun e=>by have:=h.mbB;omega,hn⟩)
structure Goes (R:Rc) (N:Nat→Prop) (w:World) (N':Nat→Prop) (w':World):Prop where
 own:Kept (fun b=>b=R.C.mb∨R.B≤b∧¬N b) w w'
 keep:∀b,b<w.heap.size→N b→N' b
theorem Goes.refl (R:Rc) (N:Nat→Prop) (w:World):Goes R N w N w:=⟨Kept.refl _ _,fun _ _ h=>h⟩
theorem Goes.trans {N1 N2:Nat→Prop} {w1 w2:World} (h:Goes R N w N1 w1) (k:Goes R N1 w1 N2 w2):Goes R N w N2 w2:=
 ⟨h.own.trans' k.own (fun i hi e=>e.imp id fun e=>⟨e.1,fun hn=>e.2 (h.keep i hi hn)⟩),fun b hb hn=>k.keep b (h.own.lt hb) (h.keep b hb hn)⟩
theorem Goes.below (k:Below w.heap.size w w'):Goes R N w N w':=⟨Kept.of_below k _,fun _ _ h=>h⟩
theorem Goes.memo (k:Kept (fun b=>b=R.C.mb) w w'):Goes R N w N w':=⟨k.mono fun _ _ e=> .inl e,fun _ _ h=>h⟩
theorem Goes.hd {N':Nat→Prop} (h:Goes R N w N' w') (hA:At R.C N w):∀b,b<w.heap.size→N b→¬(b=R.C.mb∨R.B≤b∧¬N b)∧N' b:=
 fun b hb hn=>⟨fun e=>e.elim (fun e=>hA.not (e ▸ hn)) (fun e=>e.2 hn),h.keep b hb hn⟩
theorem Goes.spans {N':Nat→Prop} {v:Value} {l:List (Int×Int)} (h:Goes R N w N' w') (hA:At R.C N w) (k:aC N w v l):aC N' w' v l:=k.go h.own (h.hd hA)
theorem Goes.ways {N':Nat→Prop} {v:Value} {G L:Nat} {l:List Wy.Way} (h:Goes R N w N' w') (hA:At R.C N w) (k:aI N w G L v l):aI N' w' G L v l:=k.go h.own (h.hd hA)
theorem Goes.part {N':Nat→Prop} {t:Nd} {n g b:Nat} (h:Goes R N w N' w') (hA:At R.C N w) (k:aX N w t n g b):aX N' w' t n g b:=k.go h.own (h.hd hA)
def Flw (R:Rc) (N:Nat→Prop) (w:World) (σ:Fs Wy.Way) (e:Ending) (w':World):Prop:=
 e= .returned (.tuple #[])∧∃N' vo vc,eF R N' w' vo vc σ∧Goes R N w N' w'
theorem eF.Ov (h:eF R N w vo vc σ) (ok:Bool):eF R N (w.setCell ⟨R.B+5,0,none⟩ (.bool ok)) vo vc {σ with ok:=ok}∧Goes R N w N (w.setCell ⟨R.B+5,0,none⟩ (.bool ok)):=by
 have hs:=h.size;have k:Kept (fun b=>b=R.B+5) w (w.setCell ⟨R.B+5,0,none⟩ (.bool ok)):=(Kept.refl (fun b=>b=R.B+5) _).setCell (p:=⟨R.B+5,0,none⟩) (fun _=>rfl) _;have hd:∀b,b<w.heap.size→N b→¬(b=R.B+5)∧N b:=fun b _ hb=>⟨fun e=>h.no5 (e ▸ hb),hb⟩
 have hA:At R.C N (w.setCell ⟨R.B+5,0,none⟩ (.bool ok)):=h.at_.go k hd ⟨by have:=h.mbB;omega,h.at_.not⟩ (fun b hb=>h.at_.new b (by simpa using hb));obtain⟨cs,o1,o2⟩:=h.out;have ho:∀g,vo.ownBlock=some g→¬g=R.B+5:=fun g hg e=>by have:=h.oK g hg;omega
 have hc:∀g,vc.ownBlock=some g→¬g=R.B+5:=fun g hg e=>by have:=h.vJ g hg;omega
 refine⟨⟨hA,h.sub,h.mbB,Nat.le_trans hs k.size,h.no3,h.no4,h.no5,h.own,h.b0.kept k (by omega),h.b1.kept k (by omega),h.b2.kept k (by omega),h.b3.kept k (by omega),h.b4.kept k (by omega),?_,h.b6.kept k (by omega),
  ⟨cs,aB o1 k ho,o2.go k hd⟩,h.Iw,aB h.cnt k hc,h.CY⟩,k.mono fun i _ e=> .inr ⟨by omega,fun hn=>h.no5 (e ▸ hn)⟩,fun _ _ hn=>hn⟩
 exact h.b5.set 0 (.bool ok)
theorem eF.LM (h:eF R N w vo vc σ) {vc':Value} {w1:World} (hr:w1.ownsRow (R.B+7) 3 1 vc' (σ.counts.length+1) ((σ.counts.map fun c:Nat=> .int .i64 c)++[.int .i64 0])) (hg:w.grownBy w1 vc.ownBlock) (hv:vc'.ownBlock=vc.ownBlock∨vc'.ownBlock=some w.heap.size):
  eF R (fun b=>N b∧vc'.ownBlock≠some b) (w1.setCell ⟨R.B+4,0,none⟩ vc') vo vc' {σ with counts:=σ.counts++[0]}∧Goes R N w (fun b=>N b∧vc'.ownBlock≠some b) (w1.setCell ⟨R.B+4,0,none⟩ vc'):=by
 have hs:=h.size;have k1:Kept (fun b=>b=R.B+4∨vc.ownBlock=some b) w w1:=(Kept.bK hg).mono (fun _ _ e=> .inr e);have k:Kept (fun b=>b=R.B+4∨vc.ownBlock=some b) w (w1.setCell ⟨R.B+4,0,none⟩ vc'):=k1.setCell (p:=⟨R.B+4,0,none⟩) (fun _=> .inl rfl) _;have hv':∀b,b<w.heap.size→vc'.ownBlock=some b→vc.ownBlock=some b:=fun b hb e=>by
  rcases hv with hv|hv
  ·rw[←hv];exact e
  ·rw[hv] at e;simp only[Option.some.injEq] at e;omega
 have hd:∀b,b<w.heap.size→N b→¬(b=R.B+4∨vc.ownBlock=some b)∧(N b∧vc'.ownBlock≠some b):=fun b hb hn=>by
  have:¬vc.ownBlock=some b:=fun e=>h.CY b e hn
  exact⟨fun e=>e.elim (fun e=>h.no4 (e ▸ hn)) this,hn,fun e=>this (hv' b hb e)⟩
 have hmb:¬(R.C.mb=R.B+4∨vc.ownBlock=some R.C.mb):=fun e=>e.elim (fun e=>by have:=h.mbB;omega) (fun e=>by have:=h.vJ _ e;have:=h.mbB;omega)
 have hA:At R.C (fun b=>N b∧vc'.ownBlock≠some b) (w1.setCell ⟨R.B+4,0,none⟩ vc'):=h.at_.go k hd ⟨hmb,fun e=>h.at_.not e.1⟩ (fun b hb=>⟨h.at_.new b (by have:=hg.size;simp at hb;omega),fun e=>by have:=(hr.lt b e).2;simp at hb;omega⟩);obtain⟨cs,o1,o2⟩:=h.out;have ho:∀g,vo.ownBlock=some g→¬(g=R.B+4∨vc.ownBlock=some g):=fun g hg e=>e.elim (fun e=>by have:=h.oK g hg;omega) (h.apart hg)
 have hx:∀b,b<R.B+7→¬b=R.B+4→¬(b=R.B+4∨vc.ownBlock=some b):=fun b hb hn e=>e.elim hn (fun e=>by have:=h.vJ _ e;omega)
 have hb4:Blk (w1.setCell ⟨R.B+4,0,none⟩ vc') (R.B+4) #[vc'] 48:=
  (h.b4.kept (Kept.bK hg) (fun e=>by have:=h.vJ _ e;omega)).set 0 vc'
 refine⟨⟨hA,fun b hb=>h.sub b hb.1,h.mbB,Nat.le_trans hs k.size,fun e=>h.no3 e.1,fun e=>h.no4 e.1,fun e=>h.no5 e.1,⟨(hd _ (by omega) h.own.1).2,(hd _ (by omega) h.own.2.1).2,(hd _ (by omega) h.own.2.2.1).2,(hd _ (by omega) h.own.2.2.2).2⟩,
  h.b0.kept k (hx _ (by omega) (by omega)),h.b1.kept k (hx _ (by omega) (by omega)),h.b2.kept k (hx _ (by omega) (by omega)),h.b3.kept k (hx _ (by omega) (by omega)),hb4,h.b5.kept k (hx _ (by omega) (by omega)),h.b6.kept k (hx _ (by omega) (by omega)),
  ⟨cs,aB o1 k ho,o2.go k hd⟩,fun g hg e=>h.Iw g hg e.1,?_,fun g hg e=>e.2 hg⟩,k.mono fun i hi e=> .inr ⟨e.elim (fun e=>by omega) (fun e=>by have:=h.vJ _ e;omega),fun hn=>(hd i hi hn).1 e⟩,fun b hb hn=>(hd b hb hn).2⟩
 have hl:(σ.counts++[0]).length=σ.counts.length+1:=by simp
 have hm:(σ.counts++[0]).map (fun c:Nat=>Value.int .i64 c)=(σ.counts.map fun c:Nat=> .int .i64 c)++[.int .i64 0]:=by simp
 show(w1.setCell ⟨R.B+4,0,none⟩ vc').ownsRow _ 3 1 vc' (σ.counts++[0]).length ((σ.counts++[0]).map fun c:Nat=> .int .i64 c)
 rw[hl,hm];exact aB hr ((Kept.refl (fun b=>b=R.B+4) w1).setCell (p:=⟨R.B+4,0,none⟩) (fun _=>rfl) _) (fun g hg e=>by have:=hr.lt g hg;omega)
theorem eF.O5 (h:eF R N w vo vc σ) {g c t:Nat} (hvc:vc= .slice (some ⟨g,0,none⟩) σ.counts.length c) (ht:t<σ.counts.length):
  eF R N (w.setCell ⟨g,t,none⟩ (.int .i64 (σ.counts[t]+1))) vo vc {σ with counts:=σ.counts.modify t (· +1)}∧Goes R N w N (w.setCell ⟨g,t,none⟩ (.int .i64 (σ.counts[t]+1))):=by
 have hs:=h.size;have hgv:vc.ownBlock=some g:=by rw[hvc];rfl
 have hgB:=h.vJ g hgv;have k:Kept (fun b=>b=g) w (w.setCell ⟨g,t,none⟩ (.int .i64 (σ.counts[t]+1))):=(Kept.refl (fun b=>b=g) _).setCell (p:=⟨g,t,none⟩) (fun _=>rfl) _;have hd:∀b,b<w.heap.size→N b→¬(b=g)∧N b:=fun b _ hb=>⟨fun e=>h.CY g hgv (e ▸ hb),hb⟩
 have hA:At R.C N (w.setCell ⟨g,t,none⟩ (.int .i64 (σ.counts[t]+1))):=h.at_.go k hd ⟨by have:=h.mbB;omega,h.at_.not⟩ (fun b hb=>h.at_.new b (by simpa using hb));obtain⟨cs,o1,o2⟩:=h.out;have ho:∀i,vo.ownBlock=some i→¬i=g:=fun i hi e=>h.apart hi (e ▸ hgv)
 refine⟨⟨hA,h.sub,h.mbB,Nat.le_trans hs k.size,h.no3,h.no4,h.no5,h.own,h.b0.kept k (by omega),h.b1.kept k (by omega),h.b2.kept k (by omega),h.b3.kept k (by omega),h.b4.kept k (by omega),h.b5.kept k (by omega),h.b6.kept k (by omega),
  ⟨cs,aB o1 k ho,o2.go k hd⟩,h.Iw,?_,h.CY⟩,k.mono fun i _ e=> .inr ⟨by omega,fun hn=>h.CY g hgv (e ▸ hn)⟩,fun _ _ hn=>hn⟩
 have hr:=h.cnt;subst hvc;have:=(hr.stored t (.int .i64 (σ.counts[t]+1))).1;have hl:(σ.counts.modify t (· +1)).length=σ.counts.length:=by simp
 have hm:(σ.counts.modify t (· +1)).map (fun c:Nat=>Value.int .i64 c)=(σ.counts.map fun c:Nat=>Value.int .i64 c).set t (.int .i64 (σ.counts[t]+1)):=by
  refine List.ext_getElem? fun i=> ?_
  simp only[List.getElem?_map,List.getElem?_modify,List.getElem?_set,List.length_map];by_cases hi:t=i
  ·subst hi;simp[List.getElem?_eq_getElem ht,ht]
  ·simp only[hi,if_false];cases σ.counts[i]? <;>simp
 show(w.setCell _ _).ownsRow _ 3 1 _ (σ.counts.modify t (· +1)).length ((σ.counts.modify t (· +1)).map fun c:Nat=> .int .i64 c)
 rw[hl,hm];exact this
theorem eF.Ey (h:eF R N w vo vc σ) {vo' sv:Value} {x:Wy.Way} {w1:World} {cs:List Value} (hcs:aH N w R.C.G R.C.s.size σ.out cs) (hx1:aC N w sv x.spans) (hx2:x.stop≤R.C.s.size) (hx3:x.spans.length=R.C.G)
  (hr:w1.ownsRow (R.B+7) 43 2 vo' (σ.out.length+1) (cs++[.int .i64 x.stop,sv])) (hg:w.grownBy w1 vo.ownBlock) (hv:vo'.ownBlock=vo.ownBlock∨vo'.ownBlock=some w.heap.size):
  eF R (fun b=>N b∧vo'.ownBlock≠some b) (w1.setCell ⟨R.B+3,0,none⟩ vo') vo' vc {σ with out:=σ.out++[x]}∧Goes R N w (fun b=>N b∧vo'.ownBlock≠some b) (w1.setCell ⟨R.B+3,0,none⟩ vo'):=by
 have hs:=h.size;have k1:Kept (fun b=>b=R.B+3∨vo.ownBlock=some b) w w1:=(Kept.bK hg).mono (fun _ _ e=> .inr e);have k:Kept (fun b=>b=R.B+3∨vo.ownBlock=some b) w (w1.setCell ⟨R.B+3,0,none⟩ vo'):=k1.setCell (p:=⟨R.B+3,0,none⟩) (fun _=> .inl rfl) _;have hv':∀b,b<w.heap.size→vo'.ownBlock=some b→vo.ownBlock=some b:=fun b hb e=>by
  rcases hv with hv|hv
  ·rw[←hv];exact e
  ·rw[hv] at e;simp only[Option.some.injEq] at e;omega
 have hd:∀b,b<w.heap.size→N b→¬(b=R.B+3∨vo.ownBlock=some b)∧(N b∧vo'.ownBlock≠some b):=fun b hb hn=>by
  have:¬vo.ownBlock=some b:=fun e=>h.Iw b e hn
  exact⟨fun e=>e.elim (fun e=>h.no3 (e ▸ hn)) this,hn,fun e=>this (hv' b hb e)⟩
 have hmb:¬(R.C.mb=R.B+3∨vo.ownBlock=some R.C.mb):=fun e=>e.elim (fun e=>by have:=h.mbB;omega) (fun e=>by have:=h.oK _ e;have:=h.mbB;omega)
 have hA:At R.C (fun b=>N b∧vo'.ownBlock≠some b) (w1.setCell ⟨R.B+3,0,none⟩ vo'):=h.at_.go k hd ⟨hmb,fun e=>h.at_.not e.1⟩ (fun b hb=>⟨h.at_.new b (by have:=hg.size;simp at hb;omega),fun e=>by have:=(hr.lt b e).2;simp at hb;omega⟩);have hc:∀g,vc.ownBlock=some g→¬(g=R.B+3∨vo.ownBlock=some g):=fun g hg e=>e.elim (fun e=>by have:=h.vJ g hg;omega) (fun e=>h.apart e hg)
 have hx:∀b,b<R.B+7→¬b=R.B+3→¬(b=R.B+3∨vo.ownBlock=some b):=fun b hb hn e=>e.elim hn (fun e=>by have:=h.oK _ e;omega)
 have hb3:Blk (w1.setCell ⟨R.B+3,0,none⟩ vo') (R.B+3) #[vo'] 38:=
  (h.b3.kept (Kept.bK hg) (fun e=>by have:=h.oK _ e;omega)).set 0 vo'
 refine⟨⟨hA,fun b hb=>h.sub b hb.1,h.mbB,Nat.le_trans hs k.size,fun e=>h.no3 e.1,fun e=>h.no4 e.1,fun e=>h.no5 e.1,⟨(hd _ (by omega) h.own.1).2,(hd _ (by omega) h.own.2.1).2,(hd _ (by omega) h.own.2.2.1).2,(hd _ (by omega) h.own.2.2.2).2⟩,
  h.b0.kept k (hx _ (by omega) (by omega)),h.b1.kept k (hx _ (by omega) (by omega)),h.b2.kept k (hx _ (by omega) (by omega)),hb3,h.b4.kept k (hx _ (by omega) (by omega)),h.b5.kept k (hx _ (by omega) (by omega)),h.b6.kept k (hx _ (by omega) (by omega)),
  ⟨cs++[.int .i64 x.stop,sv],?_,(hcs.go k hd).append (aH.one (hx1.go k hd) hx2 hx3)⟩,fun g hg e=>e.2 hg,aB h.cnt k hc,fun g hg e=>h.CY g hg e.1⟩,k.mono fun i hi e=> .inr ⟨e.elim (fun e=>by omega) (fun e=>by have:=h.oK _ e;omega),fun hn=>(hd i hi hn).1 e⟩,fun b hb hn=>(hd b hb hn).2⟩
 have hl:(σ.out++[x]).length=σ.out.length+1:=by simp
 show(w1.setCell ⟨R.B+3,0,none⟩ vo').ownsRow _ _ 2 vo' (σ.out++[x]).length _
 rw[hl];exact aB hr ((Kept.refl (fun b=>b=R.B+3) w1).setCell (p:=⟨R.B+3,0,none⟩) (fun _=>rfl) _) (fun g hg e=>by have:=hr.lt g hg;omega)
end
end Go.Proofs.YtnhjakdmbfadlaaGreatDoor
