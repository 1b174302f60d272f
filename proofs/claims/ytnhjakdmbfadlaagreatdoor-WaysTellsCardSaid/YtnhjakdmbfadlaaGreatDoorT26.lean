/- Parts of the proof. Conditions: none. -/
import Derived.Test.YtnhjakdmbfadlaaGreatDoorT09
import Derived.Test.YtnhjakdmbfadlaaGreatDoorT00
import Derived.Test.YtnhjakdmbfadlaaGreatDoorT14
set_option linter.all false
set_option maxHeartbeats 8000000
set_option maxRecDepth 100000
namespace Go.Proofs.YtnhjakdmbfadlaaGreatDoor
open Go.RowKit Wy Mem Grow
variable {xs:List Value} {l:List Wy.Way} {G L base n sz:Nat} {N:Nat→Prop} {e:TypeId} {v:Value} {w:World}
def ApV (v v':Value):Prop:=∀q,v.ownBlock=some q→v'.ownBlock≠some q
def SpB (B:Nat) (w:World) (cs:List Value):Prop:=∀u∈cs,∀q,u.ownBlock=some q→B≤q∧∃d,Blk w q d 57
theorem JK (h:w.ownsRow base e sz v n xs):∀q,v.ownBlock=some q→∃d,Blk w q d e:=by
 intro q hq;rcases h.2 with⟨rfl,-⟩|⟨g,c,cur,rfl,-,hg,-⟩
 ·simp[Value.ownBlock] at hq
 ·simp only[Value.ownBlock,Option.some.injEq] at hq;subst hq;exact⟨cur,hg⟩
def SL (G L:Nat) (l:List Wy.Way) (w:World) (e:Ending) (w':World):Prop:=
 ∃v',e= .returned v'∧(∃cs,w'.ownsRow w.heap.size 43 2 v' l.length cs∧aH (fun q=>w.heap.size≤q∧v'.ownBlock≠some q) w' G L l cs∧cs.Pairwise ApV∧SpB w.heap.size w' cs)∧Below w.heap.size w w'
theorem BM (h:aI N w G L v l) (hn:l.length≤500) (hL:L≤1000000):Calls Tryz.prog 44 #[v] w (SL G L l w):=by
 obtain⟨ov,cv,rfl⟩:=h.slice;obtain⟨cs,hr,hw⟩:=h;have hcl:=pR hr hw.oneCell (by omega);have HCL:=zh hcl;have HW:=zh hw;have hnI:(l.length:Int)≤500:=(by omega);clear hcl hr hw;go_enter Tryz.func44,Tryz.ntmps44
 go_wp2_with (go_at_call 71;refine HCL.out.mono ?_;rintro e w1 ⟨v1,rfl,hown1,hb1⟩;obtain⟨o1,c1,rfl⟩:=ay hown1;have HO1:=zh hown1;have HB1:=zh hb1;clear hown1 hb1)
 go_loopw [9] (fun s9 wx=>∃(j:Nat) (cs1 cs2:List Value),j≤l.length∧s9= .int .i64 j∧cs1.length=j*2∧wx.ownsRow w.heap.size 43 2 (.slice o1 l.length c1) l.length (cs1++cs2)∧aH (fun q=>w.heap.size≤q∧(Value.slice o1 l.length c1).ownBlock≠some q) wx G L (l.take j) cs1∧aH (fun q=>N q∧q<w.heap.size) wx G L (l.drop j) cs2∧Below w.heap.size w wx∧cs1.Pairwise ApV∧∀u∈cs1,∀q,u.ownBlock=some q→q<wx.heap.size∧(Value.slice o1 l.length c1).ownBlock≠some q∧w.heap.size≤q∧∃d,Blk wx q d 57) (fun s9 _=>l.length-(intOf s9).toNat)
 case atStart=>exact⟨0,[],cs,by omega,rfl,rfl,HO1.out,by rw[List.take_zero];rfl,HW.out.go (zK HB1.out) (fun q hq hn=>⟨id,hn,hq⟩),HB1.out,List.Pairwise.nil,by simp⟩
 case round=>
  rename World=>Wa
  obtain⟨j,cs1,cs2,hj,rfl,hl1,hro,hw1,hw2,hbw,hap,hlt⟩:=hrel;have HAP:=zh (And.intro hap hlt);clear hap hlt;have HRO:=zh hro;have HW1:=zh hw1;have HBW:=zh hbw;by_cases hjl:j<l.length
  ·obtain⟨g,cg,heg,hg1,hg2,hnc⟩:=gJ hro (by omega);simp only[Value.slice.injEq,true_and] at heg;obtain⟨rfl,rfl⟩:=heg;rw[List.drop_eq_getElem_cons hjl] at hw2;obtain⟨x,hx⟩:∃x,x=l[j]:=⟨_,rfl⟩;rw[←hx] at hw2;obtain⟨svx,q2,rfl,hsx,hxl,hw3⟩:=hw2;obtain⟨so,sc,rfl⟩:=hsx.row.slice;have y0:Wa.cell? ⟨g,j*2,none⟩=some (.int .i64 x.stop):=by rw[hro.cellAt (j*2) (by omega),List.getElem?_append_right (by omega),hl1,Nat.sub_self];rfl
   have y1:Wa.cell? ⟨g,j*2+1,none⟩=some (.slice so x.spans.length sc):=by rw[hro.cellAt (j*2+1) (by omega),List.getElem?_append_right (by omega),hl1,show j*2+1-j*2=1 by omega];rfl
   have hbA:Below Wa.heap.size Wa (Wa.alloc (.cells #[.int .i64 x.stop,.slice so x.spans.length sc] 43)):=zR.alloc zL _;have hcs:=lL (hsx.go (zK hbA) (fun q _ hn=>⟨id,hn⟩)).row (mX _) (by have:=hsx.small;omega);have HCS:=zh hcs;have HSX:=zh hsx;have HW3:=zh hw3;have HX:=zh hx;have HXL:=zh hxl;have HL1:=zh hl1;have O8:(j:Int)<l.length:=(by omega);have hcI:(l.length:Int)≤c1:=(by omega);clear hcs hsx hw3 hx hxl hro hw1 hbw hbA hl1
   go_wp2_with (first|(go_at_call 72;refine HCS.out.mono ?_;rintro e w5 ⟨nv,rfl,hown5,hb5⟩;obtain⟨o5,c5,rfl⟩:=ay hown5;have HO5:=zh hown5;have HB5:=zh (((Below.refl Wa.heap.size Wa).alloc zL (.cells #[.int .i64 x.stop,.slice so x.spans.length sc] 43)).trans (hb5.mono (by simp)));have HR5:=zh (aB HRO.out (zK HB5.out) (fun _ _=>id));have y15:w5.cell? ⟨g,j*2+1,none⟩=some (.slice so x.spans.length sc):=(HB5.out.cell (p:=⟨g,j*2+1,none⟩) hg2).trans y1;have f15:w5.frozen? ⟨g,j*2+1,none⟩=false:=HR5.out.frozenAt _;clear hown5 hb5))
   have k6:Kept (fun q=>q=g) Wa (w5.setCell ⟨g,j*2+1,none⟩ (.slice o5 x.spans.length c5)):=(Kept.of_below HB5.out (fun q=>q=g)).setCell (p:=⟨g,j*2+1,none⟩) (fun _=>rfl) _;have hR6:=(HR5.out.stored (j*2+1) (.slice o5 x.spans.length c5)).1;have hset:(cs1++ .int .i64 x.stop:: .slice so x.spans.length sc::q2).set (j*2+1) (.slice o5 x.spans.length c5)=(cs1++[.int .i64 x.stop,.slice o5 x.spans.length c5])++q2:=by
    rw[List.set_append_right _ _ (by rw[HL1.out];omega),HL1.out,show j*2+1-j*2=1 by omega,List.append_assoc]
    rfl
   rw[hset] at hR6;have hO6:(w5.setCell ⟨g,j*2+1,none⟩ (.slice o5 x.spans.length c5)).ownsRow (Wa.heap.size+1) 57 2 (.slice o5 x.spans.length c5) x.spans.length (x.spans.flatMap bP):=
    aB (iy HO5.out (by simp)) ((Kept.refl (fun q=>q=g) w5).setCell (p:=⟨g,j*2+1,none⟩) (fun _=>rfl) _) (fun q hq e=>by have:=(HO5.out.lt q hq).1;simp at this;omega)
   have hnew:aC (fun q=>w.heap.size≤q∧(Value.slice (some ⟨g,0,none⟩) l.length c1).ownBlock≠some q) (w5.setCell ⟨g,j*2+1,none⟩ (.slice o5 x.spans.length c5)) (.slice o5 x.spans.length c5) x.spans:=
    ⟨Row.dD hO6 (fun q hq _=>⟨by have:=HBW.out.size;omega,by simp[Value.ownBlock];omega⟩),HSX.out.ok,HSX.out.small⟩
   have Pm:=(HW1.out.go (M:=fun q=>w.heap.size≤q∧(Value.slice (some ⟨g,0,none⟩) l.length c1).ownBlock≠some q) k6 (fun q _ hn=>⟨fun e=>hn.2 (by rw[e];rfl),hn⟩)).append (aH.one (x:=x) hnew HXL.out.1 HXL.out.2);have Pn:=HW3.out.go (M:=fun q=>N q∧q<w.heap.size) k6 (fun q _ hn=>⟨fun e=>by omega,hn⟩);have Po:Below w.heap.size w (w5.setCell ⟨g,j*2+1,none⟩ (.slice o5 x.spans.length c5)):=(HBW.out.trans (HB5.out.mono HBW.out.size)).setCell (by show w.heap.size≤g;omega) _;have hnz:∀q,(Value.slice o5 x.spans.length c5).ownBlock=some q→Wa.heap.size<q∧q<w5.heap.size:=fun q e=>by
    have h1:=HO5.out.lt q e;have h2:=h1.1;simp at h2;exact⟨by omega,h1.2⟩
   have hz5:Wa.heap.size≤w5.heap.size:=HB5.out.size;have hap':(cs1++[Value.int .i64 x.stop,Value.slice o5 x.spans.length c5]).Pairwise ApV:=by
    rw[List.pairwise_append];refine⟨HAP.out.1,?_,fun a ha b hb q e1 e2=> ?_⟩
    ·simp only[List.pairwise_cons,List.mem_singleton,forall_eq,List.not_mem_nil,false_imp_iff,implies_true,List.Pairwise.nil,and_true];exact fun q e=>by simp[Value.ownBlock] at e
    ·have h1:=(HAP.out.2 a ha q e1).1;simp only[List.mem_cons,List.not_mem_nil,or_false] at hb;rcases hb with rfl|rfl
     ·simp[Value.ownBlock] at e2
     ·have:=(hnz q e2).1;omega
   have hlt':∀u∈cs1++[Value.int .i64 x.stop,Value.slice o5 x.spans.length c5],∀q,u.ownBlock=some q→q<(w5.setCell ⟨g,j*2+1,none⟩ (.slice o5 x.spans.length c5)).heap.size∧(Value.slice (some ⟨g,0,none⟩) l.length c1).ownBlock≠some q∧w.heap.size≤q∧∃d,Blk (w5.setCell ⟨g,j*2+1,none⟩ (.slice o5 x.spans.length c5)) q d 57:=fun u hu q e=>by
    have hzz:(w5.setCell ⟨g,j*2+1,none⟩ (.slice o5 x.spans.length c5)).heap.size=w5.heap.size:=by simp[World.setCell]
    rw[hzz];rcases List.mem_append.1 hu with h|h
    ·obtain⟨h1,h2,h4,d,h3⟩:=HAP.out.2 u h q e;exact⟨by omega,h2,h4,d,h3.kept k6 (fun e=>h2 (by rw[e];rfl))⟩
    ·simp only[List.mem_cons,List.not_mem_nil,or_false] at h;rcases h with rfl|rfl
     ·simp[Value.ownBlock] at e
     ·obtain⟨d,h3⟩:=JK hO6 q e;have h1:=hnz q e;exact⟨h1.2,by simp only[Value.ownBlock,ne_eq,Option.some.injEq];omega,by have:=HBW.out.size;omega,d,h3⟩
   go_roundw
   case rel=>exact⟨j+1,_,q2,by omega,by go_num,by rw[List.length_append,HL1.out];simp;omega,hR6,by rw[List.take_succ_eq_append_getElem hjl,←HX.out];exact Pm,Pn,Po,hap',hlt'⟩
   case measure=>simp[intOf];omega
  ·obtain rfl:j=l.length:=(by omega);have hend:SL G L l w (.returned (.slice o1 l.length c1)) Wa:=by
    rw[List.drop_length,aH] at hw2;subst hw2;rw[List.append_nil] at hro;rw[List.take_length] at hw1;exact⟨_,rfl,⟨cs1,hro,hw1,HAP.out.1,fun u hu q e=>(HAP.out.2 u hu q e).2.2⟩,hbw⟩
   have dL:=zh hend;clear hend hro hw1 hw2 hbw hl1
   go_wp2_with fail
   go_ret
   exact dL.out
variable {s:ByteArray} {cs:List Value} {t:Nd}
def OJ (s:ByteArray) (t:Nd) (w:World) (e:Ending) (w':World):Prop:=
 Below w.heap.size w w'∧match Wy.ways (aN s) t with
  |none=>e= .returned (.tuple #[.slice none 0 0,.int .i64 5])
  |some l=>∃v cs,e= .returned (.tuple #[v,.int .i64 0])∧w'.ownsRow w.heap.size 43 2 v l.length cs∧aH (fun q=>w.heap.size≤q∧v.ownBlock≠some q) w' (opened t) s.size l cs∧cs.Pairwise ApV∧SpB w.heap.size w' cs
theorem JL (h:ai (fun _=>True) w t cs) (hr:right t=true) (hno:nodes t≤1000000) (hs:s.size≤32) (hv:Lib.validD s.data.toList=true) (htab:Lib.Utf8Tabs 0 1 w) (hnone:bu w):
  Calls Tryz.prog 13 #[.agg cs.toArray,.string s] w (OJ s t w):=by
 obtain⟨k,lo,hi,lz,o1,o2,n1,c1,n2,c2,rfl⟩:=pX h;have HND:=zh h;have gq:=zh hnone;have mZ:=zh htab;have hsI:(s.size:Int)≤32:=(by omega);clear h hnone htab;go_enter Tryz.func13,Tryz.ntmps13
 go_upto_region 1 with fail
 have hB1:Blk (w.alloc (.cells #[.int .u8 k,.slice o1 n1 c1,.int .i64 lo,.int .i64 hi,.bool lz,.slice o2 n2 c2] 27)) w.heap.size #[.int .u8 k,.slice o1 n1 c1,.int .i64 lo,.int .i64 hi,.bool lz,.slice o2 n2 c2] 27:=Blk.new _ _ _;have hb1:Below w.heap.size w (w.alloc (.cells #[.int .u8 k,.slice o1 n1 c1,.int .i64 lo,.int .i64 hi,.bool lz,.slice o2 n2 c2] 27)):=zR.alloc zL _;generalize (w.alloc (.cells #[.int .u8 k,.slice o1 n1 c1,.int .i64 lo,.int .i64 hi,.bool lz,.slice o2 n2 c2] 27))=W1 at hB1 hb1 ⊢;have hright:=lN (ai.go (M:=fun _=>True) (zK hb1) (fun _ _ _=>⟨id,trivial⟩) HND.out) hno;rw[hr] at hright;obtain⟨d0,d1,d2,d3,d4,d5,-⟩:=zS hB1;have dz:=hB1.lt;have HR:=zh hright;have HB1:=zh hB1;have oL:=zh hb1;clear hright hB1 hb1;have hvalid:∀W,Below w.heap.size w W→Calls Tryz.prog 41 #[.string s] W fun e w'=>e= .returned (.bool true)∧Below W.heap.size W w':=fun W hW=>by
  have:=Tryz.utf8_ValidString s W (by omega) (bF mZ.out (zK hW) id id (by have:=gq.out.1;omega))
  rwa [hv] at this
 have HV:=zh hvalid;clear hvalid;have hmm:= @run_makeMap Tryz.prog;go_upto_region 8 with(first|(go_at_call 40;(refine HR.out.mono ?_;rintro e w2 ⟨rfl,hb2⟩;have HB2:=zh hb2;have rW:=zh (oL.out.trans (hb2.mono oL.out.size));clear hb2))|(go_at_call 41;(refine(HV.out _ rW.out).mono ?_;rintro e w3 ⟨rfl,hb3⟩;have HB3:=zh (HB2.out.trans (hb3.mono HB2.out.size));have Dt:=zh (rW.out.trans (hb3.mono rW.out.size));clear hb3)))
 have hb4:Below w3.heap.size w3 ((w3.alloc (.map #[] 0)).alloc (.cells #[.string s,.int .i64 0,.int .i64 0,.map (some w3.heap.size)] 105)):=(zR.alloc zL _).alloc (by simp) _;have hM4:Blk ((w3.alloc (.map #[] 0)).alloc (.cells #[.string s,.int .i64 0,.int .i64 0,.map (some w3.heap.size)] 105)) (w3.heap.size+1) (mkC (.string s) (.map (some w3.heap.size)) 0 0) 105:=Blk.new' _ _ (by simp);have hmap:((w3.alloc (.map #[] 0)).alloc (.cells #[.string s,.int .i64 0,.int .i64 0,.map (some w3.heap.size)] 105)).heap[w3.heap.size]? =some (.map #[] 0):=by
  rw[Below.heap_alloc _ _ _ (by simp)];exact heap_alloc_new w3 _
 have hz4:((w3.alloc (.map #[] 0)).alloc (.cells #[.string s,.int .i64 0,.int .i64 0,.map (some w3.heap.size)] 105)).heap.size=w3.heap.size+2:=by simp
 obtain⟨mb,hmb⟩:∃mb,mb=w3.heap.size:=⟨_,rfl⟩;generalize ((w3.alloc (.map #[] 0)).alloc (.cells #[.string s,.int .i64 0,.int .i64 0,.map (some w3.heap.size)] 105))=W4 at hb4 hM4 hmap hz4 ⊢;rw[←hmb] at hM4 hmap hz4 ⊢;have hw4:Below w.heap.size w W4:=Dt.out.trans (hb4.mono Dt.out.size);have hB4:=(HB1.out.below HB3.out HB1.out.lt).below hb4 (Nat.lt_of_lt_of_le HB1.out.lt HB3.out.size);have hwm:w.heap.size<mb:=by have:=HB1.out.lt;have:=HB3.out.size;omega
 obtain⟨f0,f1,f2,f3,f4,f5,-⟩:=zS hB4;have fz:=hB4.lt;have hop:=iC hr;have hpart:=vS t (fun q=>q≠mb+1∧q≠mb) W4 (mb+1) (.string s) (.map (some mb)) 0 0 _ hM4 (ai.go (zK hw4) (fun q hq _=>⟨id,by omega,by omega⟩) HND.out) (fun q hq=>by omega) (fun e=>e.1 rfl) (by omega) (by omega);have I4:=zh hpart;have HM4:=zh hM4;have PM:=zh hmap;have HZ4:=zh hz4;have HW4:=zh hw4;have HWM:=zh hwm;have HMB:=zh hmb;clear hpart hM4 hmap hz4 hw4 hwm hmb hb4 hB4 d0 d1 d2 d3 d4 d5 dz;go_upto_region 9 with(first|(go_at_call 42;(refine I4.out.mono ?_;rintro e w5 ⟨b,rfl,hp5,hm5,hk5⟩;have HP5:=zh hp5;have HM5:=zh hm5;have HK5:=zh hk5;clear hp5 hm5 hk5)))
 have hC:=EH (m:=mb+1) (mb:=mb) hr hno hs (by have:=gq.out.1;have:=HWM.out;omega);have hsz:=gq.out.1;have hat:At (IZ t s (mb+1) mb) (fun q=>q≠mb) w5:=by
  have hw:=HWM.out;have hz:=HZ4.out;have hk5:Kept (fun q=>q=mb+1) w w5:=(Kept.of_below HW4.out _).trans HK5.out;have hM:=HM5.out;unfold mkC at hM;rw[Nat.zero_add,Nat.zero_add] at hM;refine⟨bF mZ.out hk5 (by omega) (by omega) (by omega),gq.out.kept hk5 (by omega),hM,⟨#[],0,?_,fun x hx=>by simp at hx⟩,fun q hq e=> ?_,fun q hq e=> ?_,?_,fun e=>e rfl⟩
  ·exact(HK5.out.block mb (by omega) (by omega)).trans PM.out
  ·have:=HK5.out.size;show False
   have e':q=mb:=e;omega
  ·have e':q=mb:=e;omega
  ·show¬(mb+1=mb)
   omega
 have Bv:Calls Tryz.prog 43 #[.pointer (some ⟨mb+1,0,none⟩),.pointer (some ⟨b,0,none⟩),.int .i64 0] w5 (vG (IZ t s (mb+1) mb) (fun q=>q≠mb) w5 (Wy.ways (aN s) t)):=
  vY hC t (rV hr) (fun q=>q≠mb) w5 0 0 b 0 hat (aX.mono (fun q hq=>hq.2) HP5.out) (xG t) (by show 0+opened t≤opened t;omega) (Nat.zero_le _)
 have I5:Below w.heap.size w w5:=((Kept.of_below HW4.out (fun q=>q=mb+1)).trans HK5.out).below (fun q hq e=>by have:=HWM.out;omega);have qN:=zh Bv;have I7:=zh I5;clear Bv I5 hat hC hsz f0 f1 f2 f3 f4 f5 fz;unfold OJ;cases ho:Wy.ways (aN s) t with
 |none=>
  rw[ho] at qN;have hw:Calls Tryz.prog 43 #[.pointer (some ⟨mb+1,0,none⟩),.pointer (some ⟨b,0,none⟩),.int .i64 0] w5 fun e w'=>e= .returned (.tuple #[.slice none 0 0,.bool false])∧Below w.heap.size w w':=
   qN.out.mono fun e w' ⟨h1,h2,v,h3,h4,_⟩=>by
    rw[h4 rfl] at h3;exact⟨h3,((Kept.of_below I7.out (fun q=>q=mb)).trans h1).below (fun q hq e=>by have:=HWM.out;omega)⟩
  have HW:=zh hw;have HO:=zh ho;clear hw ho
  go_wp2_with (go_at_call 43;(refine HW.out.mono ?_;rintro e w6 ⟨rfl,hb6⟩;have HB6:=zh hb6;clear hb6))
  exact bodyPost_ret (v:= .tuple #[.slice none 0 0,.int .i64 5]) (by simp[results,Tryz.results13,go_sem]) rfl ⟨HB6.out,by rw[HO.out]⟩
 |some l=>
  rw[ho] at qN;have hlen:l.length≤500:=by unfold Wy.ways at ho;exact fV ho
  have hw:Calls Tryz.prog 43 #[.pointer (some ⟨mb+1,0,none⟩),.pointer (some ⟨b,0,none⟩),.int .i64 0] w5 fun e w'=>∃o c,e= .returned (.tuple #[.slice o l.length c,.bool true])∧Below w.heap.size w w'∧aI (fun _=>True) w' (opened t) s.size (.slice o l.length c) l:=
   qN.out.mono fun e w' ⟨h1,h2,v,h3,_,h5⟩=>by
    have h6:=h5 l rfl;obtain⟨o,c,rfl⟩:=h6.slice;exact⟨o,c,h3,((Kept.of_below I7.out (fun q=>q=mb)).trans h1).below (fun q hq e=>by have:=HWM.out;omega),h6.mono (fun _ _=>trivial)⟩
  have HW:=zh hw;have HO:=zh ho;clear hw ho
  go_wp2_with (first|(go_at_call 43;(refine HW.out.mono ?_;rintro e w6 ⟨o6,c6,rfl,hb6,hw6⟩;have HB6:=zh hb6;have hcp:=BM hw6 hlen (by omega);have HCP:=zh hcp;clear hb6 hw6 hcp))|(go_at_call 44;(refine HCP.out.mono ?_;rintro e w7 ⟨v7,rfl,⟨cs7,hr7,hw7,Nr⟩,hb7⟩;have bW:=zh (And.intro (HB6.out.trans (hb7.mono HB6.out.size)) (And.intro (iy hr7 HB6.out.size) (And.intro (hw7.mono (M:=fun q=>w.heap.size≤q∧v7.ownBlock≠some q) (fun q hq=>⟨Nat.le_trans HB6.out.size hq.1,hq.2⟩)) (And.intro Nr.1 (show SpB w.heap.size w7 cs7 from fun u hu q e=>⟨Nat.le_trans HB6.out.size (Nr.2 u hu q e).1,(Nr.2 u hu q e).2⟩)))));clear hr7 hw7 hb7 Nr)))
  exact bodyPost_ret (v:= .tuple #[v7,.int .i64 0]) (by simp[results,Tryz.results13,go_sem]) rfl ⟨bW.out.1,by rw[HO.out];exact⟨v7,cs7,rfl,bW.out.2⟩⟩
end Go.Proofs.YtnhjakdmbfadlaaGreatDoor
