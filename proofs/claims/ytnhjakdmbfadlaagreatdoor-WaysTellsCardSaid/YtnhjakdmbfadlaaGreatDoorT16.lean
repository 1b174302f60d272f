/- Parts of the proof. Conditions: none. -/
import Derived.Test.YtnhjakdmbfadlaaGreatDoorT04
import Derived.Test.YtnhjakdmbfadlaaGreatDoorT00
import Derived.Test.YtnhjakdmbfadlaaGreatDoorT15
import Derived.Test.YtnhjakdmbfadlaaGreatDoorT03
set_option linter.all false
set_option maxHeartbeats 8000000
set_option maxRecDepth 100000
namespace Go.Proofs.YtnhjakdmbfadlaaGreatDoor
open Go.RowKit Wy Mem Grow
variable {b:Nat} {N:Nat→Prop} {T:TypeId} {v:Value} {W w:World}
theorem PO:(Tryz.prog.info? 122).map (fun i=>(i.zero,i.size,i.bytes))=some (some (.agg #[.int .i64 0,.int .i64 0]),2,16):=by kernel_rfl
theorem Bz {c0 c1:Value} (hb:b=W.heap.size):dI (W.alloc (.cells #[c0,c1] T)) (.slice (some ⟨b,0,none⟩) 1 1) 1 [c0,c1]:=by
 subst hb;have hB:=Blk.new W #[c0,c1] T;refine .inr ⟨_,_,rfl,fun j u hu=> ?_⟩
 match j with
 |0=>simp at hu;subst hu;simp[Addr.add,hB.cell]
 |1=>simp at hu;subst hu;simp[Addr.add,hB.cell]
 |j+2=>simp at hu
theorem BA {l:List Rg} (h:dG N w v l):Calls Tryz.prog 57 #[v] w fun e w'=>∃v',e= .returned v'∧w'.ownsRow w.heap.size 122 2 v' l.length (l.flatMap jL)∧Below w.heap.size w w':=by
 obtain⟨o,c,rfl⟩:=h.row.slice;have H:=zh h;have hlI:(l.length:Int)≤1048576:=by have:=h.small;omega
 clear h;obtain⟨i0,hi0,hz0,hz1,hz2⟩:=info_parts PO;go_enter Tryz.func57,Tryz.ntmps57
 go_wp2_with fail
 go_loopw [3,8] (fun s3 s8 wx=>∃j:Nat,j≤l.length∧s8= .int .i64 j∧wx.ownsRow w.heap.size 122 2 s3 j ((l.take j).flatMap jL)∧Below w.heap.size w wx) (fun _ s8 _=>l.length-(intOf s8).toNat)
 case atStart=>exact⟨0,by omega,rfl,zN,zR⟩
 case round=>
  rename World=>Wa
  obtain⟨j,hj,rfl,hro,hbw⟩:=hrel;have HBW:=zh hbw;obtain⟨ov,cv,rfl⟩:=eX hro;by_cases hjl:j<l.length
  ·obtain⟨b,off,cap,hve,hc1,hc2,hNb,hbz,hcell⟩:=H.out.cells (by omega);simp only[Value.slice.injEq,true_and] at hve;obtain⟨rfl,rfl⟩:=hve;obtain⟨-,-,e0,e1⟩:=hcell j hjl;obtain⟨x,hx⟩:∃x,x=l[j]:=⟨_,rfl⟩;have y0:Wa.cell? ⟨b,off+j*2,none⟩=some (.int .i64 x.lo):=by rw[hx];exact(hbw.cell (p:=⟨b,off+j*2,none⟩) hbz).trans e0
   have y1:Wa.cell? ⟨b,off+j*2+1,none⟩=some (.int .i64 x.hi):=by rw[hx];exact(hbw.cell (p:=⟨b,off+j*2+1,none⟩) hbz).trans e1
   have FM:b<Wa.heap.size:=by have:=hbw.size;omega
   have hjI:(j:Int)<l.length:=(by omega);have hcI:(l.length:Int)≤c:=(by omega);have hr2:((Wa.alloc (.cells #[.int .i64 x.lo,.int .i64 x.hi] 123)).alloc (.cells #[.int .i64 x.lo,.int .i64 x.hi] 122)).ownsRow w.heap.size 122 2 (.slice ov j cv) j ((l.take j).flatMap jL):=fC hro (((Kept.refl (fun _=>False) Wa).alloc _).alloc _) (fun _ _=>id);have hbs:w.heap.size≤((Wa.alloc (.cells #[.int .i64 x.lo,.int .i64 x.hi] 123)).alloc (.cells #[.int .i64 x.lo,.int .i64 x.hi] 122)).heap.size:=by have:=hbw.size;simp;omega
   have hsr:dI ((Wa.alloc (.cells #[.int .i64 x.lo,.int .i64 x.hi] 123)).alloc (.cells #[.int .i64 x.lo,.int .i64 x.hi] 122)) (.slice (some ⟨Wa.heap.size+1,0,none⟩) 1 1) 1 [.int .i64 x.lo,.int .i64 x.hi]:=Bz (by simp);have hmx:j+1≤maxLen:=by unfold maxLen;omega
   have hby:(j+1)*16≤140737488355328:=(by omega);have hfin:∀w4,((Wa.alloc (.cells #[.int .i64 x.lo,.int .i64 x.hi] 123)).alloc (.cells #[.int .i64 x.lo,.int .i64 x.hi] 122)).grownBy w4 (Value.slice ov j cv).ownBlock→Below w.heap.size w w4:=fun w4 hg=>
    ((Kept.of_below ((HBW.out.alloc HBW.out.size (.cells #[.int .i64 x.lo,.int .i64 x.hi] 123)).alloc (by have:=HBW.out.size;simp;omega) (.cells #[.int .i64 x.lo,.int .i64 x.hi] 122)) (fun q=>(Value.slice ov j cv).ownBlock=some q)).trans (eU hg)).below (fun q hq e=>by have:=(hr2.lt q e).1;omega)
   have HR2:=zh hr2;have HBS:=zh hbs;have HSR:=zh hsr;have HX:=zh hx;have bW:=zh hfin;clear hcell e0 e1 hr2 hbs hsr hx hro hbw hfin
   go_wp2_with (first|(at_builtin;(refine aA rfl _ _ 24 rfl Tryz.underlying24 hi0 hz0 hz1 hz2 rfl (.slice ov j cv) j ((l.take j).flatMap jL) rfl HR2.out _ 1 _ rfl HSR.out rfl (by simp[Value.oneCell']) hmx hby HBS.out ?_;intro v' w4 hown' hgrow h3' h4';have HO:=zh hown';have HB4:=zh (bW.out w4 hgrow);clear hown' hgrow h3' h4')))
   go_roundw
   case rel=>exact⟨j+1,by omega,by go_num,by
    have:=HO.out;rw[List.take_succ_eq_append_getElem hjl,←HX.out]
    simpa [jL] using this,HB4.out⟩
   case measure=>simp[intOf];omega
  ·obtain rfl:j=l.length:=(by omega);rw[List.take_length] at hro;have HF:=zh hro;clear hro hbw
   go_wp2_with fail
   go_ret
   exact⟨_,rfl,HF.out,HBW.out⟩
variable {lazy:Bool} {hi k lo:Int} {subs:List Nd} {set:List Rg} {xs:List Value} {b' base n q sz:Nat} {e:TypeId}
theorem MF:(Tryz.prog.info? 27).map (fun i=>(i.zero,i.size,i.bytes))=some (some (.agg #[.int .u8 0,.slice none 0 0,.int .i64 0,.int .i64 0,.bool false,.slice none 0 0]),6,80):=by kernel_rfl
def zt (t:Nd):Prop:=∀(N:Nat→Prop) (w:World) (cs:List Value),ai N w t cs→
 Calls Tryz.prog 26 #[.agg cs.toArray] w (Trd (fun q=>w.heap.size≤q) t w)
theorem cZ {t:TypeId} {cs:Array Value} (h:w.ownsRow base e sz v n xs) (hB:Blk w q cs t) (he:e≠t):v.ownBlock≠some q:=by
 intro e';rcases h.2 with⟨rfl,-⟩|⟨g,c,cur,rfl,-,hg,-⟩
 ·simp[Value.ownBlock] at e'
 ·simp only[Value.ownBlock,Option.some.injEq] at e';subst e';unfold Blk at hB;rw[hg] at hB;simp only[Option.some.injEq,Obj.cells.injEq] at hB;exact he hB.2.1
theorem bY (h:w.ownsRow b e sz v n xs) (hb:b'≤b):w.ownsRow b' e sz v n xs:=by
 refine⟨h.1,?_⟩;rcases h.2 with hn|⟨g,c,cur,hv,hg,rest⟩
 ·exact .inl hn
 ·exact .inr ⟨g,c,cur,hv,by omega,rest⟩
def tuV (W:World) (k lo hi:Int) (lazy:Bool) (set:List Rg) (i:Nat) (v:Value) (w':World):Prop:=
 (i=10→∃o c,v= .slice o set.length c∧w'.ownsRow W.heap.size 122 2 (.slice o set.length c) set.length (set.flatMap jL))∧
 (i=11→∃o c,v= .agg #[.int .u8 k,.slice o set.length c,.int .i64 lo,.int .i64 hi,.bool lazy,.slice none 0 0]∧w'.ownsRow W.heap.size 122 2 (.slice o set.length c) set.length (set.flatMap jL))∧
 (i=12→∃q,v= .pointer (some ⟨q,0,none⟩)∧W.heap.size≤q∧Blk w' q #[.int .u8 0,.slice none 0 0,.int .i64 0,.int .i64 0,.bool false,.slice none 0 0] 27)
theorem BB (ih:∀s∈subs,zt s):zt (.mk k set lo hi lazy subs):=by
 intro N w cs hnd;rw[ai] at hnd;obtain⟨sv,uv,ucs,rfl,hk,hlo,hhi,hset,hrow,hsubs⟩:=hnd;obtain⟨os,cs,rfl⟩:=hset.row.slice;obtain⟨ou,cu,rfl⟩:=hrow.slice;have HIH:=zh ih;have vP:=zh hset;have dQ:=zh hrow;have eY:=zh hsubs;have hsl:(subs.length:Int)≤1048576:=(by omega);clear ih hset hrow hsubs;obtain⟨i0,hi0,hz0,hz1,hz2⟩:=info_parts MF;go_enter Tryz.func26,Tryz.ntmps26
 go_upto_region 1 with fail
 have hBp:Blk ((w.alloc (.cells #[.int .u8 k,.slice os set.length cs,.int .i64 lo,.int .i64 hi,.bool lazy,.slice ou subs.length cu] 70)).alloc (.cells #[.int .u8 0,.slice none 0 0,.int .i64 0,.int .i64 0,.bool false,.slice none 0 0] 27)) w.heap.size #[.int .u8 k,.slice os set.length cs,.int .i64 lo,.int .i64 hi,.bool lazy,.slice ou subs.length cu] 70:=(Blk.new _ _ _).alloc _;have hBr:Blk ((w.alloc (.cells #[.int .u8 k,.slice os set.length cs,.int .i64 lo,.int .i64 hi,.bool lazy,.slice ou subs.length cu] 70)).alloc (.cells #[.int .u8 0,.slice none 0 0,.int .i64 0,.int .i64 0,.bool false,.slice none 0 0] 27)) (w.heap.size+1) #[.int .u8 0,.slice none 0 0,.int .i64 0,.int .i64 0,.bool false,.slice none 0 0] 27:=Blk.new' _ _ (by simp);have hbW:Below w.heap.size w ((w.alloc (.cells #[.int .u8 k,.slice os set.length cs,.int .i64 lo,.int .i64 hi,.bool lazy,.slice ou subs.length cu] 70)).alloc (.cells #[.int .u8 0,.slice none 0 0,.int .i64 0,.int .i64 0,.bool false,.slice none 0 0] 27)):=(zR.alloc zL _).alloc (by simp) _;have hzW:((w.alloc (.cells #[.int .u8 k,.slice os set.length cs,.int .i64 lo,.int .i64 hi,.bool lazy,.slice ou subs.length cu] 70)).alloc (.cells #[.int .u8 0,.slice none 0 0,.int .i64 0,.int .i64 0,.bool false,.slice none 0 0] 27)).heap.size=w.heap.size+2:=by simp
 generalize ((w.alloc (.cells #[.int .u8 k,.slice os set.length cs,.int .i64 lo,.int .i64 hi,.bool lazy,.slice ou subs.length cu] 70)).alloc (.cells #[.int .u8 0,.slice none 0 0,.int .i64 0,.int .i64 0,.bool false,.slice none 0 0] 27))=W at hBp hBr hbW hzW ⊢;have HBP:=zh hBp;have HBR:=zh hBr;have HBW:=zh hbW;have HZW:=zh hzW;have hts:∀w',Below W.heap.size W w'→Calls Tryz.prog 57 #[.slice os set.length cs] w' _:=fun w' hb=>BA (sW (M:=N) vP.out (Kept.of_below (hbW.trans (hb.mono hbW.size)) (fun _=>False)) (fun q _ hq=>⟨id,hq⟩))
 have HTS:=zh hts;clear hBp hBr hbW hzW hts;have fin:∀(Wf:World) (c0 c1 c2 c3 c4 c5:Value),Below w.heap.size w Wf→Blk Wf (w.heap.size+1) #[.int .u8 0,.slice none 0 0,.int .i64 0,.int .i64 0,.bool false,.slice none 0 0] 27→ai (fun q=>w.heap.size≤q∧q≠w.heap.size+1) Wf (.mk k set lo hi lazy subs) [c0,c1,c2,c3,c4,c5]→
   Trd (fun q=>w.heap.size≤q) (.mk k set lo hi lazy subs) w (.returned (.agg #[c0,c1,c2,c3,c4,c5])) ((((((Wf.setCell ⟨w.heap.size+1,0,none⟩ c0).setCell ⟨w.heap.size+1,1,none⟩ c1).setCell ⟨w.heap.size+1,2,none⟩ c2).setCell ⟨w.heap.size+1,3,none⟩ c3).setCell ⟨w.heap.size+1,4,none⟩ c4).setCell ⟨w.heap.size+1,5,none⟩ c5)∧
   Blk ((((((Wf.setCell ⟨w.heap.size+1,0,none⟩ c0).setCell ⟨w.heap.size+1,1,none⟩ c1).setCell ⟨w.heap.size+1,2,none⟩ c2).setCell ⟨w.heap.size+1,3,none⟩ c3).setCell ⟨w.heap.size+1,4,none⟩ c4).setCell ⟨w.heap.size+1,5,none⟩ c5) (w.heap.size+1) #[c0,c1,c2,c3,c4,c5] 27:=by
  intro Wf c0 c1 c2 c3 c4 c5 hb hB hn;have hk:=kX (W:=Wf) (b:=w.heap.size+1) c0 c1 c2 c3 c4 c5;exact⟨⟨_,rfl,ai.go hk (fun q _ hq=>⟨hq.2,hq.1⟩) hn,((Kept.of_below hb (fun q=>q=w.heap.size+1)).trans hk).below (fun q hq e=>by omega)⟩,gm hB c0 c1 c2 c3 c4 c5⟩
 have FIN:=zh fin;clear fin
 go_cut [3] (fun s3 wx=>∃(p:Nat) (so:Option Addr) (sc:Nat),s3= .pointer (some ⟨p,0,none⟩)∧W.heap.size≤p∧Blk wx p #[.int .u8 k,.slice so set.length sc,.int .i64 lo,.int .i64 hi,.bool lazy,.slice none 0 0] 27∧dG (fun q=>(w.heap.size≤q∧q≠w.heap.size+1)∧q≠p∧q<wx.heap.size) wx (.slice so set.length sc) set∧Below W.heap.size W wx)
 case first=>
  apply nV ?hm ?hok ?hlast [some _,some _,some _,some _,some _,some _,some _,some _,some _,some _,none,none,none] [10,11,12] [11] (tuV W k lo hi lazy set) ?pM ?hnd ?hnl ?hV _ rfl ?h
  case hm=>rfl
  case hok=>kernel_rfl
  case hlast=>kernel_rfl
  case pM=>kernel_rfl
  case hnd=>simp
  case hnl=>simp
  case hV=>
   rintro i v w1 w2 ⟨h1,h2,h3⟩ hb;have kk:=zK hb;refine⟨fun e=> ?_,fun e=> ?_,fun e=> ?_⟩
   ·obtain⟨o,c,h,h'⟩:=h1 e;exact⟨o,c,h,fC h' kk (fun _ _=>id)⟩
   ·obtain⟨o,c,h,h'⟩:=h2 e;exact⟨o,c,h,fC h' kk (fun _ _=>id)⟩
   ·obtain⟨q,h,h',h''⟩:=h3 e;exact⟨q,h,h',h''.below hb h''.lt⟩
  case h=>
   intro u;simp only[List.dropLast];iterate 10
    apply aP rfl
    case h=>
     intro W1 hW K hK;have d:=HBP.out.below hW HBP.out.lt;obtain⟨e0,e1,e2,e3,e4,e5,ez⟩:=zS d;clear d
     go_wp2_with fail
     first|exact zR|exact hK _ zR
    simp only[zP,zQ,zB,zC]
   apply iO rfl
   case h=>
    intro W1 hW hF K hK
    go_wp2_with (go_at_call 57;(refine(HTS.out _ hW).mono ?_;rintro e w' ⟨v',rfl,hr,hb⟩))
    obtain⟨o,c,rfl⟩:=eX hr;have hr':=bY hr hW.size
    first|exact⟨hb,⟨fun _=>⟨o,c,rfl,hr'⟩,fun e=>by omega,fun e=>by omega⟩⟩|exact hK _ _ hb ⟨fun _=>⟨o,c,rfl,hr'⟩,fun e=>by omega,fun e=>by omega⟩
   simp only[zP,zQ,zB,zC];apply iO rfl
   case h=>
    intro W1 hW hF K hK;obtain⟨o,c,hu,hr⟩:=(hF (by simp) 10 (by simp) (by omega)).1 rfl;rw[hu] at hK ⊢
    go_wp2_with fail
    first|exact⟨zR,⟨fun e=>by omega,fun _=>⟨o,c,rfl,hr⟩,fun e=>by omega⟩⟩|exact hK _ _ zR ⟨fun e=>by omega,fun _=>⟨o,c,rfl,hr⟩,fun e=>by omega⟩
   simp only[zP,zQ,zB,zC];apply iO rfl
   case h=>
    intro W1 hW hF K hK
    go_wp2_with fail
    first|exact⟨zR.alloc zL _,⟨fun e=>by omega,fun e=>by omega,fun _=>⟨_,rfl,hW.size,Blk.new _ _ _⟩⟩⟩|exact hK _ _ (zR.alloc zL _) ⟨fun e=>by omega,fun e=>by omega,fun _=>⟨_,rfl,hW.size,Blk.new _ _ _⟩⟩
   simp only[zP,zQ,zB,zC];refine nT fun W7 hb7 hV7=> ?_
   obtain⟨so,sc,hu1,hr⟩:=(hV7 11 (by simp)).2.1 rfl;obtain⟨p,hu2,hp,hB⟩:=(hV7 12 (by simp)).2.2 rfl;refine⟨rfl,?_⟩;rw[hu1,hu2];obtain⟨x0,x1,x2,x3,x4,x5,xz⟩:=zS hB;have xf:∀i,W7.frozen? ⟨p,i,none⟩=false:=hB.frozen;have hne:=cZ hr hB (by decide);have HB7:=zh hB;have HR7:=zh hr;have HNE:=zh hne;clear hB hr hV7 hu1 hu2 hne
   go_wp2_with fail
   go_meet
   have hk6:=kX (W:=W7) (b:=p) (.int .u8 k) (.slice so set.length sc) (.int .i64 lo) (.int .i64 hi) (.bool lazy) (.slice none 0 0);have hz:=HZW.out;refine⟨p,so,sc,rfl,hp,gm HB7.out _ _ _ _ _ _,⟨pI (fC HR7.out hk6 (fun g hg e=>HNE.out (e ▸ hg))) (fun q hq=> ?_),vP.out.ok,vP.out.small⟩,((Kept.of_below hb7 (fun q=>q=p)).trans hk6).below (fun q hq e=>by omega)⟩;have hq1:=HR7.out.lt q hq;exact⟨⟨by omega,by omega⟩,fun e=>HNE.out (e ▸ hq),Nat.lt_of_lt_of_le hq1.2 hk6.size⟩
 case rest=>
  rename World=>W0
  obtain⟨p,so,sc,rfl,hpW,hBp,hset',hbW0⟩:=hcut;obtain⟨pz,hpz⟩:∃pz,pz=W0.heap.size:=⟨_,rfl⟩;have hz:=HZW.out;have hppz:p<pz:=by rw[hpz];exact hBp.lt
  have hbw0:Below w.heap.size w W0:=HBW.out.trans (hbW0.mono HBW.out.size);have RY:wY w (fun x=>w.heap.size≤x∧x≠w.heap.size+1) pz p k lo hi lazy (.slice so set.length sc) W0 [] (.slice none 0 0):=
   ⟨hBp,⟨[],zN,by rw[au]⟩,hppz,by omega,hbw0⟩
  rw[←hpz] at hset';have HBR0:=zh RY;have RZ:=zh hset';have Si:=zh (HBR.out.below hbW0 HBR.out.lt);have hpw2:w.heap.size+2≤p:=(by omega);have HPZ:=zh (show pz≤W0.heap.size by omega);have hB0:=HBP.out.below hbW0 HBP.out.lt;have c5:W0.cell? ⟨w.heap.size,5,none⟩=some (.slice ou subs.length cu):=hB0.cell 5;have c5z:=hB0.lt;clear RY hset' hBp hbW0 hbw0 hB0 hz hpW hpz
  go_wp2_with fail
  go_loopw [21] (fun s21 wx=>∃(i:Nat) (pv:Value),i≤subs.length∧pz≤wx.heap.size∧s21= .int .i64 i∧wY w (fun x=>w.heap.size≤x∧x≠w.heap.size+1) pz p k lo hi lazy (.slice so set.length sc) wx (subs.take i) pv∧dG (fun q=>(w.heap.size≤q∧q≠w.heap.size+1)∧q≠p∧q<pz) wx (.slice so set.length sc) set∧Blk wx (w.heap.size+1) #[.int .u8 0,.slice none 0 0,.int .i64 0,.int .i64 0,.bool false,.slice none 0 0] 27) (fun s21 _=>subs.length-(intOf s21).toNat)
  case atStart=>exact⟨0,_,by omega,HPZ.out,rfl,by rw[List.take_zero];exact HBR0.out,RZ.out,Si.out⟩
  case round=>
   rename World=>Wa
   obtain⟨i,pv,hi',hpza,rfl,hbr,hsr,hres⟩:=hrel;have HSR:=zh hsr;have I9:=zh hbr;have jf:=zh hres;by_cases hil:i<subs.length
   ·obtain⟨ub,uo,uc,hue,huc,hum,Fz,bg,gB⟩:=dQ.out.parts eY.out (by omega);simp only[Value.slice.injEq,true_and] at hue;obtain⟨rfl,rfl⟩:=hue;obtain⟨tsv,tuv,hnt,t0,t1,t2,t3,t4,t5⟩:=gB i hil;obtain⟨k',lo',Sj,lz',o1,o2,n1,c1,n2,c2,he⟩:=iP hnt;simp only[List.cons.injEq,Value.int.injEq,Value.bool.injEq,true_and,and_true] at he;obtain⟨rfl,rfl,rfl,rfl,rfl,rfl⟩:=he;obtain⟨ts,hts⟩:∃ts,ts=subs[i]:=⟨_,rfl⟩;have hbz:Below w.heap.size w Wa:=hbr.below;have BC:subs.take i++[ts]=subs.take (i+1):=by rw[List.take_succ_eq_append_getElem hil,hts]
    have g0:=(hbz.cell (p:=⟨ub,uo+i*6,none⟩) bg).trans t0;have g1:=(hbz.cell (p:=⟨ub,uo+i*6+1,none⟩) bg).trans t1;have g2:=(hbz.cell (p:=⟨ub,uo+i*6+2,none⟩) bg).trans t2;have g3:=(hbz.cell (p:=⟨ub,uo+i*6+3,none⟩) bg).trans t3;have g4:=(hbz.cell (p:=⟨ub,uo+i*6+4,none⟩) bg).trans t4;have g5:=(hbz.cell (p:=⟨ub,uo+i*6+5,none⟩) bg).trans t5;have Ej:ub<Wa.heap.size:=by have:=hbz.size;omega
    have pO:(i:Int)<subs.length:=(by omega);have lK:(subs.length:Int)≤cu:=(by omega);rw[←hts] at g0 g2 g3 g4 hnt;have hih:=HIH.out ts (by rw[hts];exact List.getElem_mem hil) N;have HSN:=zh BC;have HNT:=zh hnt;have PQ:=zh hih;clear gB t0 t1 t2 t3 t4 t5 hbr hsr hres hbz hnt hts hih BC;go_upto_region 5 with fail
    have hbC:Below Wa.heap.size Wa (Wa.alloc (.cells #[.int .u8 ts.kind,.slice o1 n1 c1,.int .i64 ts.lo,.int .i64 ts.hi,.bool ts.lazy,.slice o2 n2 c2] 70)):=zR.alloc zL _;have hBe:Blk (Wa.alloc (.cells #[.int .u8 ts.kind,.slice o1 n1 c1,.int .i64 ts.lo,.int .i64 ts.hi,.bool ts.lazy,.slice o2 n2 c2] 70)) Wa.heap.size #[.int .u8 ts.kind,.slice o1 n1 c1,.int .i64 ts.lo,.int .i64 ts.hi,.bool ts.lazy,.slice o2 n2 c2] 70:=Blk.new _ _ _;generalize (Wa.alloc (.cells #[.int .u8 ts.kind,.slice o1 n1 c1,.int .i64 ts.lo,.int .i64 ts.hi,.bool ts.lazy,.slice o2 n2 c2] 70))=Wc at hbC hBe ⊢;have BF:=I9.out.go hbC;have OD:=jf.out.below hbC jf.out.lt;obtain⟨ps,hro,hrn⟩:=BF.row;obtain⟨ov,cv,rfl⟩:=eX hro;have hlt:(subs.take i).length=i:=by rw[List.length_take];omega
    rw[hlt] at hro;have hez:Wa.heap.size<Wc.heap.size:=hBe.lt;have wu:∀q,(Value.slice ov i cv).ownBlock=some q→pz≤q∧q<Wa.heap.size:=fun q hq=>by
     obtain⟨ps',hh,-⟩:=I9.out.row;have h1:=hh.lt q (by rw[hlt];exact hq);exact h1
    have hcall:=PQ.out Wc.drew _ (ai.go (Kept.of_below ((I9.out.below.trans (hbC.mono I9.out.below.size)).drew) (fun _=>False)) (fun q _ hn=>⟨id,hn⟩) HNT.out);have aS:=zh hcall;have wZ:=zh BF;have jG:=zh (sW (M:=fun q=>(w.heap.size≤q∧q≠w.heap.size+1)∧q≠p∧q<pz) HSR.out (zK hbC) (fun q _ hq=>⟨id,hq⟩));have Sl:=zh OD;have HRO:=zh hro;have HRN:=zh hrn;have HLT:=zh hlt;have HBE:=zh hBe;have HOWN:=zh wu;have HEZ:=zh hez;have ng:i+1≤maxLen:=by unfold maxLen;omega
    have lM:(i+1)*80≤140737488355328:=(by omega);rw[hlt] at wZ;clear hcall BF OD hro hrn hBe wu hbC g0 g1 g2 g3 g4 g5 hez;have hwz:w.heap.size+2≤Wa.heap.size∧p<Wa.heap.size:=by have:=jf.out.lt;have:=I9.out.node.lt;omega
    apply aJ ?hm ?hok [0,1,2,3,4,5,6,7] [3,4,5,7] [] ?hord (fun w'=>Blk w' p #[.int .u8 k,.slice so set.length sc,.int .i64 lo,.int .i64 hi,.bool lazy,.slice ov i cv] 27∧Blk w' Wa.heap.size #[.int .u8 ts.kind,.slice o1 n1 c1,.int .i64 ts.lo,.int .i64 ts.hi,.bool ts.lazy,.slice o2 n2 c2] 70)
     (brW w (fun x=>w.heap.size≤x∧x≠w.heap.size+1) pz p k lo hi lazy (.slice so set.length sc) Wc (subs.take i) (ts) (.slice ov i cv))
    case hm=>rfl
    case hok=>kernel_rfl
    case hord=>kernel_rfl
    case hb=>
     intro L w' h hl;have hkP:∀{w':World},Kept (fun q=>(Value.slice ov i cv).ownBlock=some q) Wc w'→_:=fun {w'} (hk:Kept (fun q=>(Value.slice ov i cv).ownBlock=some q) Wc w')=>And.intro (wZ.out.node.kept hk (fun e=>by have:=HOWN.out _ e;omega)) (HBE.out.kept hk (fun e=>by have:=HOWN.out _ e;omega))
     match L with
     |[]=>obtain rfl:w'=Wc.drew:=h;exact⟨wZ.out.node,HBE.out⟩
     |[_]=>obtain⟨_,_,_,_,_,_,_,_,_,_,_,_,h⟩:=h;exact hkP (Kept.of_below h _)
     |[_,_]=>obtain⟨_,_,_,_,_,_,_,_,_,_,_,_,_,_,_,h⟩:=h;exact hkP (Kept.of_below h _)
     |[_,_,_]=>obtain⟨_,_,_,_,h⟩:=h;exact hkP h
     |_::_::_::_::_=>
      exfalso;rw[show(List.filter (fun j=>[3,4,5,7].contains j) [0,1,2,3,4,5,6,7]).length=4 by decide] at hl;simp only[List.length_cons] at hl;omega
    case hw=>rfl
    case h=>
     iterate 3
      apply ae _ rfl rfl rfl rfl
      case h=>
       intro W1 hW K hK
       (obtain⟨hWp,hW7⟩:=hW;have w8:W1.cell? ⟨p,5,none⟩=some (.slice ov i cv):=hWp.cell 5;have w8z:=hWp.lt;obtain⟨x0,x1,x2,x3,x4,x5,x7z⟩:=zS hW7;clear hWp hW7)
       go_wp2_with fail
       exact hK
      simp only[zP,zQ,zB,zC]
     apply ax rfl rfl rfl
     case h=>
      intro W10 hW K hK;obtain rfl:W10=Wc.drew:=hW
      go_wp2_with (go_at_call 26;(refine aS.out.mono ?_;rintro e w' ⟨cs5,rfl,hn5,hb5⟩))
      obtain⟨k5,lo5,hi5,lz5,o15,o25,n15,c15,n25,c25,rfl⟩:=iP hn5;refine⟨k5,lo5,hi5,lz5,o15,o25,n15,c15,n25,c25,rfl,ai.mono (fun q hq=> ?_) hn5,(zR.drew).trans hb5⟩;have hez:=HEZ.out;have hq':Wc.heap.size≤q:=hq;have:=hwz.1;have:=hwz.2;exact⟨⟨by omega,by omega⟩,by omega,fun e=>by have:=HOWN.out _ e;omega⟩
     intro v3 hv3;obtain⟨_,k6,lo6,hi6,lz6,o61,o62,n61,c61,n62,c62,rfl,-⟩:=hv3;simp only[six];simp only[zP,zQ,zB,zC];apply ax rfl rfl rfl
     case h=>
      intro W1 hW K hK;obtain⟨k,lo,hi,lz,o1,o2,n1,c1,n2,c2,he,hn,hb⟩:=hW;have HE:=zh he;have HN:=zh hn;have HB:=zh hb;clear he hn hb
      go_wp2_with fail
      have he:=HE.out;simp only[six,Value.agg.injEq,List.toArray_eq_toArray_eq,List.toArray_inj,List.cons.injEq,Value.int.injEq,Value.slice.injEq,Value.bool.injEq,true_and,and_true] at he;obtain⟨rfl,⟨rfl,rfl,rfl⟩,rfl,rfl,rfl,rfl,rfl,rfl⟩:=he;have k1:Kept (fun _=>False) W1 (W1.alloc (.cells #[.int .u8 k6,.slice o61 n61 c61,.int .i64 lo6,.int .i64 hi6,.bool lz6,.slice o62 n62 c62] 27)):=(Kept.refl _ _).alloc _;exact⟨k6,lo6,hi6,lz6,o61,o62,n61,c61,n62,c62,W1.heap.size,rfl,rfl,Lu rfl,ai.go k1 (fun q _ hq=>⟨id,hq⟩) HN.out,HB.out.alloc HB.out.size _⟩
     intro v4 hv4;obtain⟨_,_,_,_,_,_,_,_,_,_,_,q7,-,rfl,-⟩:=hv4;simp only[zP,zQ,zB,zC];apply ax rfl rfl rfl
     case h=>
      intro W1 hW K hK;obtain⟨k9,lo9,hi9,lz9,o1,o2,n1,c1,n2,c2,q,he,hq,hsr,hn,hb⟩:=hW;simp only[Value.slice.injEq,Option.some.injEq,Addr.mk.injEq,true_and,and_true] at hq;subst hq;have PR:=wZ.out.go hb;have Ja:=fC HRO.out (zK hb) (fun _ _=>id);have PS:=au.go (M:=fun q=>(w.heap.size≤q∧q≠w.heap.size+1)∧q≠p∧(Value.slice ov i cv).ownBlock≠some q) (zK hb) (fun q _ hq=>⟨id,by simpa [HLT.out] using hq⟩) HRN.out;refine aY _ _ 25 rfl Tryz.underlying25 hi0 hz0 hz1 hz2 rfl (.slice ov i cv) i ps rfl Ja _ 1 _ rfl hsr rfl (by simp[six,Value.oneCell']) ng lM (by have:=hb.size;have:=HEZ.out;omega) ?_;intro v' w' h1 h2 h3 h4;obtain⟨ov',cv',rfl⟩:=eX h1;have hm:=PR.more (t:=ts) (by rw[HLT.out];exact Ja) PS hn (by rw[HLT.out];exact h1) h2 h3;refine hK _ _ ⟨ov',cv',by rw[HLT.out],by rw[HLT.out];exact hm,(Kept.of_below hb _).trans (eU h2)⟩
     intro v5 hv5;obtain⟨_,o3,c3,rfl,-⟩:=hv5;rw[HLT.out];simp only[zP,zQ,zB,zC];iterate 1
      apply ae _ rfl rfl rfl rfl
      case h=>
       intro W1 hW K hK
       (obtain⟨hWp,hW7⟩:=hW;have w8:W1.cell? ⟨p,5,none⟩=some (.slice ov i cv):=hWp.cell 5;have w8z:=hWp.lt;obtain⟨x0,x1,x2,x3,x4,x5,x7z⟩:=zS hW7;clear hWp hW7)
       go_wp2_with fail
       exact hK
      simp only[zP,zQ,zB,zC]
     apply ax rfl rfl rfl
     case h=>
      intro W10 hW K hK;obtain⟨o4,c4,he4,qc,hk4⟩:=hW;rw[HLT.out] at he4 qc;simp only[Value.slice.injEq,true_and] at he4;obtain⟨rfl,rfl⟩:=he4;have hPP:=wZ.out.node.kept hk4 (fun e=>by have:=HOWN.out _ e;omega);have w8:W10.cell? ⟨p,5,none⟩=some (.slice ov i cv):=hPP.cell 5;have w8z:=hPP.lt;have w8f:=hPP.frozen 5;have dL:=zh qc;have HK4:=zh ((hk4.mono (fun q _ e=>Or.inl e)).setCell (X:=fun q=>(Value.slice ov i cv).ownBlock=some q∨q=p) (p:=⟨p,5,none⟩) (fun _=>Or.inr rfl) (.slice o3 (i+1) c3));clear qc hk4 hPP
      go_wp2_with fail
      exact hK undef _ ⟨o3,c3,by rw[HLT.out];exact dL.out,HK4.out⟩
     intro v6 hv6;simp only[zP,zQ,zB,zC];refine aG fun W11 h11=> ?_
     obtain⟨o4,c4,qc,hk4⟩:=h11;rw[HSN.out] at qc;have Dx:=zh qc;have HR4:=zh (Sl.out.kept hk4 (fun e=>by
      rcases e with e|e
      ·have:=(HOWN.out _ e).1;omega
      ·omega))
     have HZ4:=zh (show pz≤W11.heap.size by have:=hk4.size;have:=HEZ.out;omega);have HS4:=zh (sW (M:=fun q=>(w.heap.size≤q∧q≠w.heap.size+1)∧q≠p∧q<pz) jG.out hk4 (fun q _ hq=>⟨fun e=>e.elim (fun e=>by have:=HOWN.out _ e;omega) hq.2.1,hq⟩));clear qc hk4
     go_wp2_with fail
     go_roundw
     case rel=>exact⟨i+1,_,by omega,HZ4.out,by go_num,Dx.out,HS4.out,HR4.out⟩
     case measure=>simp[intOf];omega
   ·obtain rfl:i=subs.length:=(by omega);rw[List.take_length] at hbr;obtain⟨ps,hro,hrn⟩:=hbr.row;obtain⟨ov,cv,rfl⟩:=eX hro;have Jb:=hbr.node;obtain⟨e0,e1,e2,e3,e4,e5,-⟩:=zS Jb;have ez:=Jb.lt;obtain⟨r0,r1,r2,r3,r4,r5,-⟩:=zS hres;have rz:=hres.lt;have rf:∀i,Wa.frozen? ⟨w.heap.size+1,i,none⟩=false:=hres.frozen;have hnd:ai (fun q=>w.heap.size≤q∧q≠w.heap.size+1) Wa (.mk k set lo hi lazy subs) [.int .u8 k,.slice so set.length sc,.int .i64 lo,.int .i64 hi,.bool lazy,.slice ov subs.length cv]:=by
     rw[ai];refine⟨_,_,ps,rfl,⟨hk.1,hk.2.1,hk.2.2⟩,hlo,hhi,sW hsr (Kept.refl (fun _=>False) Wa) (fun q _ hq=>⟨id,hq.1⟩),pI hro (fun q hq=> ?_),au.mono (fun q hq=>hq.1) hrn⟩;have:=(hro.lt q hq).1;exact⟨by omega,by omega⟩
    have hF:=FIN.out Wa _ _ _ _ _ _ hbr.below hres hnd;have HF:=zh hF;clear hF hnd hbr hres hro hrn Jb hsr
    go_wp2_with fail
    have hF:=HF.out;exact bodyPost_ret (v:= .agg #[.int .u8 k,.slice so set.length sc,.int .i64 lo,.int .i64 hi,.bool lazy,.slice ov subs.length cv]) (by simp[results,Tryz.results26,go_sem,hF.2.cell]) rfl hF.1
theorem qg:∀t:Nd,zt t
 | .mk k set lo hi lazy subs=>BB (fun s hs=>qg s)
termination_by t=>SizeOf.sizeOf t
decreasing_by
 have:=List.sizeOf_lt_of_mem hs;simp;omega
end Go.Proofs.YtnhjakdmbfadlaaGreatDoor
