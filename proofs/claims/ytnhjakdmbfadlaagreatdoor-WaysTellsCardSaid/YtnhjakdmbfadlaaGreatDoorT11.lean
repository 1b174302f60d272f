/- Parts of the proof. Conditions: none. -/
import Derived.Test.YtnhjakdmbfadlaaGreatDoorT09
import Derived.Deep.DeepCutAuto
import Derived.Deep.CutRange
import Derived.Test.YtnhjakdmbfadlaaGreatDoorT00
import Derived.Laws.EntriesVeiled
set_option linter.all false
set_option maxHeartbeats 8000000
set_option maxRecDepth 100000
namespace Go.Proofs.YtnhjakdmbfadlaaGreatDoor
open Go.RowKit Wy Mem Grow
variable {N:Nat→Prop} {t:Nd} {vc vo:Value} {w w1:World}
theorem info3:(Tryz.prog.info? 3).map (fun i=>(i.zero,i.size,i.bytes))=some (some (.int .i64 0),1,8):=by kernel_rfl
theorem eF.b4g {R:Rc} {σ:Fs Wy.Way} (h:eF R N w vo vc σ) (hg:w.grownBy w1 vc.ownBlock):Blk w1 (R.B+4) #[vc] 48:=
 h.b4.kept (Kept.bK hg) (fun e=>by have:=h.vJ _ e;omega)
theorem eF.b3g {R:Rc} {σ:Fs Wy.Way} (h:eF R N w vo vc σ) (hg:w.grownBy w1 vo.ownBlock):Blk w1 (R.B+3) #[vo] 38:=
 h.b3.kept (Kept.bK hg) (fun e=>by have:=h.oK _ e;omega)
theorem follow_eq {W:Type} (A:Alg W) (f:Nat→Option (List W)) (lo hi:Int) (lazy:Bool) (k:Nat) (w:W) (t:Nat) (σ:Fs W) {st ok1 lz:Bool} (hst:decide (lo≤(t:Int))=st) (hlz:lazy=lz) (hok:(σ.ok && decide ((bump σ.counts t).getD t 0≤500))=ok1):
  Wy.follow A f lo hi lazy (k+1) w t σ=if(ok1 && (decide (hi= -1) || decide ((t:Int)<hi)))=true then
    (let q:=dA (fun v σ=>Wy.follow A f lo hi lazy k (A.thn w v) (t+1) σ) ((f (A.stop w)).getD []) {dS (st && lz) w ⟨σ.out,bump σ.counts t,ok1⟩ with ok:=(dS (st && lz) w ⟨σ.out,bump σ.counts t,ok1⟩).ok && (f (A.stop w)).isSome}
     if q.2 then q.1 else dS (st && !lz) w q.1)
   else dS (st && !lz) w (dS (st && lz) w ⟨σ.out,bump σ.counts t,ok1⟩):=by
 subst hst hok hlz;rw[Wy.follow];simp only;split
 ·cases f (A.stop w) with
  |none=>simp[dA]
  |some m=>simp
 ·rfl
theorem fA.any {C:Cx} (h:fA C t) {N:Nat→Prop} {w:World} {num grp b place:Nat} (hA:At C N w) (hp:aX N w t num grp b) (ht:mF C.T t num grp) (hg:grp+opened t≤C.G) (hpl:place≤C.s.size):
  Calls Tryz.prog 43 #[.pointer (some ⟨C.m,0,none⟩),.pointer (some ⟨b,0,none⟩),.int .i64 place] w fun e w'=>∃a c,e= .returned (.tuple #[.slice a ((C.wy t grp place).getD []).length c,.bool (C.wy t grp place).isSome])∧Kept (fun b=>b=C.mb) w w'∧At C N w'∧aI N w' C.G C.s.size (.slice a ((C.wy t grp place).getD []).length c) ((C.wy t grp place).getD []):=by
 cases ho:C.wy t grp place with
 |none=>exact(h.no hA hp ht hg hpl ho).mono fun e w' ⟨h1,h2,h3⟩=>⟨none,0,h1,h2,h3,aI.nil _ _ _ _ _ _⟩
 |some m=>exact(h.yes hA hp ht hg hpl ho).mono fun e w' ⟨a,c,h1,h2,h3,h4⟩=>⟨a,c,h1,h2,h3,h4⟩
def folW (R:Rc) (N5:Nat→Prop) (W5:World) (more:List Wy.Way) (fine:Bool):List Value→World→Prop
 |[]=>fun w'=>w'=W5.drew
 |[v]=>fun w'=>∃a c,v= .tuple #[.slice a more.length c,.bool fine]∧Kept (fun b=>b=R.C.mb) W5 w'∧At R.C N5 w'∧aI N5 w' R.C.G R.C.s.size (.slice a more.length c) more
 |_=>fun _=>False
def folV (R:Rc) (N6:Nat→Prop) (Wb:World) (y:Int) (sp:List (Int×Int)) (σ:Fs Wy.Way):List Value→World→Prop
 |[]=>fun w'=>w'=Wb.drew
 |[v]=>fun w'=>Below Wb.heap.size Wb w'∧∃o c,v= .agg #[.int .i64 y,.slice o sp.length c]∧aC N6 w' (.slice o sp.length c) sp
 |[_,_]=>fun w'=>∃N' vo vc,eF R N' w' vo vc σ∧Goes R N6 Wb N' w'
 |_=>fun _=>False
def zg (R:Rc) (s:Nd) (grp:Nat) (Pt:(Nat→Prop)→World→Prop) (k:Nat):Prop:=
 ∀(N:Nat→Prop) (w:World) (vo vc sv:Value) (σ:Fs Wy.Way) (x:Wy.Way) (t:Nat),t+k=36→eF R N w vo vc σ→Pt N w→aC N w sv x.spans→x.spans.length=R.C.G→x.stop≤R.C.s.size→σ.ok=true→jM t 500 σ→
  ((dN s=1∧t≤x.stop)∨(0≤R.hi∧R.hi≤1∧t≤1))→
  Calls Tryz.prog 92 #[.agg #[.int .i64 x.stop,sv],.int .i64 t,.pointer (some ⟨R.B+4,0,none⟩),.pointer (some ⟨R.B+5,0,none⟩),.pointer (some ⟨R.B+2,0,none⟩),.pointer (some ⟨R.B+3,0,none⟩),.pointer (some ⟨R.B,0,none⟩),.pointer (some ⟨R.B+1,0,none⟩),.pointer (some ⟨R.B+6,0,none⟩)] w (Flw R N w (Wy.follow (ak R.C.G) (fun q=>R.C.wy s grp q) R.lo R.hi R.lazy k x t σ))
theorem IK {R:Rc} (hC:R.C.Ok) {set:List Rg} {s:Nd} {num grp:Nat} (hsp:fA R.C s) (hfit:Fit s) (ht:mF R.C.T s (num+1) grp) (hg:grp+opened s≤R.C.G) (hlo:0≤R.lo∧R.lo≤1000) (hhi: -1≤R.hi∧R.hi≤1000) (jQ:(Wy.look s).ah=true→0≤R.hi∧R.hi≤1) (k:Nat)
  (ih:zg R s grp (fun N w=>aX N w (.mk 5 set R.lo R.hi R.lazy [s]) num grp R.b) k):zg R s grp (fun N w=>aX N w (.mk 5 set R.lo R.hi R.lazy [s]) num grp R.b) (k+1):=by
 intro N w vo vc sv σ x t htk hR hP hS hxG hxl hok hF hfu;obtain⟨so,sc,rfl⟩:=hS.row.slice;have HR:=zh hR;have HP:=zh hP;have HS:=zh hS;have HXG:=zh hxG;have HF:=zh hF;have HIH:=zh ih;have HSP:=zh hsp;have hx32:(x.stop:Int)≤32:=by have:=hC.len;omega
 have ht36:(t:Int)<36:=(by omega);have hc36:(σ.counts.length:Int)≤36:=by have:=hF.short;omega
 obtain⟨oc,cc,rfl⟩:=ay hR.cnt;obtain⟨e4,f4⟩:=hR.b4.one;have z4:=hR.b4.lt;have hbw:Below w.heap.size w (w.alloc (.cells #[.int .i64 x.stop,.slice so x.spans.length sc] 43)):=zR.alloc zL _;have HBW:=zh hbw;have HR1:=zh (HR.out.below hbw);have HE4:=zh hR.b4;clear hR hP hS hxG hF ih hsp hbw;go_enter Tryz.func92,Tryz.ntmps92
 go_upto_if 19 with fail
 have hB9:Blk (w.alloc (.cells #[.int .i64 x.stop,.slice so x.spans.length sc] 43)) w.heap.size #[.int .i64 x.stop,.slice so x.spans.length sc] 43:=Blk.new _ _ _;have hg1:Goes R N w N (w.alloc (.cells #[.int .i64 x.stop,.slice so x.spans.length sc] 43)):=Goes.below HBW.out;generalize (w.alloc (.cells #[.int .i64 x.stop,.slice so x.spans.length sc] 43))=W1 at hB9 hg1 HR1 ⊢;have HB9:=zh hB9;have HG1:=zh hg1;have hN9:N w.heap.size:=HR.out.at_.new _ zL;obtain⟨c0,hc0⟩:∃c0,c0=if σ.counts.length=t then σ.counts++[0] else σ.counts:=⟨_,rfl⟩
 have HC0:=zh hc0;clear hB9 hg1 hc0 e4 f4 z4 HE4
 go_cut [] (fun wx=>∃N2 vc2,eF R N2 wx vo vc2 {σ with counts:=c0}∧Goes R N W1 N2 wx)
 case first=>
  by_cases hct:σ.counts.length=t
  ·obtain⟨e4,f4⟩:=HR1.out.b4.one;have z4:=HR1.out.b4.lt;have hb3:Below W1.heap.size W1 (W1.alloc (.cells #[.int .i64 0] 3)):=zR.alloc zL _;have HR3:=zh (HR1.out.below hb3);have hsrc:dI (W1.alloc (.cells #[.int .i64 0] 3)) (.slice (some ⟨W1.heap.size,0,none⟩) 1 1) 1 [.int .i64 0]:= .inr ⟨_,_,rfl,fun j u hu=>by
    match j with
    |0=>simp at hu;subst hu;simp[Addr.add,(Blk.new W1 #[.int .i64 0] 3).cell]
    |j+1=>simp at hu⟩
   have jG:=zh hsrc;obtain⟨i0,hi,hz0,hz1,hz2⟩:=info_parts info3;have ng:σ.counts.length+1≤maxLen:=by unfold maxLen;omega
   have lM:(σ.counts.length+1)*8≤140737488355328:=(by omega);have hctI:(σ.counts.length:Int)=t:=(by omega);have HB3:=zh hb3;have HCT:=zh hct;clear hsrc hb3 hct
   go_wp2_with (first|(at_builtin;refine aA rfl _ _ 48 rfl Tryz.underlying48 hi hz0 hz1 hz2 rfl (.slice oc σ.counts.length cc) σ.counts.length _ rfl HR3.out.cnt _ 1 _ rfl jG.out rfl (by simp[Value.oneCell']) ng lM (Nat.le_trans HR1.out.size HB3.out.size) ?_;intro v7 w7 bQ fZ h37 h47;obtain⟨ov,cv,rfl⟩:=ay bQ;have HO7:=zh bQ;have HG7:=zh fZ;have HV7:=zh h37;obtain⟨q4,r4⟩:=(HR3.out.b4g fZ).one;clear bQ fZ))
   go_meet
   obtain⟨hr8,hg8⟩:=HR3.out.LM HO7.out HG7.out HV7.out;exact⟨_,_,by rw[HC0.out,if_pos HCT.out];exact hr8,(Goes.below HB3.out).trans hg8⟩
  ·have hctI:¬(σ.counts.length:Int)=t:=(by omega);obtain⟨e4,f4⟩:=HR1.out.b4.one;have z4:=HR1.out.b4.lt
   go_wp2_with fail
   go_meet
   exact⟨N,_,by rw[HC0.out,if_neg hct];exact HR1.out,Goes.refl _ _ _⟩
 case rest=>
  rename World=>W2
  obtain⟨N2,vc2,hr2,hg2⟩:=hcut;have hcl:t<c0.length:=by
   have:=HF.out.long;rw[HC0.out];split
   ·rw[List.length_append];simp;omega
   ·omega
  have hcl36:c0.length≤36:=by
   have:=HF.out.short;rw[HC0.out];split
   ·rw[List.length_append];simp;omega
   ·omega
  have hcb:c0.modify t (· +1)=bump σ.counts t:=by rw[HC0.out];rfl
  obtain⟨g2,cc2,rfl,-,hg2z,-⟩:=gJ hr2.cnt (show 0<c0.length by omega);have hcell:W2.cell? ⟨g2,t,none⟩=some (.int .i64 c0[t]):=by
   rw[hr2.cnt.cellAt t (by simpa using hcl)];simp[hcl]
  have hfz:W2.frozen? ⟨g2,t,none⟩=false:=hr2.cnt.frozenAt t;have hc501:c0[t]≤500:=by
   have h1:=HF.out.ok hok;have h2:∀c∈c0,c≤500:=by
    rw[HC0.out];split
    ·intro c hc;rcases List.mem_append.1 hc with hc|hc
     ·exact h1 c hc
     ·simp only[List.mem_singleton] at hc;omega
    ·exact h1
   exact h2 _ (List.getElem_mem hcl)
  obtain⟨hr3,hg3⟩:=hr2.O5 rfl hcl;obtain⟨ok1,hok1⟩:∃ok1:Bool,decide ((c0[t]:Int)+1≤500)=ok1:=⟨_,rfl⟩;obtain⟨Rt,hg4⟩:=hr3.Ov ok1;obtain⟨e4,f4⟩:=hr2.b4.one;obtain⟨e5,f5⟩:=hr2.b5.one;have z2:=hr2.size;have hgB:R.B+7≤g2:=(hr2.vJ g2 rfl).1;have n45:R.B+4≠g2:=(by omega);have n55:R.B+5≠g2:=(by omega);have hclI:(t:Int)<c0.length:=(by omega);have hclJ:(c0.length:Int)≤36:=(by omega);have hc5:(c0[t]:Int)≤500:=(by omega);have hokI:σ.ok=true:=hok;have hr4:eF R N2 ((W2.setCell ⟨g2,t,none⟩ (.int .i64 (c0[t]+1))).setCell ⟨R.B+5,0,none⟩ (.bool ok1)) vo (.slice (some ⟨g2,0,none⟩) c0.length cc2) ⟨σ.out,bump σ.counts t,ok1⟩:=by rw[←hcb];exact Rt
  have HR4:=zh hr4;have HG4:=zh (hg2.trans (hg3.trans hg4));have HOK1:=zh hok1;clear hr2 hr3 hr4 Rt hg2 hg3 hg4;go_upto_region 5 with fail
  generalize ((W2.setCell ⟨g2,t,none⟩ (.int .i64 (c0[t]+1))).setCell ⟨R.B+5,0,none⟩ (.bool ok1))=W4 at HR4 HG4 ⊢;generalize (Value.slice (some ⟨g2,0,none⟩) c0.length cc2)=vc4 at HR4 ⊢;clear e4 f4 e5 f5 z2 hgB n45 n55 hcell hfz hg2z W2;have Ru:(σ.ok && decide ((bump σ.counts t).getD t 0≤500))=ok1:=by
   rw[hok,←HOK1.out,←hcb];simp[hcl];omega
  have Rw:=zh Ru;obtain⟨st,hst⟩:∃st:Bool,decide (R.lo≤(t:Int))=st:=⟨_,rfl⟩;obtain⟨lz,hlz⟩:∃lz:Bool,R.lazy=lz:=⟨_,rfl⟩;have e22:W4.cell? ⟨R.B+2,2,none⟩=some (.int .i64 R.lo):=HR4.out.b2.cell 2;have e24:W4.cell? ⟨R.B+2,4,none⟩=some (.bool lz):=hlz ▸ HR4.out.b2.cell 4;have z22:=HR4.out.b2.lt;have HLZ:=zh hlz;clear Ru hlz;go_upto_region 6 with fail
  go_cut [45] (fun s45 wx=>s45= .bool (st && lz)∧wx=W4)
  case first=>
   cases st<;>cases lz<;>(go_wp2_with fail;go_meet;exact⟨rfl,rfl⟩)
  case rest=>
   obtain⟨rfl,rfl⟩:=hcut
   rename World=>W4
   go_upto_if 45 with fail
   go_cut [] (fun wx=>∃N5 vo5,eF R N5 wx vo5 vc4 (dS (st && lz) x ⟨σ.out,bump σ.counts t,ok1⟩)∧Goes R N W1 N5 wx)
   case first=>
    cases hb:(st && lz)
    ·go_wp2_with fail
     go_meet
     have hr6:eF R N2 W4 vo vc4 (dS (st && lz) x ⟨σ.out,bump σ.counts t,ok1⟩):=by rw[hb];exact HR4.out
     exact⟨N2,vo,hr6,HG4.out⟩
    ·obtain⟨cs,hcs1,hcs2⟩:=HR4.out.out;obtain⟨oo,co,rfl⟩:=ay hcs1;obtain⟨e3,f3⟩:=HR4.out.b3.one;have z3:=HR4.out.b3.lt;have hB9:=HG4.out.blk HR1.out.at_ HB9.out hN9;obtain⟨e90,e91,-,-⟩:=hB9.two;have z9:=hB9.lt;have hS4:=((HG1.out.trans HG4.out).spans HR.out.at_ HS.out);have hb5:Below W4.heap.size W4 (W4.alloc (.cells #[.int .i64 x.stop,.slice so x.spans.length sc] 43)):=zR.alloc zL _;have HB5:=zh hb5;have HR5:=zh (HR4.out.below hb5);have HC5:=zh (hcs2.go (zK hb5) (fun _ _ hn=>⟨id,hn⟩));have HS5:=zh ((Goes.below (R:=R) (N:=N2) hb5).spans HR4.out.at_ hS4);have HO5:=zh (aB hcs1 (zK hb5) (fun _ _=>id));have jG:=zh (yY (w:=W4) (st:=x.stop) (sv:= .slice so x.spans.length sc));obtain⟨i0,hi,hz0,hz1,hz2⟩:=info_parts rJ;have ho5:=HF.out.out;have ng:σ.out.length+1≤maxLen:=by unfold maxLen;omega
     have lM:(σ.out.length+1)*32≤140737488355328:=(by omega);have hbase:R.B+7≤(W4.alloc (.cells #[.int .i64 x.stop,.slice so x.spans.length sc] 43)).heap.size:=HR5.out.size;clear hB9 hS4 hb5 hcs1 hcs2
     go_wp2_with (first|(at_builtin;refine aA rfl _ _ 38 rfl Tryz.underlying38 hi hz0 hz1 hz2 rfl (.slice oo σ.out.length co) σ.out.length _ rfl HO5.out _ 1 _ rfl jG.out rfl (by simp[Value.oneCell']) ng lM hbase ?_;intro v7 w7 bQ fZ h37 h47;obtain⟨ov,cv,rfl⟩:=ay bQ;have HO7:=zh bQ;have HG7:=zh fZ;have HV7:=zh h37;obtain⟨q3,r3⟩:=(HR5.out.b3g fZ).one;clear bQ fZ))
     go_meet
     obtain⟨hr8,hg8⟩:=HR5.out.Ey HC5.out HS5.out hxl HXG.out HO7.out HG7.out HV7.out;have FZ:=HG4.out.trans ((Goes.below HB5.out).trans hg8);refine⟨_,.slice ov (σ.out.length+1) cv,?_,FZ⟩;rw[hb];exact hr8
   case rest=>
    rename World=>W5
    obtain⟨N5,vo5,hr5,hg5⟩:=hcut;have hF1:jM (t+1) 501 (dS (st && lz) x (⟨σ.out,bump σ.counts t,ok1⟩:Fs Wy.Way)):=by
     have h1:=HF.out.bump (by omega) hok;rw[Rw.out] at h1;exact(h1.fin _ _).mono zL (Nat.le_refl 501)
    have heq:=follow_eq (ak R.C.G) (fun q=>R.C.wy s grp q) R.lo R.hi R.lazy k x t σ hst HLZ.out Rw.out;have EC:(dS (st && lz) x (⟨σ.out,bump σ.counts t,ok1⟩:Fs Wy.Way)).ok=ok1:=by rw[iV]
    generalize (dS (st && lz) x (⟨σ.out,bump σ.counts t,ok1⟩:Fs Wy.Way))=σ1 at hr5 hF1 heq EC;have HR5:=zh hr5;have HG5:=zh hg5;have HF1:=zh hF1;have HEQ:=zh heq;have e5:W5.cell? ⟨R.B+5,0,none⟩=some (.bool ok1):=EC ▸ hr5.b5.cell 0;obtain⟨hi,Py⟩:∃hi,R.hi=hi:=⟨_,rfl⟩;have e23:W5.cell? ⟨R.B+2,3,none⟩=some (.int .i64 hi):=Py ▸ hr5.b2.cell 3;have z2:=hr5.b2.lt;have HHI:=zh Py;have IL:=zh EC;clear hr5 hg5 hF1 heq EC Py e22 e24 z22;go_upto_region 8 with fail
    go_cut [61] (fun s61 wx=>s61= .bool (ok1 && (decide (hi= -1) || decide ((t:Int)<hi)))∧wx=W5)
    case first=>
     cases ok1
     ·go_wp2_with fail
      go_meet
      exact⟨rfl,rfl⟩
     ·by_cases h1:hi= -1
      ·subst h1
       go_wp2_with fail
       go_meet
       exact⟨rfl,rfl⟩
      ·have h1b:(hi == -1)=false:=by simpa using h1
       by_cases h2:(t:Int)<hi
       ·go_wp2_with fail
        go_meet
        exact⟨by simp[h2],rfl⟩
       ·have h2b:decide ((t:Int)<hi)=false:=by simpa using h2
        go_wp2_with fail
        go_meet
        exact⟨by simp[h1,h2],rfl⟩
    case rest=>
     obtain⟨rfl,rfl⟩:=hcut
     rename World=>W5
     obtain⟨cont,hcont⟩:∃cont:Bool,(ok1 && (decide (hi= -1) || decide ((t:Int)<hi)))=cont:=⟨_,rfl⟩;have heq:=HEQ.out;rw[HHI.out,hcont] at heq;clear HEQ;have HEQ:=zh heq;clear heq
     go_upto_if 61 with fail
     rw[hcont]
     go_cut [] (fun wx=>∃N6 vo6 vc6 σ6,eF R N6 wx vo6 vc6 σ6∧Goes R N W1 N6 wx∧jM (t+1) (502+k) σ6∧Wy.follow (ak R.C.G) (fun q=>R.C.wy s grp q) R.lo R.hi R.lazy (k+1) x t σ=dS (st && !lz) x σ6)
     case first=>
      cases cont
      ·go_wp2_with fail
       go_meet
       exact⟨N5,vo5,vc4,σ1,HR5.out,HG5.out,HF1.out.mono zL (by omega),by have:=HEQ.out;rw[HHI.out];simpa using this⟩
      ·have Rx:ok1=true:=by cases ok1 with
        |true=>rfl
        |false=>simp at hcont
       subst Rx;have hP5:=(HG1.out.trans HG5.out).part HR.out.at_ HP.out;obtain⟨sv5,uv5,pv5,ps5,B5,hNb5,-,-,-,-,-,OA,ED⟩:=oC hP5;obtain⟨pb,po,pc,rfl,LQ,O6,FT,FU,IM⟩:=jY OA ED (by simp);obtain⟨sb,hsb,ug⟩:=IM 0 (by simp);simp only[List.getElem_cons_zero,List.take_zero,aF,aj,Nat.add_zero,show¬((5:Int)=6) by omega,if_false] at hsb ug;have Ry:(1:Int)≤pc:=by simp at LQ;omega
       have q8:W5.cell? ⟨R.b,8,none⟩=some (.slice (some ⟨pb,po,none⟩) 1 pc):=B5.cell 8;have zb:=B5.lt;have hb9:=HG5.out.blk HR1.out.at_ HB9.out hN9;have hdr:Below W5.heap.size W5 W5.drew:=zR.drew;have hcall:=HSP.out.any (HR5.out.at_.below hdr) ((Goes.below (R:=R) (N:=N5) hdr).part HR5.out.at_ ug) ht hg hxl;obtain⟨o,ho⟩:∃o,o=R.C.wy s grp x.stop:=⟨_,rfl⟩;rw[←ho] at hcall;have heq:Wy.follow (ak R.C.G) (fun q=>R.C.wy s grp q) R.lo hi R.lazy (k+1) x t σ=(let q:=dA (fun v σ=>Wy.follow (ak R.C.G) (fun q=>R.C.wy s grp q) R.lo hi R.lazy k ((ak R.C.G).thn x v) (t+1) σ) (o.getD []) {σ1 with ok:=o.isSome}
         if q.2 then q.1 else dS (st && !lz) x q.1):=by
        rw[HEQ.out,if_pos rfl,IL.out,Bool.true_and,ho]
        rfl
       clear HEQ;have HEQ:=zh heq;have HO:=zh ho;have aS:=zh hcall;have HSB:=zh hsb;have HB5:=zh B5;have HB95:=zh hb9;obtain⟨fine,gX⟩:∃fine,fine=o.isSome:=⟨_,rfl⟩;obtain⟨more,hmore⟩:∃more,more=o.getD []:=⟨_,rfl⟩;rw[←gX,←hmore] at aS HEQ;have HFINE:=zh gX;have Bh:=zh hmore;obtain⟨b60,-⟩:=HR5.out.b0.one;obtain⟨b71,-⟩:=HR5.out.b1.one;have z60:=HR5.out.b0.lt;have z71:=HR5.out.b1.lt;obtain⟨b90,b91,-,-⟩:=hb9.two;have z90:=hb9.lt;clear heq ho hcall ug B5 hb9 IM ED OA hP5 gX hmore e5 e23 z2;go_upto_region 9 with fail
       apply aJ ?hm ?hok [0,1,2,3,4,5,6,7,8,9,10,11,12,13,14] [9] [10,11,12,13,14] ?hord (fun w'=>w'=W5.drew) (folW R N5 W5 more fine)
       case hm=>rfl
       case hok=>kernel_rfl
       case hord=>kernel_rfl
       case hb=>
        intro L w' h hl
        match L with
        |[]=>exact h
        |_::_=>simp at hl
       case hw=>rfl
       case h=>
        iterate 9
         apply ae _ rfl rfl rfl rfl
         case h=>
          intro W1 hW K hK
          (obtain rfl:=hW)
          go_wp2_with fail
          exact hK
         simp only[zP,zQ,zB,zC]
        apply ax rfl rfl rfl
        case h=>
         intro W8 hW K hK;obtain rfl:W8=W5.drew:=hW
         go_wp2_with (go_at_call 43;refine(aS.out).mono ?_;rintro e w' ⟨a8,c8,rfl,hk8,hA8,hW8⟩)
         exact⟨a8,c8,rfl,(Kept.of_below (zR.drew) _).trans hk8,hA8,hW8⟩
        intro v8 hv8;obtain⟨_,a8,c8,rfl,-⟩:∃(w':World) (a:Option Addr) (c:Nat),v8= .tuple #[.slice a more.length c,.bool fine]∧Kept (fun b=>b=R.C.mb) W5 w'∧At R.C N5 w'∧aI N5 w' R.C.G R.C.s.size (.slice a more.length c) more:=hv8;simp only[zP,zQ,zB,zC];iterate 5
         apply ag _ rfl rfl rfl rfl
         case h=>
          intro W1 hW K hK
          go_wp2_with fail
          exact hK
         simp only[zP,zQ,zB,zC]
        refine aG fun W8 h8=> ?_
        obtain⟨a8',c8',he8,hk8,hA8,hW8⟩:=h8;simp only[Value.tuple.injEq,Array.mk.injEq,List.cons.injEq,Value.slice.injEq,true_and,and_true] at he8;obtain⟨rfl,rfl⟩:=he8;obtain⟨hr9,hg9⟩:=(HR5.out.memo hk8 hA8).Ov fine;obtain⟨e95,f95⟩:=(HR5.out.memo hk8 hA8).b5.one;rw[IL.out] at e95;have z95:=(HR5.out.memo hk8 hA8).b5.lt;have HR9:=zh hr9;have HG9:=zh (HG5.out.trans ((Goes.memo hk8).trans hg9));have HW9:=zh (hg9.ways (HR5.out.memo hk8 hA8).at_ hW8);clear hr9 hg9 hk8 hA8 hW8;go_upto_region 11 with fail
        generalize (W8.setCell ⟨R.B+5,0,none⟩ (.bool fine))=W9 at HR9 HG9 HW9 ⊢;have hml:more.length≤500:=by
         rw[Bh.out];cases e:o with
         |none=>simp
         |some l=>exact fV (HO.out.symm.trans e)
        have hmlI:(more.length:Int)≤500:=(by omega);obtain⟨gF,hgF⟩:∃gF,gF=fun v σ=>Wy.follow (ak R.C.G) (fun q=>R.C.wy s grp q) R.lo hi R.lazy k ((ak R.C.G).thn x v) (t+1) σ:=⟨_,rfl⟩
        have heq:=HEQ.out;rw[←hgF] at heq;clear HEQ;have HEQ:=zh heq;have HGF:=zh hgF;have hF2:jM (t+1) (502+k) ({σ1 with ok:=fine}:Fs Wy.Way):=by
         have h1:=HF1.out;exact⟨h1.long,h1.short,h1.counts,fun _=>h1.ok IL.out,Nat.le_trans h1.out (by omega)⟩
        have HF2:=zh hF2;clear heq hgF hF2 e95 f95 z95
        go_wp2_with fail
        go_loopw [81] (fun i wx=>∃(p:Nat) (N6:Nat→Prop) (vo6 vc6:Value) (σp:Fs Wy.Way),p≤more.length∧i= .int .i64 p∧eF R N6 wx vo6 vc6 σp∧Goes R N5 W9 N6 wx∧jM (t+1) (502+k) σp∧dA gF more {σ1 with ok:=fine}=dA gF (more.drop p) σp) (fun i _=>more.length-(intOf i).toNat)
        case atStart=>exact⟨0,N5,vo5,vc4,_,by omega,rfl,HR9.out,Goes.refl _ _ _,HF2.out,by rw[List.drop_zero]⟩
        case round=>
         rename World=>Wa
         obtain⟨p,N6,vo6,vc6,σp,hp,rfl,hrp,hgp,hfp,hlp⟩:=hrel;obtain⟨cso,hso,-⟩:=hrp.out;obtain⟨oo6,co6,rfl⟩:=ay hso;have HRP:=zh hrp;have HGP:=zh hgp;have HFP:=zh hfp;have HLP:=zh hlp;have HG6:=zh (HG1.out.trans (HG9.out.trans hgp));have hol:(σp.out.length:Int)≤600:=by have:=hfp.out;omega
         clear hrp hgp hfp hlp hso;by_cases hpm:p<more.length
         ·obtain⟨lb,off,cap,he,hcap,hmax,hNlb,IC,hlc⟩:=(HGP.out.ways HR9.out.at_ HW9.out).cells (by omega);simp only[Value.slice.injEq] at he;obtain⟨rfl,-,rfl⟩:=he;obtain⟨svy,hy0,hy1,hys,hyl,hyG⟩:=hlc p hpm;obtain⟨y,hy⟩:∃y,y=more[p]:=⟨_,rfl⟩;rw[←hy] at hy0 hys hyl hyG;obtain⟨sy,scy,rfl⟩:=hys.row.slice;have HY:=zh hy;have HYS:=zh hys;have HYG:=zh hyG;have hpmI:(p:Int)<more.length:=(by omega);have CV:(more.length:Int)≤c8:=(by omega);obtain⟨r5,-⟩:=HRP.out.b5.one;obtain⟨r3,-⟩:=HRP.out.b3.one;have z5:=HRP.out.b5.lt;have z3:=HRP.out.b3.lt;clear hlc hys hy hyG;have hstep:dA gF (more.drop p) σp=if(!σp.ok || decide (500<σp.out.length))=true then(σp,true) else dA gF (more.drop (p+1)) (gF y σp):=by
           rw[List.drop_eq_getElem_cons hpm,dA,←HY.out]
          have vV:=zh hstep;clear hstep;by_cases hgo:σp.ok=true∧σp.out.length≤500
          ·obtain⟨LZ,hlenp⟩:=hgo;rw[LZ] at r5;have Oz:(σp.out.length:Int)≤500:=(by omega);go_upto_region 15 with fail
           have hbA:Below Wa.heap.size Wa (Wa.alloc (.cells #[.int .i64 y.stop,.slice sy y.spans.length scy] 43)):=zR.alloc zL _;have Pz:Blk (Wa.alloc (.cells #[.int .i64 y.stop,.slice sy y.spans.length scy] 43)) Wa.heap.size #[.int .i64 y.stop,.slice sy y.spans.length scy] 43:=Blk.new _ _ _;have hrb:=HRP.out.below hbA;have hgb:Goes R N5 W9 N6 (Wa.alloc (.cells #[.int .i64 y.stop,.slice sy y.spans.length scy] 43)):=HGP.out.trans (Goes.below hbA);have hyb:aC N6 (Wa.alloc (.cells #[.int .i64 y.stop,.slice sy y.spans.length scy] 43)) (.slice sy y.spans.length scy) y.spans:=(Goes.below (R:=R) (N:=N6) hbA).spans HRP.out.at_ HYS.out;have hzb:(Wa.alloc (.cells #[.int .i64 y.stop,.slice sy y.spans.length scy] 43)).heap.size=Wa.heap.size+1:=by simp
           generalize (Wa.alloc (.cells #[.int .i64 y.stop,.slice sy y.spans.length scy] 43))=Wb at Pz hrb hgb hyb hzb ⊢;have Rz:=(HG9.out.trans hgb).blk HR1.out.at_ HB9.out hN9;have hxb:=(HG1.out.trans (HG9.out.trans hgb)).spans HR.out.at_ HS.out;have hdr:Below Wb.heap.size Wb Wb.drew:=zR.drew;have hth:=Be (we:=x.stop) (ve:=y.stop) ((Goes.below (R:=R) (N:=N6) hdr).spans hrb.at_ hxb) ((Goes.below (R:=R) (N:=N6) hdr).spans hrb.at_ hyb) (by rw[HXG.out,HYG.out]) (hrb.at_.below hdr).none;have hfu2:(dN s=1∧t+1≤y.stop)∨(0≤R.hi∧R.hi≤1∧t+1≤1):=by
            rcases hfu with⟨h1,h2⟩|⟨h1,h2,h3⟩
            ·refine .inl ⟨h1,?_⟩;have hym:y∈more:=by rw[HY.out];exact List.getElem_mem hpm
             cases e:o with
             |none=>rw[Bh.out,e] at hym;simp at hym
             |some l=>
              rw[Bh.out,e] at hym;have:=uQ (sV R.C.G) (aN R.C.s) s hfit.shaped grp x.stop l (HO.out.symm.trans e) y hym;rw[h1] at this;exact Nat.le_trans (Nat.succ_le_succ h2) this
            ·refine .inr ⟨h1,h2,?_⟩;have hc:=hcont;rw[HHI.out] at h1 h2;simp at hc;omega
           have hrec:∀(w5:World) (sv5:Value),Below Wb.heap.size Wb w5→aC N6 w5 sv5 (thenS x.spans y.spans)→Calls Tryz.prog 92 #[.agg #[.int .i64 y.stop,sv5],.int .i64 ((t:Int)+1),.pointer (some ⟨R.B+4,0,none⟩),.pointer (some ⟨R.B+5,0,none⟩),.pointer (some ⟨R.B+2,0,none⟩),.pointer (some ⟨R.B+3,0,none⟩),.pointer (some ⟨R.B,0,none⟩),.pointer (some ⟨R.B+1,0,none⟩),.pointer (some ⟨R.B+6,0,none⟩)] w5 (Flw R N6 w5 (gF y σp)):=by
            intro w5 sv5 hb5 hs5;have hpt:=(HG1.out.trans (HG9.out.trans (hgb.trans (Goes.below (R:=R) (N:=N6) hb5)))).part HR.out.at_ HP.out;have:=HIH.out N6 w5 _ _ sv5 σp ⟨y.stop,thenS x.spans y.spans⟩ (t+1) (by omega) (hrb.below hb5) hpt hs5 (by rw[dY (by rw[HXG.out,HYG.out])];exact HYG.out) hyl LZ ⟨HFP.out.long,HFP.out.short,HFP.out.counts,HFP.out.ok,hlenp⟩ hfu2;rw[show((t+1:Nat):Int)=(t:Int)+1 by omega,HHI.out] at this;rw[HGF.out];exact this
           have hfs:jM (t+1) (502+k) (gF y σp):=by
            rw[HGF.out];exact(xB (ak R.C.G) (fun q=>R.C.wy s grp q) R.lo hi R.lazy k _ (t+1) σp (by omega) LZ ⟨HFP.out.long,HFP.out.short,HFP.out.counts,HFP.out.ok,hlenp⟩).mono (by split<;>omega) zL
           have HTH:=zh hth;have PD:=zh hrec;have HFS:=zh hfs;have RD:=zh Pz;have RF:=zh Rz;have HRB:=zh hrb;have HGB:=zh hgb;have HXB:=zh hxb;have HYB:=zh hyb;clear hth hrec hfs Pz Rz hrb hgb hxb hyb hzb hdr hbA r5 r3 z5 z3;apply aJ ?hm ?hok [0,1,2,4,5,3,6] [3,6] [] ?hord (fun w'=>Below Wb.heap.size Wb w') (folV R N6 Wb y.stop (thenS x.spans y.spans) (gF y σp))
           case hm=>rfl
           case hok=>kernel_rfl
           case hord=>kernel_rfl
           case hb=>
            intro L w' h hl
            match L with
            |[]=>obtain rfl:w'=Wb.drew:=h;exact zR.drew
            |[_]=>exact h.1
            |_::_::_=>
             exfalso;rw[show(List.filter (fun j=>[3,6].contains j) [0,1,2,4,5,3,6]).length=2 by decide] at hl;simp only[List.length_cons] at hl;omega
           case hw=>rfl
           case h=>
            apply ae _ rfl rfl rfl rfl
            case h=>
             intro W1 hW K hK
             (have b6:=HRB.out.b6.below hW HRB.out.b6.lt;obtain⟨b60,-⟩:=b6.one;have z6:=b6.lt;simp only[Rc.caps] at b60)
             go_wp2_with fail
             exact hK
            simp only[zP,zQ,zB,zC];apply ae _ rfl rfl rfl rfl
            case h=>
             intro W1 hW K hK
             (have b9:=RF.out.below hW RF.out.lt;obtain⟨b90,b91,-,-⟩:=b9.two;have z9:=b9.lt)
             go_wp2_with fail
             exact hK
            simp only[zP,zQ,zB,zC];apply ae _ rfl rfl rfl rfl
            case h=>
             intro W1 hW K hK
             (have b15:=RD.out.below hW RD.out.lt;obtain⟨b150,b151,-,-⟩:=b15.two;have z15:=b15.lt)
             go_wp2_with fail
             exact hK
            simp only[zP,zQ,zB,zC];apply ae _ rfl rfl rfl rfl
            case h=>
             intro W1 hW K hK
             go_wp2_with fail
             exact hK
            simp only[zP,zQ,zB,zC];apply ae _ rfl rfl rfl rfl
            case h=>
             intro W1 hW K hK
             go_wp2_with fail
             exact hK
            simp only[zP,zQ,zB,zC];apply ax rfl rfl rfl
            case h=>
             intro W10 hW K hK;obtain rfl:W10=Wb.drew:=hW
             go_wp2_with (go_at_call 91;refine(HTH.out).mono ?_;rintro e w' ⟨v',rfl,hown,hb⟩;obtain⟨ov,cv,rfl⟩:=ay hown)
             exact⟨(zR.drew).trans hb,ov,cv,rfl,HXB.out.thn HYB.out (by rw[HXG.out,HYG.out]) hown (fun q hq _=>HRB.out.at_.new q hq)⟩
            intro v10 AV;obtain⟨_,-,ov,cv,rfl,-⟩:∃w',Below Wb.heap.size Wb w'∧∃o c,v10= .agg #[.int .i64 y.stop,.slice o (thenS x.spans y.spans).length c]∧aC N6 w' (.slice o (thenS x.spans y.spans).length c) (thenS x.spans y.spans):=AV;simp only[zP,zQ,zB,zC];apply ax rfl rfl rfl
            case h=>
             intro W10 hW K hK;obtain⟨wU,ov',cv',he,hs10⟩:=hW;simp only[Value.agg.injEq,Array.mk.injEq,List.cons.injEq,Value.slice.injEq,true_and,and_true] at he;obtain⟨rfl,rfl⟩:=he;have HCR:=zh (PD.out W10 _ wU hs10);clear hs10
             go_wp2_with (go_at_call 92;refine(HCR.out).mono ?_;rintro e w' ⟨rfl,N',vo',vc',hr',hg'⟩)
             exact⟨N',vo',vc',hr',(Goes.below wU).trans hg'⟩
            intro v11 hv11;simp only[zP,zQ,zB,zC];refine aG fun W11 h11=> ?_
            obtain⟨N',vo',vc',hr',hg'⟩:=h11;have HR':=zh hr';have HG':=zh (HGB.out.trans hg');clear hr' hg'
            go_wp2_with fail
            go_roundw
            case rel=>
             refine⟨p+1,N',vo',vc',gF y σp,by omega,by go_num,HR'.out,HG'.out,HFS.out,?_⟩;rw[HLP.out,vV.out,if_neg (by simp[LZ];omega)]
            case measure=>simp[intOf];omega
          ·have hbad:(!σp.ok || decide (500<σp.out.length))=true:=by
            cases e:σp.ok with
            |false=>rfl
            |true=>simpa using Nat.lt_of_not_le (fun h=>hgo ⟨e,h⟩)
           have hfin:Wy.follow (ak R.C.G) (fun q=>R.C.wy s grp q) R.lo R.hi R.lazy (k+1) x t σ=σp:=by
            have h1:=HEQ.out;rw[HLP.out,vV.out,if_pos hbad] at h1;rw[HHI.out];exact h1
           have bW:=zh hfin;clear hfin;have hbA:Below Wa.heap.size Wa (Wa.alloc (.cells #[.int .i64 y.stop,.slice sy y.spans.length scy] 43)):=zR.alloc zL _;have HBA:=zh hbA;have hend:Flw R N w (Wy.follow (ak R.C.G) (fun q=>R.C.wy s grp q) R.lo R.hi R.lazy (k+1) x t σ) (.returned (.tuple #[])) (Wa.alloc (.cells #[.int .i64 y.stop,.slice sy y.spans.length scy] 43)):=by
            rw[bW.out];exact⟨rfl,_,_,_,HRP.out.below hbA,HG6.out.trans (Goes.below hbA)⟩
           have dL:=zh hend;clear hbA hend;cases hpo:σp.ok with
           |false=>
            rw[hpo] at r5
            go_wp2_with fail
            exact bodyPost_ret (v:= .tuple #[]) (by simp[results,Tryz.results92,go_sem]) rfl dL.out
           |true=>
            rw[hpo] at r5;have hlong:(500:Int)<σp.out.length:=by
             have:=Nat.lt_of_not_le (fun h=>hgo ⟨hpo,h⟩);omega
            go_wp2_with fail
            exact bodyPost_ret (v:= .tuple #[]) (by simp[results,Tryz.results92,go_sem]) rfl dL.out
         ·obtain rfl:p=more.length:=by omega
          go_wp2_with fail
          go_meet
          have hfin:Wy.follow (ak R.C.G) (fun q=>R.C.wy s grp q) R.lo R.hi R.lazy (k+1) x t σ=dS (st && !lz) x σp:=by
           have h1:=HEQ.out;rw[HLP.out,List.drop_length,dA] at h1;rw[HHI.out]
           simpa using h1
          exact⟨N6,_,vc6,σp,HRP.out,HG9.out.trans HGP.out,HFP.out,hfin⟩
     case rest=>
      rename World=>W6
      obtain⟨N6,vo6,vc6,σ6,hr6,hg6,hf6,RG⟩:=hcut;have e24:W6.cell? ⟨R.B+2,4,none⟩=some (.bool lz):=HLZ.out ▸ hr6.b2.cell 4;have z22:=hr6.b2.lt;have HR6:=zh hr6;have HG6:=zh hg6;have RH:=zh RG;have ho6:σ6.out.length≤600:=by have:=hf6.out;omega
      clear hr6 hg6 hf6 RG;go_upto_region 17 with fail
      go_cut [105] (fun s105 wx=>s105= .bool (st && !lz)∧wx=W6)
      case first=>
       cases st<;>cases lz<;>(go_wp2_with fail;go_meet;exact⟨rfl,rfl⟩)
      case rest=>
       obtain⟨rfl,rfl⟩:=hcut
       rename World=>W6
       cases hb:(st && !lz)
       ·have hend:Flw R N w (Wy.follow (ak R.C.G) (fun q=>R.C.wy s grp q) R.lo R.hi R.lazy (k+1) x t σ) (.returned (.tuple #[])) W6:=by
         rw[RH.out,hb];exact⟨rfl,_,_,_,HR6.out,HG1.out.trans HG6.out⟩
        have dL:=zh hend;clear hend
        go_wp2_with fail
        exact bodyPost_ret (v:= .tuple #[]) (by simp[results,Tryz.results92,go_sem]) rfl dL.out
       ·obtain⟨cs,hcs1,hcs2⟩:=HR6.out.out;obtain⟨oo,co,rfl⟩:=ay hcs1;obtain⟨e3,f3⟩:=HR6.out.b3.one;have z3:=HR6.out.b3.lt;have hB9:=HG6.out.blk HR1.out.at_ HB9.out hN9;obtain⟨e90,e91,-,-⟩:=hB9.two;have z9:=hB9.lt;have hS4:=((HG1.out.trans HG6.out).spans HR.out.at_ HS.out);have hb5:Below W6.heap.size W6 (W6.alloc (.cells #[.int .i64 x.stop,.slice so x.spans.length sc] 43)):=zR.alloc zL _;have HB5:=zh hb5;have HR5:=zh (HR6.out.below hb5);have HC5:=zh (hcs2.go (zK hb5) (fun _ _ hn=>⟨id,hn⟩));have HS5:=zh ((Goes.below (R:=R) (N:=N6) hb5).spans HR6.out.at_ hS4);have HO5:=zh (aB hcs1 (zK hb5) (fun _ _=>id));have jG:=zh (yY (w:=W6) (st:=x.stop) (sv:= .slice so x.spans.length sc));obtain⟨i0,hi0,hz0,hz1,hz2⟩:=info_parts rJ;have ng:σ6.out.length+1≤maxLen:=by unfold maxLen;omega
        have lM:(σ6.out.length+1)*32≤140737488355328:=(by omega);have hbase:R.B+7≤(W6.alloc (.cells #[.int .i64 x.stop,.slice so x.spans.length sc] 43)).heap.size:=HR5.out.size;clear hB9 hS4 hb5 hcs1 hcs2
        go_wp2_with (first|(at_builtin;refine aA rfl _ _ 38 rfl Tryz.underlying38 hi0 hz0 hz1 hz2 rfl (.slice oo σ6.out.length co) σ6.out.length _ rfl HO5.out _ 1 _ rfl jG.out rfl (by simp[Value.oneCell']) ng lM hbase ?_;intro v7 w7 bQ fZ h37 h47;obtain⟨ov,cv,rfl⟩:=ay bQ;have HO7:=zh bQ;have HG7:=zh fZ;have HV7:=zh h37;obtain⟨q3,r3⟩:=(HR5.out.b3g fZ).one;clear bQ fZ))
        obtain⟨hr8,hg8⟩:=HR5.out.Ey HC5.out HS5.out hxl HXG.out HO7.out HG7.out HV7.out;have FZ:=HG1.out.trans (HG6.out.trans ((Goes.below HB5.out).trans hg8));refine bodyPost_ret (v:= .tuple #[]) (by simp[results,Tryz.results92,go_sem]) rfl ?_;rw[RH.out,hb];exact⟨rfl,_,_,_,hr8,FZ⟩
theorem EE {R:Rc} (hC:R.C.Ok) {set:List Rg} {s:Nd} {num grp:Nat} (hsp:fA R.C s) (hfit:Fit s) (ht:mF R.C.T s (num+1) grp) (hg:grp+opened s≤R.C.G) (hlo:0≤R.lo∧R.lo≤1000) (hhi: -1≤R.hi∧R.hi≤1000) (jQ:(Wy.look s).ah=true→0≤R.hi∧R.hi≤1):
  ∀k,zg R s grp (fun N w=>aX N w (.mk 5 set R.lo R.hi R.lazy [s]) num grp R.b) k
 |0=>by
  intro N w vo vc sv σ x t htk hR hP hS hxG hxl hok hF hfu;exfalso;have:=hC.len;omega
 |k+1=>IK hC hsp hfit ht hg hlo hhi jQ k (EE hC hsp hfit ht hg hlo hhi jQ k)
def wV (R:Rc) (w:World):World:=
 ((((((w.alloc (.cells #[.pointer (some ⟨R.C.m,0,none⟩)] 102)).alloc (.cells #[.pointer (some ⟨R.b,0,none⟩)] 106)).alloc (.cells #[.int .u8 5,R.sv,.int .i64 R.lo,.int .i64 R.hi,.bool R.lazy,R.uv] 27)).alloc
  (.cells #[.slice none 0 0] 38)).alloc (.cells #[.slice none 0 0] 48)).alloc (.cells #[.bool true] 4)).alloc (.cells #[.func (.func 92) #[] R.caps] 168)
theorem xU (R:Rc) (w:World):(wV R w).heap.size=w.heap.size+7:=by unfold wV;simp
theorem vW (R:Rc) (w:World):Below w.heap.size w (wV R w):=by
 unfold wV;have h0:=Below.refl w.heap.size w;exact((((((h0.alloc zL _).alloc (by simp) _).alloc (by simp;omega) _).alloc (by simp;omega) _).alloc (by simp;omega) _).alloc (by simp;omega) _).alloc (by simp;omega) _
theorem L6 {R:Rc} (h:At R.C N w) (hB:R.B=w.heap.size) (hN:∀b,N b→R.N0 b):
  eF R (fun q=>N q∧¬(q=R.B+3∨q=R.B+4∨q=R.B+5)) (wV R w) (.slice none 0 0) (.slice none 0 0) ⟨[],[],true⟩:=by
 have hA:At R.C (fun q=>N q∧¬(q=R.B+3∨q=R.B+4∨q=R.B+5)) (wV R w):=h.less (vW R w) (fun q=>q=R.B+3∨q=R.B+4∨q=R.B+5) (fun q hq=>by rw[xU];omega);have nn:∀i,N (R.B+i):=fun i=>h.new _ (by omega)
 refine⟨hA,fun q hq=>hN q hq.1,by rw[hB];exact h.CS,by rw[xU];omega,fun e=>e.2 (.inl rfl),fun e=>e.2 (.inr (.inl rfl)),fun e=>e.2 (.inr (.inr rfl)),⟨⟨nn 0,by omega⟩,⟨nn 1,by omega⟩,⟨nn 2,by omega⟩,⟨nn 6,by omega⟩⟩,
  ?_,?_,?_,?_,?_,?_,?_,⟨[],zN,rfl⟩,fun g hg=>by simp[Value.ownBlock] at hg,zN,fun g hg=>by simp[Value.ownBlock] at hg⟩<;>unfold wV
 ·exact((((((Blk.new' _ _ (by omega)).alloc _).alloc _).alloc _).alloc _).alloc _).alloc _
 ·exact(((((Blk.new' _ _ (by simp;omega)).alloc _).alloc _).alloc _).alloc _).alloc _
 ·exact((((Blk.new' _ _ (by simp;omega)).alloc _).alloc _).alloc _).alloc _
 ·exact(((Blk.new' _ _ (by simp;omega)).alloc _).alloc _).alloc _
 ·exact((Blk.new' _ _ (by simp;omega)).alloc _).alloc _
 ·exact(Blk.new' _ _ (by simp;omega)).alloc _
 ·exact Blk.new' _ _ (by simp;omega)
def rptW (R:Rc) (N7:Nat→Prop) (W7:World) (place:Int) (G:Nat) (σ:Fs Wy.Way):List Value→World→Prop
 |[]=>fun w'=>w'=W7.drew
 |[v]=>fun w'=>Below W7.heap.size W7 w'∧∃o c,v= .agg #[.int .i64 place,.slice o G c]∧aC N7 w' (.slice o G c) (List.replicate G (-1,-1))
 |[_,_]=>fun w'=>∃N' vo vc,eF R N' w' vo vc σ∧Goes R N7 W7 N' w'
 |_=>fun _=>False
theorem L8 {C:Cx} (hC:C.Ok) {set:List Rg} {lo hi:Int} {lazy:Bool} {s:Nd} {num grp b place:Nat} {N:Nat→Prop} {w:World} (h:At C N w) (hp:aX N w (.mk 5 set lo hi lazy [s]) num grp b)
  (ht:mF C.T (.mk 5 set lo hi lazy [s]) num grp) (hg:grp+opened s≤C.G) (hpl:place≤C.s.size) (hfit:Fit (.mk 5 set lo hi lazy [s])) (ih:fA C s):
  Calls Tryz.prog 70 #[.pointer (some ⟨C.m,0,none⟩),.pointer (some ⟨b,0,none⟩),.int .i64 place] w (Wys C N w (iY (ak C.G) (aN C.s) lo hi lazy [s] grp place)):=by
 obtain⟨sv,uv,pv,ps,B0,hNb,hk,hu,hlo,hhi,hset,hrow,hparts⟩:=oC hp;obtain⟨os,cs,rfl⟩:=hset.row.slice;obtain⟨ua,un,uc,rfl⟩:=hu;obtain⟨b0,b1,b2,b3,b4,b5⟩:w.cell? ⟨b,0,none⟩=some (.int .u8 5)∧w.cell? ⟨b,1,none⟩=some (.slice os set.length cs)∧w.cell? ⟨b,2,none⟩=some (.int .i64 lo)∧w.cell? ⟨b,3,none⟩=some (.int .i64 hi)∧w.cell? ⟨b,4,none⟩=some (.bool lazy)∧w.cell? ⟨b,5,none⟩=some (.slice ua un uc):=
  ⟨B0.cell 0,B0.cell 1,B0.cell 2,B0.cell 3,B0.cell 4,B0.cell 5⟩
 have hbz:=B0.lt;have htab:=oD ht;simp only[show¬((5:Int)=6) by omega,if_false,Nat.add_zero] at htab;rw[kS] at htab;have htab:=htab.1;have hsf:=hfit.subs s (by simp);have hkd:=hfit.kind;obtain⟨hlo2,hhi2,jQ⟩:(0≤lo∧lo≤1000)∧(-1≤hi∧hi≤1000)∧((Wy.look s).ah=true→0≤hi∧hi≤1):=by
  rcases hkd with h|h|h|h|⟨-,s',hs',h1,h2,h3,h4⟩|h
  ·omega
  ·omega
  ·omega
  ·omega
  ·simp only[List.cons.injEq,and_true] at hs';subst hs';exact⟨⟨h1,h2⟩,⟨by omega,by omega⟩,h4⟩
  ·omega
 have HP:=zh hp;have HA:=zh h;clear hkd h hp hrow hparts hset B0;go_enter Tryz.func70,Tryz.ntmps70
 obtain⟨R,hR⟩:∃R:Rc,R=⟨C,w.heap.size,N,b,.slice os set.length cs,.slice ua un uc,lo,hi,lazy⟩:=⟨_,rfl⟩;have hw7:wV R w=((((((w.alloc (.cells #[.pointer (some ⟨C.m,0,none⟩)] 102)).alloc (.cells #[.pointer (some ⟨b,0,none⟩)] 106)).alloc (.cells #[.int .u8 5,.slice os set.length cs,.int .i64 lo,.int .i64 hi,.bool lazy,.slice ua un uc] 27)).alloc
  (.cells #[.slice none 0 0] 38)).alloc (.cells #[.slice none 0 0] 48)).alloc (.cells #[.bool true] 4)).alloc (.cells #[.func (.func 92) #[] #[.pointer (some ⟨w.heap.size+1+1+1+1,0,none⟩),.pointer (some ⟨w.heap.size+1+1+1+1+1,0,none⟩),.pointer (some ⟨w.heap.size+1+1,0,none⟩),.pointer (some ⟨w.heap.size+1+1+1,0,none⟩),.pointer (some ⟨w.heap.size,0,none⟩),.pointer (some ⟨w.heap.size+1,0,none⟩),.pointer (some ⟨w.heap.size+1+1+1+1+1+1,0,none⟩)]] 168):=by rw[hR];rfl
 have HW7:=zh hw7;clear hw7;go_upto_region 7 with fail
 rw[←HW7.out];simp only[Nat.add_assoc,Nat.reduceAdd];have hAR:At R.C N w:=by rw[hR];exact HA.out
 have hr7:=L6 hAR (by rw[hR]) (fun q hq=>by rw[hR];exact hq);have hRB:R.B=w.heap.size:=by rw[hR]
 have qM:Goes R N w (fun q=>N q∧¬(q=R.B+3∨q=R.B+4∨q=R.B+5)) (wV R w):=⟨Kept.of_below (vW R w) _,fun q hq hn=>⟨hn,fun e=>by omega⟩⟩;have zi:=qM.part hAR HP.out;generalize hN7:(fun q=>N q∧¬(q=R.B+3∨q=R.B+4∨q=R.B+5))=N7 at hr7 qM zi;generalize wV R w=W7 at hr7 qM zi ⊢;have hst:=oq (place:=place) (hr7.at_.below zR.drew).maker (hr7.at_.below zR.drew).none (by rw[hR];have:=hC.G;show C.G≤64;omega)
 have RI:=EE (R:=R) (set:=set) (s:=s) (num:=num) (grp:=grp) (by rw[hR];exact hC) (by rw[hR];exact ih) hsf (by rw[hR];exact htab) (by rw[hR];exact hg) (by rw[hR];exact hlo2) (by rw[hR];exact hhi2) (by rw[hR];exact jQ) 36;have hpart:∀w5,Below W7.heap.size W7 w5→aX N7 w5 (.mk 5 set R.lo R.hi R.lazy [s]) num grp R.b:=fun w5 h5=>by
  have:=(Goes.below (R:=R) (N:=N7) h5).part hr7.at_ zi;rw[hR];exact this
 have hrec:∀(w5:World) (sv5:Value),Below W7.heap.size W7 w5→aC N7 w5 sv5 (List.replicate C.G (-1,-1))→Calls Tryz.prog 92 #[.agg #[.int .i64 place,sv5],.int .i64 0,.pointer (some ⟨w.heap.size+4,0,none⟩),.pointer (some ⟨w.heap.size+5,0,none⟩),.pointer (some ⟨w.heap.size+2,0,none⟩),.pointer (some ⟨w.heap.size+3,0,none⟩),.pointer (some ⟨w.heap.size,0,none⟩),.pointer (some ⟨w.heap.size+1,0,none⟩),.pointer (some ⟨w.heap.size+6,0,none⟩)] w5
   (Flw R N7 w5 (Wy.follow (ak C.G) (fun q=>C.wy s grp q) lo hi lazy 36 ((ak C.G).still place) 0 ⟨[],[],true⟩)):=by
  intro w5 sv5 hb5 hs5;have:=RI N7 w5 (.slice none 0 0) (.slice none 0 0) sv5 ⟨[],[],true⟩ ((ak C.G).still place) 0 rfl (hr7.below hb5) (hpart w5 hb5) hs5 (by rw[hR];simp[vN]) (by rw[hR];exact hpl) rfl ⟨by simp,by simp,by simp,by simp,by simp⟩ (by
   rw[hR];by_cases hn:(Wy.look s).ah=true
   ·exact .inr ⟨(jQ hn).1,(jQ hn).2,by omega⟩
   ·refine .inl ⟨?_,by omega⟩;unfold dN;rw[if_neg hn])
  subst hR;exact this
 obtain⟨σf,hσf⟩:∃σf,σf=Wy.follow (ak C.G) (fun q=>C.wy s grp q) lo hi lazy 36 ((ak C.G).still place) 0 ⟨[],[],true⟩:=⟨_,rfl⟩;rw[←hσf] at hrec;have hrep:iY (ak C.G) (aN C.s) lo hi lazy [s] grp place=if σf.ok && decide (σf.out.length≤500) then some σf.out else none:=by
  rw[iY,rep,hσf]
  rfl
 obtain⟨c6,c0⟩:(∀w5,Below W7.heap.size W7 w5→w5.cell? ⟨w.heap.size+6,0,none⟩=some (.func (.func 92) #[] #[.pointer (some ⟨w.heap.size+4,0,none⟩),.pointer (some ⟨w.heap.size+5,0,none⟩),.pointer (some ⟨w.heap.size+2,0,none⟩),.pointer (some ⟨w.heap.size+3,0,none⟩),.pointer (some ⟨w.heap.size,0,none⟩),.pointer (some ⟨w.heap.size+1,0,none⟩),.pointer (some ⟨w.heap.size+6,0,none⟩)])∧w.heap.size+6<w5.heap.size)∧
   (∀w5,Below W7.heap.size W7 w5→w5.cell? ⟨w.heap.size,0,none⟩=some (.pointer (some ⟨C.m,0,none⟩))∧w.heap.size<w5.heap.size):=by
  subst hR;exact⟨fun w5 h5=>⟨(hr7.b6.below h5 hr7.b6.lt).cell 0,(hr7.b6.below h5 hr7.b6.lt).lt⟩,fun w5 h5=>⟨(hr7.b0.below h5 hr7.b0.lt).cell 0,(hr7.b0.below h5 hr7.b0.lt).lt⟩⟩
 have hst:Calls Tryz.prog 66 #[.pointer (some ⟨C.m,0,none⟩),.int .i64 place] W7.drew (Stl place C.G W7.drew):=by
  subst hR;exact hst
 have HR7:=zh hr7;have Bj:=zh qM;have HST:=zh hst;have PD:=zh hrec;have PE:=zh hrep;have HC6:=zh c6;have HC0:=zh c0;have HRR:=zh hR;have HN7:=zh hN7;clear hr7 qM zi hst RI hpart hrec hrep c6 c0 hσf hR hRB hAR hN7;apply aJ ?hm ?hok [0,1,2,3,4] [3,4] [] ?hord (fun w'=>Below W7.heap.size W7 w') (rptW R N7 W7 place C.G σf)
 case hm=>rfl
 case hok=>kernel_rfl
 case hord=>kernel_rfl
 case hb=>
  intro L w' h hl
  match L with
  |[]=>obtain rfl:w'=W7.drew:=h;exact zR.drew
  |[_]=>exact h.1
  |_::_::_=>
   exfalso;rw[show(List.filter (fun j=>[3,4].contains j) [0,1,2,3,4]).length=2 by decide] at hl;simp only[List.length_cons] at hl;omega
 case hw=>rfl
 case h=>
  apply ae _ rfl rfl rfl rfl
  case h=>
   intro W1 hW K hK
   (obtain⟨q6,z6⟩:=HC6.out _ hW)
   go_wp2_with fail
   exact hK
  simp only[zP,zQ,zB,zC];apply ae _ rfl rfl rfl rfl
  case h=>
   intro W1 hW K hK
   (obtain⟨q0,z0⟩:=HC0.out _ hW)
   go_wp2_with fail
   exact hK
  simp only[zP,zQ,zB,zC];apply ae _ rfl rfl rfl rfl
  case h=>
   intro W1 hW K hK
   go_wp2_with fail
   exact hK
  simp only[zP,zQ,zB,zC];apply ax rfl rfl rfl
  case h=>
   intro W10 hW K hK;obtain rfl:W10=W7.drew:=hW
   go_wp2_with (go_at_call 66;refine(HST.out).mono ?_;rintro e w' ⟨v',rfl,hown,hb⟩;obtain⟨ov,cv,rfl⟩:=ay hown)
   exact⟨(zR.drew).trans hb,ov,cv,rfl,aC.still hown (fun q hq _=>HR7.out.at_.new q hq) (by have:=hC.G;omega)⟩
  intro v10 AV;obtain⟨_,-,ov,cv,rfl,-⟩:∃w',Below W7.heap.size W7 w'∧∃o c,v10= .agg #[.int .i64 place,.slice o C.G c]∧aC N7 w' (.slice o C.G c) (List.replicate C.G (-1,-1)):=AV;simp only[zP,zQ,zB,zC];apply ax rfl rfl rfl
  case h=>
   intro W10 hW K hK;obtain⟨wU,ov',cv',he,hs10⟩:=hW;simp only[Value.agg.injEq,Array.mk.injEq,List.cons.injEq,Value.slice.injEq,true_and,and_true] at he;obtain⟨rfl,rfl⟩:=he;have HCR:=zh (PD.out W10 _ wU hs10);clear hs10
   go_wp2_with (go_at_call 92;refine(HCR.out).mono ?_;rintro e w' ⟨rfl,N',vo',vc',hr',hg'⟩)
   exact⟨N',vo',vc',hr',(Goes.below wU).trans hg'⟩
  intro v11 hv11;simp only[zP,zQ,zB,zC];refine aG fun W11 h11=> ?_
  obtain⟨N8,vo8,vc8,hr8,hg8⟩:=h11;have hdr:Below W11.heap.size W11 W11.drew:=zR.drew;have hend:∀(o:Option (List Wy.Way)),(∀l,o=some l→l=σf.out)→Wys C N w o (.returned (.tuple #[vo8,.bool o.isSome])) W11.drew:=by
   intro o ho;have hR:=HRR.out;have hg:=Bj.out.trans (hg8.trans (Goes.below hdr));have hr9:=hr8.below hdr;obtain⟨cs,hown,hw⟩:=hr9.out;have hsub:=hr9.sub;have hat:=hr9.at_;subst hR;refine⟨hg.own.mono fun i hi e=>e.elim id fun e=>by have:w.heap.size≤i:=e.1;omega,hat.mono hsub HA.out.not,_,rfl,?_,fun l hl=> ?_⟩
   ·obtain⟨a,c,rfl⟩:=ay hown;exact⟨_,_,_,rfl⟩
   ·rw[ho l hl];exact aI.dD hown (hw.mono hsub) (fun q hq _=>HA.out.new q (by have:w.heap.size+7≤q:=hq;omega))
  obtain⟨cso,oQ,-⟩:=hr8.out;obtain⟨oo,co,rfl⟩:=ay oQ;have RJ:σf.out.length≤maxLen:=by
   rcases oQ.2 with⟨-,h0⟩|⟨g,cap,cur,-,-,-,h1,h2,-⟩<;>omega
  have hlo8I:(σf.out.length:Int)≤9223372036854775807:=by unfold maxLen at RJ;omega
  obtain⟨q3,q5⟩:W11.drew.cell? ⟨w.heap.size+3,0,none⟩=some (.slice oo σf.out.length co)∧W11.drew.cell? ⟨w.heap.size+5,0,none⟩=some (.bool σf.ok):=by
   have hR:=HRR.out;subst hR;exact⟨hr8.b3.cell 0,hr8.b5.cell 0⟩
  obtain⟨z3,z5⟩:w.heap.size+3<W11.drew.heap.size∧w.heap.size+5<W11.drew.heap.size:=by
   have hR:=HRR.out;subst hR;exact⟨hr8.b3.lt,hr8.b5.lt⟩
  have dL:=zh hend;have HQ3:=zh q3;have HQ5:=zh q5;clear hr8 hg8 hdr hend oQ RJ q3 q5;have hwc:W11.drew.cell? =W11.cell? :=rfl;go_upto_region 8 with fail
  apply aJ ?hm ?hok [0,1,2,3,4,5,6,7,8] [] [0,1,2,3,4,5,6,7,8] ?hord (fun _=>True) (fun L w'=>L=[]∧w'=W11.drew)
  case hm=>rfl
  case hok=>kernel_rfl
  case hord=>kernel_rfl
  case hb=>exact fun _ _ _ _=>trivial
  case hw=>exact⟨rfl,rfl⟩
  case h=>
   cases hok:σf.ok with
   |false=>
    have ho:iY (ak C.G) (aN C.s) lo hi lazy [s] grp place=none:=by rw[PE.out,hok];rfl
    have q5:=HQ5.out;rw[hok] at q5;have q3:=HQ3.out;iterate 3
     apply ag _ rfl rfl rfl rfl
     case h=>
      intro W1 hW K hK
      (obtain⟨-,rfl⟩:=hW)
      go_wp2_with fail
      exact hK
     simp only[zP,zQ,zB,zC]
    iterate 3 (apply dB rfl rfl rfl;simp only[zP,zQ,zB,zC])
    iterate 3
     apply ag _ rfl rfl rfl rfl
     case h=>
      intro W1 hW K hK
      (obtain⟨-,rfl⟩:=hW)
      go_wp2_with fail
      exact hK
     simp only[zP,zQ,zB,zC]
    refine aG fun W12 h12=> ?_
    obtain⟨-,rfl⟩:=h12
    go_wp2_with fail
    refine bodyPost_ret (v:= .tuple #[.slice oo σf.out.length co,.bool false]) (by simp[results,Tryz.results70,go_sem]) rfl ?_;rw[ho];exact dL.out none (fun l hl=>by cases hl)
   |true=>
    have q5:=HQ5.out;rw[hok] at q5;have q3:=HQ3.out;by_cases hl:σf.out.length≤500
    ·have ho:iY (ak C.G) (aN C.s) lo hi lazy [s] grp place=some σf.out:=by rw[PE.out,hok];simp[hl]
     have hlI:(σf.out.length:Int)≤500:=(by omega);iterate 9
      apply ag _ rfl rfl rfl rfl
      case h=>
       intro W1 hW K hK
       (obtain⟨-,rfl⟩:=hW)
       go_wp2_with fail
       exact hK
      simp only[zP,zQ,zB,zC]
     refine aG fun W12 h12=> ?_
     obtain⟨-,rfl⟩:=h12
     go_wp2_with fail
     refine bodyPost_ret (v:= .tuple #[.slice oo σf.out.length co,.bool true]) (by simp[results,Tryz.results70,go_sem]) rfl ?_;rw[ho];exact dL.out (some σf.out) (fun l hl=>by cases hl;rfl)
    ·have ho:iY (ak C.G) (aN C.s) lo hi lazy [s] grp place=none:=by rw[PE.out,hok];simp[hl]
     have hlI:decide ((σf.out.length:Int)≤500)=false:=by simp;omega
     iterate 9
      apply ag _ rfl rfl rfl rfl
      case h=>
       intro W1 hW K hK
       (obtain⟨-,rfl⟩:=hW)
       go_wp2_with fail
       exact hK
      simp only[zP,zQ,zB,zC]
     refine aG fun W12 h12=> ?_
     obtain⟨-,rfl⟩:=h12
     go_wp2_with fail
     refine bodyPost_ret (v:= .tuple #[.slice oo σf.out.length co,.bool false]) (by simp[results,Tryz.results70,go_sem]) rfl ?_;rw[ho];exact dL.out none (fun l hl=>by cases hl)
end Go.Proofs.YtnhjakdmbfadlaaGreatDoor
