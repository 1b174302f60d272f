/- Parts of the proof. Conditions: none. -/
import Derived.Test.YtnhjakdmbfadlaaGreatDoorT16
import Derived.Test.YtnhjakdmbfadlaaGreatDoorT08
import Derived.Test.YtnhjakdmbfadlaaGreatDoorT09
import Derived.Test.YtnhjakdmbfadlaaGreatDoorT00
import Derived.Test.YtnhjakdmbfadlaaGreatDoorT27
import Derived.Test.YtnhjakdmbfadlaaGreatDoorT02
import Derived.Test.YtnhjakdmbfadlaaGreatDoorT25
import Derived.Test.YtnhjakdmbfadlaaGreatDoorT17
import Derived.Test.YtnhjakdmbfadlaaGreatDoorT04
set_option linter.all false
set_option maxHeartbeats 8000000
set_option maxRecDepth 100000
namespace Go.Proofs.YtnhjakdmbfadlaaGreatDoor
open Go.RowKit Wy Mem Grow
variable {place:Int} {cs:List Value} {G j:Nat} {v:Value} {Wa w w4:World}
theorem DK:(Tryz.prog.info? 129).map (fun i=>(i.zero,i.size,i.bytes))=some (some (.agg #[.int .i64 0,.int .i64 0]),2,16):=by kernel_rfl
def Rwy (ve:Int) (l:List (Int×Int)) (w:World) (e:Ending) (w':World):Prop:=
 ∃v',e= .returned (.agg #[.int .i64 ve,v'])∧w'.ownsRow w.heap.size 129 2 v' l.length (l.flatMap bP)∧Below w.heap.size w w'
theorem Gt {o:Obj} (hro:Wa.ownsRow w.heap.size 129 2 v j cs) (hbw:Below w.heap.size w Wa) (hg:(Wa.alloc o).grownBy w4 v.ownBlock):
  Below w.heap.size w w4∧∀b bs,Blk Wa b bs 79→Blk w4 b bs 79:=by
 have hk:=((Kept.refl (fun q=>v.ownBlock=some q) Wa).alloc o).trans (eU hg);exact⟨((Kept.of_below hbw (fun q=>v.ownBlock=some q)).trans hk).below (fun q hq e=>by have:=(hro.lt q e).1;omega),fun b bs hB=>hB.kept hk (cZ hro hB (by decide))⟩
theorem lW (hG:G≤64):Calls Tryz.prog 79 #[.int .i64 place,.int .i64 G] w (Rwy place (List.replicate G (-1,-1)) w):=by
 have hGI:(G:Int)≤64:=(by omega);obtain⟨i0,hi0,hz0,hz1,hz2⟩:=info_parts DK;go_enter Tryz.func79,Tryz.ntmps79
 go_wp2_with fail
 go_loopw [6] (fun s6 wx=>∃(j:Nat) (sv:Value),j≤G∧s6= .int .i64 j∧Blk wx w.heap.size #[.int .i64 0,.slice none 0 0] 79∧Blk wx (w.heap.size+1) #[.int .i64 place,sv] 79∧wx.ownsRow w.heap.size 129 2 sv j ((List.replicate j ((-1:Int),(-1:Int))).flatMap bP)∧Below w.heap.size w wx) (fun s6 _=>G-(intOf s6).toNat)
 case atStart=>exact⟨0,.slice none 0 0,by omega,rfl,(Blk.new _ _ _).alloc _,Blk.new' _ _ (by simp),zN,(zR.alloc zL _).alloc (by simp) _⟩
 case round=>
  rename World=>Wa
  obtain⟨j,sv,hj,rfl,hB0,hB1,hro,hbw⟩:=hrel;obtain⟨ov,cv,rfl⟩:=ay hro;have b0:=hB0.cell 0;have b1:=hB0.cell 1;have bz:=hB0.lt;have bf:∀i,Wa.frozen? ⟨w.heap.size,i,none⟩=false:=hB0.frozen;have c0:=hB1.cell 0;have c1:=hB1.cell 1;have cz:=hB1.lt;have cf:∀i,Wa.frozen? ⟨w.heap.size+1,i,none⟩=false:=hB1.frozen;have HB0:=zh hB0;have HB1:=zh hB1;have HRO:=zh hro;have HBW:=zh hbw;by_cases hjl:j<G
  ·have hjI:(j:Int)<G:=(by omega);have hr2:(Wa.alloc (.cells #[.int .i64 (-1),.int .i64 (-1)] 129)).ownsRow w.heap.size 129 2 (.slice ov j cv) j ((List.replicate j ((-1:Int),(-1:Int))).flatMap bP):=fC hro ((Kept.refl (fun _=>False) Wa).alloc _) (fun _ _=>id);have hbs:w.heap.size≤(Wa.alloc (.cells #[.int .i64 (-1),.int .i64 (-1)] 129)).heap.size:=by have:=hbw.size;simp;omega
   have hsr:dI (Wa.alloc (.cells #[.int .i64 (-1),.int .i64 (-1)] 129)) (.slice (some ⟨Wa.heap.size,0,none⟩) 1 1) 1 [.int .i64 (-1),.int .i64 (-1)]:=Bz rfl;have hmx:j+1≤maxLen:=by unfold maxLen;omega
   have hby:(j+1)*16≤140737488355328:=(by omega);have HR2:=zh hr2;have HBS:=zh hbs;have HSR:=zh hsr;clear hr2 hbs hsr hB0 hB1 hro hbw
   go_wp2_with (first|(at_builtin;(refine aA rfl _ _ 77 rfl Tryz.underlying77 hi0 hz0 hz1 hz2 rfl (.slice ov j cv) j ((List.replicate j ((-1:Int),(-1:Int))).flatMap bP) rfl HR2.out _ 1 _ rfl HSR.out rfl (by simp[Value.oneCell']) hmx hby HBS.out ?_;intro v' w4 hown' hgrow h3' h4';obtain⟨ov',cv',rfl⟩:=ay hown';have hgg:=Gt HRO.out HBW.out hgrow;have HB4:=zh hgg.1;have HBB0:=zh (hgg.2 _ _ HB0.out);have JP:=zh (hgg.2 _ _ HB1.out);have HO:=zh hown';have d1:=JP.out.cell 1;have dz:=JP.out.lt;have df:=JP.out.frozen 1;clear hown' hgrow h3' h4' hgg)))
   go_roundw
   case rel=>
    refine⟨j+1,.slice ov' (j+1) cv',by omega,by go_num,HBB0.out.setOther (by simp) _,JP.out.set 1 _,?_,HB4.out.setCell (by show w.heap.size≤w.heap.size+1;omega) _⟩;have:=ownsRow_setCell_other HO.out (a:=⟨w.heap.size+1,1,none⟩) (cZ HO.out JP.out (by decide)) (.slice ov' (j+1) cv');rw[List.replicate_succ']
    simpa [bP] using this
   case measure=>simp[intOf];omega
  ·obtain rfl:j=G:=(by omega);clear hB0 hB1 hro hbw
   go_wp2_with fail
   have D:=(HB0.out.set 0 (.int .i64 place)).set 1 (.slice ov j cv);have d0:=D.cell 0;have d1:=D.cell 1;refine bodyPost_ret (v:= .agg #[.int .i64 place,.slice ov j cv]) (by simp[results,Tryz.results79,go_sem,d0,d1]) rfl ⟨.slice ov j cv,rfl,?_,(HBW.out.setCell zL _).setCell zL _⟩;have hne:=cZ HRO.out HB0.out (by decide);rw[List.length_replicate];exact ownsRow_setCell_other (ownsRow_setCell_other HRO.out (a:=⟨w.heap.size,0,none⟩) hne _) (a:=⟨w.heap.size,1,none⟩) hne _
variable {ve we y:Int} {cs':List Value} {n:Nat} {N:Nat→Prop} {sv vs ws:Value} {w':World}
theorem DL {a b:List (Int×Int)} (ha:j<a.length) (hb:j<b.length):thenS (a.take (j+1)) (b.take (j+1))=thenS (a.take j) (b.take j)++[if b[j].1= -1∧b[j].2= -1 then a[j] else b[j]]:=by
 unfold thenS;rw[List.take_succ_eq_append_getElem ha,List.take_succ_eq_append_getElem hb,List.zipWith_append (by rw[List.length_take,List.length_take];omega)]
 rfl
structure kC (w:World) (we ve:Int) (ws vs sv:Value) (j:Nat) (cs:List Value) (w':World):Prop where
 b0:Blk w' w.heap.size #[.int .i64 we,ws] 79
 b1:Blk w' (w.heap.size+1) #[.int .i64 ve,vs] 79
 b2:Blk w' (w.heap.size+2) #[.int .i64 0,.slice none 0 0] 79
 b3:Blk w' (w.heap.size+3) #[.int .i64 ve,sv] 79
 below:Below w.heap.size w w'
 row:w'.ownsRow w.heap.size 129 2 sv j cs
theorem kC.alloc (h:kC w we ve ws vs sv j cs w') (o:Obj):kC w we ve ws vs sv j cs (w'.alloc o):=
 ⟨h.b0.alloc o,h.b1.alloc o,h.b2.alloc o,h.b3.alloc o,h.below.alloc (by have:=h.below.size;omega) o,fC h.row ((Kept.refl (fun _=>False) w').alloc o) (fun _ _=>id)⟩
theorem kC.drew (h:kC w we ve ws vs sv j cs w'):kC w we ve ws vs sv j cs w'.drew:=
 ⟨h.b0,h.b1,h.b2,h.b3,h.below.drew,fC h.row (Kept.refl (fun _=>False) w').drew (fun _ _=>id)⟩
def lX (w:World) (we ve:Int) (ws vs sv v:Value) (n:Nat) (cs:List Value) (w':World):Prop:=
 Blk w' w.heap.size #[.int .i64 we,ws] 79∧Blk w' (w.heap.size+1) #[.int .i64 ve,vs] 79∧Blk w' (w.heap.size+2) #[.int .i64 0,.slice none 0 0] 79∧Blk w' (w.heap.size+3) #[.int .i64 ve,sv] 79∧Below w.heap.size w w'∧w'.ownsRow w.heap.size 129 2 v n cs
theorem lX.fin (h:lX w we ve ws vs sv v n cs w'):kC w we ve ws vs v n cs (w'.setCell ⟨w.heap.size+3,1,none⟩ v):=by
 obtain⟨h0,h1,h2,h3,h4,h5⟩:=h;exact⟨h0.setOther (by simp) _,h1.setOther (by simp) _,h2.setOther (by simp) _,h3.set 1 _,h4.setCell (by simp) _,ownsRow_setCell_other h5 (a:=⟨w.heap.size+3,1,none⟩) (cZ h5 h3 (by decide)) _⟩
theorem kC.grown (h:kC w we ve ws vs sv j cs w') (hg:w'.grownBy w4 sv.ownBlock) (h5:w4.ownsRow w.heap.size 129 2 v n cs'):lX w we ve ws vs sv v n cs' w4:=by
 have hk:=eU hg;exact⟨h.b0.kept hk (cZ h.row h.b0 (by decide)),h.b1.kept hk (cZ h.row h.b1 (by decide)),h.b2.kept hk (cZ h.row h.b2 (by decide)),h.b3.kept hk (cZ h.row h.b3 (by decide)),
  ((Kept.of_below h.below (fun q=>sv.ownBlock=some q)).trans hk).below (fun q hq e=>by have:=(h.row.lt q e).1;omega),h5⟩
def Qh (w Wa:World) (we ve:Int) (ws vs sv:Value) (j:Nat) (cs:List Value) (x y:Int):List Value→World→Prop
 |[]=>fun w'=>w'=Wa.drew
 |[p]=>fun w'=>p= .slice (some ⟨Wa.heap.size,0,none⟩) 1 1∧w'=Wa.drew.alloc (.cells #[.int .i64 x,.int .i64 y] 129)
 |[_,v]=>fun w'=>lX w we ve ws vs sv v (j+1) (cs++[.int .i64 x,.int .i64 y]) w'
 |[_,v,_]=>fun w'=>kC w we ve ws vs v (j+1) (cs++[.int .i64 x,.int .i64 y]) w'
 |_=>fun _=>False
def Qi (w:World) (we ve:Int) (ws vs sv:Value) (w':World):Prop:=
 Blk w' w.heap.size #[.int .i64 we,ws] 79∧Blk w' (w.heap.size+1) #[.int .i64 ve,vs] 79∧Blk w' (w.heap.size+3) #[.int .i64 ve,sv] 79∧Below w.heap.size w w'
theorem EL {x:Int} (h:kC w we ve ws vs sv j cs Wa) {L:List Value} {w':World} (hl:L.length<3) (hw:Qh w Wa we ve ws vs sv j cs x y L w'):Qi w we ve ws vs sv w':=by
 match L with
 |[]=>
  obtain rfl:w'=Wa.drew:=hw;have:=h.drew;exact⟨this.b0,this.b1,this.b3,this.below⟩
 |[p]=>
  obtain rfl:w'=_:=hw.2;have:=h.drew.alloc (.cells #[.int .i64 x,.int .i64 y] 129);exact⟨this.b0,this.b1,this.b3,this.below⟩
 |[_,v]=>
  obtain⟨h0,h1,h2,h3,h4,h5⟩:lX w we ve ws vs sv v (j+1) _ w':=hw;exact⟨h0,h1,h3,h4⟩
 |_::_::_::_=>simp at hl;omega
theorem yg {a b:List (Int×Int)} (ha:aC N w ws a) (hb:aC N w vs b) (hab:a.length=b.length) (hpr:Prp b):
  Calls Tryz.prog 81 #[.agg #[.int .i64 we,ws],.agg #[.int .i64 ve,vs]] w (Rwy ve (thenS a b) w):=by
 obtain⟨oa,ca,rfl⟩:=ha.row.slice;obtain⟨ob,cb,rfl⟩:=hb.row.slice;have HA:=zh ha;have HB:=zh hb;have HAB:=zh hab;have HPR:=zh hpr;have hsm:(b.length:Int)≤64:=by have:=hb.small;omega
 clear ha hb hab hpr;obtain⟨i0,hi0,hz0,hz1,hz2⟩:=info_parts DK;go_enter Tryz.func81,Tryz.ntmps81
 go_wp2_with fail
 go_loopw [6] (fun s6 wx=>∃(j:Nat) (sv:Value),j≤b.length∧s6= .int .i64 j∧kC w we ve (.slice oa a.length ca) (.slice ob b.length cb) sv j ((thenS (a.take j) (b.take j)).flatMap bP) wx) (fun s6 _=>b.length-(intOf s6).toNat)
 case atStart=>
  refine⟨0,.slice none 0 0,by omega,rfl,?_,?_,?_,?_,?_,?_⟩
  ·exact(((Blk.new _ _ _).alloc _).alloc _).alloc _
  ·exact((Blk.new' _ _ (by simp)).alloc _).alloc _
  ·exact(Blk.new' _ _ (by simp)).alloc _
  ·exact Blk.new' _ _ (by simp)
  ·exact(((zR.alloc zL _).alloc (by simp) _).alloc (by simp;omega) _).alloc (by simp;omega) _
  ·exact zN
 case round=>
  rename World=>Wa
  obtain⟨j,sv,hj,rfl,hat⟩:=hrel;obtain⟨ov,cv,rfl⟩:=ay hat.row;have HAT:=zh hat;have b0:=hat.b0.cell 0;have b1:=hat.b0.cell 1;have c0:=hat.b1.cell 0;have c1:=hat.b1.cell 1;have e0:=hat.b3.cell 0;have e1:=hat.b3.cell 1;have bz:=hat.b0.lt;have cz:=hat.b1.lt;have dz:=hat.b2.lt;have ez:=hat.b3.lt;clear hat;by_cases hjl:j<b.length
  ·have hja:j<a.length:=by have:=HAB.out;omega
   have hjI:(j:Int)<b.length:=(by omega);have hjA:(j:Int)<a.length:=(by omega);obtain⟨ab,ao,ac,ea,hac,SS,-,oM,hca⟩:=HA.out.row.cells (f:=bP) (fun _=>rfl) (by omega:0<a.length);obtain⟨bb,bo,bc,eb,hbc,hbc2,-,sD,hcb⟩:=HB.out.row.cells (f:=bP) (fun _=>rfl) (by omega:0<b.length);simp only[Value.slice.injEq,true_and] at ea eb;obtain⟨rfl,rfl⟩:=ea;obtain⟨rfl,rfl⟩:=eb;have hA:∀w',Below w.heap.size w w'→w'.cell? ⟨ab,ao+j*2,none⟩=some (.int .i64 a[j].1)∧w'.cell? ⟨ab,ao+j*2+1,none⟩=some (.int .i64 a[j].2)∧ab<w'.heap.size:=fun w' hbw=>
    ⟨(zW (hbw.block _ oM)).trans (hca j hja 0 (by omega)),(zW (hbw.block _ oM)).trans (hca j hja 1 (by omega)),by have:=hbw.size;omega⟩
   have hB:∀w',Below w.heap.size w w'→w'.cell? ⟨bb,bo+j*2,none⟩=some (.int .i64 b[j].1)∧w'.cell? ⟨bb,bo+j*2+1,none⟩=some (.int .i64 b[j].2)∧bb<w'.heap.size:=fun w' hbw=>
    ⟨(zW (hbw.block _ sD)).trans (hcb j hjl 0 (by omega)),(zW (hbw.block _ sD)).trans (hcb j hjl 1 (by omega)),by have:=hbw.size;omega⟩
   obtain⟨p0,p1,pz⟩:=hB Wa HAT.out.below;have hsn:=DL hja hjl;have hpr:=HPR.out b[j] (List.getElem_mem hjl);obtain⟨x,hx⟩:∃x,x=b[j].1:=⟨_,rfl⟩;obtain⟨y,hy⟩:∃y,y=b[j].2:=⟨_,rfl⟩;obtain⟨u,hu⟩:∃u,u=a[j].1:=⟨_,rfl⟩;obtain⟨z,hz⟩:∃z,z=a[j].2:=⟨_,rfl⟩;rw[←hx] at p0 hsn;rw[←hy] at p1 hsn;have hB':∀w',Below w.heap.size w w'→w'.cell? ⟨bb,bo+j*2,none⟩=some (.int .i64 x)∧w'.cell? ⟨bb,bo+j*2+1,none⟩=some (.int .i64 y)∧bb<w'.heap.size:=fun w' h=>by rw[hx,hy];exact hB w' h
   have hA':∀w',Below w.heap.size w w'→w'.cell? ⟨ab,ao+j*2,none⟩=some (.int .i64 u)∧w'.cell? ⟨ab,ao+j*2+1,none⟩=some (.int .i64 z)∧ab<w'.heap.size:=fun w' h=>by rw[hu,hz];exact hA w' h
   have hxy:(x= -1∧y= -1)∨0≤x:=by
    rcases hpr with h|h
    ·rw[h] at hx hy;exact .inl ⟨hx,hy⟩
    ·exact .inr (by omega)
   have hse:(thenS (a.take (j+1)) (b.take (j+1))).flatMap bP=(thenS (a.take j) (b.take j)).flatMap bP++(if x= -1∧y= -1 then[.int .i64 u,.int .i64 z] else[.int .i64 x,.int .i64 y]):=by
    rw[hsn,List.flatMap_append];congr 1;split<;>simp[bP,hx,hy,hu,hz]
   have HSE:=zh hse;have HA2:=zh hA';have HB2:=zh hB';have hmx:j+1≤maxLen:=by unfold maxLen;omega
   have hby:(j+1)*16≤140737488355328:=(by omega);clear hA hB hA' hB' hsn hpr hx hy hu hz hse hca hcb;rcases hxy with⟨rfl,rfl⟩|hx0
   ·have hneg:(-1:Int)<0:=by omega
    go_wp2_with fail
    apply aJ ?hm ?hok [0,1,2,3,4,5,6,7,8,9,10] [7,8,10] [9] ?hord (Qi w we ve (.slice (some ⟨ab,ao,none⟩) a.length ca) (.slice (some ⟨bb,bo,none⟩) b.length cb) (.slice ov j cv)) (Qh w Wa we ve (.slice (some ⟨ab,ao,none⟩) a.length ca) (.slice (some ⟨bb,bo,none⟩) b.length cb) (.slice ov j cv) j ((thenS (a.take j) (b.take j)).flatMap bP) u z)
    case hm=>rfl
    case hok=>kernel_rfl
    case hord=>kernel_rfl
    case hb=>exact fun L w' h hl=>EL HAT.out hl h
    case hw=>rfl
    case h=>
     apply ae _ rfl rfl rfl rfl
     case h=>
      intro W1 hW K hK
      go_wp2_with fail
      exact hK
     simp only[zP,zQ,zB,zC];apply ae _ rfl rfl rfl rfl
     case h=>
      intro W1 hW K hK
      (obtain⟨k0,k1,k3,kb⟩:=hW;have q0:=k3.cell 0;have q1:=k3.cell 1)
      go_wp2_with fail
      exact hK
     simp only[zP,zQ,zB,zC];apply ae _ rfl rfl rfl rfl
     case h=>
      intro W1 hW K hK
      go_wp2_with fail
      exact hK
     simp only[zP,zQ,zB,zC];apply ae _ rfl rfl rfl rfl
     case h=>
      intro W1 hW K hK
      (obtain⟨k0,k1,k3,kb⟩:=hW;have q0:=k0.cell 0;have q1:=k0.cell 1)
      go_wp2_with fail
      exact hK
     simp only[zP,zQ,zB,zC];apply ae _ rfl rfl rfl rfl
     case h=>
      intro W1 hW K hK
      go_wp2_with fail
      exact hK
     simp only[zP,zQ,zB,zC];apply ae _ rfl rfl rfl rfl
     case h=>
      intro W1 hW K hK
      go_wp2_with fail
      exact hK
     simp only[zP,zQ,zB,zC];apply ae _ rfl rfl rfl rfl
     case h=>
      intro W1 hW K hK
      (obtain⟨k0,k1,k3,kb⟩:=hW;obtain⟨q0,q1,qz⟩:=HA2.out _ kb)
      go_wp2_with fail
      exact hK
     simp only[zP,zQ,zB,zC];apply ax rfl rfl rfl
     case h=>
      intro W1 hW K hK;obtain rfl:W1=Wa.drew:=hW
      go_wp2_with fail
      first|exact⟨rfl,rfl⟩|exact hK _ _ ⟨rfl,rfl⟩
     intro v hv;obtain⟨-,rfl,-⟩:=hv;simp only[zP,zQ,zB,zC];apply ax rfl rfl rfl
     case h=>
      intro W1 hW K hK;obtain⟨-,rfl⟩:=hW;have wC:=HAT.out.drew.alloc (.cells #[.int .i64 u,.int .i64 z] 129);have hbs:w.heap.size≤(Wa.drew.alloc (.cells #[.int .i64 u,.int .i64 z] 129)).heap.size:=wC.below.size;have hsr:dI (Wa.drew.alloc (.cells #[.int .i64 u,.int .i64 z] 129)) (.slice (some ⟨Wa.heap.size,0,none⟩) 1 1) 1 [.int .i64 u,.int .i64 z]:=Bz rfl;have HBS:=zh hbs;have HSR:=zh hsr;have HA3:=zh wC;clear hbs hsr wC;refine aY _ _ 77 rfl Tryz.underlying77 hi0 hz0 hz1 hz2 rfl (.slice ov j cv) j ((thenS (a.take j) (b.take j)).flatMap bP) rfl HA3.out.row _ 1 _ rfl HSR.out rfl (by simp[Value.oneCell']) hmx hby HBS.out ?_;intro v' w4 hown' hgrow h3' h4';exact hK _ _ (HA3.out.grown hgrow hown')
     intro v hv;obtain⟨_,hmid⟩:∃w',lX w we ve (.slice (some ⟨ab,ao,none⟩) a.length ca) (.slice (some ⟨bb,bo,none⟩) b.length cb) (.slice ov j cv) v (j+1) _ w':=hv;obtain⟨ov',cv',rfl⟩:=ay hmid.2.2.2.2.2;clear hmid;simp only[zP,zQ,zB,zC];apply ag _ rfl rfl rfl rfl
     case h=>
      intro W1 hW K hK
      go_wp2_with fail
      exact hK
     simp only[zP,zQ,zB,zC];apply ax rfl rfl rfl
     case h=>
      intro W1 hW K hK;have HM:=zh (show lX w we ve (.slice (some ⟨ab,ao,none⟩) a.length ca) (.slice (some ⟨bb,bo,none⟩) b.length cb) (.slice ov j cv) (.slice ov' (j+1) cv') (j+1) _ W1 from hW);have qz:=HM.out.2.2.2.1.lt;have q1:=HM.out.2.2.2.1.cell 1;have qf:=HM.out.2.2.2.1.frozen 1;clear hW
      go_wp2_with fail
      exact hK undef _ HM.out.fin
     intro v hv;clear hv;simp only[zP,zQ,zB,zC];refine aG fun W7 h7=> ?_
     have h7:kC w we ve (.slice (some ⟨ab,ao,none⟩) a.length ca) (.slice (some ⟨bb,bo,none⟩) b.length cb) (.slice ov' (j+1) cv') (j+1) _ W7:=h7;have H7:=zh h7;clear h7
     go_wp2_with fail
     go_roundw
     case rel=>exact⟨j+1,.slice ov' (j+1) cv',by omega,by go_num,by rw[HSE.out,if_pos (by simp)];exact H7.out⟩
     case measure=>simp[intOf];omega
   ·have hneg:decide (x<0)=false:=decide_eq_false (by omega)
    go_wp2_with fail
    apply aJ ?hm ?hok [0,1,2,3,4,5,6,7,8,9,10] [7,8,10] [9] ?hord (Qi w we ve (.slice (some ⟨ab,ao,none⟩) a.length ca) (.slice (some ⟨bb,bo,none⟩) b.length cb) (.slice ov j cv)) (Qh w Wa we ve (.slice (some ⟨ab,ao,none⟩) a.length ca) (.slice (some ⟨bb,bo,none⟩) b.length cb) (.slice ov j cv) j ((thenS (a.take j) (b.take j)).flatMap bP) x y)
    case hm=>rfl
    case hok=>kernel_rfl
    case hord=>kernel_rfl
    case hb=>exact fun L w' h hl=>EL HAT.out hl h
    case hw=>rfl
    case h=>
     apply ae _ rfl rfl rfl rfl
     case h=>
      intro W1 hW K hK
      go_wp2_with fail
      exact hK
     simp only[zP,zQ,zB,zC];apply ae _ rfl rfl rfl rfl
     case h=>
      intro W1 hW K hK
      (obtain⟨k0,k1,k3,kb⟩:=hW;have q0:=k3.cell 0;have q1:=k3.cell 1)
      go_wp2_with fail
      exact hK
     simp only[zP,zQ,zB,zC];apply ae _ rfl rfl rfl rfl
     case h=>
      intro W1 hW K hK
      go_wp2_with fail
      exact hK
     simp only[zP,zQ,zB,zC];apply ae _ rfl rfl rfl rfl
     case h=>
      intro W1 hW K hK
      (obtain⟨k0,k1,k3,kb⟩:=hW;have q0:=k1.cell 0;have q1:=k1.cell 1)
      go_wp2_with fail
      exact hK
     simp only[zP,zQ,zB,zC];apply ae _ rfl rfl rfl rfl
     case h=>
      intro W1 hW K hK
      go_wp2_with fail
      exact hK
     simp only[zP,zQ,zB,zC];apply ae _ rfl rfl rfl rfl
     case h=>
      intro W1 hW K hK
      go_wp2_with fail
      exact hK
     simp only[zP,zQ,zB,zC];apply ae _ rfl rfl rfl rfl
     case h=>
      intro W1 hW K hK
      (obtain⟨k0,k1,k3,kb⟩:=hW;obtain⟨q0,q1,qz⟩:=HB2.out _ kb)
      go_wp2_with fail
      exact hK
     simp only[zP,zQ,zB,zC];apply ax rfl rfl rfl
     case h=>
      intro W1 hW K hK;obtain rfl:W1=Wa.drew:=hW
      go_wp2_with fail
      first|exact⟨rfl,rfl⟩|exact hK _ _ ⟨rfl,rfl⟩
     intro v hv;obtain⟨-,rfl,-⟩:=hv;simp only[zP,zQ,zB,zC];apply ax rfl rfl rfl
     case h=>
      intro W1 hW K hK;obtain⟨-,rfl⟩:=hW;have wC:=HAT.out.drew.alloc (.cells #[.int .i64 x,.int .i64 y] 129);have hbs:w.heap.size≤(Wa.drew.alloc (.cells #[.int .i64 x,.int .i64 y] 129)).heap.size:=wC.below.size;have hsr:dI (Wa.drew.alloc (.cells #[.int .i64 x,.int .i64 y] 129)) (.slice (some ⟨Wa.heap.size,0,none⟩) 1 1) 1 [.int .i64 x,.int .i64 y]:=Bz rfl;have HBS:=zh hbs;have HSR:=zh hsr;have HA3:=zh wC;clear hbs hsr wC;refine aY _ _ 77 rfl Tryz.underlying77 hi0 hz0 hz1 hz2 rfl (.slice ov j cv) j ((thenS (a.take j) (b.take j)).flatMap bP) rfl HA3.out.row _ 1 _ rfl HSR.out rfl (by simp[Value.oneCell']) hmx hby HBS.out ?_;intro v' w4 hown' hgrow h3' h4';exact hK _ _ (HA3.out.grown hgrow hown')
     intro v hv;obtain⟨_,hmid⟩:∃w',lX w we ve (.slice (some ⟨ab,ao,none⟩) a.length ca) (.slice (some ⟨bb,bo,none⟩) b.length cb) (.slice ov j cv) v (j+1) _ w':=hv;obtain⟨ov',cv',rfl⟩:=ay hmid.2.2.2.2.2;clear hmid;simp only[zP,zQ,zB,zC];apply ag _ rfl rfl rfl rfl
     case h=>
      intro W1 hW K hK
      go_wp2_with fail
      exact hK
     simp only[zP,zQ,zB,zC];apply ax rfl rfl rfl
     case h=>
      intro W1 hW K hK;have HM:=zh (show lX w we ve (.slice (some ⟨ab,ao,none⟩) a.length ca) (.slice (some ⟨bb,bo,none⟩) b.length cb) (.slice ov j cv) (.slice ov' (j+1) cv') (j+1) _ W1 from hW);have qz:=HM.out.2.2.2.1.lt;have q1:=HM.out.2.2.2.1.cell 1;have qf:=HM.out.2.2.2.1.frozen 1;clear hW
      go_wp2_with fail
      exact hK undef _ HM.out.fin
     intro v hv;clear hv;simp only[zP,zQ,zB,zC];refine aG fun W7 h7=> ?_
     have h7:kC w we ve (.slice (some ⟨ab,ao,none⟩) a.length ca) (.slice (some ⟨bb,bo,none⟩) b.length cb) (.slice ov' (j+1) cv') (j+1) _ W7:=h7;have H7:=zh h7;clear h7
     go_wp2_with fail
     go_roundw
     case rel=>exact⟨j+1,.slice ov' (j+1) cv',by omega,by go_num,by rw[HSE.out,if_neg (by omega)];exact H7.out⟩
     case measure=>simp[intOf];omega
  ·obtain rfl:j=b.length:=(by omega);have f2:=HAT.out.b2.frozen;have g0:=HAT.out.b2.cell 0;have g1:=HAT.out.b2.cell 1
   go_wp2_with fail
   have D:=(HAT.out.b2.set 0 (.int .i64 ve)).set 1 (.slice ov b.length cv);have d0:=D.cell 0;have d1:=D.cell 1;refine bodyPost_ret (v:= .agg #[.int .i64 ve,.slice ov b.length cv]) (by simp[results,Tryz.results81,go_sem,d0,d1]) rfl ⟨.slice ov b.length cv,rfl,?_,(HAT.out.below.setCell (show w.heap.size≤w.heap.size+2 by omega) _).setCell (show w.heap.size≤w.heap.size+2 by omega) _⟩;have hne:=cZ HAT.out.row HAT.out.b2 (by decide);have hal:(thenS (a.take b.length) (b.take b.length))=thenS a b:=by rw[List.take_of_length_le (by have:=HAB.out;omega),List.take_of_length_le zL]
   have hr:=HAT.out.row;rw[hal] at hr;rw[dY HAB.out];exact ownsRow_setCell_other (ownsRow_setCell_other hr (a:=⟨w.heap.size+2,0,none⟩) hne _) (a:=⟨w.heap.size+2,1,none⟩) hne _
variable {M:Nat→Prop} {va vb:Value}
theorem sF {l:List (Int×Int)} (ha:aC N w va l) (hb:aC M w vb l):
  Calls Tryz.prog 31 #[va,vb] w fun e w'=>e= .returned (.bool true)∧Below w.heap.size w w':=by
 obtain⟨oa,ca,rfl⟩:=ha.row.slice;obtain⟨ob,cb,rfl⟩:=hb.row.slice;have HA:=zh ha;have HB:=zh hb;have hsm:(l.length:Int)≤64:=by have:=ha.small;omega
 clear ha hb;go_enter Tryz.func31,Tryz.ntmps31
 go_wp2_with fail
 go_loopw [13] (fun s13 wx=>∃i:Nat,i≤l.length∧s13= .int .i64 i∧Below w.heap.size w wx) (fun s13 _=>l.length-(intOf s13).toNat)
 case atStart=>exact⟨0,by omega,rfl,zR⟩
 case round=>
  rename World=>Wa
  obtain⟨i,hi,rfl,hbw⟩:=hrel;have HBW:=zh hbw;by_cases hil:¬i<l.length
  ·obtain rfl:i=l.length:=(by omega);clear hbw hil
   go_wp2_with fail
   exact bodyPost_ret (v:= .bool true) (by simp[results,Tryz.results31,go_sem]) rfl ⟨rfl,HBW.out⟩
  ·have hil:i<l.length:=(by omega);have hiI:(i:Int)<l.length:=(by omega);obtain⟨ab,ao,ac,ea,hac,SS,-,oM,hca⟩:=HA.out.row.cells (f:=bP) (fun _=>rfl) (by omega:0<l.length);obtain⟨bb,bo,bc,eb,hbc,hbc2,-,sD,hcb⟩:=HB.out.row.cells (f:=bP) (fun _=>rfl) (by omega:0<l.length);simp only[Value.slice.injEq,true_and] at ea eb;obtain⟨rfl,rfl⟩:=ea;obtain⟨rfl,rfl⟩:=eb;have Nw:(l.length:Int)≤ca:=(by omega);have Qj:(l.length:Int)≤cb:=(by omega);obtain⟨x,hx⟩:∃x,x=l[i].1:=⟨_,rfl⟩;obtain⟨y,hy⟩:∃y,y=l[i].2:=⟨_,rfl⟩;have hR:∀w',Below Wa.heap.size Wa w'→w'.cell? ⟨ab,ao+i*2,none⟩=some (.int .i64 x)∧w'.cell? ⟨ab,ao+i*2+1,none⟩=some (.int .i64 y)∧w'.cell? ⟨bb,bo+i*2,none⟩=some (.int .i64 x)∧w'.cell? ⟨bb,bo+i*2+1,none⟩=some (.int .i64 y)∧ab<w'.heap.size∧bb<w'.heap.size:=fun w' h=>by
    have hb:=hbw.trans (h.mono hbw.size);rw[hx,hy];exact⟨(zW (hb.block _ oM)).trans (hca i hil 0 (by omega)),(zW (hb.block _ oM)).trans (hca i hil 1 (by omega)),(zW (hb.block _ sD)).trans (hcb i hil 0 (by omega)),(zW (hb.block _ sD)).trans (hcb i hil 1 (by omega)),by have:=hb.size;omega,by have:=hb.size;omega⟩
   have HR:=zh hR;have hbd:Below w.heap.size w Wa.drew:=hbw.drew;have HBD:=zh hbd;clear hca hcb hx hy hR hbw hbd
   go_wp2_with fail
   apply aJ ?hm ?hok [0,1,2,3,4,5,6,7,8] [] [0,1,2,3,4,5,6,7,8] ?hord (fun w'=>w'=Wa.drew) (fun L w'=>L=[]∧w'=Wa.drew)
   case hm=>rfl
   case hok=>kernel_rfl
   case hord=>kernel_rfl
   case hb=>exact fun L' w' h hl=>h.2
   case hw=>exact⟨rfl,rfl⟩
   apply ag (.slice (some ⟨ab,ao,none⟩) l.length ca) rfl rfl rfl rfl
   case h=>
    intro W1 hW K hK;obtain⟨-,rfl⟩:=hW
    go_wp2_with fail
    exact hK
   simp only[zP,zQ,zB,zC];apply ag (.int .i64 (i:Nat)) rfl rfl rfl rfl
   case h=>
    intro W1 hW K hK;obtain⟨-,rfl⟩:=hW
    go_wp2_with fail
    exact hK
   simp only[zP,zQ,zB,zC];apply ag (.pointer (some ⟨ab,ao+i*2,none⟩)) rfl rfl rfl rfl
   case h=>
    intro W1 hW K hK;obtain⟨-,rfl⟩:=hW
    go_wp2_with fail
    exact hK
   simp only[zP,zQ,zB,zC];apply ag (.agg #[.int .i64 x,.int .i64 y]) rfl rfl rfl rfl
   case h=>
    intro W1 hW K hK;obtain⟨-,rfl⟩:=hW;obtain⟨q0,q1,q2,q3,q4,q5⟩:=HR.out _ (Below.refl Wa.heap.size Wa).drew
    go_wp2_with fail
    exact hK
   simp only[zP,zQ,zB,zC];apply ag (.slice (some ⟨bb,bo,none⟩) l.length cb) rfl rfl rfl rfl
   case h=>
    intro W1 hW K hK;obtain⟨-,rfl⟩:=hW
    go_wp2_with fail
    exact hK
   simp only[zP,zQ,zB,zC];apply ag (.int .i64 (i:Nat)) rfl rfl rfl rfl
   case h=>
    intro W1 hW K hK;obtain⟨-,rfl⟩:=hW
    go_wp2_with fail
    exact hK
   simp only[zP,zQ,zB,zC];apply ag (.pointer (some ⟨bb,bo+i*2,none⟩)) rfl rfl rfl rfl
   case h=>
    intro W1 hW K hK;obtain⟨-,rfl⟩:=hW
    go_wp2_with fail
    exact hK
   simp only[zP,zQ,zB,zC];apply ag (.agg #[.int .i64 x,.int .i64 y]) rfl rfl rfl rfl
   case h=>
    intro W1 hW K hK;obtain⟨-,rfl⟩:=hW;obtain⟨q0,q1,q2,q3,q4,q5⟩:=HR.out _ (Below.refl Wa.heap.size Wa).drew
    go_wp2_with fail
    exact hK
   simp only[zP,zQ,zB,zC];apply ag (.bool false) rfl rfl rfl rfl
   case h=>
    intro W1 hW K hK;obtain⟨-,rfl⟩:=hW
    go_wp2_with fail
    exact hK
   simp only[zP,zQ,zB,zC];refine aG fun W7 h7=> ?_
   obtain⟨-,rfl⟩:=h7
   go_wp2_with fail
   go_roundw
   case rel=>exact⟨i+1,by omega,by go_num,HBD.out⟩
   case measure=>simp[intOf];omega
variable {l:List Wy.Way} {G2 L L2:Nat}
def smW (W0:World):List Value→World→Prop
 |[]=>fun w'=>w'=W0.drew
 |[v]=>fun w'=>v= .bool true∧Below W0.heap.size W0 w'
 |_=>fun _=>False
theorem yh (ha:aI N w G L va l) (hb:aI M w G2 L2 vb l) (hl:l.length≤500):
  Calls Tryz.prog 28 #[va,vb] w fun e w'=>e= .returned (.bool true)∧Below w.heap.size w w':=by
 obtain⟨oa,ca,rfl⟩:=ha.slice;obtain⟨ob,cb,rfl⟩:=hb.slice;have HA:=zh ha;have HB:=zh hb;have hsm:(l.length:Int)≤500:=(by omega);clear ha hb;go_enter Tryz.func28,Tryz.ntmps28
 go_wp2_with fail
 go_loopw [14] (fun s14 wx=>∃i:Nat,i≤l.length∧s14= .int .i64 i∧Below w.heap.size w wx) (fun s14 _=>l.length-(intOf s14).toNat)
 case atStart=>exact⟨0,by omega,rfl,zR⟩
 case round=>
  rename World=>Wa
  obtain⟨i,hi,rfl,hbw⟩:=hrel;have HBW:=zh hbw;by_cases hil:¬i<l.length
  ·obtain rfl:i=l.length:=(by omega);clear hbw hil
   go_wp2_with fail
   exact bodyPost_ret (v:= .bool true) (by simp[results,Tryz.results28,go_sem]) rfl ⟨rfl,HBW.out⟩
  ·have hil:i<l.length:=(by omega);have hiI:(i:Int)<l.length:=(by omega);obtain⟨ab,ao,ac,ea,hac,SS,-,oM,hca⟩:=HA.out.cells (by omega:0<l.length);obtain⟨bb,bo,bc,eb,hbc,hbc2,-,sD,hcb⟩:=HB.out.cells (by omega:0<l.length);simp only[Value.slice.injEq,true_and] at ea eb;obtain⟨rfl,rfl⟩:=ea;obtain⟨rfl,rfl⟩:=eb;have Nw:(l.length:Int)≤ca:=(by omega);have Qj:(l.length:Int)≤cb:=(by omega);obtain⟨sva,a0,a1,hsa,-,-⟩:=hca i hil;obtain⟨svb,b0,b1,hsb,-,-⟩:=hcb i hil;obtain⟨x,hx⟩:∃x,x=l[i]:=⟨_,rfl⟩;rw[←hx] at a0 hsa b0 hsb;obtain⟨sa,ta,rfl⟩:=hsa.row.slice;obtain⟨sb,tb,rfl⟩:=hsb.row.slice;have a0:=(zW (hbw.block _ oM)).trans a0;have a1:=(zW (hbw.block _ oM)).trans a1;have az:ab<Wa.heap.size:=by have:=hbw.size;omega
   have hb0:Below w.heap.size w (Wa.alloc (.cells #[.int .i64 x.stop,.slice sa x.spans.length ta] 43)):=hbw.alloc hbw.size _;have hB0:Blk (Wa.alloc (.cells #[.int .i64 x.stop,.slice sa x.spans.length ta] 43)) Wa.heap.size #[.int .i64 x.stop,.slice sa x.spans.length ta] 43:=Blk.new _ _ _;have hR:(Wa.alloc (.cells #[.int .i64 x.stop,.slice sa x.spans.length ta] 43)).drew.cell? ⟨Wa.heap.size,0,none⟩=some (.int .i64 x.stop)∧(Wa.alloc (.cells #[.int .i64 x.stop,.slice sa x.spans.length ta] 43)).drew.cell? ⟨Wa.heap.size,1,none⟩=some (.slice sa x.spans.length ta)∧(Wa.alloc (.cells #[.int .i64 x.stop,.slice sa x.spans.length ta] 43)).drew.cell? ⟨bb,bo+i*2,none⟩=some (.int .i64 x.stop)∧(Wa.alloc (.cells #[.int .i64 x.stop,.slice sa x.spans.length ta] 43)).drew.cell? ⟨bb,bo+i*2+1,none⟩=some (.slice sb x.spans.length tb)∧bb<(Wa.alloc (.cells #[.int .i64 x.stop,.slice sa x.spans.length ta] 43)).drew.heap.size∧Wa.heap.size<(Wa.alloc (.cells #[.int .i64 x.stop,.slice sa x.spans.length ta] 43)).drew.heap.size:=
    ⟨hB0.cell 0,hB0.cell 1,(zW (hb0.block _ sD)).trans b0,(zW (hb0.block _ sD)).trans b1,Nat.lt_of_lt_of_le sD hb0.size,hB0.lt⟩
   have hsp:=sF (aC.go (M:=N) hsa (zK hb0.drew) (fun _ _ h=>⟨id,h⟩)) (aC.go (M:=M) hsb (zK hb0.drew) (fun _ _ h=>⟨id,h⟩));have HSP:=zh hsp;have HR:=zh hR;have HB0:=zh hb0;clear hca hcb hx hR hbw hb0 hB0 hsa hsb hsp b0 b1
   go_wp2_with fail
   apply aJ ?hm ?hok [0,1,2,3,4,5,6,7,8,9,10,11,12,13,14,15,16,17,18] [16] [17,18] ?hord (fun w'=>w'=(Wa.alloc (.cells #[.int .i64 x.stop,.slice sa x.spans.length ta] 43)).drew) (smW (Wa.alloc (.cells #[.int .i64 x.stop,.slice sa x.spans.length ta] 43)))
   case hm=>rfl
   case hok=>kernel_rfl
   case hord=>kernel_rfl
   case hb=>
    intro L' w' h hl
    match L' with
    |[]=>exact h
    |_::_=>simp at hl
   case hw=>rfl
   apply ae (.pointer (some ⟨Wa.heap.size,0,none⟩)) rfl rfl rfl rfl
   case h=>
    intro W1 hW K hK;obtain rfl:W1=(Wa.alloc (.cells #[.int .i64 x.stop,.slice sa x.spans.length ta] 43)).drew:=hW
    go_wp2_with fail
    exact hK
   simp only[zP,zQ,zB,zC];apply ae (.int .i64 x.stop) rfl rfl rfl rfl
   case h=>
    intro W1 hW K hK;obtain rfl:W1=(Wa.alloc (.cells #[.int .i64 x.stop,.slice sa x.spans.length ta] 43)).drew:=hW;obtain⟨q0,q1,q2,q3,q4,q5⟩:=HR.out
    go_wp2_with fail
    exact hK
   simp only[zP,zQ,zB,zC];apply ae (.slice (some ⟨bb,bo,none⟩) l.length cb) rfl rfl rfl rfl
   case h=>
    intro W1 hW K hK;obtain rfl:W1=(Wa.alloc (.cells #[.int .i64 x.stop,.slice sa x.spans.length ta] 43)).drew:=hW
    go_wp2_with fail
    exact hK
   simp only[zP,zQ,zB,zC];apply ae (.int .i64 (i:Nat)) rfl rfl rfl rfl
   case h=>
    intro W1 hW K hK;obtain rfl:W1=(Wa.alloc (.cells #[.int .i64 x.stop,.slice sa x.spans.length ta] 43)).drew:=hW
    go_wp2_with fail
    exact hK
   simp only[zP,zQ,zB,zC];apply ae (.pointer (some ⟨bb,bo+i*2,none⟩)) rfl rfl rfl rfl
   case h=>
    intro W1 hW K hK;obtain rfl:W1=(Wa.alloc (.cells #[.int .i64 x.stop,.slice sa x.spans.length ta] 43)).drew:=hW
    go_wp2_with fail
    exact hK
   simp only[zP,zQ,zB,zC];apply ae (.pointer (some ⟨bb,bo+i*2,none⟩)) rfl rfl rfl rfl
   case h=>
    intro W1 hW K hK;obtain rfl:W1=(Wa.alloc (.cells #[.int .i64 x.stop,.slice sa x.spans.length ta] 43)).drew:=hW
    go_wp2_with fail
    exact hK
   simp only[zP,zQ,zB,zC];apply ae (.int .i64 x.stop) rfl rfl rfl rfl
   case h=>
    intro W1 hW K hK;obtain rfl:W1=(Wa.alloc (.cells #[.int .i64 x.stop,.slice sa x.spans.length ta] 43)).drew:=hW;obtain⟨q0,q1,q2,q3,q4,q5⟩:=HR.out
    go_wp2_with fail
    exact hK
   simp only[zP,zQ,zB,zC];apply ae (.bool false) rfl rfl rfl rfl
   case h=>
    intro W1 hW K hK;obtain rfl:W1=(Wa.alloc (.cells #[.int .i64 x.stop,.slice sa x.spans.length ta] 43)).drew:=hW
    go_wp2_with fail
    exact hK
   simp only[zP,zQ,zB,zC];apply ae (.bool false) rfl rfl rfl rfl
   case h=>
    intro W1 hW K hK;obtain rfl:W1=(Wa.alloc (.cells #[.int .i64 x.stop,.slice sa x.spans.length ta] 43)).drew:=hW
    go_wp2_with fail
    exact hK
   simp only[zP,zQ,zB,zC];apply ae (.pointer (some ⟨Wa.heap.size,1,none⟩)) rfl rfl rfl rfl
   case h=>
    intro W1 hW K hK;obtain rfl:W1=(Wa.alloc (.cells #[.int .i64 x.stop,.slice sa x.spans.length ta] 43)).drew:=hW
    go_wp2_with fail
    exact hK
   simp only[zP,zQ,zB,zC];apply ae (.slice sa x.spans.length ta) rfl rfl rfl rfl
   case h=>
    intro W1 hW K hK;obtain rfl:W1=(Wa.alloc (.cells #[.int .i64 x.stop,.slice sa x.spans.length ta] 43)).drew:=hW;obtain⟨q0,q1,q2,q3,q4,q5⟩:=HR.out
    go_wp2_with fail
    exact hK
   simp only[zP,zQ,zB,zC];apply ae (.slice (some ⟨bb,bo,none⟩) l.length cb) rfl rfl rfl rfl
   case h=>
    intro W1 hW K hK;obtain rfl:W1=(Wa.alloc (.cells #[.int .i64 x.stop,.slice sa x.spans.length ta] 43)).drew:=hW
    go_wp2_with fail
    exact hK
   simp only[zP,zQ,zB,zC];apply ae (.int .i64 (i:Nat)) rfl rfl rfl rfl
   case h=>
    intro W1 hW K hK;obtain rfl:W1=(Wa.alloc (.cells #[.int .i64 x.stop,.slice sa x.spans.length ta] 43)).drew:=hW
    go_wp2_with fail
    exact hK
   simp only[zP,zQ,zB,zC];apply ae (.pointer (some ⟨bb,bo+i*2,none⟩)) rfl rfl rfl rfl
   case h=>
    intro W1 hW K hK;obtain rfl:W1=(Wa.alloc (.cells #[.int .i64 x.stop,.slice sa x.spans.length ta] 43)).drew:=hW
    go_wp2_with fail
    exact hK
   simp only[zP,zQ,zB,zC];apply ae (.pointer (some ⟨bb,bo+i*2+1,none⟩)) rfl rfl rfl rfl
   case h=>
    intro W1 hW K hK;obtain rfl:W1=(Wa.alloc (.cells #[.int .i64 x.stop,.slice sa x.spans.length ta] 43)).drew:=hW
    go_wp2_with fail
    exact hK
   simp only[zP,zQ,zB,zC];apply ae (.slice sb x.spans.length tb) rfl rfl rfl rfl
   case h=>
    intro W1 hW K hK;obtain rfl:W1=(Wa.alloc (.cells #[.int .i64 x.stop,.slice sa x.spans.length ta] 43)).drew:=hW;obtain⟨q0,q1,q2,q3,q4,q5⟩:=HR.out
    go_wp2_with fail
    exact hK
   simp only[zP,zQ,zB,zC];apply ax rfl rfl rfl
   case h=>
    intro W1 hW K hK;obtain rfl:W1=(Wa.alloc (.cells #[.int .i64 x.stop,.slice sa x.spans.length ta] 43)).drew:=hW
    go_wp2_with (go_at_call 31;(refine HSP.out.mono ?_;rintro e2 w2 ⟨rfl,hb2⟩))
    exact⟨rfl,(zR.drew).trans hb2⟩
   intro v hv;obtain⟨_,rfl,-⟩:=hv;simp only[zP,zQ,zB,zC];apply ag (.bool false) rfl rfl rfl rfl
   case h=>
    intro W1 hW K hK;obtain⟨-,-⟩:=hW
    go_wp2_with fail
    exact hK
   simp only[zP,zQ,zB,zC];apply ag (.bool false) rfl rfl rfl rfl
   case h=>
    intro W1 hW K hK;obtain⟨-,-⟩:=hW
    go_wp2_with fail
    exact hK
   simp only[zP,zQ,zB,zC];refine aG fun W7 h7=> ?_
   have H7:=zh (HB0.out.trans (h7.2.mono HB0.out.size));clear h7
   go_wp2_with fail
   go_roundw
   case rel=>exact⟨i+1,by omega,by go_num,H7.out⟩
   case measure=>simp[intOf];omega
variable {Q:Exit→Act→World→Prop} {cs2:List Value} {B1 B2 D c g off q so:Nat} {av lv:Value} {W Wl:World}
theorem SV {a:Nat} {o:Option Addr} (e:Nat→Value)
  (hT:jI B1 B2 G L L2 lv av l cs cs2 Wl) (hlv:lv= .slice (some ⟨g,0,none⟩) l.length c) (hn:l.length≤500) (ha:a<l.length) (hG:G≤64) (hu:cs[a*2+1]? =some (.slice o G so))
  (ho:0<G→o=some ⟨q,off,none⟩∧G≤so∧so≤maxLen∧q≠g∧off+G*2≤D) (hI:TlI B1 lv l.length cs Wl a G q D W)
  (hQ:∀(m:List Value) (w':World),m.length=206→Kp [e 0,e 1,e 2,e 3,e 4,e 5,e 6,.slice (some ⟨g,0,none⟩) l.length c,e 8,e 9,e 10,e 11,e 12,e 13,e 14,e 15,e 16,e 17,e 18,e 19,e 20,e 21,e 22,e 23,e 24,e 25,e 26,.int .i64 (a:Nat),e 28,e 29,e 30,e 31,e 32,e 33,e 34,e 35,e 36,e 37,e 38,e 39,e 40,e 41,e 42,e 43,e 44,e 45,e 46,e 47,e 48,e 49,e 50,e 51,e 52,e 53,e 54,e 55,e 56,e 57,e 58,e 59,e 60,e 61,e 62,e 63,e 64,e 65,e 66,e 67,e 68,e 69,e 70,e 71,e 72,e 73,e 74,e 75,e 76,e 77,e 78,e 79,e 80,e 81,e 82,e 83,e 84,e 85,e 86,e 87,e 88,e 89,e 90,e 91,e 92,e 93,e 94,e 95,e 96,e 97,e 98,e 99,e 100,e 101,e 102,e 103,e 104,e 105,e 106,e 107,e 108,e 109,e 110,e 111,e 112,e 113,e 114,e 115,e 116,e 117,e 118,e 119,e 120,e 121,e 122,e 123,e 124,e 125,e 126,e 127,e 128,e 129,e 130,e 131,e 132,e 133,e 134,e 135,e 136,e 137,e 138,e 139,e 140,e 141,e 142,e 143,e 144,e 145,e 146,e 147,e 148,e 149,e 150,e 151,e 152,e 153,e 154,e 155,e 156,e 157,e 158,e 159,e 160,e 161,e 162,e 163,e 164,e 165,e 166,e 167,e 168,e 169,e 170,e 171,e 172,.slice o G so,.int .i64 (G:Nat),.int .i64 0,e 176,e 177,e 178,e 179,e 180,e 181,e 182,e 183,e 184,e 185,e 186,e 187,e 188,e 189,e 190,e 191,e 192,e 193,e 194,e 195,e 196,e 197,e 198,e 199,e 200,e 201,e 202,e 203,e 204,e 205] m [1,5,6,7,9,27,164,165,166]→TlI B1 lv l.length cs Wl a G q D w'→Q (.exit 2) ⟨m.toArray,[]⟩ w'):
  Code.wp Tryz.prog (tlC [1,1,1,1,1,1,1,1,1,1,1,1,1,1,1,1,0,1,0,0,1,1,0,0,1,0,1,0]) Q ⟨#[e 0,e 1,e 2,e 3,e 4,e 5,e 6,.slice (some ⟨g,0,none⟩) l.length c,e 8,e 9,e 10,e 11,e 12,e 13,e 14,e 15,e 16,e 17,e 18,e 19,e 20,e 21,e 22,e 23,e 24,e 25,e 26,.int .i64 (a:Nat),e 28,e 29,e 30,e 31,e 32,e 33,e 34,e 35,e 36,e 37,e 38,e 39,e 40,e 41,e 42,e 43,e 44,e 45,e 46,e 47,e 48,e 49,e 50,e 51,e 52,e 53,e 54,e 55,e 56,e 57,e 58,e 59,e 60,e 61,e 62,e 63,e 64,e 65,e 66,e 67,e 68,e 69,e 70,e 71,e 72,e 73,e 74,e 75,e 76,e 77,e 78,e 79,e 80,e 81,e 82,e 83,e 84,e 85,e 86,e 87,e 88,e 89,e 90,e 91,e 92,e 93,e 94,e 95,e 96,e 97,e 98,e 99,e 100,e 101,e 102,e 103,e 104,e 105,e 106,e 107,e 108,e 109,e 110,e 111,e 112,e 113,e 114,e 115,e 116,e 117,e 118,e 119,e 120,e 121,e 122,e 123,e 124,e 125,e 126,e 127,e 128,e 129,e 130,e 131,e 132,e 133,e 134,e 135,e 136,e 137,e 138,e 139,e 140,e 141,e 142,e 143,e 144,e 145,e 146,e 147,e 148,e 149,e 150,e 151,e 152,e 153,e 154,e 155,e 156,e 157,e 158,e 159,e 160,e 161,e 162,e 163,e 164,e 165,e 166,e 167,e 168,e 169,e 170,e 171,e 172,.slice o G so,.int .i64 (G:Nat),.int .i64 0,e 176,e 177,e 178,e 179,e 180,e 181,e 182,e 183,e 184,e 185,e 186,e 187,e 188,e 189,e 190,e 191,e 192,e 193,e 194,e 195,e 196,e 197,e 198,e 199,e 200,e 201,e 202,e 203,e 204,e 205],[]⟩ W:=by
 have HT:=zh hT;have HI:=zh hI;have HQ:=zh hQ;have HO:=zh ho;have HU:=zh hu;have HLV:=zh hlv;have hGI:(G:Int)≤64:=(by omega);have hnI:(l.length:Int)≤500:=(by omega);have haI:(a:Int)<l.length:=(by omega);clear hT hI hQ ho hu hlv;conv=>arg 2;whnf
 go_wp2_with fail
 go_loopw [175] (fun Qk wx=>∃b:Nat,b≤G∧Qk= .int .i64 b∧TlI B1 lv l.length cs Wl a G q D wx) (fun Qk _=>G-(intOf Qk).toNat)
 case atStart=>exact⟨0,by omega,rfl,HI.out⟩
 case round=>
  rename World=>Wa
  obtain⟨b,hb,rfl,hi⟩:=hrel;have HB:=zh hi;by_cases hbl:¬b<G
  ·obtain rfl:b=G:=(by omega);clear hi hbl
   go_wp2_with fail
   refine HQ.out _ _ rfl ?_ HB.out;intro i hi;simp only[List.mem_cons,List.not_mem_nil,or_false] at hi;rcases hi with rfl|rfl|rfl|rfl|rfl|rfl|rfl|rfl|rfl<;>rfl
  ·have hbl:b<G:=(by omega);have hbI:(b:Int)<G:=(by omega);obtain⟨rfl,ho1,ho2,ho3,ho4⟩:=HO.out (by omega);obtain⟨o',so',hu',w1,-,-,gz,-,-⟩:=HT.out.way hi.r HLV.out ha;rw[HU.out] at hu';simp only[Option.some.injEq,Value.slice.injEq,true_and] at hu';obtain⟨rfl,rfl⟩:=hu';obtain⟨d,hd,hds⟩:=hi.blk (by omega);have d0:Wa.cell? ⟨q,off+b*2,none⟩=some (d[off+b*2]'(by omega)):=by rw[hd.cell];exact Array.getElem?_eq_getElem (by omega)
   have d1:Wa.cell? ⟨q,off+b*2+1,none⟩=some (d[off+b*2+1]'(by omega)):=by rw[hd.cell];exact Array.getElem?_eq_getElem (by omega)
   have df:∀i,Wa.frozen? ⟨q,i,none⟩=false:=hd.frozen;have dz:=hd.lt;obtain⟨x0,hx0⟩:∃x0,x0=(d[off+b*2]'(by omega)):=⟨_,rfl⟩;obtain⟨x1,hx1⟩:∃x1,x1=(d[off+b*2+1]'(by omega)):=⟨_,rfl⟩;rw[←hx0] at d0;rw[←hx1] at d1;have HP:=zh (hi.put (i:=off+b*2) (x:= .int .i64 (-7)) (y:= .int .i64 (-7)) (by omega) HLV.out ho3 HU.out (off+b*2+1));clear hi hd hds hx0 hx1 hbl
   go_wp2_with fail
   go_roundw
   case rel=>exact⟨b+1,by omega,by go_num,HP.out⟩
   case measure=>simp[intOf];omega
variable {nc:Array Value} {lazy:Bool} {hi k lo:Int} {set:List Rg} {B sc:Nat} {os:Option Addr} {v':Value} {w0:World}
noncomputable def tsC (p:List Nat):Code:=gU (way p) (Tryz.f25.body.getD .skip)
theorem uF {l:List Value} (h:l.length=47):∃e:Nat→Value,l=[e 0,e 1,e 2,e 3,e 4,e 5,e 6,e 7,e 8,e 9,e 10,e 11,e 12,e 13,e 14,e 15,e 16,e 17,e 18,e 19,e 20,e 21,e 22,e 23,e 24,e 25,e 26,e 27,e 28,e 29,e 30,e 31,e 32,e 33,e 34,e 35,e 36,e 37,e 38,e 39,e 40,e 41,e 42,e 43,e 44,e 45,e 46]:=by
 refine⟨fun k=>l.getD k undef,?_⟩;have h2:l=(List.range 47).map fun k=>l.getD k undef:=by
  apply List.ext_getElem
  ·simp[h]
  ·intro i h1 h2;simp[List.getD_eq_getElem?_getD,h1]
 exact h2
theorem Ql:(Tryz.prog.info? 123).map (fun i=>(i.zero,i.size,i.bytes))=some (some (.agg #[.int .i64 0,.int .i64 0]),2,16):=by kernel_rfl
structure ui (B:Nat) (nc:Array Value) (k lo hi:Int) (lazy:Bool) (sv:Value) (j:Nat) (cs:List Value) (w0 w:World):Prop where
 src:Blk w B nc 27
 res:Blk w (B+1) #[.int .u8 0,.slice none 0 0,.int .i64 0,.int .i64 0,.bool false,.slice none 0 0] 70
 box:Blk w (B+2) #[.int .u8 k,sv,.int .i64 lo,.int .i64 hi,.bool lazy,.slice none 0 0] 70
 row:w.ownsRow (B+3) 123 2 sv j cs
 below:Below B w0 w
 hB:w0.heap.size=B
theorem ui.go (h:ui B nc k lo hi lazy sv j cs w0 w) (hb:Below w.heap.size w w'):ui B nc k lo hi lazy sv j cs w0 w':=by
 have kp:Kept (fun _=>False) w w':=Kept.of_below hb _;exact⟨h.src.kept kp id,h.res.kept kp id,h.box.kept kp id,aB h.row kp (fun _ _=>id),h.below.trans (hb.mono (by have:=h.src.lt;omega)),h.hB⟩
theorem ui.put (h:ui B nc k lo hi lazy sv j cs w0 w) (hg:w.grownBy w4 sv.ownBlock) (ho:w4.ownsRow (B+3) 123 2 v' n cs'):ui B nc k lo hi lazy v' n cs' w0 (w4.setCell ⟨B+2,1,none⟩ v'):=by
 have kp:=eU hg;have hb4:Below B w0 w4:=by
  have h0:=h.below;have h1:=h.hB;subst h1;exact((Kept.of_below h0 (fun b=>sv.ownBlock=some b)).trans kp).below (fun q hq e=>by have:=(h.row.lt q e).1;omega)
 have hbx:=h.box.kept kp (cZ h.row h.box (by decide));exact⟨(h.src.kept kp (cZ h.row h.src (by decide))).setOther (by simp) _,(h.res.kept kp (cZ h.row h.res (by decide))).setOther (by simp) _,hbx.set 1 _,ownsRow_setCell_other ho (a:=⟨B+2,1,none⟩) (cZ ho hbx (by decide)) _,hb4.setCell (by simp) _,h.hB⟩
theorem JQ (e:Nat→Value)
  (hset:dG N w0 (.slice os set.length sc) set) (hT:ui B nc k lo hi lazy (.slice none 0 0) 0 [] w0 W)
  (hQ:∀(m:List Value) (w':World) (sv:Value),m.length=47→(m[1]? =some (e 1)∧m[2]? =some (e 2)∧m[3]? =some (.pointer (some ⟨B+2,0,none⟩)))→ui B nc k lo hi lazy sv set.length (set.flatMap jL) w0 w'→Q (.exit 0) ⟨m.toArray,[]⟩ w'):
  Code.wp Tryz.prog (tsC [1,1,0,1,0]) Q ⟨#[e 0,e 1,e 2,.pointer (some ⟨B+2,0,none⟩),e 4,e 5,e 6,e 7,e 8,e 9,e 10,e 11,e 12,e 13,e 14,e 15,e 16,e 17,.slice os set.length sc,.int .i64 (set.length:Nat),.int .i64 0,e 21,e 22,e 23,e 24,e 25,e 26,e 27,e 28,e 29,e 30,e 31,e 32,e 33,e 34,e 35,e 36,e 37,e 38,e 39,e 40,e 41,e 42,e 43,e 44,e 45,e 46],[]⟩ W:=by
 obtain⟨i0,hi0,hz0,hz1,hz2⟩:=info_parts Ql;have SX:(set.length:Int)≤1048576:=by have:=hset.small;omega
 have HS:=zh hset;have HT:=zh hT;have HQ:=zh hQ;clear hset hT hQ;conv=>arg 2;whnf
 go_wp2_with fail
 go_loopw [20] (fun s20 wx=>∃(i:Nat) (sv:Value),i≤set.length∧s20= .int .i64 i∧ui B nc k lo hi lazy sv i ((set.take i).flatMap jL) w0 wx) (fun s20 _=>set.length-(intOf s20).toNat)
 case atStart=>exact⟨0,.slice none 0 0,by omega,rfl,HT.out⟩
 case round=>
  rename World=>Wa
  obtain⟨i,sv,hi,rfl,hat⟩:=hrel;obtain⟨ov,cv,rfl⟩:=ay hat.row;have HAT:=zh hat;by_cases hil:¬i<set.length
  ·obtain rfl:i=set.length:=(by omega);clear hat hil
   go_wp2_with fail
   exact HQ.out _ _ _ rfl ⟨rfl,rfl,rfl⟩ (by have:=HAT.out;rw[List.take_length] at this;exact this)
  ·have hil:i<set.length:=(by omega);have hiI:(i:Int)<set.length:=(by omega);obtain⟨ab,ao,ac,ea,hac,-,-,oM,hca⟩:=HS.out.cells (by omega);simp only[Value.slice.injEq,true_and] at ea;obtain⟨rfl,rfl⟩:=ea;have Nw:(set.length:Int)≤sc:=(by omega);obtain⟨-,-,a0,a1⟩:=hca i hil;obtain⟨x,hx⟩:∃x,x=set[i].lo:=⟨_,rfl⟩;obtain⟨y,hy⟩:∃y,y=set[i].hi:=⟨_,rfl⟩;have hsu:(set.take (i+1)).flatMap jL=(set.take i).flatMap jL++[.int .i64 x,.int .i64 y]:=by
    rw[List.take_succ_eq_append_getElem hil,List.flatMap_append,hx,hy];simp[jL]
   rw[←hx] at a0;rw[←hy] at a1;have hbw:Below w0.heap.size w0 Wa:=by have h1:=hat.below;have h2:=hat.hB;subst h2;exact h1
   have a0:=(zW (hbw.block _ oM)).trans a0;have a1:=(zW (hbw.block _ oM)).trans a1;have az:ab<Wa.heap.size:=Nat.lt_of_lt_of_le oM hbw.size;have h2:=(hat.go (zR.alloc zL (.cells #[.int .i64 x,.int .i64 y] 122)));have h3:=(h2.go (zR.alloc zL (.cells #[.int .i64 x,.int .i64 y] 123)));have c1:=h2.box.cell 1;have cz:=h2.box.lt;have d0:=(Blk.new Wa #[.int .i64 x,.int .i64 y] 122).cell 0;have d1:=(Blk.new Wa #[.int .i64 x,.int .i64 y] 122).cell 1;have H3:=zh h3;have HSU:=zh hsu;clear hca hx hy hat hsu hbw h2 h3;have hsr:dI ((Wa.alloc (.cells #[.int .i64 x,.int .i64 y] 122)).alloc (.cells #[.int .i64 x,.int .i64 y] 123)) (.slice (some ⟨Wa.heap.size+1,0,none⟩) 1 1) 1 [.int .i64 x,.int .i64 y]:=Bz (by simp);have HSR:=zh hsr;have hmx:i+1≤maxLen:=by unfold maxLen;omega
   have hby:(i+1)*16≤140737488355328:=(by omega);have hbs:B+3≤((Wa.alloc (.cells #[.int .i64 x,.int .i64 y] 122)).alloc (.cells #[.int .i64 x,.int .i64 y] 123)).heap.size:=by have:=HAT.out.box.lt;simp;omega
   have HBS:=zh hbs;clear hsr hbs
   go_wp2_with (first|(at_builtin;(refine aA rfl _ _ 67 rfl Tryz.underlying67 hi0 hz0 hz1 hz2 rfl (.slice ov i cv) i ((set.take i).flatMap jL) rfl H3.out.row _ 1 _ rfl HSR.out rfl (by simp[Value.oneCell']) hmx hby HBS.out ?_;intro v' w4 hown' hgrow h3' h4';obtain⟨o5,c5,rfl⟩:=ay hown';have hG:=H3.out.put hgrow hown';have HG:=zh hG;have hbx:=H3.out.box.kept (eU hgrow) (cZ H3.out.row H3.out.box (by decide));have f1:=hbx.cell 1;have fz:=hbx.lt;have ff:=hbx.frozen 1;clear hown' hgrow h3' h4' hG hbx)))
   go_roundw
   case rel=>exact⟨i+1,.slice o5 (i+1) c5,by omega,by go_num,by rw[HSU.out];exact HG.out⟩
   case measure=>simp[intOf];omega
variable {t:Nd} {uv:Value}
def ThN (w0:World) (uv:Value) (q:Nat):Prop:=w0.heap.size+3≤q∧uv.ownBlock≠some q
structure qi (B:Nat) (nc:Array Value) (k lo hi:Int) (lazy:Bool) (set:List Rg) (sv uv:Value) (acc:List Nd) (w0 w:World):Prop where
 src:Blk w B nc 27
 res:Blk w (B+1) #[.int .u8 0,.slice none 0 0,.int .i64 0,.int .i64 0,.bool false,.slice none 0 0] 70
 box:Blk w (B+2) #[.int .u8 k,sv,.int .i64 lo,.int .i64 hi,.bool lazy,uv] 70
 JR:w.ownsRow (B+3) 123 2 sv set.length (set.flatMap jL)
 row:∃cs,w.ownsRow (B+3) 70 6 uv acc.length cs∧au (ThN w0 uv) w acc cs
 below:Below B w0 w
 hB:w0.heap.size=B
theorem qi.go {acc:List Nd} (h:qi B nc k lo hi lazy set sv uv acc w0 w) (hb:Below w.heap.size w w'):qi B nc k lo hi lazy set sv uv acc w0 w':=by
 have kp:Kept (fun _=>False) w w':=Kept.of_below hb _;obtain⟨cs,h1,h2⟩:=h.row;exact⟨h.src.kept kp id,h.res.kept kp id,h.box.kept kp id,aB h.JR kp (fun _ _=>id),⟨cs,aB h1 kp (fun _ _=>id),au.go kp (fun _ _ hq=>⟨id,hq⟩) h2⟩,h.below.trans (hb.mono (by have:=h.src.lt;omega)),h.hB⟩
theorem au.OL {c1:List Value} (h1:ai N w t c1):∀{acc:List Nd} {cs:List Value},au N w acc cs→au N w (acc++[t]) (cs++c1)
 |[],cs,h=>by
  rw[au] at h;subst h;exact⟨c1,[],by simp,h1,rfl⟩
 |s::r,cs,h=>by
  obtain⟨a,b,rfl,h2,h3⟩:=h;exact⟨a,b++c1,by rw[List.append_assoc],h2,au.OL h1 h3⟩
theorem qi.put {acc:List Nd} {c1:List Value} (h:qi B nc k lo hi lazy set sv uv acc w0 w) (hcs:w.ownsRow (B+3) 70 6 uv acc.length cs)
  (hg:w.grownBy w4 uv.ownBlock) (ho:w4.ownsRow (B+3) 70 6 v' (acc.length+1) (cs++c1)) (hnb:v'.ownBlock=uv.ownBlock∨v'.ownBlock=some w.heap.size) (hns:au (fun q=>ThN w0 uv q∧q<w.heap.size) w (acc++[t]) (cs++c1)):
  qi B nc k lo hi lazy set sv v' (acc++[t]) w0 (w4.setCell ⟨B+2,5,none⟩ v'):=by
 have kp:=eU hg;have hbk:∀q,q<B+3→uv.ownBlock≠some q:=fun q hq e=>by have:=(hcs.lt q e).1;omega
 have hbk':∀q,q<B+3→v'.ownBlock≠some q:=fun q hq e=>by have:=(ho.lt q e).1;omega
 have hb4:Below B w0 w4:=by
  have h0:=h.below;have h1:=h.hB;subst h1;exact((Kept.of_below h0 (fun b=>uv.ownBlock=some b)).trans kp).below (fun q hq e=>hbk q (by omega) e)
 have hbx:=h.box.kept kp (hbk _ (by omega));have hst:=aB h.JR kp (fun g hg e=>rO h.JR hcs (by decide) hg e);refine⟨(h.src.kept kp (hbk _ (by omega))).setOther (by simp) _,(h.res.kept kp (hbk _ (by omega))).setOther (by simp) _,hbx.set 5 _,ownsRow_setCell_other hst (a:=⟨B+2,5,none⟩) (cZ hst hbx (by decide)) _,⟨cs++c1,?_,?_⟩,hb4.setCell (by simp) _,h.hB⟩
 ·rw[List.length_append];exact ownsRow_setCell_other ho (a:=⟨B+2,5,none⟩) (hbk' _ (by simp)) _
 ·have k2:Kept (fun b=>uv.ownBlock=some b∨b=B+2) w (w4.setCell ⟨B+2,5,none⟩ v'):=(Kept.mono kp (fun _ _ e=> .inl e)).setCell (p:=⟨B+2,5,none⟩) (fun _=> .inr rfl) _;refine au.go k2 (fun q _ hq=>⟨fun e=> ?_,hq.1.1,fun e=> ?_⟩) hns
  ·rcases e with e|e
   ·exact hq.1.2 e
   ·have:=hq.1.1;have:=h.hB;omega
  ·rcases hnb with e2|e2
   ·exact hq.1.2 (e2.symm.trans e)
   ·rw[e2] at e;simp only[Option.some.injEq] at e;have:=hq.2;omega
variable {subs:List Nd} {ucs:List Value} {cu:Nat} {ou:Option Addr}
theorem Qm:(Tryz.prog.info? 70).map (fun i=>(i.zero,i.size,i.bytes))=some (some (.agg #[.int .u8 0,.slice none 0 0,.int .i64 0,.int .i64 0,.bool false,.slice none 0 0]),6,80):=by kernel_rfl
def qU (t:Nd):Prop:=∀(N:Nat→Prop) (w:World) (cs:List Value),ai N w t cs→
 Calls Tryz.prog 25 #[.agg cs.toArray] w (Trd (fun q=>w.heap.size≤q) t w)
def thW (B:Nat) (nc:Array Value) (k lo hi:Int) (lazy:Bool) (set:List Rg) (sv uv:Value) (acc:List Nd) (t:Nd) (w0 W:World):List Value→World→Prop
 |[]=>fun w'=>w'=W.drew
 |[v3]=>fun w'=>∃(k lo hi:Int) (lz:Bool) (o1 o2:Option Addr) (n1 c1 n2 c2:Nat),v3= .agg (six k lo hi lz o1 o2 n1 c1 n2 c2).toArray∧ai (ThN w0 uv) w' t (six k lo hi lz o1 o2 n1 c1 n2 c2)∧Below W.heap.size W w'
 |[v3,v4]=>fun w'=>∃(k lo hi:Int) (lz:Bool) (o1 o2:Option Addr) (n1 c1 n2 c2 q:Nat),v3= .agg (six k lo hi lz o1 o2 n1 c1 n2 c2).toArray∧v4= .slice (some ⟨q,0,none⟩) 1 1∧dI w' (.slice (some ⟨q,0,none⟩) 1 1) 1 (six k lo hi lz o1 o2 n1 c1 n2 c2)∧ai (ThN w0 uv) w' t (six k lo hi lz o1 o2 n1 c1 n2 c2)∧Below W.heap.size W w'
 |[_,_,v5]=>fun w'=>∃o c,v5= .slice o (acc.length+1) c∧qi B nc k lo hi lazy set sv (.slice o (acc.length+1) c) (acc++[t]) w0 (w'.setCell ⟨B+2,5,none⟩ (.slice o (acc.length+1) c))∧Kept (fun q=>uv.ownBlock=some q) W w'
 |[_,_,_,_]=>fun w'=>∃o c,qi B nc k lo hi lazy set sv (.slice o (acc.length+1) c) (acc++[t]) w0 w'
 |_=>fun _=>False
theorem JS (e:Nat→Value)
  (ih:∀s∈subs,qU s) (hrow:Row N w0 (.slice ou subs.length cu) subs.length 6 ucs) (hsubs:au N w0 subs ucs) (hsl:(subs.length:Int)≤1048576) (hT:qi B nc k lo hi lazy set sv (.slice none 0 0) [] w0 W)
  (hQ:∀(m:List Value) (w':World) (uv:Value),m.length=47→(m[1]? =some (e 1)∧m[2]? =some (e 2)∧m[3]? =some (.pointer (some ⟨B+2,0,none⟩)))→qi B nc k lo hi lazy set sv uv subs w0 w'→Q (.exit 2) ⟨m.toArray,[]⟩ w'):
  Code.wp Tryz.prog (tsC [1,1,1,0,1,0]) Q ⟨#[e 0,e 1,e 2,.pointer (some ⟨B+2,0,none⟩),e 4,e 5,e 6,e 7,e 8,e 9,e 10,e 11,e 12,e 13,e 14,e 15,e 16,e 17,e 18,e 19,e 20,e 21,e 22,e 23,e 24,e 25,e 26,e 27,e 28,e 29,e 30,e 31,.slice ou subs.length cu,.int .i64 (subs.length:Nat),.int .i64 0,e 35,e 36,e 37,e 38,e 39,e 40,e 41,e 42,e 43,e 44,e 45,e 46],[]⟩ W:=by
 obtain⟨i0,hi0,hz0,hz1,hz2⟩:=info_parts Qm;have HIH:=zh ih;have dQ:=zh hrow;have eY:=zh hsubs;have HT:=zh hT;have HQ:=zh hQ;clear ih hrow hsubs hT hQ;conv=>arg 2;whnf
 go_wp2_with fail
 go_loopw [34] (fun s34 wx=>∃(i:Nat) (uv:Value),i≤subs.length∧s34= .int .i64 i∧qi B nc k lo hi lazy set sv uv (subs.take i) w0 wx) (fun s34 _=>subs.length-(intOf s34).toNat)
 case atStart=>exact⟨0,.slice none 0 0,by omega,rfl,by rw[List.take_zero];exact HT.out⟩
 case round=>
  rename World=>Wa
  obtain⟨i,uv,hi',rfl,hat⟩:=hrel;have HAT:=zh hat;by_cases hil:¬i<subs.length
  ·obtain rfl:i=subs.length:=(by omega);clear hat hil
   go_wp2_with fail
   exact HQ.out _ _ _ rfl ⟨rfl,rfl,rfl⟩ (by have:=HAT.out;rw[List.take_length] at this;exact this)
  ·have hil:i<subs.length:=(by omega);have pO:(i:Int)<subs.length:=(by omega);obtain⟨ub,uo,uc,hue,huc,hum,Fz,bg,gB⟩:=dQ.out.parts eY.out (by omega);simp only[Value.slice.injEq,true_and] at hue;obtain⟨rfl,rfl⟩:=hue;obtain⟨tsv,tuv,hnt,t0,t1,t2,t3,t4,t5⟩:=gB i hil;obtain⟨k',lo',Sj,lz',o1,o2,n1,c1,n2,c2,he⟩:=iP hnt;simp only[List.cons.injEq,Value.int.injEq,Value.bool.injEq,true_and,and_true] at he;obtain⟨rfl,rfl,rfl,rfl,rfl,rfl⟩:=he;obtain⟨ts,hts⟩:∃ts,ts=subs[i]:=⟨_,rfl⟩;have hbz:Below w0.heap.size w0 Wa:=by have h1:=hat.below;have h2:=hat.hB;subst h2;exact h1
   have BC:subs.take i++[ts]=subs.take (i+1):=by rw[List.take_succ_eq_append_getElem hil,hts]
   have g0:=(hbz.cell (p:=⟨ub,uo+i*6,none⟩) bg).trans t0;have g1:=(hbz.cell (p:=⟨ub,uo+i*6+1,none⟩) bg).trans t1;have g2:=(hbz.cell (p:=⟨ub,uo+i*6+2,none⟩) bg).trans t2;have g3:=(hbz.cell (p:=⟨ub,uo+i*6+3,none⟩) bg).trans t3;have g4:=(hbz.cell (p:=⟨ub,uo+i*6+4,none⟩) bg).trans t4;have g5:=(hbz.cell (p:=⟨ub,uo+i*6+5,none⟩) bg).trans t5;have Ej:ub<Wa.heap.size:=by have:=hbz.size;omega
   have lK:(subs.length:Int)≤cu:=(by omega);rw[←hts] at g0 g2 g3 g4 hnt;have hih:=HIH.out ts (by rw[hts];exact List.getElem_mem hil) N;have HSN:=zh BC;have HNT:=zh hnt;have PQ:=zh hih;have HBZ:=zh hbz;clear gB t0 t1 t2 t3 t4 t5 hat hbz hnt hts hih BC;go_upto_region 10 with fail
   have hbC:Below Wa.heap.size Wa (Wa.alloc (.cells #[.int .u8 ts.kind,.slice o1 n1 c1,.int .i64 ts.lo,.int .i64 ts.hi,.bool ts.lazy,.slice o2 n2 c2] 27)):=zR.alloc zL _;have hBe:Blk (Wa.alloc (.cells #[.int .u8 ts.kind,.slice o1 n1 c1,.int .i64 ts.lo,.int .i64 ts.hi,.bool ts.lazy,.slice o2 n2 c2] 27)) Wa.heap.size #[.int .u8 ts.kind,.slice o1 n1 c1,.int .i64 ts.lo,.int .i64 ts.hi,.bool ts.lazy,.slice o2 n2 c2] 27:=Blk.new _ _ _;generalize (Wa.alloc (.cells #[.int .u8 ts.kind,.slice o1 n1 c1,.int .i64 ts.lo,.int .i64 ts.hi,.bool ts.lazy,.slice o2 n2 c2] 27))=Wc at hbC hBe ⊢;have BF:=HAT.out.go hbC;obtain⟨ps,hro,hrn⟩:=BF.row;obtain⟨ov,cv,rfl⟩:=eX hro;have hlt:(subs.take i).length=i:=by rw[List.length_take];omega
   rw[hlt] at hro BF;have hez:Wa.heap.size<Wc.heap.size:=hBe.lt;have wu:∀q,(Value.slice ov i cv).ownBlock=some q→B+3≤q∧q<Wa.heap.size:=fun q hq=>by
    obtain⟨ps',hh,-⟩:=HAT.out.row;exact hh.lt q (by rw[hlt];exact hq)
   have hB2:B+2<Wa.heap.size∧w0.heap.size=B:=⟨HAT.out.box.lt,HAT.out.hB⟩;have hcall:=PQ.out Wc.drew _ (ai.go (Kept.of_below ((HBZ.out.trans (hbC.mono HBZ.out.size)).drew) (fun _=>False)) (fun q _ hn=>⟨id,hn⟩) HNT.out);have aS:=zh hcall;have wZ:=zh BF;have HRO:=zh hro;rw[hlt] at hrn;have HRN:=zh hrn;have HLT:=zh hlt;have HBE:=zh hBe;have HOWN:=zh wu;have HEZ:=zh hez;have HB2:=zh hB2;have ng:i+1≤maxLen:=by unfold maxLen;omega
   have lM:(i+1)*80≤140737488355328:=(by omega);clear hcall BF hro hrn hBe wu hbC g0 g1 g2 g3 g4 g5 hez hB2 hlt;apply aJ ?hm ?hok [0,1,2,3,4,5,6,7] [3,4,5,7] [6] ?hord (fun w'=>Blk w' (B+2) #[.int .u8 k,sv,.int .i64 lo,.int .i64 hi,.bool lazy,.slice ov i cv] 70∧Blk w' Wa.heap.size #[.int .u8 ts.kind,.slice o1 n1 c1,.int .i64 ts.lo,.int .i64 ts.hi,.bool ts.lazy,.slice o2 n2 c2] 27)
    (thW B nc k lo hi lazy set sv (.slice ov i cv) (subs.take i) ts w0 Wc)
   case hm=>rfl
   case hok=>kernel_rfl
   case hord=>kernel_rfl
   case hb=>
    intro L w' h hl;have hkP:∀{w':World},Kept (fun q=>(Value.slice ov i cv).ownBlock=some q) Wc w'→_:=fun {w'} (hk:Kept (fun q=>(Value.slice ov i cv).ownBlock=some q) Wc w')=>And.intro (wZ.out.box.kept hk (fun e=>by have:=HOWN.out _ e;omega)) (HBE.out.kept hk (fun e=>by have:=HOWN.out _ e;omega))
    match L with
    |[]=>obtain rfl:w'=Wc.drew:=h;exact⟨wZ.out.box,HBE.out⟩
    |[_]=>obtain⟨_,_,_,_,_,_,_,_,_,_,_,_,h⟩:=h;exact hkP (Kept.of_below h _)
    |[_,_]=>obtain⟨_,_,_,_,_,_,_,_,_,_,_,_,_,_,_,h⟩:=h;exact hkP (Kept.of_below h _)
    |[_,_,_]=>obtain⟨_,_,_,_,h⟩:=h;exact hkP h
    |_::_::_::_::_=>
     exfalso;rw[show(List.filter (fun j=>[3,4,5,7].contains j) [0,1,2,3,4,5,6,7]).length=4 by decide] at hl;simp only[List.length_cons] at hl;omega
   case hw=>rfl
   case h=>
    iterate 3
     apply ae _ rfl rfl rfl rfl
     case h=>
      intro W1 hW K hK
      (obtain⟨hWp,hW7⟩:=hW;have w8:W1.cell? ⟨B+2,5,none⟩=some (.slice ov i cv):=hWp.cell 5;have w8z:=hWp.lt;obtain⟨x0,x1,x2,x3,x4,x5,x7z⟩:=zS hW7;clear hWp hW7)
      go_wp2_with fail
      exact hK
     simp only[zP,zQ,zB,zC]
    apply ax rfl rfl rfl
    case h=>
     intro W10 hW K hK;obtain rfl:W10=Wc.drew:=hW
     go_wp2_with (go_at_call 25;(refine aS.out.mono ?_;rintro e w' ⟨cs5,rfl,hn5,hb5⟩))
     obtain⟨k5,lo5,hi5,lz5,o15,o25,n15,c15,n25,c25,rfl⟩:=iP hn5;refine⟨k5,lo5,hi5,lz5,o15,o25,n15,c15,n25,c25,rfl,ai.mono (fun q hq=> ?_) hn5,(zR.drew).trans hb5⟩;have hez:=HEZ.out;have hB2:=HB2.out;have hq':Wc.heap.size≤q:=hq;exact⟨by omega,fun e=>by have:=HOWN.out _ e;omega⟩
    intro v3 hv3;obtain⟨_,k6,lo6,hi6,lz6,o61,o62,n61,c61,n62,c62,rfl,-⟩:=hv3;simp only[six];simp only[zP,zQ,zB,zC];apply ax rfl rfl rfl
    case h=>
     intro W1 hW K hK;obtain⟨k,lo,hi,lz,o1,o2,n1,c1,n2,c2,he,hn,hb⟩:=hW;have HE:=zh he;have HN:=zh hn;have HB:=zh hb;clear he hn hb
     go_wp2_with fail
     have he:=HE.out;simp only[six,Value.agg.injEq,List.toArray_eq_toArray_eq,List.toArray_inj,List.cons.injEq,Value.int.injEq,Value.slice.injEq,Value.bool.injEq,true_and,and_true] at he;obtain⟨rfl,⟨rfl,rfl,rfl⟩,rfl,rfl,rfl,rfl,rfl,rfl⟩:=he;have k1:Kept (fun _=>False) W1 (W1.alloc (.cells #[.int .u8 k6,.slice o61 n61 c61,.int .i64 lo6,.int .i64 hi6,.bool lz6,.slice o62 n62 c62] 70)):=(Kept.refl _ _).alloc _;exact⟨k6,lo6,hi6,lz6,o61,o62,n61,c61,n62,c62,W1.heap.size,rfl,rfl,Lu rfl,ai.go k1 (fun q _ hq=>⟨id,hq⟩) HN.out,HB.out.alloc HB.out.size _⟩
    intro v4 hv4;obtain⟨_,_,_,_,_,_,_,_,_,_,_,q7,-,rfl,-⟩:=hv4;simp only[zP,zQ,zB,zC];apply ax rfl rfl rfl
    case h=>
     intro W1 hW K hK;obtain⟨k9,lo9,hi9,lz9,o1,o2,n1,c1,n2,c2,q,he,hq,hsr,hn,hb⟩:=hW;simp only[Value.slice.injEq,Option.some.injEq,Addr.mk.injEq,true_and,and_true] at hq;subst hq;have PR:=wZ.out.go hb;have Ja:=fC HRO.out (zK hb) (fun _ _=>id);have PS:=au.go (M:=fun q=>ThN w0 (.slice ov i cv) q∧q<W1.heap.size) (zK hb) (fun q hz hq=>⟨id,hq,Nat.lt_of_lt_of_le hz hb.size⟩) HRN.out;have hn1:=ai.go (M:=fun q=>ThN w0 (.slice ov i cv) q∧q<W1.heap.size) (Kept.refl (fun _=>False) W1) (fun q hz hq=>⟨id,hq,hz⟩) hn;refine aY _ _ 68 rfl Tryz.underlying68 hi0 hz0 hz1 hz2 rfl (.slice ov i cv) i ps rfl Ja _ 1 _ rfl hsr rfl (by simp[six,Value.oneCell']) ng lM (by have:=hb.size;have:=HEZ.out;have:=HB2.out;omega) ?_;intro v' w' h1 h2 h3 h4;obtain⟨ov',cv',rfl⟩:=eX h1;have hm:=PR.put (t:=ts) (by rw[HLT.out];exact Ja) h2 (by rw[HLT.out];exact h1) h3 (au.OL hn1 PS);refine hK _ _ ⟨ov',cv',by rw[HLT.out],by rw[HLT.out];exact hm,(Kept.of_below hb _).trans (eU h2)⟩
    intro v5 hv5;obtain⟨_,o3,c3,rfl,-⟩:=hv5;rw[HLT.out];simp only[zP,zQ,zB,zC];apply ag _ rfl rfl rfl rfl
    case h=>
     intro W1 hW K hK
     go_wp2_with fail
     exact hK
    simp only[zP,zQ,zB,zC];apply ax rfl rfl rfl
    case h=>
     intro W10 hW K hK;obtain⟨o4,c4,he4,qc,hk4⟩:=hW;rw[HLT.out] at he4 qc;simp only[Value.slice.injEq,true_and] at he4;obtain⟨rfl,rfl⟩:=he4;have hPP:=wZ.out.box.kept hk4 (fun e=>by have:=HOWN.out _ e;omega);have w8:W10.cell? ⟨B+2,5,none⟩=some (.slice ov i cv):=hPP.cell 5;have w8z:=hPP.lt;have w8f:=hPP.frozen 5;have dL:=zh qc;clear qc hk4 hPP
     go_wp2_with fail
     exact hK undef _ ⟨o3,c3,by rw[HLT.out];exact dL.out⟩
    intro v6 hv6;simp only[zP,zQ,zB,zC];refine aG fun W11 h11=> ?_
    obtain⟨o4,c4,qc⟩:=h11;rw[HSN.out] at qc;have Dx:=zh qc;clear qc
    go_wp2_with fail
    go_roundw
    case rel=>exact⟨i+1,_,by omega,by go_num,Dx.out⟩
    case measure=>simp[intOf];omega
theorem Qn (m:List Value) (hm:m.length=47)
  (k3:m[3]? =some (.pointer (some ⟨B+2,0,none⟩))) (k18:m[18]? =some (.slice os set.length sc)) (k19:m[19]? =some (.int .i64 (set.length:Nat))) (k20:m[20]? =some (.int .i64 0))
  (hset:dG N w0 (.slice os set.length sc) set) (hT:ui B nc k lo hi lazy (.slice none 0 0) 0 [] w0 W)
  (hQ:∀(m':List Value) (w':World) (sv:Value),m'.length=47→(m'[1]? =m[1]? ∧m'[2]? =m[2]? ∧m'[3]? =some (.pointer (some ⟨B+2,0,none⟩)))→ui B nc k lo hi lazy sv set.length (set.flatMap jL) w0 w'→Q (.exit 0) ⟨m'.toArray,[]⟩ w'):
  Code.wp Tryz.prog (tsC [1,1,0,1,0]) Q ⟨m.toArray,[]⟩ W:=by
 obtain⟨e,rfl⟩:=uF hm;rw[zI k3,zI k18,zI k19,zI k20];exact JQ e hset hT hQ
theorem Qo (m:List Value) (hm:m.length=47)
  (k3:m[3]? =some (.pointer (some ⟨B+2,0,none⟩))) (k32:m[32]? =some (.slice ou subs.length cu)) (k33:m[33]? =some (.int .i64 (subs.length:Nat))) (k34:m[34]? =some (.int .i64 0))
  (ih:∀s∈subs,qU s) (hrow:Row N w0 (.slice ou subs.length cu) subs.length 6 ucs) (hsubs:au N w0 subs ucs) (hsl:(subs.length:Int)≤1048576) (hT:qi B nc k lo hi lazy set sv (.slice none 0 0) [] w0 W)
  (hQ:∀(m':List Value) (w':World) (uv:Value),m'.length=47→(m'[1]? =m[1]? ∧m'[2]? =m[2]? ∧m'[3]? =some (.pointer (some ⟨B+2,0,none⟩)))→qi B nc k lo hi lazy set sv uv subs w0 w'→Q (.exit 2) ⟨m'.toArray,[]⟩ w'):
  Code.wp Tryz.prog (tsC [1,1,1,0,1,0]) Q ⟨m.toArray,[]⟩ W:=by
 obtain⟨e,rfl⟩:=uF hm;rw[zI k3,zI k32,zI k33,zI k34];exact JS e ih hrow hsubs hsl hT hQ
theorem BN (ih:∀s∈subs,qU s):qU (.mk k set lo hi lazy subs):=by
 intro N w cs hnd;rw[ai] at hnd;obtain⟨sv,uv,ucs,rfl,hk,hlo,hhi,hset,hrow,hsubs⟩:=hnd;obtain⟨os,sc,rfl⟩:=hset.row.slice;obtain⟨ou,cu,rfl⟩:=hrow.slice;have HIH:=zh ih;have vP:=zh hset;have dQ:=zh hrow;have eY:=zh hsubs;have hsl:(subs.length:Int)≤1048576:=(by omega);have SX:(set.length:Int)≤1048576:=by have:=hset.small;omega
 have fin:∀(Wf:World) (nv:Value) (uv:Value),qi w.heap.size #[.int .u8 k,.slice os set.length sc,.int .i64 lo,.int .i64 hi,.bool lazy,.slice ou subs.length cu] k lo hi lazy set nv uv subs w Wf→
   Trd (fun q=>w.heap.size≤q) (.mk k set lo hi lazy subs) w (.returned (.agg #[.int .u8 k,nv,.int .i64 lo,.int .i64 hi,.bool lazy,uv])) ((((((Wf.setCell ⟨w.heap.size+1,0,none⟩ (.int .u8 k)).setCell ⟨w.heap.size+1,1,none⟩ nv).setCell ⟨w.heap.size+1,2,none⟩ (.int .i64 lo)).setCell ⟨w.heap.size+1,3,none⟩ (.int .i64 hi)).setCell ⟨w.heap.size+1,4,none⟩ (.bool lazy)).setCell ⟨w.heap.size+1,5,none⟩ uv)∧
   Blk ((((((Wf.setCell ⟨w.heap.size+1,0,none⟩ (.int .u8 k)).setCell ⟨w.heap.size+1,1,none⟩ nv).setCell ⟨w.heap.size+1,2,none⟩ (.int .i64 lo)).setCell ⟨w.heap.size+1,3,none⟩ (.int .i64 hi)).setCell ⟨w.heap.size+1,4,none⟩ (.bool lazy)).setCell ⟨w.heap.size+1,5,none⟩ uv) (w.heap.size+1) #[.int .u8 k,nv,.int .i64 lo,.int .i64 hi,.bool lazy,uv] 70:=by
  intro Wf nv uv h;have hk6:=kX (W:=Wf) (b:=w.heap.size+1) (.int .u8 k) nv (.int .i64 lo) (.int .i64 hi) (.bool lazy) uv;obtain⟨cs,hr,hn⟩:=h.row;have hN:ai (fun q=>w.heap.size≤q∧q≠w.heap.size+1) Wf (.mk k set lo hi lazy subs) [.int .u8 k,nv,.int .i64 lo,.int .i64 hi,.bool lazy,uv]:=by
   rw[ai];exact⟨_,_,cs,rfl,hk,hlo,hhi,⟨Row.dD h.JR (fun q hq _=>⟨by omega,by omega⟩),vP.out.ok,vP.out.small⟩,Row.dD hr (fun q hq _=>⟨by omega,by omega⟩),au.mono (fun q hq=>⟨by have:=hq.1;omega,by have:=hq.1;omega⟩) hn⟩
  exact⟨⟨_,rfl,ai.go hk6 (fun q _ hq=>⟨hq.2,hq.1⟩) hN,((Kept.of_below h.below (fun q=>q=w.heap.size+1)).trans hk6).below (fun q hq e=>by omega)⟩,gm h.res _ _ _ _ _ _⟩
 have FIN:=zh fin;clear ih hset hrow hsubs fin;go_enter Tryz.func25,Tryz.ntmps25
 go_upto_region 2 with fail
 have hth:ui w.heap.size #[.int .u8 k,.slice os set.length sc,.int .i64 lo,.int .i64 hi,.bool lazy,.slice ou subs.length cu] k lo hi lazy (.slice none 0 0) 0 [] w (((w.alloc (.cells #[.int .u8 k,.slice os set.length sc,.int .i64 lo,.int .i64 hi,.bool lazy,.slice ou subs.length cu] 27)).alloc (.cells #[.int .u8 0,.slice none 0 0,.int .i64 0,.int .i64 0,.bool false,.slice none 0 0] 70)).alloc (.cells #[.int .u8 k,.slice none 0 0,.int .i64 lo,.int .i64 hi,.bool lazy,.slice none 0 0] 70)):=
  ⟨((Blk.new w _ _).alloc _).alloc _,(Blk.new' _ _ (by simp)).alloc _,Blk.new' _ _ (by simp),zN,(((Below.refl w.heap.size w).alloc zL (.cells #[.int .u8 k,.slice os set.length sc,.int .i64 lo,.int .i64 hi,.bool lazy,.slice ou subs.length cu] 27)).alloc (by simp) (.cells #[.int .u8 0,.slice none 0 0,.int .i64 0,.int .i64 0,.bool false,.slice none 0 0] 70)).alloc (by simp;omega) (.cells #[.int .u8 k,.slice none 0 0,.int .i64 lo,.int .i64 hi,.bool lazy,.slice none 0 0] 70),rfl⟩
 generalize (((w.alloc (.cells #[.int .u8 k,.slice os set.length sc,.int .i64 lo,.int .i64 hi,.bool lazy,.slice ou subs.length cu] 27)).alloc (.cells #[.int .u8 0,.slice none 0 0,.int .i64 0,.int .i64 0,.bool false,.slice none 0 0] 70)).alloc (.cells #[.int .u8 k,.slice none 0 0,.int .i64 lo,.int .i64 hi,.bool lazy,.slice none 0 0] 70))=W at hth ⊢;have s1:=hth.src.cell 1;have sz:=hth.src.lt;have HTH:=zh hth;clear hth
 go_wp2_with fail
 rename_i K hK;refine Qn _ rfl rfl rfl rfl rfl vP.out HTH.out (fun m w2 sv2 hm hkp hT2=> ?_);refine hK _ _ ?_;obtain⟨q,rfl⟩:=uF hm;obtain⟨g1,g2,g3⟩:=hkp;rw[zI g1,zI g2,zI g3];have s5:=hT2.src.cell 5;have sz2:=hT2.src.lt;have HT2:=zh (show qi w.heap.size _ k lo hi lazy set sv2 (.slice none 0 0) [] w w2 from⟨hT2.src,hT2.res,hT2.box,hT2.row,⟨[],zN,by rw[au]⟩,hT2.below,hT2.hB⟩);clear g1 g2 g3 hm hT2 s1 sz
 go_wp2_with fail
 rename_i K2 hK2;refine Qo _ rfl rfl rfl rfl rfl HIH.out dQ.out eY.out hsl HT2.out (fun m w3 uv3 hm hkp hT3=> ?_);refine hK2 _ _ ?_;obtain⟨q',rfl⟩:=uF hm;obtain⟨g1,g2,g3⟩:=hkp;rw[zI g1,zI g2,zI g3];obtain⟨b0,b1,b2,b3,b4,b5,bz⟩:=zS hT3.box;obtain⟨r0,r1,r2,r3,r4,r5,rz⟩:=zS hT3.res;have rf:∀i,w3.frozen? ⟨w.heap.size+1,i,none⟩=false:=hT3.res.frozen;obtain⟨o2,c2,rfl⟩:=ay hT3.JR;obtain⟨o3,c3,rfl⟩:∃o3 c3,uv3= .slice o3 subs.length c3:=by obtain⟨cs,h1,-⟩:=hT3.row;exact ay h1
 have HF:=zh (FIN.out w3 _ _ hT3);clear g1 g2 g3 hm hT3 s5 sz2
 go_wp2_with fail
 have hF:=HF.out;exact bodyPost_ret (v:= .agg #[.int .u8 k,.slice o2 set.length c2,.int .i64 lo,.int .i64 hi,.bool lazy,.slice o3 subs.length c3]) (by simp[results,Tryz.results25,go_sem,hF.2.cell]) rfl hF.1
theorem qj:∀t:Nd,qU t
 | .mk k set lo hi lazy subs=>BN (fun s hs=>qj s)
termination_by t=>SizeOf.sizeOf t
decreasing_by
 have:=List.sizeOf_lt_of_mem hs;simp;omega
variable {kk:Int} {vcs:List Value} {sc2 uc uc2:Nat} {os2 ou2:Option Addr}
noncomputable def smC (p:List Nat):Code:=gU (way p) (Tryz.f35.body.getD .skip)
def zT (t:Nd):Prop:=∀(N M:Nat→Prop) (w:World) (cs ds:List Value),ai N w t cs→ai M w t ds→
 Calls Tryz.prog 35 #[.agg cs.toArray,.agg ds.toArray] w fun e w'=>e= .returned (.bool true)∧Below w.heap.size w w'
def s7W (W0:World):List Value→World→Prop
 |[]=>fun w'=>w'=W0.drew
 |[v]=>fun w'=>v= .bool true∧Below W0.heap.size W0 w'
 |_=>fun _=>False
theorem JU (e:Nat→Value)
  (ih:∀t∈subs,zT t) (hsl:subs.length≤1048576)
  (hB:Blk W B #[.int .u8 kk,.slice os set.length sc,.int .i64 lo,.int .i64 hi,.bool lazy,.slice ou subs.length uc] 70) (hB2:Blk W (B+1) #[.int .u8 kk,.slice os2 set.length sc2,.int .i64 lo,.int .i64 hi,.bool lazy,.slice ou2 subs.length uc2] 70) (hrow:Row N W (.slice ou subs.length uc) subs.length 6 ucs) (hsub:au N W subs ucs) (hrow2:Row M W (.slice ou2 subs.length uc2) subs.length 6 vcs) (hsub2:au M W subs vcs)
  (hQ:∀(m:List Value) (w':World),m.length=88→Below W.heap.size W w'→Q (.exit 2) ⟨m.toArray,[]⟩ w'):
  Code.wp Tryz.prog (smC [1,1,1,0,1,0]) Q ⟨#[e 0,e 1,.pointer (some ⟨B,0,none⟩),.pointer (some ⟨B+1,0,none⟩),e 4,e 5,.int .i64 0,e 7,e 8,e 9,e 10,e 11,e 12,e 13,e 14,e 15,e 16,e 17,e 18,e 19,e 20,e 21,e 22,e 23,e 24,e 25,e 26,e 27,e 28,e 29,e 30,e 31,e 32,e 33,e 34,e 35,e 36,e 37,e 38,e 39,e 40,e 41,e 42,e 43,e 44,e 45,e 46,e 47,e 48,e 49,e 50,e 51,e 52,e 53,e 54,e 55,e 56,e 57,e 58,e 59,e 60,e 61,e 62,e 63,e 64,e 65,e 66,e 67,e 68,e 69,e 70,e 71,e 72,e 73,e 74,e 75,e 76,e 77,e 78,e 79,e 80,e 81,e 82,e 83,e 84,e 85,e 86,e 87],[]⟩ W:=by
 have Dq:(subs.length:Int)≤1048576:=(by omega);have HIH:=zh ih;have HB:=zh hB;have HB2:=zh hB2;have lh:=zh (And.intro hrow hsub);have OM:=zh (And.intro hrow2 hsub2);have HQ:=zh hQ;have hBz:=hB.lt;have Qp:=hB2.lt;clear ih hB hB2 hrow hsub hrow2 hsub2 hQ;conv=>arg 2;whnf
 go_wp2_with fail
 go_loopw [6] (fun s6 wx=>∃i:Nat,i≤subs.length∧s6= .int .i64 i∧Below W.heap.size W wx) (fun s6 _=>subs.length-(intOf s6).toNat)
 case atStart=>exact⟨0,by omega,rfl,zR⟩
 case round=>
  rename World=>Wa
  obtain⟨i,hi,rfl,hbw⟩:=hrel;have HC0:=zh (HB.out.below hbw hBz);have HC1:=zh (HB2.out.below hbw Qp);have b5:=HC0.out.cell 5;have bz:=HC0.out.lt;have HBW:=zh hbw;by_cases hil:¬i<subs.length
  ·obtain rfl:i=subs.length:=(by omega);clear hbw hil
   go_wp2_with fail
   exact HQ.out _ _ rfl HBW.out
  ·have hil:i<subs.length:=(by omega);have hiI:(i:Int)<subs.length:=(by omega);obtain⟨ub,uo,k1,lo1,hi1,lz1,p1,p2,n1,c1,n2,c2,hue,Gu,bg,t0,t1,t2,t3,t4,t5,hnd⟩:=jc lh.out.1 lh.out.2 hbw hil;obtain⟨vb,vo,k2,lo2,hi2,lz2,p3,p4,n3,c3,n4,c4,hve,hucv,hvbz,u0,u1,u2,u3,u4,u5,mJ⟩:=jc OM.out.1 OM.out.2 hbw hil;subst hue hve;have lK:(subs.length:Int)≤uc:=(by omega);have hucI2:(subs.length:Int)≤uc2:=(by omega);have hgo:∀{N:Nat→Prop} {cs:List Value},ai N Wa subs[i] cs→ai N Wa.drew subs[i] cs:=fun h=>ai.go ((Kept.refl (fun _=>False) Wa).drew) (fun _ _ h=>⟨id,h⟩) h
   have HC:=zh (HIH.out _ (List.getElem_mem hil) N M Wa.drew _ _ (hgo hnd) (hgo mJ));have HR:=zh (show Wa.drew.cell? ⟨ub,uo+i*6,none⟩=some (.int .u8 k1)∧Wa.drew.cell? ⟨ub,uo+i*6+1,none⟩=some (.slice p1 n1 c1)∧Wa.drew.cell? ⟨ub,uo+i*6+2,none⟩=some (.int .i64 lo1)∧Wa.drew.cell? ⟨ub,uo+i*6+3,none⟩=some (.int .i64 hi1)∧Wa.drew.cell? ⟨ub,uo+i*6+4,none⟩=some (.bool lz1)∧Wa.drew.cell? ⟨ub,uo+i*6+5,none⟩=some (.slice p2 n2 c2)∧Wa.drew.cell? ⟨vb,vo+i*6,none⟩=some (.int .u8 k2)∧Wa.drew.cell? ⟨vb,vo+i*6+1,none⟩=some (.slice p3 n3 c3)∧Wa.drew.cell? ⟨vb,vo+i*6+2,none⟩=some (.int .i64 lo2)∧Wa.drew.cell? ⟨vb,vo+i*6+3,none⟩=some (.int .i64 hi2)∧Wa.drew.cell? ⟨vb,vo+i*6+4,none⟩=some (.bool lz2)∧Wa.drew.cell? ⟨vb,vo+i*6+5,none⟩=some (.slice p4 n4 c4)∧ub<Wa.drew.heap.size∧vb<Wa.drew.heap.size from⟨t0,t1,t2,t3,t4,t5,u0,u1,u2,u3,u4,u5,bg,hvbz⟩);have hbs:=hbw.size;clear hnd mJ hbw t0 t1 t2 t3 t4 t5 u0 u1 u2 u3 u4 u5 hgo
   go_wp2_with fail
   apply aJ ?hm ?hok [0,1,2,3,4,5,6,7,8,9,10,11] [10] [11] ?hord (fun w'=>w'=Wa.drew) (s7W Wa)
   case hm=>rfl
   case hok=>kernel_rfl
   case hord=>kernel_rfl
   case hb=>
    intro L' w' h hl
    match L' with
    |[]=>exact h
    |_::_=>simp at hl
   case hw=>rfl
   apply ae (.pointer (some ⟨B,5,none⟩)) rfl rfl rfl rfl
   case h=>
    intro W1 hW K hK;obtain rfl:W1=Wa.drew:=hW
    go_wp2_with fail
    exact hK
   simp only[zP,zQ,zB,zC];apply ae (.slice (some ⟨ub,uo,none⟩) subs.length uc) rfl rfl rfl rfl
   case h=>
    intro W1 hW K hK;obtain rfl:W1=Wa.drew:=hW;have q0:=HC0.out.drew.cell 5;have q1:=HC1.out.drew.cell 5;have z0:=HC0.out.drew.lt;have z1:=HC1.out.drew.lt;obtain⟨r0,r1,r2,r3,r4,r5,r6,r7,r8,r9,r10,r11,r12,r13⟩:=HR.out
    go_wp2_with fail
    exact hK
   simp only[zP,zQ,zB,zC];apply ae (.int .i64 (i:Nat)) rfl rfl rfl rfl
   case h=>
    intro W1 hW K hK;obtain rfl:W1=Wa.drew:=hW
    go_wp2_with fail
    exact hK
   simp only[zP,zQ,zB,zC];apply ae (.pointer (some ⟨ub,uo+i*6,none⟩)) rfl rfl rfl rfl
   case h=>
    intro W1 hW K hK;obtain rfl:W1=Wa.drew:=hW
    go_wp2_with fail
    exact hK
   simp only[zP,zQ,zB,zC];apply ae (.agg #[.int .u8 k1,.slice p1 n1 c1,.int .i64 lo1,.int .i64 hi1,.bool lz1,.slice p2 n2 c2]) rfl rfl rfl rfl
   case h=>
    intro W1 hW K hK;obtain rfl:W1=Wa.drew:=hW;have q0:=HC0.out.drew.cell 5;have q1:=HC1.out.drew.cell 5;have z0:=HC0.out.drew.lt;have z1:=HC1.out.drew.lt;obtain⟨r0,r1,r2,r3,r4,r5,r6,r7,r8,r9,r10,r11,r12,r13⟩:=HR.out
    go_wp2_with fail
    exact hK
   simp only[zP,zQ,zB,zC];apply ae (.pointer (some ⟨B+1,5,none⟩)) rfl rfl rfl rfl
   case h=>
    intro W1 hW K hK;obtain rfl:W1=Wa.drew:=hW
    go_wp2_with fail
    exact hK
   simp only[zP,zQ,zB,zC];apply ae (.slice (some ⟨vb,vo,none⟩) subs.length uc2) rfl rfl rfl rfl
   case h=>
    intro W1 hW K hK;obtain rfl:W1=Wa.drew:=hW;have q0:=HC0.out.drew.cell 5;have q1:=HC1.out.drew.cell 5;have z0:=HC0.out.drew.lt;have z1:=HC1.out.drew.lt;obtain⟨r0,r1,r2,r3,r4,r5,r6,r7,r8,r9,r10,r11,r12,r13⟩:=HR.out
    go_wp2_with fail
    exact hK
   simp only[zP,zQ,zB,zC];apply ae (.int .i64 (i:Nat)) rfl rfl rfl rfl
   case h=>
    intro W1 hW K hK;obtain rfl:W1=Wa.drew:=hW
    go_wp2_with fail
    exact hK
   simp only[zP,zQ,zB,zC];apply ae (.pointer (some ⟨vb,vo+i*6,none⟩)) rfl rfl rfl rfl
   case h=>
    intro W1 hW K hK;obtain rfl:W1=Wa.drew:=hW
    go_wp2_with fail
    exact hK
   simp only[zP,zQ,zB,zC];apply ae (.agg #[.int .u8 k2,.slice p3 n3 c3,.int .i64 lo2,.int .i64 hi2,.bool lz2,.slice p4 n4 c4]) rfl rfl rfl rfl
   case h=>
    intro W1 hW K hK;obtain rfl:W1=Wa.drew:=hW;have q0:=HC0.out.drew.cell 5;have q1:=HC1.out.drew.cell 5;have z0:=HC0.out.drew.lt;have z1:=HC1.out.drew.lt;obtain⟨r0,r1,r2,r3,r4,r5,r6,r7,r8,r9,r10,r11,r12,r13⟩:=HR.out
    go_wp2_with fail
    exact hK
   simp only[zP,zQ,zB,zC];apply ax rfl rfl rfl
   case h=>
    intro W1 hW K hK;obtain rfl:W1=Wa.drew:=hW
    go_wp2_with (go_at_call 35;(refine HC.out.mono ?_;rintro e2 w2 ⟨rfl,hb2⟩))
    exact⟨rfl,((Below.refl Wa.heap.size Wa).drew).trans hb2⟩
   intro v hv;obtain⟨_,rfl,-⟩:=hv;simp only[zP,zQ,zB,zC];apply ag (.bool false) rfl rfl rfl rfl
   case h=>
    intro W1 hW K hK;obtain⟨-,-⟩:=hW
    go_wp2_with fail
    exact hK
   simp only[zP,zQ,zB,zC];refine aG fun W7 h7=> ?_
   have H7:=zh (HBW.out.trans (h7.2.mono hbs));clear h7
   go_wp2_with fail
   go_roundw
   case rel=>exact⟨i+1,by omega,by go_num,H7.out⟩
   case measure=>simp[intOf];omega
theorem EM {l:List Value} (h:l.length=88):∃e:Nat→Value,l=[e 0,e 1,e 2,e 3,e 4,e 5,e 6,e 7,e 8,e 9,e 10,e 11,e 12,e 13,e 14,e 15,e 16,e 17,e 18,e 19,e 20,e 21,e 22,e 23,e 24,e 25,e 26,e 27,e 28,e 29,e 30,e 31,e 32,e 33,e 34,e 35,e 36,e 37,e 38,e 39,e 40,e 41,e 42,e 43,e 44,e 45,e 46,e 47,e 48,e 49,e 50,e 51,e 52,e 53,e 54,e 55,e 56,e 57,e 58,e 59,e 60,e 61,e 62,e 63,e 64,e 65,e 66,e 67,e 68,e 69,e 70,e 71,e 72,e 73,e 74,e 75,e 76,e 77,e 78,e 79,e 80,e 81,e 82,e 83,e 84,e 85,e 86,e 87]:=by
 refine⟨fun k=>l.getD k undef,?_⟩;have h2:l=(List.range 88).map fun k=>l.getD k undef:=by
  apply List.ext_getElem
  ·simp[h]
  ·intro i h1 h2;simp[List.getD_eq_getElem?_getD,h1]
 exact h2
theorem JV (ih:∀s∈subs,zT s):zT (.mk kk set lo hi lazy subs):=by
 intro N M w cs ds hnd mJ;rw[ai] at hnd mJ;obtain⟨sv,uv,ucs,rfl,hk,hlo,hhi,hset,hrow,hsubs⟩:=hnd;obtain⟨sv2,uv2,vcs,rfl,-,-,-,JW,hrow2,JX⟩:=mJ;obtain⟨os,sc,rfl⟩:=hset.row.slice;obtain⟨ou,uc,rfl⟩:=hrow.slice;obtain⟨os2,sc2,rfl⟩:=JW.row.slice;obtain⟨ou2,uc2,rfl⟩:=hrow2.slice;have hsl:subs.length≤1048576:=hk.2.2;have Dq:(subs.length:Int)≤1048576:=(by omega);have SX:(set.length:Int)≤1048576:=by have:=hset.small;omega
 have HIH:=zh ih;have HS:=zh hset;have HS2:=zh JW;have HK1:=zh (And.intro hrow hsubs);have HK2:=zh (And.intro hrow2 JX);have hb0:Below w.heap.size w ((w.alloc (.cells #[.int .u8 kk,.slice os set.length sc,.int .i64 lo,.int .i64 hi,.bool lazy,.slice ou subs.length uc] 70)).alloc (.cells #[.int .u8 kk,.slice os2 set.length sc2,.int .i64 lo,.int .i64 hi,.bool lazy,.slice ou2 subs.length uc2] 70)):=(zR.alloc zL _).alloc (by simp) _;have HBA:=zh ((Blk.new w #[.int .u8 kk,.slice os set.length sc,.int .i64 lo,.int .i64 hi,.bool lazy,.slice ou subs.length uc] 70).alloc (.cells #[.int .u8 kk,.slice os2 set.length sc2,.int .i64 lo,.int .i64 hi,.bool lazy,.slice ou2 subs.length uc2] 70));have HBB:=zh (Blk.new' (w:=w.alloc (.cells #[.int .u8 kk,.slice os set.length sc,.int .i64 lo,.int .i64 hi,.bool lazy,.slice ou subs.length uc] 70)) (b:=w.heap.size+1) #[.int .u8 kk,.slice os2 set.length sc2,.int .i64 lo,.int .i64 hi,.bool lazy,.slice ou2 subs.length uc2] 70 (by simp));have HB0:=zh hb0;have hz0:(((w.alloc (.cells #[.int .u8 kk,.slice os set.length sc,.int .i64 lo,.int .i64 hi,.bool lazy,.slice ou subs.length uc] 70)).alloc (.cells #[.int .u8 kk,.slice os2 set.length sc2,.int .i64 lo,.int .i64 hi,.bool lazy,.slice ou2 subs.length uc2] 70))).heap.size=w.heap.size+2:=by simp
 have HZ0:=zh hz0;clear ih hset JW hrow hrow2 hsubs JX hk hlo hhi hb0 hz0;go_enter Tryz.func35,Tryz.ntmps35
 go_wp2_with fail
 go_loopw [5] (fun s5 wx=>∃i:Nat,i≤set.length∧s5= .int .i64 i∧Below (w.heap.size+2) ((w.alloc (.cells #[.int .u8 kk,.slice os set.length sc,.int .i64 lo,.int .i64 hi,.bool lazy,.slice ou subs.length uc] 70)).alloc (.cells #[.int .u8 kk,.slice os2 set.length sc2,.int .i64 lo,.int .i64 hi,.bool lazy,.slice ou2 subs.length uc2] 70)) wx) (fun s5 _=>set.length-(intOf s5).toNat)
 case atStart=>exact⟨0,by omega,rfl,zR⟩
 case round=>
  rename World=>Wa
  obtain⟨i,hi,rfl,hbw⟩:=hrel;have HC0:=zh (HBA.out.below hbw (by omega));have HC1:=zh (HBB.out.below hbw (by omega));have b1:=HC0.out.cell 1;have bz:=HC0.out.lt;have hbw2:Below w.heap.size w Wa:=HB0.out.trans (hbw.mono (by omega));by_cases hil:¬i<set.length
  ·obtain rfl:i=set.length:=(by omega);have k0:Kept (fun _=>False) w Wa:=Kept.of_below hbw2 _;have hfin:=fun(Q:Exit→Act→World→Prop) (m:List Value) (hm:m.length=88) (k2:m[2]? =some (.pointer (some ⟨w.heap.size,0,none⟩))) (k3:m[3]? =some (.pointer (some ⟨w.heap.size+1,0,none⟩))) (k6:m[6]? =some (.int .i64 0)) (hQ:∀(m:List Value) (w':World),m.length=88→Below Wa.heap.size Wa w'→Q (.exit 2) ⟨m.toArray,[]⟩ w')=>show Code.wp Tryz.prog (smC [1,1,1,0,1,0]) Q ⟨m.toArray,[]⟩ Wa from by
    obtain⟨e,rfl⟩:=EM hm;rw[zI k2,zI k3,zI k6];exact JU e HIH.out hsl HC0.out HC1.out (gp (M:=N) HK1.out.1 k0 (fun _ _ h=>⟨id,h⟩)) (au.go (M:=N) k0 (fun _ _ h=>⟨id,h⟩) HK1.out.2) (gp (M:=M) HK2.out.1 k0 (fun _ _ h=>⟨id,h⟩)) (au.go (M:=M) k0 (fun _ _ h=>⟨id,h⟩) HK2.out.2) hQ
   have bW:=zh hfin;have HBW:=zh hbw2;clear hbw hbw2 hil hfin k0
   go_wp2_with fail
   rename_i K hK;have HK:=zh hK;clear hK;refine bW.out _ _ rfl rfl rfl rfl (fun m w' hm hb=> ?_);refine HK.out _ _ ?_;obtain⟨q,rfl⟩:=EM hm;have HB9:=zh (HBW.out.trans (hb.mono HBW.out.size));clear hb hm
   go_wp2_with fail
   exact bodyPost_ret (v:= .bool true) (by simp[results,Tryz.results35,go_sem]) rfl ⟨rfl,HB9.out⟩
  ·have hil:i<set.length:=(by omega);have hiI:(i:Int)<set.length:=(by omega);obtain⟨ab,ao,ac,ea,hac,-,-,oM,hca⟩:=HS.out.cells (by omega);obtain⟨bb,bo,bc,eb,hbc,-,-,sD,hcb⟩:=HS2.out.cells (by omega);simp only[Value.slice.injEq,true_and] at ea eb;obtain⟨rfl,rfl⟩:=ea;obtain⟨rfl,rfl⟩:=eb;have Nw:(set.length:Int)≤sc:=(by omega);have Qj:(set.length:Int)≤sc2:=(by omega);obtain⟨-,-,a0,a1⟩:=hca i hil;obtain⟨-,-,b0,b1'⟩:=hcb i hil;obtain⟨x,hx⟩:∃x,x=set[i].lo:=⟨_,rfl⟩;obtain⟨y,hy⟩:∃y,y=set[i].hi:=⟨_,rfl⟩;rw[←hx] at a0 b0;rw[←hy] at a1 b1';have HR:=zh (show Wa.drew.cell? ⟨ab,ao+i*2,none⟩=some (.int .i64 x)∧Wa.drew.cell? ⟨ab,ao+i*2+1,none⟩=some (.int .i64 y)∧Wa.drew.cell? ⟨bb,bo+i*2,none⟩=some (.int .i64 x)∧Wa.drew.cell? ⟨bb,bo+i*2+1,none⟩=some (.int .i64 y)∧ab<Wa.drew.heap.size∧bb<Wa.drew.heap.size from
    ⟨(zW (hbw2.block _ oM)).trans a0,(zW (hbw2.block _ oM)).trans a1,(zW (hbw2.block _ sD)).trans b0,(zW (hbw2.block _ sD)).trans b1',Nat.lt_of_lt_of_le oM hbw2.size,Nat.lt_of_lt_of_le sD hbw2.size⟩)
   have HBD:=zh hbw.drew;clear hca hcb hx hy a0 a1 b0 b1' hbw hbw2
   go_wp2_with fail
   apply aJ ?hm ?hok [0,1,2,3,4,5,6,7,8,9,10] [] [0,1,2,3,4,5,6,7,8,9,10] ?hord (fun w'=>w'=Wa.drew) (fun L w'=>L=[]∧w'=Wa.drew)
   case hm=>rfl
   case hok=>kernel_rfl
   case hord=>kernel_rfl
   case hb=>exact fun L' w' h hl=>h.2
   case hw=>exact⟨rfl,rfl⟩
   apply ag (.pointer (some ⟨w.heap.size,1,none⟩)) rfl rfl rfl rfl
   case h=>
    intro W1 hW K hK;obtain⟨-,rfl⟩:=hW
    go_wp2_with fail
    exact hK
   simp only[zP,zQ,zB,zC];apply ag (.slice (some ⟨ab,ao,none⟩) set.length sc) rfl rfl rfl rfl
   case h=>
    intro W1 hW K hK;obtain⟨-,rfl⟩:=hW;have q0:=HC0.out.drew.cell 1;have q1:=HC1.out.drew.cell 1;have z0:=HC0.out.drew.lt;have z1:=HC1.out.drew.lt;obtain⟨r0,r1,r2,r3,r4,r5⟩:=HR.out
    go_wp2_with fail
    exact hK
   simp only[zP,zQ,zB,zC];apply ag (.int .i64 (i:Nat)) rfl rfl rfl rfl
   case h=>
    intro W1 hW K hK;obtain⟨-,rfl⟩:=hW
    go_wp2_with fail
    exact hK
   simp only[zP,zQ,zB,zC];apply ag (.pointer (some ⟨ab,ao+i*2,none⟩)) rfl rfl rfl rfl
   case h=>
    intro W1 hW K hK;obtain⟨-,rfl⟩:=hW
    go_wp2_with fail
    exact hK
   simp only[zP,zQ,zB,zC];apply ag (.agg #[.int .i64 x,.int .i64 y]) rfl rfl rfl rfl
   case h=>
    intro W1 hW K hK;obtain⟨-,rfl⟩:=hW;have q0:=HC0.out.drew.cell 1;have q1:=HC1.out.drew.cell 1;have z0:=HC0.out.drew.lt;have z1:=HC1.out.drew.lt;obtain⟨r0,r1,r2,r3,r4,r5⟩:=HR.out
    go_wp2_with fail
    exact hK
   simp only[zP,zQ,zB,zC];apply ag (.pointer (some ⟨w.heap.size+1,1,none⟩)) rfl rfl rfl rfl
   case h=>
    intro W1 hW K hK;obtain⟨-,rfl⟩:=hW
    go_wp2_with fail
    exact hK
   simp only[zP,zQ,zB,zC];apply ag (.slice (some ⟨bb,bo,none⟩) set.length sc2) rfl rfl rfl rfl
   case h=>
    intro W1 hW K hK;obtain⟨-,rfl⟩:=hW;have q0:=HC0.out.drew.cell 1;have q1:=HC1.out.drew.cell 1;have z0:=HC0.out.drew.lt;have z1:=HC1.out.drew.lt;obtain⟨r0,r1,r2,r3,r4,r5⟩:=HR.out
    go_wp2_with fail
    exact hK
   simp only[zP,zQ,zB,zC];apply ag (.int .i64 (i:Nat)) rfl rfl rfl rfl
   case h=>
    intro W1 hW K hK;obtain⟨-,rfl⟩:=hW
    go_wp2_with fail
    exact hK
   simp only[zP,zQ,zB,zC];apply ag (.pointer (some ⟨bb,bo+i*2,none⟩)) rfl rfl rfl rfl
   case h=>
    intro W1 hW K hK;obtain⟨-,rfl⟩:=hW
    go_wp2_with fail
    exact hK
   simp only[zP,zQ,zB,zC];apply ag (.agg #[.int .i64 x,.int .i64 y]) rfl rfl rfl rfl
   case h=>
    intro W1 hW K hK;obtain⟨-,rfl⟩:=hW;have q0:=HC0.out.drew.cell 1;have q1:=HC1.out.drew.cell 1;have z0:=HC0.out.drew.lt;have z1:=HC1.out.drew.lt;obtain⟨r0,r1,r2,r3,r4,r5⟩:=HR.out
    go_wp2_with fail
    exact hK
   simp only[zP,zQ,zB,zC];apply ag (.bool false) rfl rfl rfl rfl
   case h=>
    intro W1 hW K hK;obtain⟨-,rfl⟩:=hW
    go_wp2_with fail
    exact hK
   simp only[zP,zQ,zB,zC];refine aG fun W7 h7=> ?_
   obtain⟨-,rfl⟩:=h7
   go_wp2_with fail
   go_roundw
   case rel=>exact⟨i+1,by omega,by go_num,HBD.out⟩
   case measure=>simp[intOf];omega
theorem EN:∀t:Nd,zT t
 | .mk k set lo hi lazy subs=>JV fun s hs=>EN s
termination_by t=>SizeOf.sizeOf t
decreasing_by
 have:=List.sizeOf_lt_of_mem hs;simp;omega
end Go.Proofs.YtnhjakdmbfadlaaGreatDoor
