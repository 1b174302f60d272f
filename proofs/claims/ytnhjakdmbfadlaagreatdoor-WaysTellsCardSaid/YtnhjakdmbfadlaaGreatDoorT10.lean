/- Parts of the proof. Conditions: none. -/
import Derived.Test.YtnhjakdmbfadlaaGreatDoorT04
import Derived.Test.YtnhjakdmbfadlaaGreatDoorT02
import Derived.Test.YtnhjakdmbfadlaaGreatDoorT01
import Derived.Test.YtnhjakdmbfadlaaGreatDoorT09
import Derived.Deep.DeepCutAuto
import Derived.Deep.CutRange
import Derived.Laws.EntriesVeiled
import Derived.Test.YtnhjakdmbfadlaaGreatDoorT03
import Derived.Test.YtnhjakdmbfadlaaGreatDoorT00
set_option linter.all false
set_option maxHeartbeats 8000000
set_option maxRecDepth 100000
namespace Go.Proofs.YtnhjakdmbfadlaaGreatDoor
open Go.RowKit Wy Mem Grow
variable {lazy:Bool} {d1 d2 hi k lo:Int} {subs:List Nd} {set:List Rg} {q:Nat} {W8:World}
def tC (k:Int) (f g:Facts):Facts:=⟨max f.depth g.depth,f.groups+g.groups,if k=3 then f.ah && g.ah else f.ah || g.ah,f.shaped && g.shaped,f.bC && g.bC⟩
theorem vT (k:Int) (s:Nd):∀(l:List Nd) (f:Facts),dw k f (l++[s])=tC k (dw k f l) (Wy.look s)
 |[],f=>by simp only[List.nil_append,dw];rfl
 |a::r,f=>by rw[List.cons_append,dw,vT k s r,dw]
mutual
theorem vU:∀t:Nd,0≤(Wy.look t).depth∧(Wy.look t).depth≤nodes t∧0≤(Wy.look t).groups∧(Wy.look t).groups≤nodes t
 | .mk k set lo hi lazy subs=>by
  have h:=jZ k subs ⟨0,0,decide (k=1) || decide (k=3),bT (.mk k set lo hi lazy subs),true⟩ (Int.le_refl _) (Int.le_refl _);rw[Wy.look,nodes];simp only at h ⊢;split<;>omega
theorem jZ (k:Int):∀(l:List Nd) (f:Facts),0≤f.depth→0≤f.groups→0≤(dw k f l).depth∧(dw k f l).depth≤max f.depth (aF l)∧0≤(dw k f l).groups∧(dw k f l).groups≤f.groups+aF l
 |[],f,h1,h2=>by rw[dw,aF];omega
 |s::r,f,h1,h2=>by
  have hs:=vU s;have h:=jZ k r ⟨max f.depth (Wy.look s).depth,f.groups+(Wy.look s).groups,if k=3 then f.ah && (Wy.look s).ah else f.ah || (Wy.look s).ah,f.shaped && (Wy.look s).shaped,f.bC && (Wy.look s).bC⟩ (by simp only;omega) (by simp only;omega);rw[dw,aF];simp only at h ⊢;omega
end
def bM (f:Facts):Array Value:= #[.int .i64 f.depth,.int .i64 f.groups,.bool f.ah,.bool f.shaped,.bool f.bC]
theorem y9 {f gg:Facts} (hB:Blk W8 q #[.int .i64 d1,.int .i64 d2,.bool f.ah,.bool (f.shaped && gg.shaped),.bool (f.bC && gg.bC)] 115) (h1:d1=max f.depth gg.depth) (h2:d2=f.groups+gg.groups) {v:Bool} (hv:v=(tC k f gg).ah):
  Blk (W8.setCell ⟨q,2,none⟩ (.bool v)) q (bM (tC k f gg)) 115:=by
 have h:=hB.set 2 (.bool v);subst hv h1 h2;exact h
def LY (vb:Nat):Value:= .func (.func 75) #[] #[.pointer (some ⟨vb,0,none⟩)]
def zf (t:Nd):Prop:=∀(N:Nat→Prop) (w:World) (vb:Nat) (cs:List Value),ai N w t cs→w.cell? ⟨vb,0,none⟩=some (LY vb)→vb<w.heap.size→nodes t≤1000000→
 Calls Tryz.prog 75 #[.agg cs.toArray,.pointer (some ⟨vb,0,none⟩)] w fun e w'=>e= .returned (.agg (bM (Wy.look t)))∧Below w.heap.size w w'
theorem II (ih:∀s∈subs,zf s):zf (.mk k set lo hi lazy subs):=by
 intro N w vb cs hnd hvb hvz hno;have HND:=zh hnd;rw[ai] at hnd;obtain⟨sv,uv,ucs,rfl,hk,hlo,hhi,hset,hrow,hsubs⟩:=hnd;obtain⟨os,cs,rfl⟩:=hset.row.slice;obtain⟨ou,cu,rfl⟩:=hrow.slice;have HIH:=zh ih;have dQ:=zh hrow;have eY:=zh hsubs;clear ih hset hrow hsubs;go_enter Tryz.func75,Tryz.ntmps75
 go_upto_region 1 with fail
 have hB2:Blk ((w.alloc (.cells #[.int .u8 k,.slice os set.length cs,.int .i64 lo,.int .i64 hi,.bool lazy,.slice ou subs.length cu] 27)).alloc (.cells #[.int .i64 0,.int .i64 0,.bool false,.bool false,.bool false] 115)) w.heap.size #[.int .u8 k,.slice os set.length cs,.int .i64 lo,.int .i64 hi,.bool lazy,.slice ou subs.length cu] 27:=(Blk.new _ _ _).alloc _;have hB3:Blk ((w.alloc (.cells #[.int .u8 k,.slice os set.length cs,.int .i64 lo,.int .i64 hi,.bool lazy,.slice ou subs.length cu] 27)).alloc (.cells #[.int .i64 0,.int .i64 0,.bool false,.bool false,.bool false] 115)) (w.heap.size+1) #[.int .i64 0,.int .i64 0,.bool false,.bool false,.bool false] 115:=Blk.new' _ _ (by simp);have hbW:Below w.heap.size w ((w.alloc (.cells #[.int .u8 k,.slice os set.length cs,.int .i64 lo,.int .i64 hi,.bool lazy,.slice ou subs.length cu] 27)).alloc (.cells #[.int .i64 0,.int .i64 0,.bool false,.bool false,.bool false] 115)):=(zR.alloc zL _).alloc (by simp) _;have hzW:((w.alloc (.cells #[.int .u8 k,.slice os set.length cs,.int .i64 lo,.int .i64 hi,.bool lazy,.slice ou subs.length cu] 27)).alloc (.cells #[.int .i64 0,.int .i64 0,.bool false,.bool false,.bool false] 115)).heap.size=w.heap.size+2:=by simp
 generalize ((w.alloc (.cells #[.int .u8 k,.slice os set.length cs,.int .i64 lo,.int .i64 hi,.bool lazy,.slice ou subs.length cu] 27)).alloc (.cells #[.int .i64 0,.int .i64 0,.bool false,.bool false,.bool false] 115))=W at hB2 hB3 hbW hzW ⊢;have hsh:∀W',Below W.heap.size W W'→Calls Tryz.prog 76 #[.agg #[.int .u8 k,.slice os set.length cs,.int .i64 lo,.int .i64 hi,.bool lazy,.slice ou subs.length cu]] W' fun e w'=>e= .returned (.bool (bT (.mk k set lo hi lazy subs)))∧Below W'.heap.size W' w':=fun W' hb=>
  CQ (N:=N) (ai.go (Kept.of_below (hbW.trans (hb.mono (by omega))) (fun _=>False)) (fun q _ hn=>⟨id,hn⟩) HND.out)
 obtain⟨shp,Pq⟩:∃b,b=bT (.mk k set lo hi lazy subs):=⟨_,rfl⟩;rw[←Pq] at hsh;obtain⟨d0,d1,d2,d3,d4,d5⟩:W.cell? ⟨w.heap.size,0,none⟩=some (.int .u8 k)∧W.cell? ⟨w.heap.size,1,none⟩=some (.slice os set.length cs)∧W.cell? ⟨w.heap.size,2,none⟩=some (.int .i64 lo)∧W.cell? ⟨w.heap.size,3,none⟩=some (.int .i64 hi)∧W.cell? ⟨w.heap.size,4,none⟩=some (.bool lazy)∧W.cell? ⟨w.heap.size,5,none⟩=some (.slice ou subs.length cu):=
  ⟨hB2.cell 0,hB2.cell 1,hB2.cell 2,hB2.cell 3,hB2.cell 4,hB2.cell 5⟩
 have dz:=hB2.lt;have HSH:=zh hsh;have HB2:=zh hB2;have HB3:=zh hB3;have HBW:=zh hbW;have HZW:=zh hzW;have HSHP:=zh Pq;clear hsh hB2 hB3 hbW hzW Pq
 go_cut [4] (fun s4 wx=>∃q,s4= .pointer (some ⟨q,0,none⟩)∧W.heap.size≤q∧Below W.heap.size W wx∧Blk wx q (bM ⟨0,0,decide (k=1) || decide (k=3),shp,true⟩) 115)
 case first=>
  rcases(show k=1∨(k=3∧(k == 1)=false)∨((k == 1)=false∧(k == 3)=false) by
   by_cases h1:k=1
   ·exact .inl h1
   ·by_cases h3:k=3
    ·exact .inr (.inl ⟨h3,by simpa using h1⟩)
    ·exact .inr (.inr ⟨by simpa using h1,by simpa using h3⟩)) with rfl|⟨rfl,-⟩|⟨k1,k3⟩
  ·apply nV ?hm ?hok ?hlast [some _,some _,some _,some _,some _,some _,some undef,some undef,some undef,some _,some _,none] [11] [] (fun i v w'=>i=11→∃q,v= .pointer (some ⟨q,0,none⟩)∧W.heap.size≤q∧Blk w' q (bM ⟨0,0,false,false,false⟩) 115) ?pM ?hnd ?hnl ?hV _ rfl ?h
   case hm=>rfl
   case hok=>kernel_rfl
   case hlast=>kernel_rfl
   case pM=>kernel_rfl
   case hnd=>simp
   case hnl=>simp
   case hV=>exact fun i v w1 w2 h hb e=>by obtain⟨q,h1,h2,h3⟩:=h e;exact⟨q,h1,h2,h3.below hb h3.lt⟩
   case h=>
    intro u;simp only[List.dropLast];apply aP rfl
    case h=>
     intro W1 hW K hK;have d:=HB2.out.below hW HB2.out.lt;have e0:=d.cell 0;have e1:=d.cell 1;have e2:=d.cell 2;have e3:=d.cell 3;have e4:=d.cell 4;have e5:=d.cell 5;have ez:=d.lt;clear d
     go_wp2_with fail
     first|exact zR|exact hK _ zR
    simp only[zP,zQ,zB,zC];apply aP rfl
    case h=>
     intro W1 hW K hK
     go_wp2_with (go_at_call 76;refine(HSH.out _ hW).mono ?_;rintro e w' ⟨rfl,hb⟩)
     try (first|exact hb|exact hK _ hb)
    simp only[zP,zQ,zB,zC];apply aP rfl
    case h=>
     intro W1 hW K hK;have d:=HB2.out.below hW HB2.out.lt;have e0:=d.cell 0;have e1:=d.cell 1;have e2:=d.cell 2;have e3:=d.cell 3;have e4:=d.cell 4;have e5:=d.cell 5;have ez:=d.lt;clear d
     go_wp2_with fail
     first|exact zR|exact hK _ zR
    simp only[zP,zQ,zB,zC];apply aP rfl
    case h=>
     intro W1 hW K hK;have d:=HB2.out.below hW HB2.out.lt;have e0:=d.cell 0;have e1:=d.cell 1;have e2:=d.cell 2;have e3:=d.cell 3;have e4:=d.cell 4;have e5:=d.cell 5;have ez:=d.lt;clear d
     go_wp2_with fail
     first|exact zR|exact hK _ zR
    simp only[zP,zQ,zB,zC];apply aP rfl
    case h=>
     intro W1 hW K hK;have d:=HB2.out.below hW HB2.out.lt;have e0:=d.cell 0;have e1:=d.cell 1;have e2:=d.cell 2;have e3:=d.cell 3;have e4:=d.cell 4;have e5:=d.cell 5;have ez:=d.lt;clear d
     go_wp2_with fail
     first|exact zR|exact hK _ zR
    simp only[zP,zQ,zB,zC];apply aP rfl
    case h=>
     intro W1 hW K hK;have d:=HB2.out.below hW HB2.out.lt;have e0:=d.cell 0;have e1:=d.cell 1;have e2:=d.cell 2;have e3:=d.cell 3;have e4:=d.cell 4;have e5:=d.cell 5;have ez:=d.lt;clear d
     go_wp2_with fail
     first|exact zR|exact hK _ zR
    simp only[zP,zQ,zB,zC];apply uY rfl;simp only[zP,zQ,zB,zC];apply uY rfl;simp only[zP,zQ,zB,zC];apply uY rfl;simp only[zP,zQ,zB,zC];apply aP rfl
    case h=>
     intro W1 hW K hK;have d:=HB2.out.below hW HB2.out.lt;have e0:=d.cell 0;have e1:=d.cell 1;have e2:=d.cell 2;have e3:=d.cell 3;have e4:=d.cell 4;have e5:=d.cell 5;have ez:=d.lt;clear d
     go_wp2_with fail
     first|exact zR|exact hK _ zR
    simp only[zP,zQ,zB,zC];apply aP rfl
    case h=>
     intro W1 hW K hK;have d:=HB2.out.below hW HB2.out.lt;have e0:=d.cell 0;have e1:=d.cell 1;have e2:=d.cell 2;have e3:=d.cell 3;have e4:=d.cell 4;have e5:=d.cell 5;have ez:=d.lt;clear d
     go_wp2_with fail
     first|exact zR|exact hK _ zR
    simp only[zP,zQ,zB,zC];apply iO rfl
    case h=>
     intro W1 hW hF K hK
     go_wp2_with fail
     exact hK _ _ (zR.alloc zL _) (fun _=>⟨_,rfl,hW.size,Blk.new _ _ _⟩)
    simp only[zP,zQ,zB,zC];refine nT fun W7 hb7 hV7=> ?_
    obtain⟨q,hu,hq,hB⟩:=hV7 11 (by simp) rfl;refine⟨rfl,?_⟩;rw[hu];obtain⟨z0,z1,z2,z3,z4,y0,y1,y2,y3,y4⟩:=hB.five;have hqz:=hB.lt;have HBQ:=zh hB;clear hB hV7 hu
    go_wp2_with fail
    go_meet
    refine⟨q,rfl,hq,?_,?_⟩
    ·exact((((hb7.setCell hq _).setCell hq _).setCell hq _).setCell hq _).setCell hq _
    ·exact((((HBQ.out.set 0 _).set 1 _).set 2 _).set 3 _).set 4 _
  ·apply nV ?hm ?hok ?hlast [some _,some _,some _,some _,some _,some _,some _,some _,some _,some _,some _,none] [11] [] (fun i v w'=>i=11→∃q,v= .pointer (some ⟨q,0,none⟩)∧W.heap.size≤q∧Blk w' q (bM ⟨0,0,false,false,false⟩) 115) ?pM ?hnd ?hnl ?hV _ rfl ?h
   case hm=>rfl
   case hok=>kernel_rfl
   case hlast=>kernel_rfl
   case pM=>kernel_rfl
   case hnd=>simp
   case hnl=>simp
   case hV=>exact fun i v w1 w2 h hb e=>by obtain⟨q,h1,h2,h3⟩:=h e;exact⟨q,h1,h2,h3.below hb h3.lt⟩
   case h=>
    intro u;simp only[List.dropLast];apply aP rfl
    case h=>
     intro W1 hW K hK;have d:=HB2.out.below hW HB2.out.lt;have e0:=d.cell 0;have e1:=d.cell 1;have e2:=d.cell 2;have e3:=d.cell 3;have e4:=d.cell 4;have e5:=d.cell 5;have ez:=d.lt;clear d
     go_wp2_with fail
     first|exact zR|exact hK _ zR
    simp only[zP,zQ,zB,zC];apply aP rfl
    case h=>
     intro W1 hW K hK
     go_wp2_with (go_at_call 76;refine(HSH.out _ hW).mono ?_;rintro e w' ⟨rfl,hb⟩)
     try (first|exact hb|exact hK _ hb)
    simp only[zP,zQ,zB,zC];apply aP rfl
    case h=>
     intro W1 hW K hK;have d:=HB2.out.below hW HB2.out.lt;have e0:=d.cell 0;have e1:=d.cell 1;have e2:=d.cell 2;have e3:=d.cell 3;have e4:=d.cell 4;have e5:=d.cell 5;have ez:=d.lt;clear d
     go_wp2_with fail
     first|exact zR|exact hK _ zR
    simp only[zP,zQ,zB,zC];apply aP rfl
    case h=>
     intro W1 hW K hK;have d:=HB2.out.below hW HB2.out.lt;have e0:=d.cell 0;have e1:=d.cell 1;have e2:=d.cell 2;have e3:=d.cell 3;have e4:=d.cell 4;have e5:=d.cell 5;have ez:=d.lt;clear d
     go_wp2_with fail
     first|exact zR|exact hK _ zR
    simp only[zP,zQ,zB,zC];apply aP rfl
    case h=>
     intro W1 hW K hK;have d:=HB2.out.below hW HB2.out.lt;have e0:=d.cell 0;have e1:=d.cell 1;have e2:=d.cell 2;have e3:=d.cell 3;have e4:=d.cell 4;have e5:=d.cell 5;have ez:=d.lt;clear d
     go_wp2_with fail
     first|exact zR|exact hK _ zR
    simp only[zP,zQ,zB,zC];apply aP rfl
    case h=>
     intro W1 hW K hK;have d:=HB2.out.below hW HB2.out.lt;have e0:=d.cell 0;have e1:=d.cell 1;have e2:=d.cell 2;have e3:=d.cell 3;have e4:=d.cell 4;have e5:=d.cell 5;have ez:=d.lt;clear d
     go_wp2_with fail
     first|exact zR|exact hK _ zR
    simp only[zP,zQ,zB,zC];apply aP rfl
    case h=>
     intro W1 hW K hK;have d:=HB2.out.below hW HB2.out.lt;have e0:=d.cell 0;have e1:=d.cell 1;have e2:=d.cell 2;have e3:=d.cell 3;have e4:=d.cell 4;have e5:=d.cell 5;have ez:=d.lt;clear d
     go_wp2_with fail
     first|exact zR|exact hK _ zR
    simp only[zP,zQ,zB,zC];apply aP rfl
    case h=>
     intro W1 hW K hK;have d:=HB2.out.below hW HB2.out.lt;have e0:=d.cell 0;have e1:=d.cell 1;have e2:=d.cell 2;have e3:=d.cell 3;have e4:=d.cell 4;have e5:=d.cell 5;have ez:=d.lt;clear d
     go_wp2_with fail
     first|exact zR|exact hK _ zR
    simp only[zP,zQ,zB,zC];apply aP rfl
    case h=>
     intro W1 hW K hK;have d:=HB2.out.below hW HB2.out.lt;have e0:=d.cell 0;have e1:=d.cell 1;have e2:=d.cell 2;have e3:=d.cell 3;have e4:=d.cell 4;have e5:=d.cell 5;have ez:=d.lt;clear d
     go_wp2_with fail
     first|exact zR|exact hK _ zR
    simp only[zP,zQ,zB,zC];apply aP rfl
    case h=>
     intro W1 hW K hK;have d:=HB2.out.below hW HB2.out.lt;have e0:=d.cell 0;have e1:=d.cell 1;have e2:=d.cell 2;have e3:=d.cell 3;have e4:=d.cell 4;have e5:=d.cell 5;have ez:=d.lt;clear d
     go_wp2_with fail
     first|exact zR|exact hK _ zR
    simp only[zP,zQ,zB,zC];apply aP rfl
    case h=>
     intro W1 hW K hK;have d:=HB2.out.below hW HB2.out.lt;have e0:=d.cell 0;have e1:=d.cell 1;have e2:=d.cell 2;have e3:=d.cell 3;have e4:=d.cell 4;have e5:=d.cell 5;have ez:=d.lt;clear d
     go_wp2_with fail
     first|exact zR|exact hK _ zR
    simp only[zP,zQ,zB,zC];apply iO rfl
    case h=>
     intro W1 hW hF K hK
     go_wp2_with fail
     exact hK _ _ (zR.alloc zL _) (fun _=>⟨_,rfl,hW.size,Blk.new _ _ _⟩)
    simp only[zP,zQ,zB,zC];refine nT fun W7 hb7 hV7=> ?_
    obtain⟨q,hu,hq,hB⟩:=hV7 11 (by simp) rfl;refine⟨rfl,?_⟩;rw[hu];obtain⟨z0,z1,z2,z3,z4,y0,y1,y2,y3,y4⟩:=hB.five;have hqz:=hB.lt;have HBQ:=zh hB;clear hB hV7 hu
    go_wp2_with fail
    go_meet
    refine⟨q,rfl,hq,?_,?_⟩
    ·exact((((hb7.setCell hq _).setCell hq _).setCell hq _).setCell hq _).setCell hq _
    ·exact((((HBQ.out.set 0 _).set 1 _).set 2 _).set 3 _).set 4 _
  ·apply nV ?hm ?hok ?hlast [some _,some _,some _,some _,some _,some _,some _,some _,some _,some _,some _,none] [11] [] (fun i v w'=>i=11→∃q,v= .pointer (some ⟨q,0,none⟩)∧W.heap.size≤q∧Blk w' q (bM ⟨0,0,false,false,false⟩) 115) ?pM ?hnd ?hnl ?hV _ rfl ?h
   case hm=>rfl
   case hok=>kernel_rfl
   case hlast=>kernel_rfl
   case pM=>kernel_rfl
   case hnd=>simp
   case hnl=>simp
   case hV=>exact fun i v w1 w2 h hb e=>by obtain⟨q,h1,h2,h3⟩:=h e;exact⟨q,h1,h2,h3.below hb h3.lt⟩
   case h=>
    intro u;simp only[List.dropLast];apply aP rfl
    case h=>
     intro W1 hW K hK;have d:=HB2.out.below hW HB2.out.lt;have e0:=d.cell 0;have e1:=d.cell 1;have e2:=d.cell 2;have e3:=d.cell 3;have e4:=d.cell 4;have e5:=d.cell 5;have ez:=d.lt;clear d
     go_wp2_with fail
     first|exact zR|exact hK _ zR
    simp only[zP,zQ,zB,zC];apply aP rfl
    case h=>
     intro W1 hW K hK
     go_wp2_with (go_at_call 76;refine(HSH.out _ hW).mono ?_;rintro e w' ⟨rfl,hb⟩)
     try (first|exact hb|exact hK _ hb)
    simp only[zP,zQ,zB,zC];apply aP rfl
    case h=>
     intro W1 hW K hK;have d:=HB2.out.below hW HB2.out.lt;have e0:=d.cell 0;have e1:=d.cell 1;have e2:=d.cell 2;have e3:=d.cell 3;have e4:=d.cell 4;have e5:=d.cell 5;have ez:=d.lt;clear d
     go_wp2_with fail
     first|exact zR|exact hK _ zR
    simp only[zP,zQ,zB,zC];apply aP rfl
    case h=>
     intro W1 hW K hK;have d:=HB2.out.below hW HB2.out.lt;have e0:=d.cell 0;have e1:=d.cell 1;have e2:=d.cell 2;have e3:=d.cell 3;have e4:=d.cell 4;have e5:=d.cell 5;have ez:=d.lt;clear d
     go_wp2_with fail
     first|exact zR|exact hK _ zR
    simp only[zP,zQ,zB,zC];apply aP rfl
    case h=>
     intro W1 hW K hK;have d:=HB2.out.below hW HB2.out.lt;have e0:=d.cell 0;have e1:=d.cell 1;have e2:=d.cell 2;have e3:=d.cell 3;have e4:=d.cell 4;have e5:=d.cell 5;have ez:=d.lt;clear d
     go_wp2_with fail
     first|exact zR|exact hK _ zR
    simp only[zP,zQ,zB,zC];apply aP rfl
    case h=>
     intro W1 hW K hK;have d:=HB2.out.below hW HB2.out.lt;have e0:=d.cell 0;have e1:=d.cell 1;have e2:=d.cell 2;have e3:=d.cell 3;have e4:=d.cell 4;have e5:=d.cell 5;have ez:=d.lt;clear d
     go_wp2_with fail
     first|exact zR|exact hK _ zR
    simp only[zP,zQ,zB,zC];apply aP rfl
    case h=>
     intro W1 hW K hK;have d:=HB2.out.below hW HB2.out.lt;have e0:=d.cell 0;have e1:=d.cell 1;have e2:=d.cell 2;have e3:=d.cell 3;have e4:=d.cell 4;have e5:=d.cell 5;have ez:=d.lt;clear d
     go_wp2_with fail
     first|exact zR|exact hK _ zR
    simp only[zP,zQ,zB,zC];apply aP rfl
    case h=>
     intro W1 hW K hK;have d:=HB2.out.below hW HB2.out.lt;have e0:=d.cell 0;have e1:=d.cell 1;have e2:=d.cell 2;have e3:=d.cell 3;have e4:=d.cell 4;have e5:=d.cell 5;have ez:=d.lt;clear d
     go_wp2_with fail
     first|exact zR|exact hK _ zR
    simp only[zP,zQ,zB,zC];apply aP rfl
    case h=>
     intro W1 hW K hK;have d:=HB2.out.below hW HB2.out.lt;have e0:=d.cell 0;have e1:=d.cell 1;have e2:=d.cell 2;have e3:=d.cell 3;have e4:=d.cell 4;have e5:=d.cell 5;have ez:=d.lt;clear d
     go_wp2_with fail
     first|exact zR|exact hK _ zR
    simp only[zP,zQ,zB,zC];apply aP rfl
    case h=>
     intro W1 hW K hK;have d:=HB2.out.below hW HB2.out.lt;have e0:=d.cell 0;have e1:=d.cell 1;have e2:=d.cell 2;have e3:=d.cell 3;have e4:=d.cell 4;have e5:=d.cell 5;have ez:=d.lt;clear d
     go_wp2_with fail
     first|exact zR|exact hK _ zR
    simp only[zP,zQ,zB,zC];apply aP rfl
    case h=>
     intro W1 hW K hK;have d:=HB2.out.below hW HB2.out.lt;have e0:=d.cell 0;have e1:=d.cell 1;have e2:=d.cell 2;have e3:=d.cell 3;have e4:=d.cell 4;have e5:=d.cell 5;have ez:=d.lt;clear d
     go_wp2_with fail
     first|exact zR|exact hK _ zR
    simp only[zP,zQ,zB,zC];apply iO rfl
    case h=>
     intro W1 hW hF K hK
     go_wp2_with fail
     exact hK _ _ (zR.alloc zL _) (fun _=>⟨_,rfl,hW.size,Blk.new _ _ _⟩)
    simp only[zP,zQ,zB,zC];refine nT fun W7 hb7 hV7=> ?_
    obtain⟨q,hu,hq,hB⟩:=hV7 11 (by simp) rfl;refine⟨rfl,?_⟩;rw[hu];obtain⟨z0,z1,z2,z3,z4,y0,y1,y2,y3,y4⟩:=hB.five;have hqz:=hB.lt;have HBQ:=zh hB;clear hB hV7 hu
    go_wp2_with fail
    go_meet
    refine⟨q,rfl,hq,?_,?_⟩
    ·exact((((hb7.setCell hq _).setCell hq _).setCell hq _).setCell hq _).setCell hq _
    ·rw[show(decide (k=1) || decide (k=3))=false by simp at k1 k3;simp[k1,k3]];exact((((HBQ.out.set 0 _).set 1 _).set 2 _).set 3 _).set 4 _
 case rest=>
  rename World=>Wc
  obtain⟨q,rfl,hqW,hbc,hBq⟩:=hcut;obtain⟨f0,hf0⟩:∃f0:Facts,f0=⟨0,0,decide (k=1) || decide (k=3),shp,true⟩:=⟨_,rfl⟩;rw[←hf0] at hBq;have hlook:dw k f0 subs=dw k ⟨0,0,decide (k=1) || decide (k=3),bT (.mk k set lo hi lazy subs),true⟩ subs:=by rw[hf0,HSHP.out]
  have Rn:=zh hlook;have HBQ:=zh hBq;have HBC:=zh hbc;have HF0:=zh hf0;have hqW2:w.heap.size+2≤q:=by have:=HZW.out;omega
  have c5:Wc.cell? ⟨w.heap.size,5,none⟩=some (.slice ou subs.length cu):=(HB2.out.below hbc HB2.out.lt).cell 5;have c5z:w.heap.size<Wc.heap.size:=(HB2.out.below hbc HB2.out.lt).lt;have hwc:Below w.heap.size w Wc:=HBW.out.trans (hbc.mono (by have:=HBW.out.size;omega));have HWC:=zh hwc;have hsl:(subs.length:Int)≤1048576:=(by omega);have Bi:aF subs≤1000000:=by rw[nodes] at hno;omega
  have HNO:=zh Bi;clear hlook hBq hbc hf0 hwc d0 d1 d2 d3 d4 d5 dz Bi hno hqW
  go_wp2_with fail
  go_loopw [22] (fun s22 wx=>∃i:Nat,i≤subs.length∧s22= .int .i64 i∧Blk wx q (bM (dw k f0 (subs.take i))) 115∧Kept (fun x=>x=q) Wc wx) (fun s22 _=>subs.length-(intOf s22).toNat)
  case atStart=>exact⟨0,by omega,rfl,HBQ.out,Kept.refl _ _⟩
  case round=>
   rename World=>Wa
   obtain⟨i,hi',rfl,hBa,hka⟩:=hrel;have hkw:Below w.heap.size w Wa:=HWC.out.trans (hka.gK (by have:=HWC.out.size;omega) (fun x hx e=>by omega));by_cases hil:¬i<subs.length
   ·obtain rfl:i=subs.length:=(by omega);rw[List.take_length] at hBa;obtain⟨r,hr⟩:∃r,r=dw k f0 subs:=⟨_,rfl⟩;rw[←hr] at hBa;have hrb:=jZ k subs f0 (by rw[HF0.out];exact Int.le_refl _) (by rw[HF0.out];exact Int.le_refl _);rw[←hr] at hrb;have Pv:f0.depth=0∧f0.groups=0:=by rw[HF0.out];exact⟨rfl,rfl⟩
    have hno':=HNO.out;have b1:r.depth≤1000000:=(by omega);have b1':0≤r.depth:=(by omega);have b2:r.groups≤1000000:=(by omega);have b2':0≤r.groups:=(by omega);have hres:Wy.look (.mk k set lo hi lazy subs)=⟨r.depth+1,if k=6 then r.groups+1 else r.groups,if k=5 then r.ah || decide (lo=0) else r.ah,r.shaped,if k=5 then r.bC && !(r.ah && (decide (hi= -1) || decide (1<hi))) else r.bC⟩:=by
     rw[Wy.look,←Rn.out,←hr]
    have jf:=zh hres;have hn3:Blk Wa w.heap.size _ _:=(HB2.out.below HBC.out HB2.out.lt).kept hka (by omega);have hq3:Blk Wa (w.heap.size+1) _ _:=(HB3.out.below HBC.out HB3.out.lt).kept hka (by omega);obtain⟨k0,k2,k3⟩:Wa.cell? ⟨w.heap.size,0,none⟩=some (.int .u8 k)∧Wa.cell? ⟨w.heap.size,2,none⟩=some (.int .i64 lo)∧Wa.cell? ⟨w.heap.size,3,none⟩=some (.int .i64 hi):=⟨hn3.cell 0,hn3.cell 2,hn3.cell 3⟩;have kz:=hn3.lt;obtain⟨x0,x1,x2,x3,x4,y0,y1,y2,y3,y4⟩:=(show Blk Wa q #[.int .i64 r.depth,.int .i64 r.groups,.bool r.ah,.bool r.shaped,.bool r.bC] 115 from hBa).five;have xz:=hBa.lt;obtain⟨v0,v1,v2,v3,v4,w0,w1,w2,w3,w4⟩:=hq3.five;have vz:=hq3.lt;have HBA:=zh hBa;have HQ3:=zh hq3;have HKW:=zh hkw;have hne1:q≠w.heap.size:=(by omega);have hne2:q≠w.heap.size+1:=(by omega);clear hr hrb Pv hno' hres hn3 hq3 hBa hka hkw;by_cases k6:k=6
    ·subst k6
     go_wp2_with fail
     have hfin:=(((((((HQ3.out.setOther (p:=⟨q,0,none⟩) (Ne.symm hne2) (.int .i64 (r.depth+1))).setOther (p:=⟨q,1,none⟩) (Ne.symm hne2) (.int .i64 (r.groups+1))).set 0 (.int .i64 (r.depth+1))).set 1 (.int .i64 (r.groups+1))).set 2 (.bool r.ah)).set 3 (.bool r.shaped)).set 4 (.bool r.bC));obtain⟨c0,c1,c2,c3,c4,-⟩:=hfin.five;refine bodyPost_ret (v:= .agg #[.int .i64 (r.depth+1),.int .i64 (r.groups+1),.bool r.ah,.bool r.shaped,.bool r.bC]) (by simp[results,Tryz.results75,go_sem,c0,c1,c2,c3,c4]) rfl ⟨?_,?_⟩
     ·rw[jf.out];simp[bM]
     ·exact(((((((HKW.out.setCell (by show w.heap.size≤q;omega) _).setCell (by show w.heap.size≤q;omega) _).setCell (by show w.heap.size≤w.heap.size+1;omega) _).setCell (by show w.heap.size≤w.heap.size+1;omega) _).setCell (by show w.heap.size≤w.heap.size+1;omega) _).setCell (by show w.heap.size≤w.heap.size+1;omega) _).setCell (by show w.heap.size≤w.heap.size+1;omega) _)
    ·have k6b:(k == 6)=false:=by simpa using k6
     by_cases k5:k=5
     ·subst k5;cases hrf:r.bC<;>rw[hrf] at x4<;>cases hrn:r.ah<;>rw[hrn] at x2
      ·by_cases hl0:lo=0
       ·subst hl0
        go_wp2_with fail
        have hfin:=((((((((HQ3.out.setOther (p:=⟨q,0,none⟩) (Ne.symm hne2) (.int .i64 (r.depth+1))).setOther (p:=⟨q,4,none⟩) (Ne.symm hne2) (.bool false)).setOther (p:=⟨q,2,none⟩) (Ne.symm hne2) (.bool true)).set 0 (.int .i64 (r.depth+1))).set 1 (.int .i64 (r.groups))).set 2 (.bool true)).set 3 (.bool r.shaped)).set 4 (.bool false));obtain⟨c0,c1,c2,c3,c4,-⟩:=hfin.five;refine bodyPost_ret (v:= .agg #[.int .i64 (r.depth+1),.int .i64 (r.groups),.bool true,.bool r.shaped,.bool false]) (by simp[results,Tryz.results75,go_sem,c0,c1,c2,c3,c4]) rfl ⟨?_,?_⟩
        ·rw[jf.out];simp[bM,hrf,hrn]
        ·exact((((((((HKW.out.setCell (by show w.heap.size≤q;omega) _).setCell (by show w.heap.size≤q;omega) _).setCell (by show w.heap.size≤q;omega) _).setCell (by show w.heap.size≤w.heap.size+1;omega) _).setCell (by show w.heap.size≤w.heap.size+1;omega) _).setCell (by show w.heap.size≤w.heap.size+1;omega) _).setCell (by show w.heap.size≤w.heap.size+1;omega) _).setCell (by show w.heap.size≤w.heap.size+1;omega) _)
       ·have Px:(lo == 0)=false:=by simpa using hl0
        go_wp2_with fail
        have hfin:=((((((((HQ3.out.setOther (p:=⟨q,0,none⟩) (Ne.symm hne2) (.int .i64 (r.depth+1))).setOther (p:=⟨q,4,none⟩) (Ne.symm hne2) (.bool false)).setOther (p:=⟨q,2,none⟩) (Ne.symm hne2) (.bool false)).set 0 (.int .i64 (r.depth+1))).set 1 (.int .i64 (r.groups))).set 2 (.bool false)).set 3 (.bool r.shaped)).set 4 (.bool false));obtain⟨c0,c1,c2,c3,c4,-⟩:=hfin.five;refine bodyPost_ret (v:= .agg #[.int .i64 (r.depth+1),.int .i64 (r.groups),.bool false,.bool r.shaped,.bool false]) (by simp[results,Tryz.results75,go_sem,c0,c1,c2,c3,c4]) rfl ⟨?_,?_⟩
        ·rw[jf.out];simp[bM,hrf,hrn,hl0]
        ·exact((((((((HKW.out.setCell (by show w.heap.size≤q;omega) _).setCell (by show w.heap.size≤q;omega) _).setCell (by show w.heap.size≤q;omega) _).setCell (by show w.heap.size≤w.heap.size+1;omega) _).setCell (by show w.heap.size≤w.heap.size+1;omega) _).setCell (by show w.heap.size≤w.heap.size+1;omega) _).setCell (by show w.heap.size≤w.heap.size+1;omega) _).setCell (by show w.heap.size≤w.heap.size+1;omega) _)
      ·skip
       go_wp2_with fail
       have hfin:=((((((((HQ3.out.setOther (p:=⟨q,0,none⟩) (Ne.symm hne2) (.int .i64 (r.depth+1))).setOther (p:=⟨q,4,none⟩) (Ne.symm hne2) (.bool false)).setOther (p:=⟨q,2,none⟩) (Ne.symm hne2) (.bool true)).set 0 (.int .i64 (r.depth+1))).set 1 (.int .i64 (r.groups))).set 2 (.bool true)).set 3 (.bool r.shaped)).set 4 (.bool false));obtain⟨c0,c1,c2,c3,c4,-⟩:=hfin.five;refine bodyPost_ret (v:= .agg #[.int .i64 (r.depth+1),.int .i64 (r.groups),.bool true,.bool r.shaped,.bool false]) (by simp[results,Tryz.results75,go_sem,c0,c1,c2,c3,c4]) rfl ⟨?_,?_⟩
       ·rw[jf.out];simp[bM,hrf,hrn]
       ·exact((((((((HKW.out.setCell (by show w.heap.size≤q;omega) _).setCell (by show w.heap.size≤q;omega) _).setCell (by show w.heap.size≤q;omega) _).setCell (by show w.heap.size≤w.heap.size+1;omega) _).setCell (by show w.heap.size≤w.heap.size+1;omega) _).setCell (by show w.heap.size≤w.heap.size+1;omega) _).setCell (by show w.heap.size≤w.heap.size+1;omega) _).setCell (by show w.heap.size≤w.heap.size+1;omega) _)
      ·by_cases hl0:lo=0
       ·subst hl0
        go_wp2_with fail
        have hfin:=((((((((HQ3.out.setOther (p:=⟨q,0,none⟩) (Ne.symm hne2) (.int .i64 (r.depth+1))).setOther (p:=⟨q,4,none⟩) (Ne.symm hne2) (.bool true)).setOther (p:=⟨q,2,none⟩) (Ne.symm hne2) (.bool true)).set 0 (.int .i64 (r.depth+1))).set 1 (.int .i64 (r.groups))).set 2 (.bool true)).set 3 (.bool r.shaped)).set 4 (.bool true));obtain⟨c0,c1,c2,c3,c4,-⟩:=hfin.five;refine bodyPost_ret (v:= .agg #[.int .i64 (r.depth+1),.int .i64 (r.groups),.bool true,.bool r.shaped,.bool true]) (by simp[results,Tryz.results75,go_sem,c0,c1,c2,c3,c4]) rfl ⟨?_,?_⟩
        ·rw[jf.out];simp[bM,hrf,hrn]
        ·exact((((((((HKW.out.setCell (by show w.heap.size≤q;omega) _).setCell (by show w.heap.size≤q;omega) _).setCell (by show w.heap.size≤q;omega) _).setCell (by show w.heap.size≤w.heap.size+1;omega) _).setCell (by show w.heap.size≤w.heap.size+1;omega) _).setCell (by show w.heap.size≤w.heap.size+1;omega) _).setCell (by show w.heap.size≤w.heap.size+1;omega) _).setCell (by show w.heap.size≤w.heap.size+1;omega) _)
       ·have Px:(lo == 0)=false:=by simpa using hl0
        go_wp2_with fail
        have hfin:=((((((((HQ3.out.setOther (p:=⟨q,0,none⟩) (Ne.symm hne2) (.int .i64 (r.depth+1))).setOther (p:=⟨q,4,none⟩) (Ne.symm hne2) (.bool true)).setOther (p:=⟨q,2,none⟩) (Ne.symm hne2) (.bool false)).set 0 (.int .i64 (r.depth+1))).set 1 (.int .i64 (r.groups))).set 2 (.bool false)).set 3 (.bool r.shaped)).set 4 (.bool true));obtain⟨c0,c1,c2,c3,c4,-⟩:=hfin.five;refine bodyPost_ret (v:= .agg #[.int .i64 (r.depth+1),.int .i64 (r.groups),.bool false,.bool r.shaped,.bool true]) (by simp[results,Tryz.results75,go_sem,c0,c1,c2,c3,c4]) rfl ⟨?_,?_⟩
        ·rw[jf.out];simp[bM,hrf,hrn,hl0]
        ·exact((((((((HKW.out.setCell (by show w.heap.size≤q;omega) _).setCell (by show w.heap.size≤q;omega) _).setCell (by show w.heap.size≤q;omega) _).setCell (by show w.heap.size≤w.heap.size+1;omega) _).setCell (by show w.heap.size≤w.heap.size+1;omega) _).setCell (by show w.heap.size≤w.heap.size+1;omega) _).setCell (by show w.heap.size≤w.heap.size+1;omega) _).setCell (by show w.heap.size≤w.heap.size+1;omega) _)
      ·by_cases h1:hi= -1
       ·subst h1
        go_wp2_with fail
        have hfin:=((((((((HQ3.out.setOther (p:=⟨q,0,none⟩) (Ne.symm hne2) (.int .i64 (r.depth+1))).setOther (p:=⟨q,4,none⟩) (Ne.symm hne2) (.bool false)).setOther (p:=⟨q,2,none⟩) (Ne.symm hne2) (.bool true)).set 0 (.int .i64 (r.depth+1))).set 1 (.int .i64 (r.groups))).set 2 (.bool true)).set 3 (.bool r.shaped)).set 4 (.bool false));obtain⟨c0,c1,c2,c3,c4,-⟩:=hfin.five;refine bodyPost_ret (v:= .agg #[.int .i64 (r.depth+1),.int .i64 (r.groups),.bool true,.bool r.shaped,.bool false]) (by simp[results,Tryz.results75,go_sem,c0,c1,c2,c3,c4]) rfl ⟨?_,?_⟩
        ·rw[jf.out];simp[bM,hrf,hrn]
        ·exact((((((((HKW.out.setCell (by show w.heap.size≤q;omega) _).setCell (by show w.heap.size≤q;omega) _).setCell (by show w.heap.size≤q;omega) _).setCell (by show w.heap.size≤w.heap.size+1;omega) _).setCell (by show w.heap.size≤w.heap.size+1;omega) _).setCell (by show w.heap.size≤w.heap.size+1;omega) _).setCell (by show w.heap.size≤w.heap.size+1;omega) _).setCell (by show w.heap.size≤w.heap.size+1;omega) _)
       ·have h1b:(hi == -1)=false:=by simpa using h1
        by_cases h2:1<hi
        ·skip
         go_wp2_with fail
         have hfin:=((((((((HQ3.out.setOther (p:=⟨q,0,none⟩) (Ne.symm hne2) (.int .i64 (r.depth+1))).setOther (p:=⟨q,4,none⟩) (Ne.symm hne2) (.bool false)).setOther (p:=⟨q,2,none⟩) (Ne.symm hne2) (.bool true)).set 0 (.int .i64 (r.depth+1))).set 1 (.int .i64 (r.groups))).set 2 (.bool true)).set 3 (.bool r.shaped)).set 4 (.bool false));obtain⟨c0,c1,c2,c3,c4,-⟩:=hfin.five;refine bodyPost_ret (v:= .agg #[.int .i64 (r.depth+1),.int .i64 (r.groups),.bool true,.bool r.shaped,.bool false]) (by simp[results,Tryz.results75,go_sem,c0,c1,c2,c3,c4]) rfl ⟨?_,?_⟩
         ·rw[jf.out];simp[bM,hrf,hrn,h1,h2]
         ·exact((((((((HKW.out.setCell (by show w.heap.size≤q;omega) _).setCell (by show w.heap.size≤q;omega) _).setCell (by show w.heap.size≤q;omega) _).setCell (by show w.heap.size≤w.heap.size+1;omega) _).setCell (by show w.heap.size≤w.heap.size+1;omega) _).setCell (by show w.heap.size≤w.heap.size+1;omega) _).setCell (by show w.heap.size≤w.heap.size+1;omega) _).setCell (by show w.heap.size≤w.heap.size+1;omega) _)
        ·have h2b:decide (1<hi)=false:=by simpa using h2
         go_wp2_with fail
         have hfin:=((((((((HQ3.out.setOther (p:=⟨q,0,none⟩) (Ne.symm hne2) (.int .i64 (r.depth+1))).setOther (p:=⟨q,4,none⟩) (Ne.symm hne2) (.bool true)).setOther (p:=⟨q,2,none⟩) (Ne.symm hne2) (.bool true)).set 0 (.int .i64 (r.depth+1))).set 1 (.int .i64 (r.groups))).set 2 (.bool true)).set 3 (.bool r.shaped)).set 4 (.bool true));obtain⟨c0,c1,c2,c3,c4,-⟩:=hfin.five;refine bodyPost_ret (v:= .agg #[.int .i64 (r.depth+1),.int .i64 (r.groups),.bool true,.bool r.shaped,.bool true]) (by simp[results,Tryz.results75,go_sem,c0,c1,c2,c3,c4]) rfl ⟨?_,?_⟩
         ·rw[jf.out];simp[bM,hrf,hrn,h1,h2]
         ·exact((((((((HKW.out.setCell (by show w.heap.size≤q;omega) _).setCell (by show w.heap.size≤q;omega) _).setCell (by show w.heap.size≤q;omega) _).setCell (by show w.heap.size≤w.heap.size+1;omega) _).setCell (by show w.heap.size≤w.heap.size+1;omega) _).setCell (by show w.heap.size≤w.heap.size+1;omega) _).setCell (by show w.heap.size≤w.heap.size+1;omega) _).setCell (by show w.heap.size≤w.heap.size+1;omega) _)
     ·have k5b:(k == 5)=false:=by simpa using k5
      go_wp2_with fail
      have hfin:=((((((HQ3.out.setOther (p:=⟨q,0,none⟩) (Ne.symm hne2) (.int .i64 (r.depth+1))).set 0 (.int .i64 (r.depth+1))).set 1 (.int .i64 (r.groups))).set 2 (.bool r.ah)).set 3 (.bool r.shaped)).set 4 (.bool r.bC));obtain⟨c0,c1,c2,c3,c4,-⟩:=hfin.five;refine bodyPost_ret (v:= .agg #[.int .i64 (r.depth+1),.int .i64 (r.groups),.bool r.ah,.bool r.shaped,.bool r.bC]) (by simp[results,Tryz.results75,go_sem,c0,c1,c2,c3,c4]) rfl ⟨?_,?_⟩
      ·rw[jf.out,if_neg k6,if_neg k5,if_neg k5]
       rfl
      ·exact((((((HKW.out.setCell (by show w.heap.size≤q;omega) _).setCell (by show w.heap.size≤w.heap.size+1;omega) _).setCell (by show w.heap.size≤w.heap.size+1;omega) _).setCell (by show w.heap.size≤w.heap.size+1;omega) _).setCell (by show w.heap.size≤w.heap.size+1;omega) _).setCell (by show w.heap.size≤w.heap.size+1;omega) _)
   ·have hil:=Decidable.not_not.1 hil;obtain⟨ub,uo,uc,hue,huc,hum,Fz,bg,gB⟩:=dQ.out.parts eY.out (by omega);simp only[Value.slice.injEq,true_and] at hue;obtain⟨rfl,rfl⟩:=hue;obtain⟨tsv,tuv,hnt,t0,t1,t2,t3,t4,t5⟩:=gB i hil;obtain⟨ts,hts⟩:∃ts,ts=subs[i]:=⟨_,rfl⟩;rw[←hts] at t0 t2 t3 t4 hnt;have hsl1:(∃o n c,tsv= .slice o n c)∧∃o n c,tuv= .slice o n c:=by
     have y7:=hnt;cases ts;rw[ai] at y7;obtain⟨sv',uv',Lp,h1,-,-,-,h5,h6,-⟩:=y7;simp only[List.cons.injEq] at h1;obtain⟨o,c,e⟩:=h5.row.slice;obtain⟨o',c',e'⟩:=h6.slice;exact⟨⟨_,_,_,by rw[h1.2.1];exact e⟩,⟨_,_,_,by rw[h1.2.2.2.2.2.1];exact e'⟩⟩
    obtain⟨⟨to1,tn1,tc1,rfl⟩,to2,tn2,tc2,rfl⟩:=hsl1;have hub:Wa.heap[ub]? =w.heap[ub]? :=hkw.block ub bg;have g0:=(zW (a:=⟨ub,uo+i*6,none⟩) hub).trans t0;have g1:=(zW (a:=⟨ub,uo+i*6+1,none⟩) hub).trans t1;have g2:=(zW (a:=⟨ub,uo+i*6+2,none⟩) hub).trans t2;have g3:=(zW (a:=⟨ub,uo+i*6+3,none⟩) hub).trans t3;have g4:=(zW (a:=⟨ub,uo+i*6+4,none⟩) hub).trans t4;have g5:=(zW (a:=⟨ub,uo+i*6+5,none⟩) hub).trans t5;have Ej:ub<Wa.heap.size:=Nat.lt_of_lt_of_le bg hkw.size;have hva:Wa.cell? ⟨vb,0,none⟩=some (LY vb):=(hkw.cell (p:=⟨vb,0,none⟩) hvz).trans hvb;have Ro:vb<Wa.heap.size:=Nat.lt_of_lt_of_le hvz hkw.size;unfold LY at hva;have pO:(i:Int)<subs.length:=(by omega);have lK:(subs.length:Int)≤cu:=(by omega);have hbA:Below Wa.heap.size Wa (Wa.alloc (.cells #[.int .u8 ts.kind,.slice to1 tn1 tc1,.int .i64 ts.lo,.int .i64 ts.hi,.bool ts.lazy,.slice to2 tn2 tc2] 27)):=zR.alloc zL _;have hcall:=HIH.out ts (by rw[hts];exact List.getElem_mem hil) N (Wa.alloc (.cells #[.int .u8 ts.kind,.slice to1 tn1 tc1,.int .i64 ts.lo,.int .i64 ts.hi,.bool ts.lazy,.slice to2 tn2 tc2] 27)) vb _ (ai.go (Kept.of_below (hkw.trans (hbA.mono (hkw.size))) (fun _=>False)) (fun x _ hn=>⟨id,hn⟩) hnt) ((hbA.cell (p:=⟨vb,0,none⟩) Ro).trans hva) (Nat.lt_of_lt_of_le Ro hbA.size) (by have:=jw hil;rw[←hts] at this;have:=HNO.out;omega);obtain⟨gg,hgg⟩:∃gg,gg=Wy.look ts:=⟨_,rfl⟩;rw[←hgg] at hcall;simp only[bM] at hcall;have aS:=zh hcall;have HGG:=zh hgg;have HBA:=zh hBa;have HKA:=zh hka;have HTS:=zh hts;have hqz:=hBa.lt;clear gB hnt hts hub t0 t1 t2 t3 t4 t5 hcall hbA hBa hka hkw hgg;go_upto_region 6 with(first|(go_at_call 75;refine aS.out.mono ?_;rintro e w5 ⟨rfl,hb5⟩;have HB5:=zh hb5;clear hb5))
    obtain⟨f,hf⟩:∃f,f=dw k f0 (subs.take i):=⟨_,rfl⟩;have hbB:Below Wa.heap.size Wa (w5.alloc (.cells #[.int .i64 gg.depth,.int .i64 gg.groups,.bool gg.ah,.bool gg.shaped,.bool gg.bC] 115)):=
     ((zR.alloc zL _).trans (HB5.out.mono (by simp))).alloc (by have:=HB5.out.size;simp at this;omega) _
    have hBf:Blk (w5.alloc (.cells #[.int .i64 gg.depth,.int .i64 gg.groups,.bool gg.ah,.bool gg.shaped,.bool gg.bC] 115)) q (bM f) 115:=by rw[hf];exact HBA.out.below hbB hqz
    have hBg:Blk (w5.alloc (.cells #[.int .i64 gg.depth,.int .i64 gg.groups,.bool gg.ah,.bool gg.shaped,.bool gg.bC] 115)) w5.heap.size (bM gg) 115:=Blk.new _ _ _;have hqg:q<w5.heap.size:=by have:=HB5.out.size;simp at this;omega
    obtain⟨pg,hpg⟩:∃pg,pg=w5.heap.size:=⟨_,rfl⟩;rw[←hpg] at hBg hqg ⊢;generalize (w5.alloc (.cells #[.int .i64 gg.depth,.int .i64 gg.groups,.bool gg.ah,.bool gg.shaped,.bool gg.bC] 115))=W6 at hbB hBf hBg ⊢;have hgb:=vU ts;rw[←HGG.out] at hgb;have hfb:=jZ k (subs.take i) f0 (by rw[HF0.out];exact Int.le_refl _) (by rw[HF0.out];exact Int.le_refl _);rw[←hf] at hfb;have Pv:f0.depth=0∧f0.groups=0:=by rw[HF0.out];exact⟨rfl,rfl⟩
    have Rq:=jw hil;rw[←HTS.out] at Rq;have hno':=HNO.out;have hb1:f.depth≤1000000∧0≤f.depth:=(by omega);have hb2:f.groups≤1000000∧0≤f.groups:=(by omega);have hb3:gg.depth≤1000000∧0≤gg.depth:=(by omega);have hb4:gg.groups≤1000000∧0≤gg.groups:=(by omega);obtain⟨b1,b1'⟩:=hb1;obtain⟨b2,b2'⟩:=hb2;obtain⟨b3,b3'⟩:=hb3;obtain⟨b4,b4'⟩:=hb4;have hstep:dw k f0 (subs.take (i+1))=tC k f gg:=by
     rw[List.take_succ_eq_append_getElem hil,vT,←hf,HGG.out,HTS.out]
    have vV:=zh hstep;have HBB:=zh hbB;have HBF:=zh hBf;have HBG:=zh hBg;have HPG:=zh hpg;have HFF:=zh hf;clear hstep hbB hf hgb hfb Pv Rq hno' hpg;obtain⟨x0,x1,x2,x3,x4,y0,y1,y2,y3,y4⟩:=(show Blk W6 q #[.int .i64 f.depth,.int .i64 f.groups,.bool f.ah,.bool f.shaped,.bool f.bC] 115 from hBf).five;obtain⟨u0,u1,u2,u3,u4,-⟩:=(show Blk W6 pg #[.int .i64 gg.depth,.int .i64 gg.groups,.bool gg.ah,.bool gg.shaped,.bool gg.bC] 115 from hBg).five;have xz:=hBf.lt;have uz:=hBg.lt;clear hBf hBg
    go_cut [] (fun wx=>∃d1 d2:Int,d1=max f.depth gg.depth∧d2=f.groups+gg.groups∧wx=(W6.drew.setCell ⟨q,0,none⟩ (.int .i64 d1)).setCell ⟨q,1,none⟩ (.int .i64 d2))
    case first=>
     apply aJ ?hm ?hok [0,1,2,3,4,5,6,7,8,9,10,11,12,13] [11,13] [0,1,2,3,4,5,6,10] ?hord (fun w'=>w'.cell? ⟨pg,1,none⟩=some (.int .i64 gg.groups)∧pg<w'.heap.size) (fun L w'=>match L with|[]=>w'=W6.drew|[_]=>w'=W6.drew.setCell ⟨q,0,none⟩ (.int .i64 (max f.depth gg.depth))|_=>w'=(W6.drew.setCell ⟨q,0,none⟩ (.int .i64 (max f.depth gg.depth))).setCell ⟨q,1,none⟩ (.int .i64 (f.groups+gg.groups)))
     case hm=>rfl
     case hok=>kernel_rfl
     case hord=>kernel_rfl
     case hb=>
      intro L w' h hl
      match L with
      |[]=>obtain rfl:w'=W6.drew:=h;exact⟨u1,uz⟩
      |[_]=>
       obtain rfl:w'=W6.drew.setCell ⟨q,0,none⟩ (.int .i64 (max f.depth gg.depth)):=h;have hB:Blk W6.drew pg (bM gg) 115:=HBG.out;exact⟨(hB.setOther (p:=⟨q,0,none⟩) (by show pg≠q;omega) _).cell 1,(hB.setOther (p:=⟨q,0,none⟩) (by show pg≠q;omega) (.int .i64 (max f.depth gg.depth))).lt⟩
      |_::_::_=>
       exfalso;rw[show(List.filter (fun j=>[11,13].contains j) [0,1,2,3,4,5,6,7,8,9,10,11,12,13]).length=2 by decide] at hl;simp only[List.length_cons] at hl;omega
     case hw=>rfl
     case h=>
      iterate 7
       apply ag _ rfl rfl rfl rfl
       case h=>
        intro W1 hW K hK
        (obtain rfl:W1=W6.drew:=hW)
        go_wp2_with fail
        exact hK
       simp only[zP,zQ,zB,zC]
      iterate 3
       apply ae _ rfl rfl rfl rfl
       case h=>
        intro W1 hW K hK
        (obtain⟨v1,vz⟩:=hW)
        go_wp2_with fail
        exact hK
       simp only[zP,zQ,zB,zC]
      iterate 1
       apply ag _ rfl rfl rfl rfl
       case h=>
        intro W1 hW K hK
        (obtain rfl:W1=W6.drew:=hW)
        go_wp2_with fail
        exact hK
       simp only[zP,zQ,zB,zC]
      apply ax rfl rfl rfl
      case h=>
       intro W10 hW K hK;obtain rfl:W10=W6.drew:=hW
       go_wp2_with fail
       exact hK undef _ rfl
      intro v1 hv1;simp only[zP,zQ,zB,zC];apply ae _ rfl rfl rfl rfl
      case h=>
       intro W1 hW K hK
       go_wp2_with fail
       exact hK
      simp only[zP,zQ,zB,zC];apply ax rfl rfl rfl
      case h=>
       intro W10 hW K hK;obtain rfl:W10=W6.drew.setCell ⟨q,0,none⟩ (.int .i64 (max f.depth gg.depth)):=hW
       go_wp2_with fail
       exact hK undef _ rfl
      intro v2 hv2;simp only[zP,zQ,zB,zC];refine aG fun W11 h11=> ?_
      go_wp2_with fail
      go_meet
      exact⟨_,_,rfl,rfl,h11⟩
    case rest=>
     rename World=>W7
     obtain⟨d1,d2,hd1,hd2,rfl⟩:=hcut;have hB7:Blk ((W6.drew.setCell ⟨q,0,none⟩ (.int .i64 d1)).setCell ⟨q,1,none⟩ (.int .i64 d2)) q #[.int .i64 d1,.int .i64 d2,.bool f.ah,.bool f.shaped,.bool f.bC] 115:=((show Blk W6.drew q _ _ from HBF.out).set 0 (.int .i64 d1)).set 1 (.int .i64 d2);have hG7:Blk ((W6.drew.setCell ⟨q,0,none⟩ (.int .i64 d1)).setCell ⟨q,1,none⟩ (.int .i64 d2)) pg (bM gg) 115:=((show Blk W6.drew pg _ _ from HBG.out).setOther (p:=⟨q,0,none⟩) (by show pg≠q;omega) _).setOther (p:=⟨q,1,none⟩) (by show pg≠q;omega) _;have hK7:Kept (fun x=>x=q) Wa ((W6.drew.setCell ⟨q,0,none⟩ (.int .i64 d1)).setCell ⟨q,1,none⟩ (.int .i64 d2)):=((Kept.of_below HBB.out (fun x=>x=q)).drew.setCell (p:=⟨q,0,none⟩) (fun _=>rfl) _).setCell (p:=⟨q,1,none⟩) (fun _=>rfl) _;generalize ((W6.drew.setCell ⟨q,0,none⟩ (.int .i64 d1)).setCell ⟨q,1,none⟩ (.int .i64 d2))=W7 at hB7 hG7 hK7 ⊢;have HB7:=zh hB7;have HG7:=zh hG7;have HK7:=zh hK7;clear x0 x1 x2 x3 x4 y0 y1 y2 y3 y4 u0 u1 u2 u3 u4 xz uz;obtain⟨x0,x1,x2,x3,x4,y0,y1,y2,y3,y4⟩:=hB7.five;obtain⟨u0,u1,u2,u3,u4,-⟩:=(show Blk W7 pg #[.int .i64 gg.depth,.int .i64 gg.groups,.bool gg.ah,.bool gg.shaped,.bool gg.bC] 115 from hG7).five;have xz:=hB7.lt;have uz:=hG7.lt;clear hB7 hG7 hK7;go_upto_region 7 with fail
     go_cut [] (fun wx=>wx=(W7.drew.setCell ⟨q,3,none⟩ (.bool (f.shaped && gg.shaped))).setCell ⟨q,4,none⟩ (.bool (f.bC && gg.bC)))
     case first=>
      cases hfs:f.shaped<;>cases hff:f.bC<;>rw[hfs] at x3<;>rw[hff] at x4
      ·apply aJ ?hm ?hok [0,1,2,3,4,5,6,7,8,9,10,11,12,13,14,15] [13,15] [0,1,2,3,4,5,6,7,8,12] ?hord (fun w'=>w'.cell? ⟨pg,4,none⟩=some (.bool gg.bC)∧pg<w'.heap.size) (fun L w'=>match L with|[]=>w'=W7.drew|[_]=>w'=W7.drew.setCell ⟨q,3,none⟩ (.bool false)|_=>w'=(W7.drew.setCell ⟨q,3,none⟩ (.bool false)).setCell ⟨q,4,none⟩ (.bool false))
       case hm=>rfl
       case hok=>kernel_rfl
       case hord=>kernel_rfl
       case hb=>
        intro L w' h hl
        match L with
        |[]=>obtain rfl:w'=W7.drew:=h;exact⟨u4,uz⟩
        |[_]=>
         obtain rfl:w'=W7.drew.setCell ⟨q,3,none⟩ (.bool false):=h;have hB:Blk W7.drew pg (bM gg) 115:=HG7.out;exact⟨(hB.setOther (p:=⟨q,3,none⟩) (by show pg≠q;omega) _).cell 4,(hB.setOther (p:=⟨q,3,none⟩) (by show pg≠q;omega) (.bool false)).lt⟩
        |_::_::_=>
         exfalso;rw[show(List.filter (fun j=>[13,15].contains j) [0,1,2,3,4,5,6,7,8,9,10,11,12,13,14,15]).length=2 by decide] at hl;simp only[List.length_cons] at hl;omega
       case hw=>rfl
       case h=>
        iterate 3
         apply ag _ rfl rfl rfl rfl
         case h=>
          intro W1 hW K hK
          (obtain rfl:W1=W7.drew:=hW)
          go_wp2_with fail
          exact hK
         simp only[zP,zQ,zB,zC]
        iterate 2 (apply dB rfl rfl rfl;simp only[zP,zQ,zB,zC])
        iterate 4
         apply ag _ rfl rfl rfl rfl
         case h=>
          intro W1 hW K hK
          (obtain rfl:W1=W7.drew:=hW)
          go_wp2_with fail
          exact hK
         simp only[zP,zQ,zB,zC]
        iterate 2 (apply dB rfl rfl rfl;simp only[zP,zQ,zB,zC])
        iterate 1
         apply ae _ rfl rfl rfl rfl
         case h=>
          intro W1 hW K hK
          (obtain⟨v1,vz⟩:=hW)
          go_wp2_with fail
          exact hK
         simp only[zP,zQ,zB,zC]
        iterate 1
         apply ag _ rfl rfl rfl rfl
         case h=>
          intro W1 hW K hK
          (obtain rfl:W1=W7.drew:=hW)
          go_wp2_with fail
          exact hK
         simp only[zP,zQ,zB,zC]
        apply ax rfl rfl rfl
        case h=>
         intro W10 hW K hK;obtain rfl:W10=W7.drew:=hW
         go_wp2_with fail
         exact hK undef _ rfl
        intro v1 hv1;simp only[zP,zQ,zB,zC];apply ae _ rfl rfl rfl rfl
        case h=>
         intro W1 hW K hK
         go_wp2_with fail
         exact hK
        simp only[zP,zQ,zB,zC];apply ax rfl rfl rfl
        case h=>
         intro W10 hW K hK;obtain rfl:W10=W7.drew.setCell ⟨q,3,none⟩ (.bool false):=hW
         go_wp2_with fail
         exact hK undef _ rfl
        intro v2 hv2;simp only[zP,zQ,zB,zC];refine aG fun W11 h11=> ?_
        go_wp2_with fail
        go_meet
        rw[hfs,hff];exact h11
      ·apply aJ ?hm ?hok [0,1,2,3,4,5,6,7,8,9,10,11,12,13,14,15] [13,15] [0,1,2,3,4,5,6,7,8,12] ?hord (fun w'=>w'.cell? ⟨pg,4,none⟩=some (.bool gg.bC)∧pg<w'.heap.size) (fun L w'=>match L with|[]=>w'=W7.drew|[_]=>w'=W7.drew.setCell ⟨q,3,none⟩ (.bool false)|_=>w'=(W7.drew.setCell ⟨q,3,none⟩ (.bool false)).setCell ⟨q,4,none⟩ (.bool gg.bC))
       case hm=>rfl
       case hok=>kernel_rfl
       case hord=>kernel_rfl
       case hb=>
        intro L w' h hl
        match L with
        |[]=>obtain rfl:w'=W7.drew:=h;exact⟨u4,uz⟩
        |[_]=>
         obtain rfl:w'=W7.drew.setCell ⟨q,3,none⟩ (.bool false):=h;have hB:Blk W7.drew pg (bM gg) 115:=HG7.out;exact⟨(hB.setOther (p:=⟨q,3,none⟩) (by show pg≠q;omega) _).cell 4,(hB.setOther (p:=⟨q,3,none⟩) (by show pg≠q;omega) (.bool false)).lt⟩
        |_::_::_=>
         exfalso;rw[show(List.filter (fun j=>[13,15].contains j) [0,1,2,3,4,5,6,7,8,9,10,11,12,13,14,15]).length=2 by decide] at hl;simp only[List.length_cons] at hl;omega
       case hw=>rfl
       case h=>
        iterate 3
         apply ag _ rfl rfl rfl rfl
         case h=>
          intro W1 hW K hK
          (obtain rfl:W1=W7.drew:=hW)
          go_wp2_with fail
          exact hK
         simp only[zP,zQ,zB,zC]
        iterate 2 (apply dB rfl rfl rfl;simp only[zP,zQ,zB,zC])
        iterate 4
         apply ag _ rfl rfl rfl rfl
         case h=>
          intro W1 hW K hK
          (obtain rfl:W1=W7.drew:=hW)
          go_wp2_with fail
          exact hK
         simp only[zP,zQ,zB,zC]
        iterate 2
         apply ae _ rfl rfl rfl rfl
         case h=>
          intro W1 hW K hK
          (obtain⟨v1,vz⟩:=hW)
          go_wp2_with fail
          exact hK
         simp only[zP,zQ,zB,zC]
        iterate 1
         apply ae _ rfl rfl rfl rfl
         case h=>
          intro W1 hW K hK
          (obtain⟨v1,vz⟩:=hW)
          go_wp2_with fail
          exact hK
         simp only[zP,zQ,zB,zC]
        iterate 1
         apply ag _ rfl rfl rfl rfl
         case h=>
          intro W1 hW K hK
          (obtain rfl:W1=W7.drew:=hW)
          go_wp2_with fail
          exact hK
         simp only[zP,zQ,zB,zC]
        apply ax rfl rfl rfl
        case h=>
         intro W10 hW K hK;obtain rfl:W10=W7.drew:=hW
         go_wp2_with fail
         exact hK undef _ rfl
        intro v1 hv1;simp only[zP,zQ,zB,zC];apply ae _ rfl rfl rfl rfl
        case h=>
         intro W1 hW K hK
         go_wp2_with fail
         exact hK
        simp only[zP,zQ,zB,zC];apply ax rfl rfl rfl
        case h=>
         intro W10 hW K hK;obtain rfl:W10=W7.drew.setCell ⟨q,3,none⟩ (.bool false):=hW
         go_wp2_with fail
         exact hK undef _ rfl
        intro v2 hv2;simp only[zP,zQ,zB,zC];refine aG fun W11 h11=> ?_
        go_wp2_with fail
        go_meet
        rw[hfs,hff];exact h11
      ·apply aJ ?hm ?hok [0,1,2,3,4,5,6,7,8,9,10,11,12,13,14,15] [13,15] [0,1,2,3,4,5,6,7,8,12] ?hord (fun w'=>w'.cell? ⟨pg,4,none⟩=some (.bool gg.bC)∧pg<w'.heap.size) (fun L w'=>match L with|[]=>w'=W7.drew|[_]=>w'=W7.drew.setCell ⟨q,3,none⟩ (.bool gg.shaped)|_=>w'=(W7.drew.setCell ⟨q,3,none⟩ (.bool gg.shaped)).setCell ⟨q,4,none⟩ (.bool false))
       case hm=>rfl
       case hok=>kernel_rfl
       case hord=>kernel_rfl
       case hb=>
        intro L w' h hl
        match L with
        |[]=>obtain rfl:w'=W7.drew:=h;exact⟨u4,uz⟩
        |[_]=>
         obtain rfl:w'=W7.drew.setCell ⟨q,3,none⟩ (.bool gg.shaped):=h;have hB:Blk W7.drew pg (bM gg) 115:=HG7.out;exact⟨(hB.setOther (p:=⟨q,3,none⟩) (by show pg≠q;omega) _).cell 4,(hB.setOther (p:=⟨q,3,none⟩) (by show pg≠q;omega) (.bool gg.shaped)).lt⟩
        |_::_::_=>
         exfalso;rw[show(List.filter (fun j=>[13,15].contains j) [0,1,2,3,4,5,6,7,8,9,10,11,12,13,14,15]).length=2 by decide] at hl;simp only[List.length_cons] at hl;omega
       case hw=>rfl
       case h=>
        iterate 3
         apply ag _ rfl rfl rfl rfl
         case h=>
          intro W1 hW K hK
          (obtain rfl:W1=W7.drew:=hW)
          go_wp2_with fail
          exact hK
         simp only[zP,zQ,zB,zC]
        iterate 2
         apply ag _ rfl rfl rfl rfl
         case h=>
          intro W1 hW K hK
          (obtain rfl:W1=W7.drew:=hW)
          go_wp2_with fail
          exact hK
         simp only[zP,zQ,zB,zC]
        iterate 4
         apply ag _ rfl rfl rfl rfl
         case h=>
          intro W1 hW K hK
          (obtain rfl:W1=W7.drew:=hW)
          go_wp2_with fail
          exact hK
         simp only[zP,zQ,zB,zC]
        iterate 2 (apply dB rfl rfl rfl;simp only[zP,zQ,zB,zC])
        iterate 1
         apply ae _ rfl rfl rfl rfl
         case h=>
          intro W1 hW K hK
          (obtain⟨v1,vz⟩:=hW)
          go_wp2_with fail
          exact hK
         simp only[zP,zQ,zB,zC]
        iterate 1
         apply ag _ rfl rfl rfl rfl
         case h=>
          intro W1 hW K hK
          (obtain rfl:W1=W7.drew:=hW)
          go_wp2_with fail
          exact hK
         simp only[zP,zQ,zB,zC]
        apply ax rfl rfl rfl
        case h=>
         intro W10 hW K hK;obtain rfl:W10=W7.drew:=hW
         go_wp2_with fail
         exact hK undef _ rfl
        intro v1 hv1;simp only[zP,zQ,zB,zC];apply ae _ rfl rfl rfl rfl
        case h=>
         intro W1 hW K hK
         go_wp2_with fail
         exact hK
        simp only[zP,zQ,zB,zC];apply ax rfl rfl rfl
        case h=>
         intro W10 hW K hK;obtain rfl:W10=W7.drew.setCell ⟨q,3,none⟩ (.bool gg.shaped):=hW
         go_wp2_with fail
         exact hK undef _ rfl
        intro v2 hv2;simp only[zP,zQ,zB,zC];refine aG fun W11 h11=> ?_
        go_wp2_with fail
        go_meet
        rw[hfs,hff];exact h11
      ·apply aJ ?hm ?hok [0,1,2,3,4,5,6,7,8,9,10,11,12,13,14,15] [13,15] [0,1,2,3,4,5,6,7,8,12] ?hord (fun w'=>w'.cell? ⟨pg,4,none⟩=some (.bool gg.bC)∧pg<w'.heap.size) (fun L w'=>match L with|[]=>w'=W7.drew|[_]=>w'=W7.drew.setCell ⟨q,3,none⟩ (.bool gg.shaped)|_=>w'=(W7.drew.setCell ⟨q,3,none⟩ (.bool gg.shaped)).setCell ⟨q,4,none⟩ (.bool gg.bC))
       case hm=>rfl
       case hok=>kernel_rfl
       case hord=>kernel_rfl
       case hb=>
        intro L w' h hl
        match L with
        |[]=>obtain rfl:w'=W7.drew:=h;exact⟨u4,uz⟩
        |[_]=>
         obtain rfl:w'=W7.drew.setCell ⟨q,3,none⟩ (.bool gg.shaped):=h;have hB:Blk W7.drew pg (bM gg) 115:=HG7.out;exact⟨(hB.setOther (p:=⟨q,3,none⟩) (by show pg≠q;omega) _).cell 4,(hB.setOther (p:=⟨q,3,none⟩) (by show pg≠q;omega) (.bool gg.shaped)).lt⟩
        |_::_::_=>
         exfalso;rw[show(List.filter (fun j=>[13,15].contains j) [0,1,2,3,4,5,6,7,8,9,10,11,12,13,14,15]).length=2 by decide] at hl;simp only[List.length_cons] at hl;omega
       case hw=>rfl
       case h=>
        iterate 3
         apply ag _ rfl rfl rfl rfl
         case h=>
          intro W1 hW K hK
          (obtain rfl:W1=W7.drew:=hW)
          go_wp2_with fail
          exact hK
         simp only[zP,zQ,zB,zC]
        iterate 2
         apply ag _ rfl rfl rfl rfl
         case h=>
          intro W1 hW K hK
          (obtain rfl:W1=W7.drew:=hW)
          go_wp2_with fail
          exact hK
         simp only[zP,zQ,zB,zC]
        iterate 4
         apply ag _ rfl rfl rfl rfl
         case h=>
          intro W1 hW K hK
          (obtain rfl:W1=W7.drew:=hW)
          go_wp2_with fail
          exact hK
         simp only[zP,zQ,zB,zC]
        iterate 2
         apply ae _ rfl rfl rfl rfl
         case h=>
          intro W1 hW K hK
          (obtain⟨v1,vz⟩:=hW)
          go_wp2_with fail
          exact hK
         simp only[zP,zQ,zB,zC]
        iterate 1
         apply ae _ rfl rfl rfl rfl
         case h=>
          intro W1 hW K hK
          (obtain⟨v1,vz⟩:=hW)
          go_wp2_with fail
          exact hK
         simp only[zP,zQ,zB,zC]
        iterate 1
         apply ag _ rfl rfl rfl rfl
         case h=>
          intro W1 hW K hK
          (obtain rfl:W1=W7.drew:=hW)
          go_wp2_with fail
          exact hK
         simp only[zP,zQ,zB,zC]
        apply ax rfl rfl rfl
        case h=>
         intro W10 hW K hK;obtain rfl:W10=W7.drew:=hW
         go_wp2_with fail
         exact hK undef _ rfl
        intro v1 hv1;simp only[zP,zQ,zB,zC];apply ae _ rfl rfl rfl rfl
        case h=>
         intro W1 hW K hK
         go_wp2_with fail
         exact hK
        simp only[zP,zQ,zB,zC];apply ax rfl rfl rfl
        case h=>
         intro W10 hW K hK;obtain rfl:W10=W7.drew.setCell ⟨q,3,none⟩ (.bool gg.shaped):=hW
         go_wp2_with fail
         exact hK undef _ rfl
        intro v2 hv2;simp only[zP,zQ,zB,zC];refine aG fun W11 h11=> ?_
        go_wp2_with fail
        go_meet
        rw[hfs,hff];exact h11
     case rest=>
      rename World=>W8
      obtain rfl:=hcut;have hB8:=((show Blk W7.drew q _ _ from HB7.out).set 3 (.bool (f.shaped && gg.shaped))).set 4 (.bool (f.bC && gg.bC));have hG8:=((show Blk W7.drew pg (bM gg) 115 from HG7.out).setOther (p:=⟨q,3,none⟩) (by show pg≠q;omega) (.bool (f.shaped && gg.shaped))).setOther (p:=⟨q,4,none⟩) (by show pg≠q;omega) (.bool (f.bC && gg.bC));have hK8:Kept (fun x=>x=q) Wa ((W7.drew.setCell ⟨q,3,none⟩ (.bool (f.shaped && gg.shaped))).setCell ⟨q,4,none⟩ (.bool (f.bC && gg.bC))):=(HK7.out.drew.setCell (p:=⟨q,3,none⟩) (fun _=>rfl) _).setCell (p:=⟨q,4,none⟩) (fun _=>rfl) _;have FY:Blk ((W7.drew.setCell ⟨q,3,none⟩ (.bool (f.shaped && gg.shaped))).setCell ⟨q,4,none⟩ (.bool (f.bC && gg.bC))) q #[.int .i64 d1,.int .i64 d2,.bool f.ah,.bool (f.shaped && gg.shaped),.bool (f.bC && gg.bC)] 115:=hB8;generalize ((W7.drew.setCell ⟨q,3,none⟩ (.bool (f.shaped && gg.shaped))).setCell ⟨q,4,none⟩ (.bool (f.bC && gg.bC)))=W8 at FY hG8 hK8 ⊢;have HB8:=zh FY;have HK8:=zh hK8;have a2:W8.cell? ⟨q,2,none⟩=some (.bool f.ah):=FY.cell 2;have a2f:=FY.frozen 2;have az:=FY.lt;have e2:W8.cell? ⟨pg,2,none⟩=some (.bool gg.ah):=hG8.cell 2;have ez:=hG8.lt;have hkN:W8.cell? ⟨w.heap.size,0,none⟩=some (.int .u8 k)∧w.heap.size<W8.heap.size:=by
       have h1:=((HB2.out.below HBC.out HB2.out.lt).kept HKA.out (by omega)).kept hK8 (by omega);exact⟨h1.cell 0,h1.lt⟩
      obtain⟨k0,kz⟩:=hkN;have HD1:=zh hd1;have HD2:=zh hd2;clear hB8 FY hG8 hK8 x0 x1 x2 x3 x4 y0 y1 y2 y3 y4 u0 u1 u2 u3 u4 xz uz hd1 hd2;by_cases k3:k=3
      ·subst k3;cases hfn:f.ah<;>rw[hfn] at a2
       ·go_wp2_with fail
        go_roundw
        case rel=>exact⟨i+1,by omega,by go_num,by rw[vV.out];exact y9 HB8.out HD1.out HD2.out (v:=false) (by simp[tC,hfn]),HKA.out.trans (HK8.out.setCell (p:=⟨q,2,none⟩) (fun _=>rfl) _)⟩
        case measure=>simp[intOf];omega
       ·go_wp2_with fail
        go_roundw
        case rel=>exact⟨i+1,by omega,by go_num,by rw[vV.out];exact y9 HB8.out HD1.out HD2.out (v:=gg.ah) (by simp[tC,hfn]),HKA.out.trans (HK8.out.setCell (p:=⟨q,2,none⟩) (fun _=>rfl) _)⟩
        case measure=>simp[intOf];omega
      ·have k3b:(k == 3)=false:=by simpa using k3
       cases hfn:f.ah<;>rw[hfn] at a2
       ·go_wp2_with fail
        go_roundw
        case rel=>exact⟨i+1,by omega,by go_num,by rw[vV.out];exact y9 HB8.out HD1.out HD2.out (v:=gg.ah) (by simp[tC,hfn,k3]),HKA.out.trans (HK8.out.setCell (p:=⟨q,2,none⟩) (fun _=>rfl) _)⟩
        case measure=>simp[intOf];omega
       ·go_wp2_with fail
        go_roundw
        case rel=>exact⟨i+1,by omega,by go_num,by rw[vV.out];exact y9 HB8.out HD1.out HD2.out (v:=true) (by simp[tC,hfn,k3]),HKA.out.trans (HK8.out.setCell (p:=⟨q,2,none⟩) (fun _=>rfl) _)⟩
        case measure=>simp[intOf];omega
variable {cs:List Value} {N:Nat→Prop} {t:Nd} {w:World}
theorem Ez:∀t:Nd,zf t
 | .mk k set lo hi lazy subs=>II (fun s hs=>Ez s)
termination_by t=>SizeOf.sizeOf t
decreasing_by
 have:=List.sizeOf_lt_of_mem hs;simp;omega
theorem Dj (f:Facts) (w:World):Calls Tryz.prog 51 #[.agg (bM f)] w fun e w'=>e= .returned (.bool (mM f))∧Below w.heap.size w w':=by
 obtain⟨d,g,nl,sh,fi⟩:=f;unfold bM mM;simp only;cases sh<;>cases fi
 ·go_enter Tryz.func51,Tryz.ntmps51
  go_wp2
  go_ret
  exact⟨rfl,zR.alloc zL _⟩
 ·go_enter Tryz.func51,Tryz.ntmps51
  go_wp2
  go_ret
  exact⟨rfl,zR.alloc zL _⟩
 ·go_enter Tryz.func51,Tryz.ntmps51
  go_wp2
  go_ret
  exact⟨rfl,zR.alloc zL _⟩
 ·by_cases hg:g≤30
  ·by_cases hd:d≤40
   ·go_enter Tryz.func51,Tryz.ntmps51
    go_wp2
    go_ret
    exact⟨by simp[hg,hd],zR.alloc zL _⟩
   ·have hd':decide (d≤40)=false:=by simpa using hd
    go_enter Tryz.func51,Tryz.ntmps51
    go_wp2
    go_ret
    exact⟨by simp[hg,hd],zR.alloc zL _⟩
  ·have hg':decide (g≤30)=false:=by simpa using hg
   go_enter Tryz.func51,Tryz.ntmps51
   go_wp2
   go_ret
   exact⟨by simp[hg],zR.alloc zL _⟩
theorem IJ (h:ai N w t cs) (hno:nodes t≤1000000):Calls Tryz.prog 50 #[.agg cs.toArray] w fun e w'=>e= .returned (.agg (bM (Wy.look t)))∧Below w.heap.size w w':=by
 have HN:=zh h;obtain⟨k,set,lo,hi,lazy,subs⟩:=t;rw[ai] at h;obtain⟨sv,uv,ucs,rfl,hk,hlo,hhi,hset,hrow,hsubs⟩:=h;obtain⟨os,cs,rfl⟩:=hset.row.slice;obtain⟨ou,cu,rfl⟩:=hrow.slice;clear hset hrow hsubs hk hlo hhi;go_enter Tryz.func50,Tryz.ntmps50
 go_upto_region 3 with fail
 have B1:Blk (((w.alloc (.cells #[.int .u8 k,.slice os set.length cs,.int .i64 lo,.int .i64 hi,.bool lazy,.slice ou subs.length cu] 27)).alloc (.cells #[.int .i64 0,.int .i64 0,.bool false,.bool false,.bool false] 115)).alloc (.cells #[.func (.func 75) #[] #[.pointer (some ⟨w.heap.size+1+1,0,none⟩)]] 116)) w.heap.size #[.int .u8 k,.slice os set.length cs,.int .i64 lo,.int .i64 hi,.bool lazy,.slice ou subs.length cu] 27:=((Blk.new _ _ _).alloc _).alloc _;have B2:Blk (((w.alloc (.cells #[.int .u8 k,.slice os set.length cs,.int .i64 lo,.int .i64 hi,.bool lazy,.slice ou subs.length cu] 27)).alloc (.cells #[.int .i64 0,.int .i64 0,.bool false,.bool false,.bool false] 115)).alloc (.cells #[.func (.func 75) #[] #[.pointer (some ⟨w.heap.size+1+1,0,none⟩)]] 116)) (w.heap.size+1) #[.int .i64 0,.int .i64 0,.bool false,.bool false,.bool false] 115:=(Blk.new' _ _ (by simp)).alloc _;have B3:Blk (((w.alloc (.cells #[.int .u8 k,.slice os set.length cs,.int .i64 lo,.int .i64 hi,.bool lazy,.slice ou subs.length cu] 27)).alloc (.cells #[.int .i64 0,.int .i64 0,.bool false,.bool false,.bool false] 115)).alloc (.cells #[.func (.func 75) #[] #[.pointer (some ⟨w.heap.size+1+1,0,none⟩)]] 116)) (w.heap.size+1+1) #[LY (w.heap.size+1+1)] 116:=Blk.new' _ _ (by simp);have hbW:Below w.heap.size w (((w.alloc (.cells #[.int .u8 k,.slice os set.length cs,.int .i64 lo,.int .i64 hi,.bool lazy,.slice ou subs.length cu] 27)).alloc (.cells #[.int .i64 0,.int .i64 0,.bool false,.bool false,.bool false] 115)).alloc (.cells #[.func (.func 75) #[] #[.pointer (some ⟨w.heap.size+1+1,0,none⟩)]] 116)):=((zR.alloc zL _).alloc (by simp) _).alloc (by simp;omega) _;generalize (((w.alloc (.cells #[.int .u8 k,.slice os set.length cs,.int .i64 lo,.int .i64 hi,.bool lazy,.slice ou subs.length cu] 27)).alloc (.cells #[.int .i64 0,.int .i64 0,.bool false,.bool false,.bool false] 115)).alloc (.cells #[.func (.func 75) #[] #[.pointer (some ⟨w.heap.size+1+1,0,none⟩)]] 116))=W at B1 B2 B3 hbW ⊢;have hcall:=Ez (.mk k set lo hi lazy subs) N W (w.heap.size+1+1) _ (ai.go (zK hbW) (fun q _ hn=>⟨id,hn⟩) HN.out) (B3.cell 0) B3.lt hno;obtain⟨f,hf⟩:∃f,f=Wy.look (.mk k set lo hi lazy subs):=⟨_,rfl⟩;rw[←hf] at hcall;have HF:=zh hf;have s3:W.cell? ⟨w.heap.size+1+1,0,none⟩=some (.func (.func 75) #[] #[.pointer (some ⟨w.heap.size+1+1,0,none⟩)]):=B3.cell 0;have z3:=B3.lt;obtain⟨n0,n1,n2,n3,n4,n5,-⟩:=zS B1;have z1:=B1.lt;have z2:=B2.lt;simp only[bM] at hcall;have aS:=zh hcall;have HB2:=zh B2;have HBW:=zh hbW;clear hcall B1 B2 B3 hbW hf
 go_wp2_with (first|(go_at_call 75;refine aS.out.mono ?_;rintro e w5 ⟨rfl,hb5⟩;have HB5:=zh hb5;have B5:=HB2.out.below hb5 z2;obtain⟨c0,c1,c2,c3,c4,f0,f1,f2,f3,f4⟩:=B5.five;have z5:=B5.lt;have HB25:=zh B5;clear hb5 B5))
 have hfin:=((((HB25.out.set 0 (.int .i64 f.depth)).set 1 (.int .i64 f.groups)).set 2 (.bool f.ah)).set 3 (.bool f.shaped)).set 4 (.bool f.bC);obtain⟨d0,d1,d2,d3,d4,-⟩:=hfin.five;have hbl:Below w.heap.size w w5:=HBW.out.trans (HB5.out.mono HBW.out.size);refine bodyPost_ret (v:= .agg #[.int .i64 f.depth,.int .i64 f.groups,.bool f.ah,.bool f.shaped,.bool f.bC]) (by simp[results,Tryz.results50,go_sem,d0,d1,d2,d3,d4]) rfl ⟨by rw[←HF.out];rfl,?_⟩;exact((((hbl.setCell (by show w.heap.size≤w.heap.size+1;omega) _).setCell (by show w.heap.size≤w.heap.size+1;omega) _).setCell (by show w.heap.size≤w.heap.size+1;omega) _).setCell (by show w.heap.size≤w.heap.size+1;omega) _).setCell (by show w.heap.size≤w.heap.size+1;omega) _
theorem lN (h:ai N w t cs) (hno:nodes t≤1000000):Calls Tryz.prog 40 #[.agg cs.toArray] w fun e w'=>e= .returned (.bool (right t))∧Below w.heap.size w w':=by
 have hl:∀w',Below w.heap.size w w'→Calls Tryz.prog 50 #[.agg cs.toArray] w' fun e w''=>e= .returned (.agg (bM (Wy.look t)))∧Below w'.heap.size w' w'':=fun w' hb=>IJ (ai.go (zK hb) (fun q _ hn=>⟨id,hn⟩) h) hno
 obtain⟨k,set,lo,hi,lazy,subs⟩:=t;rw[ai] at h;obtain⟨sv,uv,ucs,rfl,hk,hlo,hhi,hset,hrow,hsubs⟩:=h;obtain⟨os,cs,rfl⟩:=hset.row.slice;obtain⟨ou,cu,rfl⟩:=hrow.slice;have HL:=zh hl;obtain⟨f,hf⟩:∃f,f=Wy.look (.mk k set lo hi lazy subs):=⟨_,rfl⟩;unfold right;rw[←hf];rw[←hf] at HL;have hr:=fun w=>Dj f w
 have HR:=zh hr;clear hset hrow hsubs hk hlo hhi hl hr hf;go_enter Tryz.func40,Tryz.ntmps40
 go_wp2_with (first|(go_at_call 50;refine(HL.out _ (zR.alloc zL _)).mono ?_;rintro e w1 ⟨rfl,hb1⟩;have hbA:Below w.heap.size w w1:=(zR.alloc zL _).trans (hb1.mono (by simp)))|(go_at_call 51;refine(HR.out _).mono ?_;rintro e w2 ⟨rfl,hb2⟩;have hbB:Below w.heap.size w w2:=hbA.trans (hb2.mono hbA.size)))
 go_ret
 exact⟨rfl,hbB⟩
end Go.Proofs.YtnhjakdmbfadlaaGreatDoor
