/- Parts of the proof. Conditions: none. -/
import Derived.Test.YtnhjakdmbfadlaaGreatDoorT28
import Derived.Test.YtnhjakdmbfadlaaGreatDoorT02
import Derived.Test.YtnhjakdmbfadlaaGreatDoorT00
import Derived.Test.YtnhjakdmbfadlaaGreatDoorT16
set_option linter.all false
set_option maxHeartbeats 8000000
set_option maxRecDepth 100000
namespace Go.Proofs.YtnhjakdmbfadlaaGreatDoor
open Go.RowKit Wy Mem Grow
variable {Q:Exit→Act→World→Prop} {cs cs2:List Value} {l:List Wy.Way} {B1 B2 D G L L2 c ca cb g off q so:Nat} {oa ob:Option Addr} {av lv:Value} {W Wl:World}
theorem Qq {a:Nat} {o:Option Addr} (m:List Value) (hm:m.length=206)
  (k7:m[7]? =some (.slice (some ⟨g,0,none⟩) l.length c)) (k27:m[27]? =some (.int .i64 (a:Nat))) (k173:m[173]? =some (.slice o G so)) (k174:m[174]? =some (.int .i64 (G:Nat))) (k175:m[175]? =some (.int .i64 0))
  (hT:jI B1 B2 G L L2 lv av l cs cs2 Wl) (hlv:lv= .slice (some ⟨g,0,none⟩) l.length c) (hn:l.length≤500) (ha:a<l.length) (hG:G≤64) (hu:cs[a*2+1]? =some (.slice o G so))
  (ho:0<G→o=some ⟨q,off,none⟩∧G≤so∧so≤maxLen∧q≠g∧off+G*2≤D) (hI:TlI B1 lv l.length cs Wl a G q D W)
  (hQ:∀(m':List Value) (w':World),m'.length=206→Kp m m' [1,5,6,7,9,27,164,165,166]→TlI B1 lv l.length cs Wl a G q D w'→Q (.exit 2) ⟨m'.toArray,[]⟩ w'):
  Code.wp Tryz.prog (tlC [1,1,1,1,1,1,1,1,1,1,1,1,1,1,1,1,0,1,0,0,1,1,0,0,1,0,1,0]) Q ⟨m.toArray,[]⟩ W:=by
 obtain⟨e,rfl⟩:=di hm;rw[zI k7,zI k27,zI k173,zI k174,zI k175] at hQ ⊢;exact SV e hT hlv hn ha hG hu ho hI hQ
def TlV (m0:List Value) (B1:Nat) (lv:Value) (n:Nat) (cs:List Value) (Wl:World) (k:Nat) (x:Act) (w:World):Prop:=∃(m:List Value) (a:Nat),x=⟨m.toArray,[]⟩∧m.length=206∧Kp m0 m [1,5,6,7,9]∧m[165]? =some (.int .i64 (n:Nat))∧m[166]? =some (.int .i64 (a:Nat))∧a≤n∧k=n-a∧TlR B1 lv n cs Wl (a*2) a w
theorem Qr (m0:List Value) (hm0:m0.length=206)
  (k7:m0[7]? =some (.slice oa l.length ca)) (k9:m0[9]? =some (.slice ob l.length cb)) (SY:m0[165]? =some (.int .i64 (l.length:Nat))) (S9:m0[166]? =some (.int .i64 0))
  (hT:jI B1 B2 G L L2 (.slice oa l.length ca) (.slice ob l.length cb) l cs cs2 Wl) (hn:l.length≤500)
  (hQ:∀(m:List Value) (w':World),m.length=206→Kp m0 m [1,5,6]→TlR B1 (.slice oa l.length ca) l.length cs Wl (l.length*2) l.length w'→Q (.exit 0) ⟨m.toArray,[]⟩ w'):
  Code.wp Tryz.prog (tlC [1,1,1,1,1,1,1,1,1,1,1,1,1,1,1,1,0,1,0]) Q ⟨m0.toArray,[]⟩ Wl:=by
 have HT:=zh hT;have HQ:=zh hQ;have K7:=zh k7;have K9:=zh k9;have hnI:(l.length:Int)≤500:=(by omega);clear hT hQ k7 k9;conv=>arg 2;whnf
 refine wp_loop_ghost (TlV m0 B1 (.slice oa l.length ca) l.length cs Wl) (l.length-0) ?_ (fun k x Wa hI=> ?_)
 ·exact⟨m0,0,rfl,hm0,fun i _=>rfl,SY,S9,by omega,rfl,TlR.start HT.out⟩
 ·obtain⟨m,a,rfl,hm,hk,Tc,Td,ha,rfl,hr⟩:=hI;have g7:=hk.at_ 7 (by simp) K7.out;have g9:=hk.at_ 9 (by simp) K9.out;obtain⟨e,rfl⟩:=di hm;have HK:=zh hk;have HR:=zh hr;rw[zI g7,zI g9,zI Tc,zI Td];clear g7 g9 Tc Td hm hk hr SY S9 hm0;by_cases hal:¬a<l.length
  ·obtain rfl:a=l.length:=(by omega);clear hal
   go_wp2_with fail
   refine HQ.out _ _ rfl ?_ HR.out;intro i hi;simp only[List.mem_cons,List.not_mem_nil,or_false] at hi;rcases hi with rfl|rfl|rfl
   ·exact HK.out 1 (by simp)
   ·exact HK.out 5 (by simp)
   ·exact HK.out 6 (by simp)
  ·have hal:a<l.length:=(by omega);have haI:(a:Int)<l.length:=(by omega);have ha1I:(a:Int)+1≤l.length:=(by omega);obtain⟨g,ca',hga,-,-,hca⟩:=gJ HT.out.own (by omega);obtain⟨g2,cb',hgb,-,-,hcb⟩:=gJ HT.out.ref (by omega);simp only[Value.slice.injEq,true_and] at hga hgb;obtain⟨rfl,rfl⟩:=hga;obtain⟨rfl,rfl⟩:=hgb;have Nw:(l.length:Int)≤ca:=(by omega);have Qj:(l.length:Int)≤cb:=(by omega);obtain⟨o,so,hu,w1,hG,wf,gz,-,hcase⟩:=HT.out.way (HR.out.mono (by omega:a*2≤a*2+2)) rfl hal;obtain⟨q,off,D,ho,hI0⟩:∃q off D,(0<G→o=some ⟨q,off,none⟩∧G≤so∧so≤maxLen∧q≠g∧off+G*2≤D)∧TlI B1 (.slice (some ⟨g,0,none⟩) l.length ca) l.length cs Wl a G q D Wa:=by
    rcases hcase with h0|⟨q,off,d,h1,h2,h3,h4,h5,h6⟩
    ·exact⟨0,0,0,fun h=>absurd h0 (by omega),HR.out.mono (by omega),fun h=>absurd h0 (by omega)⟩
    ·refine⟨q,off,d.size,fun _=>⟨h1,h2,h3,h4,h6⟩,HR.out.mono (by omega),fun _=>⟨d,h5.kept HR.out.kept ?_,rfl⟩⟩;subst h1;exact HT.out.apart (k:=a*2) ⟨_,List.mem_of_getElem? (i:=1) (by rw[List.getElem?_drop];exact hu),rfl⟩ (by simp[Value.ownBlock];omega)
   have hGI:(G:Int)≤64:=(by omega);have HI0:=zh hI0;have HO:=zh ho;have HU:=zh hu;clear hcase hI0 ho hu
   go_wp2_with fail
   rename_i K hK;refine Qq _ rfl rfl rfl rfl rfl rfl HT.out rfl hn hal hG HU.out HO.out HI0.out (fun m w2 hm hkp hI2=> ?_);refine hK _ _ ?_;obtain⟨f,rfl⟩:=di hm;have f7:=hkp.at_ 7 (by simp) rfl;have f9:=hkp.at_ 9 (by simp) rfl;have f27:=hkp.at_ 27 (by simp) rfl;have f165:=hkp.at_ 165 (by simp) rfl;have f166:=hkp.at_ 166 (by simp) rfl;have HKP:=zh hkp;rw[zI f7,zI f9,zI f27,zI f165,zI f166];obtain⟨-,-,-,-,-,vf,vz,⟨e0,v0⟩,-⟩:=HT.out.way hI2.r rfl hal;have hR3:=hI2.r.fin (x:= .int .i64 (-7)) rfl;have Qs:=hR3.below (zR.drew);obtain⟨oA,hoA⟩:∃oA,oA=if ca=a+1 then 0 else(a+1)*2:=⟨_,rfl⟩
   obtain⟨oB,hoB⟩:∃oB,oB=if cb=a+1 then 0 else(a+1)*2:=⟨_,rfl⟩
   have hsa:aI (fun _=>True) (w2.setCell ⟨g,a*2,none⟩ (.int .i64 (-7))).drew G L (.slice (some ⟨g,oA,none⟩) (l.length-(a+1)) (ca-(a+1))) (l.drop (a+1)):=by
    by_cases h:ca=a+1
    ·rw[show l.length-(a+1)=0 by omega,List.drop_of_length_le (by omega)];exact aI.nil _ _ _ _ _ _
    ·rw[hoA,if_neg h];exact HT.out.SN Qs rfl (by omega)
   have hsb:aI (fun _=>True) (w2.setCell ⟨g,a*2,none⟩ (.int .i64 (-7))).drew G L2 (.slice (some ⟨g2,oB,none⟩) (l.length-(a+1)) (cb-(a+1))) (l.drop (a+1)):=by
    by_cases h:cb=a+1
    ·rw[show l.length-(a+1)=0 by omega,List.drop_of_length_le (by omega)];exact aI.nil _ _ _ _ _ _
    ·rw[hoB,if_neg h];exact HT.out.SQ (a:=a+1) Qs rfl (by omega)
   have HOA:=zh hoA;have HOB:=zh hoB;have hsm:=yh hsa hsb (by rw[List.length_drop];omega);have HR3:=zh hR3;have HSM:=zh hsm;clear f7 f9 f27 f165 f166 hm hkp hI2 hR3 Qs hsa hsb hsm w1 wf gz hoA hoB;go_upto_region 28 with fail
   generalize hw3:w2.setCell ⟨g,a*2,none⟩ (.int .i64 (-7))=W3 at HR3 HSM ⊢;clear hw3 v0 vf vz;apply aJ ?hm ?hok [0,1,2,3,4,5,6,7,8,9] [8] [9] ?hord (fun w'=>Below W3.heap.size W3 w') (smW W3)
   case hm=>rfl
   case hok=>kernel_rfl
   case hord=>kernel_rfl
   case hb=>
    intro L' w' h hl
    match L' with
    |[]=>rw[h];exact zR.drew
    |[v]=>exact h.2
    |_::_::_=>(simp at hl)<;>omega
   case hw=>rfl
   case h=>
    apply ae (.slice (some ⟨g,0,none⟩) l.length ca) rfl rfl rfl rfl
    case h=>
     intro W1 hW K hK
     go_wp2_with fail
     exact hK
    simp only[zP,zQ,zB,zC];apply ae (.int .i64 (a:Nat)) rfl rfl rfl rfl
    case h=>
     intro W1 hW K hK
     go_wp2_with fail
     exact hK
    simp only[zP,zQ,zB,zC];apply ae (.int .i64 ((a+1:Nat):Int)) rfl rfl rfl rfl
    case h=>
     intro W1 hW K hK
     go_wp2_with fail
     exact hK
    simp only[zP,zQ,zB,zC];apply ae (.slice (some ⟨g,oA,none⟩) (l.length-(a+1)) (ca-(a+1))) rfl rfl rfl rfl
    case h=>
     intro W1 hW K hK
     go_wp2_with fail
     all_goals first
      |(have e:=HOA.out;rw[if_neg (by assumption)] at e;subst e;exact hK)
      |(have e:=HOA.out;rw[if_pos (by assumption)] at e;subst e;have e2:ca=a+1:=by assumption
        subst e2;rw[Nat.sub_self] at hK;exact hK)
    simp only[zP,zQ,zB,zC];apply ae (.slice (some ⟨g2,0,none⟩) l.length cb) rfl rfl rfl rfl
    case h=>
     intro W1 hW K hK
     go_wp2_with fail
     exact hK
    simp only[zP,zQ,zB,zC];apply ae (.int .i64 (a:Nat)) rfl rfl rfl rfl
    case h=>
     intro W1 hW K hK
     go_wp2_with fail
     exact hK
    simp only[zP,zQ,zB,zC];apply ae (.int .i64 ((a+1:Nat):Int)) rfl rfl rfl rfl
    case h=>
     intro W1 hW K hK
     go_wp2_with fail
     exact hK
    simp only[zP,zQ,zB,zC];apply ae (.slice (some ⟨g2,oB,none⟩) (l.length-(a+1)) (cb-(a+1))) rfl rfl rfl rfl
    case h=>
     intro W1 hW K hK
     go_wp2_with fail
     all_goals first
      |(have e:=HOB.out;rw[if_neg (by assumption)] at e;subst e;exact hK)
      |(have e:=HOB.out;rw[if_pos (by assumption)] at e;subst e;have e2:cb=a+1:=by assumption
        subst e2;rw[Nat.sub_self] at hK;exact hK)
    simp only[zP,zQ,zB,zC];apply ax rfl rfl rfl
    case h=>
     intro W1 hW K hK;obtain rfl:W1=W3.drew:=hW
     go_wp2_with (go_at_call 28;(refine HSM.out.mono ?_;rintro e4 w4 ⟨rfl,hb4⟩))
     first|exact⟨rfl,((Below.refl W3.heap.size W3).drew).trans hb4⟩|exact hK _ _ ⟨rfl,((Below.refl W3.heap.size W3).drew).trans hb4⟩
    intro v hv;obtain⟨_,rfl,-⟩:=hv;simp only[zP,zQ,zB,zC];apply ag _ rfl rfl rfl rfl
    case h=>
     intro W1 hW K hK
     go_wp2_with fail
     exact hK
    simp only[zP,zQ,zB,zC];refine aG fun W4 h4=> ?_
    have HB4:=zh (show Below W3.heap.size W3 W4 from h4.2);clear h4
    go_wp2_with fail
    refine⟨l.length-(a+1),by omega,_,a+1,rfl,rfl,?_,rfl,rfl,by omega,rfl,HR3.out.below HB4.out⟩;intro i hi;simp only[List.mem_cons,List.not_mem_nil,or_false] at hi;rcases hi with rfl|rfl|rfl|rfl|rfl
    ·exact(HKP.out 1 (by simp)).trans (HK.out 1 (by simp))
    ·exact(HKP.out 5 (by simp)).trans (HK.out 5 (by simp))
    ·exact(HKP.out 6 (by simp)).trans (HK.out 6 (by simp))
    ·exact K7.out.symm
    ·exact K9.out.symm
variable {zo zr:Bool} {ho hr ko kr lo lr:Int} {b5 b6 co1 co2 cr1 cr2 no1 no2 nr1 nr2:Nat} {t:Nd} {po1 po2 pr1 pr2:Option Addr}
theorem tl19 (m0:List Value) (hm0:m0.length=206)
  (k7:m0[7]? =some (.slice oa l.length ca)) (k9:m0[9]? =some (.slice ob l.length cb))
  (hT:jI B1 B2 G L L2 (.slice oa l.length ca) (.slice ob l.length cb) l cs cs2 Wl) (hn:l.length≤500)
  (hQ:∀(m:List Value) (w':World),m.length=206→Kp m0 m [1,5,6]→TlR B1 (.slice oa l.length ca) l.length cs Wl (l.length*2) l.length w'→Q .normal ⟨m.toArray,[]⟩ w'):
  Code.wp Tryz.prog (tlC [1,1,1,1,1,1,1,1,1,1,1,1,1,1,1,1,0]) Q ⟨m0.toArray,[]⟩ Wl:=by
 obtain⟨e,rfl⟩:=di hm0;rw[zI k7,zI k9] at hQ ⊢;have HT:=zh hT;have HQ:=zh hQ;have hnI:(l.length:Int)≤500:=(by omega);clear hT hQ k7 k9 hm0;conv=>arg 2;whnf
 go_wp2_with fail
 refine Qr _ rfl rfl rfl rfl rfl HT.out hn (fun m w' hm hk hR=> ?_);exact HQ.out _ _ hm (fun i hi=>by
  have:=hk i hi;simp only[List.mem_cons,List.not_mem_nil,or_false] at hi;rcases hi with rfl|rfl|rfl<;>exact this) hR
def t31W (t:Nd) (W:World):List Value→World→Prop
 |[]=>fun w'=>w'=W.drew
 |[v]=>fun w'=>∃(k lo hi:Int) (lz:Bool) (o1 o2:Option Addr) (n1 c1 n2 c2:Nat),v= .agg (six k lo hi lz o1 o2 n1 c1 n2 c2).toArray∧ai (fun _=>True) w' t (six k lo hi lz o1 o2 n1 c1 n2 c2)∧Below W.heap.size W w'
 |[_,v]=>fun w'=>v= .bool true∧Below W.heap.size W w'
 |_=>fun _=>False
theorem tl31 (m:List Value) (hm:m.length=206) (k5:m[5]? =some (.pointer (some ⟨b5,0,none⟩))) (k6:m[6]? =some (.pointer (some ⟨b6,0,none⟩)))
  (hB5:Blk W b5 #[.int .u8 kr,.slice pr1 nr1 cr1,.int .i64 lr,.int .i64 hr,.bool zr,.slice pr2 nr2 cr2] 70) (hB6:Blk W b6 #[.int .u8 ko,.slice po1 no1 co1,.int .i64 lo,.int .i64 ho,.bool zo,.slice po2 no2 co2] 27) (hnr:ai (fun _=>True) W t [.int .u8 kr,.slice pr1 nr1 cr1,.int .i64 lr,.int .i64 hr,.bool zr,.slice pr2 nr2 cr2]) (hno:ai (fun _=>True) W t [.int .u8 ko,.slice po1 no1 co1,.int .i64 lo,.int .i64 ho,.bool zo,.slice po2 no2 co2])
  (hQ:∀(m':List Value) (w':World),m'.length=206→m'[4]? =some (.bool true)→Below W.heap.size W w'→Q .normal ⟨m'.toArray,[]⟩ w'):
  Code.wp Tryz.prog (tlC [1,1,1,1,1,1,1,1,1,1,1,1,1,1,1,1,1,0]) Q ⟨m.toArray,[]⟩ W:=by
 obtain⟨e,rfl⟩:=di hm;rw[zI k5,zI k6];have hth:=qj t (fun _=>True) W.drew _ (ai.go (M:=fun _=>True) (Kept.of_below (zR.drew) (fun _=>False)) (fun _ _ _=>⟨id,trivial⟩) hno);have hsm:∀w' k lo hi lz o1 o2 n1 c1 n2 c2,Below W.heap.size W w'→ai (fun _=>True) w' t (six k lo hi lz o1 o2 n1 c1 n2 c2)→Calls Tryz.prog 35 #[.agg (six k lo hi lz o1 o2 n1 c1 n2 c2).toArray,.agg #[.int .u8 kr,.slice pr1 nr1 cr1,.int .i64 lr,.int .i64 hr,.bool zr,.slice pr2 nr2 cr2]] w' fun e w''=>e= .returned (.bool true)∧Below w'.heap.size w' w'':=fun w' k lo hi lz o1 o2 n1 c1 n2 c2 hb hn=>
  EN t (fun _=>True) (fun _=>True) w' _ _ hn (ai.go (zK hb) (fun _ _ _=>⟨id,trivial⟩) hnr)
 have HTH:=zh hth;have HSM:=zh hsm;have HQ:=zh hQ;have HB5:=zh hB5;have HB6:=zh hB6;clear hth hsm hQ hB5 hB6 hnr hno k5 k6 hm;conv=>arg 2;whnf
 go_upto_region 31 with fail
 apply aJ ?hm ?hok [0,2,1,3,4] [1,3] [4] ?hord (fun w'=>Below W.heap.size W w') (t31W t W)
 case hm=>rfl
 case hok=>kernel_rfl
 case hord=>kernel_rfl
 case hb=>
  intro L' w' h hl
  match L' with
  |[]=>rw[h];exact zR.drew
  |[v]=>obtain⟨_,_,_,_,_,_,_,_,_,_,_,_,h⟩:=h;exact h
  |[_,v]=>exact h.2
  |_::_::_::_=>simp at hl;omega
 case hw=>rfl
 case h=>
  apply ae _ rfl rfl rfl rfl
  case h=>
   intro W1 hW K hK
   (have d:=HB6.out.below hW HB6.out.lt;obtain⟨x0,x1,x2,x3,x4,x5,xz⟩:=zS d;clear d)
   go_wp2_with fail
   exact hK
  simp only[zP,zQ,zB,zC];apply ae _ rfl rfl rfl rfl
  case h=>
   intro W1 hW K hK
   (have d:=HB5.out.below hW HB5.out.lt;obtain⟨x0,x1,x2,x3,x4,x5,xz⟩:=zS d;clear d)
   go_wp2_with fail
   exact hK
  simp only[zP,zQ,zB,zC];apply ax rfl rfl rfl
  case h=>
   intro W1 hW K hK;obtain rfl:W1=W.drew:=hW
   go_wp2_with (go_at_call 25;(refine HTH.out.mono ?_;rintro e w' ⟨cs5,rfl,hn5,hb5⟩))
   obtain⟨k5,lo5,hi5,lz5,o15,o25,n15,c15,n25,c25,rfl⟩:=iP hn5;exact⟨k5,lo5,hi5,lz5,o15,o25,n15,c15,n25,c25,rfl,ai.mono (fun _ _=>trivial) hn5,(zR.drew).trans hb5⟩
  intro v3 hv3;obtain⟨_,k6,lo6,hi6,lz6,o61,o62,n61,c61,n62,c62,rfl,-,-⟩:=hv3;simp only[six];simp only[zP,zQ,zB,zC];apply ax rfl rfl rfl
  case h=>
   intro W1 hW K hK;obtain⟨k,lo,hi,lz,o1,o2,n1,c1,n2,c2,he,hn,hb⟩:=hW;simp only[six,Value.agg.injEq,List.toArray_eq_toArray_eq,List.toArray_inj,List.cons.injEq,Value.int.injEq,Value.slice.injEq,Value.bool.injEq,true_and,and_true] at he;obtain⟨rfl,⟨rfl,rfl,rfl⟩,rfl,rfl,rfl,rfl,rfl,rfl⟩:=he;have hc:=HSM.out W1 _ _ _ _ _ _ _ _ _ _ hb hn;simp only[six] at hc;have HC:=zh hc;have HBB:=zh hb;clear hc hb hn
   go_wp2_with (go_at_call 35;(refine HC.out.mono ?_;rintro e w' ⟨rfl,hb5⟩))
   first|exact⟨rfl,HBB.out.trans (hb5.mono HBB.out.size)⟩|exact hK _ _ ⟨rfl,HBB.out.trans (hb5.mono HBB.out.size)⟩
  intro v4 hv4;obtain⟨_,rfl,-⟩:=hv4;simp only[zP,zQ,zB,zC];apply ag _ rfl rfl rfl rfl
  case h=>
   intro W1 hW K hK
   go_wp2_with fail
   exact hK
  simp only[zP,zQ,zB,zC];refine aG fun W4 h4=> ?_
  have HB4:=zh (show Below W.heap.size W W4 from h4.2);clear h4
  go_wp2_with fail
  exact HQ.out _ _ rfl rfl HB4.out
end Go.Proofs.YtnhjakdmbfadlaaGreatDoor
