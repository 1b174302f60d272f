/- Parts of the proof. Conditions: none. -/
import Derived.Test.YtnhjakdmbfadlaaGreatDoorProg
import Derived.Test.YtnhjakdmbfadlaaGreatDoorT00
import Derived.WalkKit
import Derived.Handy
import Derived.LoopTactic
import Derived.Outline
import Derived.Test.YtnhjakdmbfadlaaGreatDoorT01
import Derived.Deep.DeepCutAuto
import Derived.Deep.CutRange
import Derived.WalkSpells
import Derived.Deep.OwnRows
import Derived.Test.YtnhjakdmbfadlaaGreatDoorT02
import Derived.Laws.OwnMore
import Derived.Shelf.Unicode.DecodeSlow
import Derived.Test.YtnhjakdmbfadlaaGreatDoorT03
set_option linter.all false
set_option maxHeartbeats 8000000
set_option maxRecDepth 100000
namespace Go.Proofs.YtnhjakdmbfadlaaGreatDoor
open Go.RowKit Wy Mem
variable {j:Nat} {N:Nat→Prop} {v:Value} {W w w' w1:World}
theorem aK {a b:Bool} (h:a=b):Ending.returned (.bool a)= .returned (.bool b):=by rw[h]
theorem dU (hb:Below W.heap.size W w1):(∀b o,b<W.heap.size→w1.cell? ⟨b,o,none⟩=W.cell? ⟨b,o,none⟩)∧(∀b o,b<W.heap.size→w1.frozen? ⟨b,o,none⟩=W.frozen? ⟨b,o,none⟩):=
 ⟨fun b o h=>hb.cell (p:=⟨b,o,none⟩) h,fun b o h=>hb.frozen (p:=⟨b,o,none⟩) h⟩
theorem Fv (c:Int) (w:World):Calls Tryz.prog 121 #[.int .i64 c] w fun e w'=>e= .returned (.bool (point c))∧w=w':=by
 have h:c<0∨(0≤c∧c≤55295)∨(0≤c∧55295<c∧c<57344)∨(0≤c∧55295<c∧57344≤c∧c≤1114111)∨(0≤c∧55295<c∧57344≤c∧1114111<c):=(by omega);rcases h with h1|⟨h1,h2⟩|⟨h1,h2,h3⟩|⟨h1,h2,h3,h4⟩|⟨h1,h2,h3,h4⟩
 all_goals
  go_enter Tryz.func121,Tryz.ntmps121
  go_wp2
  go_ret
  exact⟨aK (by rw[Bool.eq_iff_iff];simp only[point,Bool.or_eq_true,Bool.and_eq_true,decide_eq_true_eq,Bool.false_eq_true,false_iff,true_iff];omega),rfl⟩
theorem dW {c:Int} {b:Bool} (h:point c=b) (w:World):Calls Tryz.prog 121 #[.int .i64 c] w fun e w'=>e= .returned (.bool b)∧w=w':=by
 rw[←h];exact Fv c w
def jO (l:List Rg) (j:Nat):Bool:=match l[j]? with
 |some r=>oW r && (match j with|0=>true|i+1=>match l[i]? with|some q=> !decide (r.lo≤q.hi+1)|none=>true)
 |none=>true
theorem nX:∀l:List Rg,fJ l=true↔∀j,j<l.length→jO l j=true
 |[]=>by simp[fJ]
 |[r]=>by
  simp only[fJ,List.length_cons,List.length_nil];constructor
  ·intro h j hj;obtain rfl:j=0:=(by omega);simp[jO,h]
  ·intro h;have:=h 0 (by omega)
   simpa [jO] using this
 |r::q::l=>by
  have ih:=nX (q::l);simp only[fJ,Bool.and_eq_true,ih];constructor
  ·rintro⟨⟨h1,h2⟩,h3⟩ j hj
   match j with
   |0=>simp[jO,h1]
   |1=>
    have:=h3 0 (by simp);simp only[jO,List.getElem?_cons_zero,List.getElem?_cons_succ,Bool.and_true] at this ⊢;rw[this]
    simpa using h2
   |i+2=>
    have:=h3 (i+1) (by simpa using hj)
    simpa [jO] using this
  ·intro h;have h0:=h 0 (by simp);have h1:=h 1 (by simp);simp only[jO,List.getElem?_cons_zero,List.getElem?_cons_succ,Bool.and_true,Bool.and_eq_true] at h0 h1;refine⟨⟨h0,by simpa using h1.2⟩,fun j hj=> ?_⟩;have:=h (j+1) (by simpa using hj);cases j with
   |zero=>simp[jO,h1.1]
   |succ i=>simpa [jO] using this
theorem CE {l:List Rg} (h:0<l.length):jO l 0=oW l[0]:=by simp[jO,h]
theorem xK {l:List Rg} {k:Nat} (h:k<l.length) (hk:0<k):jO l k=(oW l[k] && !decide (l[k].lo≤l[k-1].hi+1)):=by
 obtain⟨i,rfl⟩:∃i,k=i+1:=⟨k-1,by omega⟩;have h2:i<l.length:=(by omega);simp[jO,h,h2]
theorem Ig (r:Rg):point r.lo=false∨(point r.lo=true∧point r.hi=false)∨(point r.lo=true∧point r.hi=true∧r.hi<r.lo)∨
  (point r.lo=true∧point r.hi=true∧r.lo≤r.hi∧r.lo≤55295∧55295<r.hi)∨(point r.lo=true∧point r.hi=true∧r.lo≤r.hi∧(55295<r.lo∨(r.lo≤55295∧r.hi≤55295))∧oW r=true):=by
 cases h1:point r.lo
 ·exact .inl rfl
 right
 cases h2:point r.hi
 ·exact .inl ⟨rfl,rfl⟩
 right
 by_cases h3:r.hi<r.lo
 ·exact .inl ⟨rfl,rfl,h3⟩
 right
 by_cases h4:r.lo≤55295∧55295<r.hi
 ·exact .inl ⟨rfl,rfl,by omega,h4.1,h4.2⟩
 right
 refine⟨rfl,rfl,by omega,by omega,?_⟩;simp only[oW,h1,h2,Bool.true_and,Bool.and_eq_true,Bool.not_eq_true',Bool.and_eq_false_iff,decide_eq_false_iff_not];omega
theorem yP {r:Rg} (h:point r.lo=false∨point r.hi=false∨r.hi<r.lo∨(r.lo≤55295∧55295<r.hi)):oW r=false:=by
 simp only[oW,Bool.and_eq_false_iff,Bool.not_eq_false',Bool.and_eq_true,decide_eq_true_eq];rcases h with h|h|h|h<;>simp[h]
theorem qH {l:List Rg} {k:Nat} (h:k<l.length) (hb:oW l[k]=false):jO l k=false:=by simp[jO,h,hb]
theorem Ll {l:List Rg} (h:j<l.length) (hb:jO l j=true):0≤l[j].hi∧l[j].hi≤1114111:=by
 simp only[jO,List.getElem?_eq_getElem h,oW,Bool.and_eq_true] at hb;have:=hb.1.1.1.2;simp only[point,Bool.or_eq_true,Bool.and_eq_true,decide_eq_true_eq] at this;omega
def Rgt (l:List Rg) (w:World) (e:Ending) (w':World):Prop:=e= .returned (.bool (fJ l))∧Below w.heap.size w w'
theorem vk {l:List Rg} {k:Nat} (hk:k<l.length) (h:jO l k=false) (hb:Below w.heap.size w w'):Rgt l w (.returned (.bool false)) w':=by
 refine⟨aK ?_,hb⟩;cases e:fJ l
 ·rfl
 ·have:=(nX l).1 e k hk;rw[h] at this;cases this
theorem xM {l:List Rg} (h:dG N w v l):Calls Tryz.prog 95 #[v] w (Rgt l w):=by
 by_cases hne:0<l.length
 ·obtain⟨b,off,cap,rfl,hcap,hmax,-,hlt,hc⟩:=h.cells hne;have HC:=zh hc;have hmx:(l.length:Int)≤9223372036854775807:=by unfold maxLen at hmax;omega
  have hci:(l.length:Int)≤cap:=(by omega);clear hc h;go_enter Tryz.func95,Tryz.ntmps95
  go_wp2_with fail
  go_loopw [7] (fun i wr=>∃k:Nat,k≤l.length∧i= .int .i64 k∧Below w.heap.size w wr∧Hid (∀j,j<k→jO l j=true)) (fun i _=>l.length-(intOf i).toNat)
  case atStart=>exact⟨0,by omega,rfl,zR,zh (fun j hj=>by omega)⟩
  case round=>
   obtain⟨k,hk,rfl,hbr,HQ⟩:=hrel;have hzr:=hbr.size;by_cases hkl:k<l.length
   ·obtain⟨⟨hl1,hl2⟩,⟨hh1,hh2⟩,c0,c1⟩:=HC.out k hkl;have d0:=(hbr.cell (p:=⟨b,off+k*2,none⟩) hlt).trans c0;have d1:=(hbr.cell (p:=⟨b,off+k*2+1,none⟩) hlt).trans c1;have hbn:=hbr.alloc hzr (.cells #[.int .i64 l[k].lo,.int .i64 l[k].hi] 122);have HBN:=zh hbn;have hkI:(k:Int)<l.length:=(by omega);clear c0 c1 hbn;rcases Ig l[k] with p|⟨p,q⟩|⟨p,q,r⟩|⟨p,q,r,s,t⟩|⟨p,q,r,s,hok⟩
    ·have hbad:=yP (.inl p);have P:=zh p;have Q:=P;have HB:=zh hbad;clear p hbad
     go_wp2_with fail
     refine dZ rfl (by kernel_rfl) ?_;repeat (first
      |(apply jC
        ·rfl
        ·intro W1 hW K hK;obtain⟨hc,hf⟩:=dU hW
         go_wp2_with (first|(go_at_call 121;with_reducible refine(dW P.out _).mono ?_;rintro e w' ⟨rfl,rfl⟩)|(go_at_call 121;with_reducible refine(dW Q.out _).mono ?_;rintro e w' ⟨rfl,rfl⟩))
         exact hW
        simp only[Act.put,List.setIfInBounds_toArray,List.set_cons_zero,List.set_cons_succ])
      |(apply lG
        ·rfl
        simp only[Act.put,List.setIfInBounds_toArray,List.set_cons_zero,List.set_cons_succ]))
     refine jD fun W1 hW=> ?_
     obtain⟨hc,hf⟩:=dU hW
     go_wp2
     go_ret
     exact vk hkl (qH hkl HB.out) (HBN.out.trans (hW.mono HBN.out.size))
    ·have hbad:=yP (.inr (.inl q));have P:=zh p;have Q:=zh q;have HB:=zh hbad;clear p q hbad
     go_wp2_with fail
     refine dZ rfl (by kernel_rfl) ?_;repeat (first
      |(apply jC
        ·rfl
        ·intro W1 hW K hK;obtain⟨hc,hf⟩:=dU hW
         go_wp2_with (first|(go_at_call 121;with_reducible refine(dW P.out _).mono ?_;rintro e w' ⟨rfl,rfl⟩)|(go_at_call 121;with_reducible refine(dW Q.out _).mono ?_;rintro e w' ⟨rfl,rfl⟩))
         exact hW
        simp only[Act.put,List.setIfInBounds_toArray,List.set_cons_zero,List.set_cons_succ])
      |(apply lG
        ·rfl
        simp only[Act.put,List.setIfInBounds_toArray,List.set_cons_zero,List.set_cons_succ]))
     refine jD fun W1 hW=> ?_
     obtain⟨hc,hf⟩:=dU hW
     go_wp2
     go_ret
     exact vk hkl (qH hkl HB.out) (HBN.out.trans (hW.mono HBN.out.size))
    ·have hbad:=yP (.inr (.inr (.inl r)));have P:=zh p;have Q:=zh q;have HB:=zh hbad;clear p q hbad
     go_wp2_with fail
     refine dZ rfl (by kernel_rfl) ?_;repeat (first
      |(apply jC
        ·rfl
        ·intro W1 hW K hK;obtain⟨hc,hf⟩:=dU hW
         go_wp2_with (first|(go_at_call 121;with_reducible refine(dW P.out _).mono ?_;rintro e w' ⟨rfl,rfl⟩)|(go_at_call 121;with_reducible refine(dW Q.out _).mono ?_;rintro e w' ⟨rfl,rfl⟩))
         exact hW
        simp only[Act.put,List.setIfInBounds_toArray,List.set_cons_zero,List.set_cons_succ])
      |(apply lG
        ·rfl
        simp only[Act.put,List.setIfInBounds_toArray,List.set_cons_zero,List.set_cons_succ]))
     refine jD fun W1 hW=> ?_
     obtain⟨hc,hf⟩:=dU hW
     go_wp2
     go_ret
     exact vk hkl (qH hkl HB.out) (HBN.out.trans (hW.mono HBN.out.size))
    ·have hbad:=yP (.inr (.inr (.inr ⟨s,t⟩)));have r':decide (l[k].hi<l[k].lo)=false:=by simpa using r
     have P:=zh p;have Q:=zh q;have HB:=zh hbad;clear p q hbad
     go_wp2_with fail
     refine dZ rfl (by kernel_rfl) ?_;repeat (first
      |(apply jC
        ·rfl
        ·intro W1 hW K hK;obtain⟨hc,hf⟩:=dU hW
         go_wp2_with (first|(go_at_call 121;with_reducible refine(dW P.out _).mono ?_;rintro e w' ⟨rfl,rfl⟩)|(go_at_call 121;with_reducible refine(dW Q.out _).mono ?_;rintro e w' ⟨rfl,rfl⟩))
         exact hW
        simp only[Act.put,List.setIfInBounds_toArray,List.set_cons_zero,List.set_cons_succ])
      |(apply lG
        ·rfl
        simp only[Act.put,List.setIfInBounds_toArray,List.set_cons_zero,List.set_cons_succ]))
     refine jD fun W1 hW=> ?_
     obtain⟨hc,hf⟩:=dU hW
     go_wp2
     go_ret
     exact vk hkl (qH hkl HB.out) (HBN.out.trans (hW.mono HBN.out.size))
    ·have P:=zh p;have Q:=zh q;have HK:=zh hok;clear p q hok;have r':decide (l[k].hi<l[k].lo)=false:=by simpa using r
     have HS:(decide (l[k].lo≤55295)=false)∨(l[k].lo≤55295∧decide (55295<l[k].hi)=false):=by
      rcases s with s|⟨s,s'⟩
      ·left;simpa using s
      ·right;exact⟨s,by simpa using s'⟩
     clear s;by_cases hk0:0<k
     ·obtain⟨⟨hm1,hm2⟩,⟨hn1,hn2⟩,c2,c3⟩:=HC.out (k-1) (by omega);have d3:=(hbr.cell (p:=⟨b,off+(k-1)*2+1,none⟩) hlt).trans c3;have hk1:((k:Int)-1).toNat=k-1:=(by omega);have hk0I:(0:Int)<k:=(by omega);have hk0J:(1:Int)≤k:=(by omega);have hk0K:(0:Int)≤(k:Int)-1:=(by omega);have hk0L:(k:Int)-1<l.length:=(by omega);have hbw:b<wr.heap.size:=(by omega);have O0:b<wr.heap.size+1:=(by omega);have Lm:=xK hkl hk0;rw[HK.out,Bool.true_and] at Lm;obtain⟨hp1,hp2⟩:=Ll (show k-1<l.length by omega) (HQ.out (k-1) (by omega));obtain⟨y,hy⟩:∃y,y=l[k-1].hi:=⟨_,rfl⟩;rw[←hy] at d3 hn1 hn2 Lm hp1 hp2;have HON:=zh Lm;clear c2 c3 hm1 hm2 Lm hy;by_cases hov:l[k].lo≤y+1
      ·rcases HS with s|⟨s,s'⟩
       all_goals
        go_wp2_with fail
        refine dZ rfl (by kernel_rfl) ?_;repeat (first
         |(apply jC
           ·rfl
           ·intro W1 hW K hK;obtain⟨hc,hf⟩:=dU hW
            go_wp2_with (first|(go_at_call 121;with_reducible refine(dW P.out _).mono ?_;rintro e w' ⟨rfl,rfl⟩)|(go_at_call 121;with_reducible refine(dW Q.out _).mono ?_;rintro e w' ⟨rfl,rfl⟩))
            exact hW
           simp only[Act.put,List.setIfInBounds_toArray,List.set_cons_zero,List.set_cons_succ])
         |(apply lG
           ·rfl
           simp only[Act.put,List.setIfInBounds_toArray,List.set_cons_zero,List.set_cons_succ]))
        refine jD fun W1 hW=> ?_
        obtain⟨hc,hf⟩:=dU hW
        go_wp2
        go_ret
        exact vk hkl (HON.out.trans (by simp[hov])) (HBN.out.trans (hW.mono HBN.out.size))
      ·have hov':decide (l[k].lo≤y+1)=false:=by simpa using hov
       have HQ':Hid (∀j,j<k+1→jO l j=true):=zh (fun j hj=>by
        by_cases e:j<k
        ·exact HQ.out j e
        ·obtain rfl:j=k:=(by omega);exact HON.out.trans (by simp[hov]))
       rcases HS with s|⟨s,s'⟩
       all_goals
        go_wp2_with fail
        refine dZ rfl (by kernel_rfl) ?_;repeat (first
         |(apply jC
           ·rfl
           ·intro W1 hW K hK;obtain⟨hc,hf⟩:=dU hW
            go_wp2_with (first|(go_at_call 121;with_reducible refine(dW P.out _).mono ?_;rintro e w' ⟨rfl,rfl⟩)|(go_at_call 121;with_reducible refine(dW Q.out _).mono ?_;rintro e w' ⟨rfl,rfl⟩))
            exact hW
           simp only[Act.put,List.setIfInBounds_toArray,List.set_cons_zero,List.set_cons_succ])
         |(apply lG
           ·rfl
           simp only[Act.put,List.setIfInBounds_toArray,List.set_cons_zero,List.set_cons_succ]))
        refine jD fun W1 hW=> ?_
        obtain⟨hc,hf⟩:=dU hW
        go_wp2_with fail
        go_roundw
        case rel=>exact⟨k+1,by omega,by go_num,HBN.out.trans (hW.mono HBN.out.size),HQ'⟩
        case measure=>simp[intOf];omega
     ·have hk0I:decide (0<k)=false:=by simp;omega
      have HQ':Hid (∀j,j<k+1→jO l j=true):=zh (fun j hj=>by
       obtain rfl:j=0:=(by omega);have e:k=0:=(by omega);have e2:=HK.out;subst e;rw[CE hkl];exact e2)
      clear hk0;rcases HS with s|⟨s,s'⟩
      all_goals
       go_wp2_with fail
       refine dZ rfl (by kernel_rfl) ?_;repeat (first
        |(apply jC
          ·rfl
          ·intro W1 hW K hK;obtain⟨hc,hf⟩:=dU hW
           go_wp2_with (first|(go_at_call 121;with_reducible refine(dW P.out _).mono ?_;rintro e w' ⟨rfl,rfl⟩)|(go_at_call 121;with_reducible refine(dW Q.out _).mono ?_;rintro e w' ⟨rfl,rfl⟩))
           exact hW
          simp only[Act.put,List.setIfInBounds_toArray,List.set_cons_zero,List.set_cons_succ])
        |(apply lG
          ·rfl
          simp only[Act.put,List.setIfInBounds_toArray,List.set_cons_zero,List.set_cons_succ]))
       refine jD fun W1 hW=> ?_
       obtain⟨hc,hf⟩:=dU hW
       go_wp2_with fail
       go_roundw
       case rel=>exact⟨k+1,by omega,by go_num,HBN.out.trans (hW.mono HBN.out.size),HQ'⟩
       case measure=>simp[intOf];omega
   ·obtain rfl:k=l.length:=by omega
    go_wp2
    go_ret
    exact⟨aK ((nX l).2 HQ.out).symm,hbr⟩
 ·obtain rfl:l=[]:=List.eq_nil_of_length_eq_zero (by omega);obtain⟨o,c,rfl⟩:=h.row.slice;clear h hne;simp only[List.length_nil];go_enter Tryz.func95,Tryz.ntmps95
  go_wp2
  go_rounds 1
  all_goals go_wp2
  go_ret
  exact⟨rfl,zR⟩
end Go.Proofs.YtnhjakdmbfadlaaGreatDoor
namespace Go.Proofs.YtnhjakdmbfadlaaGreatDoor
open Go.RowKit Wy Mem Grow
variable {lazy:Bool} {hi k lo:Int} {subs:List Nd} {set:List Rg} {i:Nat}
def yQ (t:Nd):Prop:=∀(N:Nat→Prop) (w:World) (cs:List Value),ai N w t cs→
 Calls Tryz.prog 37 #[.agg cs.toArray] w fun e w'=>e= .returned (.bool (Wy.look t).ah)∧Below w.heap.size w w'
def oJ (l:List Nd):Bool:=l.any fun s=>(Wy.look s).ah
def uf (l:List Nd):Bool:=l.all fun s=>(Wy.look s).ah
theorem xN {l:List Nd} (hi:i<l.length):oJ (l.take (i+1))=(oJ (l.take i) || (Wy.look l[i]).ah):=by
 unfold oJ;rw[List.take_succ_eq_append_getElem hi,List.any_append];simp
theorem xO {l:List Nd} (hi:i<l.length):uf (l.take (i+1))=(uf (l.take i) && (Wy.look l[i]).ah):=by
 unfold uf;rw[List.take_succ_eq_append_getElem hi,List.all_append];simp
theorem Ih (ih:∀s∈subs,yQ s):yQ (.mk k set lo hi lazy subs):=by
 intro N w cs hnd;rw[ai] at hnd;obtain⟨sv,uv,ucs,rfl,hk,hlo,hhi,hset,hrow,hsubs⟩:=hnd;obtain⟨os,cs,rfl⟩:=hset.row.slice;obtain⟨ou,cu,rfl⟩:=hrow.slice;have HIH:=zh ih;have dQ:=zh hrow;have eY:=zh hsubs;have hsl:(subs.length:Int)≤1048576:=(by omega);clear ih hset hrow hsubs;go_enter Tryz.func37,Tryz.ntmps37
 go_upto_region 1 with fail
 have hB:Blk (w.alloc (.cells #[.int .u8 k,.slice os set.length cs,.int .i64 lo,.int .i64 hi,.bool lazy,.slice ou subs.length cu] 27)) w.heap.size #[.int .u8 k,.slice os set.length cs,.int .i64 lo,.int .i64 hi,.bool lazy,.slice ou subs.length cu] 27:=Blk.new _ _ _;have hbW:Below w.heap.size w (w.alloc (.cells #[.int .u8 k,.slice os set.length cs,.int .i64 lo,.int .i64 hi,.bool lazy,.slice ou subs.length cu] 27)):=zR.alloc zL _;generalize (w.alloc (.cells #[.int .u8 k,.slice os set.length cs,.int .i64 lo,.int .i64 hi,.bool lazy,.slice ou subs.length cu] 27))=W at hB hbW ⊢;obtain⟨d0,d1,d2,d3,d4,d5,-⟩:=zS hB;have dz:=hB.lt;have HB:=zh hB;have HBW:=zh hbW;clear hB hbW
 go_wp2_with fail
 go_loopw [3,4,11] (fun s3 s4 s11 wx=>∃i:Nat,i≤subs.length∧s11= .int .i64 i∧s3= .bool (oJ (subs.take i))∧s4= .bool (uf (subs.take i))∧Below W.heap.size W wx) (fun _ _ s11 _=>subs.length-(intOf s11).toNat)
 case atStart=>exact⟨0,by omega,rfl,rfl,rfl,zR⟩
 case round=>
  rename World=>Wa
  obtain⟨i,hi',rfl,rfl,rfl,hba⟩:=hrel;have HBA:=zh hba;by_cases hil:i<subs.length
  ·obtain⟨ub,uo,uc,hue,huc,hum,Fz,bg,gB⟩:=dQ.out.parts eY.out (by omega);simp only[Value.slice.injEq,true_and] at hue;obtain⟨rfl,rfl⟩:=hue;obtain⟨tsv,tuv,hnt,t0,t1,t2,t3,t4,t5⟩:=gB i hil;have hub:Wa.heap[ub]? =w.heap[ub]? :=(hba.block ub (by have:=HBW.out.size;omega)).trans (HBW.out.block ub bg);have FB:=ai.go (M:=N) (Kept.of_below (HBW.out.trans (hba.mono HBW.out.size)) (fun _=>False)) (fun q _ hn=>⟨id,hn⟩) hnt;have hsl1:∃o n c,tsv= .slice o n c:=by
    generalize subs[i]=t at hnt;cases t;rw[ai] at hnt;obtain⟨sv',uv',Lp,h1,-,-,-,h5,h6,-⟩:=hnt;simp only[List.cons.injEq] at h1;rw[h1.2.1];obtain⟨o,c,e⟩:=h5.row.slice;exact⟨_,_,_,e⟩
   have hsl2:∃o n c,tuv= .slice o n c:=by
    generalize subs[i]=t at hnt;cases t;rw[ai] at hnt;obtain⟨sv',uv',Lp,h1,-,-,-,h5,h6,-⟩:=hnt;simp only[List.cons.injEq] at h1;rw[h1.2.2.2.2.2.1];obtain⟨o,c,e⟩:=h6.slice;exact⟨_,_,_,e⟩
   obtain⟨to1,tn1,tc1,rfl⟩:=hsl1;obtain⟨to2,tn2,tc2,rfl⟩:=hsl2;have g0:=(zW (a:=⟨ub,uo+i*6,none⟩) hub).trans t0;have g1:=(zW (a:=⟨ub,uo+i*6+1,none⟩) hub).trans t1;have g2:=(zW (a:=⟨ub,uo+i*6+2,none⟩) hub).trans t2;have g3:=(zW (a:=⟨ub,uo+i*6+3,none⟩) hub).trans t3;have g4:=(zW (a:=⟨ub,uo+i*6+4,none⟩) hub).trans t4;have g5:=(zW (a:=⟨ub,uo+i*6+5,none⟩) hub).trans t5;have Ej:ub<Wa.heap.size:=by have:=HBW.out.size;have:=hba.size;omega
   have pO:(i:Int)<subs.length:=(by omega);have lK:(subs.length:Int)≤cu:=(by omega);obtain⟨ts,hts⟩:∃ts,ts=subs[i]:=⟨_,rfl⟩;have hcall:=HIH.out subs[i] (List.getElem_mem hil) N (Wa.alloc (.cells #[.int .u8 subs[i].kind,.slice to1 tn1 tc1,.int .i64 subs[i].lo,.int .i64 subs[i].hi,.bool subs[i].lazy,.slice to2 tn2 tc2] 27)) _ (ai.go ((Kept.refl (fun _=>False) Wa).alloc _) (fun q _ hn=>⟨id,hn⟩) FB);have ha:=xN hil;have hb:=xO hil;rw[←hts] at g0 g2 g3 g4 hcall ha hb;obtain⟨nt,hn⟩:∃nt,nt=(Wy.look ts).ah:=⟨_,rfl⟩;rw[←hn] at hcall ha hb;have aS:=zh hcall;have HA:=zh ha;have HB':=zh hb;clear gB hnt FB hub t0 t1 t2 t3 t4 t5 hts hn hcall ha hb hba;generalize oJ (subs.take i)=an at HA ⊢;generalize uf (subs.take i)=al at HB' ⊢;have fin:∀w5,Below (Wa.heap.size+1) (Wa.alloc (.cells #[.int .u8 ts.kind,.slice to1 tn1 tc1,.int .i64 ts.lo,.int .i64 ts.hi,.bool ts.lazy,.slice to2 tn2 tc2] 27)) w5→Below W.heap.size W w5:=fun w5 h5=>
    (HBA.out.alloc HBA.out.size _).trans (h5.mono (by have:=HBA.out.size;omega))
   have FIN:=zh fin;clear fin;cases an<;>cases al
   all_goals
    go_wp2_with (first|(go_at_call 37;refine aS.out.mono ?_;rintro e w5 ⟨rfl,hb5⟩;have HB5:=zh (FIN.out w5 (by simpa using hb5));clear hb5))
    go_roundw
    case rel=>exact⟨i+1,by omega,by go_num,by rw[HA.out];simp,by rw[HB'.out];simp,HB5.out⟩
    case measure=>simp[intOf];omega
  ·obtain rfl:i=subs.length:=(by omega);have y0:Wa.cell? ⟨w.heap.size,0,none⟩=some (.int .u8 k):=(hba.cell (p:=⟨w.heap.size,0,none⟩) dz).trans d0;have y2:Wa.cell? ⟨w.heap.size,2,none⟩=some (.int .i64 lo):=(hba.cell (p:=⟨w.heap.size,2,none⟩) dz).trans d2;have yz:w.heap.size<Wa.heap.size:=by have:=hba.size;omega
   have hfin:Below w.heap.size w Wa:=HBW.out.trans (hba.mono HBW.out.size);have hl:=kF k set lo hi lazy subs;rw[List.take_length];change _=if k=1 then true else if k=3 then uf subs else if k=5 then oJ subs || decide (lo=0) else oJ subs at hl
   have bW:=zh hfin;have HL:=zh hl;generalize oJ subs=an at HL ⊢;generalize uf subs=al at HL ⊢;clear hfin hl hba;by_cases k1:k=1
   ·subst k1
    go_wp2_with fail
    go_ret
    exact⟨by rw[HL.out];rfl,bW.out⟩
   have k1b:(k == 1)=false:=by simpa using k1
   by_cases k3:k=3
   ·subst k3
    go_wp2_with fail
    go_ret
    exact⟨by rw[HL.out];rfl,bW.out⟩
   have k3b:(k == 3)=false:=by simpa using k3
   by_cases k5:k=5
   ·subst k5;cases an
    ·by_cases hl0:lo=0
     ·subst hl0
      go_wp2_with fail
      go_ret
      exact⟨by rw[HL.out];simp,bW.out⟩
     ·have hlb:(lo == 0)=false:=by simpa using hl0
      go_wp2_with fail
      go_ret
      exact⟨by rw[HL.out];simp[hl0],bW.out⟩
    ·go_wp2_with fail
     go_ret
     exact⟨by rw[HL.out];simp,bW.out⟩
   have k5b:(k == 5)=false:=by simpa using k5
   go_wp2_with fail
   go_ret
   exact⟨by rw[HL.out];simp[k1,k3,k5],bW.out⟩
theorem yR:∀t:Nd,yQ t
 | .mk k set lo hi lazy subs=>Ih (fun s hs=>yR s)
termination_by t=>SizeOf.sizeOf t
decreasing_by
 have:=List.sizeOf_lt_of_mem hs;simp;omega
variable {x' y y':Int} {b:Nat} {w:World}
def Lef (a b:Nat) (w:World) (e:Ending) (w':World):Prop:=∃cs,e= .returned (.agg cs.toArray)∧ai (fun q=>w.heap.size≤q) w' (oP a b) cs∧Below w.heap.size w w'
theorem kW {l:List Rg} {o1 o2:Obj} {a:Nat} (hl:oO a b=l) (hs:l.length≤2) (hok:∀r∈l,I64 r.lo∧I64 r.hi):
  Lef a b w (.returned (.agg #[.int .u8 2,.slice (some ⟨w.heap.size+1+1,0,none⟩) l.length l.length,.int .i64 0,.int .i64 0,.bool false,.slice none 0 0])) (((w.alloc o1).alloc o2).alloc (.cells (l.flatMap jL).toArray 122)):=by
 have hB:Blk (((w.alloc o1).alloc o2).alloc (.cells (l.flatMap jL).toArray 122)) (w.heap.size+1+1) (l.flatMap jL).toArray 122:=Blk.new' _ _ (by simp);refine⟨[.int .u8 2,.slice (some ⟨w.heap.size+1+1,0,none⟩) l.length l.length,.int .i64 0,.int .i64 0,.bool false,.slice none 0 0],rfl,?_,((zR.alloc zL _).alloc (by simp) _).alloc (by simp;omega) _⟩;unfold oP;rw[ai,hl];refine⟨_,_,[],rfl,⟨by omega,by omega,by simp⟩,⟨by decide,by decide⟩,⟨by decide,by decide⟩,⟨⟨iZ (f:=jL) (n:=2) (fun _=>rfl) l,.inr ⟨_,0,_,rfl,Nat.le_refl _,by unfold maxLen;omega,by show w.heap.size≤_;omega,hB.lt,fun j _=> ?_⟩⟩,hok,by omega⟩,⟨rfl,.inl ⟨rfl,_,_,rfl⟩⟩,by rw[au]⟩;rw[Nat.zero_add,hB.cell];simp
theorem ok_one {x:Int} (hx:0≤x∧x≤1114111) (hy:0≤y∧y≤1114111):∀r∈[(⟨x,y⟩:Rg)],I64 r.lo∧I64 r.hi:=by
 intro r hr;rw[List.mem_singleton] at hr;subst hr;unfold I64;simp only;omega
theorem ok_two {x:Int} (hx:0≤x∧x≤1114111) (hy:0≤y∧y≤1114111) (hx':0≤x'∧x'≤1114111) (hy':0≤y'∧y'≤1114111):∀r∈[(⟨x,y⟩:Rg),⟨x',y'⟩],I64 r.lo∧I64 r.hi:=by
 intro r hr;rcases List.mem_cons.1 hr with rfl|hr
 ·unfold I64;simp only;omega
 ·exact ok_one hx' hy' r hr
theorem Lr:∀(i:Nat) (hi:i<6),wrap64 (((⟨#[42,46,124,92,45,93]⟩:ByteArray)[i]'hi).toNat:Int)=signs.getD i 0:=by unfold wrap64;decide
theorem Em:∀(i:Nat),i<6→0≤signs.getD i 0∧signs.getD i 0≤1114111:=by decide
theorem Ii (a b:Nat) (ha:a<256) (hb:b<256) (w:World):Calls Tryz.prog 36 #[.int .u8 a,.int .u8 b] w (Lef a b w):=by
 have hc:a%8=0∨a%8=1∨a%8=2∨a%8=3∨a%8=4∨4<a%8:=(by omega);have hb6:b%6<6:=Nat.mod_lt _ (by omega);rcases hc with h|h|h|h|h|h
 ·have e0:((a:Int)%8 == 0)=true:=by simp;omega
  go_enter Tryz.func36,Tryz.ntmps36
  go_wp2_with fail
  exact bodyPost_ret (by simp[results,Tryz.results36,go_sem];done) rfl (kW (l:=[⟨0,55295⟩,⟨57344,1114111⟩]) (by unfold oO;rw[if_pos h]) (by decide) (ok_two (by omega) (by omega) (by omega) (by omega)))
 ·have e0:((a:Int)%8 == 0)=false:=by simp;omega
  have e1:((a:Int)%8 == 1)=true:=by simp;omega
  go_enter Tryz.func36,Tryz.ntmps36
  go_wp2_with fail
  exact bodyPost_ret (by simp[results,Tryz.results36,go_sem];done) rfl (kW (l:=[⟨97,99⟩]) (by unfold oO;rw[if_neg (by omega),if_pos h]) (by decide) (ok_one (by omega) (by omega)))
 ·have e0:((a:Int)%8 == 0)=false:=by simp;omega
  have e1:((a:Int)%8 == 1)=false:=by simp;omega
  have e2:((a:Int)%8 == 2)=true:=by simp;omega
  go_enter Tryz.func36,Tryz.ntmps36
  go_wp2_with fail
  exact bodyPost_ret (by simp[results,Tryz.results36,go_sem];done) rfl (kW (l:=[⟨48,57⟩,⟨97,98⟩]) (by unfold oO;rw[if_neg (by omega),if_neg (by omega),if_pos h]) (by decide) (ok_two (by omega) (by omega) (by omega) (by omega)))
 ·have e0:((a:Int)%8 == 0)=false:=by simp;omega
  have e1:((a:Int)%8 == 1)=false:=by simp;omega
  have e2:((a:Int)%8 == 2)=false:=by simp;omega
  have e3:((a:Int)%8 == 3)=true:=by simp;omega
  go_enter Tryz.func36,Tryz.ntmps36
  go_wp2_with fail
  exact bodyPost_ret (by simp[results,Tryz.results36,go_sem];done) rfl (kW (l:=[⟨8364,8364⟩]) (by unfold oO;rw[if_neg (by omega),if_neg (by omega),if_neg (by omega),if_pos h]) (by simp) (ok_one (by omega) (by omega)))
 ·have e0:((a:Int)%8 == 0)=false:=by simp;omega
  have e1:((a:Int)%8 == 1)=false:=by simp;omega
  have e2:((a:Int)%8 == 2)=false:=by simp;omega
  have e3:((a:Int)%8 == 3)=false:=by simp;omega
  have e4:((a:Int)%8 == 4)=true:=by simp;omega
  go_enter Tryz.func36,Tryz.ntmps36
  go_wp2_with fail
  rw[Lr _ hb6];exact bodyPost_ret (by simp[results,Tryz.results36,go_sem];done) rfl (kW (l:=[⟨signs.getD (b%6) 0,signs.getD (b%6) 0⟩]) (by unfold oO;rw[if_neg (by omega),if_neg (by omega),if_neg (by omega),if_neg (by omega),if_pos h]) (by simp) (ok_one (Em _ hb6) (Em _ hb6)))
 ·have e0:((a:Int)%8 == 0)=false:=by simp;omega
  have e1:((a:Int)%8 == 1)=false:=by simp;omega
  have e2:((a:Int)%8 == 2)=false:=by simp;omega
  have e3:((a:Int)%8 == 3)=false:=by simp;omega
  have e4:((a:Int)%8 == 4)=false:=by simp;omega
  go_enter Tryz.func36,Tryz.ntmps36
  go_wp2_with fail
  exact bodyPost_ret (by simp[results,Tryz.results36,go_sem];done) rfl (kW (l:=[⟨97+(b:Int)%4,97+(b:Int)%4⟩]) (by unfold oO;rw[if_neg (by omega),if_neg (by omega),if_neg (by omega),if_neg (by omega),if_neg (by omega)];rfl) (by simp) (ok_one (by omega) (by omega)))
variable {cs:List Value} {n sz:Nat} {N:Nat→Prop} {v:Value}
theorem Ij:(Tryz.prog.info? 57).map (fun i=>(i.zero,i.size,i.bytes))=some (some (.agg #[.int .i64 0,.int .i64 0]),2,16):=by kernel_rfl
theorem rJ:(Tryz.prog.info? 43).map (fun i=>(i.zero,i.size,i.bytes))=some (some (.agg #[.int .i64 0,.slice none 0 0]),2,32):=by kernel_rfl
theorem rM (w:World) (e:TypeId) (sz:Nat):(w.alloc (.cells #[] e)).ownsRow w.heap.size e sz (.slice (some ⟨w.heap.size,0,none⟩) 0 0) 0 []:=
 ⟨by simp,.inr ⟨w.heap.size,0,_,rfl,Nat.le_refl _,heap_alloc_new w _,Nat.le_refl _,by unfold maxLen;omega,by simp,by simp⟩⟩
theorem jV (h:Row N w v n sz cs):dI w v n cs:=by
 rcases h.at_ with⟨rfl,o,c,rfl⟩|⟨b,off,cap,rfl,-,-,-,-,h5⟩
 ·have:cs=[]:=List.eq_nil_of_length_eq_zero (by simpa using h.len);subst this;cases o with
  |none=>exact .inl ⟨c,rfl,rfl,rfl⟩
  |some a=>exact .inr ⟨a,c,rfl,fun j u hu=>by simp at hu⟩
 ·refine .inr ⟨_,_,rfl,fun j u hu=> ?_⟩;have hj:j<cs.length:=by
   by_cases e:j<cs.length
   ·exact e
   ·rw[List.getElem?_eq_none (by omega)] at hu;cases hu
  have:=h5 j hj;rw[hu] at this;by_cases e:j=0
  ·subst e;simpa [Addr.add] using this
  ·simpa [Addr.add,e] using this
def Clo (T:TypeId) (n:Nat) (cs:List Value) (w:World) (e:Ending) (w':World):Prop:=∃v',e= .returned v'∧w'.ownsRow w.heap.size T 2 v' n cs∧Below w.heap.size w w'
theorem lL (h:Row N w v n 2 cs) (h1:∀u∈cs,u.oneCell'=true) (hn:n≤1048576):
  Calls Tryz.prog 72 #[v] w (Clo 57 n cs w):=by
 obtain⟨o,c,rfl⟩:=h.slice;have hsrc:=jV (h.kept ((Kept.refl (fun _=>False) w).alloc (.cells #[] 57)) (fun _ _ _=>id));have hl:=h.len;obtain⟨i0,hi,hz0,hz1,hz2⟩:=info_parts Ij;have HS:=zh hsrc;have HL:=zh hl;have HH:=zh h;have H1:=zh h1;have hown:=zh (rM w 57 2);have hq:=fun w=>Lib.run_eql_slice_nil (P:=Tryz.prog) w 41 57 o n c 0 0 Tryz.underlying41
 have hbs:w.heap.size≤(w.alloc (.cells #[] 57)).heap.size:=by simp
 have HBS:=zh hbs;clear hsrc hl h h1 hbs;cases o with
 |none=>
  go_enter Tryz.func72,Tryz.ntmps72
  go_wp2
  go_ret
  have hn0:n=0:=by
   rcases HH.out.at_ with⟨h0,_⟩|⟨b,off,cap,he,_⟩
   ·exact h0
   ·cases he
  refine⟨_,rfl,⟨HL.out,.inl ⟨rfl,hn0⟩⟩,zR⟩
 |some a=>
  go_enter Tryz.func72,Tryz.ntmps72
  go_wp2_with (first|(at_builtin;refine aA rfl _ _ 41 rfl Tryz.underlying41 hi hz0 hz1 hz2 rfl (.slice (some ⟨w.heap.size,0,none⟩) 0 0) 0 [] rfl hown.out _ n cs rfl HS.out HL.out H1.out (by unfold maxLen;omega) (by omega) HBS.out ?_;intro v' w4 hown' hgrow h3' h4'))
  go_ret
  rw[Nat.zero_add,List.nil_append] at hown';exact⟨_,rfl,hown',(zR.alloc zL _).grown hgrow (by simp) (fun q hq'=>by have e:w.heap.size=q:=(by simpa [Value.ownBlock] using hq');omega)⟩
theorem pR (h:Row N w v n 2 cs) (h1:∀u∈cs,u.oneCell'=true) (hn:n≤1048576):
  Calls Tryz.prog 71 #[v] w (Clo 43 n cs w):=by
 obtain⟨o,c,rfl⟩:=h.slice;have hsrc:=jV (h.kept ((Kept.refl (fun _=>False) w).alloc (.cells #[] 43)) (fun _ _ _=>id));have hl:=h.len;obtain⟨i0,hi,hz0,hz1,hz2⟩:=info_parts rJ;have HS:=zh hsrc;have HL:=zh hl;have HH:=zh h;have H1:=zh h1;have hown:=zh (rM w 43 2);have hq:=fun w=>Lib.run_eql_slice_nil (P:=Tryz.prog) w 38 43 o n c 0 0 Tryz.underlying38
 have hbs:w.heap.size≤(w.alloc (.cells #[] 43)).heap.size:=by simp
 have HBS:=zh hbs;clear hsrc hl h h1 hbs;cases o with
 |none=>
  go_enter Tryz.func71,Tryz.ntmps71
  go_wp2
  go_ret
  have hn0:n=0:=by
   rcases HH.out.at_ with⟨h0,_⟩|⟨b,off,cap,he,_⟩
   ·exact h0
   ·cases he
  refine⟨_,rfl,⟨HL.out,.inl ⟨rfl,hn0⟩⟩,zR⟩
 |some a=>
  go_enter Tryz.func71,Tryz.ntmps71
  go_wp2_with (first|(at_builtin;refine aA rfl _ _ 38 rfl Tryz.underlying38 hi hz0 hz1 hz2 rfl (.slice (some ⟨w.heap.size,0,none⟩) 0 0) 0 [] rfl hown.out _ n cs rfl HS.out HL.out H1.out (by unfold maxLen;omega) (by omega) HBS.out ?_;intro v' w4 hown' hgrow h3' h4'))
  go_ret
  rw[Nat.zero_add,List.nil_append] at hown';exact⟨_,rfl,hown',(zR.alloc zL _).grown hgrow (by simp) (fun q hq'=>by have e:w.heap.size=q:=(by simpa [Value.ownBlock] using hq');omega)⟩
variable {t:Nd} {T:TypeId} {a0 a1 a2 a3 a4 a5:Value} {W:World}
theorem iP (h:ai N w t cs):∃(k lo hi:Int) (lz:Bool) (o1 o2:Option Addr) (n1 c1 n2 c2:Nat),cs=[.int .u8 k,.slice o1 n1 c1,.int .i64 lo,.int .i64 hi,.bool lz,.slice o2 n2 c2]:=by
 cases t;rw[ai] at h;obtain⟨sv,uv,ucs,rfl,_,_,_,h5,h6,_⟩:=h;obtain⟨o,c,rfl⟩:=h5.row.slice;obtain⟨o',c',rfl⟩:=h6.slice;exact⟨_,_,_,_,_,_,_,_,_,_,rfl⟩
theorem gm (h:Blk W b #[a0,a1,a2,a3,a4,a5] T) (c0 c1 c2 c3 c4 c5:Value):
  Blk ((((((W.setCell ⟨b,0,none⟩ c0).setCell ⟨b,1,none⟩ c1).setCell ⟨b,2,none⟩ c2).setCell ⟨b,3,none⟩ c3).setCell ⟨b,4,none⟩ c4).setCell ⟨b,5,none⟩ c5) b #[c0,c1,c2,c3,c4,c5] T:=
 (((((h.set 0 c0).set 1 c1).set 2 c2).set 3 c3).set 4 c4).set 5 c5
theorem kX (c0 c1 c2 c3 c4 c5:Value):Kept (fun q=>q=b) W ((((((W.setCell ⟨b,0,none⟩ c0).setCell ⟨b,1,none⟩ c1).setCell ⟨b,2,none⟩ c2).setCell ⟨b,3,none⟩ c3).setCell ⟨b,4,none⟩ c4).setCell ⟨b,5,none⟩ c5):=
 ((((((Kept.refl (fun q=>q=b) W).setCell (p:=⟨b,0,none⟩) (fun _=>rfl) c0).setCell (p:=⟨b,1,none⟩) (fun _=>rfl) c1).setCell (p:=⟨b,2,none⟩) (fun _=>rfl) c2).setCell (p:=⟨b,3,none⟩) (fun _=>rfl) c3).setCell (p:=⟨b,4,none⟩) (fun _=>rfl) c4).setCell (p:=⟨b,5,none⟩) (fun _=>rfl) c5
theorem Ls:ai N w (.mk 1 [] 0 0 false []) [.int .u8 1,.slice none 0 0,.int .i64 0,.int .i64 0,.bool false,.slice none 0 0]:=by
 rw[ai];exact⟨_,_,[],rfl,⟨by omega,by omega,by simp⟩,⟨by decide,by decide⟩,⟨by decide,by decide⟩,⟨⟨rfl,.inl ⟨rfl,_,_,rfl⟩⟩,by simp,by simp⟩,⟨rfl,.inl ⟨rfl,_,_,rfl⟩⟩,by rw[au]⟩
theorem Lt {l:List Nd} (hr:Row N W v l.length 6 cs) (h:au N W l cs) (hk:0≤k∧k≤255) (hl:l.length≤1048576):
  ai N W (.mk k [] 0 0 false l) [.int .u8 k,.slice none 0 0,.int .i64 0,.int .i64 0,.bool false,v]:=by
 rw[ai];exact⟨_,_,cs,rfl,⟨hk.1,hk.2,hl⟩,⟨by decide,by decide⟩,⟨by decide,by decide⟩,⟨⟨rfl,.inl ⟨rfl,_,_,rfl⟩⟩,by simp,by simp⟩,hr,h⟩
def Trd (N:Nat→Prop) (t:Nd) (w:World) (e:Ending) (w':World):Prop:=∃cs,e= .returned (.agg cs.toArray)∧ai N w' t cs∧Below w.heap.size w w'
theorem pU {l:List Nd} (hr:Row N w v l.length 6 cs) (hn:au N w l cs) (hk:0≤k∧k≤255) (hl:l.length≤1048576):
  Calls Tryz.prog 83 #[.int .u8 k,v] w (Trd N (dV k l) w):=by
 obtain⟨o,c,rfl⟩:=hr.slice;have HR:=zh hr;have HN:=zh hn;have hB:Blk (w.alloc (.cells #[.int .u8 0,.slice none 0 0,.int .i64 0,.int .i64 0,.bool false,.slice none 0 0] 70)) w.heap.size #[.int .u8 0,.slice none 0 0,.int .i64 0,.int .i64 0,.bool false,.slice none 0 0] 70:=Blk.new _ _ _;have HB:=zh hB;have fin:∀(c0 c1 c2 c3 c4 c5:Value),ai N w (dV k l) [c0,c1,c2,c3,c4,c5]→Trd N (dV k l) w (.returned (.agg #[c0,c1,c2,c3,c4,c5])) (w.alloc (.cells #[c0,c1,c2,c3,c4,c5] 70)):=fun c0 c1 c2 c3 c4 c5 h=>
  ⟨_,rfl,ai.go ((Kept.refl (fun _=>False) w).alloc _) (fun q _ hq=>⟨id,hq⟩) h,zR.alloc zL _⟩
 have bW:=zh fin;clear fin hB hr hn;rcases l with _|⟨t,_|⟨t2,r⟩⟩
 ·simp only[List.length_nil];go_enter Tryz.func83,Tryz.ntmps83
  go_wp2_with fail
  exact bodyPost_ret (v:= .agg #[.int .u8 1,.slice none 0 0,.int .i64 0,.int .i64 0,.bool false,.slice none 0 0]) (by simp[results,Tryz.results83,go_sem]) rfl (bW.out _ _ _ _ _ _ Ls)
 ·obtain⟨b,off,cap,hve,hc1,-,-,hbz,hcell⟩:=HR.out.parts HN.out (by simp);obtain⟨sv,uv,hnt,t0,t1,t2,t3,t4,t5⟩:=hcell 0 (by simp);obtain⟨k',lo,hi,lz,o1,o2,n1,c1,n2,c2,he⟩:=iP hnt;simp only[List.cons.injEq,Value.int.injEq,Value.bool.injEq,true_and,and_true,List.getElem_cons_zero] at he;obtain⟨rfl,rfl,rfl,rfl,rfl,rfl⟩:=he;simp only[List.length_cons,List.length_nil,Value.slice.injEq] at hve;obtain⟨rfl,-,rfl⟩:=hve;simp only[List.getElem_cons_zero,Nat.zero_mul,Nat.add_zero] at t0 t1 t2 t3 t4 t5 hnt;have hcI:(1:Int)≤c:=by simp at hc1;omega
  have HNT:=zh hnt;clear hcell hnt;simp only[List.length_cons,List.length_nil];go_enter Tryz.func83,Tryz.ntmps83
  go_wp2_with fail
  exact bodyPost_ret (v:= .agg #[.int .u8 t.kind,.slice o1 n1 c1,.int .i64 t.lo,.int .i64 t.hi,.bool t.lazy,.slice o2 n2 c2]) (by simp[results,Tryz.results83,go_sem]) rfl (bW.out _ _ _ _ _ _ HNT.out)
 ·have hnd:=Lt (k:=k) HR.out HN.out hk hl;have HND:=zh hnd;have hlI:(2:Int)≤((t::t2::r).length:Nat):=by simp;omega
  clear hnd HR HN;generalize (t::t2::r).length=ll at HND hlI hl ⊢;have l0:((ll:Int) == 0)=false:=by simp;omega
  have l1:((ll:Int) == 1)=false:=by simp;omega
  have hlm:(ll:Int)≤1048576:=(by omega);go_enter Tryz.func83,Tryz.ntmps83
  go_wp2_with fail
  exact bodyPost_ret (v:= .agg #[.int .u8 k,.slice none 0 0,.int .i64 0,.int .i64 0,.bool false,.slice o ll c]) (by simp[results,Tryz.results83,go_sem]) rfl (bW.out _ _ _ _ _ _ HND.out)
def u8Cs (l:List Nat):List Value:=l.map fun x:Nat=> .int .u8 x
structure U8At (N:Nat→Prop) (w:World) (v:Value) (L:List Nat):Prop where
 row:Row N w v L.length 1 (u8Cs L)
 ok:∀x∈L,x<256
variable {M X:Nat→Prop} {w':World}
def bP (s:Int×Int):List Value:=[.int .i64 s.1,.int .i64 s.2]
theorem mX (l:List (Int×Int)):∀u∈l.flatMap bP,u.oneCell'=true:=by
 intro u hu;obtain⟨a,-,ha⟩:=List.mem_flatMap.1 hu;simp only[bP,List.mem_cons,List.not_mem_nil,or_false] at ha;rcases ha with rfl|rfl<;>rfl
structure aC (N:Nat→Prop) (w:World) (v:Value) (l:List (Int×Int)):Prop where
 row:Row N w v l.length 2 (l.flatMap bP)
 ok:∀s∈l,I64 s.1∧I64 s.2
 small:l.length≤64
theorem aC.mono {l:List (Int×Int)} (h:aC N w v l) (hm:∀b,N b→M b):aC M w v l:=⟨h.row.mono hm,h.ok,h.small⟩
def bu (w:World):Prop:=2<w.heap.size∧w.cell? ⟨2,0,none⟩=some (.int .i64 (-1))∧w.cell? ⟨2,1,none⟩=some (.int .i64 (-1))
theorem bu.kept (h:bu w) (k:Kept X w w') (hx:¬X 2):bu w':=
 ⟨k.lt h.1,(zW (k.block _ h.1 hx)).trans h.2.1,(zW (k.block _ h.1 hx)).trans h.2.2⟩
theorem bu.below (h:bu w) (hb:Below w.heap.size w w'):bu w':=h.kept (zK hb) id
def thenS (a b:List (Int×Int)):List (Int×Int):=List.zipWith (fun p q=>if q.1= -1∧q.2= -1 then p else q) a b
def jg (a b:List (Int×Int)) (k:Nat):List (Int×Int):=thenS (a.take k) (b.take k)++b.drop k
theorem CG (a b:List (Int×Int)):jg a b 0=b:=by simp[jg,thenS]
theorem FC {a b:List (Int×Int)} (h:a.length=b.length):jg a b b.length=thenS a b:=by
 unfold jg;rw[List.take_of_length_le (by omega),List.take_of_length_le (by omega),List.drop_eq_nil_of_le (by omega),List.append_nil]
theorem jk {a b:List (Int×Int)} (h:a.length=b.length) (k:Nat) (hk:k≤b.length):(jg a b k).length=b.length:=by
 unfold jg thenS;rw[List.length_append,List.length_zipWith,List.length_take,List.length_take,List.length_drop];omega
theorem xP {a b:List (Int×Int)} (h:a.length=b.length) {k:Nat} (hk:k<b.length):(jg a b k)[k]? =some b[k]:=by
 have hl:(thenS (a.take k) (b.take k)).length=k:=by
  unfold thenS;rw[List.length_zipWith,List.length_take,List.length_take];omega
 unfold jg;rw[List.getElem?_append_right (by omega),hl,Nat.sub_self,List.getElem?_drop,Nat.add_zero,List.getElem?_eq_getElem hk]
theorem CJ {a b:List (Int×Int)} (h:a.length=b.length) {k:Nat} (hk:k<b.length):
  jg a b (k+1)=(jg a b k).set k (if b[k].1= -1∧b[k].2= -1 then a[k]'(by omega) else b[k]):=by
 have hl:(thenS (a.take k) (b.take k)).length=k:=by
  unfold thenS;rw[List.length_zipWith,List.length_take,List.length_take];omega
 have e1:thenS (a.take (k+1)) (b.take (k+1))=thenS (a.take k) (b.take k)++[if b[k].1= -1∧b[k].2= -1 then a[k]'(by omega) else b[k]]:=by
  unfold thenS;rw[List.take_succ_eq_append_getElem (by omega),List.take_succ_eq_append_getElem hk,List.zipWith_append (by rw[List.length_take,List.length_take];omega)]
  rfl
 unfold jg;rw[e1,List.set_append_right _ _ (by omega),hl,Nat.sub_self,List.append_assoc];congr 1;rw[List.drop_eq_getElem_cons hk]
 rfl
theorem nY:∀(l:List (Int×Int)) (k:Nat) (c:Int×Int),k<l.length→((l.flatMap bP).set (k*2) (.int .i64 c.1)).set (k*2+1) (.int .i64 c.2)=(l.set k c).flatMap bP
 |[],k,c,hk=>by simp at hk
 |x::r,0,c,_=>by simp[bP]
 |x::r,k+1,c,hk=>by
  have ih:=nY r k c (by simpa using hk);have e3:(k+1)*2+1=k*2+1+1+1:=(by omega);have e4:(k+1)*2=k*2+1+1:=(by omega);rw[List.flatMap_cons,List.set_cons_succ,List.flatMap_cons,←ih,e3,e4];simp[bP]
variable {ics scs:List Value} {c3 c4 c5 iv sv:Value}
theorem CO:(Tryz.prog.info? 70).map (fun i=>(i.zero,i.size,i.bytes))=some (some (.agg #[.int .u8 0,.slice none 0 0,.int .i64 0,.int .i64 0,.bool false,.slice none 0 0]),6,80):=by kernel_rfl
theorem Lu {c0 c1 c2:Value} (hb:b=W.heap.size):dI (W.alloc (.cells #[c0,c1,c2,c3,c4,c5] T)) (.slice (some ⟨b,0,none⟩) 1 1) 1 [c0,c1,c2,c3,c4,c5]:=by
 subst hb;have hB:=Blk.new W #[c0,c1,c2,c3,c4,c5] T;refine .inr ⟨_,_,rfl,fun j u hu=> ?_⟩
 match j with
 |0=>simp at hu;subst hu;simp[Addr.add,hB.cell]
 |1=>simp at hu;subst hu;simp[Addr.add,hB.cell]
 |2=>simp at hu;subst hu;simp[Addr.add,hB.cell]
 |3=>simp at hu;subst hu;simp[Addr.add,hB.cell]
 |4=>simp at hu;subst hu;simp[Addr.add,hB.cell]
 |5=>simp at hu;subst hu;simp[Addr.add,hB.cell]
 |j+6=>simp at hu
theorem Ik:∀{l:List Nd} {cs:List Value},au N w l cs→∀u∈cs,u.oneCell'=true
 |[],cs,h,u,hu=>by rw[au] at h;subst h;simp at hu
 |s::r,cs,h,u,hu=>by
  rw[au] at h;obtain⟨a,b,rfl,h2,h3⟩:=h;rcases List.mem_append.1 hu with hu|hu
  ·obtain⟨k,lo,hi,lz,o1,o2,n1,c1,n2,c2,rfl⟩:=iP h2;simp only[List.mem_cons,List.not_mem_nil,or_false] at hu;rcases hu with rfl|rfl|rfl|rfl|rfl|rfl<;>rfl
  ·exact Ik h3 u hu
def six (k lo hi:Int) (lz:Bool) (o1 o2:Option Addr) (n1 c1 n2 c2:Nat):List Value:=[.int .u8 k,.slice o1 n1 c1,.int .i64 lo,.int .i64 hi,.bool lz,.slice o2 n2 c2]
def whW (N:Nat→Prop) (W:World) (n:Nat) (scs:List Value) (l:List Nd) (t3 t4:Nd):List Value→World→Prop
 |[]=>fun w'=>w'=W.drew
 |[v0]=>fun w'=>v0= .slice (some ⟨W.heap.size,0,none⟩) 0 0∧w'=W.drew.alloc (.cells #[] 70)
 |[_,v3]=>fun w'=>∃o c,v3= .slice o n c∧w'.ownsRow W.heap.size 70 6 (.slice o n c) n scs∧Below W.heap.size W w'
 |[_,v3,v6]=>fun w'=>∃(k lo hi:Int) (lz:Bool) (o1 o2:Option Addr) (n1 c1 n2 c2:Nat),v6= .agg (six k lo hi lz o1 o2 n1 c1 n2 c2).toArray∧ai (fun q=>N q∧q<W.heap.size) w' t3 (six k lo hi lz o1 o2 n1 c1 n2 c2)∧w'.ownsRow W.heap.size 70 6 v3 n scs∧Below W.heap.size W w'
 |[_,v3,v6,v7]=>fun w'=>∃(k lo hi:Int) (lz:Bool) (o1 o2:Option Addr) (n1 c1 n2 c2 q:Nat),v6= .agg (six k lo hi lz o1 o2 n1 c1 n2 c2).toArray∧v7= .slice (some ⟨q,0,none⟩) 1 1∧dI w' (.slice (some ⟨q,0,none⟩) 1 1) 1 (six k lo hi lz o1 o2 n1 c1 n2 c2)∧ai (fun q=>N q∧q<W.heap.size) w' t3 (six k lo hi lz o1 o2 n1 c1 n2 c2)∧w'.ownsRow W.heap.size 70 6 v3 n scs∧Below W.heap.size W w'
 |[_,_,_,_,v8]=>fun w'=>∃(o:Option Addr) (c:Nat) (cs:List Value),v8= .slice o (n+1) c∧w'.ownsRow W.heap.size 70 6 (.slice o (n+1) c) (n+1) cs∧au (fun q=>N q∧q<W.heap.size) w' l cs∧Below W.heap.size W w'
 |[_,_,_,_,_,v9]=>fun w'=>∃(k lo hi:Int) (lz:Bool) (o1 o2:Option Addr) (n1 c1 n2 c2:Nat),v9= .agg (six k lo hi lz o1 o2 n1 c1 n2 c2).toArray∧ai (fun q=>(N q∧q<W.heap.size)∨W.heap.size≤q) w' t4 (six k lo hi lz o1 o2 n1 c1 n2 c2)∧Below W.heap.size W w'
 |[_,_,_,_,_,v9,_]=>fun w'=>∃(w2:World) (k lo hi:Int) (lz:Bool) (o1 o2:Option Addr) (n1 c1 n2 c2:Nat),v9= .agg (six k lo hi lz o1 o2 n1 c1 n2 c2).toArray∧ai (fun q=>(N q∧q<W.heap.size)∨W.heap.size≤q) w2 t4 (six k lo hi lz o1 o2 n1 c1 n2 c2)∧Below W.heap.size W w2∧
   w'=(((((w2.setCell ⟨W.heap.size-1,0,none⟩ (.int .u8 k)).setCell ⟨W.heap.size-1,1,none⟩ (.slice o1 n1 c1)).setCell ⟨W.heap.size-1,2,none⟩ (.int .i64 lo)).setCell ⟨W.heap.size-1,3,none⟩ (.int .i64 hi)).setCell ⟨W.heap.size-1,4,none⟩ (.bool lz)).setCell ⟨W.heap.size-1,5,none⟩ (.slice o2 n2 c2)
 |_=>fun _=>False
theorem pV {o:Wy.Op} (hs:Row N w sv o.dE.length 6 scs) (hsn:au N w o.dE scs) (hi:Row N w iv o.items.length 6 ics) (hin:au N w o.items ics) (hl1:o.dE.length≤1000000) (hl2:o.items.length≤1000000):
  Calls Tryz.prog 84 #[.agg #[sv,iv,.bool o.group]] w (Trd (fun q=>N q∨w.heap.size≤q) (gu o) w):=by
 obtain⟨so,sc,rfl⟩:=hs.slice;obtain⟨io,ic,rfl⟩:=hi.slice;have HS:=zh hs;have HSN:=zh hsn;have HI:=zh hi;have HIN:=zh hin;clear hs hsn hi hin;obtain⟨i0,hi0,hz0,hz1,hz2⟩:=info_parts CO;go_enter Tryz.func84,Tryz.ntmps84
 go_upto_region 1 with fail
 have hBo:Blk ((w.alloc (.cells #[.slice so o.dE.length sc,.slice io o.items.length ic,.bool o.group] 155)).alloc (.cells #[.int .u8 0,.slice none 0 0,.int .i64 0,.int .i64 0,.bool false,.slice none 0 0] 70)) w.heap.size #[.slice so o.dE.length sc,.slice io o.items.length ic,.bool o.group] 155:=(Blk.new _ _ _).alloc _;have hBr:Blk ((w.alloc (.cells #[.slice so o.dE.length sc,.slice io o.items.length ic,.bool o.group] 155)).alloc (.cells #[.int .u8 0,.slice none 0 0,.int .i64 0,.int .i64 0,.bool false,.slice none 0 0] 70)) (w.heap.size+1) #[.int .u8 0,.slice none 0 0,.int .i64 0,.int .i64 0,.bool false,.slice none 0 0] 70:=Blk.new' _ _ (by simp);have hbW:Below w.heap.size w ((w.alloc (.cells #[.slice so o.dE.length sc,.slice io o.items.length ic,.bool o.group] 155)).alloc (.cells #[.int .u8 0,.slice none 0 0,.int .i64 0,.int .i64 0,.bool false,.slice none 0 0] 70)):=(zR.alloc zL _).alloc (by simp) _;have hzW:((w.alloc (.cells #[.slice so o.dE.length sc,.slice io o.items.length ic,.bool o.group] 155)).alloc (.cells #[.int .u8 0,.slice none 0 0,.int .i64 0,.int .i64 0,.bool false,.slice none 0 0] 70)).heap.size=w.heap.size+2:=by simp
 generalize ((w.alloc (.cells #[.slice so o.dE.length sc,.slice io o.items.length ic,.bool o.group] 155)).alloc (.cells #[.int .u8 0,.slice none 0 0,.int .i64 0,.int .i64 0,.bool false,.slice none 0 0] 70))=W at hBo hBr hbW hzW ⊢;have HBO:=zh hBo;have HBR:=zh hBr;have HBW:=zh hbW;have HZW:=zh hzW;have QW:∀w',Below W.heap.size W w'→Row (fun q=>(N q∧q<w.heap.size)∧q<W.heap.size) w' (.slice so o.dE.length sc) o.dE.length 6 scs∧au (fun q=>(N q∧q<w.heap.size)∧q<W.heap.size) w' o.dE scs:=fun w' hb=>
  have k:=Kept.of_below (HBW.out.trans (hb.mono HBW.out.size)) (fun _=>False)
  ⟨gp HS.out k (fun q hq hn=>⟨id,⟨hn,hq⟩,by have:=HBW.out.size;omega⟩),au.go k (fun q hq hn=>⟨id,⟨hn,hq⟩,by have:=HBW.out.size;omega⟩) HSN.out⟩
 have QX:∀w',Below W.heap.size W w'→Row (fun q=>(N q∧q<w.heap.size)∧q<W.heap.size) w' (.slice io o.items.length ic) o.items.length 6 ics∧au (fun q=>(N q∧q<w.heap.size)∧q<W.heap.size) w' o.items ics:=fun w' hb=>
  have k:=Kept.of_below (HBW.out.trans (hb.mono HBW.out.size)) (fun _=>False)
  ⟨gp HI.out k (fun q hq hn=>⟨id,⟨hn,hq⟩,by have:=HBW.out.size;omega⟩),au.go k (fun q hq hn=>⟨id,⟨hn,hq⟩,by have:=HBW.out.size;omega⟩) HIN.out⟩
 have ROWS:=zh QW;have ROWI:=zh QX;have bd:Below W.heap.size W W.drew:=zR.drew;have BD:=zh bd;clear hBo hBr hbW hzW QW QX bd;apply aJ ?hm ?hok [1,2,4,5,0,3,6,7,8,9,10] [0,3,6,7,8,9,10] [] ?hord (fun w'=>Below W.heap.size W w') (whW (fun q=>N q∧q<w.heap.size) W o.dE.length scs (o.dE++[dV 3 o.items]) (dV 3 o.items) (gu o))
 case hm=>rfl
 case hok=>kernel_rfl
 case hord=>kernel_rfl
 case hb=>
  intro L w' h hl
  match L with
  |[]=>obtain rfl:w'=W.drew:=h;exact BD.out
  |[_]=>obtain⟨-,rfl⟩:_∧w'=_:=h;exact BD.out.alloc zL _
  |[_,_]=>obtain⟨_,_,_,_,h⟩:=h;exact h
  |[_,_,_]=>obtain⟨_,_,_,_,_,_,_,_,_,_,_,_,_,h⟩:=h;exact h
  |[_,_,_,_]=>obtain⟨_,_,_,_,_,_,_,_,_,_,_,_,_,_,_,_,h⟩:=h;exact h
  |[_,_,_,_,_]=>obtain⟨_,_,_,_,_,_,h⟩:=h;exact h
  |[_,_,_,_,_,_]=>obtain⟨_,_,_,_,_,_,_,_,_,_,_,_,h⟩:=h;exact h
  |_::_::_::_::_::_::_::_=>
   exfalso;rw[show(List.filter (fun j=>[0,3,6,7,8,9,10].contains j) [1,2,4,5,0,3,6,7,8,9,10]).length=7 by decide] at hl;simp only[List.length_cons] at hl;omega
 case hw=>rfl
 case h=>
  iterate 4
   apply ae _ rfl rfl rfl rfl
   case h=>
    intro W1 hW K hK
    (have B:=HBO.out.below hW HBO.out.lt;have b0:=B.cell 0;have b1:=B.cell 1;have bz:=B.lt;clear B hW)
    go_wp2_with fail
    exact hK
   simp only[zP,zQ,zB,zC]
  apply ax rfl rfl rfl
  case h=>
   intro W1 hW K hK;obtain rfl:W1=W.drew:=hW
   go_wp2_with fail
   exact⟨rfl,rfl⟩
  intro v0 hv0;obtain⟨_,rfl,-⟩:=hv0;simp only[zP,zQ,zB,zC];apply ax rfl rfl rfl
  case h=>
   intro W1 hW K hK;obtain⟨-,rfl⟩:=hW;have hb1:Below W.heap.size W (W.drew.alloc (.cells #[] 70)):=BD.out.alloc zL _;have hrs:=ROWS.out _ hb1;refine aY _ _ 68 rfl Tryz.underlying68 hi0 hz0 hz1 hz2 rfl (.slice (some ⟨W.heap.size,0,none⟩) 0 0) 0 [] rfl (rM W.drew 70 6) _ o.dE.length scs rfl (jV hrs.1) hrs.1.len (Ik hrs.2) (by unfold maxLen;omega) (by omega) (by simp) ?_;intro v' w' h1 h2 h3 h4;rw[Nat.zero_add,List.nil_append] at h1;obtain⟨ov,cv,rfl⟩:=eX h1;exact hK _ _ ⟨ov,cv,rfl,h1,hb1.grown h2 (by simp) (fun q hq'=>by have e:W.heap.size=q:=(by simpa [Value.ownBlock] using hq');omega)⟩
  intro v3 hv3;obtain⟨_,ov3,cv3,rfl,-⟩:=hv3;simp only[zP,zQ,zB,zC];apply ax rfl rfl rfl
  case h=>
   intro W1 hW K hK;obtain⟨o',c',he,hr,hb⟩:=hW;simp only[Value.slice.injEq,true_and] at he;obtain⟨rfl,rfl⟩:=he;have hri:=ROWI.out _ hb;have hcall:=pU (k:=3) hri.1 hri.2 (by omega) (by omega);have HC:=zh hcall;have HR:=zh hr;have HB:=zh hb;clear hcall hri hr hb
   go_wp2_with (go_at_call 83;(refine HC.out.mono ?_;rintro e w' ⟨cs,rfl,hn,hb'⟩))
   obtain⟨k,lo,hi,lz,o1,o2,n1,c1,n2,c2,rfl⟩:=iP hn;exact⟨k,lo,hi,lz,o1,o2,n1,c1,n2,c2,rfl,hn,fC HR.out (Kept.of_below hb' (fun _=>False)) (fun _ _=>id),HB.out.trans (hb'.mono HB.out.size)⟩
  intro v6 hv6;obtain⟨_,k6,lo6,hi6,lz6,o61,o62,n61,c61,n62,c62,rfl,-⟩:=hv6;simp only[six];simp only[zP,zQ,zB,zC];apply ax rfl rfl rfl
  case h=>
   intro W1 hW K hK;obtain⟨k,lo,hi,lz,o1,o2,n1,c1,n2,c2,he,hn,hr,hb⟩:=hW;have HE:=zh he;have HN:=zh hn;have HR:=zh hr;have HB:=zh hb;clear he hn hr hb
   go_wp2_with fail
   have he:=HE.out;simp only[six,Value.agg.injEq,List.toArray_eq_toArray_eq,List.toArray_inj,List.cons.injEq,Value.int.injEq,Value.slice.injEq,Value.bool.injEq,true_and,and_true] at he;obtain⟨rfl,⟨rfl,rfl,rfl⟩,rfl,rfl,rfl,rfl,rfl,rfl⟩:=he;have k1:Kept (fun _=>False) W1 (W1.alloc (.cells #[.int .u8 k6,.slice o61 n61 c61,.int .i64 lo6,.int .i64 hi6,.bool lz6,.slice o62 n62 c62] 70)):=(Kept.refl _ _).alloc _;exact⟨k6,lo6,hi6,lz6,o61,o62,n61,c61,n62,c62,W1.heap.size,rfl,rfl,Lu rfl,ai.go k1 (fun q _ hq=>⟨id,hq⟩) HN.out,fC HR.out k1 (fun _ _=>id),HB.out.alloc HB.out.size _⟩
  intro v7 hv7;obtain⟨_,_,_,_,_,_,_,_,_,_,_,q7,-,rfl,-⟩:=hv7;simp only[zP,zQ,zB,zC];apply ax rfl rfl rfl
  case h=>
   intro W1 hW K hK;obtain⟨k,lo,hi,lz,o1,o2,n1,c1,n2,c2,q,he,hq,hsr,hn,hr,hb⟩:=hW;simp only[Value.slice.injEq,Option.some.injEq,Addr.mk.injEq,true_and,and_true] at hq;subst hq;refine aY _ _ 68 rfl Tryz.underlying68 hi0 hz0 hz1 hz2 rfl (.slice ov3 o.dE.length cv3) o.dE.length scs rfl hr _ 1 _ rfl hsr rfl (by simp[six,Value.oneCell']) (by unfold maxLen;omega) (by omega) hb.size ?_;intro v' w' h1 h2 h3 h4;obtain⟨ov,cv,rfl⟩:=eX h1;have kg:Kept (fun p=>(Value.slice ov3 o.dE.length cv3).ownBlock=some p) W1 w':=eU h2;have hlt:=hr.lt;have hb':Below W.heap.size W w':=((Kept.of_below hb (fun p=>(Value.slice ov3 o.dE.length cv3).ownBlock=some p)).trans kg).below (fun p hp e=>by have:=(hlt p e).1;omega);refine hK _ _ ⟨ov,cv,_,rfl,h1,?_,hb'⟩;refine au.append (ROWS.out _ hb').2 (au.one (ai.go kg (fun p _ hp=>⟨fun e=>by have:=(hlt p e).1;omega,hp⟩) hn))
  intro v8 hv8;obtain⟨_,ov8,cv8,cs8,rfl,-⟩:=hv8;simp only[zP,zQ,zB,zC];apply ax rfl rfl rfl
  case h=>
   intro W1 hW K hK;obtain⟨o',c',cs,he,hr,hn,hb⟩:=hW;simp only[Value.slice.injEq,true_and] at he;obtain⟨rfl,rfl⟩:=he;have hlen:(o.dE++[dV 3 o.items]).length=o.dE.length+1:=by simp
   have hrow:Row (fun q=>((N q∧q<w.heap.size)∧q<W.heap.size)∨W.heap.size≤q) W1 (.slice ov8 (o.dE.length+1) cv8) (o.dE++[dV 3 o.items]).length 6 cs:=by rw[hlen];exact pI hr (fun p hp=> .inr (hr.lt p hp).1)
   have hcall:=pU (k:=4) hrow (au.mono (fun p hp=> .inl hp) hn) (by omega) (by rw[hlen];omega);have HC:=zh hcall;have HB:=zh hb;clear hcall hrow hr hb hn
   go_wp2_with (go_at_call 83;(refine HC.out.mono ?_;rintro e w' ⟨cs,rfl,hn,hb'⟩))
   obtain⟨k,lo,hi,lz,o1,o2,n1,c1,n2,c2,rfl⟩:=iP hn;exact⟨k,lo,hi,lz,o1,o2,n1,c1,n2,c2,rfl,hn,HB.out.trans (hb'.mono HB.out.size)⟩
  intro v9 hv9;obtain⟨_,k9,lo9,hi9,lz9,o91,o92,n91,c91,n92,c92,rfl,-⟩:=hv9;simp only[six];simp only[zP,zQ,zB,zC];apply ax rfl rfl rfl
  case h=>
   intro W1 hW K hK;obtain⟨k,lo,hi,lz,o1,o2,n1,c1,n2,c2,he,hn,hb⟩:=hW;simp only[six,Value.agg.injEq,List.toArray_eq_toArray_eq,List.toArray_inj,List.cons.injEq,Value.int.injEq,Value.slice.injEq,Value.bool.injEq,true_and,and_true] at he;obtain⟨rfl,⟨rfl,rfl,rfl⟩,rfl,rfl,rfl,rfl,rfl,rfl⟩:=he;have hend:whW (fun q=>N q∧q<w.heap.size) W o.dE.length scs (o.dE++[dV 3 o.items]) (dV 3 o.items) (gu o) [undef,undef,undef,undef,undef,.agg (six k9 lo9 hi9 lz9 o91 o92 n91 c91 n92 c92).toArray,undef] ((((((W1.setCell ⟨W.heap.size-1,0,none⟩ (.int .u8 k9)).setCell ⟨W.heap.size-1,1,none⟩ (.slice o91 n91 c91)).setCell ⟨W.heap.size-1,2,none⟩ (.int .i64 lo9)).setCell ⟨W.heap.size-1,3,none⟩ (.int .i64 hi9)).setCell ⟨W.heap.size-1,4,none⟩ (.bool lz9)).setCell ⟨W.heap.size-1,5,none⟩ (.slice o92 n92 c92)):=
    ⟨W1,k9,lo9,hi9,lz9,o91,o92,n91,c91,n92,c92,rfl,hn,hb,rfl⟩
   have B:=HBR.out.below hb HBR.out.lt;have e1:W.heap.size-1=w.heap.size+1:=by have:=HZW.out;omega
   rw[e1] at hend;obtain⟨r0,r1,r2,r3,r4,r5,rz⟩:=zS B;have rf:∀i,W1.frozen? ⟨w.heap.size+1,i,none⟩=false:=B.frozen;have dL:=zh hend;clear hend B hn hb e1
   go_wp2_with fail
   exact hK undef _ dL.out
  intro v10 AV;simp only[zP,zQ,zB,zC];refine aG fun W11 h11=> ?_
  obtain⟨w2,k,lo,hi,lz,o1,o2,n1,c1,n2,c2,he,hn,hb,rfl⟩:=h11;have e1:W.heap.size-1=w.heap.size+1:=by have:=HZW.out;omega
  rw[e1];have hR:=gm (HBR.out.below hb HBR.out.lt) (.int .u8 k) (.slice o1 n1 c1) (.int .i64 lo) (.int .i64 hi) (.bool lz) (.slice o2 n2 c2);have hK6:=kX (W:=w2) (b:=w.heap.size+1) (.int .u8 k) (.slice o1 n1 c1) (.int .i64 lo) (.int .i64 hi) (.bool lz) (.slice o2 n2 c2);have hfin:Trd (fun q=>N q∨w.heap.size≤q) (gu o) w (.returned (.agg #[.int .u8 k,.slice o1 n1 c1,.int .i64 lo,.int .i64 hi,.bool lz,.slice o2 n2 c2])) _:=⟨_,rfl,ai.go hK6 (fun q _ hq=>⟨fun e=>by have:=HZW.out;omega,by have:=HZW.out;rcases hq with hq|hq;exact .inl hq.1.1;exact .inr (by omega)⟩) hn,((Kept.of_below (HBW.out.trans (hb.mono HBW.out.size)) (fun q=>q=w.heap.size+1)).trans hK6).below (fun q hq e=>by omega)⟩
  ·have HR:=zh hR;have bW:=zh hfin;clear hR hK6 hfin hn hb he
   go_wp2_with fail
   have hR:=HR.out;exact bodyPost_ret (v:= .agg #[.int .u8 k,.slice o1 n1 c1,.int .i64 lo,.int .i64 hi,.bool lz,.slice o2 n2 c2]) (by simp[results,Tryz.results84,go_sem,hR.cell]) rfl bW.out
variable {c:Nat}
theorem vw (c:Nat) (h:c<55296) (w:World):Calls Tryz.prog 97 #[.int .i64 c] w fun e w'=>e= .returned (.bool true)∧w=w':=by
 have h0:(c:Int)<55296:=(by omega);have h1:(c:Int)≤1114111:=(by omega);have h2:decide ((55296:Int)≤c)=false:=by simp;omega
 go_enter Tryz.func97,Tryz.ntmps97
 go_wp2
 go_ret
 exact⟨rfl,rfl⟩
def bn (s:ByteArray) (i:Nat):ByteArray:=s.extract i s.size
theorem dJ (s:ByteArray) (i:Nat) (h:i≤s.size):(bn s i).size=s.size-i:=by
 unfold bn;simp
theorem CP (c:Nat) (h:c∉qE):∀(j:Nat) (hj:j<14),(((⟨#[92,46,91,93,40,41,123,125,42,43,63,124,94,36]⟩:ByteArray)[j]'hj).toNat)≠c:=by
 intro j hj e;apply h;subst e
 revert j
 decide
theorem Il (c:Nat) (hc:c<2000000) (hm:c∉qE) (w:World):Calls Tryz.prog 104 #[.int .i64 c] w fun e w'=>e= .returned (.bool false)∧w=w':=by
 have hno:=CP c hm;go_enter Tryz.func104,Tryz.ntmps104
 go_wp2_with fail
 go_loopw [4] (fun s4 wx=>∃j:Nat,j≤14∧s4= .int .i64 j∧wx=w) (fun s4 _=>14-(intOf s4).toNat)
 case atStart=>exact⟨0,by omega,rfl,rfl⟩
 case round=>
  rename World=>Wa
  obtain⟨j,hj,rfl,rfl⟩:=hrel;by_cases hjl:j<14
  ·have hjI:(j:Int)<14:=(by omega);have hb:((c:Int) == wrap64 (((⟨#[92,46,91,93,40,41,123,125,42,43,63,124,94,36]⟩:ByteArray)[j]'hjl).toNat:Int))=false:=by
    have h1:=hno j hjl;have h2:=UInt8.toNat_lt ((⟨#[92,46,91,93,40,41,123,125,42,43,63,124,94,36]⟩:ByteArray)[j]'hjl);have h3:wrap64 (((⟨#[92,46,91,93,40,41,123,125,42,43,63,124,94,36]⟩:ByteArray)[j]'hjl).toNat:Int)=(((⟨#[92,46,91,93,40,41,123,125,42,43,63,124,94,36]⟩:ByteArray)[j]'hjl).toNat:Int):=by unfold wrap64;omega
    rw[h3];simp;omega
   clear hno
   go_wp2_with fail
   go_roundw
   case rel=>exact⟨j+1,by omega,by go_num,trivial⟩
   case measure=>simp[intOf];omega
  ·obtain rfl:j=14:=by omega
   go_wp2_with fail
   go_ret
   exact⟨rfl,rfl⟩
theorem jW (h:128≤b):decide ((b:Int)<128)=false:=decide_eq_false (by omega)
theorem vC (h:b<192):decide ((191:Int)<b)=false:=decide_eq_false (by omega)
theorem get_at {x:ByteArray} (h:i<x.size):(x[i]'h).toNat=byteAt x i:=by
 unfold byteAt;rw[Utf8W.get!_of_lt x i h]
theorem FD {x:ByteArray} (h:gQ x 0=some (c,n)) (hz:0<x.size) (hs:x.size≤1000000) (w:World):Calls Tryz.prog 78 #[.string x] w fun e w'=>e= .returned (.tuple #[.int .i64 c,.int .i64 n])∧w=w':=by
 have hsI:(x.size:Int)≤1000000:=(by omega);have hzI:(0:Int)<x.size:=(by omega);have hz0:((x.size:Int) == 0)=false:=by rw[beq_eq_false_iff_ne];omega
 have hx0:=get_at hz;obtain⟨b,hb⟩:∃b,b=byteAt x 0:=⟨_,rfl⟩;have hb256:b<256:=by rw[hb,←hx0];exact UInt8.toNat_lt _
 unfold gQ at h;rw[←hb] at h hx0;simp only[Nat.zero_add] at h;have hwb:wrap64 (b:Int)=b:=by unfold wrap64;omega
 by_cases h1:b<128
 ·rw[if_pos h1] at h;simp only[Option.some.injEq,Prod.mk.injEq] at h;obtain⟨rfl,rfl⟩:=h;have h1I:(b:Int)<128:=(by omega);clear hb;go_enter Tryz.func78,Tryz.ntmps78
  go_wp2_with fail
  go_ret2
  exact⟨rfl,rfl⟩
 ·rw[if_neg h1] at h;by_cases h2:192≤b∧b<224∧2≤x.size∧128≤byteAt x 1∧byteAt x 1<192∧128≤64*(b-192)+(byteAt x 1-128)
  ·rw[if_pos h2] at h;simp only[Option.some.injEq,Prod.mk.injEq] at h;obtain⟨rfl,rfl⟩:=h;obtain⟨h3,h4,h5,h6,h7,h8⟩:=h2;have hx1:=get_at (i:=1) (by omega:1<x.size);obtain⟨b1,hb1⟩:∃b1,b1=byteAt x 1:=⟨_,rfl⟩;rw[←hb1] at hx1 h6 h7 h8 ⊢;have FH:wrap64 (b1:Int)=b1:=by unfold wrap64;omega
   have a1:decide ((b:Int)<128)=false:=decide_eq_false (by omega);have a2:(192:Int)≤b:=(by omega);have a3:(b:Int)<224:=(by omega);have a4:(2:Int)≤x.size:=(by omega);have a4':decide ((x.size:Int)<2)=false:=decide_eq_false (by omega);have a5:decide ((b1:Int)<128)=false:=jW h6;have a6:decide ((191:Int)<b1)=false:=vC h7;clear hb hb1;go_enter Tryz.func78,Tryz.ntmps78
   go_wp2_with fail
   go_loopw [4,7] (fun s4 s7 wx=>wx=w∧((s7= .int .i64 1∧s4= .int .i64 ((b:Int)-192))∨(s7= .int .i64 2∧s4= .int .i64 (64*((b:Int)-192)+b1-128)))) (fun _ s7 _=>2-(intOf s7).toNat)
   case atStart=>exact⟨rfl,.inl ⟨rfl,rfl⟩⟩
   case round=>
    rename World=>Wa
    obtain⟨rfl,h⟩:=hrel;rcases h with⟨rfl,rfl⟩|⟨rfl,rfl⟩
    ·go_wp2_with fail
     go_roundw
     case rel=>exact⟨trivial,.inr ⟨rfl,by congr 1⟩⟩
     case measure=>simp[intOf]
    ·have hv:(64*((b:Int)-192)+b1-128)=((64*(b-192)+(b1-128):Nat):Int):=(by omega);have hp:=vw (64*(b-192)+(b1-128)) (by omega);obtain⟨vv,hvv⟩:∃vv,vv=64*(b-192)+(b1-128):=⟨_,rfl⟩;rw[hv,←hvv];rw[←hvv] at hp h8;have a7:decide ((vv:Int)<128)=false:=jW h8;have HP:=zh hp;have HVV:=zh hvv;clear hp hv hvv
     go_wp2_with (go_at_call 97;(refine(HP.out _).mono ?_;rintro e w' ⟨rfl,rfl⟩))
     go_ret2
     exact⟨by rw[HVV.out];rfl,rfl⟩
  ·rw[if_neg h2] at h;cases h
variable {s:ByteArray}
def Sto (c n:Nat) (w:World) (e:Ending) (w':World):Prop:=∃q,e= .returned (.tuple #[.slice (some ⟨q,0,none⟩) 1 1,.int .i64 n])∧Blk w' q #[.int .i64 c,.int .i64 c] 123∧w.heap.size≤q∧Below w.heap.size w w'
theorem FI {l:List Rg} (h:Fj s i=some (l,n)):∃c:Nat,gQ s i=some (c,n)∧c∉qE∧l=[⟨c,c⟩]:=by
 unfold Fj at h;cases hp:gQ s i with
 |none=>rw[hp] at h;cases h
 |some p=>
  obtain⟨c,m⟩:=p;rw[hp] at h;simp only at h;split at h
  ·cases h
  ·next hm=>
   simp only[Option.some.injEq,Prod.mk.injEq] at h;obtain⟨rfl,rfl⟩:=h;exact⟨c,rfl,hm,rfl⟩
theorem vF (h:gQ s i=some (c,n)) (hm:c∉qE):byteAt s i∉qE∧c<2048∧(n=1∨(n=2∧i+2≤s.size)):=by
 unfold gQ at h;split at h
 ·simp only[Option.some.injEq,Prod.mk.injEq] at h;obtain⟨rfl,rfl⟩:=h;exact⟨hm,by omega,.inl rfl⟩
 ·split at h
  ·next hc=>
   simp only[Option.some.injEq,Prod.mk.injEq] at h;obtain⟨rfl,rfl⟩:=h;refine⟨fun hx=> ?_,by omega,.inr ⟨rfl,hc.2.2.1⟩⟩;have:∀a∈qE,a<128:=by decide
   have:=this _ hx;omega
  ·cases h
theorem iQ {k:Nat} (h:b≠k):((b:Int) == (k:Int))=false:=by rw[beq_eq_false_iff_ne];omega
theorem set_any {x:ByteArray} (h:gQ x 0=some (c,n)) (hm:c∉qE) (hz:0<x.size) (hs:x.size≤1000000) (w:World):Calls Tryz.prog 85 #[.string x] w (Sto c n w):=by
 have hsI:(x.size:Int)≤1000000:=(by omega);have hzI:(0:Int)<x.size:=(by omega);have hx0:=get_at hz;obtain⟨h1,h2,-⟩:=vF h hm;have hp:=fun w=>FD h hz hs w
 have hmt:=fun w=>Il c (by omega) hm w
 obtain⟨b,hb⟩:∃b,b=byteAt x 0:=⟨_,rfl⟩;rw[←hb] at h1 hx0;have e1:b≠46:=fun e=>h1 (by rw[e];decide)
 have e2:b≠91:=fun e=>h1 (by rw[e];decide)
 have e3:b≠92:=fun e=>h1 (by rw[e];decide)
 have a1:((b:Int) == 46)=false:=iQ e1;have a2:((b:Int) == 91)=false:=iQ e2;have a3:((b:Int) == 92)=false:=iQ e3;have HP:=zh hp;have HM:=zh hmt;clear hb h1 h hm hp hmt e1 e2 e3;go_enter Tryz.func85,Tryz.ntmps85
 go_wp2_with (first|(go_at_call 78;(refine(HP.out _).mono ?_;rintro e w1 ⟨rfl,rfl⟩))|(go_at_call 104;(refine(HM.out _).mono ?_;rintro e w2 ⟨rfl,rfl⟩)))
 go_ret2
 exact⟨_,rfl,Blk.new _ _ _,Nat.le_refl _,zR.alloc zL _⟩
theorem nZ {x:ByteArray} {k:Nat} (h:gy x 0=some (lo,hi,k)) (hs:x.size≤1000000) (w:World):Calls Tryz.prog 86 #[.string x] w fun e w'=>e= .returned (.tuple #[.int .i64 lo,.int .i64 hi,.int .i64 k])∧w=w':=by
 have hsI:(x.size:Int)≤1000000:=(by omega);unfold gy at h;by_cases hz:x.size≤0
 ·rw[if_pos hz] at h;simp only[Option.some.injEq,Prod.mk.injEq] at h;obtain⟨rfl,rfl,rfl⟩:=h;have hz0:(x.size:Int)=0:=(by omega);go_enter Tryz.func86,Tryz.ntmps86
  go_wp2_with fail
  go_ret3
  exact⟨rfl,rfl⟩
 ·rw[if_neg hz] at h;have hz':0<x.size:=(by omega);have hzI:(0:Int)<x.size:=(by omega);have hz0:((x.size:Int) == 0)=false:=by rw[beq_eq_false_iff_ne];omega
  have hx0:=get_at hz';obtain⟨b,hb⟩:∃b,b=byteAt x 0:=⟨_,rfl⟩;rw[←hb] at h hx0;clear hb;by_cases e1:b=42
  ·rw[if_pos e1] at h;simp only[Option.some.injEq,Prod.mk.injEq] at h;obtain⟨rfl,rfl,rfl⟩:=h;have a1:((b:Int) == 42)=true:=by rw[e1];rfl
   clear e1;go_enter Tryz.func86,Tryz.ntmps86
   go_wp2_with fail
   go_ret3
   exact⟨rfl,rfl⟩
  rw[if_neg e1] at h;have a1:((b:Int) == 42)=false:=iQ e1;by_cases e2:b=43
  ·rw[if_pos e2] at h;simp only[Option.some.injEq,Prod.mk.injEq] at h;obtain⟨rfl,rfl,rfl⟩:=h;have a2:((b:Int) == 43)=true:=by rw[e2];rfl
   clear e1 e2;go_enter Tryz.func86,Tryz.ntmps86
   go_wp2_with fail
   go_ret3
   exact⟨rfl,rfl⟩
  rw[if_neg e2] at h;have a2:((b:Int) == 43)=false:=iQ e2;by_cases e3:b=63
  ·rw[if_pos e3] at h;simp only[Option.some.injEq,Prod.mk.injEq] at h;obtain⟨rfl,rfl,rfl⟩:=h;have a3:((b:Int) == 63)=true:=by rw[e3];rfl
   clear e1 e2 e3;go_enter Tryz.func86,Tryz.ntmps86
   go_wp2_with fail
   go_ret3
   exact⟨rfl,rfl⟩
  rw[if_neg e3] at h;have a3:((b:Int) == 63)=false:=iQ e3;by_cases e4:b=123
  ·rw[if_pos e4] at h;cases h
  rw[if_neg e4] at h;have a4:((b:Int) == 123)=false:=iQ e4;simp only[Option.some.injEq,Prod.mk.injEq] at h;obtain⟨rfl,rfl,rfl⟩:=h;clear e1 e2 e3 e4;go_enter Tryz.func86,Tryz.ntmps86
  go_wp2_with fail
  go_ret3
  exact⟨rfl,rfl⟩
end Go.Proofs.YtnhjakdmbfadlaaGreatDoor
namespace Go.Proofs.YtnhjakdmbfadlaaGreatDoor
open Go.RowKit Wy
theorem mY (s:ByteArray) (i j:Nat) (h:i≤s.size):byteAt (bn s i) j=byteAt s (i+j):=by
 unfold byteAt bn;congr 1;show(s.extract i s.size).data[j]! =s.data[i+j]!
 rw[ByteArray.data_extract];simp only[getElem!_def,Array.getElem?_extract];have hs:s.size=s.data.size:=rfl;by_cases e:j<s.size-i
 ·rw[if_pos (by omega)]
 ·rw[if_neg (by omega),Array.getElem?_eq_none (by omega)]
theorem AX (s:ByteArray) (i:Nat) (h:i≤s.size):gQ (bn s i) 0=gQ s i:=by
 unfold gQ;rw[mY s i 0 h,mY s i (0+1) h,dJ s i h];simp only[Nat.add_zero,Nat.zero_add];have:(2≤s.size-i)↔(i+2≤s.size):=(by omega);simp only[this]
theorem jX (s:ByteArray) (i:Nat) (h:i≤s.size):gy (bn s i) 0=gy s i:=by
 unfold gy;rw[mY s i 0 h,dJ s i h,Nat.add_zero];have:(s.size-i≤0)↔(s.size≤i):=(by omega);simp only[this]
end Go.Proofs.YtnhjakdmbfadlaaGreatDoor
namespace Go.Proofs.YtnhjakdmbfadlaaGreatDoor
open Go.RowKit Wy Mem Grow
variable {cs:List Value} {B c g m:Nat} {X:Nat→Prop} {T:TypeId} {a0 a1 a2 a3 a4 a5:Value} {W W':World}
def gU:List Bool→Code→Code
 |[],c=>c
 |b::p,.seq x y=>gU p (if b then y else x)
 |b::p,.cond _ x y=>gU p (if b then y else x)
 |_::p,.block _ x=>gU p x
 |_::p,.loop x=>gU p x
 |_::p,.scope x=>gU p x
 |_,_=> .skip
def way (n:List Nat):List Bool:=n.map fun x=>decide (x=1)
noncomputable def rdC (p:List Nat):Code:=gU (way p) (Tryz.f62.body.getD .skip)
theorem qI {l:List Value} (h:l.length=177):∃e:Nat→Value,l=[e 0,e 1,e 2,e 3,e 4,e 5,e 6,e 7,e 8,e 9,e 10,e 11,e 12,e 13,e 14,e 15,e 16,e 17,e 18,e 19,e 20,e 21,e 22,e 23,e 24,e 25,e 26,e 27,e 28,e 29,e 30,e 31,e 32,e 33,e 34,e 35,e 36,e 37,e 38,e 39,e 40,e 41,e 42,e 43,e 44,e 45,e 46,e 47,e 48,e 49,e 50,e 51,e 52,e 53,e 54,e 55,e 56,e 57,e 58,e 59,e 60,e 61,e 62,e 63,e 64,e 65,e 66,e 67,e 68,e 69,e 70,e 71,e 72,e 73,e 74,e 75,e 76,e 77,e 78,e 79,e 80,e 81,e 82,e 83,e 84,e 85,e 86,e 87,e 88,e 89,e 90,e 91,e 92,e 93,e 94,e 95,e 96,e 97,e 98,e 99,e 100,e 101,e 102,e 103,e 104,e 105,e 106,e 107,e 108,e 109,e 110,e 111,e 112,e 113,e 114,e 115,e 116,e 117,e 118,e 119,e 120,e 121,e 122,e 123,e 124,e 125,e 126,e 127,e 128,e 129,e 130,e 131,e 132,e 133,e 134,e 135,e 136,e 137,e 138,e 139,e 140,e 141,e 142,e 143,e 144,e 145,e 146,e 147,e 148,e 149,e 150,e 151,e 152,e 153,e 154,e 155,e 156,e 157,e 158,e 159,e 160,e 161,e 162,e 163,e 164,e 165,e 166,e 167,e 168,e 169,e 170,e 171,e 172,e 173,e 174,e 175,e 176]:=by
 refine⟨fun k=>l.getD k undef,?_⟩;have h2:l=(List.range 177).map fun k=>l.getD k undef:=by
  apply List.ext_getElem
  ·simp[h]
  ·intro i h1 h2;simp[List.getD_eq_getElem?_getD,h1]
 exact h2
theorem AY (h:W.ownsRow B T 6 (.slice (some ⟨g,0,none⟩) (m+1) c) (m+1) (cs++[a0,a1,a2,a3,a4,a5])) (hl:cs.length=m*6) (b0 b1 b2 b3 b4 b5:Value):
  ((((((W.setCell ⟨g,m*6,none⟩ b0).setCell ⟨g,m*6+1,none⟩ b1).setCell ⟨g,m*6+2,none⟩ b2).setCell ⟨g,m*6+3,none⟩ b3).setCell ⟨g,m*6+4,none⟩ b4).setCell ⟨g,m*6+5,none⟩ b5).ownsRow B T 6 (.slice (some ⟨g,0,none⟩) (m+1) c) (m+1) (cs++[b0,b1,b2,b3,b4,b5]):=by
 have:=((((((h.stored (m*6) b0).1.stored (m*6+1) b1).1.stored (m*6+2) b2).1.stored (m*6+3) b3).1.stored (m*6+4) b4).1.stored (m*6+5) b5).1;rw[xH _ _ _ _ _ _ _ _ _ _ _ _ _ hl] at this;exact this
theorem og (k:Kept X W W') (hg:g<W.heap.size→X g) (b0 b1 b2 b3 b4 b5:Value):Kept X W ((((((W'.setCell ⟨g,m*6,none⟩ b0).setCell ⟨g,m*6+1,none⟩ b1).setCell ⟨g,m*6+2,none⟩ b2).setCell ⟨g,m*6+3,none⟩ b3).setCell ⟨g,m*6+4,none⟩ b4).setCell ⟨g,m*6+5,none⟩ b5):=
 (((((k.setCell (p:=⟨g,m*6,none⟩) hg b0).setCell (p:=⟨g,m*6+1,none⟩) hg b1).setCell (p:=⟨g,m*6+2,none⟩) hg b2).setCell (p:=⟨g,m*6+3,none⟩) hg b3).setCell (p:=⟨g,m*6+4,none⟩) hg b4).setCell (p:=⟨g,m*6+5,none⟩) hg b5
theorem Om (h:W.ownsRow B T 6 (.slice (some ⟨g,0,none⟩) (m+1) c) (m+1) (cs++[a0,a1,a2,a3,a4,a5])) (hl:cs.length=m*6):
  W.cell? ⟨g,m*6,none⟩=some a0∧W.cell? ⟨g,m*6+1,none⟩=some a1∧W.cell? ⟨g,m*6+2,none⟩=some a2∧W.cell? ⟨g,m*6+3,none⟩=some a3∧W.cell? ⟨g,m*6+4,none⟩=some a4∧W.cell? ⟨g,m*6+5,none⟩=some a5∧(∀i,W.frozen? ⟨g,i,none⟩=false)∧g<W.heap.size:=by
 refine⟨?_,?_,?_,?_,?_,?_,fun i=>h.frozenAt i,(h.lt g rfl).2⟩
 ·rw[h.cellAt (m*6) (by omega),List.getElem?_append_right (by omega),hl,Nat.sub_self];rfl
 ·rw[h.cellAt (m*6+1) (by omega),List.getElem?_append_right (by omega),hl,Nat.add_sub_cancel_left];rfl
 ·rw[h.cellAt (m*6+2) (by omega),List.getElem?_append_right (by omega),hl,Nat.add_sub_cancel_left];rfl
 ·rw[h.cellAt (m*6+3) (by omega),List.getElem?_append_right (by omega),hl,Nat.add_sub_cancel_left];rfl
 ·rw[h.cellAt (m*6+4) (by omega),List.getElem?_append_right (by omega),hl,Nat.add_sub_cancel_left];rfl
 ·rw[h.cellAt (m*6+5) (by omega),List.getElem?_append_right (by omega),hl,Nat.add_sub_cancel_left];rfl
theorem last3 (h:W.ownsRow B T 3 (.slice (some ⟨g,0,none⟩) (m+1) c) (m+1) (cs++[a0,a1,a2])) (hl:cs.length=m*3):
  W.cell? ⟨g,m*3,none⟩=some a0∧W.cell? ⟨g,m*3+1,none⟩=some a1∧W.cell? ⟨g,m*3+2,none⟩=some a2∧(∀i,W.frozen? ⟨g,i,none⟩=false)∧g<W.heap.size:=by
 refine⟨?_,?_,?_,fun i=>h.frozenAt i,(h.lt g rfl).2⟩
 ·rw[h.cellAt (m*3) (by omega),List.getElem?_append_right (by omega),hl,Nat.sub_self];rfl
 ·rw[h.cellAt (m*3+1) (by omega),List.getElem?_append_right (by omega),hl,Nat.add_sub_cancel_left];rfl
 ·rw[h.cellAt (m*3+2) (by omega),List.getElem?_append_right (by omega),hl,Nat.add_sub_cancel_left];rfl
theorem yS (h:W.ownsRow B T 3 (.slice (some ⟨g,0,none⟩) (m+1) c) (m+1) (cs++[a0,a1,a2])) (hl:cs.length=m*3) (b:Value):
  (W.setCell ⟨g,m*3,none⟩ b).ownsRow B T 3 (.slice (some ⟨g,0,none⟩) (m+1) c) (m+1) (cs++[b,a1,a2])∧(W.setCell ⟨g,m*3+1,none⟩ b).ownsRow B T 3 (.slice (some ⟨g,0,none⟩) (m+1) c) (m+1) (cs++[a0,b,a2]):=by
 have h1:=(h.stored (m*3) b).1;have h2:=(h.stored (m*3+1) b).1;rw[←hl] at h1 h2;rw[List.set_append_right _ _ (by omega)] at h1 h2;simp only[Nat.sub_self,Nat.add_sub_cancel_left,List.set_cons_zero,List.set_cons_succ,hl] at h1 h2;exact⟨h1,h2⟩
def zero6:List Value:=[.int .u8 0,.slice none 0 0,.int .i64 0,.int .i64 0,.bool false,.slice none 0 0]
def gG (B rb:Nat) (s:ByteArray) (i:Nat) (st:List Wy.Op) (W:World) (a':Act) (w':World):Prop:=∃(l:List Value) (v:Value) (xs:List OpV),a'=⟨l.toArray,[]⟩∧l.length=177∧l[0]? =some (.string s)∧l[2]? =some (.pointer (some ⟨rb,0,none⟩))∧l[4]? =some v∧l[5]? =some (.int .i64 i)∧
 aZ 155 70 B w' v st xs∧Below B W w'
end Go.Proofs.YtnhjakdmbfadlaaGreatDoor
namespace Go.Proofs.YtnhjakdmbfadlaaGreatDoor
open Go.RowKit Wy Mem
variable {lazy:Bool} {hi k lo:Int} {subs:List Nd} {set:List Rg} {cs:List Value} {N:Nat→Prop} {t:Nd} {w:World}
theorem LC (h:ai N w (.mk k set lo hi lazy subs) cs):
  ∃o1 c1 o2 c2,cs=[.int .u8 k,.slice o1 set.length c1,.int .i64 lo,.int .i64 hi,.bool lazy,.slice o2 subs.length c2]∧(0≤k∧k≤255)∧I64 lo∧I64 hi∧dG N w (.slice o1 set.length c1) set∧(subs.length:Int)≤1048576∧(set.length:Int)≤1048576∧
   ∃ucs,Row N w (.slice o2 subs.length c2) subs.length 6 ucs∧au N w subs ucs:=by
 rw[ai] at h;obtain⟨sv,uv,ucs,rfl,h2,h3,h4,h5,h6,h7⟩:=h;obtain⟨o1,c1,rfl⟩:=h5.row.slice;obtain⟨o2,c2,rfl⟩:=h6.slice;exact⟨o1,c1,o2,c2,rfl,⟨h2.1,h2.2.1⟩,h3,h4,h5,by have:=h2.2.2;omega,by have:=h5.small;omega,ucs,h6,h7⟩
theorem CQ (h:ai N w t cs):
  Calls Tryz.prog 76 #[.agg cs.toArray] w fun e w'=>e= .returned (.bool (bT t))∧Below w.heap.size w w':=by
 obtain⟨k,set,lo,hi,lazy,subs⟩:=t;obtain⟨o1,c1,o2,c2,rfl,⟨hk0,hk1⟩,⟨hl0,hl1⟩,⟨hh0,hh1⟩,hs,hsl,hsm,-⟩:=LC h;have hR:∀w',Below w.heap.size w w'→Calls Tryz.prog 95 #[.slice o1 set.length c1] w' (Rgt set w'):=fun w' hb=>
  xM (hs.kept (zK hb) (fun _ _ _=>id))
 have HR:=zh hR;have hsp:0≤(set.length:Int):=(by omega);have hsq:0≤(subs.length:Int):=(by omega);clear hR hs h;have key:bT (.mk k set lo hi lazy subs)=if k=5 then decide (0≤lo) && decide (lo≤1000) && (decide (hi= -1) || (decide (lo≤hi) && decide (hi≤1000))) && decide ((set.length:Int)=0) && decide ((subs.length:Int)=1)
   else decide (lo=0) && decide (hi=0) && !lazy && (if k=1 then decide ((set.length:Int)+subs.length=0) else if k=2 then fJ set && decide ((subs.length:Int)=0) else if k=3∨k=4 then decide ((set.length:Int)=0) && decide (1<(subs.length:Int)) else if k=6 then decide ((set.length:Int)=0) && decide ((subs.length:Int)=1) else false):=by
  have e1:(set=[])↔((set.length:Int)=0):=by cases set<;>simp;omega
  have e2:(subs=[])↔((subs.length:Int)=0):=by cases subs<;>simp;omega
  have e3:(subs.length=1)↔((subs.length:Int)=1):=(by omega);have e4:(1<subs.length)↔(1<(subs.length:Int)):=(by omega);have e5:(decide ((set.length:Int)=0) && decide ((subs.length:Int)=0))=decide ((set.length:Int)+subs.length=0):=by
   rw[Bool.eq_iff_iff];simp only[Bool.and_eq_true,decide_eq_true_eq];omega
  simp only[bT,e1,e2,e3,e4,e5]
 rw[key];clear key;obtain⟨x,hx⟩:∃x:Int,x=(set.length:Int):=⟨_,rfl⟩;rcases(by omega:k=5∨k=1∨k=2∨k=3∨k=4∨k=6∨(k≠1∧k≠2∧k≠3∧k≠4∧k≠5∧k≠6)) with rfl|rfl|rfl|rfl|rfl|rfl|⟨k1,k2,k3,k4,k5,k6⟩
 ·go_enter Tryz.func76,Tryz.ntmps76
  go_wp2_with fail
  all_goals
   go_ret
   refine⟨?_,zR.alloc zL _⟩
   first|rfl|(apply aK;cases subs<;>simp<;>omega)|(apply aK;simp_all;done)|(apply aK;simp;done)|(apply aK;simp;omega)|(apply aK;simp;intros;omega)
 ·go_enter Tryz.func76,Tryz.ntmps76
  go_wp2_with fail
  all_goals
   go_ret
   refine⟨?_,zR.alloc zL _⟩
   first|rfl|(apply aK;cases subs<;>simp<;>omega)|(apply aK;simp_all;done)|(apply aK;simp;done)|(apply aK;simp;omega)|(apply aK;simp;intros;omega)
 ·go_enter Tryz.func76,Tryz.ntmps76
  go_wp2_with (go_at_call 95;refine(HR.out _ (zR.alloc zL _)).mono ?_;rintro e w' ⟨rfl,hb⟩;obtain⟨hc,hf⟩:=dU hb)
  all_goals
   go_ret
   try clear hc hf
   refine⟨?_,?_⟩
   ·first|rfl|(apply aK;simp;done)|(apply aK;cases subs<;>simp<;>omega)|(apply aK;simp_all;done)|(apply aK;simp;omega)|(apply aK;simp;intros;omega)
   ·first
     |exact zR.alloc zL _
     |(refine(zR.alloc zL _).trans (hb.mono ?_);simp)
 ·go_enter Tryz.func76,Tryz.ntmps76
  go_wp2_with fail
  all_goals
   go_ret
   refine⟨?_,zR.alloc zL _⟩
   first|rfl|(apply aK;cases subs<;>simp<;>omega)|(apply aK;simp_all;done)|(apply aK;simp;done)|(apply aK;simp;omega)|(apply aK;simp;intros;omega)
 ·go_enter Tryz.func76,Tryz.ntmps76
  go_wp2_with fail
  all_goals
   go_ret
   refine⟨?_,zR.alloc zL _⟩
   first|rfl|(apply aK;cases subs<;>simp<;>omega)|(apply aK;simp_all;done)|(apply aK;simp;done)|(apply aK;simp;omega)|(apply aK;simp;intros;omega)
 ·go_enter Tryz.func76,Tryz.ntmps76
  go_wp2_with fail
  all_goals
   go_ret
   refine⟨?_,zR.alloc zL _⟩
   first|rfl|(apply aK;cases subs<;>simp<;>omega)|(apply aK;simp_all;done)|(apply aK;simp;done)|(apply aK;simp;omega)|(apply aK;simp;intros;omega)
 ·go_enter Tryz.func76,Tryz.ntmps76
  go_wp2_with fail
  all_goals
   go_ret
   refine⟨?_,zR.alloc zL _⟩
   first|rfl|(apply aK;cases subs<;>simp<;>omega)|(apply aK;simp_all;done)|(apply aK;simp;done)|(apply aK;simp;omega)|(apply aK;simp;intros;omega)
end Go.Proofs.YtnhjakdmbfadlaaGreatDoor
namespace Go.Proofs.YtnhjakdmbfadlaaGreatDoor
open Go.RowKit Wy Mem Grow
variable {cs:List Value} {l:List Wy.Way} {G L b base g n sz:Nat} {M N X:Nat→Prop} {t:Nd} {e:TypeId} {v:Value} {w w':World} {x:Wy.Way}
theorem Row.go (h:Row N w v n sz cs) (k:Kept X w w') (hd:∀b,b<w.heap.size→N b→¬X b∧M b):Row M w' v n sz cs:=by
 refine⟨h.len,?_⟩;rcases h.at_ with h0|⟨b,off,cap,rfl,h1,h2,h3,h4,h5⟩
 ·exact .inl h0
 ·refine .inr ⟨b,off,cap,rfl,h1,h2,(hd b h4 h3).2,k.lt h4,fun j hj=> ?_⟩;rw[←h5 j hj];exact zW (k.block b h4 (hd b h4 h3).1)
theorem aC.go {l:List (Int×Int)} (h:aC N w v l) (k:Kept X w w') (hd:∀b,b<w.heap.size→N b→¬X b∧M b):aC M w' v l:=⟨Row.go h.row k hd,h.ok,h.small⟩
theorem dG.go {l:List Rg} (h:dG N w v l) (k:Kept X w w') (hd:∀b,b<w.heap.size→N b→¬X b∧M b):dG M w' v l:=⟨Row.go h.row k hd,h.ok,h.small⟩
def aH (N:Nat→Prop) (w:World) (G L:Nat):List Wy.Way→List Value→Prop
 |[],cs=>cs=[]
 |x::r,cs=>∃v q,cs= .int .i64 x.stop::v::q∧aC N w v x.spans∧(x.stop≤L∧x.spans.length=G)∧aH N w G L r q
theorem aH.go (k:Kept X w w') (hd:∀b,b<w.heap.size→N b→¬X b∧M b):∀{l:List Wy.Way} {cs:List Value},aH N w G L l cs→aH M w' G L l cs
 |[],cs,h=>h
 |x::r,cs,h=>by
  obtain⟨v,q,h1,h2,h3,h4⟩:=h;exact⟨v,q,h1,h2.go k hd,h3,aH.go k hd h4⟩
theorem aH.mono (hm:∀b,N b→M b) {l:List Wy.Way} {cs:List Value} (h:aH N w G L l cs):aH M w G L l cs:=
 h.go (Kept.refl (fun _=>False) w) (fun b _ hb=>⟨id,hm b hb⟩)
theorem aH.length:∀{l:List Wy.Way} {cs:List Value},aH N w G L l cs→cs.length=l.length*2
 |[],cs,h=>by rw[aH] at h;subst h;rfl
 |x::r,cs,h=>by
  obtain⟨v,q,rfl,h2,h3,h4⟩:=h;rw[List.length_cons,List.length_cons,h4.length,List.length_cons];omega
theorem aH.append:∀{l m:List Wy.Way} {cs ds:List Value},aH N w G L l cs→aH N w G L m ds→aH N w G L (l++m) (cs++ds)
 |[],m,cs,ds,h,k=>by rw[aH] at h;subst h;exact k
 |x::r,m,cs,ds,h,k=>by
  obtain⟨v,q,rfl,h2,h3,h4⟩:=h;exact⟨v,q++ds,rfl,h2,h3,h4.append k⟩
theorem aH.one (h:aC N w v x.spans) (h1:x.stop≤L) (h2:x.spans.length=G):aH N w G L [x] [.int .i64 x.stop,v]:=
 ⟨v,[],rfl,h,⟨h1,h2⟩,rfl⟩
theorem aH.get:∀{l:List Wy.Way} {cs:List Value},aH N w G L l cs→∀i (hi:i<l.length),∃v,cs[i*2]? =some (.int .i64 l[i].stop)∧cs[i*2+1]? =some v∧aC N w v l[i].spans∧l[i].stop≤L∧l[i].spans.length=G
 |[],cs,_,i,hi=>absurd hi (by simp)
 |x::r,cs,h,i,hi=>by
  obtain⟨v,q,rfl,h2,h3,h4⟩:=h;cases i with
  |zero=>exact⟨v,rfl,rfl,h2,h3⟩
  |succ i=>
   obtain⟨u,h5,h6,h7⟩:=h4.get i (by simpa using hi);have e:(i+1)*2=i*2+1+1:=(by omega);refine⟨u,?_,?_,h7⟩
   ·rw[e,List.getElem?_cons_succ,List.getElem?_cons_succ];exact h5
   ·rw[e,List.getElem?_cons_succ,List.getElem?_cons_succ];exact h6
theorem aH.oneCell:∀{l:List Wy.Way} {cs:List Value},aH N w G L l cs→∀u∈cs,u.oneCell'=true
 |[],cs,h,u,hu=>by rw[aH] at h;subst h;simp at hu
 |x::r,cs,h,u,hu=>by
  obtain⟨v,q,rfl,h2,h3,h4⟩:=h;rcases List.mem_cons.1 hu with rfl|hu
  ·rfl
  rcases List.mem_cons.1 hu with rfl|hu
  ·obtain⟨o,c,rfl⟩:=h2.row.slice;rfl
  ·exact h4.oneCell u hu
def aI (N:Nat→Prop) (w:World) (G L:Nat) (v:Value) (l:List Wy.Way):Prop:=∃cs,Row N w v l.length 2 cs∧aH N w G L l cs
theorem aI.go (h:aI N w G L v l) (k:Kept X w w') (hd:∀b,b<w.heap.size→N b→¬X b∧M b):aI M w' G L v l:=by
 obtain⟨cs,h1,h2⟩:=h;exact⟨cs,Row.go h1 k hd,h2.go k hd⟩
theorem aI.mono (h:aI N w G L v l) (hm:∀b,N b→M b):aI M w G L v l:=
 h.go (Kept.refl (fun _=>False) w) (fun b _ hb=>⟨id,hm b hb⟩)
theorem aI.slice (h:aI N w G L v l):∃o c,v= .slice o l.length c:=by
 obtain⟨cs,h1,h2⟩:=h;exact h1.slice
theorem aI.nil (N:Nat→Prop) (w:World) (G L:Nat) (o:Option Addr) (c:Nat):aI N w G L (.slice o 0 c) []:=⟨[],⟨rfl,.inl ⟨rfl,o,c,rfl⟩⟩,rfl⟩
theorem aI.dD (h:w.ownsRow base e 2 v l.length cs) (hw:aH N w G L l cs) (hN:∀b,base≤b→b<w.heap.size→N b):aI N w G L v l:=
 ⟨cs,Row.dD h hN,hw⟩
theorem aI.cells (h:aI N w G L v l) (hne:0<l.length):
  ∃b off cap:Nat,v= .slice (some ⟨b,off,none⟩) l.length cap∧l.length≤cap∧cap≤maxLen∧N b∧b<w.heap.size∧∀i (hi:i<l.length),∃sv,w.cell? ⟨b,off+i*2,none⟩=some (.int .i64 l[i].stop)∧w.cell? ⟨b,off+i*2+1,none⟩=some sv∧aC N w sv l[i].spans∧l[i].stop≤L∧l[i].spans.length=G:=by
 obtain⟨cs,h1,h2⟩:=h;rcases h1.at_ with⟨h0,_⟩|⟨b,off,cap,rfl,k1,k2,k3,k4,k5⟩
 ·omega
 ·refine⟨b,off,cap,rfl,k1,k2,k3,k4,fun i hi=> ?_⟩;obtain⟨sv,e1,e2,e3⟩:=h2.get i hi;have hl:=h2.length;refine⟨sv,?_,?_,e3⟩
  ·rw[k5 _ (by rw[hl];omega)];exact e1
  ·rw[Nat.add_assoc,k5 _ (by rw[hl];omega)];exact e2
mutual
def aX (N:Nat→Prop) (w:World):Nd→Nat→Nat→Nat→Prop
 | .mk k set lo hi lazy subs,n,g,b=>∃sv uv pv ps,Blk w b #[.int .u8 k,sv,.int .i64 lo,.int .i64 hi,.bool lazy,uv,.int .i64 n,.int .i64 g,pv] 140∧N b∧(0≤k∧k≤255∧subs.length≤1048576∧∃(a:Option Addr) (n c:Nat),uv= .slice a n c)∧I64 lo∧I64 hi∧dG N w sv set∧Row N w pv subs.length 1 ps∧PartsAt N w subs (n+1) (g+if k=6 then 1 else 0) ps
def PartsAt (N:Nat→Prop) (w:World):List Nd→Nat→Nat→List Value→Prop
 |[],_,_,ps=>ps=[]
 |s::r,n,g,ps=>∃b q,ps= .pointer (some ⟨b,0,none⟩)::q∧aX N w s n g b∧PartsAt N w r (n+nodes s) (g+opened s) q
end
mutual
theorem aX.go (k:Kept X w w') (hd:∀b,b<w.heap.size→N b→¬X b∧M b):∀{t:Nd} {n g b:Nat},aX N w t n g b→aX M w' t n g b
 | .mk kd set lo hi lazy subs,n,g,b,h=>by
  rw[aX] at h ⊢;obtain⟨sv,uv,pv,ps,h1,h2,h3,h4,h5,h6,h7,h8⟩:=h;exact⟨sv,uv,pv,ps,h1.kept k (hd b h1.lt h2).1,(hd b h1.lt h2).2,h3,h4,h5,dG.go h6 k hd,Row.go h7 k hd,PartsAt.go k hd h8⟩
theorem PartsAt.go (k:Kept X w w') (hd:∀b,b<w.heap.size→N b→¬X b∧M b):∀{l:List Nd} {n g:Nat} {ps:List Value},PartsAt N w l n g ps→PartsAt M w' l n g ps
 |[],_,_,_,h=>h
 |s::r,n,g,ps,h=>by
  rw[PartsAt] at h ⊢;obtain⟨b,q,h1,h2,h3⟩:=h;exact⟨b,q,h1,aX.go k hd h2,PartsAt.go k hd h3⟩
end
theorem aX.mono (hm:∀b,N b→M b) {t:Nd} {n g b:Nat} (h:aX N w t n g b):aX M w t n g b:=
 aX.go (Kept.refl (fun _=>False) w) (fun b _ hb=>⟨id,hm b hb⟩) h
theorem aX.lt (h:aX N w t n g b):b<w.heap.size∧N b:=by
 cases t;rw[aX] at h;obtain⟨sv,uv,pv,ps,h1,h2,_⟩:=h;exact⟨h1.lt,h2⟩
theorem PartsAt.length:∀{l:List Nd} {n g:Nat} {ps:List Value},PartsAt N w l n g ps→ps.length=l.length
 |[],_,_,ps,h=>by rw[PartsAt] at h;subst h;rfl
 |s::r,n,g,ps,h=>by
  rw[PartsAt] at h;obtain⟨b,q,rfl,h2,h3⟩:=h;rw[List.length_cons,h3.length,List.length_cons]
theorem PartsAt.append:∀{l m:List Nd} {n g:Nat} {ps qs:List Value},PartsAt N w l n g ps→PartsAt N w m (n+aF l) (g+aj l) qs→PartsAt N w (l++m) n g (ps++qs)
 |[],m,n,g,ps,qs,h,k=>by
  rw[PartsAt] at h;subst h
  simpa [aF,aj] using k
 |s::r,m,n,g,ps,qs,h,k=>by
  rw[PartsAt] at h;obtain⟨b,q,rfl,h2,h3⟩:=h;rw[List.cons_append,PartsAt];rw[aF,aj,←Nat.add_assoc,←Nat.add_assoc] at k;exact⟨b,q++qs,rfl,h2,h3.append k⟩
theorem PartsAt.get:∀{l:List Nd} {n g:Nat} {ps:List Value},PartsAt N w l n g ps→∀i (hi:i<l.length),∃b,ps[i]? =some (.pointer (some ⟨b,0,none⟩))∧aX N w l[i] (n+aF (l.take i)) (g+aj (l.take i)) b
 |[],_,_,_,_,i,hi=>absurd hi (by simp)
 |s::r,n,g,ps,h,i,hi=>by
  rw[PartsAt] at h;obtain⟨b,q,rfl,h2,h3⟩:=h;cases i with
  |zero=>exact⟨b,rfl,by simpa [aF,aj] using h2⟩
  |succ i=>
   obtain⟨c,h4,h5⟩:=h3.get i (by simpa using hi);refine⟨c,h4,?_⟩;rw[List.take_succ_cons,aF,aj,←Nat.add_assoc,←Nat.add_assoc];exact h5
theorem kS.get {T:Nat→Option (Nd×Nat)}:∀{l:List Nd} {n g:Nat},kS T l n g→∀i (hi:i<l.length),mF T l[i] (n+aF (l.take i)) (g+aj (l.take i))
 |[],_,_,_,i,hi=>absurd hi (by simp)
 |s::r,n,g,h,i,hi=>by
  rw[kS] at h;cases i with
  |zero=>simpa [aF,aj] using h.1
  |succ i=>
   have:=kS.get h.2 i (by simpa using hi);rw[List.take_succ_cons,aF,aj,←Nat.add_assoc,←Nat.add_assoc];exact this
structure Cx where
 m:Nat
 mb:Nat
 s:ByteArray
 G:Nat
 P:Int
 T:Nat→Option (Nd×Nat)
def aN (s:ByteArray):Str:=⟨s.size,fun p=>((Lib.decodeGo (s.extract p s.size)).1,(Lib.decodeGo (s.extract p s.size)).2)⟩
def Cx.wy (C:Cx) (t:Nd) (g p:Nat):Option (List Wy.Way):=Wy.wy (ak C.G) (aN C.s) t g p
structure Cx.Ok (C:Cx):Prop where
 len:C.s.size≤32
 G:C.G≤30
 T:∀n x,C.T n=some x→n≤1000000000
 mb:2<C.mb
def oh (C:Cx) (N:Nat→Prop) (w:World) (x:MapEntry):Prop:=
 ∃(n p:Nat) (t:Nd) (g:Nat) (l:List Wy.Way),x.key= .agg #[.int .i64 n,.int .i64 p]∧p≤32∧C.T n=some (t,g)∧C.wy t g p=some l∧aI N w C.G C.s.size x.val l
structure At (C:Cx) (N:Nat→Prop) (w:World):Prop where
 tabs:Lib.Utf8Tabs 0 1 w
 none:bu w
 maker:Blk w C.m #[.string C.s,.int .i64 C.G,.int .i64 C.P,.map (some C.mb)] 105
 memo:∃es clock,w.heap[C.mb]? =some (.map es clock)∧∀x∈es.toList,oh C N w x
 new:∀b,w.heap.size≤b→N b
 low:∀b,b≤2→N b
 own:N C.m
 not:¬N C.mb
theorem At.CS {C:Cx} (h:At C N w):C.mb<w.heap.size:=by
 obtain⟨es,clock,h1,-⟩:=h.memo;exact(Array.getElem?_eq_some_iff.1 h1).1
theorem At.mLt {C:Cx} (h:At C N w):C.m<w.heap.size:=h.maker.lt
theorem oh.go {C:Cx} {x:MapEntry} (h:oh C N w x) (k:Kept X w w') (hd:∀b,b<w.heap.size→N b→¬X b∧M b):oh C M w' x:=by
 obtain⟨n,p,t,g,l,h1,h2,h3,h4,h5⟩:=h;exact⟨n,p,t,g,l,h1,h2,h3,h4,h5.go k hd⟩
theorem bF (h:Lib.Utf8Tabs 0 1 w) (k:Kept X w w') (h0:¬X 0) (h1:¬X 1) (hs:1<w.heap.size):Lib.Utf8Tabs 0 1 w':=by
 have e0:∀o,w'.cell? ⟨0,o,none⟩=w.cell? ⟨0,o,none⟩:=fun o=>zW (k.block 0 (by omega) h0)
 have e1:∀o,w'.cell? ⟨1,o,none⟩=w.cell? ⟨1,o,none⟩:=fun o=>zW (k.block 1 hs h1)
 exact⟨fun c hc=>(e0 c).trans (h.1 c hc),fun i hi=>⟨(e1 _).trans (h.2 i hi).1,(e1 _).trans (h.2 i hi).2⟩⟩
theorem At.go {C:Cx} (h:At C N w) (k:Kept X w w') (hd:∀b,b<w.heap.size→N b→¬X b∧M b) (hmb:¬X C.mb∧¬M C.mb) (hnew:∀b,w'.heap.size≤b→M b):At C M w':=by
 have hm:=hd C.m h.mLt h.own;have hl:∀b,b≤2→¬X b∧M b:=fun b hb=>hd b (Nat.lt_of_le_of_lt hb h.none.1) (h.low b hb)
 obtain⟨es,clock,h1,h2⟩:=h.memo;refine⟨bF h.tabs k (hl 0 (by omega)).1 (hl 1 (by omega)).1 (by have:=h.none.1;omega),h.none.kept k (hl _ zL).1,h.maker.kept k hm.1,⟨es,clock,(k.block _ h.CS hmb.1).trans h1,fun x hx=>(h2 x hx).go k hd⟩,hnew,fun b hb=>(hl b hb).2,hm.2,hmb.2⟩
theorem At.below {C:Cx} (h:At C N w) (k:Below w.heap.size w w'):At C N w':=
 h.go (zK k) (fun b _ hb=>⟨id,hb⟩) ⟨id,h.not⟩ (fun b hb=>h.new b (Nat.le_trans k.size hb))
theorem At.less {C:Cx} (h:At C N w) (k:Below w.heap.size w w') (R:Nat→Prop) (hR:∀b,R b→w.heap.size≤b∧b<w'.heap.size):At C (fun b=>N b∧¬R b) w':=
 h.go (zK k) (fun _ hb hn=>⟨id,hn,fun e=>by have:=(hR _ e).1;omega⟩) ⟨id,fun e=>h.not e.1⟩ (fun b hb=>⟨h.new b (Nat.le_trans k.size hb),fun e=>by have:=(hR b e).2;omega⟩)
theorem At.mono {C:Cx} (h:At C N w) (hm:∀b,N b→M b) (hmb:¬M C.mb):At C M w:=
 h.go (Kept.refl (fun _=>False) w) (fun b _ hb=>⟨id,hm b hb⟩) ⟨id,hmb⟩ (fun b hb=>hm b (h.new b hb))
def Wys (C:Cx) (N:Nat→Prop) (w:World) (o:Option (List Wy.Way)) (e:Ending) (w':World):Prop:=
 Kept (fun b=>b=C.mb) w w'∧At C N w'∧∃v,e= .returned (.tuple #[v,.bool o.isSome])∧(∃a n c,v= .slice a n c)∧∀l,o=some l→aI N w' C.G C.s.size v l
def vG (C:Cx) (N:Nat→Prop) (w:World) (o:Option (List Wy.Way)) (e:Ending) (w':World):Prop:=
 Kept (fun b=>b=C.mb) w w'∧At C N w'∧∃v,e= .returned (.tuple #[v,.bool o.isSome])∧(o=none→v= .slice none 0 0)∧∀l,o=some l→aI N w' C.G C.s.size v l
def fA (C:Cx) (t:Nd):Prop:=∀(N:Nat→Prop) (w:World) (num grp b place:Nat),At C N w→aX N w t num grp b→mF C.T t num grp→grp+opened t≤C.G→place≤C.s.size→
 Calls Tryz.prog 43 #[.pointer (some ⟨C.m,0,none⟩),.pointer (some ⟨b,0,none⟩),.int .i64 place] w (vG C N w (C.wy t grp place))
end Go.Proofs.YtnhjakdmbfadlaaGreatDoor
