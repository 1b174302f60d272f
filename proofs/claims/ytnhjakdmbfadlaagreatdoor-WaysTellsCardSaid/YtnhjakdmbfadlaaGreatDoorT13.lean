/- Parts of the proof. Conditions: none. -/
import Derived.Test.YtnhjakdmbfadlaaGreatDoorT04
import Derived.Test.YtnhjakdmbfadlaaGreatDoorT00
set_option linter.all false
set_option maxHeartbeats 8000000
set_option maxRecDepth 100000
namespace Go.Proofs.YtnhjakdmbfadlaaGreatDoor
open Go.RowKit Wy Mem
variable {N:Nat→Prop} {v:Value} {w:World}
theorem OB {l:List Rg} (h:fJ l=true):∀(j i:Nat) (hi:i<l.length) (hj:j<i),(l[j]'(by omega)).hi+1<l[i].lo∧(l[j]'(by omega)).hi<l[i].hi:=by
 have hA:=(nX l).1 h;have ord:∀i (hi:i<l.length),l[i].lo≤l[i].hi:=fun i hi=>by
  have:=hA i hi;simp only[jO,List.getElem?_eq_getElem hi,Bool.and_eq_true] at this;have:=this.1;simp only[oW,Bool.and_eq_true,Bool.not_eq_true',decide_eq_false_iff_not] at this;omega
 have step:∀i (hi:i+1<l.length),(l[i]'(by omega)).hi+1<l[i+1].lo:=fun i hi=>by
  have:=hA (i+1) hi;rw[xK hi (by omega)] at this;simp only[Bool.and_eq_true,Bool.not_eq_true',decide_eq_false_iff_not] at this;have h2:=this.2;simp only[Nat.add_sub_cancel] at h2;omega
 intro j i
 induction i with
 |zero=>intro _ hj;omega
 |succ i ih=>
  intro hi hj;have h1:=step i hi;have h2:=ord (i+1) hi;have h3:=ord i (by omega);by_cases e:j=i
  ·subst e;omega
  ·have:=ih (by omega) (by omega);omega
theorem IU {l:List Rg} (h:fJ l=true) {c:Int} {i:Nat} (hi:i≤l.length) (h1:∀j (hj:j<l.length),j+1=i→l[j].hi<c) (h2:∀hj:i<l.length,c≤l[i].hi):
  iG l c=if hj:i<l.length then decide (l[i].lo≤c) else false:=by
 have hlt:=OB h;have hlow:∀j (hj:j<l.length),j<i→l[j].hi<c:=fun j hj hji=>by
  have a:=h1 (i-1) (by omega) (by omega);by_cases e:j=i-1
  ·subst e;exact a
  ·have:=(hlt j (i-1) (by omega) (by omega)).2;omega
 unfold iG;by_cases hj:i<l.length
 ·rw[dif_pos hj,Bool.eq_iff_iff,List.any_eq_true];simp only[Bool.and_eq_true,decide_eq_true_eq];constructor
  ·rintro⟨r,hr,a,b⟩;obtain⟨j,hjl,rfl⟩:=List.getElem_of_mem hr;by_cases e1:j<i
   ·have:=hlow j hjl e1;omega
   ·by_cases e2:j=i
    ·subst e2;exact a
    ·have:=(hlt i j hjl (by omega)).1;have:=h2 hj;omega
  ·intro a;exact⟨l[i],List.getElem_mem hj,a,h2 hj⟩
 ·rw[dif_neg hj];cases e:l.any fun r=>decide (r.lo≤c) && decide (c≤r.hi)
  ·rfl
  ·rw[List.any_eq_true] at e;obtain⟨r,hr,a⟩:=e;simp only[Bool.and_eq_true,decide_eq_true_eq] at a;obtain⟨j,hjl,rfl⟩:=List.getElem_of_mem hr;have:=hlow j hjl (by omega);omega
theorem zk (c:Int) (w:World):Calls Tryz.prog 129 #[.int .i64 c] w fun e w'=>e= .returned (.bool false)∧w=w':=by
 go_enter Tryz.func129,Tryz.ntmps129
 go_wp2
 go_ret
 exact⟨aK (by simp),rfl⟩
def F5 (a b:Int):Int:=if a<b then -1 else if b<a then 1 else 0
theorem Mc (a b:Int) (w:World):Calls Tryz.prog 109 #[.int .i64 a,.int .i64 b] w fun e w'=>e= .returned (.int .i64 (F5 a b))∧w=w':=by
 unfold F5;rcases(by omega:a<b∨(b≤a∧b<a)∨(b≤a∧a≤b)) with h|⟨h,h'⟩|⟨h,h'⟩
 ·rw[if_pos h];go_enter Tryz.func109,Tryz.ntmps109
  go_wp2_with (go_at_call 129;refine(zk _ _).mono ?_;rintro e w' ⟨rfl,rfl⟩)
  go_ret
  exact⟨rfl,rfl⟩
 ·rw[if_neg (by omega),if_pos h'];have hd:decide (a<b)=false:=by simpa using h
  go_enter Tryz.func109,Tryz.ntmps109
  go_wp2_with (go_at_call 129;refine(zk _ _).mono ?_;rintro e w' ⟨rfl,rfl⟩)
  go_ret
  exact⟨rfl,rfl⟩
 ·rw[if_neg (by omega),if_neg (by omega)];have hd:decide (a<b)=false:=by simpa using h
  have hd':decide (b<a)=false:=by simpa using h'
  go_enter Tryz.func109,Tryz.ntmps109
  go_wp2_with (go_at_call 129;refine(zk _ _).mono ?_;rintro e w' ⟨rfl,rfl⟩)
  go_ret
  exact⟨rfl,rfl⟩
theorem Bo (a b c:Int) (w:World):Calls Tryz.prog 108 #[.agg #[.int .i64 a,.int .i64 b],.int .i64 c] w fun e w'=>e= .returned (.int .i64 (F5 b c))∧Below w.heap.size w w':=by
 go_enter Tryz.func108,Tryz.ntmps108
 go_wp2_with (go_at_call 109;refine(Mc _ _ _).mono ?_;rintro e w' ⟨rfl,rfl⟩)
 go_ret
 exact⟨rfl,zR.alloc zL _⟩
theorem Md {a b c:Int} (h:b<c) (w:World):Calls Tryz.prog 108 #[.agg #[.int .i64 a,.int .i64 b],.int .i64 c] w fun e w'=>e= .returned (.int .i64 (-1))∧Below w.heap.size w w':=
 (Bo a b c w).mono fun e w' ⟨he,hb⟩=>⟨by rw[he];unfold F5;rw[if_pos h],hb⟩
theorem EF {a b c:Int} (h:c≤b) (w:World):Calls Tryz.prog 108 #[.agg #[.int .i64 a,.int .i64 b],.int .i64 c] w fun e w'=>∃d:Int,decide (d<0)=false∧e= .returned (.int .i64 d)∧Below w.heap.size w w':=
 (Bo a b c w).mono fun e w' ⟨he,hb⟩=>by
  by_cases h2:c<b
  ·exact⟨1,rfl,by rw[he];unfold F5;rw[if_neg (by omega),if_pos h2],hb⟩
  ·exact⟨0,rfl,by rw[he];unfold F5;rw[if_neg (by omega),if_neg h2],hb⟩
def Found (l:List Rg) (c:Int) (i:Nat):Prop:=i≤l.length∧(∀j (hj:j<l.length),j+1=i→l[j].hi<c)∧∀hj:i<l.length,c≤l[i].hi
def RN (l:List Rg) (c:Int) (w:World) (e:Ending) (w':World):Prop:=∃(i:Nat) (b:Bool),e= .returned (.tuple #[.int .i64 i,.bool b])∧Found l c i∧Below w.heap.size w w'
theorem Dn {l:List Rg} (h:dG N w v l) (c:Int):
  Calls Tryz.prog 107 #[v,.int .i64 c,.func (.func 108) #[] #[]] w (RN l c w):=by
 by_cases hne:0<l.length
 ·obtain⟨b,off,cap,rfl,hcap,hmax,-,hlt,hc⟩:=h.cells hne;have HC:=zh hc;have hmx:(l.length:Int)≤1048576:=by have:=h.small;omega
  have hci:(l.length:Int)≤cap:=(by omega);clear hc h;go_enter Tryz.func107,Tryz.ntmps107
  go_wp2_with fail
  go_loopw [9,10] (fun i j wr=>∃a z:Nat,a≤z∧z≤l.length∧i= .int .i64 a∧j= .int .i64 z∧Below w.heap.size w wr∧Hid ((∀j (hj:j<l.length),j+1=a→l[j].hi<c)∧∀hj:z<l.length,c≤l[z].hi)) (fun i j _=>(intOf j).toNat-(intOf i).toNat)
  case atStart=>exact⟨0,l.length,by omega,by omega,rfl,rfl,zR,zh ⟨fun j hj e=>by omega,fun hj=>by omega⟩⟩
  case round=>
   obtain⟨a,z,haz,hz,rfl,rfl,hbr,HQ⟩:=hrel;have hzr:=hbr.size;by_cases hlz:a<z
   ·have hm1:(a+z)/2<l.length:=(by omega);obtain⟨⟨hl1,hl2⟩,⟨hh1,hh2⟩,c0,c1⟩:=HC.out ((a+z)/2) hm1;have d0:=(hbr.cell (p:=⟨b,off+(a+z)/2*2,none⟩) hlt).trans c0;have d1:=(hbr.cell (p:=⟨b,off+(a+z)/2*2+1,none⟩) hlt).trans c1;obtain⟨x,hx⟩:∃x,x=l[(a+z)/2].lo:=⟨_,rfl⟩;obtain⟨y,hy⟩:∃y,y=l[(a+z)/2].hi:=⟨_,rfl⟩;rw[←hx] at d0;rw[←hy] at d1;have HY:=zh hy;clear c0 c1 hl1 hl2 hh1 hh2 hx hy;by_cases hyc:y<c
    ·go_wp2_with (go_at_call 108;refine(Md hyc _).mono ?_;rintro e w' ⟨rfl,hb⟩)
     go_roundw
     case rel=>
      refine⟨(a+z)/2+1,z,by omega,hz,by go_num,rfl,hbr.trans (hb.mono hzr),zh ⟨fun j hj e=> ?_,HQ.out.2⟩⟩;obtain rfl:j=(a+z)/2:=(by omega);rw[←HY.out];exact hyc
     case measure=>simp[intOf];omega
    ·go_wp2_with (go_at_call 108;refine(EF (show c≤y by omega) _).mono ?_;rintro e w' ⟨d,hd,rfl,hb⟩)
     go_roundw
     case rel=>exact⟨a,(a+z)/2,by omega,by omega,rfl,by go_num,hbr.trans (hb.mono hzr),zh ⟨HQ.out.1,fun hj=>by rw[←HY.out];omega⟩⟩
     case measure=>simp[intOf];omega
   ·obtain rfl:a=z:=(by omega);have hd:decide (a<a)=false:=by simp
    by_cases hal:a<l.length
    ·obtain⟨⟨hl1,hl2⟩,⟨hh1,hh2⟩,c0,c1⟩:=HC.out a hal;have d0:=(hbr.cell (p:=⟨b,off+a*2,none⟩) hlt).trans c0;have d1:=(hbr.cell (p:=⟨b,off+a*2+1,none⟩) hlt).trans c1;have hge:=HQ.out.2 hal;have hali:(a:Int)<l.length:=(by omega);obtain⟨x,hx⟩:∃x,x=l[a].lo:=⟨_,rfl⟩;obtain⟨y,hy⟩:∃y,y=l[a].hi:=⟨_,rfl⟩;rw[←hx] at d0;rw[←hy] at d1 hge;clear c0 c1 hl1 hl2 hh1 hh2 hx hy
     go_wp2_with (go_at_call 108;refine(EF hge _).mono ?_;rintro e w' ⟨d,hd,rfl,hb⟩)
     go_ret2
     exact⟨a,_,rfl,⟨hz,HQ.out.1,HQ.out.2⟩,hbr.trans (hb.mono hzr)⟩
    ·have hald:decide (a<l.length)=false:=by simp;omega
     clear hal
     go_wp2
     go_ret2
     exact⟨a,_,rfl,⟨hz,HQ.out.1,HQ.out.2⟩,hbr⟩
 ·obtain rfl:l=[]:=List.eq_nil_of_length_eq_zero (by omega);obtain⟨o,q,rfl⟩:=h.row.slice;clear h hne;simp only[List.length_nil];go_enter Tryz.func107,Tryz.ntmps107
  go_wp2
  go_rounds 1
  all_goals go_wp2
  go_ret2
  exact⟨0,_,rfl,⟨Nat.le_refl _,fun j hj=>by simp at hj,fun hj=>by simp at hj⟩,zR⟩
def Nx (l:List Rg) (c:Int) (w:World) (e:Ending) (w':World):Prop:=∃(x:Int) (b:Bool),e= .returned (.tuple #[.int .i64 x,.bool b])∧(b && decide (x=c))=iG l c∧Below w.heap.size w w'
theorem next_any {l:List Rg} (h:dG N w v l) (hr:fJ l=true) (c:Int):
  Calls Tryz.prog 90 #[v,.int .i64 c] w (Nx l c w):=by
 have hR:Calls Tryz.prog 95 #[v] w (fun e w'=>e= .returned (.bool true)∧Below w.heap.size w w'):=(xM h).mono fun e w' hq=>by
  have:=hq;unfold Rgt at this;rw[hr] at this;exact this
 have HR:=zh hR;clear hR;have hS:∀w',Below w.heap.size w w'→Calls Tryz.prog 107 #[v,.int .i64 c,.func (.func 108) #[] #[]] w' (RN l c w'):=fun w' hb=>
  Dn (h.kept (zK hb) (fun _ _ _=>id)) c
 have HS:=zh hS;clear hS;have hmx:(l.length:Int)≤1048576:=by have:=h.small;omega
 by_cases hne:0<l.length
 ·obtain⟨b,off,cap,rfl,hcap,hmax,-,hlt,hc⟩:=h.cells hne;have HC:=zh hc;have hci:(l.length:Int)≤cap:=(by omega);clear hc h;go_enter Tryz.func90,Tryz.ntmps90
  go_wp2_with fail
  refine HR.out.mono ?_;rintro e w1 ⟨rfl,hb1⟩
  go_wp2_with fail
  refine(HS.out _ hb1).mono ?_;rintro e w2 ⟨i,q,rfl,⟨hi,hf1,hf2⟩,hb2⟩;have hbw:Below w.heap.size w w2:=hb1.trans (hb2.mono hb1.size);have hat:=IU hr hi hf1 hf2;have HAT:=zh hat;clear hf1 hf2 hat hb1 hb2;by_cases hil:i<l.length
  ·obtain⟨⟨hl1,hl2⟩,⟨hh1,hh2⟩,c0,c1⟩:=HC.out i hil;have d0:=(hbw.cell (p:=⟨b,off+i*2,none⟩) hlt).trans c0;have hat:=HAT.out;rw[dif_pos hil] at hat;have hne2:((i:Int) == (l.length:Int))=false:=by simp;omega
   have hne3:(i == l.length)=false:=by simp;omega
   have hali:(i:Int)<l.length:=(by omega);obtain⟨x,hx⟩:∃x,x=l[i].lo:=⟨_,rfl⟩;rw[←hx] at d0 hat;have PG:=zh hat;clear c0 c1 hl1 hl2 hh1 hh2 hx hat HAT
   go_wp2
   all_goals
    go_ret2
    refine⟨_,_,rfl,?_,hbw⟩;rw[PG.out,Bool.eq_iff_iff];simp only[Bool.true_and,decide_eq_true_eq]
    first|omega|(simp only[true_iff];omega)|(simp;omega)
  ·obtain rfl:i=l.length:=(by omega);have hat:=HAT.out;rw[dif_neg hil] at hat;have PG:=zh hat;clear hat HAT hil
   go_wp2
   go_ret2
   refine⟨_,_,rfl,?_,hbw⟩;rw[PG.out]
   rfl
 ·obtain rfl:l=[]:=List.eq_nil_of_length_eq_zero (by omega);obtain⟨o,q,rfl⟩:=h.row.slice;clear h hne;simp only[List.length_nil] at HR HS ⊢;go_enter Tryz.func90,Tryz.ntmps90
  go_wp2_with fail
  refine HR.out.mono ?_;rintro e w1 ⟨rfl,hb1⟩
  go_wp2_with fail
  refine(HS.out _ hb1).mono ?_;rintro e w2 ⟨i,q,rfl,⟨hi,hf1,hf2⟩,hb2⟩;obtain rfl:i=0:=by simpa using hi
  have hbw:Below w.heap.size w w2:=hb1.trans (hb2.mono hb1.size);clear hf1 hf2 hi
  go_wp2
  go_ret2
  exact⟨_,_,rfl,rfl,hbw⟩
theorem Me {l:List Rg} (h:dG N w v l) (hr:fJ l=true) (c:Int):
  Calls Tryz.prog 68 #[v,.int .i64 c] w fun e w'=>e= .returned (.bool (iG l c))∧Below w.heap.size w w':=by
 have HN:=zh (next_any h hr c);clear h;go_enter Tryz.func68,Tryz.ntmps68
 go_wp2_with fail
 refine HN.out.mono ?_;rintro e w1 ⟨x,b,rfl,hx,hb⟩;cases b with
 |true=>
  have HX:=zh hx;clear hx
  go_wp2
  go_ret
  refine⟨aK ?_,hb⟩;rw[←HX.out,Bool.eq_iff_iff];simp
 |false=>
  have HX:=zh hx;clear hx
  go_wp2
  go_ret
  refine⟨aK ?_,hb⟩;rw[←HX.out]
  rfl
end Go.Proofs.YtnhjakdmbfadlaaGreatDoor
