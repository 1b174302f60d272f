/- Parts of the proof. Conditions: none. -/
import Derived.Test.YtnhjakdmbfadlaaGreatDoorT35
import Derived.Test.YtnhjakdmbfadlaaGreatDoorT00
import Derived.Test.YtnhjakdmbfadlaaGreatDoorT03
set_option linter.all false
set_option maxHeartbeats 8000000
set_option maxRecDepth 100000
namespace Go.Proofs.YtnhjakdmbfadlaaGreatDoor
open Go.RowKit Wy Mem Grow
variable {c:Nat} {N:Nat→Prop} {v:Value} {w:World}
theorem NL {l:List Rg} (h:dG N w v l) (hc:Wy.point (c:Int)=true) (hcl:c<4000000):
  Calls Tryz.prog 98 #[v,.int .i64 (c:Nat)] w fun e w'=>e= .returned (.bool (iG l c))∧w=w':=by
 obtain⟨ob,cb,rfl⟩:=h.row.slice;have hsm:(l.length:Int)≤1048576:=by have:=h.small;omega
 have hcI:(c:Int)<4000000:=(by omega);have HPT:=iT c hcl w;rw[hc] at HPT;have HPT:=zh HPT;have H:=zh h;obtain⟨r,hr⟩:∃r,r=iG l c:=⟨_,rfl⟩;rw[←hr];have HR:=zh hr;clear h hr hc;go_enter Tryz.func98,Tryz.ntmps98
 go_wp2_with (go_at_call 97;(refine HPT.out.mono ?_;rintro e2 w2 ⟨rfl,rfl⟩))
 go_loopw [5] (fun s5 wx=>∃i:Nat,i≤l.length∧s5= .int .i64 i∧wx=w∧∀j (hj:j<l.length),j<i→¬(l[j].lo≤(c:Int)∧(c:Int)≤l[j].hi)) (fun s5 _=>l.length-(intOf s5).toNat)
 case atStart=>exact⟨0,by omega,rfl,rfl,fun j _ h=>by omega⟩
 case round=>
  rename World=>Wa
  obtain⟨i,hi,rfl,rfl,hno⟩:=hrel;have HNO:=zh hno;clear hno;by_cases hil:¬i<l.length
  ·obtain rfl:i=l.length:=(by omega);have hrf:r=false:=by
    rw[HR.out];unfold iG;rw[List.any_eq_false];intro x hx;obtain⟨j,hj,rfl⟩:=List.getElem_of_mem hx;have:=HNO.out j hj hj;simp only[Bool.and_eq_true,decide_eq_true_eq];exact this
   have HRF:=zh hrf;clear hil hrf
   go_wp2_with fail
   exact bodyPost_ret (v:= .bool false) (by simp[results,Tryz.results98,go_sem]) rfl ⟨by rw[HRF.out],rfl⟩
  ·have hil:i<l.length:=(by omega);have hiI:(i:Int)<l.length:=(by omega);obtain⟨b,off,cap,e1,hc1,hc2,-,hbz,TF⟩:=H.out.cells (by omega);simp only[Value.slice.injEq,true_and] at e1;obtain⟨rfl,rfl⟩:=e1;have hcI2:(l.length:Int)≤cb:=(by omega);obtain⟨-,-,c0,c1⟩:=TF i hil;obtain⟨x,hx⟩:∃x,x=l[i].lo:=⟨_,rfl⟩;obtain⟨y,hy⟩:∃y,y=l[i].hi:=⟨_,rfl⟩;rw[←hx] at c0;rw[←hy] at c1;have hstep:¬(x≤(c:Int)∧(c:Int)≤y)→∀j (hj:j<l.length),j<i+1→¬(l[j].lo≤(c:Int)∧(c:Int)≤l[j].hi):=fun h j hj hji=>by
    by_cases e:j=i
    ·subst e;rw[←hx,←hy];exact h
    ·exact HNO.out j hj (by omega)
   have hyes:x≤(c:Int)∧(c:Int)≤y→r=true:=fun h=>by
    rw[HR.out];unfold iG;rw[List.any_eq_true];exact⟨_,List.getElem_mem hil,by simp only[Bool.and_eq_true,decide_eq_true_eq];rw[←hx,←hy];exact h⟩
   have HST:=zh hstep;have HY:=zh hyes;clear TF hx hy hstep hyes;by_cases h1:x≤(c:Int)
   ·by_cases h2:(c:Int)≤y
    ·have HT:=zh (HY.out ⟨h1,h2⟩)
     go_wp2_with fail
     exact bodyPost_ret (v:= .bool true) (by simp[results,Tryz.results98,go_sem]) rfl ⟨by rw[HT.out],rfl⟩
    ·have h2f:decide ((c:Int)≤y)=false:=decide_eq_false h2;have HS:=zh (HST.out (fun h=>h2 h.2));clear h2
     go_wp2_with fail
     go_roundw
     case rel=>exact⟨i+1,by omega,by go_num,trivial,HS.out⟩
     case measure=>simp[intOf];omega
   ·have h1f:decide (x≤(c:Int))=false:=decide_eq_false h1;have HS:=zh (HST.out (fun h=>h1 h.1));clear h1
    go_wp2_with fail
    go_roundw
    case rel=>exact⟨i+1,by omega,by go_num,trivial,HS.out⟩
    case measure=>simp[intOf];omega
theorem KD {l:List Rg} (h:dG N w v l) (hok:fJ l=true) (hc:Wy.point (c:Int)=true) (hcl:c<4000000):
  Calls Tryz.prog 80 #[v,.int .i64 (c:Nat)] w fun e w'=>e= .returned (.bool (iG l c))∧Below w.heap.size w w':=by
 have HR:=zh (yw h hok);have HIN:=zh (fun(w':World) (hb:Below w.heap.size w w')=>NL (sW (M:=N) h (zK hb) (fun q _ hq=>⟨id,hq⟩)) hc hcl);obtain⟨ob,cb,rfl⟩:=h.row.slice;have hcI:(c:Int)<4000000:=(by omega);clear h hok hc;go_enter Tryz.func80,Tryz.ntmps80
 go_wp2_with (first|(go_at_call 96;(refine HR.out.mono ?_;rintro e2 w2 ⟨rfl,hb2⟩;have HB2:=zh hb2;clear hb2))|(go_at_call 98;(refine(HIN.out _ HB2.out).mono ?_;rintro e3 w3 ⟨rfl,rfl⟩)))
 exact bodyPost_ret (v:= .bool (iG l c)) (by simp[results,Tryz.results80,go_sem]) rfl ⟨rfl,HB2.out⟩
theorem GK {x:ByteArray} (h:0<(puS x).2):Wy.point ((puS x).1:Int)=true∧(puS x).1<4000000:=by
 have key:Wy.point ((puS x).1:Int)=true:=by
  unfold puS at h ⊢;split
  ·rename_i h0;rw[if_pos h0] at h;simp at h
  ·rename_i h0;rw[if_neg h0] at h;have hb:byteAt x 0<256:=UInt8.toNat_lt _;by_cases h1:byteAt x 0<128
   ·rw[pu1 h1];unfold Wy.point;simp;omega
   ·by_cases h2:byteAt x 0<192∨248≤byteAt x 0
    ·rw[pu0 (by omega)] at h;simp at h
    ·by_cases h3:byteAt x 0<224
     ·rw[pu2 (by omega)] at h ⊢;split
      ·rename_i hC;exact hC.2.2.2
      ·rename_i hC;rw[if_neg hC] at h;simp at h
     ·by_cases h4:byteAt x 0<240
      ·rw[pu3 (by omega)] at h ⊢;split
       ·rename_i hC;exact hC.2.2.2
       ·rename_i hC;rw[if_neg hC] at h;simp at h
      ·rw[pu4 (by omega)] at h ⊢;split
       ·rename_i hC;exact hC.2.2.2
       ·rename_i hC;rw[if_neg hC] at h;simp at h
 refine⟨key,?_⟩;unfold Wy.point at key;simp at key;omega
variable {lazy:Bool} {s:ByteArray} {hi lo:Int} {set:List Rg} {G L g p:Nat} {sv uv:Value} {w':World}
theorem GL (hG:G≤64) {p:Nat} {w1:World} {base:Nat} {v:Value} (h:w1.ownsRow base 129 2 v (List.replicate G ((-1:Int),(-1:Int))).length ((List.replicate G ((-1:Int),(-1:Int))).flatMap bP)):aC (TB 129 w1) w1 v ((ak G).still p).spans:=by
 refine⟨Row.iR h,?_,?_⟩
 ·intro x hx;have:x=((-1:Int),(-1:Int)):=List.eq_of_mem_replicate hx;rw[this];unfold I64;simp
 ·show(List.replicate G ((-1:Int),(-1:Int))).length≤64
  rw[List.length_replicate];exact hG
theorem Ae (hG:G≤64) (hp:p≤L) {w w1:World} {base:Nat} {v:Value} (h:w1.ownsRow base 129 2 v (List.replicate G ((-1:Int),(-1:Int))).length ((List.replicate G ((-1:Int),(-1:Int))).flatMap bP)) (hb:Below w.heap.size w w1):
  Rwl G L (some [(ak G).still p]) w (.returned (.tuple #[.slice (some ⟨w1.heap.size,0,none⟩) 1 1,.bool true])) (w1.alloc (.cells #[.int .i64 (p:Nat),v] 79)):=by
 refine⟨hb.alloc hb.size _,_,_,rfl,Ac (sz:=2) hb.size rfl,?_⟩;exact aH.one (x:=(ak G).still p) ((GL hG h).ed (zR.alloc zL _)) hp (by show(List.replicate G ((-1:Int),(-1:Int))).length=G;rw[List.length_replicate])
theorem EY (hb:Below w.heap.size w w'):Rwl G L (some []) w (.returned (.tuple #[.slice none 0 0,.bool true])) w':=
 ⟨hb,_,[],rfl,zN,rfl⟩
theorem NM (hs:s.size≤32) (hG:G≤64) (hp:Bnd s p):
  Calls Tryz.prog 60 #[.agg #[.int .u8 1,sv,.int .i64 lo,.int .i64 hi,.bool lazy,uv],.string s,.int .i64 (p:Nat),.int .i64 (g:Nat),.int .i64 (G:Nat)] w (Rwl G s.size (some [(ak G).still p]) w):=by
 have hpI:(p:Int)≤32:=by have:=hp.1;omega
 have HP:=zh hp;clear hp;go_enter Tryz.func60,Tryz.ntmps60
 go_wp2_with (first|(go_at_call 79;(refine(lW hG).mono ?_;rintro e1 w1 ⟨v1,rfl,hown1,hb1⟩;have H1:=zh (And.intro hown1 hb1);obtain⟨o1,c1,rfl⟩:=ay hown1;clear hown1 hb1)))
 obtain⟨hown1,hb1⟩:=H1.out;exact bodyPost_ret (v:= .tuple #[.slice (some ⟨w1.heap.size,0,none⟩) 1 1,.bool true]) (by simp[results,Tryz.results60,go_sem]) rfl (by
  have hbw:Below w.heap.size w w1:=(zR.alloc zL _).trans (hb1.mono (by simp));have:=Ae (p:=p) hG HP.out.1 hown1 hbw
  simpa using this)
theorem NP (hs:s.size≤32) (hG:G≤64) (hp:Bnd s p) (hset:dG N w sv set) (hok:fJ set=true):
  Calls Tryz.prog 60 #[.agg #[.int .u8 2,sv,.int .i64 lo,.int .i64 hi,.bool lazy,uv],.string s,.int .i64 (p:Nat),.int .i64 (g:Nat),.int .i64 (G:Nat)] w
   (Rwl G s.size (if 0<((aN s).dec p).2∧iG set ((aN s).dec p).1=true then some [(ak G).still (p+((aN s).dec p).2)] else some []) w):=by
 obtain⟨os,cs,rfl⟩:=hset.row.slice;have hpS:=hp.1;have hpI:(p:Int)≤s.size:=(by omega);have hsI:(s.size:Int)≤32:=(by omega);have hrs:(bn s p).size≤1000000:=by rw[dJ s p hpS];omega
 obtain⟨d1,d2⟩:=Qy hp;have hstep:=fun h0=>(Cb hp h0).1
 have hpt:= @GK (bn s p);obtain⟨c,hc⟩:∃c,c=(puS (bn s p)).1:=⟨_,rfl⟩;obtain⟨n,hn⟩:∃n,n=(puS (bn s p)).2:=⟨_,rfl⟩;have HPT:=wO hrs;rw[←hc,←hn] at HPT hpt;rw[←hn] at d1;rw[←hc] at d2;rw[←d1] at d2 hstep ⊢;have HPT:=zh (fun w'=>HPT w');have H:=zh hset;have HOK:=zh hok;have TG:=zh hpt;clear hset hok hpt hc hn d1 hp;by_cases hn0:0<n
 case neg=>
  obtain rfl:n=0:=(by omega);rw[if_neg (by simp)];clear d2 hstep hn0;go_enter Tryz.func60,Tryz.ntmps60
  go_wp2_with (first|(go_at_call 78;(refine(HPT.out _).mono ?_;rintro e1 w1 ⟨rfl,rfl⟩)))
  exact bodyPost_ret (v:= .tuple #[.slice none 0 0,.bool true]) (by simp[results,Tryz.results60,go_sem]) rfl (EY (zR.alloc zL _))
 have hnI:(0:Int)<n:=(by omega);have hst:=hstep hn0;have hnU:(n:Int)≤32:=(by omega);rw[←d2 hn0];obtain⟨hpt,hcU⟩:=TG.out hn0;have hcI:(c:Int)<4000000:=(by omega);have Dp:=zh (fun(w':World) (hb:Below w.heap.size w w')=>KD (sW (M:=N) H.out (zK hb) (fun q _ hq=>⟨id,hq⟩)) HOK.out hpt hcU);clear d2 hstep TG hpt;cases hh:iG set (c:Int) with
 |false=>
  rw[if_neg (by simp)];rw[hh] at Dp;clear hh;go_enter Tryz.func60,Tryz.ntmps60
  go_wp2_with (first|(go_at_call 78;(refine(HPT.out _).mono ?_;rintro e1 w1 ⟨rfl,rfl⟩))|(go_at_call 80;(refine(Dp.out _ (zR.alloc zL _)).mono ?_;rintro e2 w2 ⟨rfl,hb2⟩;have HB2:=zh hb2;clear hb2)))
  exact bodyPost_ret (v:= .tuple #[.slice none 0 0,.bool true]) (by simp[results,Tryz.results60,go_sem]) rfl (EY ((zR.alloc zL _).trans (HB2.out.mono (by simp))))
 |true=>
  rw[if_pos ⟨hn0,rfl⟩];rw[hh] at Dp;have hsum:(p:Int)+n=((p+n:Nat):Int):=(by omega);have HSUM:=zh hsum;clear hh hsum;go_enter Tryz.func60,Tryz.ntmps60
  go_wp2_with (first|(go_at_call 78;(refine(HPT.out _).mono ?_;rintro e1 w1 ⟨rfl,rfl⟩))|(go_at_call 80;(refine(Dp.out _ (zR.alloc zL _)).mono ?_;rintro e2 w2 ⟨rfl,hb2⟩;have HB2:=zh hb2;clear hb2))|(go_at_call 79;(refine(lW hG).mono ?_;rintro e3 w3 ⟨v3,rfl,hown3,hb3⟩;have H3:=zh (And.intro hown3 hb3);obtain⟨o3,c3,rfl⟩:=ay hown3;clear hown3 hb3)))
  obtain⟨hown3,hb3⟩:=H3.out;exact bodyPost_ret (v:= .tuple #[.slice (some ⟨w3.heap.size,0,none⟩) 1 1,.bool true]) (by simp[results,Tryz.results60,go_sem]) rfl (by
   have hbw:Below w.heap.size w w3:=((zR.alloc zL _).trans (HB2.out.mono (by simp))).trans (hb3.mono (by have:=HB2.out.size;simp at this;omega));have:=Ae (p:=p+n) hG hst hown3 hbw;rw[←HSUM.out] at this
   simpa using this)
variable {ucs:List Value} {uc:Nat} {sub:Nd} {o:Option (List Wy.Way)} {uo_:Option Addr} {dm:Value}
theorem Rwl.pair {e:Ending} (h:Rwl G L o w e w'):∃v,e= .returned v:=by
 obtain⟨-,h⟩:=h;cases o with
 |none=>exact⟨_,h⟩
 |some l=>obtain⟨v,_,h,-⟩:=h;exact⟨_,h⟩
theorem NQ
  (hsp:iU s G sub) (hsh:(Wy.look sub).shaped=true) (hs:s.size≤32) (hG:G≤64) (hg:g+opened sub≤G) (hp:Bnd s p) (hlo:0≤lo∧lo≤1000) (hhi: -1≤hi∧hi≤1000) (jQ:(Wy.look sub).ah=true→0≤hi∧hi≤1)
  (hrow:Row N w (.slice uo_ [sub].length uc) [sub].length 6 ucs) (hsub:au N w [sub] ucs):
  Calls Tryz.prog 60 #[.agg #[.int .u8 5,dm,.int .i64 lo,.int .i64 hi,.bool lazy,.slice uo_ 1 uc],.string s,.int .i64 (p:Nat),.int .i64 (g:Nat),.int .i64 (G:Nat)] w
   (Rwl G s.size (rep (ak G) (fun q=>Wy.wy (ak G) (aN s) sub g q) lo hi lazy 36 p) w):=by
 rw[ND];have hb0:Below w.heap.size w (w.alloc (.cells #[.int .u8 5,dm,.int .i64 lo,.int .i64 hi,.bool lazy,.slice uo_ 1 uc] 70)):=zR.alloc zL _;have k0:Kept (fun _=>False) w (w.alloc (.cells #[.int .u8 5,dm,.int .i64 lo,.int .i64 hi,.bool lazy,.slice uo_ 1 uc] 70)):=Kept.of_below hb0 _;have hcall:=Ad (kk:=5) (dm:=dm) (lazy:=lazy) hsp hsh hs hG hg hp hlo hhi jQ (gp (M:=N) hrow k0 (fun _ _ h=>⟨id,h⟩)) (au.go (M:=N) k0 (fun _ _ h=>⟨id,h⟩) hsub);obtain⟨o,ho⟩:∃o,o=(lvs (ak G) (fun q=>Wy.wy (ak G) (aN s) sub g q) hi 36 [((ak G).still p,-1)] 0).map fun R=>flw lo lazy ([((ak G).still p,-1)]::R) 0 0:=⟨_,rfl⟩
 have hres:((lvs (ak G) (fun q=>Wy.wy (ak G) (aN s) sub g q) hi 36 [((ak G).still p,-1)] 0).bind fun R=>most (some (flw lo lazy ([((ak G).still p,-1)]::R) 0 0)))=most o:=by
  rw[ho];cases lvs (ak G) (fun q=>Wy.wy (ak G) (aN s) sub g q) hi 36 [((ak G).still p,-1)] 0<;>rfl
 rw[hres];rw[←ho] at hcall;have aS:=zh hcall;have hpI:(p:Int)≤32:=by have:=hp.1;omega
 have hgI:(g:Int)≤64:=(by omega);have hGI:(G:Int)≤64:=(by omega);clear hcall ho hres hsp hsh hrow hsub jQ hhi hlo hp k0;cases o with
 |none=>
  have em:most (none:Option (List Wy.Way))=none:=rfl;rw[em];go_enter Tryz.func60,Tryz.ntmps60
  go_wp2_with (first|(go_at_call 82;(refine aS.out.mono ?_;rintro e1 w1 ⟨hb1,rfl⟩;have HB1:=zh hb1;clear hb1)))
  exact bodyPost_ret (v:= .tuple #[.slice none 0 0,.bool false]) (by simp[results,Tryz.results60,go_sem]) rfl ⟨hb0.trans (HB1.out.mono hb0.size),rfl⟩
 |some l=>
  by_cases hl:l.length≤500
  ·rw[eQ hl];have hlI:decide ((500:Int)<l.length)=false:=decide_eq_false (by omega);go_enter Tryz.func60,Tryz.ntmps60
   go_wp2_with (first|(go_at_call 82;(refine aS.out.mono ?_;rintro e1 w1 ⟨hb1,v1,cs1,rfl,hown1,sN⟩;obtain⟨o1,c1,rfl⟩:=ay hown1;have H1:=zh (And.intro hb1 (And.intro hown1 sN));clear hb1 hown1 sN)))
   obtain⟨hb1,hown1,sN⟩:=H1.out;exact bodyPost_ret (v:= .tuple #[.slice o1 l.length c1,.bool true]) (by simp[results,Tryz.results60,go_sem]) rfl ⟨hb0.trans (hb1.mono hb0.size),_,cs1,rfl,bY hown1 hb0.size,sN⟩
  ·have em:most (some l)=none:=if_neg hl;rw[em];have hlI:(500:Int)<l.length:=(by omega);go_enter Tryz.func60,Tryz.ntmps60
   go_wp2_with (first|(go_at_call 82;(refine aS.out.mono ?_;rintro e1 w1 ⟨hb1,v1,cs1,rfl,hown1,sN⟩;obtain⟨o1,c1,rfl⟩:=ay hown1;have H1:=zh (And.intro hb1 (And.intro hown1 sN));clear hb1 hown1 sN)))
   exact bodyPost_ret (v:= .tuple #[.slice none 0 0,.bool false]) (by simp[results,Tryz.results60,go_sem]) rfl ⟨hb0.trans (H1.out.1.mono hb0.size),rfl⟩
end Go.Proofs.YtnhjakdmbfadlaaGreatDoor
namespace Go.Proofs.YtnhjakdmbfadlaaGreatDoor
open Go.RowKit Wy Mem Grow
section
variable {W:Type} {A:Alg W} {S:Str}
theorem Cc {s:Nd} {r:List Nd} {g p:Nat} (h:wy A S s g p=none):bI A S (s::r) g p=none:=by rw[bI,h]
theorem Ce {s:Nd} {r:List Nd} {g p:Nat} {x:List W} (h:wy A S s g p=some x):bI A S (s::r) g p=(bI A S r (g+opened s) p).map (x++ ·):=by
 rw[bI,h];cases bI A S r (g+opened s) p<;>rfl
end
theorem ik {l:List Nd} {i:Nat} (hi:i<l.length):aj (l.take (i+1))=aj (l.take i)+opened l[i]:=by
 rw[List.take_succ_eq_append_getElem hi,aV,dO]
theorem mD (l:List Nd) (i:Nat):aj (l.take i)≤aj l:=by
 have h:=aV (l.take i) (l.drop i);rw[List.take_append_drop] at h;omega
theorem lY {l:List Nd} {s:Nd} (h:s∈l):nodes s≤aF l:=oH h
def wQ (B G L:Nat) (nc:Array Value) (w0:World) (acc:List Wy.Way) (ov:Value) (w:World):Prop:=
 Blk w B nc 70∧(∃cs,w.ownsRow (B+1) 79 2 ov acc.length cs∧aH (TB 129 w) w G L acc cs)∧Below B w0 w∧w0.heap.size=B
theorem wQ.go {B G L:Nat} {nc:Array Value} {w0 w w':World} {acc:List Wy.Way} {ov:Value} (h:wQ B G L nc w0 acc ov w) (hb:Below w.heap.size w w'):wQ B G L nc w0 acc ov w':=by
 obtain⟨h1,⟨cs,h2,h3⟩,h4,h5⟩:=h;have k:Kept (fun _=>False) w w':=Kept.of_below hb _;exact⟨h1.kept k id,⟨cs,aB h2 k (fun _ _=>id),h3.ed hb⟩,h4.trans (hb.mono (by have:=h1.lt;omega)),h5⟩
theorem wQ.push {B G L:Nat} {nc:Array Value} {w0 w w4:World} {acc m:List Wy.Way} {ov v':Value} {cs ds:List Value} (h:wQ B G L nc w0 acc ov w) (hcs:w.ownsRow (B+1) 79 2 ov acc.length cs) (hw:aH (TB 129 w) w G L acc cs)
  (hd:aH (TB 129 w) w G L m ds) (hg:w.grownBy w4 ov.ownBlock) (ho:w4.ownsRow (B+1) 79 2 v' (acc.length+m.length) (cs++ds)):wQ B G L nc w0 (acc++m) v' w4:=by
 have k:=Kept.bK hg;obtain⟨h1,-,h4,h5⟩:=h;refine⟨h1.kept k (cZ hcs h1 (by decide)),⟨cs++ds,by rw[List.length_append];exact ho,(hw.typ k (dR hcs (by decide))).append (hd.typ k (dR hcs (by decide)))⟩,?_,h5⟩;subst h5;exact((Kept.of_below h4 (fun b=>ov.ownBlock=some b)).trans k).below (fun q hq e=>by have:=(hcs.lt q e).1;omega)
theorem NR {N:Nat→Prop} {G g p uc:Nat} {uo_:Option Addr} {lo hi:Int} {lazy:Bool} {dm:Value} {s:ByteArray} {subs:List Nd} {ucs:List Value} {w:World}
  (hsp:∀t∈subs,iU s G t) (hno:aF subs≤1000000) (hs:s.size≤32) (hG:G≤64) (hg:g+aj subs≤G) (hp:Bnd s p) (hsl:subs.length≤1048576)
  (hrow:Row N w (.slice uo_ subs.length uc) subs.length 6 ucs) (hsub:au N w subs ucs):
  Calls Tryz.prog 60 #[.agg #[.int .u8 4,dm,.int .i64 lo,.int .i64 hi,.bool lazy,.slice uo_ subs.length uc],.string s,.int .i64 (p:Nat),.int .i64 (g:Nat),.int .i64 (G:Nat)] w
   (Rwl G s.size (most (bI (ak G) (aN s) subs g p)) w):=by
 obtain⟨i0,hi0,hz0,hz1,hz2⟩:=info_parts sJ;have hpI:(p:Int)≤32:=by have:=hp.1;omega
 have hgI:(g:Int)≤64:=(by omega);have hGI:(G:Int)≤64:=(by omega);have Dq:(subs.length:Int)≤1048576:=(by omega);have HSP:=zh hsp;have lh:=zh (And.intro hrow hsub);have HP:=zh hp;have HG:=zh hg;have HNO:=zh hno;obtain⟨res,hres⟩:∃res,res=bI (ak G) (aN s) subs g p:=⟨_,rfl⟩;rw[←hres];have jf:=zh hres;clear hsp hrow hsub hp hg hno hres;go_enter Tryz.func60,Tryz.ntmps60
 go_wp2_with fail
 go_loopw [3,12,22] (fun s3 s12 s22 wx=>∃(i:Nat) (o':Option Addr) (c':Nat) (acc:List Wy.Way),i≤subs.length∧s22= .int .i64 i∧s12= .slice o' acc.length c'∧s3= .int .i64 ((g+aj (subs.take i):Nat):Int)∧res=(bI (ak G) (aN s) (subs.drop i) (g+aj (subs.take i)) p).map (acc++ ·)∧acc.length≤i*500∧wQ w.heap.size G s.size #[.int .u8 4,dm,.int .i64 lo,.int .i64 hi,.bool lazy,.slice uo_ subs.length uc] w acc (.slice o' acc.length c') wx) (fun _ _ s22 _=>subs.length-(intOf s22).toNat)
 case atStart=>
  refine⟨0,none,0,[],by omega,rfl,rfl,by simp[aj],?_,by simp,Blk.new _ _ _,⟨[],zN,rfl⟩,zR.alloc zL _,rfl⟩;rw[jf.out];simp[aj]
 case round=>
  rename World=>Wa
  obtain⟨i,o',c',acc,hi,rfl,rfl,rfl,hre,hal,hout⟩:=hrel;have HRE:=zh hre;have KE:=zh hout;have b5:=hout.1.cell 5;have bz:=hout.1.lt;by_cases hil:¬i<subs.length
  ·obtain rfl:i=subs.length:=(by omega);have hr2:res=some acc:=by
    rw[hre,List.drop_length,bI];simp
   have HR2:=zh hr2;clear hre hr2 hout hil;by_cases hl:acc.length≤500
   ·have hlI:decide ((500:Int)<acc.length)=false:=decide_eq_false (by omega)
    go_wp2_with fail
    obtain⟨-,⟨cs,h1,h2⟩,h3,-⟩:=KE.out;exact bodyPost_ret (v:= .tuple #[.slice o' acc.length c',.bool true]) (by simp[results,Tryz.results60,go_sem]) rfl (by rw[HR2.out,eQ hl];exact⟨h3,_,cs,rfl,bY h1 (by omega),h2⟩)
   ·have hlI:(500:Int)<acc.length:=by omega
    go_wp2_with fail
    exact bodyPost_ret (v:= .tuple #[.slice none 0 0,.bool false]) (by simp[results,Tryz.results60,go_sem]) rfl (by rw[HR2.out,show most (some acc)=none from if_neg hl];exact⟨KE.out.2.2.1,rfl⟩)
  ·have hil:i<subs.length:=(by omega);have hiI:(i:Int)<subs.length:=(by omega);have hbw:=hout.2.2.1;obtain⟨ub,uo,k',lo',hi',lz',p1,p2,n1,c1,n2,c2,hue,Gu,bg,t0,t1,t2,t3,t4,t5,hnd⟩:=jc lh.out.1 lh.out.2 zR hil;subst hue;have lK:(subs.length:Int)≤uc:=(by omega);have DW:=ik hil;have hle:=mD subs (i+1);have hg2:=HG.out;have hnn:=lY (List.getElem_mem hil);have hgo:∀w',Below w.heap.size w w'→ai N w' subs[i] [.int .u8 k',.slice p1 n1 c1,.int .i64 lo',.int .i64 hi',.bool lz',.slice p2 n2 c2]:=fun w' hb=>ai.go (M:=N) (zK hb) (fun _ _ h=>⟨id,h⟩) hnd
   have hcall:=HSP.out _ (List.getElem_mem hil) N Wa _ (g+aj (subs.take i)) p (hgo Wa hbw) (by omega) HP.out;have hdr:subs.drop i=subs[i]::subs.drop (i+1):=List.drop_eq_getElem_cons hil;have hfI:((g+aj (subs.take i):Nat):Int)≤64:=(by omega);have DX:∀w',Below w.heap.size w w'→Calls Tryz.prog 61 #[.agg #[.int .u8 k',.slice p1 n1 c1,.int .i64 lo',.int .i64 hi',.bool lz',.slice p2 n2 c2]] w' fun e w''=>e= .returned (.int .i64 (opened subs[i]))∧Below w'.heap.size w' w'':=fun w' hb=>oG subs[i] N w' _ (hgo w' hb) (by have:=HNO.out;omega)
   have hcells:∀w',Below w.heap.size w w'→w'.cell? ⟨ub,uo+i*6,none⟩=some (.int .u8 k')∧w'.cell? ⟨ub,uo+i*6+1,none⟩=some (.slice p1 n1 c1)∧w'.cell? ⟨ub,uo+i*6+2,none⟩=some (.int .i64 lo')∧w'.cell? ⟨ub,uo+i*6+3,none⟩=some (.int .i64 hi')∧w'.cell? ⟨ub,uo+i*6+4,none⟩=some (.bool lz')∧w'.cell? ⟨ub,uo+i*6+5,none⟩=some (.slice p2 n2 c2)∧ub<w'.heap.size:=fun w' h=>
    ⟨(zW (h.block _ bg)).trans t0,(zW (h.block _ bg)).trans t1,(zW (h.block _ bg)).trans t2,(zW (h.block _ bg)).trans t3,(zW (h.block _ bg)).trans t4,(zW (h.block _ bg)).trans t5,by have:=h.size;omega⟩
   obtain⟨q0,q1,q2,q3,q4,q5,q6⟩:=hcells Wa hbw;obtain⟨on,hon⟩:∃on:Nat,on=opened subs[i]:=⟨_,rfl⟩;rw[←hon] at DX DW;have honI:(on:Int)≤64:=(by omega);obtain⟨fst,DY⟩:∃f:Nat,f=g+aj (subs.take i):=⟨_,rfl⟩;rw[←DY] at hcall hfI hre ⊢;have Cf:fst+on=g+aj (subs.take (i+1)):=by rw[DW,DY];omega
   rw[hdr] at hre;have HON:=zh hon;have Ci:=zh Cf;have QH:=zh DX;have DZ:=zh hcells;have HBW:=zh hbw;obtain⟨o,ho⟩:∃o,o=Wy.wy (ak G) (aN s) subs[i] fst p:=⟨_,rfl⟩;rw[←ho] at hcall;have aS:=zh hcall;have hxn:o=none→res=none:=fun h=>by rw[hre,Cc (by rw[←ho,h])];rfl
   have hxs:∀m,o=some m→m.length≤500∧res=(bI (ak G) (aN s) (subs.drop (i+1)) (fst+on) p).map ((acc++m)++ ·):=fun m h=>by
    have h1:Wy.wy (ak G) (aN s) subs[i] fst p=some m:=by rw[←ho,h]
    refine⟨fV h1,?_⟩;rw[hre,Ce h1,hon,Option.map_map];congr 1;funext x;simp
   have HXN:=zh hxn;have HXS:=zh hxs;clear hcall DX hcells hgo hnd hdr hre DW hle hg2 DY Cf hon ho hxn hxs hbw hnn t0 t1 t2 t3 t4 t5 HRE hout;cases o with
   |none=>
    have HN:=zh (HXN.out rfl)
    go_wp2_with (first|(go_at_call 60;(refine aS.out.mono ?_;rintro e1 w1 ⟨hb1,rfl⟩;have HB1:=zh hb1;clear hb1)))
    exact bodyPost_ret (v:= .tuple #[.slice none 0 0,.bool false]) (by simp[results,Tryz.results60,go_sem]) rfl (by rw[HN.out];exact⟨HBW.out.trans (HB1.out.mono (by omega)),rfl⟩)
   |some m=>
    obtain⟨hml,hmr⟩:=HXS.out m rfl;have hmI:(m.length:Int)≤500:=(by omega);have HMR:=zh hmr;clear hmr
    go_wp2_with (first|(go_at_call 60;(refine aS.out.mono ?_;rintro e1 w1 ⟨hb1,v1,cs1,rfl,hown1,sN⟩;obtain⟨o1,cc1,rfl⟩:=ay hown1;have hout1:=KE.out.go hb1;obtain⟨cs2,hcs2,hws2⟩:=hout1.2.1;have HO1:=zh hout1;have HC2:=zh hcs2;have HW2:=zh hws2;have HW1:=zh sN;have HN1:=zh hown1.1;have HS1:=zh (jV (Row.dD (N:=fun _=>True) hown1 (fun _ _ _=>trivial)));have HZ1:=zh hout1.1.lt;clear hout1 hcs2 hws2 sN hown1 hb1))|(at_builtin;(refine aA rfl _ _ 73 rfl Tryz.underlying73 hi0 hz0 hz1 hz2 rfl (.slice o' acc.length c') acc.length cs2 rfl HC2.out _ m.length cs1 rfl HS1.out HN1.out HW1.out.oneCell (by unfold maxLen;omega) (by omega) (by have:=HZ1.out;omega) ?_;intro v' w4 hown' hgrow h3' h4';obtain⟨o5,c5,rfl⟩:=ay hown';have hp4:=HO1.out.push HC2.out HW2.out HW1.out hgrow hown';obtain⟨r0,r1,r2,r3,r4,r5,r6⟩:=DZ.out _ hp4.2.2.1;have e5:=hp4.1.cell 5;have ez:=hp4.1.lt;have HGR:=zh hp4;clear hown' hgrow h3' h4' hp4))|(go_at_call 61;(refine(QH.out _ HGR.out.2.2.1).mono ?_;rintro e6 w6 ⟨rfl,hb6⟩;have HG6:=zh (HGR.out.go hb6);clear hb6)))
    have hl2:(acc++m).length=acc.length+m.length:=List.length_append;refine⟨⟨i+1,o5,c5,acc++m,by omega,by go_num,by rw[hl2],?_,?_,by rw[hl2];omega,by rw[hl2];exact HG6.out⟩,by simp[intOf];omega⟩
    ·rw[←Ci.out];exact congrArg (Value.int .i64) (by omega)
    ·rw[←Ci.out];exact HMR.out
end Go.Proofs.YtnhjakdmbfadlaaGreatDoor
namespace Go.Proofs.YtnhjakdmbfadlaaGreatDoor
open Go.RowKit Wy Mem Grow
variable {lazy s11 s13 s14 s5:Bool} {s:ByteArray} {hi lo st:Int} {cs ds ucs:List Value} {acc:List Wy.Way} {G L base g n p q sz uc:Nat} {N:Nat→Prop} {sub:Nd} {uo_:Option Addr} {T:TypeId} {ov dm u11 u13 u5 v':Value} {W Wa w w' w1 w4:World}
def fP (G L:Nat) (w1:World) (acc:List Wy.Way) (ov:Value) (w:World):Prop:=Below w1.heap.size w1 w∧∃cs,w.ownsRow w1.heap.size 79 2 ov acc.length cs∧aH (TB 129 w) w G L acc cs
theorem fP.go (h:fP G L w1 acc ov w) (hb:Below w.heap.size w w'):fP G L w1 acc ov w':=by
 obtain⟨h1,cs,h2,h3⟩:=h;exact⟨h1.trans (hb.mono h1.size),cs,aB h2 (zK hb) (fun _ _=>id),h3.ed hb⟩
theorem fP.push {m:List Wy.Way} (h:Below w1.heap.size w1 w) (hcs:w.ownsRow w1.heap.size 79 2 ov acc.length cs) (hw:aH (TB 129 w) w G L acc cs)
  (hd:aH (TB 129 w) w G L m ds) (hg:w.grownBy w4 ov.ownBlock) (ho:w4.ownsRow w1.heap.size 79 2 v' (acc.length+m.length) (cs++ds)):fP G L w1 (acc++m) v' w4:=by
 have k:=Kept.bK hg;exact⟨((Kept.of_below h (fun b=>ov.ownBlock=some b)).trans k).below (fun q hq e=>by have:=(hcs.lt q e).1;omega),cs++ds,by rw[List.length_append];exact ho,(hw.typ k (dR hcs (by decide))).append (hd.typ k (dR hcs (by decide)))⟩
def cpW (Wa:World) (st:Int) (n:Nat) (cs:List Value) (s5 s11 s13 s14:Bool) (u5 u11 u13:Value) (w':World):Prop:=
 Below Wa.heap.size Wa w'∧(s5=true→s11=false→∃c,u5= .slice c 0 0∧w'.ownsRow Wa.heap.size 129 2 u5 0 [])∧
 (s11=true→∃o c,u11= .slice o n c∧w'.ownsRow Wa.heap.size 129 2 u11 n cs)∧
 (s13=true→∃q,u13= .pointer (some ⟨q,0,none⟩)∧Wa.heap.size≤q∧Blk w' q (if s14 then #[.int .i64 st,u11] else #[.int .i64 0,.slice none 0 0]) 79)
theorem cpW.go (h:cpW Wa st n cs s5 s11 s13 s14 u5 u11 u13 w) (hb:Below w.heap.size w w'):cpW Wa st n cs s5 s11 s13 s14 u5 u11 u13 w':=by
 obtain⟨h1,h2,h3,h4⟩:=h;have k:Kept (fun _=>False) w w':=Kept.of_below hb _;refine⟨h1.trans (hb.mono h1.size),fun e1 e2=> ?_,fun e=> ?_,fun e=> ?_⟩
 ·obtain⟨c,e,h⟩:=h2 e1 e2;exact⟨c,e,aB h k (fun _ _=>id)⟩
 ·obtain⟨o,c,e,h⟩:=h3 e;exact⟨o,c,e,aB h k (fun _ _=>id)⟩
 ·obtain⟨q,e,hq,h⟩:=h4 e;exact⟨q,e,hq,h.kept k id⟩
theorem KF (hb:base≤W.heap.size):(W.alloc (.cells #[] T)).ownsRow base T sz (.slice (some ⟨W.heap.size,0,none⟩) 0 0) 0 []:=
 ⟨by simp,.inr ⟨W.heap.size,0,#[],rfl,hb,Blk.new _ _ _,Nat.le_refl _,Nat.zero_le _,by simp,by simp⟩⟩
theorem cpW.app (h:cpW Wa st n cs true false s13 false u5 u11 u13 w) (hown:w.ownsRow Wa.heap.size 129 2 u5 0 [])
  (hg:w.grownBy w4 u5.ownBlock) (ho:w4.ownsRow Wa.heap.size 129 2 v' n cs):cpW Wa st n cs true true s13 false u5 v' u13 w4:=by
 obtain⟨h1,-,-,h4⟩:=h;have k:=Kept.bK hg;obtain⟨o,c,e⟩:=ay ho;refine⟨((Kept.of_below h1 (fun b=>u5.ownBlock=some b)).trans k).below (fun q hq e=>by have:=(hown.lt q e).1;omega),fun _ e=>(by cases e),fun _=>⟨o,c,e,ho⟩,fun e=> ?_⟩;obtain⟨q,e1,hq,h⟩:=h4 e;exact⟨q,e1,hq,h.kept k (cZ hown h (by decide))⟩
theorem cpW.put (h:cpW Wa st n cs true true true false u5 u11 (.pointer (some ⟨q,0,none⟩)) w):cpW Wa st n cs true true true true u5 u11 (.pointer (some ⟨q,0,none⟩)) ((w.setCell ⟨q,0,none⟩ (.int .i64 st)).setCell ⟨q,1,none⟩ u11):=by
 obtain⟨h1,-,h3,h4⟩:=h;obtain⟨q',e1,hq,hB⟩:=h4 rfl;simp only[Value.pointer.injEq,Option.some.injEq,Addr.mk.injEq,and_true] at e1;subst e1;obtain⟨o,c,e,ho⟩:=h3 rfl;have hne:=cZ ho hB (by decide);exact⟨(h1.setCell hq _).setCell hq _,fun _ e=>(by cases e),fun _=>⟨o,c,e,ownsRow_setCell_other (ownsRow_setCell_other ho (a:=⟨q,0,none⟩) hne _) (a:=⟨q,1,none⟩) hne _⟩,fun _=>⟨q,rfl,hq,(hB.set 0 _).set 1 _⟩⟩
theorem NS
  (hsp:iU s G sub) (hs:s.size≤32) (hG:G≤64) (hg:g+1+opened sub≤G) (hp:Bnd s p)
  (hrow:Row N w (.slice uo_ [sub].length uc) [sub].length 6 ucs) (hsub:au N w [sub] ucs):
  Calls Tryz.prog 60 #[.agg #[.int .u8 6,dm,.int .i64 lo,.int .i64 hi,.bool lazy,.slice uo_ 1 uc],.string s,.int .i64 (p:Nat),.int .i64 (g:Nat),.int .i64 (G:Nat)] w
   (Rwl G s.size ((Wy.wy (ak G) (aN s) sub (g+1) p).map fun l=>l.map ((ak G).mark g p)) w):=by
 obtain⟨i0,hi0,hz0,hz1,hz2⟩:=info_parts sJ;obtain⟨j0,hj0,hy0,hy1,hy2⟩:=info_parts DK;have hpI:(p:Int)≤32:=by have:=hp.1;omega
 have hgI:(g:Int)<G:=(by omega);have hGI:(G:Int)≤64:=(by omega);have hg1:(g:Int)+1=((g+1:Nat):Int):=(by omega);have hb0:Below w.heap.size w (w.alloc (.cells #[.int .u8 6,dm,.int .i64 lo,.int .i64 hi,.bool lazy,.slice uo_ 1 uc] 70)):=zR.alloc zL _;obtain⟨ub,uo,k',lo',hi',lz',p1,p2,n1,c1,n2,c2,hue,Gu,bg,t0,t1,t2,t3,t4,t5,hnd⟩:=jc hrow hsub hb0 (i:=0) (by simp);subst hue;simp only[Nat.zero_mul,Nat.add_zero] at t0 t1 t2 t3 t4 t5;have hcall:=hsp N _ _ (g+1) p hnd (by show g+1+opened sub≤G;exact hg) hp;obtain⟨o,ho⟩:∃o,o=Wy.wy (ak G) (aN s) sub (g+1) p:=⟨_,rfl⟩;have hlen:∀l,o=some l→l.length≤500:=fun l h=>fV (ho.symm.trans h)
 rw[←ho] at hcall ⊢;rw[←hg1] at hcall;have aS:=zh hcall;have HLEN:=zh hlen;clear hcall hlen hsp hrow hsub hp hnd ho hg hg1;cases o with
 |none=>
  go_enter Tryz.func60,Tryz.ntmps60
  go_wp2_with (first|(go_at_call 60;(refine aS.out.mono ?_;rintro e1 w1 ⟨hb1,rfl⟩;have HB1:=zh hb1;clear hb1)))
  exact bodyPost_ret (v:= .tuple #[.slice none 0 0,.bool false]) (by simp[results,Tryz.results60,go_sem]) rfl ⟨hb0.trans (HB1.out.mono hb0.size),rfl⟩
 |some l=>
  have hll:=HLEN.out l rfl;have O7:(l.length:Int)≤500:=(by omega);go_enter Tryz.func60,Tryz.ntmps60
  go_wp2_with (first|(go_at_call 60;(refine aS.out.mono ?_;rintro e1 w1 ⟨hb1,v1,cs1,rfl,hown1,sN⟩;obtain⟨o1,c1',rfl⟩:=ay hown1;have H1:=zh (And.intro hb1 (And.intro hown1 sN));clear hb1 hown1 sN)))
  go_loopw [12,27] (fun s12 s27 wx=>∃(i:Nat) (o':Option Addr) (c':Nat),i≤l.length∧s27= .int .i64 i∧s12= .slice o' ((l.take i).map ((ak G).mark g p)).length c'∧fP G s.size w1 ((l.take i).map ((ak G).mark g p)) (.slice o' ((l.take i).map ((ak G).mark g p)).length c') wx) (fun _ s27 _=>l.length-(intOf s27).toNat)
  case atStart=>exact⟨0,none,0,by omega,rfl,rfl,zR,[],zN,rfl⟩
  case round=>
   rename World=>Wa
   obtain⟨i,o',c',hi,rfl,rfl,hgr⟩:=hrel;have HGR:=zh hgr;by_cases hil:¬i<l.length
   ·obtain rfl:i=l.length:=(by omega);have hle:((l.take l.length).map ((ak G).mark g p)).length=l.length:=by rw[List.take_length,List.length_map]
    have hlI:decide ((500:Int)<((l.take l.length).map ((ak G).mark g p)).length)=false:=by rw[hle];exact decide_eq_false (by omega)
    obtain⟨P,hP⟩:∃P,P=(l.take l.length).map ((ak G).mark g p):=⟨_,rfl⟩;rw[←hP] at hlI hle HGR ⊢;have HP:=zh hP;clear hgr hil hle hP
    go_wp2_with fail
    obtain⟨h1,cs,h2,h3⟩:=HGR.out;have hb1:=H1.out.1;exact bodyPost_ret (v:= .tuple #[.slice o' P.length c',.bool true]) (by simp[results,Tryz.results60,go_sem]) rfl ⟨hb0.trans ((hb1.mono hb0.size).trans (h1.mono (by have:=hb1.size;have:=hb0.size;omega))),by
     have e:l.map ((ak G).mark g p)=P:=by rw[HP.out,List.take_length]
     show∃v cs,_=_∧Wa.ownsRow _ _ _ v (l.map ((ak G).mark g p)).length cs∧aH _ Wa G s.size (l.map ((ak G).mark g p)) cs
     rw[e];exact⟨_,cs,rfl,bY h2 (by have:=hb1.size;have:=hb0.size;omega),h3⟩⟩
   ·have hil:i<l.length:=(by omega);have hiI:(i:Int)<l.length:=(by omega);obtain⟨P,hP⟩:∃P,P=(l.take i).map ((ak G).mark g p):=⟨_,rfl⟩;have hPl:P.length≤500:=by rw[hP,List.length_map,List.length_take];omega
    rw[←hP] at hgr HGR ⊢;have hPs:P++[(ak G).mark g p l[i]]=(l.take (i+1)).map ((ak G).mark g p):=by rw[hP,List.take_succ_eq_append_getElem hil,List.map_append];rfl
    have hin:lV 129 (fun b=>b<w1.heap.size) w1 G s.size (.slice o1 l.length c1') l:=lV.dD H1.out.2.1 H1.out.2.2 (fun b _ h=>h);obtain⟨ib,io,ic,e1,hic,-,-,TI,TJ⟩:=hin.cells (by omega);simp only[Value.slice.injEq,true_and] at e1;obtain⟨rfl,rfl⟩:=e1;have hicI:(l.length:Int)≤c1':=(by omega);obtain⟨xs,hx0,hx1,hxs,hxl,hxg⟩:=TJ i hil;obtain⟨x,hx⟩:∃x,x=l[i]:=⟨_,rfl⟩;rw[←hx] at hx0 hxs hxl hxg hPs;obtain⟨ox,cx,rfl⟩:=hxs.row.slice;have hbw:=hgr.1;have hR:∀w',Below Wa.heap.size Wa w'→w'.cell? ⟨ib,io+i*2,none⟩=some (.int .i64 x.stop)∧w'.cell? ⟨ib,io+i*2+1,none⟩=some (.slice ox x.spans.length cx)∧ib<w'.heap.size∧aC (TB 129 w') w' (.slice ox x.spans.length cx) x.spans:=fun w' h=>by
     have hb:=hbw.trans (h.mono hbw.size);exact⟨(zW (hb.block _ TI)).trans hx0,(zW (hb.block _ TI)).trans hx1,by have:=hb.size;omega,hxs.ed hb⟩
    have HR:=zh hR;have HXG:=zh hxg;have HXL:=zh hxl;have HXS:=zh hxs.ok;have HPS:=zh hPs;have hnG:x.spans.length≤64:=(by omega);obtain⟨n,hn⟩:∃n,n=x.spans.length:=⟨_,rfl⟩;rw[←hn] at HR hnG;have HN:=zh hn;have hnI:(n:Int)≤64:=(by omega);clear TJ hx0 hx1 hxs hgr hR hxg hxl hPs hP hin hx hn
    go_wp2_with fail
    apply mV ?hm ?hok [some (.slice (some ⟨ib,io,none⟩) l.length c1'),some (.int .i64 (i:Nat)),some (.pointer (some ⟨ib,io+i*2,none⟩)),some (.pointer (some ⟨ib,io+i*2,none⟩)),some (.int .i64 x.stop),none,some (.slice (some ⟨ib,io,none⟩) l.length c1'),some (.int .i64 (i:Nat)),some (.pointer (some ⟨ib,io+i*2,none⟩)),some (.pointer (some ⟨ib,io+i*2+1,none⟩)),some (.slice ox n cx),none,none,none,some undef] (fun S u w'=>cpW Wa x.stop n (x.spans.flatMap bP) (S 5) (S 11) (S 13) (S 14) (u 5) (u 11) (u 13) w'∧(S 12=true→u 12= .agg #[.int .i64 x.stop,u 11]))
    case hm=>rfl
    case hok=>kernel_rfl
    case hw=>exact⟨⟨zR.drew,fun e=>(by cases e),fun e=>(by cases e),fun e=>(by cases e)⟩,fun e=>(by cases e)⟩
    case h=>
     intro u;iterate 5
      apply bZ rfl
      case hs=>exact fun _ _ _ h=>h
      case h=>
       intro S w2 hS hW K hK;obtain⟨q0,q1,q2,-⟩:=HR.out w2 hW.1.1;clear hW hS
       go_wp2_with fail
       exact hK
      case' k=>simp only[zP,zQ,zB,zC]
     apply bH rfl
     case h=>
      intro S w2 hS hW K hK
      go_wp2_with fail
      have h11:=hS.last 11 (by kernel_rfl);have h12:=hS.last 12 (by kernel_rfl);obtain⟨hW,D5⟩:=hW;have hg:=hW.go ((Below.refl w2.heap.size w2).alloc zL (.cells #[] 129));exact⟨⟨hg.1,fun _ _=>⟨_,rfl,KF hW.1.size⟩,hg.2.2.1,hg.2.2.2⟩,fun e=>D5 e⟩
     case' k=>simp only[zP,zQ,zB,zC]
     iterate 5
      apply bZ rfl
      case hs=>exact fun _ _ _ h=>h
      case h=>
       intro S w2 hS hW K hK;obtain⟨q0,q1,q2,-⟩:=HR.out w2 hW.1.1;clear hW hS
       go_wp2_with fail
       exact hK
      case' k=>simp only[zP,zQ,zB,zC]
     apply bH rfl
     case h=>
      intro S w2 hS hW K hK;have h5:=hS.deps 5 (by kernel_rfl);have h11:=hS.new;have h14:=hS.last 14 (by kernel_rfl);have h12:=hS.last 12 (by kernel_rfl);obtain⟨hW,-⟩:=hW;simp only[h5,h11,h14] at hW;obtain⟨c5,hu5,hown5⟩:=hW.2.1 rfl rfl;have hsp:=(HR.out w2 hW.1).2.2.2;have hsr:dI w2 (.slice ox n cx) n (x.spans.flatMap bP):=by
       have:=jV hsp.row;rw[←HN.out] at this;exact this
      have hsl:(x.spans.flatMap bP).length=n*2:=by rw[HN.out];exact iZ (f:=bP) (fun _=>rfl) _
      have hK':=fun v' w4 h1 h2=>hK v' w4 (by
       refine⟨?_,fun e=> ?_⟩
       ·show cpW Wa x.stop n (x.spans.flatMap bP) (S 5) true (S 13) (S 14) (u 5) v' (u 13) w4
        rw[h5,h14];exact hW.app hown5 h1 h2
       ·have e2:S 12=true:=e;rw[h12] at e2;cases e2)
      rw[hu5] at hK' hown5 ⊢;refine aY _ _ 77 rfl Tryz.underlying77 hj0 hy0 hy1 hy2 rfl (.slice c5 0 0) 0 [] rfl hown5 _ n (x.spans.flatMap bP) rfl hsr hsl (mX _) (by unfold maxLen;omega) (by omega) hW.1.size ?_;intro v' w4 hown' hgrow h3' h4';exact hK' v' w4 hgrow (by simpa using hown')
     case' k=>simp only[zP,zQ,zB,zC]
     apply bH rfl
     case h=>
      intro S w2 hS hW K hK;have h11:=hS.deps 11 (by kernel_rfl);obtain⟨o11,c11,uj,-⟩:=hW.1.2.2.1 h11;have hK':=hK (.agg #[.int .i64 x.stop,u 11]) w2 ⟨hW.1,fun _=>rfl⟩;rw[uj] at hK' ⊢;have HK:=zh hK';clear hK hK' hW hS uj
      go_wp2_with fail
      exact HK.out
     case' k=>simp only[zP,zQ,zB,zC]
     apply bH rfl
     case h=>
      intro S w2 hS hW K hK;have h14:=hS.last 14 (by kernel_rfl);obtain⟨hW,D5⟩:=hW;have hg:=hW.go ((Below.refl w2.heap.size w2).alloc zL (.cells #[.int .i64 0,.slice none 0 0] 79));have hK':=hK (.pointer (some ⟨w2.heap.size,0,none⟩)) _ (by
       refine⟨?_,fun e=>D5 e⟩;show cpW Wa x.stop n (x.spans.flatMap bP) (S 5) (S 11) true (S 14) (u 5) (u 11) (.pointer (some ⟨w2.heap.size,0,none⟩)) _
       rw[h14] at hg ⊢;exact⟨hg.1,hg.2.1,hg.2.2.1,fun _=>⟨_,rfl,hW.1.size,Blk.new _ _ _⟩⟩)
      have HK:=zh hK';clear hK hK' hW hS hg
      go_wp2_with fail
      exact HK.out
     case' k=>simp only[zP,zQ,zB,zC]
     apply gY rfl
     case h=>
      intro S w2 hS hW K hK;have h11:=hS.deps 11 (by kernel_rfl);have h12:=hS.deps 12 (by kernel_rfl);have h13:=hS.deps 13 (by kernel_rfl);have h14:=hS.new;have h5:S 5=true:=hS.deps 5 (by kernel_rfl);obtain⟨hW,D5⟩:=hW;have zJ:=D5 h12;simp only[h5,h11,h13,h14] at hW;obtain⟨q,D6,hqz,hB⟩:=hW.2.2.2 rfl;obtain⟨o11,c11,uj,-⟩:=hW.2.2.1 rfl;have hK':=hK ((w2.setCell ⟨q,0,none⟩ (.int .i64 x.stop)).setCell ⟨q,1,none⟩ (u 11)) (by
       refine⟨?_,fun e=>D5 e⟩;show cpW Wa x.stop n (x.spans.flatMap bP) (S 5) (S 11) (S 13) true (u 5) (u 11) (u 13) _
       rw[h5,h11,h13];rw[D6] at hW ⊢;exact hW.put)
      rw[zJ,D6,uj];rw[zJ,D6,uj] at hK';have qz:=hB.lt;have q0:=hB.cell 0;have q1:=hB.cell 1;have qf:=hB.frozen;have HK:=zh hK';clear hK hK' hW hS zJ D6 uj hB D5
      go_wp2_with fail
      exact HK.out
     case' k=>simp only[zP,zQ,zB,zC]
     refine kV ?_;intro S w7 hS hW;have h11:=hS 11 (by decide);have h13:=hS 13 (by decide);have h14:=hS 14 (by decide);obtain⟨hW,-⟩:=hW;simp only[h11,h13,h14] at hW;obtain⟨q,D6,hqz,hB⟩:=hW.2.2.2 rfl;obtain⟨o11,c11,uj,qo⟩:=hW.2.2.1 rfl;rw[D6];rw[uj] at hB qo;have hgn:g<n:=by have:=HN.out;have:=HXG.out;omega
     have hgnI:(g:Int)<n:=(by omega);obtain⟨rb,rc,er,hrb,hrz,hnc⟩:=gJ qo (by omega);simp only[Value.slice.injEq,true_and] at er;obtain⟨rfl,rfl⟩:=er;have hncI:(n:Int)≤c11:=(by omega);have hgs:g<x.spans.length:=by have:=HN.out;omega
     have hd:∀j,j<2→w7.cell? ⟨rb,g*2+j,none⟩=(bP x.spans[g])[j]? :=fun j hj=>by
      rw[qo.cellAt (g*2+j) (by omega),qx (f:=bP) (n:=2) (fun _=>rfl) x.spans g j hgs hj]
     obtain⟨v0,d0⟩:∃v0,w7.cell? ⟨rb,g*2,none⟩=some (.int .i64 v0):=⟨_,hd 0 (by omega)⟩;obtain⟨v3,d1⟩:∃v0,w7.cell? ⟨rb,g*2+1,none⟩=some (.int .i64 v0):=⟨_,hd 1 (by omega)⟩;have hfz:∀j,w7.frozen? ⟨rb,j,none⟩=false:=fun j=>qo.frozenAt j
     have hqr:q≠rb:=fun e=>cZ qo hB (by decide) (by simp[Value.ownBlock,e])
     have e8:=((qo.stored (g*2) (.int .i64 (p:Nat))).1.stored (g*2+1) (.int .i64 (x.stop:Nat))).1;rw[nY x.spans g ((p:Int),(x.stop:Int)) hgs] at e8;have hB8:Blk ((w7.setCell ⟨rb,g*2,none⟩ (.int .i64 (p:Nat))).setCell ⟨rb,g*2+1,none⟩ (.int .i64 (x.stop:Nat))) q #[.int .i64 x.stop,.slice (some ⟨rb,0,none⟩) n c11] 79:=(hB.setOther hqr _).setOther hqr _;have hb8:Below Wa.heap.size Wa ((w7.setCell ⟨rb,g*2,none⟩ (.int .i64 (p:Nat))).setCell ⟨rb,g*2+1,none⟩ (.int .i64 (x.stop:Nat))):=(hW.1.setCell hrb _).setCell hrb _;have b0:=hB.cell 0;have b1:=hB.cell 1;have bz:=hB.lt;generalize hw8:((w7.setCell ⟨rb,g*2,none⟩ (.int .i64 (p:Nat))).setCell ⟨rb,g*2+1,none⟩ (.int .i64 (x.stop:Nat)))=w8 at e8 hB8 hb8;have hzl:((ak G).mark g p x).spans.length=n:=by show(x.spans.set g _).length=n;rw[List.length_set,HN.out]
     have TK:aC (TB 129 w8) w8 (.slice (some ⟨rb,0,none⟩) n c11) ((ak G).mark g p x).spans:=by
      refine⟨?_,?_,by rw[hzl];exact hnG⟩
      ·rw[hzl];exact Row.iR e8
      ·intro y hy;rcases List.mem_or_eq_of_mem_set hy with h|h
       ·exact HXS.out y h
       ·rw[h];have:=HXL.out;unfold I64;constructor<;>constructor<;>simp<;>omega
     have MB:=HGR.out.go (hb8.alloc hb8.size (.cells #[.int .i64 x.stop,.slice (some ⟨rb,0,none⟩) n c11] 79));obtain⟨hg1,cs9,QI,TL⟩:=MB;have hsr:dI (w8.alloc (.cells #[.int .i64 x.stop,.slice (some ⟨rb,0,none⟩) n c11] 79)) (.slice (some ⟨w8.heap.size,0,none⟩) 1 1) 1 [.int .i64 x.stop,.slice (some ⟨rb,0,none⟩) n c11]:=Bz rfl;have hds:aH (TB 129 (w8.alloc (.cells #[.int .i64 x.stop,.slice (some ⟨rb,0,none⟩) n c11] 79))) (w8.alloc (.cells #[.int .i64 x.stop,.slice (some ⟨rb,0,none⟩) n c11] 79)) G s.size [(ak G).mark g p x] [.int .i64 x.stop,.slice (some ⟨rb,0,none⟩) n c11]:=
      aH.one (x:=(ak G).mark g p x) (TK.ed (zR.alloc zL _)) HXL.out (by rw[hzl,HN.out];exact HXG.out)
     have hfin:∀(v':Value) w9,(w8.alloc (.cells #[.int .i64 x.stop,.slice (some ⟨rb,0,none⟩) n c11] 79)).grownBy w9 (Value.slice o' P.length c').ownBlock→w9.ownsRow w1.heap.size 79 2 v' (P.length+1) (cs9++[.int .i64 x.stop,.slice (some ⟨rb,0,none⟩) n c11])→fP G s.size w1 (P++[(ak G).mark g p x]) v' w9:=fun v' w9 hg ho=>fP.push hg1 QI TL hds hg ho
     have bW:=zh hfin;have HSR:=zh hsr;have HCS:=zh QI;have hbs:w1.heap.size≤(w8.alloc (.cells #[.int .i64 x.stop,.slice (some ⟨rb,0,none⟩) n c11] 79)).heap.size:=hg1.size;have HBS:=zh hbs;have hmx:P.length+1≤maxLen:=by unfold maxLen;omega
     have hby:(P.length+1)*32≤140737488355328:=(by omega);have q0:=hB8.cell 0;have q1:=hB8.cell 1;have qz:=hB8.lt;clear hfin hsr QI hbs hg1 TL hds TK hzl e8 hB8 hb8 hB qo hW hd hS h11 h13 h14 D6 uj hqr hrb hgs;obtain⟨u5,hu5⟩:∃v,v=u 5:=⟨_,rfl⟩;obtain⟨u11,uj⟩:∃v,v=u 11:=⟨_,rfl⟩;obtain⟨u12,zJ⟩:∃v,v=u 12:=⟨_,rfl⟩;rw[←hu5,←uj,←zJ];clear hu5 uj zJ;go_upto_region 12 with fail
     go_wp2_with (first|(at_builtin;(refine aA rfl _ _ 73 rfl Tryz.underlying73 hi0 hz0 hz1 hz2 rfl (.slice o' P.length c') P.length cs9 rfl HCS.out _ 1 _ rfl HSR.out rfl (by simp[Value.oneCell']) hmx hby HBS.out ?_;intro v' w9 hown' hgrow h3' h4';obtain⟨o5,c5,rfl⟩:=ay hown';have HG:=zh (bW.out _ w9 hgrow hown');clear hown' hgrow h3' h4')))
     go_roundw
     case rel=>
      have hl2:((l.take (i+1)).map ((ak G).mark g p)).length=P.length+1:=by rw[←HPS.out];simp
      exact⟨i+1,o5,c5,by omega,by go_num,by rw[hl2],by rw[hl2,←HPS.out];exact HG.out⟩
     case measure=>simp[intOf];omega
variable {Q:Exit→Act→World→Prop} {more bG:List Wy.Way} {b cm cn k0 lb lc lo_:Nat} {om on:Option Addr} {wb:World} {x:Wy.Way}
noncomputable def waC (p:List Nat):Code:=gU (way p) (Tryz.f60.body.getD .skip)
theorem jK {l:List Value} (h:l.length=233):∃e:Nat→Value,l=[e 0,e 1,e 2,e 3,e 4,e 5,e 6,e 7,e 8,e 9,e 10,e 11,e 12,e 13,e 14,e 15,e 16,e 17,e 18,e 19,e 20,e 21,e 22,e 23,e 24,e 25,e 26,e 27,e 28,e 29,e 30,e 31,e 32,e 33,e 34,e 35,e 36,e 37,e 38,e 39,e 40,e 41,e 42,e 43,e 44,e 45,e 46,e 47,e 48,e 49,e 50,e 51,e 52,e 53,e 54,e 55,e 56,e 57,e 58,e 59,e 60,e 61,e 62,e 63,e 64,e 65,e 66,e 67,e 68,e 69,e 70,e 71,e 72,e 73,e 74,e 75,e 76,e 77,e 78,e 79,e 80,e 81,e 82,e 83,e 84,e 85,e 86,e 87,e 88,e 89,e 90,e 91,e 92,e 93,e 94,e 95,e 96,e 97,e 98,e 99,e 100,e 101,e 102,e 103,e 104,e 105,e 106,e 107,e 108,e 109,e 110,e 111,e 112,e 113,e 114,e 115,e 116,e 117,e 118,e 119,e 120,e 121,e 122,e 123,e 124,e 125,e 126,e 127,e 128,e 129,e 130,e 131,e 132,e 133,e 134,e 135,e 136,e 137,e 138,e 139,e 140,e 141,e 142,e 143,e 144,e 145,e 146,e 147,e 148,e 149,e 150,e 151,e 152,e 153,e 154,e 155,e 156,e 157,e 158,e 159,e 160,e 161,e 162,e 163,e 164,e 165,e 166,e 167,e 168,e 169,e 170,e 171,e 172,e 173,e 174,e 175,e 176,e 177,e 178,e 179,e 180,e 181,e 182,e 183,e 184,e 185,e 186,e 187,e 188,e 189,e 190,e 191,e 192,e 193,e 194,e 195,e 196,e 197,e 198,e 199,e 200,e 201,e 202,e 203,e 204,e 205,e 206,e 207,e 208,e 209,e 210,e 211,e 212,e 213,e 214,e 215,e 216,e 217,e 218,e 219,e 220,e 221,e 222,e 223,e 224,e 225,e 226,e 227,e 228,e 229,e 230,e 231,e 232]:=by
 refine⟨fun k=>l.getD k undef,?_⟩;have h2:l=(List.range 233).map fun k=>l.getD k undef:=by
  apply List.ext_getElem
  ·simp[h]
  ·intro i h1 h2;simp[List.getD_eq_getElem?_getD,h1]
 exact h2
def nK (v:Value) (b:Nat):Prop:=v.ownBlock≠some b
def caW (G L:Nat) (wb Wa:World) (nx:List Wy.Way) (more:List Wy.Way) (mv:Value) (y:Wy.Way):List Value→World→Prop
 |[]=>fun w'=>w'=Wa.drew
 |[v]=>fun w'=>∃v',v= .agg #[.int .i64 y.stop,v']∧aC (TB 129 w') w' v' y.spans∧Below Wa.heap.size Wa w'
 |[v,p]=>fun w'=>∃v' a,v= .agg #[.int .i64 y.stop,v']∧p= .slice (some ⟨a,0,none⟩) 1 1∧aC (TB 129 w') w' v' y.spans∧Below Wa.heap.size Wa w'∧Blk w' a #[.int .i64 y.stop,v'] 79∧Wa.heap.size≤a
 |[_,_,v]=>fun w'=>∃o c,v= .slice o (nx.length+1) c∧fP G L wb (nx++[y]) v w'∧lV 129 (nK v) w' G L mv more
 |_=>fun _=>False
theorem srcW {c0 c1:Value} (hB:Blk w b #[c0,c1] T):dI w (.slice (some ⟨b,0,none⟩) 1 1) 1 [c0,c1]:=by
 refine .inr ⟨_,_,rfl,fun j u hu=> ?_⟩
 match j with
 |0=>simp at hu;subst hu;simp[Addr.add,hB.cell]
 |1=>simp at hu;subst hu;simp[Addr.add,hB.cell]
 |j+2=>simp at hu
theorem TM {nx:List Wy.Way} (e:Nat→Value)
  (hi:k0<bG.length) (hx:x=bG[k0]) (hll:bG.length≤500) (hlc:bG.length≤lc) (hml:more.length≤500) (hnl:nx.length≤500) (hpr:∀y∈more,Prp y.spans) (hG:G≤64)
  (hL:lV 129 (fun b=>b<wb.heap.size) wb G L (.slice (some ⟨lb,lo_,none⟩) bG.length lc) bG) (hM:lV 129 (nK (.slice on nx.length cn)) W G L (.slice om more.length cm) more) (hN:fP G L wb nx (.slice on nx.length cn) W)
  (hQ:∀(m:List Value) (w':World) (o':Option Addr) (c':Nat),m.length=233→(m[1]? =some (e 1)∧m[3]? =some (e 3)∧m[4]? =some (e 4)∧m[5]? =some (e 5)∧m[12]? =some (.slice (some ⟨lb,lo_,none⟩) bG.length lc)∧m[13]? =some (e 13)∧m[16]? =some (e 16)∧m[18]? =some (.int .i64 (k0:Nat)))→m[17]? =some (.slice o' (nx++more.map ((ak G).thn x)).length c')→
   fP G L wb (nx++more.map ((ak G).thn x)) (.slice o' (nx++more.map ((ak G).thn x)).length c') w'→Q (.exit 7) ⟨m.toArray,[]⟩ w'):
  Code.wp Tryz.prog (waC [1,1,1,0,1,0,1,1,1,1,1,0,1,1,0,0,1,0,0,1,0,1,0,0,1,0,0,1,1,1,0]) Q ⟨#[e 0,e 1,e 2,e 3,e 4,e 5,e 6,e 7,e 8,e 9,e 10,e 11,.slice (some ⟨lb,lo_,none⟩) bG.length lc,e 13,e 14,e 15,e 16,.slice on nx.length cn,.int .i64 (k0:Nat),.slice om more.length cm,e 20,.int .i64 0,e 22,e 23,e 24,e 25,e 26,e 27,e 28,e 29,e 30,e 31,e 32,e 33,e 34,e 35,e 36,e 37,e 38,e 39,e 40,e 41,e 42,e 43,e 44,e 45,e 46,e 47,e 48,e 49,e 50,e 51,e 52,e 53,e 54,e 55,e 56,e 57,e 58,e 59,e 60,e 61,e 62,e 63,e 64,e 65,e 66,e 67,e 68,e 69,e 70,e 71,e 72,e 73,e 74,e 75,e 76,e 77,e 78,e 79,e 80,e 81,e 82,e 83,e 84,e 85,e 86,e 87,e 88,e 89,e 90,e 91,e 92,e 93,e 94,e 95,e 96,e 97,e 98,e 99,e 100,e 101,e 102,e 103,e 104,e 105,e 106,e 107,e 108,e 109,e 110,e 111,e 112,e 113,e 114,e 115,e 116,e 117,e 118,e 119,e 120,e 121,e 122,e 123,e 124,e 125,e 126,e 127,e 128,e 129,e 130,e 131,e 132,e 133,e 134,e 135,e 136,e 137,e 138,e 139,e 140,e 141,e 142,e 143,e 144,e 145,e 146,e 147,e 148,e 149,e 150,e 151,e 152,e 153,e 154,e 155,e 156,e 157,e 158,e 159,e 160,e 161,e 162,e 163,e 164,e 165,e 166,e 167,e 168,e 169,e 170,e 171,e 172,e 173,e 174,e 175,e 176,e 177,e 178,e 179,e 180,e 181,e 182,e 183,e 184,e 185,e 186,e 187,e 188,e 189,e 190,e 191,e 192,e 193,e 194,e 195,e 196,e 197,e 198,e 199,e 200,e 201,e 202,e 203,e 204,e 205,e 206,e 207,e 208,e 209,e 210,e 211,e 212,e 213,e 214,e 215,e 216,e 217,e 218,e 219,e 220,e 221,e 222,e 223,e 224,e 225,e 226,e 227,e 228,e 229,e 230,e 231,e 232],[]⟩ W:=by
 obtain⟨i0,hi0,hz0,hz1,hz2⟩:=info_parts sJ;obtain⟨lb2,lo2,lc2,e2,-,-,-,hlz,wM⟩:=hL.cells (by omega);simp only[Value.slice.injEq,Option.some.injEq,Addr.mk.injEq,and_true,true_and] at e2;obtain⟨⟨rfl,rfl⟩,rfl⟩:=e2;obtain⟨xs,hx0,hx1,hxs,hxl,hxg⟩:=wM k0 hi;rw[←hx] at hx0 hxs hxl hxg;have hiI:(k0:Int)<bG.length:=(by omega);have hlI:(bG.length:Int)≤500:=(by omega);have MC:(bG.length:Int)≤lc:=(by omega);have hmI:(more.length:Int)≤500:=(by omega);have HXC:=zh (And.intro hx0 (And.intro hx1 (And.intro hxs (And.intro hxl hxg))));have HPR:=zh hpr;have HQ:=zh hQ;have HMN:=zh (And.intro hM hN);clear wM hx0 hx1 hxs hxl hxg hpr hQ hM hN hL hx;conv=>arg 2;whnf
 go_wp2_with fail
 go_loopw [17,21] (fun s17 s21 wx=>∃(k:Nat) (o':Option Addr) (c':Nat),k≤more.length∧s21= .int .i64 k∧s17= .slice o' (nx++(more.take k).map ((ak G).thn x)).length c'∧fP G L wb (nx++(more.take k).map ((ak G).thn x)) (.slice o' (nx++(more.take k).map ((ak G).thn x)).length c') wx∧lV 129 (nK (.slice o' (nx++(more.take k).map ((ak G).thn x)).length c')) wx G L (.slice om more.length cm) more) (fun _ s21 _=>more.length-(intOf s21).toNat)
 case atStart=>exact⟨0,on,cn,by omega,rfl,by simp,by simpa using HMN.out.2,by simpa using HMN.out.1⟩
 case round=>
  rename World=>Wa
  obtain⟨k,o',c',hk,rfl,rfl,hnx,hmr⟩:=hrel;obtain⟨P,hP⟩:∃P,P=nx++(more.take k).map ((ak G).thn x):=⟨_,rfl⟩;have hPl:P.length≤1000:=by
   rw[hP,List.length_append,List.length_map,List.length_take];omega
  rw[←hP] at hnx hmr ⊢;have HP:=zh hP;by_cases hkl:¬k<more.length
  ·obtain rfl:k=more.length:=(by omega);have hPe:P=nx++more.map ((ak G).thn x):=by rw[HP.out,List.take_length]
   have HN2:=zh hnx;have HPE:=zh hPe;clear hnx hmr hP hPe hkl
   go_wp2_with fail
   have HQ2:=HQ.out;rw[←HPE.out] at HQ2;exact HQ2 _ _ o' c' rfl ⟨rfl,rfl,rfl,rfl,rfl,rfl,rfl,rfl⟩ rfl HN2.out
  ·have hkl:k<more.length:=(by omega);have hkI:(k:Int)<more.length:=(by omega);obtain⟨mb,mo,mc,e3,hmc,hmc2,hmap,hmz,oN⟩:=hmr.cells (by omega);simp only[Value.slice.injEq,true_and] at e3;obtain⟨rfl,rfl⟩:=e3;have CV:(more.length:Int)≤cm:=(by omega);obtain⟨ys,hy0,hy1,hys,hyl,hyg⟩:=oN k hkl;obtain⟨y,hy⟩:∃y,y=more[k]:=⟨_,rfl⟩;have hpy:Prp y.spans:=by rw[hy];exact HPR.out _ (List.getElem_mem hkl)
   have hPs:P++[(ak G).thn x y]=nx++(more.take (k+1)).map ((ak G).thn x):=by
    rw[HP.out,List.take_succ_eq_append_getElem hkl,List.map_append,List.append_assoc,hy]
    rfl
   rw[←hy] at hy0 hys hyl hyg;have zY:lb<Wa.heap.size:=by have:=hnx.1.size;omega
   have hxa:Wa.cell? ⟨lb,lo_+k0*2,none⟩=some (.int .i64 x.stop)∧Wa.cell? ⟨lb,lo_+k0*2+1,none⟩=some xs∧aC (TB 129 Wa) Wa xs x.spans:=by
    obtain⟨h0,h1,h2,-,-⟩:=HXC.out;exact⟨(zW (hnx.1.block _ hlz)).trans h0,(zW (hnx.1.block _ hlz)).trans h1,h2.typ (zK hnx.1) (fun _ _=>id)⟩
   obtain⟨Kr,Kt,hxs⟩:=hxa;obtain⟨ox,cx,rfl⟩:=hxs.row.slice;obtain⟨oy,cy,rfl⟩:=hys.row.slice;have hxg:x.spans.length=G:=HXC.out.2.2.2.2;have hR:∀w',Below Wa.heap.size Wa w'→w'.cell? ⟨lb,lo_+k0*2,none⟩=some (.int .i64 x.stop)∧w'.cell? ⟨lb,lo_+k0*2+1,none⟩=some (.slice ox x.spans.length cx)∧w'.cell? ⟨mb,mo+k*2,none⟩=some (.int .i64 y.stop)∧w'.cell? ⟨mb,mo+k*2+1,none⟩=some (.slice oy y.spans.length cy)∧lb<w'.heap.size∧mb<w'.heap.size:=fun w' h=>
    ⟨(zW (h.block _ zY)).trans Kr,(zW (h.block _ zY)).trans Kt,(zW (h.block _ hmz)).trans hy0,(zW (h.block _ hmz)).trans hy1,by have:=h.size;omega,by have:=h.size;omega⟩
   have hcall:∀w',Below Wa.heap.size Wa w'→Calls Tryz.prog 81 #[.agg #[.int .i64 x.stop,.slice ox x.spans.length cx],.agg #[.int .i64 y.stop,.slice oy y.spans.length cy]] w' (Rwy y.stop (thenS x.spans y.spans) w'):=fun w' h=>
    yg (hxs.ed h) (hys.ed h) (by rw[hxg,hyg]) hpy
   obtain⟨z,hz⟩:∃z,z=(ak G).thn x y:=⟨_,rfl⟩;have hzs:(y.stop:Int)=z.stop:=by rw[hz];rfl
   rw[←hz] at hPs;have Ku:∀(w1:World) (v':Value),w1.ownsRow Wa.heap.size 129 2 v' (thenS x.spans y.spans).length ((thenS x.spans y.spans).flatMap bP)→aC (TB 129 w1) w1 v' z.spans:=fun w1 v' h=>by
    rw[hz];exact⟨Row.iR h,fun s hs=>(rP hs).elim (hxs.ok s) (hys.ok s),by rw[vM];rw[dY (by rw[hxg,hyg]),hyg];exact hG⟩
   have hzl:z.stop≤L:=by rw[hz];exact hyl
   have hzg:z.spans.length=G:=by rw[hz,vM];exact(dY (by rw[hxg,hyg])).trans hyg
   have hown:∀w1,Below Wa.heap.size Wa w1→∃cs,w1.ownsRow wb.heap.size 79 2 (.slice o' P.length c') P.length cs∧aH (TB 129 w1) w1 G L P cs:=fun w1 hb1=>by
    obtain⟨-,cs,h1,h2⟩:=hnx;exact⟨cs,aB h1 (zK hb1) (fun _ _=>id),h2.ed hb1⟩
   have hend:∀(w1 w4:World) (v' nv':Value),Below Wa.heap.size Wa w1→aC (TB 129 w1) w1 v' z.spans→∀cs,w1.ownsRow wb.heap.size 79 2 (.slice o' P.length c') P.length cs→aH (TB 129 w1) w1 G L P cs→w1.grownBy w4 (Value.slice o' P.length c').ownBlock→w4.ownsRow wb.heap.size 79 2 nv' (P.length+1) (cs++[.int .i64 z.stop,v'])→(nv'.ownBlock=(Value.slice o' P.length c').ownBlock∨nv'.ownBlock=some w1.heap.size)→
     fP G L wb (P++[z]) nv' w4∧lV 129 (nK nv') w4 G L (.slice (some ⟨mb,mo,none⟩) more.length cm) more:=fun w1 w4 v' nv' hb1 hsp cs hcs hws hg ho hnb=>by
    have k4:=Kept.bK hg;have k1:Kept (fun _=>False) Wa w1:=Kept.of_below hb1 _;refine⟨fP.push (m:=[z]) (hnx.1.trans (hb1.mono hnx.1.size)) hcs hws (aH.one (x:=z) hsp hzl hzg) hg ho,?_⟩;obtain⟨cs5,hr5,hw5⟩:=hmr;refine⟨cs5,?_,(hw5.typ k1 (fun _ _=>id)).typ k4 (dR hcs (by decide))⟩;have hr6:Row (fun b=>nK (.slice o' P.length c') b∧b<Wa.heap.size) Wa (.slice (some ⟨mb,mo,none⟩) more.length cm) more.length 2 cs5:=by
     refine⟨hr5.len,?_⟩;rcases hr5.at_ with h0|⟨b,off,cap,e,a1,a2,a3,a4,a5⟩
     ·exact .inl h0
     ·exact .inr ⟨b,off,cap,e,a1,a2,⟨a3,a4⟩,a4,a5⟩
    refine gp ((gp hr6 k1 (M:=fun b=>nK (.slice o' P.length c') b∧b<Wa.heap.size) (fun _ _ h=>⟨id,h⟩))) k4 (fun b _ h=>⟨h.1,fun e=> ?_⟩);rcases hnb with hnb|hnb
    ·exact h.1 (hnb.symm.trans e)
    ·rw[hnb] at e;simp only[Option.some.injEq] at e;have:=hb1.size;have:=h.2;omega
   have hbz:wb.heap.size≤Wa.heap.size:=hnx.1.size;have HR:=zh hR;have aS:=zh hcall;have Qx:=zh Ku;have dL:=zh hend;have HOWN:=zh hown;have HPS:=zh hPs;have HXG:=zh hxg;have HYG:=zh hyg;have HZ:=zh hz;have HZS:=zh hzs;have hmx:P.length+1≤maxLen:=by unfold maxLen;omega
   have hby:(P.length+1)*32≤140737488355328:=(by omega);clear hR hcall Ku hend hown hPs hxg hyg hz hzs hzl hzg hxs hys Kr Kt hy0 hy1 oN hmr hnx hP hy hpy hmap
   go_wp2_with fail
   apply aJ ?hm ?hok [0,1,2,3,4,5,6,7,8,9,10,11,12] [9,10,11] [12] ?hord (fun w'=>Below Wa.heap.size Wa w') (caW G L wb Wa P more (.slice (some ⟨mb,mo,none⟩) more.length cm) z)
   case hm=>rfl
   case hok=>kernel_rfl
   case hord=>kernel_rfl
   case hb=>
    intro L' w' h hl
    match L' with
    |[]=>rw[h];exact zR.drew
    |[v]=>obtain⟨_,_,_,h3⟩:=h;exact h3
    |[v,p]=>obtain⟨_,_,_,_,_,h3,_⟩:=h;exact h3
    |_::_::_::_=>simp at hl;omega
   case hw=>rfl
   case h=>
    apply ae _ rfl rfl rfl rfl
    case h=>
     intro W1 hW K hK
     go_wp2_with fail
     exact hK
    simp only[zP,zQ,zB,zC];apply ae _ rfl rfl rfl rfl
    case h=>
     intro W1 hW K hK
     go_wp2_with fail
     exact hK
    simp only[zP,zQ,zB,zC];apply ae _ rfl rfl rfl rfl
    case h=>
     intro W1 hW K hK
     go_wp2_with fail
     exact hK
    simp only[zP,zQ,zB,zC];apply ae _ rfl rfl rfl rfl
    case h=>
     intro W1 hW K hK
     go_wp2_with fail
     exact hK
    simp only[zP,zQ,zB,zC];apply ae _ rfl rfl rfl rfl
    case h=>
     intro W1 hW K hK
     (obtain⟨q0,q1,q2,q3,q4,q5⟩:=HR.out _ hW)
     go_wp2_with fail
     exact hK
    simp only[zP,zQ,zB,zC];apply ae _ rfl rfl rfl rfl
    case h=>
     intro W1 hW K hK
     go_wp2_with fail
     exact hK
    simp only[zP,zQ,zB,zC];apply ae _ rfl rfl rfl rfl
    case h=>
     intro W1 hW K hK
     go_wp2_with fail
     exact hK
    simp only[zP,zQ,zB,zC];apply ae _ rfl rfl rfl rfl
    case h=>
     intro W1 hW K hK
     go_wp2_with fail
     exact hK
    simp only[zP,zQ,zB,zC];apply ae _ rfl rfl rfl rfl
    case h=>
     intro W1 hW K hK
     (obtain⟨q0,q1,q2,q3,q4,q5⟩:=HR.out _ hW)
     go_wp2_with fail
     exact hK
    simp only[zP,zQ,zB,zC];apply ax rfl rfl rfl
    case h=>
     intro W1 hW K hK;obtain rfl:W1=Wa.drew:=hW
     go_wp2_with (go_at_call 81;(refine(aS.out _ zR.drew).mono ?_;rintro e w' ⟨v',rfl,hown',hb'⟩))
     exact⟨v',by rw[HZS.out],Qx.out w' v' hown',(Below.refl Wa.heap.size Wa).drew.trans hb'⟩
    intro v hv;obtain⟨_,v',rfl,hsv,-⟩:=hv;obtain⟨oz,cz,rfl⟩:=hsv.row.slice;obtain⟨zn,hzn⟩:∃zn,zn=z.spans.length:=⟨_,rfl⟩;rw[←hzn];have HZN:=zh hzn;clear hsv hzn;simp only[zP,zQ,zB,zC];apply ax rfl rfl rfl
    case h=>
     intro W1 hW K hK;obtain⟨v',e1,hsp,hb1⟩:=hW;simp only[Value.agg.injEq,Array.mk.injEq,List.cons.injEq,and_true,true_and] at e1;subst e1;have H1:=zh (And.intro hsp hb1);clear hsp hb1
     go_wp2_with fail
     have hz1:=H1.out.2.size;refine⟨_,W1.heap.size,rfl,rfl,H1.out.1.ed (zR.alloc zL _),H1.out.2.alloc hz1 _,Blk.new _ _ _,hz1⟩
    intro v hv;obtain⟨_,v',a,e1,rfl,-⟩:=hv;clear e1;simp only[zP,zQ,zB,zC];apply ax rfl rfl rfl
    case h=>
     intro W1 hW K hK;obtain⟨v',a2,e1,e2,hsp,hb1,hB,-⟩:=hW;simp only[Value.agg.injEq,Array.mk.injEq,List.cons.injEq,and_true,true_and] at e1;subst e1;simp only[Value.slice.injEq,Option.some.injEq,Addr.mk.injEq,and_true] at e2;subst e2;obtain⟨cs,hcs,hsw⟩:=HOWN.out W1 hb1;have hsz1:wb.heap.size≤W1.heap.size:=by have:=hb1.size;omega
     refine aY _ _ 73 rfl Tryz.underlying73 hi0 hz0 hz1 hz2 rfl (.slice o' P.length c') P.length cs rfl hcs _ 1 _ rfl (srcW hB) rfl (by simp[Value.oneCell']) hmx hby hsz1 ?_;intro nv' w4 hown' hgrow h3' h4';obtain⟨o5,c5,rfl⟩:=ay hown';obtain⟨h5,h6⟩:=dL.out W1 w4 _ _ hb1 hsp cs hcs hsw hgrow hown' h3';exact hK _ _ ⟨o5,c5,rfl,h5,h6⟩
    intro v hv;obtain⟨_,o5,c5,rfl,-⟩:=hv;simp only[zP,zQ,zB,zC];apply ag _ rfl rfl rfl rfl
    case h=>
     intro W1 hW K hK
     go_wp2_with fail
     exact hK
    simp only[zP,zQ,zB,zC];refine aG fun W7 h7=> ?_
    obtain⟨o6,c6,e6,h7,h8⟩:=h7;simp only[Value.slice.injEq,true_and] at e6;obtain⟨rfl,rfl⟩:=e6;have H7:=zh (And.intro h7 h8);clear h7 h8
    go_wp2_with fail
    go_roundw
    case rel=>
     have hl5:P.length+1=(nx++(more.take (k+1)).map ((ak G).thn x)).length:=by rw[←HPS.out,List.length_append];rfl
     exact⟨k+1,o5,c5,by omega,by go_num,by rw[←hl5],by rw[←hl5,←HPS.out];exact H7.out.1,by rw[←hl5];exact H7.out.2⟩
    case measure=>simp[intOf];omega
end Go.Proofs.YtnhjakdmbfadlaaGreatDoor
