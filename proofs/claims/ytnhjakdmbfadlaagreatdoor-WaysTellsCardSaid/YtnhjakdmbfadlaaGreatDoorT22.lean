/- Parts of the proof. Conditions: none. -/
import Derived.Test.YtnhjakdmbfadlaaGreatDoorT02
import Derived.Test.YtnhjakdmbfadlaaGreatDoorT00
import Derived.Test.YtnhjakdmbfadlaaGreatDoorT03
import Derived.Test.YtnhjakdmbfadlaaGreatDoorT04
import Derived.Test.YtnhjakdmbfadlaaGreatDoorT21
import Derived.Test.YtnhjakdmbfadlaaGreatDoorT17
import Derived.Test.YtnhjakdmbfadlaaGreatDoorT18
import Derived.Test.YtnhjakdmbfadlaaGreatDoorT14
set_option linter.all false
set_option maxHeartbeats 8000000
set_option maxRecDepth 100000
namespace Go.Proofs.YtnhjakdmbfadlaaGreatDoor
open Go.RowKit Wy
def nC (c:Int):Nd:= .mk 2 [⟨c,c⟩] 0 0 false []
def ig (l:List UInt8):ByteArray:=⟨l.toArray⟩
def t1A:Nd:= .mk 4 [] 0 0 false [nC 97,.mk 3 [] 0 0 false [nC 97,nC 98]]
def t2A:Nd:= .mk 3 [] 0 0 false [.mk 6 [] 0 0 false [.mk 5 [] 0 (-1) false [nC 97]],.mk 6 [] 0 0 false [.mk 5 [] 0 (-1) false [nC 97]]]
def t3A:Nd:= .mk 5 [] 0 (-1) true [nC 97]
def t4A:Nd:= .mk 5 [] 0 (-1) false [.mk 6 [] 0 0 false [.mk 4 [] 0 0 false [nC 97,.mk 6 [] 0 0 false [nC 98]]]]
def t5A:Nd:= .mk 5 [] 1 (-1) false [nC 233]
def t6A:Nd:= .mk 3 [] 0 0 false [.mk 4 [] 0 0 false [nC 97,.mk 3 [] 0 0 false [nC 97,nC 98]],.mk 5 [] 0 1 false [.mk 6 [] 0 0 false [.mk 4 [] 0 0 false [nC 99,.mk 3 [] 0 0 false [nC 98,nC 99,nC 100]]]],.mk 6 [] 0 0 false [.mk 5 [] 0 (-1) false [nC 100]]]
theorem MR:mQ (ig [97,124,97,98])=some t1A:=by kernel_rfl
theorem MS:mQ (ig [40,97,42,41,40,97,42,41])=some t2A:=by kernel_rfl
theorem MV:mQ (ig [97,42,63])=some t3A:=by kernel_rfl
theorem MW:mQ (ig [40,97,124,40,98,41,41,42])=some t4A:=by kernel_rfl
theorem MX:mQ (ig [195,169,43])=some t5A:=by kernel_rfl
theorem MZ:mQ (ig [40,63,58,97,124,97,98,41,40,99,124,98,99,100,41,63,40,100,42,41])=some t6A:=by kernel_rfl
theorem Na:right t1A=true:=by kernel_rfl
theorem Nb:right t2A=true:=by kernel_rfl
theorem Nc:right t3A=true:=by kernel_rfl
theorem Nh:right t4A=true:=by kernel_rfl
theorem Nj:right t5A=true:=by kernel_rfl
theorem Nk:right t6A=true:=by kernel_rfl
theorem yc:∀t∈[t1A,t2A,t3A,t4A,t5A,t6A],opened t≤30∧nodes t≤1000000:=by decide+kernel
end Go.Proofs.YtnhjakdmbfadlaaGreatDoor
namespace Go.Proofs.YtnhjakdmbfadlaaGreatDoor
open Go.RowKit Wy Mem Grow
variable {J:Act→World→Prop} {s:ByteArray} {Q:Exit→Act→World→Prop} {l:List Wy.Way} {b i:Nat} {t:Nd} {W w w':World}
noncomputable def awC (p:List Nat):Code:=gU (way p) (Tryz.f10.body.getD .skip)
theorem lg {l:List Value} (h:l.length=143):∃e:Nat→Value,l=[e 0,e 1,e 2,e 3,e 4,e 5,e 6,e 7,e 8,e 9,e 10,e 11,e 12,e 13,e 14,e 15,e 16,e 17,e 18,e 19,e 20,e 21,e 22,e 23,e 24,e 25,e 26,e 27,e 28,e 29,e 30,e 31,e 32,e 33,e 34,e 35,e 36,e 37,e 38,e 39,e 40,e 41,e 42,e 43,e 44,e 45,e 46,e 47,e 48,e 49,e 50,e 51,e 52,e 53,e 54,e 55,e 56,e 57,e 58,e 59,e 60,e 61,e 62,e 63,e 64,e 65,e 66,e 67,e 68,e 69,e 70,e 71,e 72,e 73,e 74,e 75,e 76,e 77,e 78,e 79,e 80,e 81,e 82,e 83,e 84,e 85,e 86,e 87,e 88,e 89,e 90,e 91,e 92,e 93,e 94,e 95,e 96,e 97,e 98,e 99,e 100,e 101,e 102,e 103,e 104,e 105,e 106,e 107,e 108,e 109,e 110,e 111,e 112,e 113,e 114,e 115,e 116,e 117,e 118,e 119,e 120,e 121,e 122,e 123,e 124,e 125,e 126,e 127,e 128,e 129,e 130,e 131,e 132,e 133,e 134,e 135,e 136,e 137,e 138,e 139,e 140,e 141,e 142]:=by
 refine⟨fun k=>l.getD k undef,?_⟩;have h2:l=(List.range 143).map fun k=>l.getD k undef:=by
  apply List.ext_getElem
  ·simp[h]
  ·intro i h1 h2;simp[List.getD_eq_getElem?_getD,h1]
 exact h2
structure Ex (p s:ByteArray) (t:Nd) (l:List Wy.Way):Prop where
 parse:mQ p=some t
 ps:p.size≤1024
 rt:right t=true
 no:nodes t≤1000000
 ss:s.size≤32
 sv:Lib.validD s.data.toList=true
 ways:Wy.ways (aN s) t=some l
theorem BK (h:right t=true):(Wy.look t).shaped=true∧(Wy.look t).bC=true∧opened t≤30∧(Wy.look t).depth≤40:=by
 have ho:=iC h;simp only[Wy.right,mM,Bool.and_eq_true,decide_eq_true_eq] at h;exact⟨h.1.1.1,h.1.1.2,ho,h.2⟩
theorem Ex.tree {p:ByteArray} (h:Ex p s t l) (w:World):Calls Tryz.prog 11 #[.string p] w (Trd (fun q=>w.heap.size≤q) t w):=by
 obtain⟨h1,h2,h3,h4⟩:=BK h.rt;exact Jg (Jv h.parse h.ps) h.ps h1 h2 h3 h4 h.no w
def Awl (s:ByteArray) (t:Nd) (l:List Wy.Way) (w:World) (e:Ending) (w':World):Prop:=∃v,e= .returned (.tuple #[v,.int .i64 0])∧aI (fun q=>w.heap.size≤q) w' (opened t) s.size v l∧Below w.heap.size w w'
theorem tabs_below (h:Lib.Utf8Tabs 0 1 w) (hn:bu w) (k:Below w.heap.size w w'):Lib.Utf8Tabs 0 1 w':=bF h (zK k) id id (by have:=hn.1;omega)
theorem Ex.all {p:ByteArray} (h:Ex p s t l) {w:World} {cs:List Value} (hn:ai (fun _=>True) w t cs) (htab:Lib.Utf8Tabs 0 1 w) (hnone:bu w):Calls Tryz.prog 13 #[.agg cs.toArray,.string s] w (Awl s t l w):=
 (uy hn h.rt h.no h.ss h.sv htab hnone).mono fun e w' ⟨h1,h2⟩=>by
  rw[h.ways] at h2;obtain⟨v,h3,h4⟩:=h2;exact⟨v,h3,h4,h1⟩
theorem Ex.len {p:ByteArray} (h:Ex p s t l):l.length≤500:=by
 have:=h.ways;unfold Wy.ways at this;exact fV this
def aw4 (W:World) (s:ByteArray) (t:Nd) (l:List Wy.Way) (s2 s5 s6 s7 s9:Bool) (u2 u5 u6 u7 u9:Value) (w':World):Prop:=
 Below W.heap.size W w'∧(s5=false→s2=true→∃cs,u2= .agg cs.toArray∧ai (fun _=>True) w' t cs)∧
 (s5=true→∃v,u5= .tuple #[v,.int .i64 0]∧aI (fun _=>True) w' (opened t) s.size v l∧(s6=true→u6= .tuple #[v,.int .i64 0])∧(s7=true→u7=v)∧(s9=true→u9=v))
def aw5 (W:World) (l:List Nat) (s4:Bool) (u4:Value) (w':World):Prop:=Below W.heap.size W w'∧(s4=true→Row (fun _=>True) w' u4 l.length 1 (cO l))
theorem Gn {T:Nat} {p:ByteArray} (e:Nat→Value) (hi:i<5) (hex:Ex p s t l) (htab:Lib.Utf8Tabs 0 1 W) (hnone:bu W)
  (c0:W.cell? ⟨T,i*3,none⟩=some (.string p)) (c1:W.cell? ⟨T,i*3+1,none⟩=some (.string s)) (c2:W.cell? ⟨T,i*3+2,none⟩=some (.slice (some ⟨b,0,none⟩) l.length l.length)) (cz:T<W.heap.size)
  (hrow:Row (fun _=>True) W (.slice (some ⟨b,0,none⟩) l.length l.length) l.length 1 (cO (l.map Wy.Way.stop)))
  (hJ:∀(m:List Value) (w':World),m.length=143→m[25]? =some (.slice (some ⟨T,0,none⟩) 5 5)→m[26]? =some (.int .i64 5)→m[27]? =some (.int .i64 ((i+1:Nat):Int))→Below W.heap.size W w'→J ⟨m.toArray,[]⟩ w'):
  Code.wp Tryz.prog (awC [1,0,1,0,0]) (Exit.then J Q) ⟨#[e 0,e 1,e 2,e 3,e 4,e 5,e 6,e 7,e 8,e 9,e 10,e 11,e 12,e 13,e 14,e 15,e 16,e 17,e 18,e 19,e 20,e 21,e 22,e 23,e 24,.slice (some ⟨T,0,none⟩) 5 5,.int .i64 5,.int .i64 i,e 28,e 29,e 30,e 31,e 32,e 33,e 34,e 35,e 36,e 37,e 38,e 39,e 40,e 41,e 42,e 43,e 44,e 45,e 46,e 47,e 48,e 49,e 50,e 51,e 52,e 53,e 54,e 55,e 56,e 57,e 58,e 59,e 60,e 61,e 62,e 63,e 64,e 65,e 66,e 67,e 68,e 69,e 70,e 71,e 72,e 73,e 74,e 75,e 76,e 77,e 78,e 79,e 80,e 81,e 82,e 83,e 84,e 85,e 86,e 87,e 88,e 89,e 90,e 91,e 92,e 93,e 94,e 95,e 96,e 97,e 98,e 99,e 100,e 101,e 102,e 103,e 104,e 105,e 106,e 107,e 108,e 109,e 110,e 111,e 112,e 113,e 114,e 115,e 116,e 117,e 118,e 119,e 120,e 121,e 122,e 123,e 124,e 125,e 126,e 127,e 128,e 129,e 130,e 131,e 132,e 133,e 134,e 135,e 136,e 137,e 138,e 139,e 140,e 141,e 142],[]⟩ W:=by
 have hiI:(i:Int)<5:=(by omega);have hlen:=hex.len;obtain⟨n,hn⟩:∃n,n=l.length:=⟨_,rfl⟩;rw[←hn] at c2 hrow hlen;have hB1:Blk (W.alloc (.cells #[.string p,.string s,.slice (some ⟨b,0,none⟩) n n] 95)) W.heap.size #[.string p,.string s,.slice (some ⟨b,0,none⟩) n n] 95:=Blk.new _ _ _;have hb1:Below W.heap.size W (W.alloc (.cells #[.string p,.string s,.slice (some ⟨b,0,none⟩) n n] 95)):=zR.alloc zL _;have hrow1:=gp hrow (zK hb1) (fun _ _ h=>⟨id,h⟩);have htab1:=tabs_below htab hnone hb1;have Jw:=hnone.below hb1;have HEX:=zh hex;have HN:=zh hn;have HB1:=zh hB1;have oL:=zh hb1;have dQ:=zh hrow1;have mZ:=zh htab1;have gq:=zh Jw;have HJ:=zh hJ;clear hJ hex hn hB1 hb1 hrow hrow1 htab htab1 hnone Jw;conv=>arg 2;whnf
 go_upto_region 4 with fail
 generalize (W.alloc (.cells #[.string p,.string s,.slice (some ⟨b,0,none⟩) n n] 95))=W1 at HB1 oL dQ mZ gq ⊢;apply mV ?hm ?hok [some _,some _,none,some _,some _,none,none,none,some (.int .i64 0),none,some (.int .i64 0)] (fun S u w'=>aw4 W1 s t l (S 2) (S 5) (S 6) (S 7) (S 9) (u 2) (u 5) (u 6) (u 7) (u 9) w') ?hw ?h
 case hm=>rfl
 case hok=>kernel_rfl
 case hw=>exact⟨zR.drew,fun _ e=>(by cases e),fun e=>(by cases e)⟩
 case h=>
  intro u;iterate 2
   apply bZ rfl
   case hs=>exact fun _ _ _ h=>h
   case h=>
    intro S w hS hW K hK;have B:=HB1.out.below hW.1 HB1.out.lt;have b0:=B.cell 0;have b1:=B.cell 1;have b2:=B.cell 2;have bz:=B.lt;clear B hW hS
    go_wp2_with fail
    exact hK
   case' k=>simp only[zP,zQ,zB,zC]
  apply bH rfl
  case h=>
   intro S w hS hW K hK;have h5:=hS.last 5 (by kernel_rfl);have hK':=fun cs w' hn hb=>hK (.agg (List.toArray cs)) w' (by
    show aw4 W1 s t l true (S 5) (S 6) (S 7) (S 9) (.agg (List.toArray cs)) (u 5) (u 6) (u 7) (u 9) w'
    exact⟨hW.1.trans (Below.mono hb hW.1.size),fun _ _=>⟨cs,rfl,hn⟩,fun e=>Bool.noConfusion (h5.symm.trans e)⟩)
   have HK:=zh hK';have HT:=zh (HEX.out.tree w);clear hS hW hK hK' h5
   go_wp2_with (go_at_call 11;(refine HT.out.mono ?_;rintro ee w' ⟨cs,rfl,hn,hb'⟩))
   exact HK.out cs _ (ai.mono (fun _ _=>trivial) hn) hb'
  case' k=>simp only[zP,zQ,zB,zC]
  iterate 2
   apply bZ rfl
   case hs=>exact fun _ _ _ h=>h
   case h=>
    intro S w hS hW K hK;have B:=HB1.out.below hW.1 HB1.out.lt;have b0:=B.cell 0;have b1:=B.cell 1;have b2:=B.cell 2;have bz:=B.lt;clear B hW hS
    go_wp2_with fail
    exact hK
   case' k=>simp only[zP,zQ,zB,zC]
  apply bH rfl
  case h=>
   intro S w hS hW K hK;have h2:=hS.deps 2 (by kernel_rfl);have h5:=hS.new;have h6:=hS.last 6 (by kernel_rfl);have h7:=hS.last 7 (by kernel_rfl);have h9:=hS.last 9 (by kernel_rfl);obtain⟨cs,hu2,hn⟩:=hW.2.1 h5 h2;have hC:=HEX.out.all hn (tabs_below mZ.out gq.out hW.1) (gq.out.below hW.1);rw[←hu2] at hC;have hK':=fun v w' hx hb=>hK (.tuple #[v,.int .i64 0]) w' (by
    show aw4 W1 s t l (S 2) true (S 6) (S 7) (S 9) (u 2) (.tuple #[v,.int .i64 0]) (u 6) (u 7) (u 9) w'
    exact⟨hW.1.trans (Below.mono hb hW.1.size),fun e=>(by cases e),fun _=>⟨v,rfl,hx,fun e=>Bool.noConfusion (h6.symm.trans e),fun e=>Bool.noConfusion (h7.symm.trans e),fun e=>Bool.noConfusion (h9.symm.trans e)⟩⟩)
   have HK:=zh hK';have HC:=zh hC;clear hS hW hK hK' h2 h5 h6 h7 h9 hu2 hn hC
   go_wp2_with (go_at_call 13;(refine HC.out.mono ?_;rintro ee w' ⟨v,rfl,hx,hb'⟩))
   exact HK.out v _ (hx.mono (fun _ _=>trivial)) hb'
  case' k=>simp only[zP,zQ,zB,zC]
  apply bH rfl
  case h=>
   intro S w hS hW K hK;have h5:=hS.deps 5 (by kernel_rfl);have h7:=hS.last 7 (by kernel_rfl);have h9:=hS.last 9 (by kernel_rfl);obtain⟨v,hu5,hx,-,-,-⟩:=hW.2.2 h5;have hK':=hK (.tuple #[v,.int .i64 0]) w (by
    show aw4 W1 s t l (S 2) (S 5) true (S 7) (S 9) (u 2) (u 5) (.tuple #[v,.int .i64 0]) (u 7) (u 9) w
    exact⟨hW.1,hW.2.1,fun _=>⟨v,hu5,hx,fun _=>rfl,fun e=>Bool.noConfusion (h7.symm.trans e),fun e=>Bool.noConfusion (h9.symm.trans e)⟩⟩)
   rw[hu5] at hK' ⊢;have HK:=zh hK';clear hS hW hK hK' h5 h7 h9 hu5 hx
   go_wp2_with fail
   exact HK.out
  case' k=>simp only[zP,zQ,zB,zC]
  apply bH rfl
  case h=>
   intro S w hS hW K hK;have h5:=hS.deps 5 (by kernel_rfl);have h6:=hS.deps 6 (by kernel_rfl);have h9:=hS.last 9 (by kernel_rfl);obtain⟨v,hu5,hx,hu6,-,-⟩:=hW.2.2 h5;have hu6:=hu6 h6;have hK':=hK v w (by
    show aw4 W1 s t l (S 2) (S 5) (S 6) true (S 9) (u 2) (u 5) (u 6) v (u 9) w
    exact⟨hW.1,hW.2.1,fun _=>⟨v,hu5,hx,fun _=>hu6,fun _=>rfl,fun e=>Bool.noConfusion (h9.symm.trans e)⟩⟩)
   rw[hu6] at hK' ⊢;have HK:=zh hK';clear hS hW hK hK' h5 h6 h9 hu5 hu6 hx
   go_wp2_with fail
   exact HK.out
  case' k=>simp only[zP,zQ,zB,zC]
  apply bZ rfl
  case hs=>exact fun _ _ _ h=>h
  case h=>
   intro S w hS hW K hK;have h5:=hS.deps 5 (by kernel_rfl);have h6:=hS.deps 6 (by kernel_rfl);obtain⟨v,hu5,hx,hu6,-,-⟩:=hW.2.2 h5;have hu6:=hu6 h6;rw[hu6] at hK ⊢;have HK:=zh hK;clear hS hW hK h5 h6 hu5 hu6 hx
   go_wp2_with fail
   exact HK.out
  case' k=>simp only[zP,zQ,zB,zC]
  apply bH rfl
  case h=>
   intro S w hS hW K hK;have h5:=hS.deps 5 (by kernel_rfl);have h7:=hS.deps 7 (by kernel_rfl);obtain⟨v,hu5,hx,hu6,hu7,-⟩:=hW.2.2 h5;have SC:=hu7 h7;have hK':=hK (u 7) w (by
    show aw4 W1 s t l (S 2) (S 5) (S 6) (S 7) true (u 2) (u 5) (u 6) (u 7) (u 7) w
    exact⟨hW.1,hW.2.1,fun _=>⟨v,hu5,hx,hu6,hu7,fun _=>SC⟩⟩)
   have HK:=zh hK';clear hS hW hK hK' h5 h7 hu5 hu6 hu7 SC hx
   go_wp2_with fail
   exact HK.out
  case' k=>simp only[zP,zQ,zB,zC]
  apply bZ rfl
  case hs=>exact fun _ _ _ h=>h
  case h=>
   intro S w hS hW K hK;clear hS hW
   go_wp2_with fail
   exact hK
  case' k=>simp only[zP,zQ,zB,zC]
  refine kV ?_;intro S W2 hS hW;obtain⟨v,-,hx,-,-,hu9⟩:=hW.2.2 (hS 5 (by decide));have hu9:=hu9 (hS 9 (by decide));rw[←hu9] at hx;have hb2:=hW.1;generalize u 9=lv at hx ⊢;have hB2:=HB1.out.below hb2 HB1.out.lt;have hrow2:=gp dQ.out (zK hb2) (fun _ _ h=>⟨id,h⟩);have hn:=HN.out;have hlm:(l.map Wy.Way.stop).length=n:=by rw[List.length_map,hn]
  have OH:∀w,Below W2.heap.size W2 w→Calls Tryz.prog 38 #[lv] w (Ens (l.map Wy.Way.stop) w):=fun w hb=>Aw (hx.go (zK hb) (fun _ _ h=>⟨id,h⟩)) HEX.out.len
  have Jy:∀w (v:Value),Below W2.heap.size W2 w→Row (fun _=>True) w v (l.map Wy.Way.stop).length 1 (cO (l.map Wy.Way.stop))→Calls Tryz.prog 34 #[v,.slice (some ⟨b,0,none⟩) n n] w (Eqs true w):=fun w v hb hr=>by
   have h2:=gp hrow2 (zK hb) (fun _ _ h=>⟨id,h⟩);rw[←hlm] at h2;have:=vZ (l:=l.map Wy.Way.stop) (m:=l.map Wy.Way.stop) hr h2 (by rw[hlm];omega) (by rw[hlm];omega);rw[decide_eq_true rfl,hlm] at this;exact this
  have hall:Below W.heap.size W W2:=oL.out.trans (hb2.mono oL.out.size);have fQ:=zh hall;have OI:=zh OH;have HEQ:=zh Jy;have HB2:=zh hB2;clear hS hW hx hu9 hb2 hB2 hrow2 hlm OH Jy hn hall HEX HN dQ mZ gq HB1 oL c0 c1 c2 cz;go_upto_region 5 with fail
  apply mV ?hm2 ?hok2 [some _,some _,some _,some _,none,some _,some _,some (.bool true),some (.bool false),some (.bool false)] (fun S u w'=>aw5 W2 (l.map Wy.Way.stop) (S 4) (u 4) w') ?hw2 ?h2
  case hm2=>rfl
  case hok2=>kernel_rfl
  case hw2=>exact⟨zR.drew,fun e=>(by cases e)⟩
  case h2=>
   intro uu;iterate 4
    apply bZ rfl
    case hs=>exact fun _ _ _ h=>h
    case h=>
     intro S w hS hW K hK;clear hS hW
     go_wp2_with fail
     exact hK
    case' k=>simp only[zP,zQ,zB,zC]
   apply bH rfl
   case h=>
    intro S w hS hW K hK;have hC:=OI.out w hW.1;have hK':=fun v w' hr hb=>hK v w' (by
     show aw5 W2 (l.map Wy.Way.stop) true v w'
     exact⟨hW.1.trans (Below.mono hb hW.1.size),fun _=>hr⟩)
    have HK:=zh hK';have HC:=zh hC;clear hS hW hK hK' hC
    go_wp2_with (go_at_call 38;(refine HC.out.mono ?_;rintro ee w' ⟨v,rfl,ho,hb'⟩))
    exact HK.out v _ (Row.dD ho (fun _ _ _=>trivial)) hb'
   case' k=>simp only[zP,zQ,zB,zC]
   iterate 2
    apply bZ rfl
    case hs=>exact fun _ _ _ h=>h
    case h=>
     intro S w hS hW K hK;have B:=HB2.out.below hW.1 HB2.out.lt;have b0:=B.cell 0;have b1:=B.cell 1;have b2:=B.cell 2;have bz:=B.lt;clear B hW hS
     go_wp2_with fail
     exact hK
    case' k=>simp only[zP,zQ,zB,zC]
   apply gY rfl
   case h=>
    intro S w hS hW K hK;have h4:=hS.deps 4 (by kernel_rfl);have hC:=HEQ.out w _ hW.1 (hW.2 h4);have hK':=fun w' hb=>hK w' (by
     show aw5 W2 (l.map Wy.Way.stop) (S 4) (uu 4) w'
     exact⟨hW.1.trans (Below.mono hb hW.1.size),fun e=>gp (hW.2 e) (zK hb) (fun _ _ h=>⟨id,h⟩)⟩)
    have HK:=zh hK';have HC:=zh hC;clear hS hW hK hK' hC h4
    go_wp2_with (go_at_call 34;(refine HC.out.mono ?_;rintro ee w' ⟨rfl,hb'⟩))
    exact HK.out _ hb'
   case' k=>simp only[zP,zQ,zB,zC]
   iterate 2
    apply bZ rfl
    case hs=>exact fun _ _ _ h=>h
    case h=>
     intro S w hS hW K hK;clear hS hW
     go_wp2_with fail
     exact hK
    case' k=>simp only[zP,zQ,zB,zC]
   refine kV ?_;intro S W3 hS hW;have hb3:Below W.heap.size W W3:=fQ.out.trans (hW.1.mono fQ.out.size);have HJ':=zh (fun(m:List Value) h0 h1 h2 h3=>HJ.out m W3 h0 h1 h2 h3 hb3);clear hS hW hb3 fQ OI HEQ HB2 HJ
   go_wp2_with fail
   exact HJ'.out _ rfl rfl rfl rfl
variable {cap g off:Nat} {T:TypeId} {sv:Value}
def l2A:List Wy.Way:=[⟨2,[(0,2),(2,2)]⟩,⟨2,[(0,1),(1,2)]⟩,⟨1,[(0,1),(1,1)]⟩,⟨2,[(0,0),(0,2)]⟩,⟨1,[(0,0),(0,1)]⟩,⟨0,[(0,0),(0,0)]⟩]
def lA (s:ByteArray) (t:Nd):List Wy.Way:=(Wy.ways (aN s) t).getD []
theorem ex1:Ex (ig [97,124,97,98]) (ig [97,98,99]) t1A (lA (ig [97,98,99]) t1A):=⟨MR,by decide+kernel,Na,(yc _ (by simp)).2,by decide+kernel,by kernel_rfl,by kernel_rfl⟩
theorem ex2:Ex (ig [40,97,42,41,40,97,42,41]) (ig [97,97]) t2A l2A:=⟨MS,by decide+kernel,Nb,(yc _ (by simp)).2,by decide+kernel,by kernel_rfl,by kernel_rfl⟩
theorem ex3:Ex (ig [97,42,63]) (ig [97,97]) t3A (lA (ig [97,97]) t3A):=⟨MV,by decide+kernel,Nc,(yc _ (by simp)).2,by decide+kernel,by kernel_rfl,by kernel_rfl⟩
theorem ex4:Ex (ig [40,97,124,40,98,41,41,42]) (ig [98,97]) t4A (lA (ig [98,97]) t4A):=⟨MW,by decide+kernel,Nh,(yc _ (by simp)).2,by decide+kernel,by kernel_rfl,by kernel_rfl⟩
theorem ex5:Ex (ig [195,169,43]) (ig [195,169,195,169]) t5A (lA (ig [195,169,195,169]) t5A):=⟨MX,by decide+kernel,Nj,(yc _ (by simp)).2,by decide+kernel,by kernel_rfl,by kernel_rfl⟩
theorem ex6:Ex (ig [40,63,58,97,124,97,98,41,40,99,124,98,99,100,41,63,40,100,42,41]) (ig [97,98,99,100]) t6A (lA (ig [97,98,99,100]) t6A):=⟨MZ,by decide+kernel,Nk,(yc _ (by simp)).2,by decide+kernel,by kernel_rfl,by kernel_rfl⟩
theorem Jz:(lA (ig [97,98,99]) t1A).map Wy.Way.stop=[1,2]:=by kernel_rfl
theorem JA:l2A.map Wy.Way.stop=[2,2,1,2,1,0]:=rfl
theorem JB:(lA (ig [97,97]) t3A).map Wy.Way.stop=[0,1,2]:=by kernel_rfl
theorem JC:(lA (ig [98,97]) t4A).map Wy.Way.stop=[2,1,0]:=by kernel_rfl
theorem JD:(lA (ig [195,169,195,169]) t5A).map Wy.Way.stop=[4,2]:=by kernel_rfl
theorem SE:(lA (ig [98,97]) t4A).find? (lT (ig [98,97]))=some ⟨2,[(1,2),(0,1)]⟩:=by kernel_rfl
theorem SG:(lA (ig [97,98,99,100]) t6A).find? lQ=some ⟨4,[(1,4),(4,4)]⟩:=by kernel_rfl
theorem Ex.whole {p:ByteArray} (h:Ex p s t l) {x:Wy.Way} (hx:l.find? (lT s)=some x) {w:World} {cs:List Value} (hn:ai (fun _=>True) w t cs) (htab:Lib.Utf8Tabs 0 1 w) (hnone:bu w):
  Calls Tryz.prog 15 #[.agg cs.toArray,.string s] w fun e w'=>∃v,e= .returned (.tuple #[v,.bool true,.int .i64 0])∧aC (fun _=>True) w' v x.spans∧Below w.heap.size w w':=
 (x8 hn h.rt h.no h.ss h.sv htab hnone).mono fun e w' ⟨h1,st,v,bb,er,h2,h3⟩=>by
  unfold qQ at h3;rw[h.ways] at h3;simp only[hx] at h3;obtain⟨-,rfl,rfl,h4⟩:=h3;exact⟨v,h2,h4.mono (fun _ _=>trivial),h1⟩
theorem Ex.first {p:ByteArray} (h:Ex p s t l) {x:Wy.Way} (hx:l.find? lQ=some x) {w:World} {cs:List Value} (hn:ai (fun _=>True) w t cs) (htab:Lib.Utf8Tabs 0 1 w) (hnone:bu w):
  Calls Tryz.prog 14 #[.agg cs.toArray,.string s] w fun e w'=>∃v,e= .returned (.tuple #[.agg #[.int .i64 x.stop,v],.bool true,.int .i64 0])∧aC (fun _=>True) w' v x.spans∧Below w.heap.size w w':=
 (first_any hn h.rt h.no h.ss h.sv htab hnone).mono fun e w' ⟨h1,st,v,bb,er,h2,h3⟩=>by
  unfold qQ at h3;rw[h.ways] at h3;simp only[hx] at h3;obtain⟨rfl,rfl,rfl,h4⟩:=h3;exact⟨v,h2,h4.mono (fun _ _=>trivial),h1⟩
theorem aC.BL {a0 a1 a2 a3:Int} (hB:Blk w b #[.int .i64 a0,.int .i64 a1,.int .i64 a2,.int .i64 a3] T) (h0:I64 a0) (h1:I64 a1) (h2:I64 a2) (h3:I64 a3):aC (fun _=>True) w (.slice (some ⟨b,0,none⟩) 2 2) [(a0,a1),(a2,a3)]:=by
 refine⟨⟨rfl,.inr ⟨b,0,2,rfl,Nat.le_refl _,by unfold maxLen;omega,trivial,hB.lt,fun j hj=> ?_⟩⟩,?_,by simp⟩
 ·rw[Nat.zero_add,hB.cell];simp[bP]
 ·intro s hs;simp only[List.mem_cons,List.not_mem_nil,or_false] at hs;rcases hs with rfl|rfl
  ·exact⟨h0,h1⟩
  ·exact⟨h2,h3⟩
theorem Gp {T:Nat} {x:List (Int×Int)} (e:Nat→Value) (hi:i<6)
  (c0:W.cell? ⟨T,i,none⟩=some (.slice (some ⟨b,0,none⟩) 2 2)) (cz:T<W.heap.size) (hb:aC (fun _=>True) W (.slice (some ⟨b,0,none⟩) 2 2) x)
  (d0:W.cell? ⟨g,off+i*2+1,none⟩=some sv) (gz:g<W.heap.size) (hs:aC (fun _=>True) W sv x)
  (hJ:∀(m:List Value) (w':World),m.length=143→m[5]? =some (.slice (some ⟨g,off,none⟩) 6 cap)→m[127]? =some (.slice (some ⟨T,0,none⟩) 6 6)→m[128]? =some (.int .i64 6)→m[129]? =some (.int .i64 ((i+1:Nat):Int))→Below W.heap.size W w'→J ⟨m.toArray,[]⟩ w'):
  Code.wp Tryz.prog (awC [1,1,1,1,1,1,0,1,0,0]) (Exit.then J Q) ⟨#[e 0,e 1,e 2,e 3,e 4,.slice (some ⟨g,off,none⟩) 6 cap,e 6,e 7,e 8,e 9,e 10,e 11,e 12,e 13,e 14,e 15,e 16,e 17,e 18,e 19,e 20,e 21,e 22,e 23,e 24,e 25,e 26,e 27,e 28,e 29,e 30,e 31,e 32,e 33,e 34,e 35,e 36,e 37,e 38,e 39,e 40,e 41,e 42,e 43,e 44,e 45,e 46,e 47,e 48,e 49,e 50,e 51,e 52,e 53,e 54,e 55,e 56,e 57,e 58,e 59,e 60,e 61,e 62,e 63,e 64,e 65,e 66,e 67,e 68,e 69,e 70,e 71,e 72,e 73,e 74,e 75,e 76,e 77,e 78,e 79,e 80,e 81,e 82,e 83,e 84,e 85,e 86,e 87,e 88,e 89,e 90,e 91,e 92,e 93,e 94,e 95,e 96,e 97,e 98,e 99,e 100,e 101,e 102,e 103,e 104,e 105,e 106,e 107,e 108,e 109,e 110,e 111,e 112,e 113,e 114,e 115,e 116,e 117,e 118,e 119,e 120,e 121,e 122,e 123,e 124,e 125,e 126,.slice (some ⟨T,0,none⟩) 6 6,.int .i64 6,.int .i64 i,e 130,e 131,e 132,e 133,e 134,e 135,e 136,e 137,e 138,e 139,e 140,e 141,e 142],[]⟩ W:=by
 have hiI:(i:Int)<6:=(by omega);obtain⟨so,sc,rfl⟩:=hs.row.slice;have hsl:=hs.small;obtain⟨n,hn⟩:∃n,n=x.length:=⟨_,rfl⟩;have hcall:Calls Tryz.prog 20 #[.slice so x.length sc,.slice (some ⟨b,0,none⟩) 2 2] W (Eqs true W):=by
  have:=pY hs hb (by omega) (by omega);rw[decide_eq_true rfl] at this;exact this
 rw[←hn] at hcall d0;have HC:=zh hcall;have HJ:=zh hJ;clear hcall hJ hs hb hsl hn;conv=>arg 2;whnf
 go_wp2_with (go_at_call 20;(refine HC.out.mono ?_;rintro ee w' ⟨rfl,hb'⟩;have HB':=zh hb';clear hb'))
 exact HJ.out _ _ rfl rfl rfl rfl rfl HB'.out
end Go.Proofs.YtnhjakdmbfadlaaGreatDoor
