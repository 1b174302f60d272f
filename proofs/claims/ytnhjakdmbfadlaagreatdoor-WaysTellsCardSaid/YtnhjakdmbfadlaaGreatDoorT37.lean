/- Parts of the proof. Conditions: none. -/
import Derived.Test.YtnhjakdmbfadlaaGreatDoorT36
import Derived.Test.YtnhjakdmbfadlaaGreatDoorT00
set_option linter.all false
set_option maxHeartbeats 8000000
set_option maxRecDepth 100000
namespace Go.Proofs.YtnhjakdmbfadlaaGreatDoor
open Go.RowKit Wy Mem Grow
variable {lz':Bool} {s:ByteArray} {Q:Exit→Act→World→Prop} {hi' lo':Int} {more bG:List Wy.Way} {B G L c1 c2 cm cn g i k0 lb lc lo_ n1 n2 uk ub uc uo:Nat} {N:Nat→Prop} {sub:Nd} {ol om on p1 p2:Option Addr} {W wb:World} {x:Wy.Way}
theorem QJ {nx:List Wy.Way} (m:List Value) (hm:m.length=233)
  (k12:m[12]? =some (.slice (some ⟨lb,lo_,none⟩) bG.length lc)) (k17:m[17]? =some (.slice on nx.length cn)) (k18:m[18]? =some (.int .i64 (k0:Nat))) (k19:m[19]? =some (.slice om more.length cm)) (k21:m[21]? =some (.int .i64 0))
  (hi:k0<bG.length) (hx:x=bG[k0]) (hll:bG.length≤500) (hlc:bG.length≤lc) (hml:more.length≤500) (hnl:nx.length≤500) (hpr:∀y∈more,Prp y.spans) (hG:G≤64)
  (hL:lV 129 (fun b=>b<wb.heap.size) wb G L (.slice (some ⟨lb,lo_,none⟩) bG.length lc) bG) (hM:lV 129 (nK (.slice on nx.length cn)) W G L (.slice om more.length cm) more) (hN:fP G L wb nx (.slice on nx.length cn) W)
  (hQ:∀(m':List Value) (w':World) (o':Option Addr) (c':Nat),m'.length=233→(m'[1]? =m[1]? ∧m'[3]? =m[3]? ∧m'[4]? =m[4]? ∧m'[5]? =m[5]? ∧m'[13]? =m[13]? ∧m'[16]? =m[16]?)→m'[12]? =some (.slice (some ⟨lb,lo_,none⟩) bG.length lc)→m'[18]? =some (.int .i64 (k0:Nat))→m'[17]? =some (.slice o' (nx++more.map ((ak G).thn x)).length c')→
   fP G L wb (nx++more.map ((ak G).thn x)) (.slice o' (nx++more.map ((ak G).thn x)).length c') w'→Q (.exit 7) ⟨m'.toArray,[]⟩ w'):
  Code.wp Tryz.prog (waC [1,1,1,0,1,0,1,1,1,1,1,0,1,1,0,0,1,0,0,1,0,1,0,0,1,0,0,1,1,1,0]) Q ⟨m.toArray,[]⟩ W:=by
 obtain⟨e,rfl⟩:=jK hm;rw[zI k12,zI k17,zI k18,zI k19,zI k21];exact TM e hi hx hll hlc hml hnl hpr hG hL hM hN fun m' w' o' c' h1 h2 h3 h4=>hQ m' w' o' c' h1 ⟨h2.1,h2.2.1,h2.2.2.1,h2.2.2.2.1,h2.2.2.2.2.2.1,h2.2.2.2.2.2.2.1⟩ h2.2.2.2.2.1 h2.2.2.2.2.2.2.2 h3 h4
def CaI (s:ByteArray) (G g B i:Nat) (lv c13:Value) (f:Nat→Option (List Wy.Way)) (bG:List Wy.Way) (wb:World) (n:Nat) (a:Act) (w:World):Prop:=∃(m:List Value) (k:Nat) (o':Option Addr) (c':Nat) (acc:List Wy.Way),a=⟨m.toArray,[]⟩∧m.length=233∧
 (m[1]? =some (.string s)∧m[3]? =some (.int .i64 (g:Nat))∧m[4]? =some (.int .i64 (G:Nat))∧m[5]? =some (.pointer (some ⟨B,0,none⟩))∧m[12]? =some lv∧m[13]? =some c13∧m[16]? =some (.int .i64 (i:Nat)))∧m[17]? =some (.slice o' acc.length c')∧m[18]? =some (.int .i64 (k:Nat))∧
 k≤bG.length∧n=bG.length-k∧allOf (bV (ak G) f) (bG.take k)=some acc∧acc.length≤500∧fP G s.size wb acc (.slice o' acc.length c') w
theorem Af {A:Alg Wy.Way} {f:Nat→Option (List Wy.Way)} (l:List Wy.Way):jh A f l=most (allOf (bV A f) l):=rfl
theorem QK {k':Int} (e:Nat→Value)
  (hsp:iU s G sub) (hs:s.size≤32) (hG:G≤64) (hg:g+opened sub≤G) (hll:bG.length≤500) (hlb:∀x∈bG,Bnd s x.stop)
  (hL:lV 129 (fun b=>b<wb.heap.size) wb G s.size (.slice ol bG.length lc) bG) (hi:i<uk) (hnu:uk≤uc) (hnn:uk≤1048576)
  (hc:∀w',Below wb.heap.size wb w'→w'.cell? ⟨B,5,none⟩=some (.slice (some ⟨ub,uo,none⟩) uk uc)∧w'.cell? ⟨ub,uo+i*6,none⟩=some (.int .u8 k')∧w'.cell? ⟨ub,uo+i*6+1,none⟩=some (.slice p1 n1 c1)∧w'.cell? ⟨ub,uo+i*6+2,none⟩=some (.int .i64 lo')∧w'.cell? ⟨ub,uo+i*6+3,none⟩=some (.int .i64 hi')∧w'.cell? ⟨ub,uo+i*6+4,none⟩=some (.bool lz')∧w'.cell? ⟨ub,uo+i*6+5,none⟩=some (.slice p2 n2 c2)∧B<w'.heap.size∧ub<w'.heap.size∧ai N w' sub [.int .u8 k',.slice p1 n1 c1,.int .i64 lo',.int .i64 hi',.bool lz',.slice p2 n2 c2])
  (jR:∀(m:List Value) (w':World),m.length=233→m[10]? =some (.slice none 0 0)→m[11]? =some (.bool false)→Below wb.heap.size wb w'→jh (ak G) (fun q=>Wy.wy (ak G) (aN s) sub g q) bG=none→Q .ret ⟨m.toArray,[]⟩ w')
  (hQ:∀(m:List Value) (w':World) (o':Option Addr) (c':Nat) (nx:List Wy.Way),m.length=233→(m[1]? =some (.string s)∧m[3]? =some (.int .i64 (g:Nat))∧m[4]? =some (.int .i64 (G:Nat))∧m[5]? =some (.pointer (some ⟨B,0,none⟩))∧m[13]? =some (e 13)∧m[16]? =some (.int .i64 (i:Nat)))→m[17]? =some (.slice o' nx.length c')→
   fP G s.size wb nx (.slice o' nx.length c') w'→jh (ak G) (fun q=>Wy.wy (ak G) (aN s) sub g q) bG=some nx→Q (.exit 5) ⟨m.toArray,[]⟩ w'):
  Code.wp Tryz.prog (waC [1,1,1,0,1,0,1,1,1,1,1,0,1,1,0,0,1,0,0,1,0,1,0]) Q ⟨#[e 0,.string s,e 2,.int .i64 (g:Nat),.int .i64 (G:Nat),.pointer (some ⟨B,0,none⟩),e 6,e 7,e 8,e 9,e 10,e 11,.slice ol bG.length lc,e 13,e 14,e 15,.int .i64 (i:Nat),.slice none 0 0,.int .i64 0,e 19,e 20,e 21,e 22,e 23,e 24,e 25,e 26,e 27,e 28,e 29,e 30,e 31,e 32,e 33,e 34,e 35,e 36,e 37,e 38,e 39,e 40,e 41,e 42,e 43,e 44,e 45,e 46,e 47,e 48,e 49,e 50,e 51,e 52,e 53,e 54,e 55,e 56,e 57,e 58,e 59,e 60,e 61,e 62,e 63,e 64,e 65,e 66,e 67,e 68,e 69,e 70,e 71,e 72,e 73,e 74,e 75,e 76,e 77,e 78,e 79,e 80,e 81,e 82,e 83,e 84,e 85,e 86,e 87,e 88,e 89,e 90,e 91,e 92,e 93,e 94,e 95,e 96,e 97,e 98,e 99,e 100,e 101,e 102,e 103,e 104,e 105,e 106,e 107,e 108,e 109,e 110,e 111,e 112,e 113,e 114,e 115,e 116,e 117,e 118,e 119,e 120,e 121,e 122,e 123,e 124,e 125,e 126,e 127,e 128,e 129,e 130,e 131,e 132,e 133,e 134,e 135,e 136,e 137,e 138,e 139,e 140,e 141,e 142,e 143,e 144,e 145,e 146,e 147,e 148,e 149,e 150,e 151,e 152,e 153,e 154,e 155,e 156,e 157,e 158,e 159,e 160,e 161,e 162,e 163,e 164,e 165,e 166,e 167,e 168,e 169,e 170,e 171,e 172,e 173,e 174,e 175,e 176,e 177,e 178,e 179,e 180,e 181,e 182,e 183,e 184,e 185,e 186,e 187,e 188,e 189,e 190,e 191,e 192,e 193,e 194,e 195,e 196,e 197,e 198,e 199,e 200,e 201,e 202,e 203,e 204,e 205,e 206,e 207,e 208,e 209,e 210,e 211,e 212,e 213,e 214,e 215,e 216,e 217,e 218,e 219,e 220,e 221,e 222,e 223,e 224,e 225,e 226,e 227,e 228,e 229,e 230,e 231,e 232],[]⟩ wb:=by
 have hlI:(bG.length:Int)≤500:=(by omega);have hgI:(g:Int)≤64:=(by omega);have hGI:(G:Int)≤64:=(by omega);have hisI:(i:Int)<uk:=(by omega);have hnsI:(uk:Int)≤1048576:=(by omega);have hnuI:(uk:Int)≤uc:=(by omega);obtain⟨f,hf⟩:∃f:Nat→Option (List Wy.Way),f=fun q=>Wy.wy (ak G) (aN s) sub g q:=⟨_,rfl⟩
 rw[←hf] at jR hQ;have HFE:=zh hf;have wP:=zh hsp;have HLB:=zh hlb;have HL:=zh hL;have HC:=zh hc;have DU:=zh jR;have HQ:=zh hQ;clear hf hsp hlb hL hc jR hQ;conv=>arg 2;whnf
 go_wp2_with fail
 refine wp_loop_ghost (CaI s G g B i (.slice ol bG.length lc) (e 13) f bG wb) (bG.length-0) ?_ (fun n a Wa hI=> ?_)
 ·exact⟨_,0,none,0,[],rfl,rfl,⟨rfl,rfl,rfl,rfl,rfl,rfl,rfl⟩,rfl,rfl,by omega,rfl,rfl,by simp,zR,[],zN,rfl⟩
 ·obtain⟨m,k,o',c',acc,rfl,hm,⟨g1,g3,g4,g5,g12,g13,g16⟩,g17,g18,hk,rfl,hacc,hal,hnx⟩:=hI;obtain⟨q0,rfl⟩:=jK hm;rw[zI g1,zI g3,zI g4,zI g5,zI g12,zI g13,zI g16,zI g17,zI g18];clear g1 g3 g4 g5 g12 g13 g16 g17 g18 hm;by_cases hkl:¬k<bG.length
  ·obtain rfl:k=bG.length:=(by omega);have hn:jh (ak G) f bG=some acc:=by
    rw[Af];rw[List.take_length] at hacc;rw[hacc,eQ hal]
   have HN:=zh (And.intro hn hnx);clear hacc hnx hn hkl
   go_wp2_with fail
   exact HQ.out _ _ o' c' acc rfl ⟨rfl,rfl,rfl,rfl,rfl,rfl⟩ rfl HN.out.2 HN.out.1
  ·have hkl:k<bG.length:=(by omega);have hkI:(k:Int)<bG.length:=(by omega);obtain⟨lb,lo_,lc2,e2,hlc,Qv,-,hlz,wM⟩:=HL.out.cells (by omega);simp only[Value.slice.injEq,true_and] at e2;obtain⟨rfl,rfl⟩:=e2;have MC:(bG.length:Int)≤lc:=(by omega);obtain⟨xs,hx0,-,-,-,-⟩:=wM k hkl;obtain⟨x,hx⟩:∃x,x=bG[k]:=⟨_,rfl⟩;have hxb:Bnd s x.stop:=by rw[hx];exact HLB.out _ (List.getElem_mem hkl)
   rw[←hx] at hx0;have zY:lb<Wa.heap.size:=by have:=hnx.1.size;omega
   have hxa:Wa.cell? ⟨lb,lo_+k*2,none⟩=some (.int .i64 x.stop):=(zW (hnx.1.block _ hlz)).trans hx0;have hbz:wb.heap.size≤Wa.heap.size:=hnx.1.size;have hstp:bV (ak G) f bG[k]=(f x.stop).map (List.map ((ak G).thn x)):=by rw[hx];rfl
   have hR:∀w',Below Wa.heap.size Wa w'→w'.cell? ⟨lb,lo_+k*2,none⟩=some (.int .i64 x.stop)∧w'.cell? ⟨B,5,none⟩=some (.slice (some ⟨ub,uo,none⟩) uk uc)∧w'.cell? ⟨ub,uo+i*6,none⟩=some (.int .u8 k')∧w'.cell? ⟨ub,uo+i*6+1,none⟩=some (.slice p1 n1 c1)∧w'.cell? ⟨ub,uo+i*6+2,none⟩=some (.int .i64 lo')∧w'.cell? ⟨ub,uo+i*6+3,none⟩=some (.int .i64 hi')∧w'.cell? ⟨ub,uo+i*6+4,none⟩=some (.bool lz')∧w'.cell? ⟨ub,uo+i*6+5,none⟩=some (.slice p2 n2 c2)∧lb<w'.heap.size∧B<w'.heap.size∧ub<w'.heap.size:=fun w' h=>by
    obtain⟨a0,a1,a2,a3,a4,a5,a6,a7,a8,-⟩:=HC.out w' (hnx.1.trans (h.mono hbz));exact⟨(zW (h.block _ zY)).trans hxa,a0,a1,a2,a3,a4,a5,a6,by have:=h.size;omega,a7,a8⟩
   have hcall:Calls Tryz.prog 60 #[.agg #[.int .u8 k',.slice p1 n1 c1,.int .i64 lo',.int .i64 hi',.bool lz',.slice p2 n2 c2],.string s,.int .i64 (x.stop:Nat),.int .i64 (g:Nat),.int .i64 (G:Nat)] Wa.drew (Rwl G s.size (f x.stop) Wa.drew):=by
    have hnd:=(HC.out Wa hnx.1).2.2.2.2.2.2.2.2.2;have:=wP.out N Wa.drew _ g x.stop (ai.go (M:=N) ((Kept.refl (fun _=>False) Wa).drew) (fun _ _ h=>⟨id,h⟩) hnd) hg hxb;rw[HFE.out];exact this
   have hlen:∀more,f x.stop=some more→more.length≤500∧∀y∈more,Prp y.spans:=fun more h=>by
    rw[HFE.out] at h;exact⟨fV h,Kz (by omega) h hxb⟩
   have hnone:f x.stop=none→jh (ak G) f bG=none:=fun h=>by
    rw[Af,mi (i:=k) hkl (by rw[hstp,h];rfl)]
    rfl
   have hsome:∀more,f x.stop=some more→allOf (bV (ak G) f) (bG.take (k+1))=some (acc++more.map ((ak G).thn x)):=fun more h=>
    mg hkl hacc (by rw[hstp,h];rfl)
   have hlong:∀acc',allOf (bV (ak G) f) (bG.take (k+1))=some acc'→500<acc'.length→jh (ak G) f bG=none:=fun acc' h hl=>by rw[Af];exact mr h hl
   have HR:=zh hR;have aS:=zh hcall;have HLEN:=zh hlen;have gq:=zh hnone;have yu:=zh hsome;have KA:=zh hlong;have HNX:=zh hnx;have HX:=zh hx;clear hR hcall hlen hnone hsome hlong hstp hacc hnx hx hxa hx0 hxb wM;obtain⟨o,ho⟩:∃o,o=f x.stop:=⟨_,rfl⟩;rw[←ho] at aS HLEN gq yu;clear ho;cases o with
   |none=>
    go_wp2_with fail
    apply aJ ?hm ?hok [0,1,2,3,4,5,6,7,8,9,10,11,12,13,14,15,16,17,18] [13] [14,15,16,17,18] ?hord (fun w'=>Below Wa.heap.size Wa w') (rqU G s.size none Wa)
    case hm=>rfl
    case hok=>kernel_rfl
    case hord=>kernel_rfl
    case hb=>
     intro L' w' h hl
     match L' with
     |[]=>rw[h];exact zR.drew
     |_::_=>simp at hl
    case hw=>rfl
    apply ae _ rfl rfl rfl rfl
    case h=>
     intro W1 hW K hK
     go_wp2_with fail
     exact hK
    simp only[zP,zQ,zB,zC];apply ae _ rfl rfl rfl rfl
    case h=>
     intro W1 hW K hK
     (obtain⟨q0,q1,q2,q3,q4,q5,q6,q7,q8,q9,q10⟩:=HR.out _ hW)
     go_wp2_with fail
     exact hK
    simp only[zP,zQ,zB,zC];apply ae _ rfl rfl rfl rfl
    case h=>
     intro W1 hW K hK
     go_wp2_with fail
     exact hK
    simp only[zP,zQ,zB,zC];apply ae _ rfl rfl rfl rfl
    case h=>
     intro W1 hW K hK
     go_wp2_with fail
     exact hK
    simp only[zP,zQ,zB,zC];apply ae _ rfl rfl rfl rfl
    case h=>
     intro W1 hW K hK
     (obtain⟨q0,q1,q2,q3,q4,q5,q6,q7,q8,q9,q10⟩:=HR.out _ hW)
     go_wp2_with fail
     exact hK
    simp only[zP,zQ,zB,zC];apply ae _ rfl rfl rfl rfl
    case h=>
     intro W1 hW K hK
     go_wp2_with fail
     exact hK
    simp only[zP,zQ,zB,zC];apply ae _ rfl rfl rfl rfl
    case h=>
     intro W1 hW K hK
     go_wp2_with fail
     exact hK
    simp only[zP,zQ,zB,zC];apply ae _ rfl rfl rfl rfl
    case h=>
     intro W1 hW K hK
     go_wp2_with fail
     exact hK
    simp only[zP,zQ,zB,zC];apply ae _ rfl rfl rfl rfl
    case h=>
     intro W1 hW K hK
     go_wp2_with fail
     exact hK
    simp only[zP,zQ,zB,zC];apply ae _ rfl rfl rfl rfl
    case h=>
     intro W1 hW K hK
     go_wp2_with fail
     exact hK
    simp only[zP,zQ,zB,zC];apply ae _ rfl rfl rfl rfl
    case h=>
     intro W1 hW K hK
     (obtain⟨q0,q1,q2,q3,q4,q5,q6,q7,q8,q9,q10⟩:=HR.out _ hW)
     go_wp2_with fail
     exact hK
    simp only[zP,zQ,zB,zC];apply ae _ rfl rfl rfl rfl
    case h=>
     intro W1 hW K hK
     go_wp2_with fail
     exact hK
    simp only[zP,zQ,zB,zC];apply ae _ rfl rfl rfl rfl
    case h=>
     intro W1 hW K hK
     go_wp2_with fail
     exact hK
    simp only[zP,zQ,zB,zC];apply ax rfl rfl rfl
    case h=>
     intro W1 hW K hK;obtain rfl:W1=Wa.drew:=hW
     go_wp2_with (go_at_call 60;(refine aS.out.mono ?_;rintro e2 w' hw2;obtain⟨v,rfl⟩:∃v,e2= .returned v:=(by first|exact⟨_,hw2.2⟩|(obtain⟨-,v,_,h,-⟩:=hw2;exact⟨_,h⟩))))
     exact hw2
    intro v hv;obtain⟨_,-,hv⟩:=hv;obtain rfl:=Ending.returned.inj hv;simp only[zP,zQ,zB,zC];apply ag (.tuple #[.slice none 0 0,.bool false]) rfl rfl rfl rfl
    case h=>
     intro W1 hW K hK
     go_wp2_with fail
     exact hK
    simp only[zP,zQ,zB,zC];apply ag (.slice none 0 0) rfl rfl rfl rfl
    case h=>
     intro W1 hW K hK
     go_wp2_with fail
     exact hK
    simp only[zP,zQ,zB,zC];apply ag (.bool false) rfl rfl rfl rfl
    case h=>
     intro W1 hW K hK
     go_wp2_with fail
     exact hK
    simp only[zP,zQ,zB,zC];apply ag (.slice none 0 0) rfl rfl rfl rfl
    case h=>
     intro W1 hW K hK
     go_wp2_with fail
     exact hK
    simp only[zP,zQ,zB,zC];apply ag (.bool false) rfl rfl rfl rfl
    case h=>
     intro W1 hW K hK
     go_wp2_with fail
     exact hK
    simp only[zP,zQ,zB,zC];refine aG fun W7 h7=> ?_
    have H7:=zh h7.1;clear h7
    go_wp2_with fail
    exact DU.out _ _ rfl rfl rfl (HNX.out.1.trans ((((Below.refl Wa.heap.size Wa).drew).trans H7.out).mono hbz)) (by first|exact gq.out rfl|exact gq.out trivial)
   |some more=>
    obtain⟨hml,hmp⟩:=HLEN.out more rfl;have hmI:(more.length:Int)≤500:=(by omega);have halI:(acc.length:Int)≤500:=(by omega);have HMP:=zh hmp;clear hmp;have hsm:allOf (bV (ak G) f) (bG.take (k+1))=some (acc++more.map ((ak G).thn x)):=yu.out more rfl;have HSM:=zh hsm;clear hsm;by_cases hlg:500<acc.length+more.length
    ·have QC:(500:Int)<(acc.length:Int)+more.length:=(by omega);have HLG:=zh (KA.out _ HSM.out (by rw[List.length_append,List.length_map];exact hlg));clear hlg
     go_wp2_with fail
     apply aJ ?hm ?hok [0,1,2,3,4,5,6,7,8,9,10,11,12,13,14,15,16,17,18] [13] [14,15,16,17,18] ?hord (fun w'=>Below Wa.heap.size Wa w') (rqU G s.size (some more) Wa)
     case hm=>rfl
     case hok=>kernel_rfl
     case hord=>kernel_rfl
     case hb=>
      intro L' w' h hl
      match L' with
      |[]=>rw[h];exact zR.drew
      |_::_=>simp at hl
     case hw=>rfl
     apply ae _ rfl rfl rfl rfl
     case h=>
      intro W1 hW K hK
      go_wp2_with fail
      exact hK
     simp only[zP,zQ,zB,zC];apply ae _ rfl rfl rfl rfl
     case h=>
      intro W1 hW K hK
      (obtain⟨q0,q1,q2,q3,q4,q5,q6,q7,q8,q9,q10⟩:=HR.out _ hW)
      go_wp2_with fail
      exact hK
     simp only[zP,zQ,zB,zC];apply ae _ rfl rfl rfl rfl
     case h=>
      intro W1 hW K hK
      go_wp2_with fail
      exact hK
     simp only[zP,zQ,zB,zC];apply ae _ rfl rfl rfl rfl
     case h=>
      intro W1 hW K hK
      go_wp2_with fail
      exact hK
     simp only[zP,zQ,zB,zC];apply ae _ rfl rfl rfl rfl
     case h=>
      intro W1 hW K hK
      (obtain⟨q0,q1,q2,q3,q4,q5,q6,q7,q8,q9,q10⟩:=HR.out _ hW)
      go_wp2_with fail
      exact hK
     simp only[zP,zQ,zB,zC];apply ae _ rfl rfl rfl rfl
     case h=>
      intro W1 hW K hK
      go_wp2_with fail
      exact hK
     simp only[zP,zQ,zB,zC];apply ae _ rfl rfl rfl rfl
     case h=>
      intro W1 hW K hK
      go_wp2_with fail
      exact hK
     simp only[zP,zQ,zB,zC];apply ae _ rfl rfl rfl rfl
     case h=>
      intro W1 hW K hK
      go_wp2_with fail
      exact hK
     simp only[zP,zQ,zB,zC];apply ae _ rfl rfl rfl rfl
     case h=>
      intro W1 hW K hK
      go_wp2_with fail
      exact hK
     simp only[zP,zQ,zB,zC];apply ae _ rfl rfl rfl rfl
     case h=>
      intro W1 hW K hK
      go_wp2_with fail
      exact hK
     simp only[zP,zQ,zB,zC];apply ae _ rfl rfl rfl rfl
     case h=>
      intro W1 hW K hK
      (obtain⟨q0,q1,q2,q3,q4,q5,q6,q7,q8,q9,q10⟩:=HR.out _ hW)
      go_wp2_with fail
      exact hK
     simp only[zP,zQ,zB,zC];apply ae _ rfl rfl rfl rfl
     case h=>
      intro W1 hW K hK
      go_wp2_with fail
      exact hK
     simp only[zP,zQ,zB,zC];apply ae _ rfl rfl rfl rfl
     case h=>
      intro W1 hW K hK
      go_wp2_with fail
      exact hK
     simp only[zP,zQ,zB,zC];apply ax rfl rfl rfl
     case h=>
      intro W1 hW K hK;obtain rfl:W1=Wa.drew:=hW
      go_wp2_with (go_at_call 60;(refine aS.out.mono ?_;rintro e2 w' hw2;obtain⟨v,rfl⟩:∃v,e2= .returned v:=(by first|exact⟨_,hw2.2⟩|(obtain⟨-,v,_,h,-⟩:=hw2;exact⟨_,h⟩))))
      exact hw2
     intro v hv;obtain⟨_,-,v',cs',hv,hown',-⟩:=hv;obtain rfl:=Ending.returned.inj hv;obtain⟨om,cm,rfl⟩:=ay hown';clear hown';simp only[zP,zQ,zB,zC];apply ag (.tuple #[.slice om more.length cm,.bool true]) rfl rfl rfl rfl
     case h=>
      intro W1 hW K hK
      go_wp2_with fail
      exact hK
     simp only[zP,zQ,zB,zC];apply ag (.slice om more.length cm) rfl rfl rfl rfl
     case h=>
      intro W1 hW K hK
      go_wp2_with fail
      exact hK
     simp only[zP,zQ,zB,zC];apply ag (.bool true) rfl rfl rfl rfl
     case h=>
      intro W1 hW K hK
      go_wp2_with fail
      exact hK
     simp only[zP,zQ,zB,zC];apply ag (.slice om more.length cm) rfl rfl rfl rfl
     case h=>
      intro W1 hW K hK
      go_wp2_with fail
      exact hK
     simp only[zP,zQ,zB,zC];apply ag (.bool true) rfl rfl rfl rfl
     case h=>
      intro W1 hW K hK
      go_wp2_with fail
      exact hK
     simp only[zP,zQ,zB,zC];refine aG fun W7 h7=> ?_
     have H7:=zh h7.1;clear h7
     go_wp2_with fail
     exact DU.out _ _ rfl rfl rfl (HNX.out.1.trans ((((Below.refl Wa.heap.size Wa).drew).trans H7.out).mono hbz)) HLG.out
    ·have QC:decide ((500:Int)<(acc.length:Int)+more.length)=false:=decide_eq_false (by omega);have hPl:(acc++more.map ((ak G).thn x)).length≤500:=by rw[List.length_append,List.length_map];omega
     clear hlg
     go_wp2_with fail
     apply aJ ?hm ?hok [0,1,2,3,4,5,6,7,8,9,10,11,12,13,14,15,16,17,18] [13] [14,15,16,17,18] ?hord (fun w'=>Below Wa.heap.size Wa w') (rqU G s.size (some more) Wa)
     case hm=>rfl
     case hok=>kernel_rfl
     case hord=>kernel_rfl
     case hb=>
      intro L' w' h hl
      match L' with
      |[]=>rw[h];exact zR.drew
      |_::_=>simp at hl
     case hw=>rfl
     apply ae _ rfl rfl rfl rfl
     case h=>
      intro W1 hW K hK
      go_wp2_with fail
      exact hK
     simp only[zP,zQ,zB,zC];apply ae _ rfl rfl rfl rfl
     case h=>
      intro W1 hW K hK
      (obtain⟨q0,q1,q2,q3,q4,q5,q6,q7,q8,q9,q10⟩:=HR.out _ hW)
      go_wp2_with fail
      exact hK
     simp only[zP,zQ,zB,zC];apply ae _ rfl rfl rfl rfl
     case h=>
      intro W1 hW K hK
      go_wp2_with fail
      exact hK
     simp only[zP,zQ,zB,zC];apply ae _ rfl rfl rfl rfl
     case h=>
      intro W1 hW K hK
      go_wp2_with fail
      exact hK
     simp only[zP,zQ,zB,zC];apply ae _ rfl rfl rfl rfl
     case h=>
      intro W1 hW K hK
      (obtain⟨q0,q1,q2,q3,q4,q5,q6,q7,q8,q9,q10⟩:=HR.out _ hW)
      go_wp2_with fail
      exact hK
     simp only[zP,zQ,zB,zC];apply ae _ rfl rfl rfl rfl
     case h=>
      intro W1 hW K hK
      go_wp2_with fail
      exact hK
     simp only[zP,zQ,zB,zC];apply ae _ rfl rfl rfl rfl
     case h=>
      intro W1 hW K hK
      go_wp2_with fail
      exact hK
     simp only[zP,zQ,zB,zC];apply ae _ rfl rfl rfl rfl
     case h=>
      intro W1 hW K hK
      go_wp2_with fail
      exact hK
     simp only[zP,zQ,zB,zC];apply ae _ rfl rfl rfl rfl
     case h=>
      intro W1 hW K hK
      go_wp2_with fail
      exact hK
     simp only[zP,zQ,zB,zC];apply ae _ rfl rfl rfl rfl
     case h=>
      intro W1 hW K hK
      go_wp2_with fail
      exact hK
     simp only[zP,zQ,zB,zC];apply ae _ rfl rfl rfl rfl
     case h=>
      intro W1 hW K hK
      (obtain⟨q0,q1,q2,q3,q4,q5,q6,q7,q8,q9,q10⟩:=HR.out _ hW)
      go_wp2_with fail
      exact hK
     simp only[zP,zQ,zB,zC];apply ae _ rfl rfl rfl rfl
     case h=>
      intro W1 hW K hK
      go_wp2_with fail
      exact hK
     simp only[zP,zQ,zB,zC];apply ae _ rfl rfl rfl rfl
     case h=>
      intro W1 hW K hK
      go_wp2_with fail
      exact hK
     simp only[zP,zQ,zB,zC];apply ax rfl rfl rfl
     case h=>
      intro W1 hW K hK;obtain rfl:W1=Wa.drew:=hW
      go_wp2_with (go_at_call 60;(refine aS.out.mono ?_;rintro e2 w' hw2;obtain⟨v,rfl⟩:∃v,e2= .returned v:=(by first|exact⟨_,hw2.2⟩|(obtain⟨-,v,_,h,-⟩:=hw2;exact⟨_,h⟩))))
      exact hw2
     intro v hv;obtain⟨_,-,v',cs',hv,hown',-⟩:=hv;obtain rfl:=Ending.returned.inj hv;obtain⟨om,cm,rfl⟩:=ay hown';clear hown';simp only[zP,zQ,zB,zC];apply ag (.tuple #[.slice om more.length cm,.bool true]) rfl rfl rfl rfl
     case h=>
      intro W1 hW K hK
      go_wp2_with fail
      exact hK
     simp only[zP,zQ,zB,zC];apply ag (.slice om more.length cm) rfl rfl rfl rfl
     case h=>
      intro W1 hW K hK
      go_wp2_with fail
      exact hK
     simp only[zP,zQ,zB,zC];apply ag (.bool true) rfl rfl rfl rfl
     case h=>
      intro W1 hW K hK
      go_wp2_with fail
      exact hK
     simp only[zP,zQ,zB,zC];apply ag (.slice om more.length cm) rfl rfl rfl rfl
     case h=>
      intro W1 hW K hK
      go_wp2_with fail
      exact hK
     simp only[zP,zQ,zB,zC];apply ag (.bool true) rfl rfl rfl rfl
     case h=>
      intro W1 hW K hK
      go_wp2_with fail
      exact hK
     simp only[zP,zQ,zB,zC];refine aG fun W7 h7=> ?_
     obtain⟨hb7,v'',cs7,e7,bQ,xk⟩:=h7;simp only[Ending.returned.injEq,Value.tuple.injEq,Array.mk.injEq,List.cons.injEq,and_true] at e7;subst e7;have DV:Below Wa.heap.size Wa W7:=((Below.refl Wa.heap.size Wa).drew).trans hb7;have hm7:lV 129 (nK (.slice o' acc.length c')) W7 G s.size (.slice om more.length cm) more:=lV.dD bQ xk (fun b hb _ e=>by
      obtain⟨-,cs1,h2,-⟩:=HNX.out;have:=(h2.lt _ e).2;have hb:Wa.heap.size≤b:=hb;omega)
     have hn7:fP G s.size wb acc (.slice o' acc.length c') W7:=HNX.out.go DV;have H7:=zh (And.intro hm7 hn7);clear hb7 DV hm7 hn7 bQ xk
     go_wp2_with fail
     rename_i K hK wq;refine QJ _ rfl rfl rfl rfl rfl rfl hkl HX.out hll hlc hml hal HMP.out hG HL.out H7.out.1 H7.out.2 (fun m w' o5 c5 hm hkp k12 k18 k17 hn=> ?_);obtain⟨P,hP⟩:∃P,P=acc++more.map ((ak G).thn x):=⟨_,rfl⟩;rw[←hP] at k17 hn HSM hPl;have HN:=zh hn;clear hn hP H7;refine hK _ _ ?_;obtain⟨q,rfl⟩:=jK hm;obtain⟨g1,g3,g4,g5,g13,g16⟩:=hkp;rw[zI g1,zI g3,zI g4,zI g5,zI g13,zI g16,zI k12,zI k17,zI k18];clear g1 g3 g4 g5 g13 g16 k12 k17 k18 hm
     go_wp2_with fail
     exact⟨bG.length-(k+1),by omega,_,k+1,o5,c5,P,rfl,rfl,⟨rfl,rfl,rfl,rfl,rfl,rfl,rfl⟩,rfl,rfl,by omega,rfl,HSM.out,hPl,HN.out⟩
variable {lazy:Bool} {hi lo:Int} {r subs:List Nd} {ucs:List Value} {l:List Wy.Way} {p:Nat} {uo_:Option Addr} {c13 dm:Value} {w:World}
theorem NT {k':Int} (m:List Value) (hm:m.length=233)
  (k1:m[1]? =some (.string s)) (k3:m[3]? =some (.int .i64 (g:Nat))) (k4:m[4]? =some (.int .i64 (G:Nat))) (k5:m[5]? =some (.pointer (some ⟨B,0,none⟩))) (k12:m[12]? =some (.slice ol bG.length lc)) (k13:m[13]? =some c13) (k16:m[16]? =some (.int .i64 (i:Nat))) (k17:m[17]? =some (.slice none 0 0)) (k18:m[18]? =some (.int .i64 0))
  (hsp:iU s G sub) (hs:s.size≤32) (hG:G≤64) (hg:g+opened sub≤G) (hll:bG.length≤500) (hlb:∀x∈bG,Bnd s x.stop)
  (hL:lV 129 (fun b=>b<wb.heap.size) wb G s.size (.slice ol bG.length lc) bG) (hi:i<uk) (hnu:uk≤uc) (hnn:uk≤1048576)
  (hc:∀w',Below wb.heap.size wb w'→w'.cell? ⟨B,5,none⟩=some (.slice (some ⟨ub,uo,none⟩) uk uc)∧w'.cell? ⟨ub,uo+i*6,none⟩=some (.int .u8 k')∧w'.cell? ⟨ub,uo+i*6+1,none⟩=some (.slice p1 n1 c1)∧w'.cell? ⟨ub,uo+i*6+2,none⟩=some (.int .i64 lo')∧w'.cell? ⟨ub,uo+i*6+3,none⟩=some (.int .i64 hi')∧w'.cell? ⟨ub,uo+i*6+4,none⟩=some (.bool lz')∧w'.cell? ⟨ub,uo+i*6+5,none⟩=some (.slice p2 n2 c2)∧B<w'.heap.size∧ub<w'.heap.size∧ai N w' sub [.int .u8 k',.slice p1 n1 c1,.int .i64 lo',.int .i64 hi',.bool lz',.slice p2 n2 c2])
  (jR:∀(m:List Value) (w':World),m.length=233→m[10]? =some (.slice none 0 0)→m[11]? =some (.bool false)→Below wb.heap.size wb w'→jh (ak G) (fun q=>Wy.wy (ak G) (aN s) sub g q) bG=none→Q .ret ⟨m.toArray,[]⟩ w')
  (hQ:∀(m:List Value) (w':World) (o':Option Addr) (c':Nat) (nx:List Wy.Way),m.length=233→(m[1]? =some (.string s)∧m[3]? =some (.int .i64 (g:Nat))∧m[4]? =some (.int .i64 (G:Nat))∧m[5]? =some (.pointer (some ⟨B,0,none⟩))∧m[13]? =some c13∧m[16]? =some (.int .i64 (i:Nat)))→m[17]? =some (.slice o' nx.length c')→
   fP G s.size wb nx (.slice o' nx.length c') w'→jh (ak G) (fun q=>Wy.wy (ak G) (aN s) sub g q) bG=some nx→Q (.exit 5) ⟨m.toArray,[]⟩ w'):
  Code.wp Tryz.prog (waC [1,1,1,0,1,0,1,1,1,1,1,0,1,1,0,0,1,0,0,1,0,1,0]) Q ⟨m.toArray,[]⟩ wb:=by
 obtain⟨e,rfl⟩:=jK hm;rw[zI k1,zI k3,zI k4,zI k5,zI k12,zI k16,zI k17,zI k18];refine QK e hsp hs hG hg hll hlb hL hi hnu hnn hc jR (fun m w' o' c' nx h1 h2 h3 h4 h5=>hQ m w' o' c' nx h1 ?_ h3 h4 h5);rw[←zI k13];exact h2
theorem KG {S:Str} {A:Alg Wy.Way} {s:Nd} (h:jh A (fun q=>Wy.wy A S s g q) l=none):dH A S (s::r) g l=none:=by rw[dH,h]
theorem KH {S:Str} {A:Alg Wy.Way} {s:Nd} {m:List Wy.Way} (h:jh A (fun q=>Wy.wy A S s g q) l=some m):dH A S (s::r) g l=dH A S r (g+opened s) m:=by rw[dH,h]
theorem QL {m:List Wy.Way} (h:jh (ak G) (fun q=>Wy.wy (ak G) (aN s) sub g q) l=some m) (hl:∀x∈l,Bnd s x.stop):m.length≤500∧∀y∈m,Bnd s y.stop:=by
 refine⟨(gI h).1,fun y hy=> ?_⟩;obtain⟨w,hw,n,hn,v,hv,rfl⟩:=uP h y hy;exact(zZ hn (hl w hw) v hv).1
def CaO (s:ByteArray) (G g p:Nat) (subs:List Nd) (nc:Array Value) (w:World) (n:Nat) (a:Act) (Wa:World):Prop:=∃(m:List Value) (i:Nat) (o':Option Addr) (c':Nat) (bG:List Wy.Way),a=⟨m.toArray,[]⟩∧m.length=233∧
 (m[1]? =some (.string s)∧m[3]? =some (.int .i64 ((g+aj (subs.take i):Nat):Int))∧m[4]? =some (.int .i64 (G:Nat))∧m[5]? =some (.pointer (some ⟨w.heap.size,0,none⟩))∧m[13]? =some (.bool true)∧m[16]? =some (.int .i64 (i:Nat)))∧m[12]? =some (.slice o' bG.length c')∧
 i≤subs.length∧n=subs.length-i∧dH (ak G) (aN s) subs g [(ak G).still p]=dH (ak G) (aN s) (subs.drop i) (g+aj (subs.take i)) bG∧bG.length≤500∧(∀x∈bG,Bnd s x.stop)∧Blk Wa w.heap.size nc 70∧fP G s.size w bG (.slice o' bG.length c') Wa
theorem NU
  (hsp:∀t∈subs,iU s G t) (hno:aF subs≤1000000) (hs:s.size≤32) (hG:G≤64) (hg:g+aj subs≤G) (hp:Bnd s p) (hsl:subs.length≤1048576)
  (hrow:Row N w (.slice uo_ subs.length uc) subs.length 6 ucs) (hsub:au N w subs ucs):
  Calls Tryz.prog 60 #[.agg #[.int .u8 3,dm,.int .i64 lo,.int .i64 hi,.bool lazy,.slice uo_ subs.length uc],.string s,.int .i64 (p:Nat),.int .i64 (g:Nat),.int .i64 (G:Nat)] w
   (Rwl G s.size (most (dH (ak G) (aN s) subs g [(ak G).still p])) w):=by
 have hpI:(p:Int)≤32:=by have:=hp.1;omega
 have hgI:(g:Int)≤64:=(by omega);have hGI:(G:Int)≤64:=(by omega);have Dq:(subs.length:Int)≤1048576:=(by omega);have HSP:=zh hsp;have lh:=zh (And.intro hrow hsub);have HP:=zh hp;have HG:=zh hg;have HNO:=zh hno;obtain⟨res,hres⟩:∃res,res=dH (ak G) (aN s) subs g [(ak G).still p]:=⟨_,rfl⟩;rw[←hres];have jf:=zh hres;clear hsp hrow hsub hp hg hno hres;go_enter Tryz.func60,Tryz.ntmps60
 go_wp2_with (first|(go_at_call 79;(refine(lW hG).mono ?_;rintro e1 w1 ⟨v1,rfl,hown1,hb1⟩;have H1:=zh (And.intro hown1 hb1);obtain⟨o1,c1,rfl⟩:=ay hown1;clear hown1 hb1)))
 refine wp_loop_ghost (CaO s G g p subs #[.int .u8 3,dm,.int .i64 lo,.int .i64 hi,.bool lazy,.slice uo_ subs.length uc] w) (subs.length-0) ?_ (fun n a Wa hI=> ?_)
 ·obtain⟨hown1,hb1⟩:=H1.out;have hbw:Below w.heap.size w w1:=(zR.alloc zL _).trans (hb1.mono (by simp));have hB1:Blk w1 w.heap.size #[.int .u8 3,dm,.int .i64 lo,.int .i64 hi,.bool lazy,.slice uo_ subs.length uc] 70:=(Blk.new w _ _).below hb1 (by simp);have:=Ae (p:=p) hG HP.out.1 hown1 hbw;obtain⟨h1,v,cs,h2,h3,h4⟩:=this;obtain rfl:v= .slice (some ⟨w1.heap.size,0,none⟩) 1 1:=by
   have:=Ending.returned.inj h2;simp only[Value.tuple.injEq,Array.mk.injEq,List.cons.injEq,and_true] at this;exact this.symm
  refine⟨_,0,some ⟨w1.heap.size,0,none⟩,1,[(ak G).still p],rfl,rfl,⟨rfl,by simp[aj],rfl,rfl,rfl,rfl⟩,rfl,by omega,rfl,by simp[aj],by simp,?_,(hB1.alloc _),?_⟩
  ·intro x hx;simp only[List.mem_singleton] at hx;subst hx;exact HP.out
  ·simpa using (show fP G s.size w [(ak G).still p] (.slice (some ⟨w1.heap.size,0,none⟩) 1 1) _ from⟨h1,cs,h3,h4⟩)
 ·obtain⟨m,i,o',c',bG,rfl,hm,⟨g1,g3,g4,g5,g13,g16⟩,g12,hi,rfl,hre,hol,hbd,hB,hgr⟩:=hI;obtain⟨q0,rfl⟩:=jK hm;rw[zI g1,zI g3,zI g4,zI g5,zI g13,zI g16,zI g12];clear g1 g3 g4 g5 g13 g16 g12 hm;rw[←jf.out] at hre;have HGR:=zh hgr;have HBD:=zh hbd;have HB:=zh hB;have b5:=hB.cell 5;have bz:=hB.lt;by_cases hil:¬i<subs.length
  ·obtain rfl:i=subs.length:=(by omega);have hr2:res=some bG:=by rw[hre,List.drop_length,dH]
   have HR2:=zh hr2;have hlI:decide ((500:Int)<bG.length)=false:=decide_eq_false (by omega);clear hre hr2 hgr hbd hB hil
   go_wp2_with fail
   obtain⟨h3,cs,h1,h2⟩:=HGR.out;exact bodyPost_ret (v:= .tuple #[.slice o' bG.length c',.bool true]) (by simp[results,Tryz.results60,go_sem]) rfl (by rw[HR2.out,eQ hol];exact⟨h3,_,cs,rfl,h1,h2⟩)
  ·have hil:i<subs.length:=(by omega);have hiI:(i:Int)<subs.length:=(by omega);have hbw:=hgr.1;obtain⟨ub,uo,k',lo',hi',lz',p1,p2,n1,c1,n2,c2,hue,Gu,bg,t0,t1,t2,t3,t4,t5,hnd⟩:=jc lh.out.1 lh.out.2 zR hil;subst hue;have lK:(subs.length:Int)≤uc:=(by omega);have DW:=ik hil;have hle:=mD subs (i+1);have hg2:=HG.out;have hnn:=lY (List.getElem_mem hil);have hgo:∀w',Below w.heap.size w w'→ai N w' subs[i] [.int .u8 k',.slice p1 n1 c1,.int .i64 lo',.int .i64 hi',.bool lz',.slice p2 n2 c2]:=fun w' hb=>ai.go (M:=N) (zK hb) (fun _ _ h=>⟨id,h⟩) hnd
   have hdr:subs.drop i=subs[i]::subs.drop (i+1):=List.drop_eq_getElem_cons hil;have DX:∀w',Below w.heap.size w w'→Calls Tryz.prog 61 #[.agg #[.int .u8 k',.slice p1 n1 c1,.int .i64 lo',.int .i64 hi',.bool lz',.slice p2 n2 c2]] w' fun e w''=>e= .returned (.int .i64 (opened subs[i]))∧Below w'.heap.size w' w'':=fun w' hb=>oG subs[i] N w' _ (hgo w' hb) (by have:=HNO.out;omega)
   have hcells:∀w',Below w.heap.size w w'→w'.cell? ⟨ub,uo+i*6,none⟩=some (.int .u8 k')∧w'.cell? ⟨ub,uo+i*6+1,none⟩=some (.slice p1 n1 c1)∧w'.cell? ⟨ub,uo+i*6+2,none⟩=some (.int .i64 lo')∧w'.cell? ⟨ub,uo+i*6+3,none⟩=some (.int .i64 hi')∧w'.cell? ⟨ub,uo+i*6+4,none⟩=some (.bool lz')∧w'.cell? ⟨ub,uo+i*6+5,none⟩=some (.slice p2 n2 c2)∧ub<w'.heap.size:=fun w' h=>
    ⟨(zW (h.block _ bg)).trans t0,(zW (h.block _ bg)).trans t1,(zW (h.block _ bg)).trans t2,(zW (h.block _ bg)).trans t3,(zW (h.block _ bg)).trans t4,(zW (h.block _ bg)).trans t5,by have:=h.size;omega⟩
   have hcw:∀w',Below Wa.heap.size Wa w'→_:=fun w' h=>by
    have h2:=hbw.trans (h.mono hbw.size);obtain⟨a1,a2,a3,a4,a5,a6,a7⟩:=hcells w' h2;have hb5:=(hB.below h bz).cell 5;exact And.intro hb5 (And.intro a1 (And.intro a2 (And.intro a3 (And.intro a4 (And.intro a5 (And.intro a6 (And.intro (show w.heap.size<w'.heap.size by have:=h.size;omega) (And.intro a7 (hgo w' h2)))))))))
   obtain⟨on,hon⟩:∃on:Nat,on=opened subs[i]:=⟨_,rfl⟩;rw[←hon] at DX DW;have honI:(on:Int)≤64:=(by omega);obtain⟨fst,DY⟩:∃f:Nat,f=g+aj (subs.take i):=⟨_,rfl⟩;rw[←DY] at hre ⊢;have hfI:(fst:Int)≤64:=(by omega);have Cf:fst+on=g+aj (subs.take (i+1)):=by rw[DW,DY];omega
   have hfG:fst+opened subs[i]≤G:=by rw[←hon];omega
   rw[hdr] at hre;have HON:=zh hon;have Ci:=zh Cf;have QH:=zh DX;have DZ:=zh hcells;have HBW:=zh hbw;have HCW:=zh hcw;have HRE:=zh hre;have hout:lV 129 (fun b=>b<Wa.heap.size) Wa G s.size (.slice o' bG.length c') bG:=by
    obtain⟨-,cs,h1,h2⟩:=hgr;exact lV.dD h1 h2 (fun b _ h=>h)
   have KE:=zh hout;clear DX hcells hgo hnd hdr hre DW hle hg2 DY Cf hon hbw hnn t0 t1 t2 t3 t4 t5 hcw hout hgr hbd hB
   go_wp2_with fail
   rename_i K1 hK1 K hK;refine NT _ rfl rfl rfl rfl rfl rfl rfl rfl rfl rfl (HSP.out _ (List.getElem_mem hil)) hs hG hfG hol HBD.out KE.out hil Gu hsl HCW.out (fun m w' hm h10 h11 hb hgn=> ?_) (fun m w' o5 c5 nx hm hkp k17 hn hgn=> ?_)
   ·obtain⟨e,rfl⟩:=jK hm;have h10:=zI h10;have h11:=zI h11;exact bodyPost_ret (v:= .tuple #[.slice none 0 0,.bool false]) (by simp[results,Tryz.results60,go_sem,h10,h11]) rfl (by rw[HRE.out,KG hgn];exact⟨HBW.out.trans (hb.mono HBW.out.size),rfl⟩)
   ·refine hK _ _ ?_;have hb5:=HBD.out;obtain⟨hnl,hnb⟩:=QL hgn hb5;have NV:res=dH (ak G) (aN s) (subs.drop (i+1)) (fst+on) nx:=by rw[HRE.out,KH hgn,HON.out]
    obtain⟨hbn,csn,OU,TP⟩:=hn;have hbw2:=HBW.out.trans (hbn.mono HBW.out.size);have yZ:fP G s.size w nx (.slice o5 nx.length c5) w':=⟨hbw2,csn,bY OU HBW.out.size,TP⟩;have hB2:=HB.out.below hbn bz;have c5':=hB2.cell 5;have c5z:=hB2.lt;obtain⟨r0,r1,r2,r3,r4,r5,r6⟩:=DZ.out _ hbw2;obtain⟨q,rfl⟩:=jK hm;obtain⟨g1,g3,g4,g5,g13,g16⟩:=hkp;rw[zI g1,zI g3,zI g4,zI g5,zI g13,zI g16,zI k17];have HOP2:=zh (QH.out _ hbw2);have dL:=zh (And.intro NV (And.intro hnl (And.intro hnb (And.intro hB2 yZ))));clear g1 g3 g4 g5 g13 g16 k17 hm NV hnl hnb hB2 yZ hbw2 OU TP hbn hgn hb5
    go_wp2_with (first|(go_at_call 61;(refine HOP2.out.mono ?_;rintro e6 w6 ⟨rfl,hb6⟩;have HB6:=zh hb6;clear hb6)))
    obtain⟨NV,hnl,hnb,hB2,yZ⟩:=dL.out;have e3:(fst:Int)+(on:Int)=((g+aj (subs.take (i+1)):Nat):Int):=by rw[←Ci.out];omega
    have hgr6:fP G s.size w nx (.slice o5 nx.length c5) w6:=yZ.go HB6.out;exact⟨subs.length-(i+1),by omega,_,i+1,o5,c5,nx,rfl,rfl,⟨rfl,by rw[←e3];rfl,rfl,rfl,rfl,rfl⟩,rfl,by omega,rfl,by rw[←jf.out,←Ci.out];exact NV,hnl,hnb,hB2.below HB6.out hB2.lt,hgr6⟩
theorem KI {W:Type} {A:Alg W} {f:Nat→Option (List W)} {k:Nat}:most (rep A f lo hi lazy k p)=rep A f lo hi lazy k p:=by
 cases h:rep A f lo hi lazy k p with
 |none=>rfl
 |some l=>exact eQ (uH.1 h).2.1
theorem NW {W:Type} {A:Alg W} {S:Str} {s:Nd}:bI A S [s] g p=Wy.wy A S s g p:=by
 cases h:Wy.wy A S s g p with
 |none=>rw[Cc h]
 |some x=>rw[Ce h,bI];simp
theorem yx (hs:s.size≤32) (hG:G≤64):∀t:Nd,Fit t→nodes t≤1000000→iU s G t
 | .mk k set lo hi lazy subs,hf,hno=>by
  have TQ:aF subs≤1000000:=by rw[nodes] at hno;omega
  have ih:∀t∈subs,iU s G t:=fun t ht=>yx hs hG t (hf.subs t ht) (by have:=lY ht;omega)
  intro N w cs g p hnd hg hp;rw[ai] at hnd;obtain⟨sv,uv,ucs,rfl,hk,hlo,hhi,hset,hrow,hsubs⟩:=hnd;obtain⟨ou,cu,rfl⟩:=hrow.slice;have hsl:subs.length≤1048576:=hk.2.2;rw[opened] at hg;rw[wy];rcases hf.kind with rfl|⟨rfl,hok,rfl⟩|rfl|rfl|⟨rfl,sub,rfl,h1,h2,h3,h4⟩|⟨rfl,sub,rfl⟩
  ·rw[if_pos rfl];exact NM hs hG hp
  ·rw[if_neg (by decide),if_pos rfl];have e:most (if 0<((aN s).dec p).2∧iG set ((aN s).dec p).1=true then some [(ak G).still (p+((aN s).dec p).2)] else some [])=if 0<((aN s).dec p).2∧iG set ((aN s).dec p).1=true then some [(ak G).still (p+((aN s).dec p).2)] else some []:=by
    split<;>rfl
   rw[e];exact NP hs hG hp hset hok
  ·rw[if_neg (by decide),if_neg (by decide),if_pos rfl];exact NU ih TQ hs hG (by simpa using hg) hp hsl hrow hsubs
  ·rw[if_neg (by decide),if_neg (by decide),if_neg (by decide),if_neg (by decide),if_neg (by decide)];exact NR ih TQ hs hG (by simpa using hg) hp hsl hrow hsubs
  ·rw[if_neg (by decide),if_neg (by decide),if_neg (by decide),if_pos rfl,iY,KI];exact NQ (ih sub (by simp)) (hf.subs sub (by simp)).shaped hs hG (by simpa [aj] using hg) hp ⟨h1,h2⟩ (by omega) h4 hrow hsubs
  ·rw[if_neg (by decide),if_neg (by decide),if_neg (by decide),if_neg (by decide),if_pos rfl,NW];have e:most ((Wy.wy (ak G) (aN s) sub (g+1) p).map fun l=>l.map ((ak G).mark g p))=(Wy.wy (ak G) (aN s) sub (g+1) p).map fun l=>l.map ((ak G).mark g p):=by
    cases h:Wy.wy (ak G) (aN s) sub (g+1) p with
    |none=>rfl
    |some l=>exact eQ (by rw[List.length_map];exact fV h)
   rw[e];exact NS (ih sub (by simp)) hs hG (by rw[if_pos rfl] at hg;simp[aj] at hg;omega) hp hrow hsubs
termination_by t=>SizeOf.sizeOf t
decreasing_by
 have:=List.sizeOf_lt_of_mem ht;simp;omega
end Go.Proofs.YtnhjakdmbfadlaaGreatDoor
