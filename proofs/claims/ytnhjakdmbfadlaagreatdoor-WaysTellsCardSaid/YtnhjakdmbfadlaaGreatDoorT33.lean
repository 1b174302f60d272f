/- Parts of the proof. Conditions: none. -/
import Derived.Shelf.Sort.Plain
import Derived.Shelf.Slices.Turned
import Derived.Ground.Names2Prog
import Derived.Shelf.Slices.CompactI
import Derived.Shelf.Slices.Cells
import Derived.Shelf.Slices.In.SortNone
import Derived.Shelf.Slices.Empties2
import Derived.Test.YtnhjakdmbfadlaaGreatDoorProg
import Derived.Test.YtnhjakdmbfadlaaGreatDoorT14
import Derived.Test.YtnhjakdmbfadlaaGreatDoorT24
import Derived.Test.YtnhjakdmbfadlaaGreatDoorT32
import Derived.Sort.Grow
import Derived.Test.YtnhjakdmbfadlaaGreatDoorT00
import Derived.Test.YtnhjakdmbfadlaaGreatDoorT27
import Derived.Laws.RangeAny
set_option linter.all false
set_option maxHeartbeats 8000000
set_option maxRecDepth 100000
namespace Go.Proofs
open Go.Shelf
def Tryz.BP:Go.Shelf.Ren:=⟨fun|189=>73|125=>94|257=>93|128=>119|129=>120|294=>110|295=>111|296=>112|297=>113|298=>114|299=>115|216=>116|300=>117|301=>118|328=>130|329=>131|330=>132|331=>133|332=>134|215=>129|343=>138|n=>n,fun|28=>48|3=>3|46=>137|0=>0|51=>197|53=>163|4=>4|183=>190|182=>189|131=>165|5=>5|9=>9|218=>208|222=>212|228=>216|229=>87|n=>n,fun|n=>n⟩
theorem Tryz.lays189:Go.Proofs.Lays.n189 Tryz.prog Tryz.BP:={
 mixed:=by kernel_rfl
 f125:=Tryz.func94.trans (congrArg some (by kernel_rfl))
 f128:=Tryz.func119.trans (congrArg some (by kernel_rfl))
 f129:=Tryz.func120.trans (congrArg some (by kernel_rfl))
 f189:=Tryz.func73.trans (congrArg some (by kernel_rfl))
 f215:=Tryz.func129.trans (congrArg some (by kernel_rfl))
 f216:=Tryz.func116.trans (congrArg some (by kernel_rfl))
 f257:=Tryz.func93.trans (congrArg some (by kernel_rfl))
 f294:=Tryz.func110.trans (congrArg some (by kernel_rfl))
 f295:=Tryz.func111.trans (congrArg some (by kernel_rfl))
 f296:=Tryz.func112.trans (congrArg some (by kernel_rfl))
 f297:=Tryz.func113.trans (congrArg some (by kernel_rfl))
 f298:=Tryz.func114.trans (congrArg some (by kernel_rfl))
 f299:=Tryz.func115.trans (congrArg some (by kernel_rfl))
 f300:=Tryz.func117.trans (congrArg some (by kernel_rfl))
 f301:=Tryz.func118.trans (congrArg some (by kernel_rfl))
 f328:=Tryz.func130.trans (congrArg some (by kernel_rfl))
 f329:=Tryz.func131.trans (congrArg some (by kernel_rfl))
 f330:=Tryz.func132.trans (congrArg some (by kernel_rfl))
 f331:=Tryz.func133.trans (congrArg some (by kernel_rfl))
 f332:=Tryz.func134.trans (congrArg some (by kernel_rfl))
 f343:=Tryz.func138.trans (congrArg some (by kernel_rfl))
 t0:=Tryz.underlying0
 a0:=Tryz.isAgg0
 z0:=Tryz.sizeOf0
 v0:=Tryz.zeroValue0
 t3:=Tryz.underlying3
 a3:=Tryz.isAgg3
 z3:=Tryz.sizeOf3
 v3:=Tryz.zeroValue3
 t4:=Tryz.underlying4
 a4:=Tryz.isAgg4
 z4:=Tryz.sizeOf4
 v4:=Tryz.zeroValue4
 t5:=Tryz.underlying5
 a5:=Tryz.isAgg5
 z5:=Tryz.sizeOf5
 v5:=Tryz.zeroValue5
 t9:=Tryz.underlying9
 a9:=Tryz.isAgg9
 z9:=Tryz.sizeOf9
 v9:=Tryz.zeroValue9
 t28:=Tryz.underlying48
 a28:=Tryz.isAgg48
 z28:=Tryz.sizeOf48
 v28:=Tryz.zeroValue48
 t46:=Tryz.underlying137
 a46:=Tryz.isAgg137
 z46:=Tryz.sizeOf137
 v46:=Tryz.zeroValue137
 t51:=Tryz.underlying197
 a51:=Tryz.isAgg197
 z51:=Tryz.sizeOf197
 v51:=Tryz.zeroValue197
 t53:=Tryz.underlying163
 a53:=Tryz.isAgg163
 z53:=Tryz.sizeOf163
 v53:=Tryz.zeroValue163
 t131:=Tryz.underlying165
 a131:=Tryz.isAgg165
 z131:=Tryz.sizeOf165
 v131:=Tryz.zeroValue165
 t182:=Tryz.underlying189
 a182:=Tryz.isAgg189
 z182:=Tryz.sizeOf189
 v182:=Tryz.zeroValue189
 t183:=Tryz.underlying190
 a183:=Tryz.isAgg190
 z183:=Tryz.sizeOf190
 v183:=Tryz.zeroValue190
 t218:=Tryz.underlying208
 a218:=Tryz.isAgg208
 z218:=Tryz.sizeOf208
 v218:=Tryz.zeroValue208
 t222:=Tryz.underlying212
 a222:=Tryz.isAgg212
 z222:=Tryz.sizeOf212
 v222:=Tryz.zeroValue212
 t228:=Tryz.underlying216
 a228:=Tryz.isAgg216
 z228:=Tryz.sizeOf216
 v228:=Tryz.zeroValue216
 t229:=Tryz.underlying87
 a229:=Tryz.isAgg87
 z229:=Tryz.sizeOf87
 v229:=Tryz.zeroValue87}
open Go.Sort Go.RowKit in
theorem Tryz.slices_Sort_int (blk off cap:Nat) (zs:List Int) (w:World) (hH:Holds (Value.int .i64) w blk off zs.toArray) (hblk:blk<w.heap.size) (hsz:zs.length<4611686018427387904):
  Calls Tryz.prog 73 #[.slice (some ⟨blk,off,none⟩) zs.length cap] w fun e w'=>
   e= .returned (.tuple #[])∧∃n os,w'=grow (putRow (Value.int .i64) (Sort.ahead w n) blk off (zs.mergeSort fun x y=>decide (x≤y)).toArray) os:=Any.slices_Sort_int Tryz.lays189 blk off cap zs w hH hblk hsz
def Tryz.xh:Go.Shelf.Ren:=⟨fun|20=>74|n=>n,fun|22=>48|3=>3|4=>4|0=>0|n=>n,fun|n=>n⟩
theorem Tryz.yl:Go.Proofs.Lays2.n20 Tryz.prog Tryz.xh:={
 mixed:=by kernel_rfl
 f20:=Tryz.func74.trans (congrArg some (by kernel_rfl))
 t0:=Tryz.underlying0
 a0:=Tryz.isAgg0
 z0:=Tryz.sizeOf0
 v0:=Tryz.zeroValue0
 t3:=Tryz.underlying3
 a3:=Tryz.isAgg3
 z3:=Tryz.sizeOf3
 v3:=Tryz.zeroValue3
 t4:=Tryz.underlying4
 a4:=Tryz.isAgg4
 z4:=Tryz.sizeOf4
 v4:=Tryz.zeroValue4
 t22:=Tryz.underlying48
 a22:=Tryz.isAgg48
 z22:=Tryz.sizeOf48
 v22:=Tryz.zeroValue48
 i3:=by kernel_rfl}
open Go.RowKit Go.Lib Go.Sort in
theorem Tryz.slices_Compact_int (blk off cap:Nat) (zs:List Int) (w:World) (hH:Holds (Value.int .i64) w blk off zs.toArray) (hsz:zs.length≤9223372036854775807) (hcap:zs.length≤cap):
  Calls Tryz.prog 74 #[.slice (some ⟨blk,off,none⟩) zs.length cap] w fun e w'=>e= .returned (.slice (some ⟨blk,off,none⟩) (Lib.compact zs).length cap)∧∃q,w'=putRow (Value.int .i64) (Sort.ahead w q) blk off (Lib.compact zs++List.replicate (zs.length-(Lib.compact zs).length) 0).toArray:=Any.slices_Compact_int Tryz.yl blk off cap zs w hH hsz hcap
open Go.RowKit Go.Lib Go.Sort in
theorem Tryz.slices_Compact_int_empty (a:Option Addr) (cap:Nat) (w:World):
  Calls Tryz.prog 74 #[.slice a 0 cap] w fun e w'=>e= .returned (.slice a 0 cap)∧w'=w:=Any.slices_Compact_int_empty Tryz.yl a cap w
open Go.RowKit Go.Sort in
theorem Tryz.slices_Sort_int_none (p:Option Addr) (cap:Nat) (w:World):
  Calls Tryz.prog 73 #[.slice p 0 cap] w fun e w'=>e= .returned (.tuple #[])∧w'=w:=Any.slices_Sort_int_none Tryz.lays189 p cap w
end Go.Proofs
namespace Go.Proofs.YtnhjakdmbfadlaaGreatDoor
open Go.RowKit Wy Mem Grow Go.Sort
variable {s:ByteArray} {cs:List Value} {l:List Wy.Way} {B G L c cap g n:Nat} {N:Nat→Prop} {t:Nd} {v:Value} {w w':World}
def qV (l:List Int):List Value:=l.map fun x:Int=> .int .i64 x
def wE (l:List Nat):List Int:=(l.map fun x:Nat=>(x:Int)).mergeSort fun x y=>decide (x≤y)
theorem nG (l:List Nat):(wE l).length=l.length:=by unfold wE;rw[List.length_mergeSort,List.length_map]
theorem J4 (l:List Nat):iH l=Lib.compact (wE l):=rfl
theorem Gz {l:List Nat} {t:TypeId} (h:w.ownsRow B t 1 (.slice (some ⟨g,0,none⟩) n cap) n (cO l)) (hn:n=l.length):Holds (Value.int .i64) w g 0 (l.map fun x:Nat=>(x:Int)).toArray:=by
 intro j hj;have hj':j<l.length:=by simpa using hj
 refine⟨?_,h.frozenAt _⟩;rw[Nat.zero_add,h.cellAt j (by omega)];simp[cO,hj']
theorem tN (w:World) (g n:Nat) (d:Array Int) (os:Array Obj):Kept (fun b=>b=g) w (grow (putRow (Value.int .i64) (Sort.ahead w n) g 0 d) os):=by
 refine⟨rfl,rfl,rfl,by simp,fun k hk hx=> ?_⟩;rw[heap_grow_old _ _ (by simpa using hk)];show(w.heap.modify g _)[k]? =_
 rw[Array.getElem?_modify,if_neg (fun e=>hx e.symm)]
def OO (w:World) (v:Value) (l:List Nat):Prop:=(v= .slice none 0 0∧l=[])∨∃g c,v= .slice (some ⟨g,0,none⟩) l.length c∧g<w.heap.size∧l.length≤c∧c≤maxLen∧Holds (Value.int .i64) w g 0 (wE l).toArray
theorem J5 {l:List Nat} (h:w.ownsRow B 3 1 v l.length (cO l)) (hl:l.length≤500):
  Calls Tryz.prog 73 #[v] w fun e w'=>e= .returned (.tuple #[])∧OO w' v l∧Kept (fun q=>v.ownBlock=some q) w w':=by
 rcases h.2 with⟨rfl,h0⟩|⟨g,cap,cur,rfl,hB,hh,h1,h2,h3,h4⟩
 ·obtain rfl:l=[]:=by cases l with
   |nil=>rfl
   |cons a r=>cases h0
  exact(Tryz.slices_Sort_int_none none 0 w).mono fun e w' ⟨h1,h2⟩=>⟨h1,.inl ⟨rfl,rfl⟩,by rw[h2];exact Kept.refl _ _⟩
 ·have hH:=Gz h rfl;have hg:g<w.heap.size:=(h.lt g rfl).2;have:=Tryz.slices_Sort_int g 0 cap (l.map fun x:Nat=>(x:Int)) w hH hg (by rw[List.length_map];omega);rw[List.length_map] at this;refine this.mono fun e w' ⟨h1',n,os,h2'⟩=>⟨h1',.inr ⟨g,cap,rfl,?_,h1,h2,?_⟩,?_⟩
  ·rw[h2'];simp;omega
  ·rw[h2'];refine holds_grow _ _ _ _ _ _ (by simpa using hg) ?_;exact holds_putRow _ _ _ _ _ _ (holds_ahead _ _ n _ _ _ hH) (by simp[List.length_mergeSort])
  ·rw[h2'];exact(tN w g n _ os).mono (fun q _ e=>by rw[e];rfl)
theorem BQ {l:List Nat} (h:OO w v l) (hl:l.length≤500):
  Calls Tryz.prog 74 #[v] w fun e w'=>∃o c,e= .returned (.slice o (iH l).length c)∧Row (fun q=>v.ownBlock=some q) w' (.slice o (iH l).length c) (iH l).length 1 (qV (iH l))∧Kept (fun q=>v.ownBlock=some q) w w':=by
 rcases h with⟨rfl,rfl⟩|⟨g,c,rfl,hg,h1,h2,hH⟩
 ·rw[yj];exact(Tryz.slices_Compact_int_empty none 0 w).mono fun e w' ⟨h1,h2⟩=>⟨none,0,h1,⟨rfl,.inl ⟨rfl,none,0,rfl⟩⟩,by rw[h2];exact Kept.refl _ _⟩
 ·have:=Tryz.slices_Compact_int g 0 c (wE l) w hH (by rw[nG];omega) (by rw[nG];omega);rw[nG] at this;refine this.mono fun e w' ⟨h1',q,h2'⟩=>⟨some ⟨g,0,none⟩,c,h1',⟨by simp[qV],.inr ⟨g,0,c,rfl,?_,h2,rfl,?_,fun j hj=> ?_⟩⟩,?_⟩
  ·have:=sG l;omega
  ·rw[h2'];simp;exact hg
  ·rw[h2'];have hj':j<(iH l).length:=by simpa [qV] using hj
   have hle:=sG l;rw[J4] at hj' hle ⊢;have h0:=holds_ahead _ w q _ _ _ hH;have hs:(Lib.compact (wE l)++List.replicate (l.length-(Lib.compact (wE l)).length) (0:Int)).toArray.size=(wE l).toArray.size:=by simp[nG];omega
   have:=(holds_putRow (Value.int .i64) (Sort.ahead w q) g 0 (wE l).toArray _ h0 hs j (by rw[hs];simp[nG];omega)).1;rw[this];simp[qV,List.getElem?_append_left hj',hj']
  ·rw[h2'];have:=tN w g q (Lib.compact (wE l)++List.replicate (l.length-(Lib.compact (wE l)).length) (0:Int)).toArray #[];rw[grow_empty] at this;exact this.mono (fun q _ e=>by rw[e];rfl)
theorem GG (st:Int) (o:Option Addr) (n c:Nat) (w:World):Calls Tryz.prog 49 #[.agg #[.int .i64 st,.slice o n c]] w fun e w'=>e= .returned (.int .i64 st)∧Below w.heap.size w w':=by
 go_enter Tryz.func49,Tryz.ntmps49
 go_wp2
 go_ret
 exact⟨rfl,zR.alloc zL _⟩
def Eac (l:List Nat) (w:World) (e:Ending) (w':World):Prop:=∃o c,e= .returned (.slice o (iH l).length c)∧Row (fun q=>w.heap.size≤q) w' (.slice o (iH l).length c) (iH l).length 1 (qV (iH l))∧Below w.heap.size w w'
theorem J6 (h:aI N w G L v l) (hl:l.length≤500):Calls Tryz.prog 48 #[v,.func (.func 49) #[] #[]] w (Eac (l.map Wy.Way.stop) w):=by
 obtain⟨o,c,rfl⟩:=h.slice;have H:=zh h;clear h;have hlI:(l.length:Int)≤500:=(by omega);obtain⟨i0,hi0,hz0,hz1,hz2⟩:=info_parts info3;go_enter Tryz.func48,Tryz.ntmps48
 go_wp2_with fail
 go_loopw [5,10] (fun s5 s10 wx=>∃j:Nat,j≤l.length∧s10= .int .i64 j∧wx.ownsRow w.heap.size 3 1 s5 j (cO ((l.take j).map Wy.Way.stop))∧Below w.heap.size w wx) (fun _ s10 _=>l.length-(intOf s10).toNat)
 case atStart=>exact⟨0,by omega,rfl,zN,zR⟩
 case round=>
  rename World=>Wa
  obtain⟨j,hj,rfl,hro,hbw⟩:=hrel;have HBW:=zh hbw;obtain⟨ov,cv,rfl⟩:=ay hro;by_cases hjl:¬j<l.length
  ·obtain rfl:j=l.length:=(by omega);rw[List.take_length] at hro;have hlm:(l.map Wy.Way.stop).length=l.length:=List.length_map _;have hso:=J5 (l:=l.map Wy.Way.stop) (by rw[hlm];exact hro) (by rw[hlm];exact hl);have hblk:∀q,(Value.slice ov l.length cv).ownBlock=some q→w.heap.size≤q:=fun q e=>(hro.lt q e).1
   have HSO:=zh hso;have Tf:=zh hblk;clear hso hro hbw hblk
   go_wp2_with (first
    |(go_at_call 73;(refine HSO.out.mono ?_;rintro e w5 ⟨rfl,hs5,hk5⟩;have HK5:=zh hk5;have HCO:=zh (BQ hs5 (by rw[hlm];exact hl));clear hs5 hk5))
    |(go_at_call 74;(refine HCO.out.mono ?_;rintro e w6 ⟨o6,c6,rfl,hr6,hk6⟩;have HR6:=zh hr6;have HK6:=zh hk6;clear hr6 hk6)))
   go_ret
   exact⟨o6,c6,rfl,HR6.out.mono (fun q e=>Tf.out q e),HBW.out.trans ((HK5.out.trans HK6.out).gK HBW.out.size (fun q hq e=>by have:=Tf.out q e;omega))⟩
  ·have hjl:j<l.length:=(by omega);obtain⟨b,off,cap,hve,hc1,hc2,hNb,hbz,hcell⟩:=H.out.cells (by omega);simp only[Value.slice.injEq,true_and] at hve;obtain⟨rfl,rfl⟩:=hve;obtain⟨sv,e0,e1,hsv,-,-⟩:=hcell j hjl;obtain⟨so,sc,rfl⟩:=hsv.row.slice;have y0:Wa.cell? ⟨b,off+j*2,none⟩=some (.int .i64 l[j].stop):=(hbw.cell (p:=⟨b,off+j*2,none⟩) hbz).trans e0;have y1:Wa.cell? ⟨b,off+j*2+1,none⟩=some (.slice so l[j].spans.length sc):=(hbw.cell (p:=⟨b,off+j*2+1,none⟩) hbz).trans e1;have FM:b<Wa.heap.size:=by have:=hbw.size;omega
   have hjI:(j:Int)<l.length:=(by omega);have hcI:(l.length:Int)≤c:=(by omega);obtain⟨x,hx⟩:∃x,x=l[j]:=⟨_,rfl⟩;rw[←hx] at y0 y1;have hmx:j+1≤maxLen:=by unfold maxLen;omega
   have hby:(j+1)*8≤140737488355328:=(by omega);have HX:=zh hx;have HRO:=zh hro;have HC:=zh (GG (x.stop:Int) so x.spans.length sc (Wa.alloc (.cells #[.int .i64 x.stop,.slice so x.spans.length sc] 43)));have hfin:∀w5,Below (Wa.alloc (.cells #[.int .i64 x.stop,.slice so x.spans.length sc] 43)).heap.size (Wa.alloc (.cells #[.int .i64 x.stop,.slice so x.spans.length sc] 43)) w5→
     (w5.alloc (.cells #[.int .i64 x.stop] 3)).ownsRow w.heap.size 3 1 (.slice ov j cv) j (cO ((l.take j).map Wy.Way.stop))∧w.heap.size≤(w5.alloc (.cells #[.int .i64 x.stop] 3)).heap.size∧
     ∀w4,(w5.alloc (.cells #[.int .i64 x.stop] 3)).grownBy w4 (Value.slice ov j cv).ownBlock→Below w.heap.size w w4:=fun w5 hb5=>by
    have hb1:=HBW.out.alloc HBW.out.size (.cells #[.int .i64 x.stop,.slice so x.spans.length sc] 43);have hb2:=hb1.trans (hb5.mono hb1.size);have hk:Kept (fun _=>False) Wa (w5.alloc (.cells #[.int .i64 x.stop] 3)):=(((Kept.refl (fun _=>False) Wa).alloc _).trans (Kept.of_below hb5 _)).alloc _;have Ti:=aB HRO.out hk (fun _ _=>id);exact⟨Ti,by have:=hb2.size;simp;omega,fun w4 hg=>((Kept.of_below (hb2.alloc (by have:=hb2.size;omega) (.cells #[.int .i64 x.stop] 3)) (fun q=>(Value.slice ov j cv).ownBlock=some q)).trans (Kept.bK hg)).below (fun q hq e=>by have:=(Ti.lt q e).1;omega)⟩
   have bW:=zh hfin;clear hcell e0 e1 hsv hx hro hbw hfin
   go_wp2_with (first
    |(go_at_call 49;(refine HC.out.mono ?_;rintro e w5 ⟨rfl,hb5⟩;have HF:=zh (bW.out w5 hb5);have HSR:=zh (zl (W:=w5) (c0:= .int .i64 x.stop) rfl);clear hb5))
    |(at_builtin;(refine aA rfl _ _ 48 rfl Tryz.underlying48 hi0 hz0 hz1 hz2 rfl (.slice ov j cv) j (cO ((l.take j).map Wy.Way.stop)) rfl HF.out.1 _ 1 _ rfl HSR.out rfl (by simp[Value.oneCell']) hmx hby HF.out.2.1 ?_;intro v' w4 hown' hgrow h3' h4';have HO:=zh hown';have HB4:=zh (HF.out.2.2 w4 hgrow);clear hown' hgrow h3' h4')))
   go_roundw
   case rel=>exact⟨j+1,by omega,by go_num,by
    have:=HO.out;rw[List.take_succ_eq_append_getElem hjl,←HX.out]
    simpa [cO] using this,HB4.out⟩
   case measure=>simp[intOf];omega
def zsE (s:ByteArray) (t:Nd):List Int:=iH ((lA s t).map Wy.Way.stop)
def Edo (s:ByteArray) (t:Nd) (w:World) (e:Ending) (w':World):Prop:=∃o c,e= .returned (.tuple #[.slice o (zsE s t).length c,.int .i64 (erW s t)])∧Row (fun q=>w.heap.size≤q) w' (.slice o (zsE s t).length c) (zsE s t).length 1 (qV (zsE s t))∧Below w.heap.size w w'
theorem Qu (s:ByteArray) (t:Nd):erW s t=0∨erW s t=5∧lA s t=[]:=by
 unfold erW lA;cases Wy.ways (aN s) t with
 |none=>exact .inr ⟨rfl,rfl⟩
 |some l=>exact .inl rfl
theorem J7 (h:zsE s t=[]) (he:erW s t=5) (hb:Below w.heap.size w w'):Edo s t w (.returned (.tuple #[.slice none 0 0,.int .i64 5])) w':=by
 unfold Edo;rw[h,he];exact⟨none,0,rfl,⟨rfl,.inl ⟨rfl,none,0,rfl⟩⟩,hb⟩
theorem J8 {o:Option Addr} (he:erW s t=0) (hr:Row (fun q=>w.heap.size≤q) w' (.slice o (zsE s t).length c) (zsE s t).length 1 (qV (zsE s t))) (hb:Below w.heap.size w w'):Edo s t w (.returned (.tuple #[.slice o (zsE s t).length c,.int .i64 0])) w':=by
 unfold Edo;rw[he];exact⟨o,c,rfl,hr,hb⟩
theorem Ny (h:ai (fun _=>True) w t cs) (hr:right t=true) (hno:nodes t≤1000000) (hs:s.size≤32) (hv:Lib.validD s.data.toList=true) (htab:Lib.Utf8Tabs 0 1 w) (hnone:bu w):
  Calls Tryz.prog 16 #[.agg cs.toArray,.string s] w (Edo s t w):=by
 obtain⟨k,lo,hi,lz,o1,o2,n1,c1,n2,c2,rfl⟩:=pX h;have hall:∀W,Below w.heap.size w W→Calls Tryz.prog 13 #[.agg #[.int .u8 k,.slice o1 n1 c1,.int .i64 lo,.int .i64 hi,.bool lz,.slice o2 n2 c2],.string s] W (Alu s t W):=fun W hW=>
  EJ (ai.go (zK hW) (fun _ _ _=>⟨id,trivial⟩) h) hr hno hs hv (bF htab (zK hW) id id (by have:=hnone.1;omega)) (hnone.below hW)
 have fQ:=zh hall;clear h hall htab hnone;go_enter Tryz.func16,Tryz.ntmps16
 go_upto_region 1 with fail
 have hN1:Blk (w.alloc (.cells #[.int .u8 k,.slice o1 n1 c1,.int .i64 lo,.int .i64 hi,.bool lz,.slice o2 n2 c2] 27)) w.heap.size #[.int .u8 k,.slice o1 n1 c1,.int .i64 lo,.int .i64 hi,.bool lz,.slice o2 n2 c2] 27:=Blk.new _ _ _;have hb1:Below w.heap.size w (w.alloc (.cells #[.int .u8 k,.slice o1 n1 c1,.int .i64 lo,.int .i64 hi,.bool lz,.slice o2 n2 c2] 27)):=zR.alloc zL _;generalize (w.alloc (.cells #[.int .u8 k,.slice o1 n1 c1,.int .i64 lo,.int .i64 hi,.bool lz,.slice o2 n2 c2] 27))=W1 at hN1 hb1 ⊢;obtain⟨d0,d1,d2,d3,d4,d5,-⟩:=zS hN1;have dz:=hN1.lt;have HBE:=zh hb1;have HW:=zh (fQ.out W1 hb1);have hlen:=JJ s t;have hze:=Qu s t;clear fQ hN1 hb1;obtain⟨er,her⟩:∃er,er=erW s t:=⟨_,rfl⟩;unfold Alu at HW;rw[←her] at HW hze;have HZ:=zh hze;have HER:=zh her;clear hze her;rcases HZ.out with rfl|⟨rfl,hl0⟩
 ·go_wp2_with (first
   |(go_at_call 13;(refine HW.out.mono ?_;rintro e w2 ⟨o6,c6,rfl,hw2,hb2⟩;have HB2:=zh (HBE.out.trans (hb2.mono HBE.out.size));have HE:=zh (J6 hw2 hlen);clear hb2 hw2))
   |(go_at_call 48;(refine HE.out.mono ?_;rintro e w3 ⟨o7,c7,rfl,hr7,hb3⟩;have HR7:=zh hr7;have HB3:=zh hb3;clear hr7 hb3)))
  exact bodyPost_ret (v:= .tuple #[.slice o7 (zsE s t).length c7,.int .i64 0]) (by simp[results,Tryz.results16,go_sem];rfl) rfl (J8 HER.out.symm (HR7.out.mono (fun q hq=>by have:=HB2.out.size;omega)) (HB2.out.trans (HB3.out.mono HB2.out.size)))
 ·have hz0:zsE s t=[]:=by unfold zsE;rw[hl0];exact yj
  rw[hl0] at HW;have HZ0:=zh hz0;have HW2:=zh (show Calls Tryz.prog 13 #[.agg #[.int .u8 k,.slice o1 n1 c1,.int .i64 lo,.int .i64 hi,.bool lz,.slice o2 n2 c2],.string s] W1 (fun e w'=>∃o c,e= .returned (.tuple #[.slice o 0 c,.int .i64 5])∧Below W1.heap.size W1 w') from HW.out.mono fun e w' ⟨o,c,h1,_,h3⟩=>⟨o,c,h1,h3⟩);clear HW hz0 hl0
  go_wp2_with (go_at_call 13;(refine HW2.out.mono ?_;rintro e w2 ⟨o6,c6,rfl,hb2⟩;have HB2:=zh (HBE.out.trans (hb2.mono HBE.out.size));clear hb2))
  exact bodyPost_ret (v:= .tuple #[.slice none 0 0,.int .i64 5]) (by simp[results,Tryz.results16,go_sem]) rfl (J7 HZ0.out HER.out.symm HB2.out)
end Go.Proofs.YtnhjakdmbfadlaaGreatDoor
namespace Go.Proofs.YtnhjakdmbfadlaaGreatDoor
open Go.RowKit Wy Mem Grow
variable {s:ByteArray} {cs:List Value} {l:List Wy.Way} {j:Nat} {t:Nd} {w:World}
def zU (s:ByteArray) (l:List Wy.Way):Nat:=l.countP fun x=>decide (x.stop=s.size)
def Cno (s:ByteArray) (t:Nd) (w:World) (e:Ending) (w':World):Prop:=e= .returned (.tuple #[.int .i64 (zU s (lA s t)),.int .i64 (erW s t)])∧Below w.heap.size w w'
theorem J9 (hj:j<l.length):zU s (l.take (j+1))=zU s (l.take j)+if l[j].stop=s.size then 1 else 0:=by
 unfold zU;rw[List.take_succ_eq_append_getElem hj,List.countP_append];simp
theorem cnt_le (s:ByteArray) (l:List Wy.Way):zU s l≤l.length:=List.countP_le_length
theorem Ko (h:ai (fun _=>True) w t cs) (hr:right t=true) (hno:nodes t≤1000000) (hs:s.size≤32) (hv:Lib.validD s.data.toList=true) (htab:Lib.Utf8Tabs 0 1 w) (hnone:bu w):
  Calls Tryz.prog 17 #[.agg cs.toArray,.string s] w (Cno s t w):=by
 obtain⟨k,lo,hi,lz,o1,o2,n1,c1,n2,c2,rfl⟩:=pX h;have hall:∀W,Below w.heap.size w W→Calls Tryz.prog 13 #[.agg #[.int .u8 k,.slice o1 n1 c1,.int .i64 lo,.int .i64 hi,.bool lz,.slice o2 n2 c2],.string s] W (Alu s t W):=fun W hW=>
  EJ (ai.go (zK hW) (fun _ _ _=>⟨id,trivial⟩) h) hr hno hs hv (bF htab (zK hW) id id (by have:=hnone.1;omega)) (hnone.below hW)
 have fQ:=zh hall;have hsI:(s.size:Int)≤32:=(by omega);clear h hall htab hnone;go_enter Tryz.func17,Tryz.ntmps17
 go_upto_region 1 with fail
 have hN1:Blk (w.alloc (.cells #[.int .u8 k,.slice o1 n1 c1,.int .i64 lo,.int .i64 hi,.bool lz,.slice o2 n2 c2] 27)) w.heap.size #[.int .u8 k,.slice o1 n1 c1,.int .i64 lo,.int .i64 hi,.bool lz,.slice o2 n2 c2] 27:=Blk.new _ _ _;have hb1:Below w.heap.size w (w.alloc (.cells #[.int .u8 k,.slice o1 n1 c1,.int .i64 lo,.int .i64 hi,.bool lz,.slice o2 n2 c2] 27)):=zR.alloc zL _;generalize (w.alloc (.cells #[.int .u8 k,.slice o1 n1 c1,.int .i64 lo,.int .i64 hi,.bool lz,.slice o2 n2 c2] 27))=W1 at hN1 hb1 ⊢;obtain⟨d0,d1,d2,d3,d4,d5,-⟩:=zS hN1;have dz:=hN1.lt;have HBE:=zh hb1;have HW:=zh (fQ.out W1 hb1);have hl5:=JJ s t;clear fQ hN1 hb1;unfold Alu at HW;obtain⟨er,her⟩:∃er,er=erW s t:=⟨_,rfl⟩;obtain⟨l,hla⟩:∃l,l=lA s t:=⟨_,rfl⟩;rw[←her,←hla] at HW;rw[←hla] at hl5;have HER:=zh her;have HLA:=zh hla;clear her hla;have hlI:(l.length:Int)≤500:=by omega
 go_wp2_with (go_at_call 13;(refine HW.out.mono ?_;rintro e w2 ⟨o6,c6,rfl,hw2,hb2⟩;have HB2:=zh (HBE.out.trans (hb2.mono HBE.out.size));have H:=zh hw2;clear hb2 hw2))
 go_loopw [8,19] (fun s8 s19 wx=>∃j:Nat,j≤l.length∧s19= .int .i64 j∧s8= .int .i64 (zU s (l.take j))∧Below w2.heap.size w2 wx) (fun _ s19 _=>l.length-(intOf s19).toNat)
 case atStart=>exact⟨0,by omega,rfl,rfl,zR⟩
 case round=>
  rename World=>Wa
  obtain⟨j,hj,rfl,rfl,hbw⟩:=hrel;have HBW:=zh hbw;by_cases hjl:¬j<l.length
  ·obtain rfl:j=l.length:=(by omega);rw[List.take_length];clear hbw
   go_wp2_with fail
   exact bodyPost_ret (v:= .tuple #[.int .i64 (zU s l),.int .i64 er]) (by simp[results,Tryz.results17,go_sem]) rfl ⟨by rw[←HER.out,←HLA.out],HB2.out.trans (HBW.out.mono HB2.out.size)⟩
  ·have hjl:j<l.length:=(by omega);obtain⟨b,off,cap,hve,hc1,hc2,hNb,hbz,hcell⟩:=H.out.cells (by omega);simp only[Value.slice.injEq,true_and] at hve;obtain⟨rfl,rfl⟩:=hve;obtain⟨sv,e0,e1,hsv,-,-⟩:=hcell j hjl;obtain⟨so,sc,rfl⟩:=hsv.row.slice;have y0:Wa.cell? ⟨b,off+j*2,none⟩=some (.int .i64 l[j].stop):=(hbw.cell (p:=⟨b,off+j*2,none⟩) hbz).trans e0;have y1:Wa.cell? ⟨b,off+j*2+1,none⟩=some (.slice so l[j].spans.length sc):=(hbw.cell (p:=⟨b,off+j*2+1,none⟩) hbz).trans e1;have FM:b<Wa.heap.size:=by have:=hbw.size;omega
   have hjI:(j:Int)<l.length:=(by omega);have hcI:(l.length:Int)≤c6:=(by omega);have hct:=J9 (s:=s) hjl;have hcl:zU s (l.take j)≤j:=by have:=cnt_le s (l.take j);rw[List.length_take] at this;omega
   obtain⟨n0,hn0⟩:∃n,n=zU s (l.take j):=⟨_,rfl⟩;rw[←hn0] at hct hcl ⊢;have hnI:(n0:Int)≤500:=(by omega);obtain⟨x,hx⟩:∃x,x=l[j]:=⟨_,rfl⟩;rw[←hx] at y0 y1 hct;clear hcell e0 e1 hsv hx hbw;by_cases he:x.stop=s.size
   ·rw[if_pos he] at hct;have HCT:=zh hct;have he1:((x.stop:Int) == s.size)=true:=by rw[he];simp
    clear hct he
    go_wp2_with fail
    go_roundw
    case rel=>exact⟨j+1,by omega,by go_num,by rw[HCT.out];go_num,HBW.out.alloc HBW.out.size _⟩
    case measure=>simp[intOf];omega
   ·rw[if_neg he] at hct;have HCT:=zh hct;have he1:((x.stop:Int) == s.size)=false:=by simp;omega
    clear hct he
    go_wp2_with fail
    go_roundw
    case rel=>exact⟨j+1,by omega,by go_num,by rw[HCT.out];rfl,HBW.out.alloc HBW.out.size _⟩
    case measure=>simp[intOf];omega
theorem wF (s:ByteArray) (p:Nat):Utf8.decode s p=Lib.decodeL (s.data.toList.drop p):=by
 rw[Lib.decode_N,Lib.decodeL_N];simp only[List.length_drop,List.getD_eq_getElem?_getD,List.getElem?_drop,Nat.add_zero]
theorem GH (s:ByteArray) (p:Nat):bn s p=⟨(s.data.toList.drop p).toArray⟩:=by
 unfold bn;apply ByteArray.ext;apply Array.ext';rw[ByteArray.data_extract,Array.toList_extract,List.extract_eq_take_drop];have e:s.size=s.data.toList.length:=by rw[Array.length_toList];rfl
 rw[e];apply List.take_of_length_le;rw[List.length_drop];exact Nat.le_refl _
theorem qW (s:ByteArray) (p:Nat) (hp:p<s.size):(aN s).dec p=(((Lib.decodeL (s.data.toList.drop p)).1:Int),(Lib.decodeL (s.data.toList.drop p)).2):=by
 have e:s.extract p s.size=⟨(s.data.toList.drop p).toArray⟩:=GH s p;have hsz:(s.extract p s.size).size≠0:=by simp;omega
 show(((Lib.decodeGo (s.extract p s.size)).1:Int),(Lib.decodeGo (s.extract p s.size)).2)=_
 unfold Lib.decodeGo Lib.decodeL;rw[if_neg hsz,e]
theorem dec_strS (s:ByteArray) (p:Nat) (hp:p<s.size):((aN s).dec p).2=(Utf8.decode s p).2:=by
 rw[qW s p hp,wF]
theorem BR (s:ByteArray) (p:Nat) (hp:¬p<s.size):((aN s).dec p).2=0:=by
 have hsz:(s.extract p s.size).size=0:=by simp;omega
 show(Lib.decodeGo (s.extract p s.size)).2=0
 unfold Lib.decodeGo;rw[if_pos hsz]
theorem dec_width (s:ByteArray) (p:Nat) (hp:p<s.size):1≤(Utf8.decode s p).2∧p+(Utf8.decode s p).2≤s.size:=by
 have hl:(s.data.toList.drop p).length=s.size-p:=by rw[List.length_drop,Array.length_toList];rfl
 have hne:s.data.toList.drop p≠[]:=by intro e;rw[e] at hl;simp at hl;omega
 have hle:=Lib.decodeL_le _ hne;rw[wF];refine⟨?_,by omega⟩;rw[←wF];by_cases ha:(s[p]'hp).toNat<128
 ·rw[decode_ascii s p hp ha];exact Nat.le_refl _
 ·exact(decode_high s p hp (by omega)).2
structure Pla (s:ByteArray) (pos:Nat) (P:List Nat):Prop where
 last:s.size∈P
 first:pos=0∨0∈P
 next:∀p∈P,p=s.size∨p<s.size∧(p+(Utf8.decode s p).2=pos∨p+(Utf8.decode s p).2∈P)
 le:pos≤s.size
 len:P.length≤pos+1
end Go.Proofs.YtnhjakdmbfadlaaGreatDoor
