/- Parts of the proof. Conditions: none. -/
import Derived.Test.YtnhjakdmbfadlaaGreatDoorT14
import Derived.Test.YtnhjakdmbfadlaaGreatDoorT00
set_option linter.all false
set_option maxHeartbeats 8000000
set_option maxRecDepth 100000
namespace Go.Proofs.YtnhjakdmbfadlaaGreatDoor
open Go.RowKit Wy Mem Grow
variable {bb:Bool} {s:ByteArray} {er st:Int} {cs:List Value} {t:Nd} {v:Value} {w w' w0 w1:World}
def qQ (p:Wy.Way→Bool) (s:ByteArray) (t:Nd) (w w':World) (st:Int) (v:Value) (bb:Bool) (er:Int):Prop:=
 match Wy.ways (aN s) t with
 |none=>st=0∧v= .slice none 0 0∧bb=false∧er=5
 |some l=>match l.find? p with
  |none=>st=0∧v= .slice none 0 0∧bb=false∧er=0
  |some x=>st=x.stop∧bb=true∧er=0∧aC (fun q=>w.heap.size≤q) w' v x.spans
theorem BG {p:Wy.Way→Bool} {e:Ending} (h:Fnd p s t w e w'):Below w.heap.size w w'∧∃(st:Int) (o:Option Addr) (n c:Nat) (bb:Bool) (er:Int),e= .returned (.tuple #[.agg #[.int .i64 st,.slice o n c],.bool bb,.int .i64 er])∧qQ p s t w w' st (.slice o n c) bb er:=by
 obtain⟨h1,h2⟩:=h;refine⟨h1,?_⟩;unfold qQ;cases hw:Wy.ways (aN s) t with
 |none=>
  rw[hw] at h2;exact⟨_,_,_,_,_,_,h2,rfl,rfl,rfl,rfl⟩
 |some l=>
  rw[hw] at h2;simp only at h2 ⊢;cases hf:l.find? p with
  |none=>
   rw[hf] at h2;exact⟨_,_,_,_,_,_,h2,rfl,rfl,rfl,rfl⟩
  |some x=>
   rw[hf] at h2;obtain⟨sv,h3,h4⟩:=h2;obtain⟨o,c,rfl⟩:=h4.row.slice;exact⟨_,_,_,_,_,_,h3,rfl,rfl,rfl,h4⟩
theorem qQ.go {p:Wy.Way→Bool} (h:qQ p s t w1 w' st v bb er) {X:Nat→Prop} {w2:World} (k:Kept X w' w2) (hX:∀q,w1.heap.size≤q→q<w'.heap.size→¬X q) (hw:w0.heap.size≤w1.heap.size) (e:w=w0):qQ p s t w w2 st v bb er:=by
 subst e;unfold qQ at h ⊢;cases hw:Wy.ways (aN s) t with
 |none=>rw[hw] at h;exact h
 |some l=>
  rw[hw] at h;simp only at h ⊢;cases hf:l.find? p with
  |none=>rw[hf] at h;exact h
  |some x=>
   rw[hf] at h;exact⟨h.1,h.2.1,h.2.2.1,aC.go h.2.2.2 k (fun q hq hn=>⟨hX q hn hq,by omega⟩)⟩
def Fst (s:ByteArray) (t:Nd) (w:World) (e:Ending) (w':World):Prop:=
 Below w.heap.size w w'∧∃(st:Int) (v:Value) (bb:Bool) (er:Int),e= .returned (.tuple #[.agg #[.int .i64 st,v],.bool bb,.int .i64 er])∧qQ lQ s t w w' st v bb er
def Whl (s:ByteArray) (t:Nd) (w:World) (e:Ending) (w':World):Prop:=
 Below w.heap.size w w'∧∃(st:Int) (v:Value) (bb:Bool) (er:Int),e= .returned (.tuple #[v,.bool bb,.int .i64 er])∧qQ (lT s) s t w w' st v bb er
theorem first_any (h:ai (fun _=>True) w t cs) (hr:right t=true) (hno:nodes t≤1000000) (hs:s.size≤32) (hv:Lib.validD s.data.toList=true) (htab:Lib.Utf8Tabs 0 1 w) (hnone:bu w):
  Calls Tryz.prog 14 #[.agg cs.toArray,.string s] w (Fst s t w):=by
 obtain⟨k,lo,hi,lz,o1,o2,n1,c1,n2,c2,rfl⟩:=pX h;have hcall:∀W,Below w.heap.size w W→Calls Tryz.prog 45 #[.agg #[.int .u8 k,.slice o1 n1 c1,.int .i64 lo,.int .i64 hi,.bool lz,.slice o2 n2 c2],.string s,.func (.func 46) #[] #[]] W (Fnd lQ s t W):=fun W hW=>
  wW (ai.go (zK hW) (fun _ _ _=>⟨id,trivial⟩) h) hr hno hs hv (bF htab (zK hW) id id (by have:=hnone.1;omega)) (hnone.below hW)
 have aS:=zh hcall;clear h hcall htab hnone;go_enter Tryz.func14,Tryz.ntmps14
 go_upto_region 1 with fail
 have hB1:Blk ((w.alloc (.cells #[.int .u8 k,.slice o1 n1 c1,.int .i64 lo,.int .i64 hi,.bool lz,.slice o2 n2 c2] 27)).alloc (.cells #[.int .i64 0,.slice none 0 0] 43)) (w.heap.size+1) #[.int .i64 0,.slice none 0 0] 43:=Blk.new' _ _ (by simp);have hN1:Blk ((w.alloc (.cells #[.int .u8 k,.slice o1 n1 c1,.int .i64 lo,.int .i64 hi,.bool lz,.slice o2 n2 c2] 27)).alloc (.cells #[.int .i64 0,.slice none 0 0] 43)) w.heap.size #[.int .u8 k,.slice o1 n1 c1,.int .i64 lo,.int .i64 hi,.bool lz,.slice o2 n2 c2] 27:=(Blk.new _ _ _).alloc _;have hb1:Below w.heap.size w ((w.alloc (.cells #[.int .u8 k,.slice o1 n1 c1,.int .i64 lo,.int .i64 hi,.bool lz,.slice o2 n2 c2] 27)).alloc (.cells #[.int .i64 0,.slice none 0 0] 43)):=(zR.alloc zL _).alloc (by simp) _;generalize ((w.alloc (.cells #[.int .u8 k,.slice o1 n1 c1,.int .i64 lo,.int .i64 hi,.bool lz,.slice o2 n2 c2] 27)).alloc (.cells #[.int .i64 0,.slice none 0 0] 43))=W1 at hB1 hN1 hb1 ⊢;obtain⟨d0,d1,d2,d3,d4,d5,-⟩:=zS hN1;have dz:=hN1.lt;have HB1:=zh hB1;have HBE:=zh hb1;clear hB1 hN1 hb1
 go_wp2_with (go_at_call 45;(refine(aS.out W1 HBE.out).mono ?_;rintro e w2 h2;obtain⟨hb2,st,o,n,c,bb,er,rfl,hf⟩:=BG h2;have HB2:=zh hb2;have HF:=zh hf;have B3:=HB1.out.below hb2 HB1.out.lt;obtain⟨r0,r1,rf0,rf1⟩:=B3.two;have rz:=B3.lt;have HBB:=zh B3;clear h2 hb2 hf B3))
 have hR:=((HBB.out.set 0 (.int .i64 st)).set 1 (.slice o n c)).two;have hz:=HB1.out.lt;have hz':=HBE.out.size;exact bodyPost_ret (v:= .tuple #[.agg #[.int .i64 st,.slice o n c],.bool bb,.int .i64 er]) (by simp[results,Tryz.results14,go_sem,hR.1,hR.2.1]) rfl
  ⟨((HBE.out.trans (HB2.out.mono HBE.out.size)).setCell (by show w.heap.size≤w.heap.size+1;omega) _).setCell (by show w.heap.size≤w.heap.size+1;omega) _,st,_,bb,er,rfl,
   qQ.go HF.out (((Kept.refl (fun q=>q=w.heap.size+1) w2).setCell (p:=⟨w.heap.size+1,0,none⟩) (fun _=>rfl) _).setCell (p:=⟨w.heap.size+1,1,none⟩) (fun _=>rfl) _) (fun q hq _ e=>by omega) hz' rfl⟩
theorem x8 (h:ai (fun _=>True) w t cs) (hr:right t=true) (hno:nodes t≤1000000) (hs:s.size≤32) (hv:Lib.validD s.data.toList=true) (htab:Lib.Utf8Tabs 0 1 w) (hnone:bu w):
  Calls Tryz.prog 15 #[.agg cs.toArray,.string s] w (Whl s t w):=by
 obtain⟨k,lo,hi,lz,o1,o2,n1,c1,n2,c2,rfl⟩:=pX h;have hcall:∀W sb,Below w.heap.size w W→W.cell? ⟨sb,0,none⟩=some (.string s)→sb<W.heap.size→Calls Tryz.prog 45 #[.agg #[.int .u8 k,.slice o1 n1 c1,.int .i64 lo,.int .i64 hi,.bool lz,.slice o2 n2 c2],.string s,.func (.func 47) #[] #[.pointer (some ⟨sb,0,none⟩)]] W (Fnd (lT s) s t W):=fun W sb hW hsb hsz=>
  wX (ai.go (zK hW) (fun _ _ _=>⟨id,trivial⟩) h) hr hno hs hv (bF htab (zK hW) id id (by have:=hnone.1;omega)) (hnone.below hW) hsb hsz
 have aS:=zh hcall;clear h hcall htab hnone;go_enter Tryz.func15,Tryz.ntmps15
 go_upto_region 1 with fail
 have hB1:Blk ((w.alloc (.cells #[.int .u8 k,.slice o1 n1 c1,.int .i64 lo,.int .i64 hi,.bool lz,.slice o2 n2 c2] 27)).alloc (.cells #[.string s] 9)) (w.heap.size+1) #[.string s] 9:=Blk.new' _ _ (by simp);have hN1:Blk ((w.alloc (.cells #[.int .u8 k,.slice o1 n1 c1,.int .i64 lo,.int .i64 hi,.bool lz,.slice o2 n2 c2] 27)).alloc (.cells #[.string s] 9)) w.heap.size #[.int .u8 k,.slice o1 n1 c1,.int .i64 lo,.int .i64 hi,.bool lz,.slice o2 n2 c2] 27:=(Blk.new _ _ _).alloc _;have hb1:Below w.heap.size w ((w.alloc (.cells #[.int .u8 k,.slice o1 n1 c1,.int .i64 lo,.int .i64 hi,.bool lz,.slice o2 n2 c2] 27)).alloc (.cells #[.string s] 9)):=(zR.alloc zL _).alloc (by simp) _;generalize ((w.alloc (.cells #[.int .u8 k,.slice o1 n1 c1,.int .i64 lo,.int .i64 hi,.bool lz,.slice o2 n2 c2] 27)).alloc (.cells #[.string s] 9))=W1 at hB1 hN1 hb1 ⊢;obtain⟨d0,d1,d2,d3,d4,d5,-⟩:=zS hN1;have dz:=hN1.lt;have s0:W1.cell? ⟨w.heap.size+1,0,none⟩=some (.string s):=hB1.cell 0;have sz:=hB1.lt;have hcl:=aS.out W1 _ hb1 s0 sz;have HC:=zh hcl;have HBE:=zh hb1;clear hB1 hN1 hb1 hcl aS
 go_wp2_with (go_at_call 45;(refine HC.out.mono ?_;rintro e w2 h2;obtain⟨hb2,st,o,n,c,bb,er,rfl,hf⟩:=BG h2;have HB2:=zh hb2;have HF:=zh hf;clear h2 hb2 hf))
 have hz':=HBE.out.size;exact bodyPost_ret (v:= .tuple #[.slice o n c,.bool bb,.int .i64 er]) (by simp[results,Tryz.results15,go_sem]) rfl
  ⟨(HBE.out.trans (HB2.out.mono HBE.out.size)).alloc (by have:=HB2.out.size;omega) _,st,_,bb,er,rfl,qQ.go HF.out ((Kept.refl (fun _=>False) w2).alloc _) (fun q hq _=>id) hz' rfl⟩
end Go.Proofs.YtnhjakdmbfadlaaGreatDoor
