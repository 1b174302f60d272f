/- Parts of the proof. Conditions: none. -/
import Derived.Test.YtnhjakdmbfadlaaGreatDoorT18
import Derived.Test.YtnhjakdmbfadlaaGreatDoorT00
set_option linter.all false
set_option maxHeartbeats 8000000
set_option maxRecDepth 100000
namespace Go.Proofs.YtnhjakdmbfadlaaGreatDoor
open Go.RowKit Wy Mem Grow
variable {lz:Bool} {s:ByteArray} {er hi k lo:Int} {cs:List Value} {c1 c2 n1 n2:Nat} {t:Nd} {o1 o2:Option Addr} {w w':World}
theorem JY (h:ai (fun _=>True) w t cs) (hno:nodes t≤1000000) (hr:right t=true) (hl:32<s.size) (hm:s.size≤1000000):
  Calls Tryz.prog 13 #[.agg cs.toArray,.string s] w fun e w'=>e= .returned (.tuple #[.slice none 0 0,.int .i64 3])∧Below w.heap.size w w':=by
 obtain⟨k,lo,hi,lz,o1,o2,n1,c1,n2,c2,rfl⟩:=pX h;have hsI:(32:Int)<(s.size:Int):=(by omega);have hsM:(s.size:Int)≤1000000:=(by omega);have HND:=zh h;clear h;go_enter Tryz.func13,Tryz.ntmps13
 go_upto_region 1 with fail
 have hN1:Blk (w.alloc (.cells #[.int .u8 k,.slice o1 n1 c1,.int .i64 lo,.int .i64 hi,.bool lz,.slice o2 n2 c2] 27)) w.heap.size #[.int .u8 k,.slice o1 n1 c1,.int .i64 lo,.int .i64 hi,.bool lz,.slice o2 n2 c2] 27:=Blk.new _ _ _;have hb1:Below w.heap.size w (w.alloc (.cells #[.int .u8 k,.slice o1 n1 c1,.int .i64 lo,.int .i64 hi,.bool lz,.slice o2 n2 c2] 27)):=zR.alloc zL _;generalize (w.alloc (.cells #[.int .u8 k,.slice o1 n1 c1,.int .i64 lo,.int .i64 hi,.bool lz,.slice o2 n2 c2] 27))=W1 at hN1 hb1 ⊢;have hright:=lN (ai.go (M:=fun _=>True) (zK hb1) (fun _ _ _=>⟨id,trivial⟩) HND.out) hno;rw[hr] at hright;obtain⟨d0,d1,d2,d3,d4,d5,-⟩:=zS hN1;have dz:=hN1.lt;have HR:=zh hright;have oL:=zh hb1;clear hright hN1 hb1
 go_wp2_with (first|(go_at_call 40;(refine HR.out.mono ?_;rintro e w2 ⟨rfl,hb2⟩;have rW:=zh (oL.out.trans (hb2.mono oL.out.size));clear hb2)))
 exact bodyPost_ret (v:= .tuple #[.slice none 0 0,.int .i64 3]) (by simp[results,Tryz.results13,go_sem]) rfl ⟨rfl,rW.out⟩
theorem JZ (h:ai (fun _=>True) w t cs) (hno:nodes t≤1000000) (hr:right t=true) (hs:s.size≤32) (hv:Lib.validD s.data.toList=false) (htab:Lib.Utf8Tabs 0 1 w) (hnone:bu w):
  Calls Tryz.prog 13 #[.agg cs.toArray,.string s] w fun e w'=>e= .returned (.tuple #[.slice none 0 0,.int .i64 80])∧Below w.heap.size w w':=by
 obtain⟨k,lo,hi,lz,o1,o2,n1,c1,n2,c2,rfl⟩:=pX h;have hsI:(s.size:Int)≤32:=(by omega);have HND:=zh h;clear h;go_enter Tryz.func13,Tryz.ntmps13
 go_upto_region 1 with fail
 have hN1:Blk (w.alloc (.cells #[.int .u8 k,.slice o1 n1 c1,.int .i64 lo,.int .i64 hi,.bool lz,.slice o2 n2 c2] 27)) w.heap.size #[.int .u8 k,.slice o1 n1 c1,.int .i64 lo,.int .i64 hi,.bool lz,.slice o2 n2 c2] 27:=Blk.new _ _ _;have hb1:Below w.heap.size w (w.alloc (.cells #[.int .u8 k,.slice o1 n1 c1,.int .i64 lo,.int .i64 hi,.bool lz,.slice o2 n2 c2] 27)):=zR.alloc zL _;generalize (w.alloc (.cells #[.int .u8 k,.slice o1 n1 c1,.int .i64 lo,.int .i64 hi,.bool lz,.slice o2 n2 c2] 27))=W1 at hN1 hb1 ⊢;have hright:=lN (ai.go (M:=fun _=>True) (zK hb1) (fun _ _ _=>⟨id,trivial⟩) HND.out) hno;rw[hr] at hright;obtain⟨d0,d1,d2,d3,d4,d5,-⟩:=zS hN1;have dz:=hN1.lt;have HR:=zh hright;have oL:=zh hb1;have hvalid:∀W,Below w.heap.size w W→Calls Tryz.prog 41 #[.string s] W fun e w'=>e= .returned (.bool false)∧Below W.heap.size W w':=fun W hW=>by
  have:=Tryz.utf8_ValidString s W (by omega) (bF htab (zK hW) id id (by have:=hnone.1;omega))
  rwa [hv] at this
 have HV:=zh hvalid;clear hvalid htab hnone;clear hright hN1 hb1
 go_wp2_with (first|(go_at_call 40;(refine HR.out.mono ?_;rintro e w2 ⟨rfl,hb2⟩;have rW:=zh (oL.out.trans (hb2.mono oL.out.size));clear hb2))|(go_at_call 41;(refine(HV.out _ rW.out).mono ?_;rintro e w3 ⟨rfl,hb3⟩;have Dt:=zh (rW.out.trans (hb3.mono rW.out.size));clear hb3)))
 exact bodyPost_ret (v:= .tuple #[.slice none 0 0,.int .i64 80]) (by simp[results,Tryz.results13,go_sem]) rfl ⟨rfl,Dt.out⟩
def kL (er:Int) (s:ByteArray) (cs:List Value) (w:World):Prop:=(er=73∨er=3∨er=80)∧∀W,Below w.heap.size w W→Calls Tryz.prog 13 #[.agg cs.toArray,.string s] W fun e w'=>e= .returned (.tuple #[.slice none 0 0,.int .i64 er])∧Below W.heap.size W w'
theorem kL.below (h:kL er s cs w) (hb:Below w.heap.size w w'):kL er s cs w':=⟨h.1,fun W hW=>h.2 W (hb.trans (hW.mono hb.size))⟩
theorem xe (h:kL er s [.int .u8 k,.slice o1 n1 c1,.int .i64 lo,.int .i64 hi,.bool lz,.slice o2 n2 c2] w):
  Calls Tryz.prog 45 #[.agg #[.int .u8 k,.slice o1 n1 c1,.int .i64 lo,.int .i64 hi,.bool lz,.slice o2 n2 c2],.string s,.func (.func 46) #[] #[]] w fun e w'=>e= .returned (.tuple #[.agg #[.int .i64 0,.slice none 0 0],.bool false,.int .i64 er])∧Below w.heap.size w w':=by
 obtain⟨her,hall⟩:=h;have fQ:=zh hall;clear hall;go_enter Tryz.func45,Tryz.ntmps45
 go_upto_region 1 with fail
 have hB1:Blk ((w.alloc (.cells #[.int .u8 k,.slice o1 n1 c1,.int .i64 lo,.int .i64 hi,.bool lz,.slice o2 n2 c2] 27)).alloc (.cells #[.int .i64 0,.slice none 0 0] 43)) (w.heap.size+1) #[.int .i64 0,.slice none 0 0] 43:=Blk.new' _ _ (by simp);have hN1:Blk ((w.alloc (.cells #[.int .u8 k,.slice o1 n1 c1,.int .i64 lo,.int .i64 hi,.bool lz,.slice o2 n2 c2] 27)).alloc (.cells #[.int .i64 0,.slice none 0 0] 43)) w.heap.size #[.int .u8 k,.slice o1 n1 c1,.int .i64 lo,.int .i64 hi,.bool lz,.slice o2 n2 c2] 27:=(Blk.new _ _ _).alloc _;have hb1:Below w.heap.size w ((w.alloc (.cells #[.int .u8 k,.slice o1 n1 c1,.int .i64 lo,.int .i64 hi,.bool lz,.slice o2 n2 c2] 27)).alloc (.cells #[.int .i64 0,.slice none 0 0] 43)):=(zR.alloc zL _).alloc (by simp) _;generalize ((w.alloc (.cells #[.int .u8 k,.slice o1 n1 c1,.int .i64 lo,.int .i64 hi,.bool lz,.slice o2 n2 c2] 27)).alloc (.cells #[.int .i64 0,.slice none 0 0] 43))=W1 at hB1 hN1 hb1 ⊢;obtain⟨d0,d1,d2,d3,d4,d5,-⟩:=zS hN1;have dz:=hN1.lt;have HB1:=zh hB1;have HBE:=zh hb1;have HW:=zh (fQ.out W1 hb1);clear hB1 hN1 hb1;rcases her with rfl|rfl|rfl
 ·go_wp2_with (first|(go_at_call 13;(refine HW.out.mono ?_;rintro e w2 ⟨rfl,hb2⟩;have HB2:=zh hb2;have HI:=zh (iD (aI.nil (fun _=>True) w2 0 0 none 0) (by simp));clear hb2))|(go_at_call 53;(refine HI.out.mono ?_;rintro e w3 ⟨hb3,h3⟩;obtain rfl:=ny h3;have HB3:=zh (HB2.out.trans (hb3.mono HB2.out.size));have B3:=HB1.out.below HB3.out HB1.out.lt;obtain⟨r0,r1,rf0,rf1⟩:=B3.two;have rz:=B3.lt;have HBB:=zh B3;clear hb3 h3 B3)))
  have hR:=((HBB.out.set 0 (.int .i64 0)).set 1 (.slice none 0 0)).two;exact bodyPost_ret (v:= .tuple #[.agg #[.int .i64 0,.slice none 0 0],.bool false,.int .i64 73]) (by simp[results,Tryz.results45,go_sem,hR.1,hR.2.1]) rfl ⟨rfl,((HBE.out.trans (HB3.out.mono HBE.out.size)).setCell (by show w.heap.size≤w.heap.size+1;omega) _).setCell (by show w.heap.size≤w.heap.size+1;omega) _⟩
 ·go_wp2_with (first|(go_at_call 13;(refine HW.out.mono ?_;rintro e w2 ⟨rfl,hb2⟩;have HB2:=zh hb2;have HI:=zh (iD (aI.nil (fun _=>True) w2 0 0 none 0) (by simp));clear hb2))|(go_at_call 53;(refine HI.out.mono ?_;rintro e w3 ⟨hb3,h3⟩;obtain rfl:=ny h3;have HB3:=zh (HB2.out.trans (hb3.mono HB2.out.size));have B3:=HB1.out.below HB3.out HB1.out.lt;obtain⟨r0,r1,rf0,rf1⟩:=B3.two;have rz:=B3.lt;have HBB:=zh B3;clear hb3 h3 B3)))
  have hR:=((HBB.out.set 0 (.int .i64 0)).set 1 (.slice none 0 0)).two;exact bodyPost_ret (v:= .tuple #[.agg #[.int .i64 0,.slice none 0 0],.bool false,.int .i64 3]) (by simp[results,Tryz.results45,go_sem,hR.1,hR.2.1]) rfl ⟨rfl,((HBE.out.trans (HB3.out.mono HBE.out.size)).setCell (by show w.heap.size≤w.heap.size+1;omega) _).setCell (by show w.heap.size≤w.heap.size+1;omega) _⟩
 ·go_wp2_with (first|(go_at_call 13;(refine HW.out.mono ?_;rintro e w2 ⟨rfl,hb2⟩;have HB2:=zh hb2;have HI:=zh (iD (aI.nil (fun _=>True) w2 0 0 none 0) (by simp));clear hb2))|(go_at_call 53;(refine HI.out.mono ?_;rintro e w3 ⟨hb3,h3⟩;obtain rfl:=ny h3;have HB3:=zh (HB2.out.trans (hb3.mono HB2.out.size));have B3:=HB1.out.below HB3.out HB1.out.lt;obtain⟨r0,r1,rf0,rf1⟩:=B3.two;have rz:=B3.lt;have HBB:=zh B3;clear hb3 h3 B3)))
  have hR:=((HBB.out.set 0 (.int .i64 0)).set 1 (.slice none 0 0)).two;exact bodyPost_ret (v:= .tuple #[.agg #[.int .i64 0,.slice none 0 0],.bool false,.int .i64 80]) (by simp[results,Tryz.results45,go_sem,hR.1,hR.2.1]) rfl ⟨rfl,((HBE.out.trans (HB3.out.mono HBE.out.size)).setCell (by show w.heap.size≤w.heap.size+1;omega) _).setCell (by show w.heap.size≤w.heap.size+1;omega) _⟩
theorem kM (sb:Nat) (w:World):Calls Tryz.prog 53 #[.slice none 0 0,.func (.func 47) #[] #[.pointer (some ⟨sb,0,none⟩)]] w (Idx lQ [] w):=by
 go_enter Tryz.func53,Tryz.ntmps53
 go_wp2_with fail
 go_loopw [8] (fun s8 wx=>s8= .int .i64 0∧Below w.heap.size w wx) (fun _ _=>0)
 case atStart=>exact⟨rfl,zR⟩
 case round=>
  rename World=>Wa
  obtain⟨rfl,hbw⟩:=hrel;have HBW:=zh hbw;clear hbw
  go_wp2_with fail
  go_ret
  exact⟨HBW.out,.inl ⟨rfl,rfl⟩⟩
theorem xg (h:kL er s [.int .u8 k,.slice o1 n1 c1,.int .i64 lo,.int .i64 hi,.bool lz,.slice o2 n2 c2] w) {sb:Nat}:
  Calls Tryz.prog 45 #[.agg #[.int .u8 k,.slice o1 n1 c1,.int .i64 lo,.int .i64 hi,.bool lz,.slice o2 n2 c2],.string s,.func (.func 47) #[] #[.pointer (some ⟨sb,0,none⟩)]] w fun e w'=>e= .returned (.tuple #[.agg #[.int .i64 0,.slice none 0 0],.bool false,.int .i64 er])∧Below w.heap.size w w':=by
 obtain⟨her,hall⟩:=h;have fQ:=zh hall;clear hall;go_enter Tryz.func45,Tryz.ntmps45
 go_upto_region 1 with fail
 have hB1:Blk ((w.alloc (.cells #[.int .u8 k,.slice o1 n1 c1,.int .i64 lo,.int .i64 hi,.bool lz,.slice o2 n2 c2] 27)).alloc (.cells #[.int .i64 0,.slice none 0 0] 43)) (w.heap.size+1) #[.int .i64 0,.slice none 0 0] 43:=Blk.new' _ _ (by simp);have hN1:Blk ((w.alloc (.cells #[.int .u8 k,.slice o1 n1 c1,.int .i64 lo,.int .i64 hi,.bool lz,.slice o2 n2 c2] 27)).alloc (.cells #[.int .i64 0,.slice none 0 0] 43)) w.heap.size #[.int .u8 k,.slice o1 n1 c1,.int .i64 lo,.int .i64 hi,.bool lz,.slice o2 n2 c2] 27:=(Blk.new _ _ _).alloc _;have hb1:Below w.heap.size w ((w.alloc (.cells #[.int .u8 k,.slice o1 n1 c1,.int .i64 lo,.int .i64 hi,.bool lz,.slice o2 n2 c2] 27)).alloc (.cells #[.int .i64 0,.slice none 0 0] 43)):=(zR.alloc zL _).alloc (by simp) _;generalize ((w.alloc (.cells #[.int .u8 k,.slice o1 n1 c1,.int .i64 lo,.int .i64 hi,.bool lz,.slice o2 n2 c2] 27)).alloc (.cells #[.int .i64 0,.slice none 0 0] 43))=W1 at hB1 hN1 hb1 ⊢;obtain⟨d0,d1,d2,d3,d4,d5,-⟩:=zS hN1;have dz:=hN1.lt;have HB1:=zh hB1;have HBE:=zh hb1;have HW:=zh (fQ.out W1 hb1);clear hB1 hN1 hb1;rcases her with rfl|rfl|rfl
 ·go_wp2_with (first|(go_at_call 13;(refine HW.out.mono ?_;rintro e w2 ⟨rfl,hb2⟩;have HB2:=zh hb2;have HI:=zh (kM sb w2);clear hb2))|(go_at_call 53;(refine HI.out.mono ?_;rintro e w3 ⟨hb3,h3⟩;obtain rfl:=ny h3;have HB3:=zh (HB2.out.trans (hb3.mono HB2.out.size));have B3:=HB1.out.below HB3.out HB1.out.lt;obtain⟨r0,r1,rf0,rf1⟩:=B3.two;have rz:=B3.lt;have HBB:=zh B3;clear hb3 h3 B3)))
  have hR:=((HBB.out.set 0 (.int .i64 0)).set 1 (.slice none 0 0)).two;exact bodyPost_ret (v:= .tuple #[.agg #[.int .i64 0,.slice none 0 0],.bool false,.int .i64 73]) (by simp[results,Tryz.results45,go_sem,hR.1,hR.2.1]) rfl ⟨rfl,((HBE.out.trans (HB3.out.mono HBE.out.size)).setCell (by show w.heap.size≤w.heap.size+1;omega) _).setCell (by show w.heap.size≤w.heap.size+1;omega) _⟩
 ·go_wp2_with (first|(go_at_call 13;(refine HW.out.mono ?_;rintro e w2 ⟨rfl,hb2⟩;have HB2:=zh hb2;have HI:=zh (kM sb w2);clear hb2))|(go_at_call 53;(refine HI.out.mono ?_;rintro e w3 ⟨hb3,h3⟩;obtain rfl:=ny h3;have HB3:=zh (HB2.out.trans (hb3.mono HB2.out.size));have B3:=HB1.out.below HB3.out HB1.out.lt;obtain⟨r0,r1,rf0,rf1⟩:=B3.two;have rz:=B3.lt;have HBB:=zh B3;clear hb3 h3 B3)))
  have hR:=((HBB.out.set 0 (.int .i64 0)).set 1 (.slice none 0 0)).two;exact bodyPost_ret (v:= .tuple #[.agg #[.int .i64 0,.slice none 0 0],.bool false,.int .i64 3]) (by simp[results,Tryz.results45,go_sem,hR.1,hR.2.1]) rfl ⟨rfl,((HBE.out.trans (HB3.out.mono HBE.out.size)).setCell (by show w.heap.size≤w.heap.size+1;omega) _).setCell (by show w.heap.size≤w.heap.size+1;omega) _⟩
 ·go_wp2_with (first|(go_at_call 13;(refine HW.out.mono ?_;rintro e w2 ⟨rfl,hb2⟩;have HB2:=zh hb2;have HI:=zh (kM sb w2);clear hb2))|(go_at_call 53;(refine HI.out.mono ?_;rintro e w3 ⟨hb3,h3⟩;obtain rfl:=ny h3;have HB3:=zh (HB2.out.trans (hb3.mono HB2.out.size));have B3:=HB1.out.below HB3.out HB1.out.lt;obtain⟨r0,r1,rf0,rf1⟩:=B3.two;have rz:=B3.lt;have HBB:=zh B3;clear hb3 h3 B3)))
  have hR:=((HBB.out.set 0 (.int .i64 0)).set 1 (.slice none 0 0)).two;exact bodyPost_ret (v:= .tuple #[.agg #[.int .i64 0,.slice none 0 0],.bool false,.int .i64 80]) (by simp[results,Tryz.results45,go_sem,hR.1,hR.2.1]) rfl ⟨rfl,((HBE.out.trans (HB3.out.mono HBE.out.size)).setCell (by show w.heap.size≤w.heap.size+1;omega) _).setCell (by show w.heap.size≤w.heap.size+1;omega) _⟩
theorem Gv (h:kL er s [.int .u8 k,.slice o1 n1 c1,.int .i64 lo,.int .i64 hi,.bool lz,.slice o2 n2 c2] w):
  Calls Tryz.prog 14 #[.agg #[.int .u8 k,.slice o1 n1 c1,.int .i64 lo,.int .i64 hi,.bool lz,.slice o2 n2 c2],.string s] w fun e w'=>e= .returned (.tuple #[.agg #[.int .i64 0,.slice none 0 0],.bool false,.int .i64 er])∧Below w.heap.size w w':=by
 have H:=zh h;clear h;go_enter Tryz.func14,Tryz.ntmps14
 go_upto_region 1 with fail
 have hB1:Blk ((w.alloc (.cells #[.int .u8 k,.slice o1 n1 c1,.int .i64 lo,.int .i64 hi,.bool lz,.slice o2 n2 c2] 27)).alloc (.cells #[.int .i64 0,.slice none 0 0] 43)) (w.heap.size+1) #[.int .i64 0,.slice none 0 0] 43:=Blk.new' _ _ (by simp);have hN1:Blk ((w.alloc (.cells #[.int .u8 k,.slice o1 n1 c1,.int .i64 lo,.int .i64 hi,.bool lz,.slice o2 n2 c2] 27)).alloc (.cells #[.int .i64 0,.slice none 0 0] 43)) w.heap.size #[.int .u8 k,.slice o1 n1 c1,.int .i64 lo,.int .i64 hi,.bool lz,.slice o2 n2 c2] 27:=(Blk.new _ _ _).alloc _;have hb1:Below w.heap.size w ((w.alloc (.cells #[.int .u8 k,.slice o1 n1 c1,.int .i64 lo,.int .i64 hi,.bool lz,.slice o2 n2 c2] 27)).alloc (.cells #[.int .i64 0,.slice none 0 0] 43)):=(zR.alloc zL _).alloc (by simp) _;generalize ((w.alloc (.cells #[.int .u8 k,.slice o1 n1 c1,.int .i64 lo,.int .i64 hi,.bool lz,.slice o2 n2 c2] 27)).alloc (.cells #[.int .i64 0,.slice none 0 0] 43))=W1 at hB1 hN1 hb1 ⊢;obtain⟨d0,d1,d2,d3,d4,d5,-⟩:=zS hN1;have dz:=hN1.lt;have HC:=zh (xe (H.out.below hb1));have HB1:=zh hB1;have HBE:=zh hb1;clear hB1 hN1 hb1
 go_wp2_with (go_at_call 45;(refine HC.out.mono ?_;rintro e w2 ⟨rfl,hb2⟩;have HB2:=zh hb2;have B3:=HB1.out.below hb2 HB1.out.lt;obtain⟨r0,r1,rf0,rf1⟩:=B3.two;have rz:=B3.lt;have HBB:=zh B3;clear hb2 B3))
 have hR:=((HBB.out.set 0 (.int .i64 0)).set 1 (.slice none 0 0)).two;have hz:=HB1.out.lt;exact bodyPost_ret (v:= .tuple #[.agg #[.int .i64 0,.slice none 0 0],.bool false,.int .i64 er]) (by simp[results,Tryz.results14,go_sem,hR.1,hR.2.1]) rfl
  ⟨rfl,((HBE.out.trans (HB2.out.mono HBE.out.size)).setCell (by show w.heap.size≤w.heap.size+1;omega) _).setCell (by show w.heap.size≤w.heap.size+1;omega) _⟩
theorem Gw (h:kL er s [.int .u8 k,.slice o1 n1 c1,.int .i64 lo,.int .i64 hi,.bool lz,.slice o2 n2 c2] w):
  Calls Tryz.prog 15 #[.agg #[.int .u8 k,.slice o1 n1 c1,.int .i64 lo,.int .i64 hi,.bool lz,.slice o2 n2 c2],.string s] w fun e w'=>e= .returned (.tuple #[.slice none 0 0,.bool false,.int .i64 er])∧Below w.heap.size w w':=by
 have H:=zh h;clear h;go_enter Tryz.func15,Tryz.ntmps15
 go_upto_region 1 with fail
 have hB1:Blk ((w.alloc (.cells #[.int .u8 k,.slice o1 n1 c1,.int .i64 lo,.int .i64 hi,.bool lz,.slice o2 n2 c2] 27)).alloc (.cells #[.string s] 9)) (w.heap.size+1) #[.string s] 9:=Blk.new' _ _ (by simp);have hN1:Blk ((w.alloc (.cells #[.int .u8 k,.slice o1 n1 c1,.int .i64 lo,.int .i64 hi,.bool lz,.slice o2 n2 c2] 27)).alloc (.cells #[.string s] 9)) w.heap.size #[.int .u8 k,.slice o1 n1 c1,.int .i64 lo,.int .i64 hi,.bool lz,.slice o2 n2 c2] 27:=(Blk.new _ _ _).alloc _;have hb1:Below w.heap.size w ((w.alloc (.cells #[.int .u8 k,.slice o1 n1 c1,.int .i64 lo,.int .i64 hi,.bool lz,.slice o2 n2 c2] 27)).alloc (.cells #[.string s] 9)):=(zR.alloc zL _).alloc (by simp) _;generalize ((w.alloc (.cells #[.int .u8 k,.slice o1 n1 c1,.int .i64 lo,.int .i64 hi,.bool lz,.slice o2 n2 c2] 27)).alloc (.cells #[.string s] 9))=W1 at hB1 hN1 hb1 ⊢;obtain⟨d0,d1,d2,d3,d4,d5,-⟩:=zS hN1;have dz:=hN1.lt;have s0:W1.cell? ⟨w.heap.size+1,0,none⟩=some (.string s):=hB1.cell 0;have sz:=hB1.lt;have HC:=zh (xg (sb:=w.heap.size+1) (H.out.below hb1));have HBE:=zh hb1;clear hB1 hN1 hb1
 go_wp2_with (go_at_call 45;(refine HC.out.mono ?_;rintro e w2 ⟨rfl,hb2⟩;have HB2:=zh hb2;clear hb2))
 exact bodyPost_ret (v:= .tuple #[.slice none 0 0,.bool false,.int .i64 er]) (by simp[results,Tryz.results15,go_sem]) rfl
  ⟨rfl,(HBE.out.trans (HB2.out.mono HBE.out.size)).alloc (by have:=HB2.out.size;have:=HBE.out.size;omega) _⟩
theorem ends_bad (h:kL er s [.int .u8 k,.slice o1 n1 c1,.int .i64 lo,.int .i64 hi,.bool lz,.slice o2 n2 c2] w):
  Calls Tryz.prog 16 #[.agg #[.int .u8 k,.slice o1 n1 c1,.int .i64 lo,.int .i64 hi,.bool lz,.slice o2 n2 c2],.string s] w fun e w'=>e= .returned (.tuple #[.slice none 0 0,.int .i64 er])∧Below w.heap.size w w':=by
 obtain⟨her,hall⟩:=h;have fQ:=zh hall;clear hall;go_enter Tryz.func16,Tryz.ntmps16
 go_upto_region 1 with fail
 have hN1:Blk (w.alloc (.cells #[.int .u8 k,.slice o1 n1 c1,.int .i64 lo,.int .i64 hi,.bool lz,.slice o2 n2 c2] 27)) w.heap.size #[.int .u8 k,.slice o1 n1 c1,.int .i64 lo,.int .i64 hi,.bool lz,.slice o2 n2 c2] 27:=Blk.new _ _ _;have hb1:Below w.heap.size w (w.alloc (.cells #[.int .u8 k,.slice o1 n1 c1,.int .i64 lo,.int .i64 hi,.bool lz,.slice o2 n2 c2] 27)):=zR.alloc zL _;generalize (w.alloc (.cells #[.int .u8 k,.slice o1 n1 c1,.int .i64 lo,.int .i64 hi,.bool lz,.slice o2 n2 c2] 27))=W1 at hN1 hb1 ⊢;obtain⟨d0,d1,d2,d3,d4,d5,-⟩:=zS hN1;have dz:=hN1.lt;have HBE:=zh hb1;have HW:=zh (fQ.out W1 hb1);clear hN1 hb1;rcases her with rfl|rfl|rfl
 ·go_wp2_with (go_at_call 13;(refine HW.out.mono ?_;rintro e w2 ⟨rfl,hb2⟩;have HB2:=zh (HBE.out.trans (hb2.mono HBE.out.size));clear hb2))
  exact bodyPost_ret (v:= .tuple #[.slice none 0 0,.int .i64 73]) (by simp[results,Tryz.results16,go_sem]) rfl ⟨rfl,HB2.out⟩
 ·go_wp2_with (go_at_call 13;(refine HW.out.mono ?_;rintro e w2 ⟨rfl,hb2⟩;have HB2:=zh (HBE.out.trans (hb2.mono HBE.out.size));clear hb2))
  exact bodyPost_ret (v:= .tuple #[.slice none 0 0,.int .i64 3]) (by simp[results,Tryz.results16,go_sem]) rfl ⟨rfl,HB2.out⟩
 ·go_wp2_with (go_at_call 13;(refine HW.out.mono ?_;rintro e w2 ⟨rfl,hb2⟩;have HB2:=zh (HBE.out.trans (hb2.mono HBE.out.size));clear hb2))
  exact bodyPost_ret (v:= .tuple #[.slice none 0 0,.int .i64 80]) (by simp[results,Tryz.results16,go_sem]) rfl ⟨rfl,HB2.out⟩
theorem Gx (h:kL er s [.int .u8 k,.slice o1 n1 c1,.int .i64 lo,.int .i64 hi,.bool lz,.slice o2 n2 c2] w):
  Calls Tryz.prog 17 #[.agg #[.int .u8 k,.slice o1 n1 c1,.int .i64 lo,.int .i64 hi,.bool lz,.slice o2 n2 c2],.string s] w fun e w'=>e= .returned (.tuple #[.int .i64 0,.int .i64 er])∧Below w.heap.size w w':=by
 obtain⟨her,hall⟩:=h;have fQ:=zh hall;clear hall;go_enter Tryz.func17,Tryz.ntmps17
 go_upto_region 1 with fail
 have hN1:Blk (w.alloc (.cells #[.int .u8 k,.slice o1 n1 c1,.int .i64 lo,.int .i64 hi,.bool lz,.slice o2 n2 c2] 27)) w.heap.size #[.int .u8 k,.slice o1 n1 c1,.int .i64 lo,.int .i64 hi,.bool lz,.slice o2 n2 c2] 27:=Blk.new _ _ _;have hb1:Below w.heap.size w (w.alloc (.cells #[.int .u8 k,.slice o1 n1 c1,.int .i64 lo,.int .i64 hi,.bool lz,.slice o2 n2 c2] 27)):=zR.alloc zL _;generalize (w.alloc (.cells #[.int .u8 k,.slice o1 n1 c1,.int .i64 lo,.int .i64 hi,.bool lz,.slice o2 n2 c2] 27))=W1 at hN1 hb1 ⊢;obtain⟨d0,d1,d2,d3,d4,d5,-⟩:=zS hN1;have dz:=hN1.lt;have HBE:=zh hb1;have HW:=zh (fQ.out W1 hb1);clear hN1 hb1
 go_wp2_with (go_at_call 13;(refine HW.out.mono ?_;rintro e w2 ⟨rfl,hb2⟩;have HB2:=zh (HBE.out.trans (hb2.mono HBE.out.size));clear hb2))
 go_loopw [8,19] (fun s8 s19 wx=>s8= .int .i64 0∧s19= .int .i64 0∧Below w.heap.size w wx) (fun _ _ _=>0)
 case atStart=>exact⟨rfl,rfl,HB2.out⟩
 case round=>
  rename World=>Wa
  obtain⟨rfl,rfl,hbw⟩:=hrel;have HBW:=zh hbw;clear hbw
  go_wp2_with fail
  exact bodyPost_ret (v:= .tuple #[.int .i64 0,.int .i64 er]) (by simp[results,Tryz.results17,go_sem]) rfl ⟨rfl,HBW.out⟩
end Go.Proofs.YtnhjakdmbfadlaaGreatDoor
