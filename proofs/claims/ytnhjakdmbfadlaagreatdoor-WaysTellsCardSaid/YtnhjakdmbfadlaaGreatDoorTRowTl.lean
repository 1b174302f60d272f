/- Proved: the statement WaysTellsSaid, and its tied card (All, First, Whole, Ends and Count answer as the reference does, at every tree that Made makes and every string of at most 40 bytes; the tree is not changed, and no two of the ways share memory). Conditions: the three variables that the card lists. -/
import Derived.Test.YtnhjakdmbfadlaaGreatDoorT07
import Derived.Test.YtnhjakdmbfadlaaGreatDoorT39
import Derived.Test.YtnhjakdmbfadlaaGreatDoorCards
import Derived.Test.YtnhjakdmbfadlaaGreatDoorTie
import Derived.Test.YtnhjakdmbfadlaaGreatDoorT00
set_option linter.all false
set_option maxHeartbeats 8000000
set_option maxRecDepth 100000
namespace Go.Proofs.YtnhjakdmbfadlaaGreatDoor
open Go.ChangeShapes Go.WideShapes Go.ChangeAt Go.RowKit
open Mem Wy
theorem Aj (os:Os) (started:os.Started) (H:Type) (enc:TypeId×Value→H):
  ReturnsInHanded {} Tryz.checked os 3 .any (fun w args=>(Rows.waysTellsSpec.pre enc Tryz.prog Tryz.f3 Rows.waysTellsRow.domain false w args∧laidMetH Tryz.prog Bd w)∧sizedMet enc Tryz.prog Tryz.f3 (OpenSpec.ofChange Rows.waysTellsSpec) false w args)
   (Rows.waysTellsSpec.post enc Tryz.prog Tryz.f3 false true false false):=by
 refine returnsInHanded_of_change_and (C:=Tryz.checked) (X:=fun w _=>laidMetH Tryz.prog Bd w) (fun _ _ _ hh h=>h.of_heap hh) LG started (by kernel_rfl) Tryz.func3
  (ChangeSpec.witness_shaped (enc:=enc) (C:=Tryz.checked) (os:=os) (X:=fun w _=>laidMetH Tryz.prog Bd w) false (World.laidAll Tryz.prog os Bd) #[.slice none 0 0,.string ⟨#[]⟩] 8 (World.laidAll_os _ _ _)
   (World.shaped_of_ZipB (by kernel_rfl) (by kernel_rfl)) (by kernel_rfl) (by kernel_rfl) (by kernel_rfl)
   (by rw[MakeChecks.laidMetH_plain _ _ _ (by kernel_rfl)];exact laidMet_laidAll _ (by kernel_rfl) (by kernel_rfl))) ?_
 intro W base args ds gs before hval0 hW hcnd _ Uh _;have hval:∀(j:Nat) t v,Tryz.f3.params[j]? =some t→args[j]? =some v→Value.okWide Tryz.prog W .any base t v:=hval0;have hW':=hW;obtain⟨p,q,hA0,hV,rfl,hfz,hnd⟩:=hW;have hA:DataW.TrodAll enc Tryz.prog W 0 (fun _=>true) true Tryz.f3.params.toList args.toList ds p:=hA0;rw[Tryz.params3] at hA hval;obtain⟨v0,vs0,d0,ds0,p0,q0,hargs,rfl,rfl,h0,r0⟩:=trodAll_cons hA;obtain⟨v1,vs1,d1,ds1,p1,q1,rfl,rfl,rfl,h1,r1⟩:=trodAll_cons r0;obtain⟨rfl,rfl,rfl⟩:=trodAll_nil r1;obtain rfl:args= #[v0,v1]:=by cases args;simp_all
 obtain⟨rfl,rfl⟩:=trodVars_none hV;obtain⟨a0,len0,cap0,rfl⟩:=okWide_slice Ew (hval 0 22 v0 rfl rfl);have hv1:=hval 1 9 v1 rfl rfl;obtain⟨s1,rfl⟩:=okWide_string Tryz.underlying9 hv1;have hs1:(s1.size:Int)≤9223372036854775807:=by simpa [Value.okWide,Cell.okWide,Cell.ok,Tryz.underlying9] using hv1
 clear hv1;have k0:=h0;have k1:=h1;have lt0:∀x∈p0,x.block<W.heap.size:=by obtain⟨m,hm⟩:=k0;exact DataW.trod_lt m _ _ _ hm
 have lt1:∀x∈p1,x.block<W.heap.size:=by obtain⟨m,hm⟩:=k1;exact DataW.trod_lt m _ _ _ hm
 obtain⟨S,hS,lS⟩:=CX h0;obtain⟨htab,hnone⟩:=FO Uh;clear hA0 hval0;refine(Hm hS lS hs1 htab hnone).mono fun e W' ⟨he,bel⟩=> ?_
 subst he;exact⟨_,rfl,_,_,_,[],_,[],hW',trodAll_mk1 (shut_bool Tryz.underlying4 _),(trodAll_cons_mk (Below.trod tu (by kernel_rfl) (of_decide_eq_true (by kernel_rfl)) k0 bel lt0) (trodAll_cons_mk (Below.trod tu (by kernel_rfl) (of_decide_eq_true (by kernel_rfl)) k1 bel lt1) trodAll_mk0)),rfl,bel.frame _,fun h=>by cases h⟩
theorem tells_row:Rows.WaysTellsSaid:=
 OpenClaim.holds_of_wide 3 Tryz.f3 rfl rfl rfl rfl rfl rfl rfl ⟨rfl,rfl,rfl,rfl,rfl⟩ rfl rfl rfl rfl rfl (by kernel_rfl) Tryz.func3 (by kernel_rfl)
  (of_decide_eq_true (by kernel_rfl)) (by unfold Func.isWrapper;first|(rw[if_pos (by decide+kernel)];kernel_rfl)|(rw[if_neg (by decide+kernel)];exact⟨rfl,rfl⟩))
  (fun os started H enc _=>Aj os started H enc)
theorem tells_card:Rows.WaysTellsCardSaid:=
 Claim7.holds_tied_plain_at .later [] [.data, .data, .pinned] true (true, "7c830fab17d76a26cabd17e087376f401efeb1d04ec0647722cd18c51aabe9a5") false tells_row (fun _ h => by cases h) (by kernel_rfl) (fun _ h => by cases h) waysTells_row_tie rfl ⟨rfl, rfl⟩ (by kernel_rfl) rfl
  (fun f fn hf hfn=>by
   obtain rfl : f = 3 := zI ((show Tryz.prog.funcNamed "gauger/gaugerlaw08.WaysTells" = some 3 by kernel_rfl).symm.trans hf) |>.symm;obtain rfl:fn=Tryz.f3:=(zI (Tryz.func3.symm.trans hfn)).symm;exact⟨by kernel_rfl,fun j t ht=>by
    rw[Tryz.params3] at ht;have hm:t∈[22,9]:=by simpa using Array.mem_of_getElem? ht
    have hall:([22,9].all fun u=> !Tryz.prog.wantsStandIn u)=true:=by kernel_rfl
    exact(show Tryz.prog.wantsStandIn t=false by simpa using List.all_eq_true.1 hall t hm)⟩)
  (by kernel_rfl)
end Go.Proofs.YtnhjakdmbfadlaaGreatDoor
#print axioms Go.Proofs.YtnhjakdmbfadlaaGreatDoor.tells_row
#print axioms Go.Proofs.YtnhjakdmbfadlaaGreatDoor.tells_card
