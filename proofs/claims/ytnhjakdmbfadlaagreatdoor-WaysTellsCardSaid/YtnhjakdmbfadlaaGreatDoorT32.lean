/- Parts of the proof. Conditions: none. -/
import Derived.Lib.SlicesCompact
import Derived.Lib.RowBridge
import Derived.Test.YtnhjakdmbfadlaaGreatDoorT00
set_option linter.all false
set_option maxHeartbeats 8000000
set_option maxRecDepth 100000
namespace Go.Proofs.Wy
open Go Go.Lib
theorem tK (d:Array Int):∀j,j<d.size→∃i,i≤j∧keeps d i=true∧d[i]! =d[j]!
 |0,_=>⟨0,Nat.le_refl _,by simp[keeps],rfl⟩
 |j+1,hj=>by
  by_cases hk:keeps d (j+1)=true
  ·exact⟨j+1,Nat.le_refl _,hk,rfl⟩
  ·obtain⟨i,h1,h2,h3⟩:=tK d j (by omega);refine⟨i,by omega,h2,h3.trans ?_⟩;simp only[keeps,decide_eq_true_eq,ne_eq,not_or] at hk;have:=hk;simp at this;exact this.symm
theorem BO {zs:List Int} {x:Int}:x∈compact zs↔x∈zs:=by
 unfold compact compactUpTo;simp only[List.mem_map,List.mem_filter,List.mem_range];constructor
 ·rintro⟨j,⟨hj,-⟩,rfl⟩;have:zs.toArray[j]! =zs[j]:=by simp[hj]
  rw[this];exact List.getElem_mem hj
 ·intro hx;obtain⟨j,hj,rfl⟩:=List.mem_iff_getElem.1 hx;obtain⟨i,h1,h2,h3⟩:=tK zs.toArray j (by simpa using hj);refine⟨i,⟨by omega,h2⟩,?_⟩;rw[h3];simp[hj]
theorem DN {zs:List Int} (h:zs.Pairwise (· ≤ ·)):(compact zs).Pairwise (· < ·):=by
 unfold compact compactUpTo;rw[List.pairwise_map,List.pairwise_filter];refine List.Pairwise.imp_of_mem (R:=(· < ·)) ?_ List.pairwise_lt_range;intro a b ha hb hab hka hkb;rw[List.mem_range] at ha hb;have e:∀j (hj:j<zs.length),zs.toArray[j]! =zs[j]:=fun j hj=>by simp[hj]
 have h1:zs[a]≤zs[b-1]:=by
  by_cases hab':a=b-1
  ·subst hab';exact Int.le_refl _
  ·exact List.pairwise_iff_getElem.1 h a (b-1) ha (by omega) (by omega)
 have h2:zs[b-1]≤zs[b]:=List.pairwise_iff_getElem.1 h (b-1) b (by omega) hb (by omega);have h3:zs[b-1]≠zs[b]:=by
  intro e3;obtain⟨k,rfl⟩:∃k,b=k+1:=⟨b-1,by omega⟩;simp only[Nat.add_sub_cancel] at e3;have:=e k (by omega);have:=e (k+1) hb;simp[keeps] at hkb;simp_all
 rw[e a ha,e b hb];omega
def iH (l:List Nat):List Int:=compact ((l.map fun x:Nat=>(x:Int)).mergeSort fun x y=>decide (x≤y))
theorem Gy {l:List Nat} {x:Int}:x∈iH l↔∃q∈l,x=(q:Int):=by
 unfold iH;rw[BO,(List.mergeSort_perm _ _).mem_iff,List.mem_map];constructor
 ·rintro⟨q,h1,h2⟩;exact⟨q,h1,h2.symm⟩
 ·rintro⟨q,h1,h2⟩;exact⟨q,h1,h2.symm⟩
theorem J3 (l:List Nat):(iH l).Pairwise (· < ·):=by
 refine DN ?_;have:=List.pairwise_mergeSort (le:=fun x y:Int=>decide (x≤y)) (fun a b c h1 h2=>by simp at*;omega) (fun a b=>by simp;omega) (l.map fun x:Nat=>(x:Int));exact this.imp (fun h=>by simpa using h)
theorem sG (l:List Nat):(iH l).length≤l.length:=by
 unfold iH;refine Nat.le_trans (compact_length_le _) ?_;rw[List.length_mergeSort,List.length_map];exact Nat.le_refl _
theorem yj:iH []=[]:=by
 have h:=sG [];exact List.eq_nil_of_length_eq_zero (by simpa using h)
end Go.Proofs.Wy
