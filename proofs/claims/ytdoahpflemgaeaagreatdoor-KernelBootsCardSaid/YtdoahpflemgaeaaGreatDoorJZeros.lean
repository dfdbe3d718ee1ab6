import Derived.Test.YtdoahpflemgaeaaGreatDoorJMem
import Derived.Lib.AppendZerosOnto
set_option linter.unusedVariables false
namespace Go.Proofs.YtdoahpflemgaeaaGreatDoor
section
open Go.RowKit
theorem zeroCells_one (z:Value) (hz:z.cells=#[z]) (n:Nat):(Builtin.zeroCells z.cells n).toList=List.replicate n z:=by
 rw [hz]
 unfold Builtin.zeroCells
 apply List.ext_getElem
 ·simp
 ·intro i h1 h2
  simp [Nat.mod_one]
theorem run_append_zeros {P:Program} {w:World} {g c:Nat} {e:TypeId} {xs:List Value} (hr:Row w g e c xs) (t tn ty:TypeId) (i:TypeInfo) (z:Value) (bytes:Nat)
 (ht:P.underlying t=some (.slice e)) (htn:P.underlying tn=some (.int .i64)) (hi:P.info? e=some i) (hz:i.zero=some z) (hsize:i.size=1) (hby:i.bytes=bytes)
 (hz1:z.cells=#[z]) (hone:z.oneCell'=true) (k:Nat) (hk:0<k) (h63:xs.length+k≤maxLen) (hbytes:(xs.length+k)*bytes≤140737488355328):
 ∃ g' c' w',(Builtin.append_ #[t,tn] ty #[.slice (some ⟨g,0,none⟩) xs.length c,.int .i64 k]).run P w = .ok (.slice (some ⟨g',0,none⟩) (xs.length+k) c') w'∧
   Row w' g' e c' (xs++List.replicate k z)∧w.grownBy w' (some g)∧(g'=g∨g'=w.heap.size):=by
 subst hby
 have hsmall:xs.length+k≤9223372036854775807:=by simp only [maxLen] at h63; omega
 have hlen:(xs++List.replicate k z).length=xs.length+k:=by simp
 obtain⟨cur,hb,hl,hm,hc,hx⟩:=hr
 by_cases hroom:xs.length+k≤c
 ·have hkn:¬ k=0:=by omega
  have hw:IntKind.i64.wrap (k:Int)=k:=by rw [IntKind.wrap_i64]; omega
  have hneg:¬ ((k:Int)<0):=by omega
  have hle:k*i.bytes≤(xs.length+k)*i.bytes:=Nat.mul_le_mul_right _ (by omega)
  have h48i:¬ (281474976710656<(k:Int)*(i.bytes:Int)):=by rw [← Int.natCast_mul]; omega
  have hst:=run_storeCells_at P g xs.length e (List.replicate k z) 0 cur w hb (by simp; omega) (fun v hv=>by rw [List.eq_of_mem_replicate hv]; exact hone)
  simp only [Nat.add_zero,List.length_replicate] at hst
  refine⟨g,c,w.setRow g (cur.toList.take xs.length++List.replicate k z++cur.toList.drop (xs.length+k)).toArray,?_,⟨_,setRow_heap w g cur _ e _ hb,by rw [hlen]; exact hroom,hm,?_,?_⟩,⟨rfl,rfl,rfl,?_,fun k' _ hk'=>setRow_other w g k' _ (fun e=>hk' (by rw [e]))⟩,.inl rfl⟩
  ·have hzc:(Builtin.zeroCells z.cells k).toList=List.replicate k z:=zeroCells_one z hz1 k
   simp [Builtin.append_,run_underlying ht,run_underlying htn,sizeOf,typeInfo,hi,hsize,asInt,asIntOf,hw,hneg,h48i,hroom,hkn,zeroValue,hz,Addr.add_lit,hzc,hst]
  ·simp only [List.size_toArray,List.length_append,List.length_take,List.length_drop,List.length_replicate,Array.length_toList]
   omega
  ·rw [hlen]
   simp only
   rw [hx,List.take_append_of_le_length (by simp),List.take_of_length_le (by simp)]
  ·simp [World.setRow]
 ·have hcap:=c
  have holds:∀ j u,xs[j]? = some u→w.cell? ((⟨g,0,none⟩ :Addr).add j)=some u:=fun j u hu=>by
   rw [WideShapes.add_plain,Nat.zero_add]
   exact Row.cell ⟨cur,hb,hl,hm,hc,hx⟩ hu
  have hf:=run_firstCells_some (P:=P) w.drew i.size xs.length ⟨g,0,none⟩ xs.length c xs (by rw [hsize,Nat.mul_one]) holds
  have hrun:=Lib.run_append_grow_zeros (P:=P) w t tn ty e i z .i64 .i64 ht htn hi hz (some ⟨g,0,none⟩) xs.length c xs hf k hk (by omega) (by omega) (by omega)
   (by have:k*i.bytes≤(xs.length+k)*i.bytes:=Nat.mul_le_mul_right _ (by omega); omega) (growslice_fits (by omega) hbytes)
  have hge:=grownCap_ge w (xs.length+k) c e
  have hcm:grownCap w (xs.length+k) c e≤maxLen:=grownCap_le_maxLen w (xs.length+k) c e h63
  refine⟨_,_,_,hrun,⟨_,heap_alloc_new w.drew _,by rw [hlen]; exact hge,hcm,?_,?_⟩,⟨rfl,rfl,rfl,by simp,fun k' hk' _=>heap_alloc_old w.drew _ hk'⟩,.inr rfl⟩
  ·simp only [Array.size_append,List.size_toArray,size_zeroCells,hz1]
   simp; omega
  ·rw [hlen]
   simp only [Array.toList_append,zeroCells_one z hz1]
   rw [List.append_assoc,← List.append_assoc,List.take_append_of_le_length (by simp),List.take_of_length_le (by simp)]
theorem step_append_zeros {P:Program} {w:World} {ops:Array Oper} {o:Oper} {a:Act} {K:Act→World→Prop} {Q:Exit→Act→World→Prop} {E:Prop} (hgd:o.guard=none) (s x:Operand) (t tn:TypeId)
 (ho:o.op = .call { callee:=.builtin .append,args:=#[s,x],argTypes:=#[t,tn] })
 {g c:Nat} {e:TypeId} {xs:List Value} (hr:Row w g e c xs) (i:TypeInfo) (z:Value) (bytes:Nat)
 (ht:P.underlying t=some (.slice e)) (htn:P.underlying tn=some (.int .i64)) (hi:P.info? e=some i) (hz:i.zero=some z) (hsize:i.size=1) (hby:i.bytes=bytes)
 (hz1:z.cells=#[z]) (hone:z.oneCell'=true) (n k:Nat) (hn:xs.length=n) (hk:0<k) (h63:n+k≤maxLen) (hbytes:(n+k)*bytes≤140737488355328)
 (hs:a.eval s = .slice (some ⟨g,0,none⟩) n c) (hx:a.eval x = .int .i64 k)
 (h:∀ g' c' w',Row w' g' e c' (xs++List.replicate k z)→w.grownBy w' (some g)→(g'=g∨g'=w.heap.size)→K (a.put o.dst (.slice (some ⟨g',0,none⟩) (n+k) c')) w'):
 if Region.wanted o (yielded ops a.tmps)=true then Oper.wp P o a w K Q else E:=by
 have hw:Region.wanted o (yielded ops a.tmps)=true:=by simp [Region.wanted,hgd]
 rw [if_pos hw]
 subst hn
 obtain⟨g',c',w',hrun,h1,h2,h3⟩:=run_append_zeros hr t tn o.type i z bytes ht htn hi hz hsize hby hz1 hone k hk h63 hbytes
 exact Lib.wp_append_run w s x t tn ho _ _ hs hx _ w' hrun (h g' c' w' h1 h2 h3)
end
end Go.Proofs.YtdoahpflemgaeaaGreatDoor
