import Derived.Test.YtdoahpflemgaeaaGreatDoorJMem
import Derived.Laws.CopyOwn
import Derived.Deep.RegionLaw
set_option linter.unusedVariables false
namespace Go.Proofs.YtdoahpflemgaeaaGreatDoor
section
open Go.RowKit
theorem run_copy_tail {P:Program} {w:World} {g c:Nat} {e:TypeId} {xs:List Value} (hr:Row w g e c xs) (dT sT ty elem:TypeId) (o dLen dCap:Nat) (dp:Option Addr) (a:Addr) (m sCap:Nat) (cs:List Value)
 (hu:P.underlying dT=some (.slice elem)) (hs:(P.info? elem).map (·.size)=some 1) (hdp:0<m→dp=some ⟨g,o,none⟩) (hm:cs.length=m) (hle:m≤dLen) (hfit:o+m≤xs.length)
 (hsrc:∀ j v,cs[j]? = some v→w.cell? (a.add j)=some v) (h1:∀ v∈cs,v.oneCell'=true):
 ∃ w',(Builtin.copy_ #[dT,sT] ty #[.slice dp dLen dCap,.slice (some a) m sCap]).run P w = .ok (goInt (m:Int)) w'∧Row w' g e c (xs.take o++cs++xs.drop (o+m))∧w.grownBy w' (some g):=by
 obtain⟨cur,hb,hl,hc,hcs,hx⟩:=hr
 rcases Nat.eq_zero_or_pos m with h0 | h0
 ·subst h0
  have:cs=[]:=List.eq_nil_of_length_eq_zero hm
  subst this
  refine⟨w,?_,⟨cur,hb,by simpa using hl,hc,hcs,by simpa using hx⟩,World.grownBy.refl w _⟩
  cases hq:P.info? elem with
  | none=>simp [hq] at hs
  | some i=>cases dp <;> simp [Builtin.copy_,run_underlying hu,Builtin.lenOf,Builtin.firstCells,sizeOf,typeInfo,hq,storeCells,loadCells,loadCellsFrom]
 ·rw [hdp h0]
  have hrun:=run_copy_row (P:=P) w dT sT ty elem g o dLen dCap a m sCap cur e cs hu hs hb (by rw [hm]; exact (Nat.min_eq_left hle).symm) hsrc (by omega) h1
  rw [hm] at hrun
  refine⟨_,hrun,⟨_,setRow_heap w g cur _ e _ hb,?_,hc,?_,?_⟩,⟨rfl,rfl,rfl,by simp [World.setRow],fun k _ hk=>setRow_other w g k _ (fun e=>hk (by rw [e]))⟩⟩
  ·simp; omega
  ·simp only [List.size_toArray,List.length_append,List.length_take,List.length_drop,Array.length_toList]
   omega
  ·have hlen:(xs.take o++cs++xs.drop (o+m)).length=xs.length:=by simp; omega
   rw [hlen]
   simp only
   rw [List.take_append,List.take_of_length_le (by simp; omega)]
   have e1:cur.toList.take o=xs.take o:=by rw [← hx,List.take_take,Nat.min_eq_left (by omega)]
   rw [e1]
   congr 1
   rw [← hx,List.drop_take]
   congr 1
   simp; omega
theorem step_copy_tail {P:Program} {w:World} {ops:Array Oper} {oo:Oper} {act:Act} {K:Act→World→Prop} {Q:Exit→Act→World→Prop} {E:Prop} (hgd:oo.guard=none) (d s:Operand) (dT sT:TypeId)
 (ho:oo.op = .call { callee:=.builtin .copy,args:=#[d,s],argTypes:=#[dT,sT] })
 {g c:Nat} {e:TypeId} {xs:List Value} (hr:Row w g e c xs) (elem:TypeId) (o dLen dCap:Nat) (dp:Option Addr) (a:Addr) (m sCap:Nat) (cs:List Value)
 (hu:P.underlying dT=some (.slice elem)) (hs:(P.info? elem).map (·.size)=some 1) (hdp:0<m→dp=some ⟨g,o,none⟩) (hm:cs.length=m) (hle:m≤dLen) (hfit:o+m≤xs.length)
 (hsrc:∀ j v,cs[j]? = some v→w.cell? (a.add j)=some v) (h1:∀ v∈cs,v.oneCell'=true)
 (hd:act.eval d = .slice dp dLen dCap) (hse:act.eval s = .slice (some a) m sCap)
 (h:∀ w',Row w' g e c (xs.take o++cs++xs.drop (o+m))→w.grownBy w' (some g)→K (act.put oo.dst (goInt (m:Int))) w'):
 if Region.wanted oo (yielded ops act.tmps)=true then Oper.wp P oo act w K Q else E:=by
 have hw:Region.wanted oo (yielded ops act.tmps)=true:=by simp [Region.wanted,hgd]
 rw [if_pos hw]
 obtain⟨w',hrun,h2,h3⟩:=run_copy_tail hr dT sT oo.type elem o dLen dCap dp a m sCap cs hu hs hdp hm hle hfit hsrc h1
 unfold Oper.wp execOp
 simp only [ho,resolve,invoke,builtin,Sem.run_bind,Sem.run_pure,Result.andThen_ok,List.map_toArray,List.map_cons,List.map_nil,hd,hse,hrun]
 exact h w' h2 h3
end
end Go.Proofs.YtdoahpflemgaeaaGreatDoor
