import Derived.Test.YtlkahgagmfhdaaaGreatDoorQOpen
import Derived.Test.YtlkahgagmfhdaaaGreatDoorQAll
import Derived.Test.YtlkahgagmfhdaaaGreatDoorCards
import Derived.Test.YtlkahgagmfhdaaaGreatDoorTie
import Derived.Deep.Slices
import Derived.Deep.Fields
import Derived.Deep.DeepHandedRow
import Derived.Lib.LaidTab
import Derived.SizedLaws
set_option linter.unusedVariables false
namespace Go.Proofs.YtlkahgagmfhdaaaGreatDoor
section
open Go.RowKit Go.WideShapes Go.ChangeShapes Go.ChangeAt Go.Deep
theorem own:ownKnob Tryz.prog.godebug=none:=by kernel_rfl
theorem laidOut:laidOutB Tryz.prog=true:=by kernel_rfl
def ReadsAs (P:Program) (w:World) (n:String) (d:DataW Unit):Prop:=
 ∃ g t cs fuel p,P.globalNamed n=some g∧(P.globals[g]?).map (·.type)=some t∧w.var? P n=some cs∧DataW.trod (fun _=>()) P w 0 (fun _=>true) false fuel t cs.toList=some (d,p)
theorem reads_of_vars {P:Program} {w:World}:∀ {l:List (String × DataW Unit)} {ps:List MemPlace},DataW.LaidVars P w l ps→∀ n d,(n,d)∈l→ReadsAs P w n d
 | [],_,_,_,_,hm=>by cases hm
 | (n',d') :: r,ps,h,n,d,hm=>by
   obtain⟨g,t,cs,fuel,p,q,h1,h2,h3,h4,h5,_⟩:=h
   rcases List.mem_cons.1 hm with e | e
   ·cases e
    exact⟨g,t,cs,fuel,p,h1,h2,h3,h4⟩
   ·exact reads_of_vars h5 n d e
theorem reads_of_met {P:Program} {w:World} {l:List (String × DataW Unit)} (h:laidMet P l w) {n:String} {d:DataW Unit} (hm:(n,d)∈l):ReadsAs P w n d:=
 let ⟨_,hv,_⟩:=h
 reads_of_vars hv n d hm
theorem bools_of_tab {H:Type} {enc:TypeId × Value→H} {P:Program} {w:World} {base:Nat} {sp:Nat→Bool} {held:Bool} {fuel:Nat} {t e:TypeId} {n:Nat} {cs:List Value} {zs:List Bool} {p:List MemPlace}
 (ht:P.underlying t=some (.array n e)) (he:P.underlying e=some .bool) (hce:P.cellsOf e=1) (hct:P.cellsOf t=n)
 (h:DataW.trod enc P w base sp held fuel t cs=some (.agg (zs.map fun z=> .lit (.bool z)),p)):cs=zs.map Value.bool:=by
 cases fuel with
 | zero=>simp [DataW.trod] at h
 | succ fuel=>
   simp only [DataW.trod,ht,hce,hct,Nat.mul_one] at h
   split at h
   ·rename_i hl
    obtain⟨xs,hm,hx⟩:=Option.map_eq_some_iff.1 h
    have hxs:xs.map (·.1)=zs.map fun z=>(DataW.lit (.bool z):DataW H):=by
     have:=congrArg Prod.fst hx
     simpa using this
    have hxl:xs.length=n:=by simpa using Lib.mapM_length hm
    have hzl:zs.length=n:=by
     have:=congrArg List.length hxs
     simp at this
     omega
    apply List.ext_getElem?
    intro i
    by_cases hi:i<n
    ·obtain⟨b,hb,hf⟩:=Lib.mapM_at hm i i (by simp [hi])
     obtain⟨z,hc,rfl⟩:=DataW.trod_bool he hf
     have h1:cs[i]? = some (.bool z):=by
      have:=congrArg (·[0]?) hc
      simpa [List.getElem?_take,List.getElem?_drop] using this
     have h2:(xs.map (·.1))[i]? = some (DataW.lit (.bool z):DataW H):=by simp [hb]
     rw [hxs] at h2
     simp only [List.getElem?_map,Option.map_eq_some_iff,DataW.lit.injEq,Lit.bool.injEq] at h2
     obtain⟨z',hz',rfl⟩:=h2
     simp [h1,hz']
    ·rw [List.getElem?_eq_none (by omega),List.getElem?_eq_none (by simp; omega)]
   ·cases h
theorem gSp:Tryz.prog.globalNamed "effigy/oop.spares" = some 0:=by kernel_rfl
theorem gSpT:(Tryz.prog.globals[0]?).map (·.type)=some 362:=by kernel_rfl
theorem cSp:Tryz.prog.cellsOf 362=5:=by kernel_rfl
theorem cB:Tryz.prog.cellsOf 4=1:=by kernel_rfl
theorem env_of_met {l:List (String × DataW Unit)} {W:World} (h:laidMet Tryz.prog l W) (h2:("effigy/oop.spares",Rows.laid_effigy_oop_spares)∈l):Env W:=by
 have hs:Spares W:=by
  obtain⟨g,t,cs,fuel,p,e1,e2,e3,e4⟩:=reads_of_met h h2
  obtain rfl:=Option.some.inj (gSp.symm.trans e1)
  obtain rfl:=Option.some.inj (gSpT.symm.trans e2)
  have e5:=bools_of_tab (zs:=[false,false,true,false,false]) Tryz.underlying362 Tryz.underlying4 cB cSp e4
  intro i hi
  have:=World.var?_cell gSp e3 i
  rw [this,← Array.getElem?_toList,e5]
  rcases (by omega:i=0∨i=1∨i=2∨i=3∨i=4) with rfl | rfl | rfl | rfl | rfl <;> rfl
 exact⟨hs,hs⟩
theorem wf_range {k:IntKind} {n:Int} (h:(Lit.int k n).wf=true):k.min≤n∧n≤k.max:=by simpa [Lit.wf] using h
theorem nat_of_wf {k:IntKind} {n:Int} (hk:k.min=0) (h:(Lit.int k n).wf=true):∃ m:Nat,n=(m:Int)∧(m:Int)≤k.max:=by
 have:=wf_range h
 exact⟨n.toNat,by omega,by omega⟩
section
variable {H:Type} {enc:TypeId × Value→H} {w:World} {base:Nat} {spare:Nat→Bool} {held:Bool} {v:Value} {d:DataW H} {ps:List MemPlace}
end
def laidCells (l:List Value):Obj→Obj
 | .cells _ t frozen=> .cells l.toArray t frozen
 | o=>o
noncomputable def laidWorld (os:Os):World:=
 { World.holding Tryz.prog os ⟨#[],#[],[]⟩ with heap:=((World.holding Tryz.prog os ⟨#[],#[],[]⟩).heap.modify 0 (laidCells [.bool false,.bool false,.bool true,.bool false,.bool false])) }
end
end Go.Proofs.YtlkahgagmfhdaaaGreatDoor
