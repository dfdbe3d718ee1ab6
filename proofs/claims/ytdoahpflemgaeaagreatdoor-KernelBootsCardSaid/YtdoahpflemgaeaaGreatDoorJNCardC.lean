import Derived.Test.YtdoahpflemgaeaaGreatDoorJLive
import Derived.Test.YtdoahpflemgaeaaGreatDoorRowKit
import Derived.Test.YtdoahpflemgaeaaGreatDoorCards
import Derived.Test.YtdoahpflemgaeaaGreatDoorTie
import Derived.Deep.Slices
import Derived.Deep.Fields
import Derived.Deep.DeepHandedRow
import Derived.Lib.LaidTab
set_option linter.unusedVariables false
namespace Go.Proofs.YtdoahpflemgaeaaGreatDoor
section
open Go.RowKit Go.WideShapes Go.ChangeShapes Go.ChangeAt Go.Deep
theorem own:ownKnob Tryz.prog.godebug=none:=by kernel_rfl
theorem laidOut:laidOutB Tryz.prog=true:=by kernel_rfl
def ReadsAs (P:Program) (w:World) (n:String) (d:DataW Unit):Prop:=
 ∃ g t cs fuel p,P.globalNamed n=some g∧(P.globals[g]?).map (·.type)=some t∧w.var? P n=some cs∧DataW.trod (fun _=>()) P w 0 (fun _=>true) false fuel t cs.toList=some (d,p)
theorem reads_of_vars {P:Program} {w:World}:∀ {l:List (String × DataW Unit)} {ps:List MemPlace},DataW.LaidVars P w l ps→∀ n d,(n,d)∈l→ReadsAs P w n d
 | [],_,_,_,_,hm=>by cases hm
 | (n',d') :: r,ps,h,n,d,hm=>by
   obtain⟨g,t,cs,fuel,p,q,h1,h2,h3,h4,h5,_⟩:=h
   rcases List.mem_cons.1 hm with e | e
   ·cases e
    exact⟨g,t,cs,fuel,p,h1,h2,h3,h4⟩
   ·exact reads_of_vars h5 n d e
theorem reads_of_met {P:Program} {w:World} {l:List (String × DataW Unit)} (h:laidMet P l w) {n:String} {d:DataW Unit} (hm:(n,d)∈l):ReadsAs P w n d:=
 let ⟨_,hv,_⟩:=h
 reads_of_vars hv n d hm
theorem bools_of_tab {H:Type} {enc:TypeId × Value→H} {P:Program} {w:World} {base:Nat} {sp:Nat→Bool} {held:Bool} {fuel:Nat} {t e:TypeId} {n:Nat} {cs:List Value} {zs:List Bool} {p:List MemPlace}
 (ht:P.underlying t=some (.array n e)) (he:P.underlying e=some .bool) (hce:P.cellsOf e=1) (hct:P.cellsOf t=n)
 (h:DataW.trod enc P w base sp held fuel t cs=some (.agg (zs.map fun z=> .lit (.bool z)),p)):cs=zs.map Value.bool:=by
 cases fuel with
 | zero=>simp [DataW.trod] at h
 | succ fuel=>
   simp only [DataW.trod,ht,hce,hct,Nat.mul_one] at h
   split at h
   ·rename_i hl
    obtain⟨xs,hm,hx⟩:=Option.map_eq_some_iff.1 h
    have hxs:xs.map (·.1)=zs.map fun z=>(DataW.lit (.bool z):DataW H):=by
     have:=congrArg Prod.fst hx
     simpa using this
    have hxl:xs.length=n:=by simpa using Lib.mapM_length hm
    have hzl:zs.length=n:=by
     have:=congrArg List.length hxs
     simp at this
     omega
    apply List.ext_getElem?
    intro i
    by_cases hi:i<n
    ·obtain⟨b,hb,hf⟩:=Lib.mapM_at hm i i (by simp [hi])
     obtain⟨z,hc,rfl⟩:=DataW.trod_bool he hf
     have h1:cs[i]? = some (.bool z):=by
      have:=congrArg (·[0]?) hc
      simpa [List.getElem?_take,List.getElem?_drop] using this
     have h2:(xs.map (·.1))[i]? = some (DataW.lit (.bool z):DataW H):=by simp [hb]
     rw [hxs] at h2
     simp only [List.getElem?_map,Option.map_eq_some_iff,DataW.lit.injEq,Lit.bool.injEq] at h2
     obtain⟨z',hz',rfl⟩:=h2
     simp [h1,hz']
    ·rw [List.getElem?_eq_none (by omega),List.getElem?_eq_none (by simp; omega)]
   ·cases h
theorem gPow:Tryz.prog.globalNamed "internal/strconv.uint64pow10" = some 2:=by kernel_rfl
theorem gPowT:(Tryz.prog.globals[2]?).map (·.type)=some 226:=by kernel_rfl
theorem cPow:Tryz.prog.cellsOf 226=20:=by kernel_rfl
theorem cU64:Tryz.prog.cellsOf 217=1:=by kernel_rfl
theorem gSp:Tryz.prog.globalNamed "effigy/oop.spares" = some 0:=by kernel_rfl
theorem gSpT:(Tryz.prog.globals[0]?).map (·.type)=some 212:=by kernel_rfl
theorem cSp:Tryz.prog.cellsOf 212=5:=by kernel_rfl
theorem cB:Tryz.prog.cellsOf 4=1:=by kernel_rfl
theorem env_of_met {l:List (String × DataW Unit)} {W:World} (h:laidMet Tryz.prog l W) (h1:("internal/strconv.uint64pow10",Rows.laid_internal_strconv_uint64pow10)∈l)
 (h2:("effigy/oop.spares",Rows.laid_effigy_oop_spares)∈l):Env W:=by
 refine⟨?_,?_⟩
 ·obtain⟨g,t,cs,fuel,p,e1,e2,e3,e4⟩:=reads_of_met h h2
  obtain rfl:=Option.some.inj (gSp.symm.trans e1)
  obtain rfl:=Option.some.inj (gSpT.symm.trans e2)
  have e5:=bools_of_tab (zs:=[false,false,true,false,false]) Tryz.underlying212 Tryz.underlying4 cB cSp e4
  intro i hi
  have:=World.var?_cell gSp e3 i
  rw [this,← Array.getElem?_toList,e5]
  rcases (by omega:i=0∨i=1∨i=2∨i=3∨i=4) with rfl | rfl | rfl | rfl | rfl <;> rfl
 ·obtain⟨g,t,cs,fuel,p,e1,e2,e3,e4⟩:=reads_of_met h h1
  obtain rfl:=Option.some.inj (gPow.symm.trans e1)
  obtain rfl:=Option.some.inj (gPowT.symm.trans e2)
  have e5:=Lib.cells_of_tab (zs:=Lib.pow10Tab) (k:=.u64) Tryz.underlying226 Tryz.underlying217 cU64 cPow e4
  unfold Pow Lib.TabIs
  rw [e3,← e5]
def laidCells (l:List Value):Obj→Obj
 | .cells _ t frozen=> .cells l.toArray t frozen
 | o=>o
def tabCells:Nat→DataW Unit→List Value
 | 0,_=>[]
 | f+1,d=>match d with
   | .agg l=>l.flatMap (tabCells f)
   | .lit (.int k n)=>[.int k n]
   | .lit (.bool b)=>[.bool b]
   | _=>[]
noncomputable def laidWorld (os:Os):World:=
 { World.holding Tryz.prog os ⟨#[],#[],[]⟩ with heap:=(((((((World.holding Tryz.prog os ⟨#[],#[],[]⟩).heap.modify 0 (laidCells (tabCells 4 Rows.laid_effigy_oop_spares))).modify 2 (laidCells (tabCells 4 Rows.laid_internal_strconv_uint64pow10))).modify 5 (laidCells (tabCells 4 Rows.laid_math_bits_deBruijn32tab))).modify 6 (laidCells (tabCells 4 Rows.laid_math_bits_deBruijn64tab))).modify 4 (laidCells (tabCells 4 Rows.laid_unicode_utf8_acceptRanges))).modify 3 (laidCells (tabCells 4 Rows.laid_unicode_utf8_first))) }
end
end Go.Proofs.YtdoahpflemgaeaaGreatDoor
