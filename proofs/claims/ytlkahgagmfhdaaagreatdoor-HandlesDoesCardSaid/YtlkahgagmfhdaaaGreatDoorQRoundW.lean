import Derived.Test.YtlkahgagmfhdaaaGreatDoorRound
import Derived.Test.YtlkahgagmfhdaaaGreatDoorQUntil
import Derived.Test.YtlkahgagmfhdaaaGreatDoorQMem
set_option linter.unusedVariables false
namespace Go.Proofs.YtlkahgagmfhdaaaGreatDoor
section
open Go.RowKit Go.Sort
section
variable {P:Program} {n:Nat} {Q:Exit→Act→World→Prop}
theorem oper_wpInW {o:Oper} {a:Act} {w:World} {K:Act→World→Prop} (hd:∀ c,o.op≠ .defer c) (h:o.wp P a w K Q):o.wpIn Fence.wide n P a w K Q:=by
 refine⟨fun _ _=>trivial,?_⟩
 rw [Oper.semAt_eq _ _ _ hd]
 unfold Oper.wp at h
 generalize (execOp a.eval o).run P w=r at *
 cases r with
 | ok x w'=>
   cases x with
   | value v=>exact h
   | skip=>exact h
   | defer d=>exact h
   | enter f args=>exact⟨fun hh=>(by cases hh),callsIn_wide.2 h⟩
   | row row args=>exact⟨fun hh=>(by cases hh),fun c cs _=>(by obtain⟨v,w',r,s⟩:=h c cs; exact⟨v,w',r,stepsIn_wide.2 s⟩)⟩
   | _=>exact h.elim
 | halt x w'=>cases x <;> exact h
theorem wpAnyInW_of_wpAny {md:Region.Mode} {ops:Array Oper} (hd:noDefer ops=true) (hq:¬ LetsOut Q):∀ (g:Nat) (d:Array Bool) (a:Act) (w:World),wpAny P md ops Q g d a w→wpAnyIn Fence.wide n P md ops Q g d a w
 | 0,_,_,_,h=>h
 | g + 1,d,a,w,⟨h0,h1⟩=>by
   refine⟨h0,fun i hi=>?_⟩
   have h2:=h1 i hi
   unfold wpOp at h2
   unfold wpOpIn
   split
   ·rename_i ho
    rw [ho] at h2
    exact wpAnyInW_of_wpAny hd hq g _ _ _ h2
   ·rename_i o ho
    simp only [ho] at h2
    split
    ·rename_i hw
     rw [if_pos hw] at h2
     exact Oper.wpIn_mono (fun a w=>wpAnyInW_of_wpAny hd hq g _ a w) (oper_wpInW (noDefer_at hd ho) (h2.resolve_right fun hh=>hq hh.2))
    ·rename_i hw
     rw [if_neg hw] at h2
     exact⟨fun _ _=>trivial,wpAnyInW_of_wpAny hd hq g _ _ _ h2⟩
theorem wpIn_region_W {ops:Array Oper} (z:Nat) (S:World→Prop) {id:Nat} {a:Act} {w:World} (hm:P.follows .mixedOrders=true) (hd:noDefer ops=true)
 (h:wpAnyU P .any ops (Calm Q) S z ops.size (Array.replicate ops.size false) a w.drew):(Code.region id ops true).wpIn Fence.wide n P Q a w:=
 wpIn_mono (wpIn_region_any hm (wpAnyInW_of_wpAny hd (by rintro⟨a,w,hh⟩; exact hh) _ _ _ _ (wpAny_of_U _ _ _ _ h))) Calm.imp
theorem blk_ownW {B g:Nat} {w w':World} {row:Option Nat} {t:TypeId} {cs:Array Value} (b:Blk w g t cs) (hg:w.grownBy w' row) (hr:∀ r,row=some r→B≤r∧∃ o:Obj,w.heap[r]? = some o∧o.isCells=false):Blk w' g t cs:=
 b.same (hg.block g b.lt (fun e=>by
  obtain⟨_,o,ho,hc⟩:=hr g e.symm
  unfold Blk at b; rw [b] at ho; injection ho with ho; subst ho; cases hc))
end
end
end Go.Proofs.YtlkahgagmfhdaaaGreatDoor
