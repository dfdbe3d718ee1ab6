import Derived.Test.YtdoahpflemgaeaaGreatDoorJMem
import Derived.Maps.Own
import Derived.Maps.Views
import Derived.Carry
set_option linter.unusedVariables false
namespace Go.Proofs.YtdoahpflemgaeaaGreatDoor
section
open Go.RowKit Go.Maps
structure MapTy (T K:TypeId):Prop where
 ht:Tryz.prog.underlying T=some (.map K 3)
 hk:Tryz.prog.underlying K=some (.int .u32)
def MapIs (K:TypeId) (w:World) (b n:Nat) (f:Nat→Nat):Prop:=
 ∃ D:DataW Unit,IsMap D∧w.ownsMap Tryz.prog K (plainElem Tryz.prog 3) b n D∧∀ x:Nat,x<4294967296→D.atKey (.int .u32 (x:Int)) (.lit (.int .i64 0)) = .lit (.int .i64 (f x:Nat))
def upd (f:Nat→Nat) (x v:Nat):Nat→Nat:=fun y=>if y=x then v else f y
theorem zeroInt (w:World):(zeroValue 3).run Tryz.prog w = .ok (.int .i64 0) w:=by kernel_rfl
theorem wf_u32 {x:Nat} (h:x<4294967296):(Lit.int .u32 (x:Int)).wf=true:=by
 have h1:IntKind.u32.min=0:=rfl
 have h2:IntKind.u32.max=4294967295:=rfl
 simp [Lit.wf,h1,h2]; omega
theorem wf_i64 {x:Nat} (h:x≤9223372036854775807):(Lit.int .i64 (x:Int)).wf=true:=by
 have h1:IntKind.i64.min = -9223372036854775808:=rfl
 have h2:IntKind.i64.max=9223372036854775807:=rfl
 simp [Lit.wf,h1,h2]; omega
section
variable {T K:TypeId} {w w':World} {b n:Nat} {f:Nat→Nat}
theorem MapIs.made (w:World) (K:TypeId):MapIs K (w.alloc (.map #[] 0)) w.heap.size 0 (fun _=>0):=
 ⟨.map [],⟨[],rfl⟩,World.ownsMap_made _ _ _ _,fun x _=>rfl⟩
theorem MapIs.lt (h:MapIs K w b n f):b<w.heap.size:=by obtain⟨D,_,h,_⟩:=h; exact h.lt
theorem MapIs.same (h:MapIs K w b n f) (hs:w'.heap[b]? = w.heap[b]?):MapIs K w' b n f:=by
 obtain⟨D,hD,⟨es,clock,hb,r⟩,hf⟩:=h
 exact⟨D,hD,⟨es,clock,hs.trans hb,r⟩,hf⟩
theorem MapIs.below (h:MapIs K w b n f) (hb:Below w.heap.size w w'):MapIs K w' b n f:=h.same (hb.block b h.lt)
set_option maxRecDepth 100000 in
theorem MapIs.look (h:MapIs K w b n f) (M:MapTy T K) {x:Nat} (hx:x<4294967296):(Instr.lookup T (.map (some b)) (.int .u32 (x:Int)) false).run Tryz.prog w = .ok (.int .i64 (f x:Nat)) w:=by
 obtain⟨D,hD,ho,hf⟩:=h
 obtain⟨c,hrun,hat,_⟩:=ho.lookup_int (int_keyed M.hk) M.ht Tryz.underlying3 (zeroInt w) (keyOf_int_mk M.hk (wf_u32 hx))
 rw [hf x hx] at hat
 have e:c=(f x:Nat):=by
  simp only [DataW.lit.injEq,Lit.int.injEq,true_and] at hat
  exact hat.symm
 subst e
 exact hrun
set_option maxRecDepth 100000 in
theorem MapIs.put (h:MapIs K w b n f) (M:MapTy T K) {x v:Nat} (hx:x<4294967296) (hv:v≤9223372036854775807) (hn:n<9223372036854775807):
 ∃ w',(Instr.mapUpdate T (.map (some b)) (.int .u32 (x:Int)) (.int .i64 (v:Int))).run Tryz.prog w = .ok () w'∧MapIs K w' b (n+1) (upd f x v)∧w.grownBy w' (some b):=by
 obtain⟨D,hD,ho,hf⟩:=h
 obtain⟨w',hrun,ho',hg⟩:=ho.update (int_keyed M.hk) M.ht (by unfold maxLen; omega) (keyOf_int_mk M.hk (wf_u32 hx)) (plainElem_int Tryz.underlying3 (wf_i64 hv))
 refine⟨w',hrun,⟨_,?_,ho',fun y hy=>?_⟩,hg⟩
 ·exact hD.put _ _
 ·unfold upd
  by_cases hyx:y=x
  ·subst hyx
   rw [if_pos rfl]
   exact atKey_put_same hD (show WideAt.IsKeyLit (.int .u32 (y:Int)) from trivial) _ _
  ·rw [if_neg hyx,atKey_put_other (by intro e; injection e with _ e; omega)]
   exact hf y hy
end
end
end Go.Proofs.YtdoahpflemgaeaaGreatDoor
