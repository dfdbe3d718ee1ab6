import Derived.Test.YtlkahgagmfhdaaaGreatDoorQMapIs
import Derived.Maps.OwnSet
set_option linter.unusedVariables false
set_option linter.unusedSectionVars false
namespace Go.Proofs.YtlkahgagmfhdaaaGreatDoor
section
open Go.RowKit Go.Maps
section
variable {T K:TypeId} {w w':World} {b n:Nat} {f:Nat→Nat} {hs:Nat→Bool}
end
end
section
open Go.RowKit Go.Maps
structure MapTyE (T K E:TypeId) (kd:IntKind):Prop where
 ht:Tryz.prog.underlying T=some (.map K E)
 hk:Tryz.prog.underlying K=some (.int .u32)
 he:Tryz.prog.underlying E=some (.int kd)
 hz:∀ w,(zeroValue E).run Tryz.prog w = .ok (.int kd 0) w
 h0:(Lit.int kd 0).wf=true
def MapE (K E:TypeId) (kd:IntKind) (w:World) (b n:Nat) (f:Nat→Int) (hs:Nat→Bool):Prop:=
 ∃ D:DataW Unit,IsMap D∧w.ownsMap Tryz.prog K (plainElem Tryz.prog E) b n D∧(∀ x:Nat,x<4294967296→D.atKey (.int .u32 (x:Int)) (.lit (.int kd 0)) = .lit (.int kd (f x)))∧
   ∀ x:Nat,x<4294967296→Maps.has D (.int .u32 (x:Int))=hs x
section
variable {T K E:TypeId} {kd:IntKind} {w w':World} {b n:Nat} {f:Nat→Int} {hs:Nat→Bool}
theorem MapE.made (w:World) (K E:TypeId) (kd:IntKind):MapE K E kd (w.alloc (.map #[] 0)) w.heap.size 0 (fun _=>0) (fun _=>false):=
 ⟨.map [],⟨[],rfl⟩,World.ownsMap_made _ _ _ _,fun x _=>rfl,fun x _=>rfl⟩
theorem MapE.lt (h:MapE K E kd w b n f hs):b<w.heap.size:=by obtain⟨D,_,h,_⟩:=h; exact h.lt
theorem MapE.obj (h:MapE K E kd w b n f hs):∃ es c,w.heap[b]? = some (.map es c):=by obtain⟨D,_,⟨es,clock,hb,r⟩,_⟩:=h; exact⟨es,clock,hb⟩
theorem MapE.same (h:MapE K E kd w b n f hs) (he:w'.heap[b]? = w.heap[b]?):MapE K E kd w' b n f hs:=by
 obtain⟨D,hD,⟨es,clock,hb,r⟩,hf⟩:=h
 exact⟨D,hD,⟨es,clock,he.trans hb,r⟩,hf⟩
theorem MapE.below (h:MapE K E kd w b n f hs) (hb:Below w.heap.size w w'):MapE K E kd w' b n f hs:=h.same (hb.block b h.lt)
theorem MapE.ext {f':Nat→Int} {hs':Nat→Bool} (h:MapE K E kd w b n f hs) (h1:∀ x,f' x=f x) (h2:∀ x,hs' x=hs x):MapE K E kd w b n f' hs':=by
 obtain⟨D,a,b',c,d⟩:=h
 exact⟨D,a,b',fun x hx=>by rw [h1]; exact c x hx,fun x hx=>by rw [h2]; exact d x hx⟩
theorem MapE.ne_blk {g:Nat} {t:TypeId} {cs:Array Value} (h:MapE K E kd w b n f hs) (k:Blk w g t cs):b≠g:=by
 rintro rfl
 obtain⟨es,c,hb⟩:=h.obj
 unfold Blk at k
 rw [hb] at k
 cases k
theorem MapE.ne_row {g c:Nat} {e:TypeId} {xs:List Value} (h:MapE K E kd w b n f hs) (k:Row w g e c xs):b≠g:=by
 obtain⟨cur,hb,_⟩:=k
 exact h.ne_blk hb
set_option maxRecDepth 100000 in
theorem MapE.look_ok (h:MapE K E kd w b n f hs) (M:MapTyE T K E kd) {x:Nat} (hx:x<4294967296):(Instr.lookup T (.map (some b)) (.int .u32 (x:Int)) true).run Tryz.prog w = .ok (.tuple #[.int kd (f x),.bool (hs x)]) w:=by
 obtain⟨D,hD,ho,hf,hh⟩:=h
 obtain⟨v,ps,hrun,hv⟩:=ho.look_ok (int_keyed M.hk) M.ht (M.hz _) (zd:=.lit (.int kd 0)) (zp:=[]) (plainElem_int M.he M.h0) (keyOf_int_mk M.hk (wf_u32 hx))
 obtain⟨c,rfl,hc,_⟩:=plainElem_int_inv M.he hv
 rw [hf x hx] at hc
 simp only [Prod.mk.injEq,DataW.lit.injEq,Lit.int.injEq,true_and] at hc
 rw [← hh x hx,hc.1]
 exact hrun
set_option maxRecDepth 100000 in
theorem MapE.put (h:MapE K E kd w b n f hs) (M:MapTyE T K E kd) {x:Nat} {v:Int} (hx:x<4294967296) (hv:(Lit.int kd v).wf=true) (hn:n<9223372036854775807):
 ∃ w',(Instr.mapUpdate T (.map (some b)) (.int .u32 (x:Int)) (.int kd v)).run Tryz.prog w = .ok () w'∧MapE K E kd w' b (n+1) (fun y=>if y=x then v else f y) (fun y=>if y=x then true else hs y)∧w.grownBy w' (some b):=by
 obtain⟨D,hD,ho,hf,hh⟩:=h
 obtain⟨w',hrun,ho',hg⟩:=ho.update (int_keyed M.hk) M.ht (by unfold maxLen; omega) (keyOf_int_mk M.hk (wf_u32 hx)) (plainElem_int M.he hv)
 refine⟨w',hrun,⟨_,hD.put _ _,ho',fun y hy=>?_,fun y hy=>?_⟩,hg⟩
 ·show _=DataW.lit (.int kd (if y=x then v else f y))
  by_cases hyx:y=x
  ·subst hyx
   rw [if_pos rfl]
   exact atKey_put_same hD (show WideAt.IsKeyLit (.int .u32 (y:Int)) from trivial) _ _
  ·rw [if_neg hyx,atKey_put_other (by intro e; injection e with _ e; omega)]
   exact hf y hy
 ·show _=(if y=x then true else hs y)
  by_cases hyx:y=x
  ·subst hyx
   rw [if_pos rfl]
   exact has_put_same hD (show WideAt.IsKeyLit (.int .u32 (y:Int)) from trivial) _
  ·rw [if_neg hyx,has_put_other (by intro e; injection e with _ e; omega)]
   exact hh y hy
end
theorem tyOI:MapTyE 225 54 3 .i64:=⟨Tryz.underlying225,Tryz.underlying54,Tryz.underlying3,fun w=>by kernel_rfl,by decide⟩
theorem tyOO:MapTyE 170 54 54 .u32:=⟨Tryz.underlying170,Tryz.underlying54,Tryz.underlying54,fun w=>by kernel_rfl,by decide⟩
end
end Go.Proofs.YtlkahgagmfhdaaaGreatDoor
