import Derived.Test.YtdoahpflemgaeaaGreatDoorJNCardC
import Derived.Test.YtdoahpflemgaeaaGreatDoorJNAwQ
set_option linter.unusedVariables false
namespace Go.Proofs.YtdoahpflemgaeaaGreatDoor
section
open Go.RowKit Go.WideShapes Go.ChangeShapes Go.ChangeAt
namespace kernelBootsCard
theorem params_ok:∀ t∈Tryz.f3.params.toList,Tryz.prog.readableRec t=true∧t<Tryz.prog.types.size:=by
 rw [Tryz.params3]
 intro t ht
 simp at ht
 subst ht
 exact⟨by kernel_rfl,of_decide_eq_true (by kernel_rfl)⟩
set_option maxRecDepth 100000 in
theorem contract (H:Type) (enc:TypeId × Value→H) (W:World) (base:Nat) (args:Array Value) (ds gs:List (DataW H)) (before:List MemPlace)
 (hval:∀ (j:Nat) t v,Tryz.f3.params[j]? = some t→args[j]? = some v→Value.okWide Tryz.prog W .any base t v)
 (hW:DataW.Whole enc Tryz.prog Tryz.f3.params.toList Rows.kernelBootsSpec.vars false W args.toList ds gs before) (hL:laidMetH Tryz.prog Rows.kernelBootsRow.laid W)
 (hsz:(DataW.weightsEach Tryz.prog Tryz.f3.params.toList ds).all (· ≤reachBytes)=true):
 Calls Tryz.prog 3 args W fun e W'=>∃ v,e = .returned v∧Rows.kernelBootsSpec.post enc Tryz.prog Tryz.f3 false true false false W args v W':=by
 have hW':=hW
 obtain⟨p,q,hA0,hV,rfl,hfz,hnd⟩:=hW
 have hA:DataW.TrodAll enc Tryz.prog W 0 (fun _=>true) true Tryz.f3.params.toList args.toList ds p:=hA0
 rw [Tryz.params3] at hA hval hsz
 obtain⟨v0,vs0,d0,ds0,p0,q0,hargs,rfl,rfl,h0,r0⟩:=trodAll_cons hA
 obtain⟨rfl,rfl,rfl⟩:=trodAll_nil r0
 obtain rfl:args=#[v0]:=by cases args; simp_all
 have E:Env W:=env_of_met (show laidMet Tryz.prog Rows.kernelBootsRow.laid W from hL) (by simp [Rows.kernelBootsRow]) (by simp [Rows.kernelBootsRow])
 have call:Calls Tryz.prog 3 #[v0] W (Told (.bool true) W):=by
  obtain⟨n0,rfl,-,-,w0⟩:=open_int Tryz.underlying3 (hval 0 3 v0 rfl rfl) h0
  exact kernelBootsW_any W E n0 w0
 refine call.mono fun e W' ⟨he,hb⟩=>?_
 subst he
 exact⟨_,rfl,law_post laidOut params_ok rfl (by kernel_rfl) Tryz.underlying4 hW' ⟨rfl,rfl,rfl⟩ hb⟩
theorem laid_met (os:Os):laidMet Tryz.prog Rows.kernelBootsRow.laid ((laidWorld os).forCall (fun _ _=>0) ⟨#[],#[.int .i64 0],[]⟩).memory:=
 laidMet_of_run' 8 (by kernel_rfl) (by kernel_rfl)
theorem reads (os:Os) {H:Type} (enc:TypeId × Value→H):∃ places,DataW.whole enc Tryz.prog ((laidWorld os).forCall (fun _ _=>0) ⟨#[],#[.int .i64 0],[]⟩).memory Tryz.f3.params.toList Rows.kernelBootsSpec.vars false (#[.int .i64 0]:Array Value).toList 8=some ([.lit (.int .i64 0)],[],places):=
 ⟨[],by kernel_rfl⟩
set_option maxRecDepth 100000 in
theorem lifted (os:Os) (started:os.Started) (H:Type) (enc:TypeId × Value→H) (F:Stop.Interp):
 ReturnsInHanded {} Tryz.checked os 3 .any ((OpenSpec.ofChange Rows.kernelBootsSpec).preRow enc Tryz.prog Tryz.f3 Rows.kernelBootsRow.domain false Rows.kernelBootsRow.laid) (((OpenSpec.ofChange Rows.kernelBootsSpec).at F).post enc Tryz.prog Tryz.f3 false true false false):=by
 obtain⟨places,hx⟩:=reads os enc
 refine returnsInHanded_of_row (C:=Tryz.checked) (s:=OpenSpec.ofChange Rows.kernelBootsSpec) own started (by kernel_rfl) Tryz.func3
  (witness_row_at (enc:=enc) (C:=Tryz.checked) false (laidWorld os) #[.int .i64 0] rfl (by kernel_rfl) (by kernel_rfl) (by kernel_rfl)
    (OpenSpec.preRow_of_cond 8 hx (by kernel_rfl) (fun k hk=>by cases hk) (by kernel_rfl) (laid_met os))) ?_
 intro W base args ds gs before hval hW _ _ hsz hL _ _
 have hg:gs=[]:=by
  obtain⟨_,q,_,hV,_⟩:=hW
  cases gs with
  | nil=>rfl
  | cons g r=>exact hV.elim
 subst hg
 rw [List.append_nil] at hsz
 exact contract H enc W base args ds [] before hval hW hL hsz
set_option maxRecDepth 100000 in
set_option maxHeartbeats 80000000 in
theorem closed:joinedFacts Tryz.pinned.checked.prog 3 Tryz.f3 (OpenSpec.ofChange Rows.kernelBootsSpec).bare Rows.kernelBootsRow=true:=by
 unfold joinedFacts
 simp only [Bool.and_eq_true]
 repeat' apply And.intro
 all_goals (as_aux_lemma=>kernel_rfl)
theorem said:Rows.KernelBootsSaid:=
 OpenClaim.holds_of_cond 3 Tryz.f3 rfl rfl rfl rfl rfl rfl rfl ⟨rfl,rfl,rfl,rfl,rfl⟩ rfl rfl rfl rfl rfl (by as_aux_lemma=>kernel_rfl) Tryz.func3 closed
  (of_decide_eq_true (by kernel_rfl)) (by unfold Func.isWrapper; first | (rw [if_pos (by decide +kernel)]; kernel_rfl) | (rw [if_neg (by decide +kernel)]; exact⟨rfl,rfl⟩))
  (fun os started H enc _ F=>by rw [OpenClaim.pre_eq_preRow]; exact lifted os started H enc F)
set_option maxRecDepth 100000 in
theorem plain (f:FuncId) (fn:Func) (hf:Tryz.pinned.checked.prog.funcNamed "effigy/effigylaw04.KernelBoots" = some f) (hfn:Tryz.pinned.checked.prog.funcs[f]? = some fn):
 false=Tryz.pinned.checked.prog.looks []∧∀ (j:Nat) t,fn.params[j]? = some t→Tryz.pinned.checked.prog.wantsStandIn t=false:=by
 obtain rfl:f=3:=Option.some.inj ((show Tryz.prog.funcNamed "effigy/effigylaw04.KernelBoots" = some 3 by kernel_rfl).symm.trans hf) |>.symm
 obtain rfl:fn=Tryz.f3:=(Option.some.inj (Tryz.func3.symm.trans hfn)).symm
 refine⟨by kernel_rfl,fun j t ht=>?_⟩
 rw [Tryz.params3] at ht
 have hm:=Array.mem_of_getElem? ht
 simp at hm
 subst hm
 all_goals first | exact (show Tryz.prog.wantsStandIn 3=false by kernel_rfl)
end kernelBootsCard
theorem kernelBoots_card:Rows.KernelBootsCardSaid:=
 Claim7.holds_tied_plain_at .later [] _ _ _ _ kernelBootsCard.said (fun _ h=>by cases h) (by kernel_rfl) (fun _ h=>by cases h) kernelBoots_row_tie rfl ⟨rfl,rfl⟩ (by kernel_rfl) rfl kernelBootsCard.plain (by kernel_rfl)
#print axioms kernelBoots_card
end
end Go.Proofs.YtdoahpflemgaeaaGreatDoor
