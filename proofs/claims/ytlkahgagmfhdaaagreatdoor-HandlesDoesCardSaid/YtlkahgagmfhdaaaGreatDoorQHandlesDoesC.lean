import Derived.Test.YtlkahgagmfhdaaaGreatDoorQHCardC
import Derived.Test.YtlkahgagmfhdaaaGreatDoorQHmB
set_option linter.unusedVariables false
namespace Go.Proofs.YtlkahgagmfhdaaaGreatDoor
section
open Go.RowKit Go.WideShapes Go.ChangeShapes Go.ChangeAt
namespace handlesDoesCard
theorem params_ok:∀ t∈Tryz.f10.params.toList,Tryz.prog.readableRec t=true∧t<Tryz.prog.types.size:=by
 rw [Tryz.params10]
 intro t ht
 simp at ht
 subst ht
 exact⟨by kernel_rfl,of_decide_eq_true (by kernel_rfl)⟩
set_option maxRecDepth 100000 in
theorem contract (H:Type) (enc:TypeId × Value→H) (W:World) (base:Nat) (args:Array Value) (ds gs:List (DataW H)) (before:List MemPlace)
 (hval:∀ (j:Nat) t v,Tryz.f10.params[j]? = some t→args[j]? = some v→Value.okWide Tryz.prog W .any base t v)
 (hW:DataW.Whole enc Tryz.prog Tryz.f10.params.toList Rows.handlesDoesSpec.vars false W args.toList ds gs before) (hL:laidMetH Tryz.prog Rows.handlesDoesRow.laid W)
 (hsz:(DataW.weightsEach Tryz.prog Tryz.f10.params.toList ds).all (· ≤reachBytes)=true):
 Calls Tryz.prog 10 args W fun e W'=>∃ v,e = .returned v∧Rows.handlesDoesSpec.post enc Tryz.prog Tryz.f10 false true false false W args v W':=by
 have hW':=hW
 obtain⟨p,q,hA0,hV,rfl,hfz,hnd⟩:=hW
 have hA:DataW.TrodAll enc Tryz.prog W 0 (fun _=>true) true Tryz.f10.params.toList args.toList ds p:=hA0
 rw [Tryz.params10] at hA hval hsz
 obtain⟨v0,vs0,d0,ds0,p0,q0,hargs,rfl,rfl,h0,r0⟩:=trodAll_cons hA
 obtain⟨rfl,rfl,rfl⟩:=trodAll_nil r0
 obtain rfl:args=#[v0]:=by cases args; simp_all
 have E:Env W:=env_of_met (show laidMet Tryz.prog Rows.handlesDoesRow.laid W from hL) (by simp [Rows.handlesDoesRow])
 have call:Calls Tryz.prog 10 #[v0] W (Told (.bool true) W):=by
  obtain⟨sz0,ob0,cp0,fi0,A0,nd0,c0,l0,rfl,hfi0,hnd0,hds0,hcp0⟩:=open_script (hval 0 50 v0 rfl rfl) h0
  exact doesL_any W E sz0 ob0 cp0 fi0 A0 nd0 c0 l0 hfi0 hnd0 hds0
 refine call.mono fun e W' ⟨he,hb⟩=>?_
 subst he
 exact⟨_,rfl,law_post laidOut params_ok rfl (by kernel_rfl) Tryz.underlying4 hW' ⟨rfl,rfl,rfl⟩ hb⟩
theorem laid_met (os:Os):laidMet Tryz.prog Rows.handlesDoesRow.laid ((laidWorld os).forCall (fun _ _=>0) ⟨#[],#[.agg #[.int .i64 0,.int .i64 0,.int .i64 0,.int .u64 0,.slice none 0 0]],[]⟩).memory:=
 laidMet_of_run' 8 (by kernel_rfl) (by kernel_rfl)
theorem reads (os:Os) {H:Type} (enc:TypeId × Value→H):∃ places,DataW.whole enc Tryz.prog ((laidWorld os).forCall (fun _ _=>0) ⟨#[],#[.agg #[.int .i64 0,.int .i64 0,.int .i64 0,.int .u64 0,.slice none 0 0]],[]⟩).memory Tryz.f10.params.toList Rows.handlesDoesSpec.vars false (#[.agg #[.int .i64 0,.int .i64 0,.int .i64 0,.int .u64 0,.slice none 0 0]]:Array Value).toList 8=some ([.agg [.lit (.int .i64 0),.lit (.int .i64 0),.lit (.int .i64 0),.lit (.int .u64 0),.nil]],[],places):=
 ⟨[],by kernel_rfl⟩
set_option maxRecDepth 100000 in
theorem lifted (os:Os) (started:os.Started) (H:Type) (enc:TypeId × Value→H) (F:Stop.Interp):
 ReturnsInHanded {} Tryz.checked os 10 .any ((OpenSpec.ofChange Rows.handlesDoesSpec).preRow enc Tryz.prog Tryz.f10 Rows.handlesDoesRow.domain false Rows.handlesDoesRow.laid) (((OpenSpec.ofChange Rows.handlesDoesSpec).at F).post enc Tryz.prog Tryz.f10 false true false false):=by
 obtain⟨places,hx⟩:=reads os enc
 refine returnsInHanded_of_row (C:=Tryz.checked) (s:=OpenSpec.ofChange Rows.handlesDoesSpec) own started (by kernel_rfl) Tryz.func10
  (witness_row_at (enc:=enc) (C:=Tryz.checked) false (laidWorld os) #[.agg #[.int .i64 0,.int .i64 0,.int .i64 0,.int .u64 0,.slice none 0 0]] rfl (by kernel_rfl) (by kernel_rfl) (by kernel_rfl)
    (OpenSpec.preRow_of_cond 8 hx (by kernel_rfl) (fun k hk=>by cases hk) (by kernel_rfl) (laid_met os))) ?_
 intro W base args ds gs before hval hW _ _ hsz hL _ _
 have hg:gs=[]:=by
  obtain⟨_,q,_,hV,_⟩:=hW
  cases gs with
  | nil=>rfl
  | cons g r=>exact hV.elim
 subst hg
 rw [List.append_nil] at hsz
 exact contract H enc W base args ds [] before hval hW hL hsz
set_option maxRecDepth 100000 in
set_option maxHeartbeats 80000000 in
theorem closed:joinedFacts Tryz.pinned.checked.prog 10 Tryz.f10 (OpenSpec.ofChange Rows.handlesDoesSpec).bare Rows.handlesDoesRow=true:=by
 unfold joinedFacts
 simp only [Bool.and_eq_true]
 repeat' apply And.intro
 all_goals (as_aux_lemma=>kernel_rfl)
theorem said:Rows.HandlesDoesSaid:=
 OpenClaim.holds_of_cond 10 Tryz.f10 rfl rfl rfl rfl rfl rfl rfl ⟨rfl,rfl,rfl,rfl,rfl⟩ rfl rfl rfl rfl rfl (by as_aux_lemma=>kernel_rfl) Tryz.func10 closed
  (of_decide_eq_true (by kernel_rfl)) (by unfold Func.isWrapper; first | (rw [if_pos (by decide +kernel)]; kernel_rfl) | (rw [if_neg (by decide +kernel)]; exact⟨rfl,rfl⟩))
  (fun os started H enc _ F=>by rw [OpenClaim.pre_eq_preRow]; exact lifted os started H enc F)
set_option maxRecDepth 100000 in
theorem plain (f:FuncId) (fn:Func) (hf:Tryz.pinned.checked.prog.funcNamed "effigy/effigylaw16.HandlesDoes" = some f) (hfn:Tryz.pinned.checked.prog.funcs[f]? = some fn):
 false=Tryz.pinned.checked.prog.looks []∧∀ (j:Nat) t,fn.params[j]? = some t→Tryz.pinned.checked.prog.wantsStandIn t=false:=by
 obtain rfl:f=10:=Option.some.inj ((show Tryz.prog.funcNamed "effigy/effigylaw16.HandlesDoes" = some 10 by kernel_rfl).symm.trans hf) |>.symm
 obtain rfl:fn=Tryz.f10:=(Option.some.inj (Tryz.func10.symm.trans hfn)).symm
 refine⟨by kernel_rfl,fun j t ht=>?_⟩
 rw [Tryz.params10] at ht
 have hm:=Array.mem_of_getElem? ht
 simp at hm
 subst hm
 all_goals first | exact (show Tryz.prog.wantsStandIn 50=false by kernel_rfl)
end handlesDoesCard
theorem handlesDoes_card:Rows.HandlesDoesCardSaid:=
 Claim7.holds_tied_plain_at .later [] _ _ _ _ handlesDoesCard.said (fun _ h=>by cases h) (by kernel_rfl) (fun _ h=>by cases h) handlesDoes_row_tie rfl ⟨rfl,rfl⟩ (by kernel_rfl) rfl handlesDoesCard.plain (by kernel_rfl)
#print axioms handlesDoes_card
end
end Go.Proofs.YtlkahgagmfhdaaaGreatDoor
