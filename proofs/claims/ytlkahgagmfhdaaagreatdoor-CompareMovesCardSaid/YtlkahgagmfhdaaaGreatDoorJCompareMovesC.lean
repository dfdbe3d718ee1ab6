import Derived.Test.YtlkahgagmfhdaaaGreatDoorJCardC
import Derived.Test.YtlkahgagmfhdaaaGreatDoorJMovW
set_option linter.unusedVariables false
open Go.OpenSpec renaming ofChange→ae
set_option maxRecDepth 100000
set_option maxHeartbeats 80000000
namespace Go.Proofs.YtlkahgagmfhdaaaGreatDoor
section
open Go.RowKit Go.WideShapes Go.ChangeShapes Go.ChangeAt
namespace compareMovesCard
theorem Nn:∀ t∈Tryz.f11.params.toList,Tryz.prog.readableRec t=true/\t<Tryz.prog.types.size:=by
 rw[Tryz.params11];intro t ht;simp at ht;subst ht;exact⟨by kernel_rfl,of_decide_eq_true (by kernel_rfl)⟩
theorem contract (H:Type)(enc:TypeId × Value->H)(W:World)(base:Nat)(args:Array Value)(ds gs:List (DataW H))(before:List MemPlace)
 (hval:∀ (j:Nat) t v,Tryz.f11.params[j]? = some t->args[j]? = some v->Value.okWide Tryz.prog W .any base t v)
 (hW:DataW.Whole enc Tryz.prog Tryz.f11.params.toList Rows.compareMovesSpec.vars false W args.toList ds gs before)(hL:laidMetH Tryz.prog Rows.compareMovesRow.laid W)
 (hsz:(DataW.weightsEach Tryz.prog Tryz.f11.params.toList ds).all (· <=reachBytes)=true):
 Calls Tryz.prog 11 args W fun e W'=>∃ v,e= .returned v/\Rows.compareMovesSpec.post enc Tryz.prog Tryz.f11 false true false false W args v W':=by
 have hW':=hW;obtain⟨p,q,hA0,hV,rfl,tE,uG⟩:=hW;have hA:DataW.TrodAll enc Tryz.prog W 0 (fun _=>true) true Tryz.f11.params.toList args.toList ds p:=hA0;rw[Tryz.params11]at hA hval hsz;obtain⟨v0,vs0,d0,ds0,p0,q0,hargs,rfl,rfl,h0,r0⟩:=trodAll_cons hA;obtain⟨rfl,rfl,rfl⟩:=trodAll_nil r0;obtain rfl:args=#[v0]:=by cases args;simp_all
 have E:Ig W:=Ja (show laidMet Tryz.prog Rows.compareMovesRow.laid W from hL) (by simp[Rows.compareMovesRow]);have call:Calls Tryz.prog 11 #[v0] W (Told (.bool true) W):=by
  obtain⟨k0,rfl,KX⟩:=Nc (hval 0 119 v0 rfl rfl) h0;exact JF W E k0 KX
 refine call.mono fun e W' ⟨he,hb⟩=>?_;subst he;exact⟨_,rfl,law_post Ux Nn rfl (by kernel_rfl) Tryz.underlying4 hW' ⟨rfl,rfl,rfl⟩ hb⟩
theorem QL (os:Os):laidMet Tryz.prog Rows.compareMovesRow.laid ((wU os).forCall (fun _ _=>0) ⟨#[],#[.agg #[.int .i64 0,.slice none 0 0,.slice none 0 0,.int .u32 0]],[]⟩).memory:=
 laidMet_of_run' 8 (by kernel_rfl) (by kernel_rfl)
theorem reads (os:Os){H:Type}(enc:TypeId × Value->H):∃ places,DataW.whole enc Tryz.prog ((wU os).forCall (fun _ _=>0) ⟨#[],#[.agg #[.int .i64 0,.slice none 0 0,.slice none 0 0,.int .u32 0]],[]⟩).memory Tryz.f11.params.toList Rows.compareMovesSpec.vars false (#[.agg #[.int .i64 0,.slice none 0 0,.slice none 0 0,.int .u32 0]]:Array Value).toList 8=some ([.agg [.lit (.int .i64 0),.nil,.nil,.lit (.int .u32 0)]],[],places):=
 ⟨[],by kernel_rfl⟩
theorem Yk (os:Os)(started:os.Started)(H:Type)(enc:TypeId × Value->H)(F:Stop.Interp):
 ReturnsInHanded {} Tryz.checked os 11 .any ((ae Rows.compareMovesSpec).preRow enc Tryz.prog Tryz.f11 Rows.compareMovesRow.domain false Rows.compareMovesRow.laid) (((ae Rows.compareMovesSpec).at F).post enc Tryz.prog Tryz.f11 false true false false):=by
 obtain⟨places,hx⟩:=reads os enc
 refine returnsInHanded_of_row (C:=Tryz.checked) (s:=ae Rows.compareMovesSpec) own started (by kernel_rfl) Tryz.func11
  (witness_row_at (enc:=enc) (C:=Tryz.checked) false (wU os) #[.agg #[.int .i64 0,.slice none 0 0,.slice none 0 0,.int .u32 0]] rfl (by kernel_rfl) (by kernel_rfl) (by kernel_rfl)
    (OpenSpec.preRow_of_cond 8 hx (by kernel_rfl) (fun k hk=>by cases hk) (by kernel_rfl) (QL os))) ?_
 intro W base args ds gs before hval hW _ _ hsz hL _ _;have hg:gs=[]:=by
  obtain⟨_,q,_,hV,_⟩:=hW
  cases gs with
  | nil=>rfl
  | cons g r=>exact hV.elim
 subst hg;rw[List.append_nil]at hsz;exact contract H enc W base args ds [] before hval hW hL hsz
theorem closed:joinedFacts Tryz.pinned.checked.prog 11 Tryz.f11 (ae Rows.compareMovesSpec).bare Rows.compareMovesRow=true:=by
 unfold joinedFacts;simp only[Bool.and_eq_true]
 repeat' apply And.intro
 all_goals (as_aux_lemma=>kernel_rfl)
theorem said:Rows.CompareMovesSaid:=
 OpenClaim.holds_of_cond 11 Tryz.f11 rfl rfl rfl rfl rfl rfl rfl ⟨rfl,rfl,rfl,rfl,rfl⟩ rfl rfl rfl rfl rfl (by as_aux_lemma=>kernel_rfl) Tryz.func11 closed
  (of_decide_eq_true (by kernel_rfl)) (by unfold Func.isWrapper;first|(rw[if_pos (by decide +kernel)];kernel_rfl)|(rw[if_neg (by decide +kernel)];exact⟨rfl,rfl⟩))
  (fun os started H enc _ F=>by rw[OpenClaim.pre_eq_preRow];exact Yk os started H enc F)
theorem plain (f:FuncId) (fn:Func) (hf:Tryz.pinned.checked.prog.funcNamed "effigy/effigylaw23.CompareMoves" = some f) (hfn:Tryz.pinned.checked.prog.funcs[f]? = some fn):
 false=Tryz.pinned.checked.prog.looks []/\∀ (j:Nat) t,fn.params[j]? = some t->Tryz.pinned.checked.prog.wantsStandIn t=false:=by
 obtain rfl:f=11:=Option.some.inj ((show Tryz.prog.funcNamed "effigy/effigylaw23.CompareMoves" = some 11 by kernel_rfl).symm.trans hf) |>.symm;obtain rfl:fn=Tryz.f11:=(Option.some.inj (Tryz.func11.symm.trans hfn)).symm;refine⟨by kernel_rfl,fun j t ht=>?_⟩;rw [Tryz.params11] at ht;have hm:=Array.mem_of_getElem? ht;simp at hm;subst hm;all_goals first | exact (show Tryz.prog.wantsStandIn 119=false by kernel_rfl)
end compareMovesCard
theorem compareMoves_card:Rows.CompareMovesCardSaid:=
 Claim7.holds_tied_plain_at .later [] _ _ _ _ compareMovesCard.said (fun _ h=>by cases h) (by kernel_rfl) (fun _ h=>by cases h) compareMoves_row_tie rfl ⟨rfl,rfl⟩ (by kernel_rfl) rfl compareMovesCard.plain (by kernel_rfl)
#print axioms compareMoves_card
end
end Go.Proofs.YtlkahgagmfhdaaaGreatDoor
