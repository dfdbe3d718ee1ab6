/- HandlesNil: whatever the input, the law returns true and the input reads as it did. No condition but the tables that the row lists; the card ties them. -/
/- HandlesNil and HandlesFull: their cards together. -/
import Derived.Test.YtlkahgagmfhdaaaGreatDoorJICardC
import Derived.Test.YtlkahgagmfhdaaaGreatDoorJHdU
import Derived.Test.YtlkahgagmfhdaaaGreatDoorJHCardC
set_option linter.unusedVariables false
set_option linter.unusedSectionVars false
namespace Go.Proofs.YtlkahgagmfhdaaaGreatDoor
open Go.RowKit Go.WideShapes Go.ChangeShapes Go.ChangeAt

namespace handlesNilCard
theorem params_ok : ∀ t ∈ Tryz.f7.params.toList, Tryz.prog.readableRec t = true ∧ t < Tryz.prog.types.size := by
  rw [Tryz.params7]
  intro t ht
  simp at ht
  rcases ht with rfl | rfl | rfl <;> exact ⟨by kernel_rfl, of_decide_eq_true (by kernel_rfl)⟩
set_option maxRecDepth 100000 in
theorem contract (H : Type) (enc : TypeId × Value → H) (W : World) (base : Nat) (args : Array Value) (ds gs : List (DataW H)) (before : List MemPlace)
    (hval : ∀ (j : Nat) t v, Tryz.f7.params[j]? = some t → args[j]? = some v → Value.okWide Tryz.prog W .any base t v)
    (hW : DataW.Whole enc Tryz.prog Tryz.f7.params.toList Rows.handlesNilSpec.vars false W args.toList ds gs before) (hL : laidMetH Tryz.prog Rows.handlesNilRow.laid W)
    (hsz : (DataW.weightsEach Tryz.prog Tryz.f7.params.toList ds).all (· ≤ reachBytes) = true) :
    Calls Tryz.prog 7 args W fun e W' => ∃ v, e = .returned v ∧ Rows.handlesNilSpec.post enc Tryz.prog Tryz.f7 false true false false W args v W' := by
  have hW' := hW
  obtain ⟨p, q, hA0, hV, rfl, hfz, hnd⟩ := hW
  have hA : DataW.TrodAll enc Tryz.prog W 0 (fun _ => true) true Tryz.f7.params.toList args.toList ds p := hA0
  rw [Tryz.params7] at hA hval hsz
  obtain ⟨v0, vs0, d0, ds0, p0, q0, hargs, rfl, rfl, h0, r0⟩ := trodAll_cons hA
  obtain ⟨v1, vs1, d1, ds1, p1, q1, rfl, rfl, rfl, h1, r1⟩ := trodAll_cons r0
  obtain ⟨v2, vs2, d2, ds2, p2, q2, rfl, rfl, rfl, h2, r2⟩ := trodAll_cons r1
  obtain ⟨rfl, rfl, rfl⟩ := trodAll_nil r2
  obtain rfl : args = #[v0, v1, v2] := by cases args; simp_all
  have E : Env W := env_of_met (show laidMet Tryz.prog Rows.handlesNilRow.laid W from hL) (by simp [Rows.handlesNilRow])
  have call : Calls Tryz.prog 7 #[v0, v1, v2] W (Told (.bool true) W) := by
    obtain ⟨z0, rfl, -, -, w0⟩ := open_int Tryz.underlying54 (hval 0 54 v0 rfl rfl) h0
    obtain ⟨n0, rfl, b0⟩ := nat_of_wf rfl w0
    have hb0 : n0 < 4294967296 := by have : IntKind.u32.max = 4294967295 := rfl; omega
    obtain ⟨z1, rfl, -, -, w1⟩ := open_int Tryz.underlying47 (hval 1 47 v1 rfl rfl) h1
    obtain ⟨n1, rfl, b1⟩ := nat_of_wf rfl w1
    have hb1 : n1 < 18446744073709551616 := by have : IntKind.u64.max = 18446744073709551615 := rfl; omega
    obtain ⟨n2, rfl, -, -, w2⟩ := open_int Tryz.underlying3 (hval 2 3 v2 rfl rfl) h2
    exact nilC_any W E n0 hb0 n1 hb1 n2 w2
  refine call.mono fun e W' ⟨he, hb⟩ => ?_
  subst he
  exact ⟨_, rfl, law_post laidOut params_ok rfl (by kernel_rfl) Tryz.underlying4 hW' ⟨rfl, rfl, rfl⟩ hb⟩

theorem laid_met (os : Os) : laidMet Tryz.prog Rows.handlesNilRow.laid ((laidWorld os).forCall (fun _ _ => 0) ⟨#[], #[.int .u32 0, .int .u64 0, .int .i64 0], []⟩).memory :=
  laidMet_of_run' 8 (by kernel_rfl) (by kernel_rfl)
theorem reads (os : Os) {H : Type} (enc : TypeId × Value → H) : ∃ places, DataW.whole enc Tryz.prog ((laidWorld os).forCall (fun _ _ => 0) ⟨#[], #[.int .u32 0, .int .u64 0, .int .i64 0], []⟩).memory Tryz.f7.params.toList Rows.handlesNilSpec.vars false (#[.int .u32 0, .int .u64 0, .int .i64 0] : Array Value).toList 8 = some ([.lit (.int .u32 0), .lit (.int .u64 0), .lit (.int .i64 0)], [], places) :=
  ⟨[], by kernel_rfl⟩
set_option maxRecDepth 100000 in
theorem lifted (os : Os) (started : os.Started) (H : Type) (enc : TypeId × Value → H) (F : Stop.Interp) :
    ReturnsInHanded {} Tryz.checked os 7 .any ((OpenSpec.ofChange Rows.handlesNilSpec).preRow enc Tryz.prog Tryz.f7 Rows.handlesNilRow.domain false Rows.handlesNilRow.laid) (((OpenSpec.ofChange Rows.handlesNilSpec).at F).post enc Tryz.prog Tryz.f7 false true false false) := by
  obtain ⟨places, hx⟩ := reads os enc
  refine returnsInHanded_of_row (C := Tryz.checked) (s := OpenSpec.ofChange Rows.handlesNilSpec) own started (by kernel_rfl) Tryz.func7
    (witness_row_at (enc := enc) (C := Tryz.checked) false (laidWorld os) #[.int .u32 0, .int .u64 0, .int .i64 0] rfl (by kernel_rfl) (by kernel_rfl) (by kernel_rfl)
      (OpenSpec.preRow_of_cond 8 hx (by kernel_rfl) (fun k hk => by cases hk) (by kernel_rfl) (laid_met os))) ?_
  intro W base args ds gs before hval hW _ _ hsz hL _ _
  have hg : gs = [] := by
    obtain ⟨_, q, _, hV, _⟩ := hW
    cases gs with
    | nil => rfl
    | cons g r => exact hV.elim
  subst hg
  rw [List.append_nil] at hsz
  exact contract H enc W base args ds [] before hval hW hL hsz

set_option maxRecDepth 100000 in
set_option maxHeartbeats 80000000 in
theorem closed : joinedFacts Tryz.pinned.checked.prog 7 Tryz.f7 (OpenSpec.ofChange Rows.handlesNilSpec).bare Rows.handlesNilRow = true := by
  unfold joinedFacts
  simp only [Bool.and_eq_true]
  repeat' apply And.intro
  all_goals (as_aux_lemma => kernel_rfl)

theorem said : Rows.HandlesNilSaid :=
  OpenClaim.holds_of_cond 7 Tryz.f7 rfl rfl rfl rfl rfl rfl rfl ⟨rfl, rfl, rfl, rfl, rfl⟩ rfl rfl rfl rfl rfl (by as_aux_lemma => kernel_rfl) Tryz.func7 closed
    (of_decide_eq_true (by kernel_rfl)) (by unfold Func.isWrapper; first | (rw [if_pos (by decide +kernel)]; kernel_rfl) | (rw [if_neg (by decide +kernel)]; exact ⟨rfl, rfl⟩))
    (fun os started H enc _ F => by rw [OpenClaim.pre_eq_preRow]; exact lifted os started H enc F)

set_option maxRecDepth 100000 in
theorem plain (f : FuncId) (fn : Func) (hf : Tryz.pinned.checked.prog.funcNamed "effigy/effigylaw16.HandlesNil" = some f) (hfn : Tryz.pinned.checked.prog.funcs[f]? = some fn) :
    false = Tryz.pinned.checked.prog.looks [] ∧ ∀ (j : Nat) t, fn.params[j]? = some t → Tryz.pinned.checked.prog.wantsStandIn t = false := by
  obtain rfl : f = 7 := Option.some.inj ((show Tryz.prog.funcNamed "effigy/effigylaw16.HandlesNil" = some 7 by kernel_rfl).symm.trans hf) |>.symm
  obtain rfl : fn = Tryz.f7 := (Option.some.inj (Tryz.func7.symm.trans hfn)).symm
  refine ⟨by kernel_rfl, fun j t ht => ?_⟩
  rw [Tryz.params7] at ht
  have hm := Array.mem_of_getElem? ht
  simp at hm
  rcases hm with rfl | rfl | rfl
  all_goals first | exact (show Tryz.prog.wantsStandIn 54 = false by kernel_rfl) | exact (show Tryz.prog.wantsStandIn 47 = false by kernel_rfl) | exact (show Tryz.prog.wantsStandIn 3 = false by kernel_rfl)
end handlesNilCard

theorem handlesNil_card : Rows.HandlesNilCardSaid :=
  Claim7.holds_tied_plain_at .later [] _ _ _ _ handlesNilCard.said (fun _ h => by cases h) (by kernel_rfl) (fun _ h => by cases h) handlesNil_row_tie rfl ⟨rfl, rfl⟩ (by kernel_rfl) rfl handlesNilCard.plain (by kernel_rfl)
#print axioms handlesNil_card
end Go.Proofs.YtlkahgagmfhdaaaGreatDoor


