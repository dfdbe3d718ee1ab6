/- CollectBecomes: whatever the input, the law returns true and the input reads as it did. No condition but the tables that the row lists; the card ties them. -/
import Derived.Test.YtblekggklimpeaaGreatDoorJKCardC
import Derived.Test.YtblekggklimpeaaGreatDoorJKBulk
set_option linter.unusedVariables false
namespace Go.Proofs.YtblekggklimpeaaGreatDoor
open Go.RowKit Go.WideShapes Go.ChangeShapes Go.ChangeAt

namespace collectBecomesCard
theorem params_ok : ∀ t ∈ Tryz.f3.params.toList, Tryz.prog.readableRec t = true ∧ t < Tryz.prog.types.size := by
  rw [Tryz.params3]
  intro t ht
  simp at ht
  rcases ht with rfl | rfl | rfl <;> exact ⟨by kernel_rfl, of_decide_eq_true (by kernel_rfl)⟩
set_option maxRecDepth 100000 in
theorem contract (H : Type) (enc : TypeId × Value → H) (W : World) (base : Nat) (args : Array Value) (ds gs : List (DataW H)) (before : List MemPlace)
    (hval : ∀ (j : Nat) t v, Tryz.f3.params[j]? = some t → args[j]? = some v → Value.okWide Tryz.prog W .any base t v)
    (hW : DataW.Whole enc Tryz.prog Tryz.f3.params.toList Rows.collectBecomesSpec.vars false W args.toList ds gs before) (hL : laidMetH Tryz.prog Rows.collectBecomesUptoRow.laid W)
    (hsz : (DataW.weightsEach Tryz.prog Tryz.f3.params.toList ds).all (· ≤ reachBytes) = true) (hk : Rows.uptoSmall H ds = true) :
    Calls Tryz.prog 3 args W fun e W' => ∃ v, e = .returned v ∧ Rows.collectBecomesSpec.post enc Tryz.prog Tryz.f3 false true false false W args v W' := by
  have hW' := hW
  obtain ⟨p, q, hA0, hV, rfl, hfz, hnd⟩ := hW
  have hA : DataW.TrodAll enc Tryz.prog W 0 (fun _ => true) true Tryz.f3.params.toList args.toList ds p := hA0
  rw [Tryz.params3] at hA hval hsz
  obtain ⟨v0, vs0, d0, ds0, p0, q0, hargs, rfl, rfl, h0, r0⟩ := trodAll_cons hA
  obtain ⟨v1, vs1, d1, ds1, p1, q1, rfl, rfl, rfl, h1, r1⟩ := trodAll_cons r0
  obtain ⟨v2, vs2, d2, ds2, p2, q2, rfl, rfl, rfl, h2, r2⟩ := trodAll_cons r1
  obtain ⟨rfl, rfl, rfl⟩ := trodAll_nil r2
  obtain rfl : args = #[v0, v1, v2] := by cases args; simp_all
  have E : Env W := env_of_met (show laidMet Tryz.prog Rows.collectBecomesUptoRow.laid W from hL) (by simp [Rows.collectBecomesUptoRow])
  have call : Calls Tryz.prog 3 #[v0, v1, v2] W (Told (.bool true) W) := by
    obtain ⟨k0, rfl, hk0⟩ := open_case (hval 0 26 v0 rfl rfl) h0
    obtain ⟨A1, nd1, c1, l1, rfl, hnd1, hr1, hb1, hq1⟩ := open_oops (okWide_slice Tryz.underlying23 (hval 1 23 v1 rfl rfl)) h1
    have hlen1 := bulk_len hk 1 rfl hq1
    obtain ⟨A2, nd2, c2, l2, rfl, hnd2, hr2, hb2, hq2⟩ := open_oops (okWide_slice Tryz.underlying23 (hval 2 23 v2 rfl rfl)) h2
    have hlen2 := bulk_len hk 2 rfl hq2
    exact becomesL_any W E k0 hk0 A1 nd1 c1 l1 hnd1 hr1 hb1 hlen1 A2 nd2 c2 l2 hnd2 hr2 hb2 hlen2
  refine call.mono fun e W' ⟨he, hb⟩ => ?_
  subst he
  exact ⟨_, rfl, law_post laidOut params_ok rfl (by kernel_rfl) Tryz.underlying4 hW' ⟨rfl, rfl, rfl⟩ hb⟩

theorem laid_met (os : Os) : laidMet Tryz.prog Rows.collectBecomesUptoRow.laid ((laidWorld os).forCall (fun _ _ => 0) ⟨#[], #[.agg #[.int .i64 0, .slice none 0 0, .slice none 0 0, .int .u32 0], .slice none 0 0, .slice none 0 0], []⟩).memory :=
  laidMet_of_run' 8 (by kernel_rfl) (by kernel_rfl)
theorem reads (os : Os) {H : Type} (enc : TypeId × Value → H) : ∃ places, DataW.whole enc Tryz.prog ((laidWorld os).forCall (fun _ _ => 0) ⟨#[], #[.agg #[.int .i64 0, .slice none 0 0, .slice none 0 0, .int .u32 0], .slice none 0 0, .slice none 0 0], []⟩).memory Tryz.f3.params.toList Rows.collectBecomesSpec.vars false (#[.agg #[.int .i64 0, .slice none 0 0, .slice none 0 0, .int .u32 0], .slice none 0 0, .slice none 0 0] : Array Value).toList 8 = some ([.agg [.lit (.int .i64 0), .nil, .nil, .lit (.int .u32 0)], .nil, .nil], [], places) :=
  ⟨[], by kernel_rfl⟩
set_option maxRecDepth 100000 in
theorem lifted (os : Os) (started : os.Started) (H : Type) (enc : TypeId × Value → H) (F : Stop.Interp) :
    ReturnsInHanded {} Tryz.checked os 3 .any ((Rows.OpenSpec.upto Rows.collectBecomesSpec).preRow enc Tryz.prog Tryz.f3 Rows.collectBecomesUptoRow.domain false Rows.collectBecomesUptoRow.laid) (((Rows.OpenSpec.upto Rows.collectBecomesSpec).at F).post enc Tryz.prog Tryz.f3 false true false false) := by
  obtain ⟨places, hx⟩ := reads os enc
  refine returnsInHanded_of_row (C := Tryz.checked) (s := Rows.OpenSpec.upto Rows.collectBecomesSpec) own started (by kernel_rfl) Tryz.func3
    (witness_row_at (enc := enc) (C := Tryz.checked) false (laidWorld os) #[.agg #[.int .i64 0, .slice none 0 0, .slice none 0 0, .int .u32 0], .slice none 0 0, .slice none 0 0] rfl (by kernel_rfl) (by kernel_rfl) (by kernel_rfl)
      (OpenSpec.preRow_of_cond 8 hx (by kernel_rfl) (fun k hk => by cases hk; kernel_rfl) (by kernel_rfl) (laid_met os))) ?_
  intro W base args ds gs before hval hW _ hcond hsz hL _ _
  have hg : gs = [] := by
    obtain ⟨_, q, _, hV, _⟩ := hW
    cases gs with
    | nil => rfl
    | cons g r => exact hV.elim
  subst hg
  rw [List.append_nil] at hsz
  have hk := hcond _ rfl
  rw [List.append_nil] at hk
  exact contract H enc W base args ds [] before hval hW hL hsz hk

theorem said : Rows.CollectBecomesUptoSaid :=
  OpenClaim.holds_of_cond 3 Tryz.f3 rfl rfl rfl rfl rfl rfl rfl ⟨rfl, rfl, rfl, rfl, rfl⟩ rfl rfl rfl rfl rfl (by kernel_rfl) Tryz.func3 (by kernel_rfl)
    (of_decide_eq_true (by kernel_rfl)) (by unfold Func.isWrapper; first | (rw [if_pos (by decide +kernel)]; kernel_rfl) | (rw [if_neg (by decide +kernel)]; exact ⟨rfl, rfl⟩))
    (fun os started H enc _ F => by rw [OpenClaim.pre_eq_preRow]; exact lifted os started H enc F)

set_option maxRecDepth 100000 in
theorem plain (f : FuncId) (fn : Func) (hf : Tryz.pinned.checked.prog.funcNamed "effigy/effigylaw03.CollectBecomes" = some f) (hfn : Tryz.pinned.checked.prog.funcs[f]? = some fn) :
    false = Tryz.pinned.checked.prog.looks [] ∧ ∀ (j : Nat) t, fn.params[j]? = some t → Tryz.pinned.checked.prog.wantsStandIn t = false := by
  obtain rfl : f = 3 := Option.some.inj ((show Tryz.prog.funcNamed "effigy/effigylaw03.CollectBecomes" = some 3 by kernel_rfl).symm.trans hf) |>.symm
  obtain rfl : fn = Tryz.f3 := (Option.some.inj (Tryz.func3.symm.trans hfn)).symm
  refine ⟨by kernel_rfl, fun j t ht => ?_⟩
  rw [Tryz.params3] at ht
  have hm := Array.mem_of_getElem? ht
  simp at hm
  rcases hm with rfl | rfl | rfl
  all_goals first | exact (show Tryz.prog.wantsStandIn 26 = false by kernel_rfl) | exact (show Tryz.prog.wantsStandIn 23 = false by kernel_rfl)
end collectBecomesCard

theorem collectBecomes_card : Rows.CollectBecomesUptoCardSaid :=
  Claim7.holds_tied_plain_at .later [] _ _ _ _ collectBecomesCard.said (fun _ h => by cases h) (by kernel_rfl) (fun _ h => by cases h) collectBecomesUpto_row_tie rfl ⟨rfl, rfl⟩ (by kernel_rfl) rfl collectBecomesCard.plain (by kernel_rfl)
#print axioms collectBecomes_card
end Go.Proofs.YtblekggklimpeaaGreatDoor
