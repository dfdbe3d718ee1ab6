/- CompareDiffs: whatever the input, the law returns true and the input reads as it did. No condition but the tables that the row lists; the card ties them. -/
import Derived.Test.YtpajpdjjpgbklaaDoorJCardC
import Derived.Test.YtpajpdjjpgbklaaDoorJAwakeC
set_option linter.unusedVariables false
namespace Go.Proofs.YtpajpdjjpgbklaaDoor
open Go.RowKit Go.WideShapes Go.ChangeShapes Go.ChangeAt

namespace compareDiffsCard
theorem params_ok : ∀ t ∈ Tryd.f3.params.toList, Tryd.prog.readableRec t = true ∧ t < Tryd.prog.types.size := by
  rw [Tryd.params3]
  intro t ht
  simp at ht
  rcases ht with rfl | rfl | rfl | rfl | rfl <;> exact ⟨by kernel_rfl, of_decide_eq_true (by kernel_rfl)⟩
set_option maxRecDepth 100000 in
theorem contract (H : Type) (enc : TypeId × Value → H) (W : World) (base : Nat) (args : Array Value) (ds gs : List (DataW H)) (before : List MemPlace)
    (hval : ∀ (j : Nat) t v, Tryd.f3.params[j]? = some t → args[j]? = some v → Value.okWide Tryd.prog W .any base t v)
    (hW : DataW.Whole enc Tryd.prog Tryd.f3.params.toList Rows.compareDiffsSpec.vars false W args.toList ds gs before) (hL : laidMetH Tryd.prog Rows.compareDiffsRow.laid W)
    (hsz : (DataW.weightsEach Tryd.prog Tryd.f3.params.toList ds).all (· ≤ reachBytes) = true) :
    Calls Tryd.prog 3 args W fun e W' => ∃ v, e = .returned v ∧ Rows.compareDiffsSpec.post enc Tryd.prog Tryd.f3 false true false false W args v W' := by
  have hW' := hW
  obtain ⟨p, q, hA0, hV, rfl, hfz, hnd⟩ := hW
  have hA : DataW.TrodAll enc Tryd.prog W 0 (fun _ => true) true Tryd.f3.params.toList args.toList ds p := hA0
  rw [Tryd.params3] at hA hval hsz
  obtain ⟨v0, vs0, d0, ds0, p0, q0, hargs, rfl, rfl, h0, r0⟩ := trodAll_cons hA
  obtain ⟨v1, vs1, d1, ds1, p1, q1, rfl, rfl, rfl, h1, r1⟩ := trodAll_cons r0
  obtain ⟨v2, vs2, d2, ds2, p2, q2, rfl, rfl, rfl, h2, r2⟩ := trodAll_cons r1
  obtain ⟨v3, vs3, d3, ds3, p3, q3, rfl, rfl, rfl, h3, r3⟩ := trodAll_cons r2
  obtain ⟨v4, vs4, d4, ds4, p4, q4, rfl, rfl, rfl, h4, r4⟩ := trodAll_cons r3
  obtain ⟨rfl, rfl, rfl⟩ := trodAll_nil r4
  obtain rfl : args = #[v0, v1, v2, v3, v4] := by cases args; simp_all
  have E : Env W := env_of_met (show laidMet Tryd.prog Rows.compareDiffsRow.laid W from hL) (by simp [Rows.compareDiffsRow])
  have call : Calls Tryd.prog 3 #[v0, v1, v2, v3, v4] W (Told (.bool true) W) := by
    obtain ⟨k0, rfl, hk0⟩ := open_case (hval 0 26 v0 rfl rfl) h0
    obtain ⟨k1, rfl, hk1⟩ := open_case (hval 1 26 v1 rfl rfl) h1
    obtain ⟨b2, rfl, -, -⟩ := open_bool Tryd.underlying4 (hval 2 4 v2 rfl rfl) h2
    obtain ⟨A3, nd3, c3, l3, rfl, hnd3, hr3, hb3, hq3⟩ := open_oops (okWide_slice Tryd.underlying23 (hval 3 23 v3 rfl rfl)) h3
    have hlen3 := len_reach hsz 3 (t := 23) rfl rfl Tryd.underlying23 bytesOop hq3
    obtain ⟨A4, nd4, c4, l4, rfl, hnd4, hr4, hb4, hq4⟩ := open_oops (okWide_slice Tryd.underlying23 (hval 4 23 v4 rfl rfl)) h4
    have hlen4 := len_reach hsz 4 (t := 23) rfl rfl Tryd.underlying23 bytesOop hq4
    exact diffsC_any W E k0 hk0 k1 hk1 b2 A3 nd3 c3 l3 hnd3 hr3 hb3 hlen3 A4 nd4 c4 l4 hnd4 hr4 hb4 hlen4
  refine call.mono fun e W' ⟨he, hb⟩ => ?_
  subst he
  exact ⟨_, rfl, law_post laidOut params_ok rfl (by kernel_rfl) Tryd.underlying4 hW' ⟨rfl, rfl, rfl⟩ hb⟩

theorem laid_met (os : Os) : laidMet Tryd.prog Rows.compareDiffsRow.laid ((laidWorld os).forCall (fun _ _ => 0) ⟨#[], #[.agg #[.int .i64 0, .slice none 0 0, .slice none 0 0, .int .u32 0], .agg #[.int .i64 0, .slice none 0 0, .slice none 0 0, .int .u32 0], .bool false, .slice none 0 0, .slice none 0 0], []⟩).memory :=
  laidMet_of_run' 8 (by kernel_rfl) (by kernel_rfl)
theorem reads (os : Os) {H : Type} (enc : TypeId × Value → H) : ∃ places, DataW.whole enc Tryd.prog ((laidWorld os).forCall (fun _ _ => 0) ⟨#[], #[.agg #[.int .i64 0, .slice none 0 0, .slice none 0 0, .int .u32 0], .agg #[.int .i64 0, .slice none 0 0, .slice none 0 0, .int .u32 0], .bool false, .slice none 0 0, .slice none 0 0], []⟩).memory Tryd.f3.params.toList Rows.compareDiffsSpec.vars false (#[.agg #[.int .i64 0, .slice none 0 0, .slice none 0 0, .int .u32 0], .agg #[.int .i64 0, .slice none 0 0, .slice none 0 0, .int .u32 0], .bool false, .slice none 0 0, .slice none 0 0] : Array Value).toList 8 = some ([.agg [.lit (.int .i64 0), .nil, .nil, .lit (.int .u32 0)], .agg [.lit (.int .i64 0), .nil, .nil, .lit (.int .u32 0)], .lit (.bool false), .nil, .nil], [], places) :=
  ⟨[], by kernel_rfl⟩
set_option maxRecDepth 100000 in
theorem lifted (os : Os) (started : os.Started) (H : Type) (enc : TypeId × Value → H) (F : Stop.Interp) :
    ReturnsInHanded {} Tryd.checked os 3 .any ((OpenSpec.ofChange Rows.compareDiffsSpec).preRow enc Tryd.prog Tryd.f3 Rows.compareDiffsRow.domain false Rows.compareDiffsRow.laid) (((OpenSpec.ofChange Rows.compareDiffsSpec).at F).post enc Tryd.prog Tryd.f3 false true false false) := by
  obtain ⟨places, hx⟩ := reads os enc
  refine returnsInHanded_of_row (C := Tryd.checked) (s := OpenSpec.ofChange Rows.compareDiffsSpec) own started (by kernel_rfl) Tryd.func3
    (witness_row_at (enc := enc) (C := Tryd.checked) false (laidWorld os) #[.agg #[.int .i64 0, .slice none 0 0, .slice none 0 0, .int .u32 0], .agg #[.int .i64 0, .slice none 0 0, .slice none 0 0, .int .u32 0], .bool false, .slice none 0 0, .slice none 0 0] rfl (by kernel_rfl) (by kernel_rfl) (by kernel_rfl)
      (OpenSpec.preRow_of_cond 8 hx (by kernel_rfl) (fun k hk => by cases hk) (by kernel_rfl) (laid_met os))) ?_
  intro W base args ds gs before hval hW _ _ hsz hL _ _
  have hg : gs = [] := by
    obtain ⟨_, q, _, hV, _⟩ := hW
    cases gs with
    | nil => rfl
    | cons g r => exact hV.elim
  subst hg
  rw [List.append_nil] at hsz
  exact contract H enc W base args ds [] before hval hW hL hsz

theorem said : Rows.CompareDiffsSaid :=
  OpenClaim.holds_of_cond 3 Tryd.f3 rfl rfl rfl rfl rfl rfl rfl ⟨rfl, rfl, rfl, rfl, rfl⟩ rfl rfl rfl rfl rfl (by kernel_rfl) Tryd.func3 (by kernel_rfl)
    (of_decide_eq_true (by kernel_rfl)) (by unfold Func.isWrapper; first | (rw [if_pos (by decide +kernel)]; kernel_rfl) | (rw [if_neg (by decide +kernel)]; exact ⟨rfl, rfl⟩))
    (fun os started H enc _ F => by rw [OpenClaim.pre_eq_preRow]; exact lifted os started H enc F)

set_option maxRecDepth 100000 in
theorem plain (f : FuncId) (fn : Func) (hf : Tryd.pinned.checked.prog.funcNamed "effigy/effigylaw23.CompareDiffs" = some f) (hfn : Tryd.pinned.checked.prog.funcs[f]? = some fn) :
    false = Tryd.pinned.checked.prog.looks [] ∧ ∀ (j : Nat) t, fn.params[j]? = some t → Tryd.pinned.checked.prog.wantsStandIn t = false := by
  obtain rfl : f = 3 := Option.some.inj ((show Tryd.prog.funcNamed "effigy/effigylaw23.CompareDiffs" = some 3 by kernel_rfl).symm.trans hf) |>.symm
  obtain rfl : fn = Tryd.f3 := (Option.some.inj (Tryd.func3.symm.trans hfn)).symm
  refine ⟨by kernel_rfl, fun j t ht => ?_⟩
  rw [Tryd.params3] at ht
  have hm := Array.mem_of_getElem? ht
  simp at hm
  rcases hm with rfl | rfl | rfl | rfl | rfl
  all_goals first | exact (show Tryd.prog.wantsStandIn 26 = false by kernel_rfl) | exact (show Tryd.prog.wantsStandIn 4 = false by kernel_rfl) | exact (show Tryd.prog.wantsStandIn 23 = false by kernel_rfl)
end compareDiffsCard

theorem compareDiffs_card : Rows.CompareDiffsCardSaid :=
  Claim7.holds_tied_plain_at .later [] _ _ _ _ compareDiffsCard.said (fun _ h => by cases h) (by kernel_rfl) (fun _ h => by cases h) compareDiffs_row_tie rfl ⟨rfl, rfl⟩ (by kernel_rfl) rfl compareDiffsCard.plain (by kernel_rfl)
#print axioms compareDiffs_card
end Go.Proofs.YtpajpdjjpgbklaaDoor
