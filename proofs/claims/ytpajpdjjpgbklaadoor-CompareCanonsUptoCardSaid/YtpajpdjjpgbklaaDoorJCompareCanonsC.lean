/- CompareCanons: whatever the input, the law returns true and the input reads as it did. No condition but the tables that the row lists; the card ties them. -/
import Derived.Test.YtpajpdjjpgbklaaDoorJCardC
import Derived.Test.YtpajpdjjpgbklaaDoorJCanonsU
set_option linter.unusedVariables false
namespace Go.Proofs.YtpajpdjjpgbklaaDoor
open Go.RowKit Go.WideShapes Go.ChangeShapes Go.ChangeAt

namespace compareCanonsCard
theorem params_ok : ∀ t ∈ Tryd.f7.params.toList, Tryd.prog.readableRec t = true ∧ t < Tryd.prog.types.size := by
  rw [Tryd.params7]
  intro t ht
  simp at ht
  rcases ht with rfl | rfl | rfl | rfl <;> exact ⟨by kernel_rfl, of_decide_eq_true (by kernel_rfl)⟩
set_option maxRecDepth 100000 in
theorem contract (H : Type) (enc : TypeId × Value → H) (W : World) (base : Nat) (args : Array Value) (ds gs : List (DataW H)) (before : List MemPlace)
    (hval : ∀ (j : Nat) t v, Tryd.f7.params[j]? = some t → args[j]? = some v → Value.okWide Tryd.prog W .any base t v)
    (hW : DataW.Whole enc Tryd.prog Tryd.f7.params.toList Rows.compareCanonsSpec.vars false W args.toList ds gs before) (hL : laidMetH Tryd.prog Rows.compareCanonsUptoRow.laid W)
    (hsz : (DataW.weightsEach Tryd.prog Tryd.f7.params.toList ds).all (· ≤ reachBytes) = true) (hk : Rows.uptoSmall H ds = true) :
    Calls Tryd.prog 7 args W fun e W' => ∃ v, e = .returned v ∧ Rows.compareCanonsSpec.post enc Tryd.prog Tryd.f7 false true false false W args v W' := by
  have hW' := hW
  obtain ⟨p, q, hA0, hV, rfl, hfz, hnd⟩ := hW
  have hA : DataW.TrodAll enc Tryd.prog W 0 (fun _ => true) true Tryd.f7.params.toList args.toList ds p := hA0
  rw [Tryd.params7] at hA hval hsz
  obtain ⟨v0, vs0, d0, ds0, p0, q0, hargs, rfl, rfl, h0, r0⟩ := trodAll_cons hA
  obtain ⟨v1, vs1, d1, ds1, p1, q1, rfl, rfl, rfl, h1, r1⟩ := trodAll_cons r0
  obtain ⟨v2, vs2, d2, ds2, p2, q2, rfl, rfl, rfl, h2, r2⟩ := trodAll_cons r1
  obtain ⟨v3, vs3, d3, ds3, p3, q3, rfl, rfl, rfl, h3, r3⟩ := trodAll_cons r2
  obtain ⟨rfl, rfl, rfl⟩ := trodAll_nil r3
  obtain rfl : args = #[v0, v1, v2, v3] := by cases args; simp_all
  have E : Env W := env_of_met (show laidMet Tryd.prog Rows.compareCanonsUptoRow.laid W from hL) (by simp [Rows.compareCanonsUptoRow])
  have call : Calls Tryd.prog 7 #[v0, v1, v2, v3] W (Told (.bool true) W) := by
    obtain ⟨k0, rfl, hk0⟩ := open_case (hval 0 26 v0 rfl rfl) h0
    obtain ⟨b1, rfl, -, -⟩ := open_bool Tryd.underlying4 (hval 1 4 v1 rfl rfl) h1
    obtain ⟨A2, nd2, c2, l2, rfl, hnd2, hr2, hb2, hq2⟩ := open_oops (okWide_slice Tryd.underlying23 (hval 2 23 v2 rfl rfl)) h2
    have hlen2 := bulk_len hk 2 rfl hq2
    obtain ⟨A3, nd3, c3, l3, rfl, hnd3, hr3, hb3, hq3⟩ := open_u8s (okWide_slice Tryd.underlying46 (hval 3 46 v3 rfl rfl)) h3
    have hlen3 := bulk_len hk 3 rfl hq3
    exact canonsC_any W E k0 hk0 b1 A2 nd2 c2 l2 hnd2 hr2 hb2 hlen2 A3 nd3 c3 l3 hnd3 hr3 hb3 hlen3
  refine call.mono fun e W' ⟨he, hb⟩ => ?_
  subst he
  exact ⟨_, rfl, law_post laidOut params_ok rfl (by kernel_rfl) Tryd.underlying4 hW' ⟨rfl, rfl, rfl⟩ hb⟩

theorem laid_met (os : Os) : laidMet Tryd.prog Rows.compareCanonsUptoRow.laid ((laidWorld os).forCall (fun _ _ => 0) ⟨#[], #[.agg #[.int .i64 0, .slice none 0 0, .slice none 0 0, .int .u32 0], .bool false, .slice none 0 0, .slice none 0 0], []⟩).memory :=
  laidMet_of_run' 8 (by kernel_rfl) (by kernel_rfl)
theorem reads (os : Os) {H : Type} (enc : TypeId × Value → H) : ∃ places, DataW.whole enc Tryd.prog ((laidWorld os).forCall (fun _ _ => 0) ⟨#[], #[.agg #[.int .i64 0, .slice none 0 0, .slice none 0 0, .int .u32 0], .bool false, .slice none 0 0, .slice none 0 0], []⟩).memory Tryd.f7.params.toList Rows.compareCanonsSpec.vars false (#[.agg #[.int .i64 0, .slice none 0 0, .slice none 0 0, .int .u32 0], .bool false, .slice none 0 0, .slice none 0 0] : Array Value).toList 8 = some ([.agg [.lit (.int .i64 0), .nil, .nil, .lit (.int .u32 0)], .lit (.bool false), .nil, .nil], [], places) :=
  ⟨[], by kernel_rfl⟩
set_option maxRecDepth 100000 in
theorem lifted (os : Os) (started : os.Started) (H : Type) (enc : TypeId × Value → H) (F : Stop.Interp) :
    ReturnsInHanded {} Tryd.checked os 7 .any ((Rows.OpenSpec.upto Rows.compareCanonsSpec).preRow enc Tryd.prog Tryd.f7 Rows.compareCanonsUptoRow.domain false Rows.compareCanonsUptoRow.laid) (((Rows.OpenSpec.upto Rows.compareCanonsSpec).at F).post enc Tryd.prog Tryd.f7 false true false false) := by
  obtain ⟨places, hx⟩ := reads os enc
  refine returnsInHanded_of_row (C := Tryd.checked) (s := Rows.OpenSpec.upto Rows.compareCanonsSpec) own started (by kernel_rfl) Tryd.func7
    (witness_row_at (enc := enc) (C := Tryd.checked) false (laidWorld os) #[.agg #[.int .i64 0, .slice none 0 0, .slice none 0 0, .int .u32 0], .bool false, .slice none 0 0, .slice none 0 0] rfl (by kernel_rfl) (by kernel_rfl) (by kernel_rfl)
      (OpenSpec.preRow_of_cond 8 hx (by kernel_rfl) (fun k hk => by cases hk; kernel_rfl) (by kernel_rfl) (laid_met os))) ?_
  intro W base args ds gs before hval hW _ hcond hsz hL _ _
  have hg : gs = [] := by
    obtain ⟨_, q, _, hV, _⟩ := hW
    cases gs with
    | nil => rfl
    | cons g r => exact hV.elim
  subst hg
  rw [List.append_nil] at hsz
  have hk := hcond _ rfl
  rw [List.append_nil] at hk
  exact contract H enc W base args ds [] before hval hW hL hsz hk

theorem said : Rows.CompareCanonsUptoSaid :=
  OpenClaim.holds_of_cond 7 Tryd.f7 rfl rfl rfl rfl rfl rfl rfl ⟨rfl, rfl, rfl, rfl, rfl⟩ rfl rfl rfl rfl rfl (by kernel_rfl) Tryd.func7 (by kernel_rfl)
    (of_decide_eq_true (by kernel_rfl)) (by unfold Func.isWrapper; first | (rw [if_pos (by decide +kernel)]; kernel_rfl) | (rw [if_neg (by decide +kernel)]; exact ⟨rfl, rfl⟩))
    (fun os started H enc _ F => by rw [OpenClaim.pre_eq_preRow]; exact lifted os started H enc F)

set_option maxRecDepth 100000 in
theorem plain (f : FuncId) (fn : Func) (hf : Tryd.pinned.checked.prog.funcNamed "effigy/effigylaw23.CompareCanons" = some f) (hfn : Tryd.pinned.checked.prog.funcs[f]? = some fn) :
    false = Tryd.pinned.checked.prog.looks [] ∧ ∀ (j : Nat) t, fn.params[j]? = some t → Tryd.pinned.checked.prog.wantsStandIn t = false := by
  obtain rfl : f = 7 := Option.some.inj ((show Tryd.prog.funcNamed "effigy/effigylaw23.CompareCanons" = some 7 by kernel_rfl).symm.trans hf) |>.symm
  obtain rfl : fn = Tryd.f7 := (Option.some.inj (Tryd.func7.symm.trans hfn)).symm
  refine ⟨by kernel_rfl, fun j t ht => ?_⟩
  rw [Tryd.params7] at ht
  have hm := Array.mem_of_getElem? ht
  simp at hm
  rcases hm with rfl | rfl | rfl | rfl
  all_goals first | exact (show Tryd.prog.wantsStandIn 26 = false by kernel_rfl) | exact (show Tryd.prog.wantsStandIn 4 = false by kernel_rfl) | exact (show Tryd.prog.wantsStandIn 23 = false by kernel_rfl) | exact (show Tryd.prog.wantsStandIn 46 = false by kernel_rfl)
end compareCanonsCard

theorem compareCanons_card : Rows.CompareCanonsUptoCardSaid :=
  Claim7.holds_tied_plain_at .later [] _ _ _ _ compareCanonsCard.said (fun _ h => by cases h) (by kernel_rfl) (fun _ h => by cases h) compareCanonsUpto_row_tie rfl ⟨rfl, rfl⟩ (by kernel_rfl) rfl compareCanonsCard.plain (by kernel_rfl)
#print axioms compareCanons_card
end Go.Proofs.YtpajpdjjpgbklaaDoor
