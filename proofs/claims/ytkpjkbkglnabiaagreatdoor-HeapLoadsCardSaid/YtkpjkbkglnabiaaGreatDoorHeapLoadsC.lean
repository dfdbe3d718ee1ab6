/- HeapLoads: whatever the input, the law returns true and the input reads as it did. No condition but the tables that the row lists; the card ties them. -/
import Derived.Test.YtkpjkbkglnabiaaGreatDoorJKit
import Derived.Test.YtkpjkbkglnabiaaGreatDoorLoadsL
set_option linter.unusedVariables false
namespace Go.Proofs.YtkpjkbkglnabiaaGreatDoor
open Go.RowKit Go.WideShapes Go.ChangeShapes Go.ChangeAt

namespace heapLoadsCard
theorem params_ok : ∀ t ∈ Tryz.f5.params.toList, Tryz.prog.readableRec t = true ∧ t < Tryz.prog.types.size := by
  rw [Tryz.params5]
  intro t ht
  simp at ht
  rcases ht with rfl | rfl | rfl | rfl | rfl <;> exact ⟨by kernel_rfl, of_decide_eq_true (by kernel_rfl)⟩
set_option maxRecDepth 100000 in
theorem contract (H : Type) (enc : TypeId × Value → H) (W : World) (base : Nat) (args : Array Value) (ds gs : List (DataW H)) (before : List MemPlace)
    (hval : ∀ (j : Nat) t v, Tryz.f5.params[j]? = some t → args[j]? = some v → Value.okWide Tryz.prog W .any base t v)
    (hW : DataW.Whole enc Tryz.prog Tryz.f5.params.toList Rows.heapLoadsSpec.vars false W args.toList ds gs before) (hL : laidMetH Tryz.prog Rows.heapLoadsRow.laid W)
    (hsz : (DataW.weightsEach Tryz.prog Tryz.f5.params.toList ds).all (· ≤ reachBytes) = true) :
    Calls Tryz.prog 5 args W fun e W' => ∃ v, e = .returned v ∧ Rows.heapLoadsSpec.post enc Tryz.prog Tryz.f5 false true false false W args v W' := by
  have hW' := hW
  obtain ⟨p, q, hA0, hV, rfl, hfz, hnd⟩ := hW
  have hA : DataW.TrodAll enc Tryz.prog W 0 (fun _ => true) true Tryz.f5.params.toList args.toList ds p := hA0
  rw [Tryz.params5] at hA hval hsz
  obtain ⟨v0, vs0, d0, ds0, p0, q0, hargs, rfl, rfl, h0, r0⟩ := trodAll_cons hA
  obtain ⟨v1, vs1, d1, ds1, p1, q1, rfl, rfl, rfl, h1, r1⟩ := trodAll_cons r0
  obtain ⟨v2, vs2, d2, ds2, p2, q2, rfl, rfl, rfl, h2, r2⟩ := trodAll_cons r1
  obtain ⟨v3, vs3, d3, ds3, p3, q3, rfl, rfl, rfl, h3, r3⟩ := trodAll_cons r2
  obtain ⟨v4, vs4, d4, ds4, p4, q4, rfl, rfl, rfl, h4, r4⟩ := trodAll_cons r3
  obtain ⟨rfl, rfl, rfl⟩ := trodAll_nil r4
  obtain rfl : args = #[v0, v1, v2, v3, v4] := by cases args; simp_all
  have E : Env W := env_of_met (show laidMet Tryz.prog Rows.heapLoadsRow.laid W from hL) (by simp [Rows.heapLoadsRow]) (by simp [Rows.heapLoadsRow])
  have call : Calls Tryz.prog 5 #[v0, v1, v2, v3, v4] W (Told (.bool true) W) := by
    obtain ⟨n0, rfl, -, -, w0⟩ := open_int Tryz.underlying3 (hval 0 3 v0 rfl rfl) h0
    obtain ⟨A1, nd1, c1, l1, rfl, hnd1, hl1, hds1, hq1⟩ := open_deeds2 (okWide_slice Tryz.underlying22 (hval 1 22 v1 rfl rfl)) h1 140737488351232 (weights_le hsz 1 (t := 22) rfl rfl)
    have hk1 : ∀ d ∈ l1, d.Ok2 := fun d hd => ⟨(hq1 d hd).1, by have := (hq1 d hd).2; omega⟩
    obtain ⟨A2, nd2, c2, l2, rfl, hnd2, hr2, hb2, hq2⟩ := open_u32s (okWide_slice Tryz.underlying42 (hval 2 42 v2 rfl rfl)) h2
    have hlen2 := len_reach hsz 2 (t := 42) rfl rfl Tryz.underlying42 bytesU32 hq2
    obtain ⟨A3, nd3, c3, l3, rfl, hnd3, hr3, hb3, hq3⟩ := open_oops (okWide_slice Tryz.underlying43 (hval 3 43 v3 rfl rfl)) h3
    have hlen3 := len_reach hsz 3 (t := 43) rfl rfl Tryz.underlying43 bytesOop hq3
    obtain ⟨z4, rfl, -, -, w4⟩ := open_int Tryz.underlying29 (hval 4 29 v4 rfl rfl) h4
    obtain ⟨n4, rfl, b4⟩ := nat_of_wf rfl w4
    have hb4 : n4 < 4294967296 := by have : IntKind.u32.max = 4294967295 := rfl; omega
    exact loadsL_any W E n0 A1 nd1 c1 l1 hnd1 hl1 hds1 hk1 A2 nd2 c2 l2 hnd2 hr2 hb2 hlen2 A3 nd3 c3 l3 hnd3 hr3 hb3 hlen3 n4 hb4
  refine call.mono fun e W' ⟨he, hb⟩ => ?_
  subst he
  exact ⟨_, rfl, law_post laidOut params_ok rfl (by kernel_rfl) Tryz.underlying4 hW' ⟨rfl, rfl, rfl⟩ hb⟩

theorem laid_met (os : Os) : laidMet Tryz.prog Rows.heapLoadsRow.laid ((laidWorld os).forCall (fun _ _ => 0) ⟨#[], #[.int .i64 0, .slice none 0 0, .slice none 0 0, .slice none 0 0, .int .u32 0], []⟩).memory :=
  laidMet_of_run' 8 (by kernel_rfl) (by kernel_rfl)
theorem reads (os : Os) {H : Type} (enc : TypeId × Value → H) : ∃ places, DataW.whole enc Tryz.prog ((laidWorld os).forCall (fun _ _ => 0) ⟨#[], #[.int .i64 0, .slice none 0 0, .slice none 0 0, .slice none 0 0, .int .u32 0], []⟩).memory Tryz.f5.params.toList Rows.heapLoadsSpec.vars false (#[.int .i64 0, .slice none 0 0, .slice none 0 0, .slice none 0 0, .int .u32 0] : Array Value).toList 8 = some ([.lit (.int .i64 0), .nil, .nil, .nil, .lit (.int .u32 0)], [], places) :=
  ⟨[], by kernel_rfl⟩
set_option maxRecDepth 100000 in
theorem lifted (os : Os) (started : os.Started) (H : Type) (enc : TypeId × Value → H) (F : Stop.Interp) :
    ReturnsInHanded {} Tryz.checked os 5 .any ((OpenSpec.ofChange Rows.heapLoadsSpec).preRow enc Tryz.prog Tryz.f5 Rows.heapLoadsRow.domain false Rows.heapLoadsRow.laid) (((OpenSpec.ofChange Rows.heapLoadsSpec).at F).post enc Tryz.prog Tryz.f5 false true false false) := by
  obtain ⟨places, hx⟩ := reads os enc
  refine returnsInHanded_of_row (C := Tryz.checked) (s := OpenSpec.ofChange Rows.heapLoadsSpec) own started (by kernel_rfl) Tryz.func5
    (witness_row_at (enc := enc) (C := Tryz.checked) false (laidWorld os) #[.int .i64 0, .slice none 0 0, .slice none 0 0, .slice none 0 0, .int .u32 0] rfl (by kernel_rfl) (by kernel_rfl) (by kernel_rfl)
      (OpenSpec.preRow_of_cond 8 hx (by kernel_rfl) (fun k hk => by cases hk) (by kernel_rfl) (laid_met os))) ?_
  intro W base args ds gs before hval hW _ _ hsz hL _ _
  have hg : gs = [] := by
    obtain ⟨_, q, _, hV, _⟩ := hW
    cases gs with
    | nil => rfl
    | cons g r => exact hV.elim
  subst hg
  rw [List.append_nil] at hsz
  exact contract H enc W base args ds [] before hval hW hL hsz

theorem said : Rows.HeapLoadsSaid :=
  OpenClaim.holds_of_cond 5 Tryz.f5 rfl rfl rfl rfl rfl rfl rfl ⟨rfl, rfl, rfl, rfl, rfl⟩ rfl rfl rfl rfl rfl (by kernel_rfl) Tryz.func5 (by kernel_rfl)
    (of_decide_eq_true (by kernel_rfl)) (by unfold Func.isWrapper; first | (rw [if_pos (by decide +kernel)]; kernel_rfl) | (rw [if_neg (by decide +kernel)]; exact ⟨rfl, rfl⟩))
    (fun os started H enc _ F => by rw [OpenClaim.pre_eq_preRow]; exact lifted os started H enc F)

set_option maxRecDepth 100000 in
theorem plain (f : FuncId) (fn : Func) (hf : Tryz.pinned.checked.prog.funcNamed "effigy/effigylaw02.HeapLoads" = some f) (hfn : Tryz.pinned.checked.prog.funcs[f]? = some fn) :
    false = Tryz.pinned.checked.prog.looks [] ∧ ∀ (j : Nat) t, fn.params[j]? = some t → Tryz.pinned.checked.prog.wantsStandIn t = false := by
  obtain rfl : f = 5 := Option.some.inj ((show Tryz.prog.funcNamed "effigy/effigylaw02.HeapLoads" = some 5 by kernel_rfl).symm.trans hf) |>.symm
  obtain rfl : fn = Tryz.f5 := (Option.some.inj (Tryz.func5.symm.trans hfn)).symm
  refine ⟨by kernel_rfl, fun j t ht => ?_⟩
  rw [Tryz.params5] at ht
  have hm := Array.mem_of_getElem? ht
  simp at hm
  rcases hm with rfl | rfl | rfl | rfl | rfl
  all_goals first | exact (show Tryz.prog.wantsStandIn 3 = false by kernel_rfl) | exact (show Tryz.prog.wantsStandIn 22 = false by kernel_rfl) | exact (show Tryz.prog.wantsStandIn 42 = false by kernel_rfl) | exact (show Tryz.prog.wantsStandIn 43 = false by kernel_rfl) | exact (show Tryz.prog.wantsStandIn 29 = false by kernel_rfl)
end heapLoadsCard

theorem heapLoads_card : Rows.HeapLoadsCardSaid :=
  Claim7.holds_tied_plain_at .later [] _ _ _ _ heapLoadsCard.said (fun _ h => by cases h) (by kernel_rfl) (fun _ h => by cases h) heapLoads_row_tie rfl ⟨rfl, rfl⟩ (by kernel_rfl) rfl heapLoadsCard.plain (by kernel_rfl)
#print axioms heapLoads_card
end Go.Proofs.YtkpjkbkglnabiaaGreatDoor
