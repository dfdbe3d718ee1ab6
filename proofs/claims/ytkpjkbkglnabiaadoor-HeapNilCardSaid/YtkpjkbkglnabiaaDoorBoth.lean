/- both: a heap of the program and one of the document, of the same size. -/
import Derived.Test.YtkpjkbkglnabiaaDoorNew
import Derived.Test.YtkpjkbkglnabiaaDoorAwake
set_option linter.unusedVariables false
namespace Go.Proofs.YtkpjkbkglnabiaaDoor
open Go.RowKit
attribute [local go_sem] Oper.semAt_some
/-- Two new heaps, the same inside. -/
def BothP (n : Nat) (w : World) (d : Ending) (w' : World) : Prop :=
  ∃ p q : HP, d = .returned (.tuple #[ptr p.g, ptr q.g, .bool true]) ∧ HAt w' p (HM.new n) ∧ RAt w' q (HM.new n) ∧ (∀ k, p.has k → w.heap.size ≤ k) ∧ (∀ k, q.has k → w.heap.size ≤ k ∧ ¬ p.has k) ∧ Below w.heap.size w w'
set_option maxHeartbeats 1000000 in
theorem both_any (n : Nat) (h1 : 64 ≤ n) (h2 : n ≤ 1048576) (w : World) : Calls Tryd.prog 45 #[.int .i64 n] w (BothP n w) := by
  have HN := Lib.hid (new_any n h1 h2 w)
  have HRN := Lib.hid (fun w' => rnew_any n h1 h2 w')
  have HNU := Lib.hid (fun w' => num_any 0 (by decide) w')
  go_enter Tryd.func45, Tryd.ntmps45
  go_wp2_with fail
  refine HN.out.mono ?_
  rintro e w1 ⟨p, rfl, H1, hp1, hb1⟩
  have HH := Lib.hid H1
  have HP1 := Lib.hid hp1
  have HB1 := Lib.hid hb1
  clear H1 hp1 hb1
  unfold ptr
  go_wp2_with fail
  refine (HRN.out _).mono ?_
  rintro e w2 ⟨q, rfl, R2, hq2, hb2⟩
  have HR := Lib.hid R2
  have HQ2 := Lib.hid hq2
  have HB2 := Lib.hid hb2
  clear R2 hq2 hb2
  unfold ptr
  go_wp2_with fail
  refine (HNU.out _).mono ?_
  rintro e w3 ⟨rfl, rfl⟩
  go_wp2_with fail
  go_ret3
  exact ⟨p, q, rfl, HH.out.below HB2.out, HR.out, HP1.out, fun k hk => ⟨Nat.le_trans HB1.out.size (HQ2.out k hk), fun hh => by have := HQ2.out k hk; have := HH.out.lt hh; omega⟩, below_top HB1.out HB2.out⟩
end Go.Proofs.YtkpjkbkglnabiaaDoor
