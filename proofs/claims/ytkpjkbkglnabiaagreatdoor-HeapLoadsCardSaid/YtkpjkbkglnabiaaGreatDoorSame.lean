/- heap.Same. -/
import Derived.Test.YtkpjkbkglnabiaaGreatDoorEqual
import Derived.Test.YtkpjkbkglnabiaaGreatDoorOop
import Derived.Deep.QuietTactic
import Derived.BigQuiet
set_option linter.unusedVariables false
namespace Go.Proofs.YtkpjkbkglnabiaaGreatDoor
open Go.RowKit

def sameH (a b : HM) : Bool := decide (a.size = b.size) && decide (a.last = b.last) && sameL a.words b.words && sameL a.roots b.roots
theorem sameH_self (a : HM) : sameH a a = true := by simp [sameH, sameL_self]

set_option maxRecDepth 100000 in
set_option maxHeartbeats 2000000 in
theorem Same_any {w : World} {p q : HP} {a b : HM} (Ha : HAt w p a) (Hb : HAt w q b) (fa : a.Fit) (fb : b.Fit) :
    Calls Tryz.prog 13 #[ptr p.g, ptr q.g] w fun e w' => e = .returned (.bool (sameH a b)) ∧ ∃ m, w' = w.drewN m := by
  have hm := Lib.hid (made_any Ha (by have := fa.lo; omega) fa.hi)
  have hm' := Lib.hid (made_any Hb (by have := fb.lo; omega) fb.hi)
  have c0 := Ha.c0
  have c2 := Ha.c2
  have c3 := Ha.c3
  have c4 := Ha.c4
  have k0 := Hb.c0
  have k2 := Hb.c2
  have k3 := Hb.c3
  have k4 := Hb.c4
  have r1 := fa.room
  have r2 := fa.hi
  have r3 := fb.room
  have r4 := fb.hi
  have e1 := fa.roots
  have e2 := fb.roots
  have R1 := Ha.2.1.reads Ha.2.1.lt
  have R2 := Hb.2.1.reads Hb.2.1.lt
  have R3 := Ha.2.2.2.reads Ha.2.2.2.lt
  have R4 := Hb.2.2.2.reads Hb.2.2.2.lt
  rw [u32s_len] at R1 R2 R3 R4
  have HQ1 := Lib.hid (fun n => equal_u32 _ _ _ _ p.cw q.cw a.words b.words (w.drewN n) (by omega) (by omega) (R1.drewN n) (R2.drewN n))
  have HQ2 := Lib.hid (fun n => equal_oop _ _ _ _ p.cr q.cr a.roots b.roots (w.drewN n) (by omega) (by omega) (R3.drewN n) (R4.drewN n))
  have HF := Lib.hid (show sameH a b = (decide (a.size = b.size) && decide (a.last = b.last) && sameL a.words b.words && sameL a.roots b.roots) from rfl)
  clear Ha Hb fa fb R1 R2 R3 R4 e1 e2
  unfold ptr at hm hm' ⊢
  generalize sameL a.roots b.roots = y at *
  by_cases h1 : a.size = b.size
  · have v1 : ((a.size : Int) == (b.size : Int)) = true := by simp [h1]
    by_cases h2 : a.last = b.last
    · have v2 : ((a.last : Int) == (b.last : Int)) = true := by simp [h2]
      rw [decide_eq_true h1, decide_eq_true h2, Bool.true_and, Bool.true_and] at HF
      clear h1 h2
      cases h3 : sameL a.words b.words
      · rw [h3] at HF HQ1
        clear h3
        go_enter Tryz.func13, Tryz.ntmps13
        go_wp2_with fail
        refine hm.out.mono ?_
        rintro e w' ⟨rfl, rfl⟩
        go_wp2_with fail
        refine hm'.out.mono ?_
        rintro e w' ⟨rfl, rfl⟩
        go_wp2_with fail
        go_quiet ((go_at_call 56; exact Calls.quiet_of (HQ1.out _)))
        all_goals go_wp2_with fail
        all_goals go_ret
        all_goals exact ⟨by rw [HF.out]; rfl, _, rfl⟩
      · rw [h3] at HF HQ1
        clear h3
        go_enter Tryz.func13, Tryz.ntmps13
        go_wp2_with fail
        refine hm.out.mono ?_
        rintro e w' ⟨rfl, rfl⟩
        go_wp2_with fail
        refine hm'.out.mono ?_
        rintro e w' ⟨rfl, rfl⟩
        go_wp2_with fail
        go_quiet (first | (go_at_call 56; exact Calls.quiet_of (HQ1.out _)) | (go_at_call 57; exact Calls.quiet_of (HQ2.out _)))
        all_goals go_wp2_with fail
        all_goals go_ret
        all_goals exact ⟨by rw [HF.out]; rfl, _, rfl⟩
    · have v2 : ((a.last : Int) == (b.last : Int)) = false := by simp; omega
      rw [decide_eq_true h1, decide_eq_false h2, Bool.true_and, Bool.false_and, Bool.false_and] at HF
      clear h1 h2
      go_enter Tryz.func13, Tryz.ntmps13
      go_wp2_with fail
      refine hm.out.mono ?_
      rintro e w' ⟨rfl, rfl⟩
      go_wp2_with fail
      refine hm'.out.mono ?_
      rintro e w' ⟨rfl, rfl⟩
      go_wp2_with fail
      go_quiet (fail)
      all_goals go_wp2_with fail
      all_goals go_ret
      all_goals exact ⟨by rw [HF.out]; rfl, _, rfl⟩
  · have v1 : ((a.size : Int) == (b.size : Int)) = false := by simp; omega
    rw [decide_eq_false h1, Bool.false_and, Bool.false_and, Bool.false_and] at HF
    clear h1
    go_enter Tryz.func13, Tryz.ntmps13
    go_wp2_with fail
    refine hm.out.mono ?_
    rintro e w' ⟨rfl, rfl⟩
    go_wp2_with fail
    refine hm'.out.mono ?_
    rintro e w' ⟨rfl, rfl⟩
    go_wp2_with fail
    go_quiet (fail)
    all_goals go_wp2_with fail
    all_goals go_ret
    all_goals exact ⟨by rw [HF.out]; rfl, _, rfl⟩
end Go.Proofs.YtkpjkbkglnabiaaGreatDoor
