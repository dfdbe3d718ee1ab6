/- heap.New and the document's New. -/
import Derived.Test.YtkpjkbkglnabiaaGreatDoorClone
set_option linter.unusedVariables false
namespace Go.Proofs.YtkpjkbkglnabiaaGreatDoor
open Go.RowKit

def HM.new (size : Nat) : HM := ⟨size, [0], [false], List.replicate 64 0, 0⟩
theorem HM.new_fit {n : Nat} (h1 : 64 ≤ n) (h2 : n ≤ 1048576) : (HM.new n).Fit :=
  ⟨h1, h2, by simp [HM.new], by simp [HM.new]; omega, rfl, by simp [HM.new], by simp [HM.new], by
    intro x hx
    have := List.eq_of_mem_replicate hx
    omega, by simp [HM.new]⟩
def zeros64 : Array Value := Array.replicate 64 (.int .u32 0)
theorem mk64 (w : World) : (Instr.makeSlice 43 (.int .i64 64) (.int .i64 64)).run Tryz.prog w = .ok (.slice (some ⟨w.heap.size, 0, none⟩) 64 64) (w.alloc (.cells zeros64 30)) := by kernel_rfl
theorem zeros_row (w : World) : Row (w.alloc (.cells zeros64 30)) w.heap.size 30 64 (u32s (List.replicate 64 0)) :=
  ⟨zeros64, Blk.new w _ _, by simp [u32s], by decide, by simp [zeros64], by simp [zeros64, u32s]⟩

/-- A heap of that size, all of it new. -/
def NewHeap (At : World → HP → HM → Prop) (v : Nat → Value) (h : HM) (w : World) (d : Ending) (w' : World) : Prop :=
  ∃ p, d = .returned (v p.g) ∧ At w' p h ∧ (∀ k, p.has k → w.heap.size ≤ k) ∧ Below w.heap.size w w'

set_option maxHeartbeats 1000000 in
theorem new_any (n : Nat) (h1 : 64 ≤ n) (h2 : n ≤ 1048576) (w : World) :
    Calls Tryz.prog 21 #[.int .i64 n] w (NewHeap HAt (fun g => .tuple #[ptr g, .int .i64 0]) (HM.new n) w) := by
  have hmk := mk64
  have hd1 : decide ((n : Int) < 64) = false := by simp; omega
  have hd2 : decide ((n : Int) > 1048576) = false := by simp; omega
  go_enter Tryz.func21, Tryz.ntmps21
  go_wp2_with fail
  go_ret2
  refine ⟨⟨w.heap.size + 1 + 1 + 1, w.heap.size, 1, w.heap.size + 1, 1, w.heap.size + 1 + 1, 64⟩, by simp [ptr], ?_, ?_, ?_⟩
  · refine ⟨?_, ?_, ?_, ?_⟩
    · have := Blk.new (((w.alloc (.cells #[.int .u32 0] 29)).alloc (.cells #[.bool false] 4)).alloc (.cells zeros64 30)) 91 #[.slice (some ⟨w.heap.size, 0, none⟩) 1 1, .slice (some ⟨w.heap.size + 1, 0, none⟩) 1 1, .slice (some ⟨w.heap.size + 1 + 1, 0, none⟩) 64 64, .int .i64 n, .int .u32 0]
      simp only [World.size_alloc] at this
      exact this
    · have : Row (w.alloc (.cells #[.int .u32 0] 29)) w.heap.size 29 1 (u32s [0]) := ⟨_, Blk.new w _ _, by simp [u32s], by decide, rfl, rfl⟩
      exact ((this.alloc _).alloc _).alloc _
    · have : Row ((w.alloc (.cells #[.int .u32 0] 29)).alloc (.cells #[.bool false] 4)) (w.alloc (.cells #[.int .u32 0] 29)).heap.size 4 1 (bools [false]) := ⟨_, Blk.new _ _ _, by simp [bools], by decide, rfl, rfl⟩
      rw [World.size_alloc] at this
      exact (this.alloc _).alloc _
    · have := zeros_row ((w.alloc (.cells #[.int .u32 0] 29)).alloc (.cells #[.bool false] 4))
      rw [World.size_alloc, World.size_alloc] at this
      exact this.alloc _
  · rintro k (rfl | rfl | rfl | rfl) <;> simp <;> omega
  · exact ((((Below.refl _ _).alloc (Nat.le_refl _) _).alloc (by simp) _).alloc (by simp; omega) _).alloc (by simp; omega) _

theorem new_bad (n : Int) (h : n < 64 ∨ 1048576 < n) (w : World) :
    Calls Tryz.prog 21 #[.int .i64 n] w fun e w' => e = .returned (.tuple #[.pointer none, .int .i64 1]) ∧ w = w' := by
  by_cases h0 : n < 64
  · have hd1 : decide (n < 64) = true := by simpa using h0
    go_enter Tryz.func21, Tryz.ntmps21
    go_wp2_with fail
    go_ret2
    exact ⟨by simp, rfl⟩
  · have hd1 : decide (n < 64) = false := by simpa using h0
    have hd2 : 1048576 < n := by omega
    clear h h0
    go_enter Tryz.func21, Tryz.ntmps21
    go_wp2_with fail
    go_ret2
    exact ⟨by simp, rfl⟩

set_option maxHeartbeats 1000000 in
theorem rnew_any (n : Nat) (h1 : 64 ≤ n) (h2 : n ≤ 1048576) (w : World) :
    Calls Tryz.prog 22 #[.int .i64 n] w (NewHeap RAt ptr (HM.new n) w) := by
  have hmk := mk64
  have hd1 : decide ((n : Int) < 64) = false := by simp; omega
  have hd2 : decide ((n : Int) > 1048576) = false := by simp; omega
  go_enter Tryz.func22, Tryz.ntmps22
  go_wp2_with fail
  go_ret
  refine ⟨⟨w.heap.size + 1 + 1 + 1, w.heap.size, 1, w.heap.size + 1 + 1, 1, w.heap.size + 1, 64⟩, by simp [ptr], ?_, ?_, ?_⟩
  · refine ⟨?_, ?_, ?_, ?_⟩
    · have := Blk.new (((w.alloc (.cells #[.int .u32 0] 29)).alloc (.cells zeros64 30)).alloc (.cells #[.int .u8 0] 5)) 93 #[.int .i64 n, .slice (some ⟨w.heap.size, 0, none⟩) 1 1, .slice (some ⟨w.heap.size + 1, 0, none⟩) 64 64, .int .u32 0, .slice (some ⟨w.heap.size + 1 + 1, 0, none⟩) 1 1]
      simp only [World.size_alloc] at this
      exact this
    · have : Row (w.alloc (.cells #[.int .u32 0] 29)) w.heap.size 29 1 (u32s [0]) := ⟨_, Blk.new w _ _, by simp [u32s], by decide, rfl, rfl⟩
      exact ((this.alloc _).alloc _).alloc _
    · have : Row (((w.alloc (.cells #[.int .u32 0] 29)).alloc (.cells zeros64 30)).alloc (.cells #[.int .u8 0] 5)) ((w.alloc (.cells #[.int .u32 0] 29)).alloc (.cells zeros64 30)).heap.size 5 1 (begins [false]) := ⟨_, Blk.new _ _ _, by simp [begins], by decide, rfl, rfl⟩
      rw [World.size_alloc, World.size_alloc] at this
      exact this.alloc _
    · have := zeros_row (w.alloc (.cells #[.int .u32 0] 29))
      rw [World.size_alloc] at this
      exact (this.alloc _).alloc _
  · rintro k (rfl | rfl | rfl | rfl) <;> simp <;> omega
  · exact ((((Below.refl _ _).alloc (Nat.le_refl _) _).alloc (by simp) _).alloc (by simp; omega) _).alloc (by simp; omega) _

theorem rnew_bad (n : Int) (h : n < 64 ∨ 1048576 < n) (w : World) :
    Calls Tryz.prog 22 #[.int .i64 n] w fun e w' => e = .returned (.pointer none) ∧ w = w' := by
  by_cases h0 : n < 64
  · have hd1 : decide (n < 64) = true := by simpa using h0
    go_enter Tryz.func22, Tryz.ntmps22
    go_wp2_with fail
    go_ret
    exact ⟨by simp, rfl⟩
  · have hd1 : decide (n < 64) = false := by simpa using h0
    have hd2 : 1048576 < n := by omega
    clear h h0
    go_enter Tryz.func22, Tryz.ntmps22
    go_wp2_with fail
    go_ret
    exact ⟨by simp, rfl⟩
end Go.Proofs.YtkpjkbkglnabiaaGreatDoor
