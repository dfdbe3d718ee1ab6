/- awake: chapter 2's first two examples hold. -/
/- both: a heap of the program and one of the document, of the same size. -/
import Derived.Test.YtlkahgagmfhdaaaGreatDoorJLive
import Derived.Test.YtlkahgagmfhdaaaGreatDoorJClone
import Derived.Lib.SlBytesConst
set_option linter.unusedVariables false
set_option linter.unusedSectionVars false
namespace Go.Proofs.YtlkahgagmfhdaaaGreatDoor
open Go.RowKit

def hello : List Nat := [104, 101, 108, 108, 111]
def aw0 : HM := HM.new 64
def aw1 : HM := aw0.AllocH 0 1 2
def aw2 : HM := aw1.makeH 2 hello
def aw3 : HM := aw2.setRootH 0 12
def aw4 : HM := aw3.AllocH 2 4 1
theorem aw_f1 : aw0.AllocO 0 1 2 = 2 ∧ aw0.AllocE 0 1 2 = 0 := by decide +kernel
theorem aw_f2 : aw1.makeO 2 hello = 12 ∧ aw1.makeE 2 hello = 0 := by decide +kernel
theorem aw_f3 : aw2.setRootE 0 12 = 0 := by decide +kernel
theorem aw_f4 : aw3.AllocO 2 4 1 = 22 ∧ aw3.AllocE 2 4 1 = 0 := by decide +kernel
theorem aw_f5 : aw4.readN 22 0 [1, 4] = 12 ∧ aw4.lookE 22 0 [1, 4] = 0 := by decide +kernel
def awT : List UInt8 := [64, 54, 32, 35, 50, 32, 98, 121, 116, 101, 115, 32, 53, 32, 99, 108, 97, 115, 115, 32, 64, 49, 58, 32, 49, 48, 52, 32, 49, 48, 49, 32, 49, 48, 56, 32, 49, 48, 56, 32, 49, 49, 49]
theorem aw_f6 : aw4.showS 12 = awT ∧ aw4.isE 12 = 0 := by decide +kernel
theorem aw_f7 : aw4.putE 2 0 14 = 3 := by decide +kernel
theorem hello_lt : ∀ x ∈ hello, x < 256 := by decide

theorem hello_reads (w : World) (t : TypeId) (r : Nat × Nat) : Reads (w.alloc (.cells #[.int .u8 104, .int .u8 101, .int .u8 108, .int .u8 108, .int .u8 111] t r)) (w.alloc (.cells #[.int .u8 104, .int .u8 101, .int .u8 108, .int .u8 108, .int .u8 111] t r)).heap.size 1 (some ⟨w.heap.size, 0, none⟩) 5 (u8c hello) :=
  ⟨rfl, fun _ => ⟨_, rfl, by simp, fun j u hj => by
    rw [WideShapes.add_plain, Nat.zero_add, World.cell?_alloc_mark]
    simpa [u8c, hello] using hj⟩⟩

end Go.Proofs.YtlkahgagmfhdaaaGreatDoor

namespace Go.Proofs.YtlkahgagmfhdaaaGreatDoor
open Go.RowKit
attribute [local go_sem] Oper.semAt_some
/-- Two new heaps, the same inside. -/
def BothP (n : Nat) (w : World) (d : Ending) (w' : World) : Prop :=
  ∃ p q : HP, d = .returned (.tuple #[ptr p.g, ptr q.g, .bool true]) ∧ HAt w' p (HM.new n) ∧ RAt w' q (HM.new n) ∧ (∀ k, p.has k → w.heap.size ≤ k) ∧ (∀ k, q.has k → w.heap.size ≤ k ∧ ¬ p.has k) ∧ Below w.heap.size w w'
end Go.Proofs.YtlkahgagmfhdaaaGreatDoor
