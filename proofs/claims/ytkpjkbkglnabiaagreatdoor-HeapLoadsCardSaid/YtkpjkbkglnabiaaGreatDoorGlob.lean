/- The package-level tables are where the heaps are not. -/
import Derived.Test.YtkpjkbkglnabiaaGreatDoorNew
set_option linter.unusedVariables false
namespace Go.Proofs.YtkpjkbkglnabiaaGreatDoor
open Go.RowKit

/-- A heap's blocks are none of the tables'. -/
def Far (p : HP) : Prop := ∀ k, p.has k → k ≠ 0 ∧ k ≠ 1
theorem Step.spares {p p' : HP} {w w' : World} (s : Step p p' w w') (hp : Far p) (hs : Spares w) : Spares w' := fun i hi => by
  have hlt := World.block_lt_of_cell? _ _ (hs i hi)
  rw [← hs i hi]
  exact World.cell?_of_block (s.block _ hlt (fun hh => (hp _ hh).1 rfl))
theorem Spares.lt {w : World} (hs : Spares w) : 0 < w.heap.size := World.block_lt_of_cell? _ _ (hs 0 (by omega))
theorem Spares.drewN {w : World} (hs : Spares w) (n : Nat) : Spares (w.drewN n) := hs
end Go.Proofs.YtkpjkbkglnabiaaGreatDoor
