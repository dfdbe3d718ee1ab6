import Derived.Test.YthadjmhipckelaaGreatDoorJIApp
import Derived.Test.YthadjmhipckelaaGreatDoorJLook
import Derived.Test.YthadjmhipckelaaGreatDoorJSum
import Derived.Lib.SlBytesConst
set_option linter.unusedVariables false
set_option linter.unusedSimpArgs false
namespace Go.Proofs.YthadjmhipckelaaGreatDoor
section
open Go.RowKit
attribute [local go_sem] Oper.semAt_some
def sumN (zs : List Nat) : Nat := 4294967295 - crc 4294967295 zs
theorem sumN_eq {zs : List Nat} (hz : ∀ x ∈ zs, x < 256) : sumOf zs = (sumN zs : Int) ∧ sumN zs < 4294967296 := by
 have := crc_lt 4294967295 zs (by decide) hz
 unfold sumOf sumN
 omega
theorem own_lessI {w : World} {B B' s m : Nat} {e : TypeId} {v : Value} {xs : List Value} (h : w.ownsRow B e s v m xs) (hB : B' ≤ B) : w.ownsRow B' e s v m xs := by
 refine ⟨h.1, ?_⟩
 rcases h.2 with h1 | ⟨g, cap, cur, h1, h2, h3⟩
 ·exact .inl h1
 ·exact .inr ⟨g, cap, cur, h1, Nat.le_trans hB h2, h3⟩
def SavedP (bs : List Nat) (w : World) (e : Ending) (w' : World) : Prop :=
 ∃ v, e = .returned (.tuple #[v, .int .i64 0]) ∧ w'.ownsRow w.heap.size 5 1 v bs.length (u8c bs) ∧ Below w.heap.size w w'
end
end Go.Proofs.YthadjmhipckelaaGreatDoor
