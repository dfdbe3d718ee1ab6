import Derived.Test.YthadjmhipckelaaGreatDoorJIOld
import Derived.Test.YthadjmhipckelaaGreatDoorJRefG
set_option linter.unusedVariables false
set_option linter.unusedSimpArgs false
namespace Go.Proofs.YthadjmhipckelaaGreatDoor
section
open Go.RowKit
attribute [local go_sem] Oper.semAt_some
def RSavedP (bs : List Nat) (w : World) (e : Ending) (w' : World) : Prop :=
 ∃ v, e = .returned v ∧ w'.ownsRow w.heap.size 5 1 v bs.length (u8c bs) ∧ Below w.heap.size w w'
end
end Go.Proofs.YthadjmhipckelaaGreatDoor
