import Derived.Test.YtlkahgagmfhdaaaGreatDoorJAll
import Derived.Test.YtlkahgagmfhdaaaGreatDoorJMake
import Derived.Test.YtlkahgagmfhdaaaGreatDoorJMapOk
import Derived.Lib.QuietBelow
import Derived.ScopeJumps
set_option linter.unusedVariables false
set_option linter.unusedSimpArgs false
set_option linter.unusedSectionVars false
namespace Go.Proofs.YtlkahgagmfhdaaaGreatDoor
section
open Go.RowKit
section
variable {h : HM} {l : List Ob}
end
end
section
open Go.RowKit
attribute [local go_sem] Oper.semAt_some
section
variable {w w' : World} {B gt bm : Nat} {v v' : Value} {l : Wk}
end
theorem own_keep {w w' : World} {B s n : Nat} {e : TypeId} {v : Value} {xs : List Value} (h : w.ownsRow B e s v n xs) (hs : ∀ k, v.ownBlock = some k → w'.heap[k]? = w.heap[k]?) : w'.ownsRow B e s v n xs := by
 refine ⟨h.1, ?_⟩
 rcases h.2 with h1 | ⟨g, cap, cur, h1, h2, h3, h4⟩
 ·exact .inl h1
 ·exact .inr ⟨g, cap, cur, h1, h2, (hs g (by rw [h1]; rfl)).trans h3, h4⟩
end
section
open Go.RowKit
attribute [local go_sem] Oper.semAt_some
section
variable {w : World} {p : HP} {h : HM} {l : List Ob}
end
end
end Go.Proofs.YtlkahgagmfhdaaaGreatDoor
