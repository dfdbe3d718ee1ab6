import Derived.Test.YtlkahgagmfhdaaaGreatDoorJMapIs
import Derived.Maps.OwnSet
set_option linter.unusedVariables false
set_option linter.unusedSectionVars false
namespace Go.Proofs.YtlkahgagmfhdaaaGreatDoor
section
open Go.RowKit Go.Maps
section
variable {T K : TypeId} {w w' : World} {b n : Nat} {f : Nat → Nat} {hs : Nat → Bool}
end
end
section
open Go.RowKit Go.Maps
section
variable {T K E : TypeId} {kd : IntKind} {w w' : World} {b n : Nat} {f : Nat → Int} {hs : Nat → Bool}
end
end
end Go.Proofs.YtlkahgagmfhdaaaGreatDoor
