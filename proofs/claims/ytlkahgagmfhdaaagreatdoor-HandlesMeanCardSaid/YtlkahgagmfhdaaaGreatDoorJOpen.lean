/- Opening slice arguments: nil and others alike, as 'Reads'. -/
import Derived.Test.YtlkahgagmfhdaaaGreatDoorJBase
import Derived.Test.YtlkahgagmfhdaaaGreatDoorRowKit

namespace Go.Proofs.YtlkahgagmfhdaaaGreatDoor
open Go.RowKit Go.WideShapes Go.ChangeShapes Go.ChangeAt

section
variable {H : Type} {enc : TypeId × Value → H} {P : Program} {w : World} {base : Nat} {spare : Nat → Bool} {held : Bool}
end
end Go.Proofs.YtlkahgagmfhdaaaGreatDoor
