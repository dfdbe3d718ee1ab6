import Derived.Test.YtlkahgagmfhdaaaGreatDoorQBase
import Derived.Test.YtlkahgagmfhdaaaGreatDoorRowKit

namespace Go.Proofs.YtlkahgagmfhdaaaGreatDoor
section
open Go.RowKit Go.WideShapes Go.ChangeShapes Go.ChangeAt
section
variable {H:Type} {enc:TypeId × Value→H} {P:Program} {w:World} {base:Nat} {spare:Nat→Bool} {held:Bool}
end
end
end Go.Proofs.YtlkahgagmfhdaaaGreatDoor
