import Derived.Test.YthadjmhipckelaaGreatDoorJMem
import Derived.Laws.CopyOwn
import Derived.Deep.RegionLaw
set_option linter.unusedVariables false
namespace Go.Proofs.YthadjmhipckelaaGreatDoor
section
open Go.RowKit
end
end Go.Proofs.YthadjmhipckelaaGreatDoor
