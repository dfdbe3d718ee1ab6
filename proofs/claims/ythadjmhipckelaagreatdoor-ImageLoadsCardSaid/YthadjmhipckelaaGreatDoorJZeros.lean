import Derived.Test.YthadjmhipckelaaGreatDoorJMem
import Derived.Lib.AppendZerosOnto
set_option linter.unusedVariables false
namespace Go.Proofs.YthadjmhipckelaaGreatDoor
section
open Go.RowKit
end
end Go.Proofs.YthadjmhipckelaaGreatDoor
