import Derived.Test.YthadjmhipckelaaGreatDoorJText
import Derived.Test.YthadjmhipckelaaGreatDoorTail
import Derived.Test.YthadjmhipckelaaGreatDoorJLook
import Derived.Deep.LoopGhost
set_option linter.unusedVariables false
namespace Go.Proofs.YthadjmhipckelaaGreatDoor
section
open Go.RowKit Go.Sort Go.Lib
end
end Go.Proofs.YthadjmhipckelaaGreatDoor
