import Derived.Test.YtdoahpflemgaeaaGreatDoorJText
import Derived.Test.YtdoahpflemgaeaaGreatDoorTail
import Derived.Test.YtdoahpflemgaeaaGreatDoorJLook
import Derived.Deep.LoopGhost
set_option linter.unusedVariables false
namespace Go.Proofs.YtdoahpflemgaeaaGreatDoor
section
open Go.RowKit Go.Sort Go.Lib
end
end Go.Proofs.YtdoahpflemgaeaaGreatDoor
