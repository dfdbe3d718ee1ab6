/- Show of the program's heap. -/
import Derived.Test.YtlkahgagmfhdaaaGreatDoorJText
import Derived.Test.YtlkahgagmfhdaaaGreatDoorTail
import Derived.Test.YtlkahgagmfhdaaaGreatDoorJLook
import Derived.Deep.LoopGhost
set_option linter.unusedVariables false
namespace Go.Proofs.YtlkahgagmfhdaaaGreatDoor
open Go.RowKit Go.Sort Go.Lib
end Go.Proofs.YtlkahgagmfhdaaaGreatDoor
