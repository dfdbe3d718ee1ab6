import Derived.Test.YtlkahgagmfhdaaaGreatDoorQText
import Derived.Test.YtlkahgagmfhdaaaGreatDoorTail
import Derived.Test.YtlkahgagmfhdaaaGreatDoorQLook
import Derived.Deep.LoopGhost
set_option linter.unusedVariables false
namespace Go.Proofs.YtlkahgagmfhdaaaGreatDoor
section
open Go.RowKit Go.Sort Go.Lib
end
end Go.Proofs.YtlkahgagmfhdaaaGreatDoor
