import Derived.Test.YtlkahgagmfhdaaaGreatDoorQMem
import Derived.Laws.CopyOwn
import Derived.Deep.RegionLaw
set_option linter.unusedVariables false
namespace Go.Proofs.YtlkahgagmfhdaaaGreatDoor
section
open Go.RowKit
end
end Go.Proofs.YtlkahgagmfhdaaaGreatDoor
