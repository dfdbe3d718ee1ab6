import Derived.Test.YtlkahgagmfhdaaaGreatDoorJLive
import Derived.Lib.SlBytesConst
set_option linter.unusedVariables false
namespace Go.Proofs.YtlkahgagmfhdaaaGreatDoor
section
open Go.RowKit
end
end Go.Proofs.YtlkahgagmfhdaaaGreatDoor
