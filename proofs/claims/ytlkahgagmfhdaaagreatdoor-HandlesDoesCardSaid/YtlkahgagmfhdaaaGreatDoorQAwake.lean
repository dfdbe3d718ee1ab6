import Derived.Test.YtlkahgagmfhdaaaGreatDoorQLive
import Derived.Test.YtlkahgagmfhdaaaGreatDoorQClone
import Derived.Lib.SlBytesConst
set_option linter.unusedVariables false
set_option linter.unusedSectionVars false
namespace Go.Proofs.YtlkahgagmfhdaaaGreatDoor
section
open Go.RowKit
end
section
open Go.RowKit
attribute [local go_sem] Oper.semAt_some
end
end Go.Proofs.YtlkahgagmfhdaaaGreatDoor
