import Derived.Test.YtlkahgagmfhdaaaGreatDoorQHdO
import Derived.Test.YtlkahgagmfhdaaaGreatDoorQKRCol
set_option linter.unusedVariables false
set_option linter.unusedSimpArgs false
namespace Go.Proofs.YtlkahgagmfhdaaaGreatDoor
section
open Go.RowKit
section
variable {t:TM} {h:HM} {l:List Ob}
end
end
end Go.Proofs.YtlkahgagmfhdaaaGreatDoor
