import Derived.Test.YtlkahgagmfhdaaaGreatDoorJSoA
import Derived.Sort.WalkC4
set_option linter.unusedVariables false
set_option linter.unusedSimpArgs false
namespace Go.Proofs.YtlkahgagmfhdaaaGreatDoor
section
open Go.RowKit Go.Sort Go.Proofs
end
end Go.Proofs.YtlkahgagmfhdaaaGreatDoor
