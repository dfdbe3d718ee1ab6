import Derived.Test.YtlkahgagmfhdaaaGreatDoorJMem
import Derived.Test.YtlkahgagmfhdaaaGreatDoorSoLen
import Derived.Sort.WalkA14
import Derived.Sort.Walk7a
import Derived.Lib.BitFns
set_option linter.unusedVariables false
set_option linter.unusedSimpArgs false
namespace Go.Proofs.YtlkahgagmfhdaaaGreatDoor
section
open Go.RowKit Go.Sort Go.Proofs
end
end Go.Proofs.YtlkahgagmfhdaaaGreatDoor
