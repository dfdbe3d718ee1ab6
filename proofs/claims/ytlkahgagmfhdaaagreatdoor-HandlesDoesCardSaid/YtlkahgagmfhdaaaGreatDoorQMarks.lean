import Derived.Test.YtlkahgagmfhdaaaGreatDoorQAll
import Derived.Test.YtlkahgagmfhdaaaGreatDoorQHdF
import Derived.Test.YtlkahgagmfhdaaaGreatDoorQMake
import Derived.Test.YtlkahgagmfhdaaaGreatDoorQLive
import Derived.Test.YtlkahgagmfhdaaaGreatDoorRound
import Derived.Test.YtlkahgagmfhdaaaGreatDoorQAlloc
import Derived.RangeFuncLeaves
import Derived.RangeFuncNested
import Derived.OwnWalkIn
set_option linter.unusedVariables false
set_option linter.unusedSectionVars false
namespace Go.Proofs.YtlkahgagmfhdaaaGreatDoor
section
open Go.RowKit
end
section
open Go.RowKit Go.Maps
attribute [local go_sem] Oper.semAt_some
section
variable {W0 w w':World} {gG mB bG:Nat} {hv vm vd vm' vd':Value} {l l':List Nd}
end
end
section
open Go.RowKit Go.Maps Go.Sort
attribute [local go_sem] Oper.semAt_some
end
section
open Go.RowKit Go.Maps
attribute [local go_sem] Oper.semAt_some
section
variable {W0 w w':World} {gG mB bG bB n:Nat} {hv vm vd v v':Value} {l:List Nd} {bs:List Nat}
end
end
end Go.Proofs.YtlkahgagmfhdaaaGreatDoor
