import Derived.Test.YtlkahgagmfhdaaaGreatDoorRound
import Derived.Test.YtlkahgagmfhdaaaGreatDoorJUntil
import Derived.Test.YtlkahgagmfhdaaaGreatDoorJMem
set_option linter.unusedVariables false
namespace Go.Proofs.YtlkahgagmfhdaaaGreatDoor
section
open Go.RowKit Go.Sort
section
variable {P : Program} {n : Nat} {Q : Exit → Act → World → Prop}
end
end
end Go.Proofs.YtlkahgagmfhdaaaGreatDoor
