import Derived.Test.YtdoahpflemgaeaaGreatDoorJClone
import Derived.Deep.RegionHeld3
import Derived.Deep.DeepCutAuto
set_option linter.unusedVariables false
namespace Go.Proofs.YtdoahpflemgaeaaGreatDoor
section
open Go.RowKit
section
variable {W w w':World} {p:HP} {h:HM} {a b c:Option (Nat × Nat)}
end
end
end Go.Proofs.YtdoahpflemgaeaaGreatDoor
