import Derived.Test.YtlkahgagmfhdaaaGreatDoorJSo13
import Derived.Test.YtlkahgagmfhdaaaGreatDoorJAll
import Derived.Test.YtlkahgagmfhdaaaGreatDoorJKPlan
import Derived.Test.YtlkahgagmfhdaaaGreatDoorJUntil
import Derived.IntWalk
set_option linter.unusedVariables false
set_option linter.unusedSimpArgs false
set_option linter.unusedSectionVars false
namespace Go.Proofs.YtlkahgagmfhdaaaGreatDoor
section
open Go.RowKit Go.Sort Go.Proofs
end
section
open Go.RowKit
attribute [local go_sem] Oper.semAt_some
section
variable {w : World} {p : HP} {h : HM} {l : List Ob}
end
end
section
open Go.RowKit
attribute [local go_sem] Oper.semAt_some
section
variable {w : World} {p : HP} {h : HM} {l : List Ob}
end
end
section
open Go.RowKit
attribute [local go_sem] Oper.semAt_some
section
variable {w w' : World} {B mg mb : Nat} {hp v : Value} {ws : List Nat} {pl : List (Nat × Nat)} {t0 t1 t2 t3 t4 : Nat}
end
end
section
open Go.RowKit
attribute [local go_sem] Oper.semAt_some
section
variable {w : World} {p : HP} {h : HM} {l : List Ob} {B mg mb go co void : Nat} {v : Value} {ws : List Nat} {pl : List (Nat × Nat)} {t0 t1 t2 t3 t4 : Nat}
end
end
section
open Go.RowKit
attribute [local go_sem] Oper.semAt_some
section
variable {w w' : World} {B mg mb : Nat} {hp v : Value} {ws : List Nat} {pl : List (Nat × Nat)} {t0 t1 t2 t3 t4 : Nat}
end
end
end Go.Proofs.YtlkahgagmfhdaaaGreatDoor
