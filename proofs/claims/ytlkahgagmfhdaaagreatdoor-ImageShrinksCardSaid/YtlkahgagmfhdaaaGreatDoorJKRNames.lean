import Derived.Test.YtlkahgagmfhdaaaGreatDoorJKCol
import Derived.Test.YtlkahgagmfhdaaaGreatDoorJUntil
import Derived.Test.YtlkahgagmfhdaaaGreatDoorJSoAll
set_option linter.unusedVariables false
set_option linter.unusedSimpArgs false
set_option linter.unusedSectionVars false
namespace Go.Proofs.YtlkahgagmfhdaaaGreatDoor
section
open Go.RowKit
attribute [local go_sem] Oper.semAt_some
section
variable {w : World} {h : HM} {l : List Ob} {A A' : Option Addr} {n c n' c' : Nat}
end
end
section
open Go.RowKit
attribute [local go_sem] Oper.semAt_some
end
section
open Go.RowKit
attribute [local go_sem] Oper.semAt_some
section
variable {w : World} {h : HM} {l : List Ob} {A A' : Option Addr} {n c n' c' : Nat}
end
end
section
open Go.RowKit Go.Sort
attribute [local go_sem] Oper.semAt_some
section
variable {h : HM} {l : List Ob}
end
section
variable {h : HM} {l : List Ob}
end
section
variable {w : World} {h : HM} {l : List Ob} {A A' Af : Option Addr} {n c n' c' nf cf : Nat}
end
end
section
open Go.RowKit Go.Sort
attribute [local go_sem] Oper.semAt_some
section
variable {w : World} {h : HM} {l : List Ob} {A A' : Option Addr} {n c n' c' : Nat}
end
end
section
open Go.RowKit Go.Sort
attribute [local go_sem] Oper.semAt_some
section
variable {w : World} {h : HM} {l : List Ob} {A A' : Option Addr} {n c n' c' : Nat}
end
end
section
open Go.RowKit Go.Sort
attribute [local go_sem] Oper.semAt_some
end
end Go.Proofs.YtlkahgagmfhdaaaGreatDoor
