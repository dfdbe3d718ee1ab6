import Derived.Test.YtlkahgagmfhdaaaGreatDoorJSoAll
import Derived.Test.YtlkahgagmfhdaaaGreatDoorJMake
import Derived.Test.YtlkahgagmfhdaaaGreatDoorJAll
import Derived.Test.YtlkahgagmfhdaaaGreatDoorJUntil
import Derived.Test.YtlkahgagmfhdaaaGreatDoorJRoundW
import Derived.Test.YtlkahgagmfhdaaaGreatDoorJLive
import Derived.Test.YtlkahgagmfhdaaaGreatDoorJKPlan
import Derived.Carry
import Derived.Sort.CutIn
import Derived.Deep.RegionHeld3
set_option linter.unusedVariables false
set_option linter.unusedSimpArgs false
set_option linter.unusedSectionVars false
namespace Go.Proofs.YtlkahgagmfhdaaaGreatDoor
section
open Go.RowKit
attribute [local go_sem] Oper.semAt_some
end
section
open Go.RowKit
end
section
open Go.RowKit
end
section
open Go.RowKit
end
section
open Go.RowKit
end
section
open Go.RowKit
attribute [local go_sem] Oper.semAt_some
section
variable {w : World} {h : HM} {l : List Ob} {A A' : Option Addr} {n c n' c' : Nat}
end
end
section
open Go.RowKit
section
variable {h : HM} {l : List Ob}
end
end
section
open Go.RowKit
section
variable {pl : List (Nat × Nat)} {void : Nat} {b : Ob}
end
section
variable {h : HM} {l : List Ob}
end
end
section
open Go.RowKit
section
variable {h : HM} {l : List Ob}
end
end
section
open Go.RowKit
section
variable {w w' w1 : World} {B gx gs N : Nat} {vl vc vl1 vc1 vl' vc' : Value} {L : Wk}
end
end
section
open Go.RowKit
end
section
open Go.RowKit
attribute [local go_sem] Oper.semAt_some
section
variable {w : World} {h : HM} {l : List Ob} {A A' : Option Addr} {n c n' c' : Nat}
end
end
section
open Go.RowKit
attribute [local go_sem] Oper.semAt_some
section
variable {w : World} {h : HM} {l : List Ob} {A A' : Option Addr} {n c n' c' : Nat}
end
end
section
open Go.RowKit
attribute [local go_sem] Oper.semAt_some
end
section
open Go.RowKit
attribute [local go_sem] Oper.semAt_some
section
variable {w : World} {h : HM} {l : List Ob} {A A' : Option Addr} {n c n' c' : Nat}
end
end
section
open Go.RowKit Go.Sort
attribute [local go_sem] Oper.semAt_some
section
variable {h : HM} {l : List Ob}
end
section
variable {h : HM} {l : List Ob}
end
section
variable {w : World} {h : HM} {l : List Ob} {A A' Af : Option Addr} {n c n' c' nf cf : Nat}
end
end
section
open Go.RowKit Go.Sort
attribute [local go_sem] Oper.semAt_some
section
variable {w : World} {h : HM} {l : List Ob} {A A' : Option Addr} {n c n' c' : Nat}
end
end
section
open Go.RowKit Go.Sort
attribute [local go_sem] Oper.semAt_some
section
variable {w : World} {h : HM} {l : List Ob} {A A' : Option Addr} {n c n' c' : Nat}
end
end
section
open Go.RowKit Go.Sort
attribute [local go_sem] Oper.semAt_some
end
end Go.Proofs.YtlkahgagmfhdaaaGreatDoor
