import Derived.Test.YtlkahgagmfhdaaaGreatDoorJKCol
import Derived.Test.YtlkahgagmfhdaaaGreatDoorJLive
import Derived.Deep.RegionHeld3
import Derived.BigQuiet
set_option linter.unusedVariables false
set_option linter.unusedSimpArgs false
set_option linter.unusedSectionVars false
namespace Go.Proofs.YtlkahgagmfhdaaaGreatDoor
section
open Go.RowKit Go.Sort
attribute [local go_sem] Oper.semAt_some
section
variable {w w' : World} {M gt gc gn N : Nat} {pl : List (Nat × Nat)} {vw vr : Value} {ws rs : List Nat} {a0 a1 a3 clr : Nat}
end
section
variable {w w' w0 : World} {M gt gc gn N : Nat} {pl : List (Nat × Nat)} {vw vr v5 : Value} {ws rs ns : List Nat} {a0 a1 a3 clr : Nat}
end
section
variable {w w0 : World} {M gt gc gn N : Nat} {pl : List (Nat × Nat)} {vw vr : Value} {ws rs : List Nat} {a0 a1 a3 clr : Nat}
end
section
variable {w : World} {h : HM} {l : List Ob} {A A' : Option Addr} {n c n' c' : Nat}
end
end
section
open Go.RowKit Go.Sort
attribute [local go_sem] Oper.semAt_some
section
variable {W : World}
end
end
section
open Go.RowKit Go.Sort
attribute [local go_sem] Oper.semAt_some
end
section
open Go.RowKit Go.Sort
attribute [local go_sem] Oper.semAt_some
end
section
open Go.RowKit Go.Sort
attribute [local go_sem] Oper.semAt_some
end
section
open Go.RowKit Go.Sort
attribute [local go_sem] Oper.semAt_some
theorem Live.rebase {W w1 w : World} {p : HP} {g : Nat} {h : HM} (L : Live w1 w p g h) (hb : Below W.heap.size W w1) (E : Env W) : Live W w p g h :=
 ⟨L.at_, L.hg, L.good, E, fun j hj => Nat.le_trans hb.size (L.new j hj), hb.trans (L.below.mono hb.size)⟩
theorem isB_obj {h : HM} {l : List Ob} (G : h.Good l) {j : Nat} (hj : j < l.length) : h.isB (2 * posOf (l.take j)) = true := (G.laid.isB_iff _).2 ⟨l.take j, l[j], l.drop (j + 1), split_at l j hj, rfl⟩
end
end Go.Proofs.YtlkahgagmfhdaaaGreatDoor
