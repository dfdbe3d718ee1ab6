/- Texts of oops and of objects' elements. -/
import Derived.Test.YtlkahgagmfhdaaaGreatDoorJLook
import Derived.Test.YtlkahgagmfhdaaaGreatDoorJClone
import Derived.Lib.ItoaLen
set_option linter.unusedVariables false
namespace Go.Proofs.YtlkahgagmfhdaaaGreatDoor
open Go.RowKit Go.Sort Go.Lib

def Pow (w : World) : Prop := Spares w
theorem Pow.below {w w' : World} (h : Pow w) (hb : Below w.heap.size w w') : Pow w' := Spares.below h hb
theorem Step.pow {p p' : HP} {w w' : World} (s : Step p p' w w') (hp : Far p) (hs : Pow w) : Pow w' := s.spares hp hs
def HM.readN (h : HM) (o : Nat) (i : Int) (fs : List Nat) : Nat := if h.lookE o i fs = 0 then fw h o i.toNat else 0
end Go.Proofs.YtlkahgagmfhdaaaGreatDoor
