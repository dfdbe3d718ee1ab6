import Derived.Test.YtlkahgagmfhdaaaGreatDoorQLook
import Derived.Test.YtlkahgagmfhdaaaGreatDoorQClone
import Derived.Lib.ItoaLen
set_option linter.unusedVariables false
namespace Go.Proofs.YtlkahgagmfhdaaaGreatDoor
section
open Go.RowKit Go.Sort Go.Lib
def Pow (w:World):Prop:=Spares w
theorem Pow.below {w w':World} (h:Pow w) (hb:Below w.heap.size w w'):Pow w':=Spares.below h hb
def HM.readN (h:HM) (o:Nat) (i:Int) (fs:List Nat):Nat:=if h.lookE o i fs=0 then fw h o i.toNat else 0
end
end Go.Proofs.YtlkahgagmfhdaaaGreatDoor
