import Derived.Test.YthadjmhipckelaaGreatDoorJLook
import Derived.Test.YthadjmhipckelaaGreatDoorJClone
import Derived.Lib.ItoaLen
set_option linter.unusedVariables false
namespace Go.Proofs.YthadjmhipckelaaGreatDoor
section
open Go.RowKit Go.Sort Go.Lib
def Pow (w : World) : Prop := Spares w
theorem Pow.below {w w' : World} (h : Pow w) (hb : Below w.heap.size w w') : Pow w' := Spares.below h hb
def smallV (o : Nat) : Int := if o < 2147483648 then (o / 2 : Nat) else ((o / 2 : Nat) : Int) - 2147483648
theorem smallV_lo (o : Nat) (ho : o < 4294967296) : -1073741824 ≤ smallV o := by unfold smallV; split <;> omega
theorem smallV_hi (o : Nat) (ho : o < 4294967296) : smallV o ≤ 1073741823 := by unfold smallV; split <;> omega
theorem Value_any (o : Nat) (ho : o < 4294967296) (h1 : o % 2 = 1) (w : World) :
 Calls Tryz.prog 112 #[.int .u32 o] w fun e w' => e = .returned (.tuple #[.int .i64 (smallV o), .int .i64 0]) ∧ w = w' := by
 have HK := Lib.hid (kind_any o ho w)
 rw [show kindM o = 1 by unfold kindM; rw [if_neg (by omega), if_pos h1]] at HK
 by_cases h : o < 2147483648
 ·have HF := Lib.hid (show smallV o = (o : Int) / 2 by unfold smallV; rw [if_pos h]; omega)
  clear h1
  go_enter Tryz.func112, Tryz.ntmps112
  go_wp2_with fail
  refine HK.out.mono ?_
  rintro e w1 ⟨rfl, rfl⟩
  go_wp2_with fail
  go_ret2
  exact ⟨by rw [HF.out]; rfl, rfl⟩
 ·have HF := Lib.hid (show smallV o = ((o : Int) - 4294967296) / 2 by unfold smallV; rw [if_neg h]; omega)
  have hw : IntKind.i32.wrap (o : Int) = (o : Int) - 4294967296 := by
   have hb : IntKind.i32.bits = 32 := rfl
   have hm : (o : Int) % 4294967296 = o := by omega
   unfold IntKind.wrap
   simp [hb, hm, IntKind.signed]
   omega
  have hw2 : IntKind.i32.wrap (((o : Int) - 4294967296) / 2) = ((o : Int) - 4294967296) / 2 := IntWalk.i32_in _ (by omega)
  have hw3 : IntKind.i64.wrap (((o : Int) - 4294967296) / 2) = ((o : Int) - 4294967296) / 2 := IntWalk.i64_in _ (by omega)
  clear h1
  go_enter Tryz.func112, Tryz.ntmps112
  go_wp2_with fail
  refine HK.out.mono ?_
  rintro e w1 ⟨rfl, rfl⟩
  go_wp2_with fail
  go_ret2
  exact ⟨by rw [HF.out]; rfl, rfl⟩
def HM.byteN (h : HM) (o : Nat) (i : Int) : Nat := if h.lookE o i [2] = 0 then fb h o i.toNat else 0
def HM.readN (h : HM) (o : Nat) (i : Int) (fs : List Nat) : Nat := if h.lookE o i fs = 0 then fw h o i.toNat else 0
end
end Go.Proofs.YthadjmhipckelaaGreatDoor
