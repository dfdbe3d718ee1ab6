import Derived.Test.YtlkahgagmfhdaaaGreatDoorJAll
import Derived.Test.YtlkahgagmfhdaaaGreatDoorJLive
import Derived.Test.YtlkahgagmfhdaaaGreatDoorJAwake
import Derived.Test.YtlkahgagmfhdaaaGreatDoorJAlloc
set_option linter.unusedVariables false
namespace Go.Proofs.YtlkahgagmfhdaaaGreatDoor
section
open Go.RowKit
attribute [local go_sem] Oper.semAt_some
def NoHp (w : World) (v : Value) : Prop := v = .pointer none ∨ ∃ g, v = ptr g ∧ w.cell? ⟨g, 3, none⟩ = some (.int .i64 0)
section
variable {w : World} {v : Value}
theorem made_no (N : NoHp w v) : Calls Tryz.prog 83 #[v] w (Said (.bool false) w) := by
 rcases N with rfl | ⟨g, rfl, c3⟩
 ·go_enter Tryz.func83, Tryz.ntmps83
  go_wp2_with fail
  go_ret
  exact ⟨rfl, rfl⟩
 ·unfold ptr
  go_enter Tryz.func83, Tryz.ntmps83
  go_wp2_with fail
  go_ret
  exact ⟨rfl, rfl⟩
theorem size_no (N : NoHp w v) : Calls Tryz.prog 59 #[v] w (Said (.int .i64 0) w) := by
 have HM := Lib.hid (made_no N); clear N
 go_enter Tryz.func59, Tryz.ntmps59
 go_wp2_with fail
 refine HM.out.mono ?_
 rintro e w' ⟨rfl, rfl⟩
 go_wp2_with fail
 go_ret
 exact ⟨rfl, rfl⟩
end
end
end Go.Proofs.YtlkahgagmfhdaaaGreatDoor
