/- HeapNews, walked: which sizes may be. -/
import Derived.Test.YtkpjkbkglnabiaaDoorLike
set_option linter.unusedVariables false
namespace Go.Proofs.YtkpjkbkglnabiaaDoor
open Go.RowKit

set_option maxRecDepth 100000 in
set_option maxHeartbeats 2000000 in
theorem news_any (W : World) (E : Env W) (n : Int) : Calls Tryd.prog 4 #[.int .i64 n] W (Told (.bool true) W) := by
  have HE := Lib.hid E
  have HA := Lib.hid (awake_any W E)
  clear E
  by_cases hb : 64 ≤ n ∧ n ≤ 1048576
  · obtain ⟨k, rfl⟩ := Int.eq_ofNat_of_zero_le (by omega : 0 ≤ n)
    have HN := Lib.hid (fun w => new_any k (by omega) (by omega) w)
    have HR := Lib.hid (fun w => rnew_any k (by omega) (by omega) w)
    have HB := Lib.hid hb
    clear hb
    go_enter Tryd.func4, Tryd.ntmps4
    go_wp2_with fail
    refine (HN.out _).mono ?_
    rintro e w1 hN
    obtain ⟨p, g, rfl, L⟩ := Live.of_new (v := fun g => .tuple #[ptr g, .int .i64 0]) HE.out (by have := HB.out; omega) (by have := HB.out; omega) hN
    clear hN
    unfold ptr
    go_wp2_with fail
    refine (HR.out _).mono ?_
    rintro e w2 ⟨q, rfl, R, -, hb2⟩
    have L2 := L.after hb2
    unfold ptr
    go_wp2_with fail
    refine (num_any 0 (by decide) _).mono ?_
    rintro e w' ⟨rfl, rfl⟩
    go_wp2_with fail
    refine (like_any L2 R).mono ?_
    rintro e w3 ⟨rfl, hb3⟩
    go_wp2_with fail
    go_ret
    exact ⟨rfl, (L2.after hb3).below⟩
  · have hbad : n < 64 ∨ 1048576 < n := by omega
    have HN := Lib.hid (fun w => new_bad n hbad w)
    have HR := Lib.hid (fun w => rnew_bad n hbad w)
    clear hb hbad
    go_enter Tryd.func4, Tryd.ntmps4
    go_wp2_with fail
    refine (HN.out _).mono ?_
    rintro e w' ⟨rfl, rfl⟩
    go_wp2_with fail
    refine (HR.out _).mono ?_
    rintro e w' ⟨rfl, rfl⟩
    go_wp2_with fail
    refine (num_any 1 (by decide) _).mono ?_
    rintro e w' ⟨rfl, rfl⟩
    go_wp2_with fail
    refine HA.out.mono ?_
    rintro e w2 ⟨rfl, hb2⟩
    go_wp2_with fail
    go_ret
    exact ⟨rfl, hb2⟩
end Go.Proofs.YtkpjkbkglnabiaaDoor
