/- Alloc, oop.Length, PackBytes of the program. -/
import Derived.Test.YtkpjkbkglnabiaaGreatDoorAlloc
import Derived.Test.YtkpjkbkglnabiaaGreatDoorByte
set_option linter.unusedVariables false
namespace Go.Proofs.YtkpjkbkglnabiaaGreatDoor
open Go.RowKit

def allocOk (f n : Int) : Bool := decide (1 ≤ f) && decide (f ≤ 4) && decide (0 ≤ n) && decide (n ≤ 65535)
def mkHd (c : Nat) (f n : Int) : Hd := ⟨n.toNat, f.toNat, 0, c, 0⟩
def HM.AllocH (h : HM) (c : Nat) (f n : Int) : HM := if allocOk f n then h.allocH (mkHd c f n) else h
def HM.AllocV (h : HM) (c : Nat) (f n : Int) : Value := if allocOk f n then h.allocV (mkHd c f n) else .tuple #[.int .u32 0, .int .i64 1]

set_option maxHeartbeats 1000000 in
theorem Alloc_any {w : World} {p : HP} {h : HM} (H : HAt w p h) (f : h.Fit) (hs : Spares w) (hp : Far p) (c : Nat) (hc : c < 4294967296) (t n : Int) :
    Calls Tryz.prog 23 #[ptr p.g, .int .u32 c, .int .i64 t, .int .i64 n] w (Made p (h.AllocH c t n) (h.AllocV c t n) w) := by
  have bad : allocOk t n = false → (h.AllocH c t n = h ∧ h.AllocV c t n = .tuple #[.int .u32 0, .int .i64 1]) := fun e => by simp [HM.AllocH, HM.AllocV, e]
  by_cases h1 : t < 1
  · have HF := Lib.hid (bad (by simp [allocOk]; omega))
    clear bad
    go_enter Tryz.func23, Tryz.ntmps23
    go_wp2_with fail
    go_ret2
    exact ⟨p, by rw [HF.out.2]; rfl, by rw [HF.out.1]; exact H, Step.refl _ _⟩
  by_cases h2 : 4 < t
  · have HF := Lib.hid (bad (by simp [allocOk]; omega))
    clear bad
    go_enter Tryz.func23, Tryz.ntmps23
    go_wp2_with fail
    go_ret2
    exact ⟨p, by rw [HF.out.2]; rfl, by rw [HF.out.1]; exact H, Step.refl _ _⟩
  by_cases h3 : n < 0
  · have HF := Lib.hid (bad (by simp [allocOk]; omega))
    clear bad
    go_enter Tryz.func23, Tryz.ntmps23
    go_wp2_with fail
    go_ret2
    exact ⟨p, by rw [HF.out.2]; rfl, by rw [HF.out.1]; exact H, Step.refl _ _⟩
  by_cases h4 : 65535 < n
  · have HF := Lib.hid (bad (by simp [allocOk]; omega))
    clear bad
    go_enter Tryz.func23, Tryz.ntmps23
    go_wp2_with fail
    go_ret2
    exact ⟨p, by rw [HF.out.2]; rfl, by rw [HF.out.1]; exact H, Step.refl _ _⟩
  clear bad
  obtain ⟨k, rfl⟩ := Int.eq_ofNat_of_zero_le (by omega : 0 ≤ n)
  obtain ⟨s, rfl⟩ := Int.eq_ofNat_of_zero_le (by omega : 0 ≤ t)
  have HF := Lib.hid (show h.AllocH c s k = h.allocH ⟨k, s, 0, c, 0⟩ ∧ h.AllocV c s k = h.allocV ⟨k, s, 0, c, 0⟩ by
    have e : allocOk s k = true := by simp [allocOk]; omega
    simp [HM.AllocH, HM.AllocV, e, mkHd])
  have HA := Lib.hid (alloc_any H f hs hp ⟨k, s, 0, c, 0⟩ ⟨by simp; omega, by simp; omega, by simp, hc, by simp⟩ rfl (by simp [Hd.may]; omega))
  unfold Hd.val at HA
  generalize h.allocH ⟨k, s, 0, c, 0⟩ = h2 at *
  have hv : ∃ a b : Int, h.allocV ⟨k, s, 0, c, 0⟩ = .tuple #[.int .u32 a, .int .i64 b] := ⟨_, _, rfl⟩
  obtain ⟨a, b, hv⟩ := hv
  rw [hv] at HA HF
  clear hv
  go_enter Tryz.func23, Tryz.ntmps23
  go_wp2_with fail
  refine HA.out.mono ?_
  rintro e w1 ⟨p1, rfl, H1, s1⟩
  go_wp2_with fail
  go_ret2
  exact ⟨p1, by rw [HF.out.2]; rfl, by rw [HF.out.1]; exact H1, s1⟩

theorem olength_any (n : Nat) (hn : n ≤ 9223372036854775807) (w : World) :
    Calls Tryz.prog 102 #[.int .i64 n] w fun e w' => e = .returned (.tuple (if 262140 < n then #[.int .i64 0, .int .i64 0, .int .i64 1] else #[.int .i64 ((n + 3) / 4 : Nat), .int .i64 (4 * ((n + 3) / 4) - n : Nat), .int .i64 0])) ∧ w = w' := by
  by_cases h1 : 262140 < n
  · rw [if_pos h1]
    have h1' : (262140 : Int) < n := by omega
    go_enter Tryz.func102, Tryz.ntmps102
    go_wp2_with fail
    go_ret3
    exact ⟨by simp, rfl⟩
  · rw [if_neg h1]
    have h1' : (n : Int) ≤ 262140 := by omega
    have e1 : (((n + 3) / 4 : Nat) : Int) = ((n : Int) + 3) / 4 := by omega
    have e2 : ((4 * ((n + 3) / 4) - n : Nat) : Int) = 4 * (((n : Int) + 3) / 4) - n := by omega
    rw [e2, e1]
    clear e1 e2 h1
    go_enter Tryz.func102, Tryz.ntmps102
    go_wp2_with fail
    go_ret3
    exact ⟨by simp, rfl⟩
end Go.Proofs.YtkpjkbkglnabiaaGreatDoor
