/- act: a deed with a heap alone. -/
import Derived.Test.YtkpjkbkglnabiaaDoorLive
set_option linter.unusedVariables false
namespace Go.Proofs.YtkpjkbkglnabiaaDoor
open Go.RowKit

def Dd.val (d : Dd) (A : Option Addr) (n c : Nat) : Value :=
  .agg #[.int .i64 d.k, .int .u32 (d.o : Nat), .int .u32 (d.v : Nat), .int .i64 d.f, .int .i64 d.i, .int .i64 d.n, .int .u32 (d.w : Nat), .slice A n c]

set_option maxRecDepth 100000 in
set_option maxHeartbeats 2000000 in
theorem act_any {W w : World} {p : HP} {g : Nat} {h : HM} (L : Live W w p g h) (d : Dd) (fd : d.Fit) (A : Option Addr) (n c : Nat) (hn : n ≤ 9223372036854775807) (hr : Reads w w.heap.size 1 A n (u8c d.b)) :
    Calls Tryd.prog 23 #[.pointer (some ⟨g, 0, none⟩), d.val A n c] w (Done W p g (h.actH d) (.int .u32 (h.actO d : Nat)) w) := by
  obtain ⟨k, o, v, f, i, m, x, b⟩ := d
  obtain ⟨fo, fv, fx, fb⟩ := fd
  dsimp only at fo fv fx fb hr
  unfold Dd.val
  dsimp only
  have hL := fun o => L.after (w' := w.alloc o) ((Below.refl _ _).alloc (Nat.le_refl _) _)
  have hR := fun o => (hr.alloc (Nat.le_refl _) o).more (B' := (w.alloc o).heap.size) (by simp)
  have hS := fun o => Step.of_below (p := p) (w := w) (w' := w.alloc o) ((Below.refl _ _).alloc (Nat.le_refl _) _)
  have HL := Lib.hid hL; have HR := Lib.hid hR; have HB := Lib.hid fb; have HS := Lib.hid hS
  clear hL hR fb L hr hS
  by_cases h0 : k.tmod 14 = 0
  · have HF := Lib.hid (show h.actH ⟨k, o, v, f, i, m, x, b⟩ = h.AllocH v f m ∧ h.actO ⟨k, o, v, f, i, m, x, b⟩ = h.AllocO v f m by simp [HM.actH, HM.actO, Dd.what, h0, HM.AllocO])
    go_enter Tryd.func23, Tryd.ntmps23
    go_wp2_with fail
    refine ((HL.out _).alloc v fv f m).mono ?_
    rintro e w1 ⟨p1, rfl, L1, s1⟩
    go_wp2_with fail
    go_ret
    exact ⟨p1, by rw [HF.out.2]; rfl, by rw [HF.out.1]; exact L1, (HS.out _).trans s1⟩
  by_cases h1 : k.tmod 14 = 1
  · have HF := Lib.hid (show h.actH ⟨k, o, v, f, i, m, x, b⟩ = h.makeH v b ∧ h.actO ⟨k, o, v, f, i, m, x, b⟩ = h.makeO v b by simp [HM.actH, HM.actO, Dd.what, h1, HM.makeO])
    go_enter Tryd.func23, Tryd.ntmps23
    go_wp2_with fail
    refine ((HL.out _).make v fv A n c b hn (HR.out _) HB.out).mono ?_
    rintro e w1 ⟨p1, rfl, L1, s1⟩
    go_wp2_with fail
    go_ret
    exact ⟨p1, by rw [HF.out.2]; rfl, by rw [HF.out.1]; exact L1, (HS.out _).trans s1⟩
  by_cases h3 : k.tmod 14 = 3
  · have HF := Lib.hid (show h.actH ⟨k, o, v, f, i, m, x, b⟩ = h.putH o i v ∧ h.actO ⟨k, o, v, f, i, m, x, b⟩ = 0 by simp [HM.actH, HM.actO, Dd.what, h3])
    go_enter Tryd.func23, Tryd.ntmps23
    go_wp2_with fail
    refine ((HL.out _).put o fo i v fv).mono ?_
    rintro e w1 ⟨p1, rfl, L1, s1⟩
    go_wp2_with fail
    go_ret
    exact ⟨p1, by rw [HF.out.2]; rfl, by rw [HF.out.1]; exact L1, (HS.out _).trans s1⟩
  by_cases h5 : k.tmod 14 = 5
  · have HF := Lib.hid (show h.actH ⟨k, o, v, f, i, m, x, b⟩ = h.setWordH o i x ∧ h.actO ⟨k, o, v, f, i, m, x, b⟩ = 0 by simp [HM.actH, HM.actO, Dd.what, h5])
    go_enter Tryd.func23, Tryd.ntmps23
    go_wp2_with fail
    refine ((HL.out _).setWord o fo i x fx).mono ?_
    rintro e w1 ⟨p1, rfl, L1, s1⟩
    go_wp2_with fail
    go_ret
    exact ⟨p1, by rw [HF.out.2]; rfl, by rw [HF.out.1]; exact L1, (HS.out _).trans s1⟩
  by_cases h7 : k.tmod 14 = 7
  · have HF := Lib.hid (show h.actH ⟨k, o, v, f, i, m, x, b⟩ = h.setByteH o i (x % 256) ∧ h.actO ⟨k, o, v, f, i, m, x, b⟩ = 0 by simp [HM.actH, HM.actO, Dd.what, h7])
    go_enter Tryd.func23, Tryd.ntmps23
    go_wp2_with fail
    refine ((HL.out _).setByte o fo i (x % 256) (Nat.mod_lt _ (by omega))).mono ?_
    rintro e w1 ⟨p1, rfl, L1, s1⟩
    go_wp2_with fail
    go_ret
    exact ⟨p1, by rw [HF.out.2]; rfl, by rw [HF.out.1]; exact L1, (HS.out _).trans s1⟩
  by_cases h9 : k.tmod 14 = 9
  · have HF := Lib.hid (show h.actH ⟨k, o, v, f, i, m, x, b⟩ = h.setClassH o v ∧ h.actO ⟨k, o, v, f, i, m, x, b⟩ = 0 by simp [HM.actH, HM.actO, Dd.what, h9])
    go_enter Tryd.func23, Tryd.ntmps23
    go_wp2_with fail
    refine ((HL.out _).setClass o fo v fv).mono ?_
    rintro e w1 ⟨p1, rfl, L1, s1⟩
    go_wp2_with fail
    go_ret
    exact ⟨p1, by rw [HF.out.2]; rfl, by rw [HF.out.1]; exact L1, (HS.out _).trans s1⟩
  by_cases h10 : k.tmod 14 = 10
  · have HF := Lib.hid (show h.actH ⟨k, o, v, f, i, m, x, b⟩ = h.setRootH i v ∧ h.actO ⟨k, o, v, f, i, m, x, b⟩ = 0 by simp [HM.actH, HM.actO, Dd.what, h10])
    go_enter Tryd.func23, Tryd.ntmps23
    go_wp2_with fail
    refine ((HL.out _).setRoot i v fv).mono ?_
    rintro e w1 ⟨p1, rfl, L1, s1⟩
    go_wp2_with fail
    go_ret
    exact ⟨p1, by rw [HF.out.2]; rfl, by rw [HF.out.1]; exact L1, (HS.out _).trans s1⟩
  have HF := Lib.hid (show h.actH ⟨k, o, v, f, i, m, x, b⟩ = h ∧ h.actO ⟨k, o, v, f, i, m, x, b⟩ = 0 by simp [HM.actH, HM.actO, Dd.what, h0, h1, h3, h5, h7, h9, h10])
  go_enter Tryd.func23, Tryd.ntmps23
  go_wp2_with fail
  go_ret
  exact ⟨p, by rw [HF.out.2]; rfl, by rw [HF.out.1]; exact HL.out _, HS.out _⟩
end Go.Proofs.YtkpjkbkglnabiaaDoor
