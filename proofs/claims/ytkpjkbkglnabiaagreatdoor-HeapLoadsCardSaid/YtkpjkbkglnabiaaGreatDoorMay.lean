/- Headers: may. -/
import Derived.Test.YtkpjkbkglnabiaaGreatDoorOop
import Derived.Lib.LaidTab
import Derived.Deep.RegionHeld3
set_option linter.unusedVariables false
namespace Go.Proofs.YtkpjkbkglnabiaaGreatDoor
open Go.RowKit

structure Hd where
  size : Nat
  fmt : Nat
  spare : Nat
  cls : Nat
  ser : Nat

def Hd.cells (x : Hd) : Array Value := #[.int .i64 x.size, .int .i64 x.fmt, .int .i64 x.spare, .int .u32 x.cls, .int .u32 x.ser]
def Hd.val (x : Hd) : Value := .agg #[.int .i64 x.size, .int .i64 x.fmt, .int .i64 x.spare, .int .u32 x.cls, .int .u32 x.ser]
/-- In the ranges of a header's parts. -/
structure Hd.Fit (x : Hd) : Prop where
  size : x.size < 16777216
  fmt : x.fmt < 8
  spare : x.spare < 4
  cls : x.cls < 4294967296
  ser : x.ser < 4294967296
def Hd.may (x : Hd) : Bool := decide (x.size ≤ 65535) && decide (1 ≤ x.fmt) && decide (x.fmt ≤ 4) && (decide (x.spare = 0) || decide (x.fmt = 2) && decide (0 < x.size))

/-- The table of the formats that may have spare bytes. -/
def Spares (w : World) : Prop := ∀ i, i < 5 → w.cell? ⟨0, i, none⟩ = some (.bool (i == 2))
theorem Spares.below {w w' : World} (h : Spares w) (hb : Below w.heap.size w w') : Spares w' := fun i hi =>
  (hb.cell (World.block_lt_of_cell? _ _ (h i hi))).trans (h i hi)

set_option maxHeartbeats 2000000 in
theorem may_any (x : Hd) (f : x.Fit) (w : World) (hs : Spares w) :
    Calls Tryz.prog 115 #[x.val] w fun e w' => e = .returned (.bool x.may) ∧ Below w.heap.size w w' := by
  have c0 := hs 0 (by omega)
  have c1 := hs 1 (by omega)
  have c2 := hs 2 (by omega)
  have c3 := hs 3 (by omega)
  have c4 := hs 4 (by omega)
  have hg : 0 < w.heap.size := World.block_lt_of_cell? _ _ c0
  have hne : w.heap.size ≠ 0 := by omega
  clear c0 c1 c2 c3 c4
  obtain ⟨n, t, s, c, r⟩ := x
  obtain ⟨f1, f2, f3, f4, f5⟩ := f
  simp only at f1 f2 f3 f4 f5
  unfold Hd.val
  by_cases h1 : 65535 < n
  · have HF := Lib.hid (show Hd.may ⟨n, t, s, c, r⟩ = false by simp [Hd.may]; omega)
    go_enter Tryz.func115, Tryz.ntmps115
    go_wp2_with fail
    go_ret
    exact ⟨by rw [HF.out]; rfl, (Below.refl _ _).alloc (Nat.le_refl _) _⟩
  by_cases h2 : t ≤ 0
  · have HF := Lib.hid (show Hd.may ⟨n, t, s, c, r⟩ = false by simp [Hd.may]; omega)
    go_enter Tryz.func115, Tryz.ntmps115
    go_wp2_with fail
    go_ret
    exact ⟨by rw [HF.out]; rfl, (Below.refl _ _).alloc (Nat.le_refl _) _⟩
  by_cases h3 : 5 ≤ t
  · have HF := Lib.hid (show Hd.may ⟨n, t, s, c, r⟩ = false by simp [Hd.may]; omega)
    go_enter Tryz.func115, Tryz.ntmps115
    go_wp2_with fail
    go_ret
    exact ⟨by rw [HF.out]; rfl, (Below.refl _ _).alloc (Nat.le_refl _) _⟩
  by_cases h4 : s = 0
  · subst h4
    have HF := Lib.hid (show Hd.may ⟨n, t, 0, c, r⟩ = true by simp [Hd.may]; omega)
    go_enter Tryz.func115, Tryz.ntmps115
    go_wp2_with fail
    go_ret
    exact ⟨by rw [HF.out]; rfl, (Below.refl _ _).alloc (Nat.le_refl _) _⟩
  have h4' : ((s : Int) == 0) = false := by simpa using h4
  have hcell : w.cell? ⟨0, t, none⟩ = some (.bool (t == 2)) := hs t (by omega)
  have hlt : (t : Int) < 5 := by omega
  by_cases h5 : t = 2
  · subst h5
    by_cases h6 : n = 0
    · subst h6
      have HF := Lib.hid (show Hd.may ⟨0, 2, s, c, r⟩ = false by simp [Hd.may, h4])
      clear h4
      go_enter Tryz.func115, Tryz.ntmps115
      go_wp2_with fail
      go_ret
      exact ⟨by rw [HF.out]; rfl, (Below.refl _ _).alloc (Nat.le_refl _) _⟩
    · have HF := Lib.hid (show Hd.may ⟨n, 2, s, c, r⟩ = true by simp [Hd.may]; omega)
      have h7 : (0 : Int) < n := by omega
      clear h4 h6
      go_enter Tryz.func115, Tryz.ntmps115
      go_wp2_with fail
      go_ret
      exact ⟨by rw [HF.out]; simp; omega, (Below.refl _ _).alloc (Nat.le_refl _) _⟩
  · have HF := Lib.hid (show Hd.may ⟨n, t, s, c, r⟩ = false by simp [Hd.may]; omega)
    rw [show (t == 2) = false by simpa using h5] at hcell
    clear h4 h5
    go_enter Tryz.func115, Tryz.ntmps115
    go_wp2_with fail
    go_ret
    exact ⟨by rw [HF.out]; rfl, (Below.refl _ _).alloc (Nat.le_refl _) _⟩

end Go.Proofs.YtkpjkbkglnabiaaGreatDoor
