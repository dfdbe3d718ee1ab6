/- Headers: pack, Pack, Unpack, header, Header, length, pointers. -/
import Derived.Test.YtkpjkbkglnabiaaGreatDoorMay
set_option linter.unusedVariables false
namespace Go.Proofs.YtkpjkbkglnabiaaGreatDoor
open Go.RowKit

theorem u32_orj (i a b : Nat) (ha : a < 2 ^ i) (hb : b * 2 ^ i < 4294967296) (ha2 : a < 4294967296) : bits .or .u32 (a : Int) ((b * 2 ^ i : Nat) : Int) = ((a + b * 2 ^ i : Nat) : Int) := by
  rw [u32_or_nat _ _ ha2 hb, Nat.or_comm, nat_join i _ _ (by simp) ha, Nat.add_comm]
theorem u32_or24 (a b : Nat) (ha : a < 16777216) (hb : b < 8) : bits .or .u32 (a : Int) ((b : Int) * 16777216) = ((a + b * 16777216 : Nat) : Int) := by
  have := u32_orj 24 a b (by simpa using ha) (by omega) (by omega)
  simpa using this
theorem u32_or27 (a b : Nat) (ha : a < 134217728) (hb : b < 4) : bits .or .u32 (a : Int) ((b : Int) * 134217728) = ((a + b * 134217728 : Nat) : Int) := by
  have := u32_orj 27 a b (by simpa using ha) (by omega) (by omega)
  simpa using this

def Hd.w0 (x : Hd) : Nat := x.size + x.fmt * 16777216 + x.spare * 134217728
def Hd.packed (x : Hd) : Value := .agg #[.int .u32 x.w0, .int .u32 x.cls, .int .u32 x.ser]
set_option maxHeartbeats 1000000 in
theorem pack_any (x : Hd) (f : x.Fit) (w : World) :
    Calls Tryz.prog 116 #[x.val] w fun e w' => e = .returned x.packed ∧ Below w.heap.size w w' := by
  obtain ⟨n, t, s, c, r⟩ := x
  obtain ⟨f1, f2, f3, f4, f5⟩ := f
  simp only at f1 f2 f3 f4 f5
  have HF := Lib.hid (show Hd.packed ⟨n, t, s, c, r⟩ = .agg #[.int .u32 ((n + t * 16777216 + s * 134217728 : Nat) : Int), .int .u32 c, .int .u32 r] from rfl)
  have e1 := u32_or24 n t f1 f2
  have e2 := u32_or27 (n + t * 16777216) s (by omega) f3
  generalize n + t * 16777216 + s * 134217728 = v at *
  generalize n + t * 16777216 = u at *
  unfold Hd.val
  go_enter Tryz.func116, Tryz.ntmps116
  go_wp2_with fail
  refine bodyPost_ret (v := .agg #[.int .u32 v, .int .u32 c, .int .u32 r]) (by simp [results, Tryz.results116, go_sem]) rfl ⟨by rw [HF.out], ?_⟩
  exact ((Below.refl _ _).alloc (Nat.le_refl _) _).alloc (by simp) _

set_option maxHeartbeats 1000000 in
theorem Pack_any (x : Hd) (f : x.Fit) (hm : x.may = true) (w : World) (hs : Spares w) :
    Calls Tryz.prog 100 #[x.val] w fun e w' => e = .returned (.tuple #[x.packed, .int .i64 0]) ∧ Below w.heap.size w w' := by
  have hv : x.val = .agg #[.int .i64 x.size, .int .i64 x.fmt, .int .i64 x.spare, .int .u32 x.cls, .int .u32 x.ser] := rfl
  rw [hv]
  go_enter Tryz.func100, Tryz.ntmps100
  go_wp2_with fail
  rw [← hv]
  refine (may_any x f _ (hs.below (((Below.refl _ _).alloc (Nat.le_refl _) _).alloc (by simp) _))).mono ?_
  rintro e w1 ⟨rfl, hb1⟩
  rw [hm]
  have hb : Below w.heap.size w w1 := (((Below.refl _ _).alloc (Nat.le_refl _) _).alloc (by simp) _).trans (hb1.mono (by simp; omega))
  have B1 := Blk.below (Blk.alloc (Blk.new w _ _) _) hb1 (by simp; omega)
  have B2 := Blk.below (Blk.new (w.alloc _) _ _) hb1 (by simp)
  rw [World.size_alloc] at B2
  have hz : w.heap.size + 1 < w1.heap.size := by have := hb1.size; simp at this; omega
  clear hb1
  obtain ⟨c0, c1, c2, c3, c4⟩ := B1.cells5
  have z1 := B1.fz
  go_wp2_with fail
  rw [← hv]
  refine (pack_any x f _).mono ?_
  rintro e w2 ⟨rfl, hb2⟩
  rw [show x.packed = .agg #[.int .u32 x.w0, .int .u32 x.cls, .int .u32 x.ser] from rfl, hv]
  have B2' := B2.below hb2 B2.lt
  obtain ⟨d0, d1, d2⟩ := B2'.cells3
  have z2 := B2'.fz
  have hz2 := B2'.lt
  go_wp2_with fail
  refine bodyPost_ret (v := .tuple #[.agg #[.int .u32 x.w0, .int .u32 x.cls, .int .u32 x.ser], .int .i64 0]) (by simp [results, Tryz.results100, go_sem, d0, d1, d2]) rfl ⟨rfl, ?_⟩
  exact (((below_top hb hb2).setCell (by simp) _).setCell (by simp) _).setCell (by simp) _
end Go.Proofs.YtkpjkbkglnabiaaGreatDoor
