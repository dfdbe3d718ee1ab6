import Derived.Test.YthadjmhipckelaaGreatDoorRows
import Derived.Test.YthadjmhipckelaaGreatDoorJBase
import Derived.Deep.LoopGhost

namespace Go.Proofs.YthadjmhipckelaaGreatDoor
section
open Go.RowKit
def crcBit (s : Nat) : Nat := if s % 2 = 1 then (s / 2) ^^^ 3988292384 else s / 2
def crcN : Nat → Nat → Nat
 | 0, s => s
 | j + 1, s => crcBit (crcN j s)
def crcByte (s x : Nat) : Nat := crcN 8 (s ^^^ x)
def crc (s : Nat) (l : List Nat) : Nat := l.foldl crcByte s
theorem crcBit_lt (s : Nat) (h : s < 4294967296) : crcBit s < 4294967296 := by
 unfold crcBit
 split
 ·exact Nat.xor_lt_two_pow (n := 32) (by omega) (by omega)
 ·omega
theorem crcN_lt (j s : Nat) (h : s < 4294967296) : crcN j s < 4294967296 := by
 induction j with
 | zero => exact h
 | succ j ih => exact crcBit_lt _ ih
theorem crcByte_lt (s x : Nat) (h : s < 4294967296) (hx : x < 256) : crcByte s x < 4294967296 :=
 crcN_lt _ _ (Nat.xor_lt_two_pow (n := 32) (by omega) (by omega))
theorem crc_snoc (s : Nat) (zs : List Nat) (k x : Nat) (h : zs[k]? = some x) : crc s (zs.take (k + 1)) = crcByte (crc s (zs.take k)) x := by
 unfold crc
 rw [List.take_add_one, h, List.foldl_append]
 rfl
theorem crc_lt (s : Nat) (zs : List Nat) (h : s < 4294967296) (hz : ∀ x ∈ zs, x < 256) : crc s zs < 4294967296 := by
 induction zs generalizing s with
 | nil => exact h
 | cons x r ih => exact ih _ (crcByte_lt _ _ h (hz x (by simp))) fun y hy => hz y (by simp [hy])
theorem u32_and1 (v : Nat) (h : v < 4294967296) : bits .and .u32 (v : Int) 1 = ((v % 2 : Nat) : Int) := by
 rw [u32_and _ _ (by omega) (by omega) (by omega) (by omega)]
 simp
theorem u32_xorc (v : Nat) (h : v < 4294967296) : bits .xor .u32 (v : Int) 3988292384 = ((v ^^^ 3988292384 : Nat) : Int) := by
 rw [u32_xor _ _ (by omega) (by omega) (by omega) (by omega)]
 simp
theorem u32_notc (v : Nat) (h : v < 4294967296) : bits .xor .u32 IntKind.u32.max (v : Int) = 4294967295 - (v : Int) := by
 have hm : IntKind.u32.max = 4294967295 := rfl
 rw [hm, u32_xor _ _ (by omega) (by omega) (by omega) (by omega)]
 have e : ((4294967295 : Int).toNat ^^^ (v : Int).toNat) = 4294967295 - v := by
  have := congrArg BitVec.toNat (BitVec.xor_allOnes (x := BitVec.ofNat 32 v))
  rw [BitVec.toNat_xor, BitVec.toNat_allOnes, BitVec.toNat_not, BitVec.toNat_ofNat, Nat.mod_eq_of_lt (by omega)] at this
  rw [Nat.xor_comm]
  simpa using this
 rw [e]; omega
def u8s (zs : List Nat) : List Value := zs.map fun x : Nat => .int .u8 (x : Int)
theorem u8s_at {zs : List Nat} {k : Nat} {u : Value} (h : (u8s zs)[k]? = some u) : ∃ x, zs[k]? = some x ∧ u = .int .u8 (x : Int) := by
 unfold u8s at h
 rw [List.getElem?_map] at h
 cases hz : zs[k]? with
 | none => rw [hz] at h; cases h
 | some x => rw [hz] at h; exact ⟨x, rfl, by injection h with h; exact h.symm⟩
def sumOf (zs : List Nat) : Int := 4294967295 - (crc 4294967295 zs : Int)
set_option maxHeartbeats 400000 in
theorem sum_any (A : Option Addr) (n c B : Nat) (zs : List Nat) (w : World) (hm : n ≤ 9223372036854775807) (hr : Reads w B 1 A n (u8s zs)) (hb : ∀ x ∈ zs, x < 256) :
 Calls Tryz.prog 47 #[.slice A n c] w fun e w' => e = .returned (.int .u32 (sumOf zs)) ∧ w = w' := by
 have hl : zs.length = n := by have := hr.1; simpa [u8s] using this
 have HL := Lib.hid hl; clear hl
 have HR := Lib.hid hr; clear hr
 have HB := Lib.hid hb; clear hb
 go_enter Tryz.func47, Tryz.ntmps47
 go_wp2_with fail
 go_loop [3, 9] (fun s i => ∃ k : Nat, k ≤ n ∧ i = .int .i64 k ∧ s = .int .u32 (crc 4294967295 (zs.take k))) (fun _ i => n - (intOf i).toNat)
 case atStart => exact ⟨0, by omega, rfl, rfl⟩
 case round =>
  obtain ⟨k, hk, rfl, rfl⟩ := hrel
  have hlt0 := crc_lt 4294967295 (zs.take k) (by omega) (fun x hx => HB.out x (List.mem_of_mem_take hx))
  by_cases hlt : k < n
  ·obtain ⟨ad, u0, rfl, _, hx, hcell⟩ := HR.out.at_ hlt
   obtain ⟨z, hz, rfl⟩ := u8s_at hx
   have hz8 := HB.out z (List.mem_of_getElem? hz)
   have HS := Lib.hid (crc_snoc 4294967295 zs k z hz)
   clear hx hz
   generalize crc 4294967295 (zs.take k) = u at *
   have hx : bits .xor .u32 (u : Int) (z : Int) = ((u ^^^ z : Nat) : Int) := u32_xor_nat _ _ hlt0 (by omega)
   have hxl : u ^^^ z < 4294967296 := Nat.xor_lt_two_pow (n := 32) (by omega) (by omega)
   go_wp2_with fail
   go_loop [3, 17] (fun s i => ∃ j : Nat, j ≤ 8 ∧ i = .int .i64 j ∧ s = .int .u32 (crcN j (u ^^^ z))) (fun _ i => 8 - (intOf i).toNat)
   case atStart => exact ⟨0, by omega, rfl, rfl⟩
   case round =>
    obtain ⟨j, hj, rfl, rfl⟩ := hrel
    have hl := crcN_lt j _ hxl
    by_cases hj8 : j < 8
    ·have HB := Lib.hid (show crcN (j + 1) (u ^^^ z) = crcBit (crcN j (u ^^^ z)) from rfl)
     generalize crcN j (u ^^^ z) = v at *
     clear hx hxl hz8 hlt0
     have h1 := u32_and1 v hl
     by_cases hv : v % 2 = 1
     ·have h2 : ((v % 2 : Nat) : Int) = 1 := by omega
      rw [h2] at h1
      clear h2
      have h3 := u32_xorc (v / 2) (by omega)
      rw [show ((v / 2 : Nat) : Int) = (v : Int) / 2 from by omega] at h3
      have h4 : crcBit v = (v / 2) ^^^ 3988292384 := by simp [crcBit, hv]
      generalize ((v / 2) ^^^ 3988292384) = y at *
      have H4 := Lib.hid h4
      clear h4 hv
      go_wp2_with fail
      go_round
      case rel => exact ⟨j + 1, by omega, by go_num, by rw [HB.out, H4.out]⟩
      case measure => simp [intOf]; omega
     ·have h2 : ((v % 2 : Nat) : Int) = 0 := by omega
      rw [h2] at h1
      clear h2
      have h4 : crcBit v = v / 2 := by simp [crcBit, hv]
      have H4 := Lib.hid h4
      clear h4 hv
      go_wp2_with fail
      go_round
      case rel => exact ⟨j + 1, by omega, by go_num, by rw [HB.out, H4.out]; go_num⟩
      case measure => simp [intOf]; omega
    ·obtain rfl : j = 8 := by omega
     go_wp2_with fail
     go_round
     case rel => exact ⟨k + 1, by omega, by go_num, by rw [HS.out]; rfl⟩
     case measure => simp [intOf]; omega
  ·obtain rfl : k = n := by omega
   have hx := u32_notc _ hlt0
   have hsg : IntKind.u32.signed = false := rfl
   have hfin := Lib.hid (show zs.take k = zs from List.take_of_length_le (by rw [HL.out]; omega))
   go_wp2_with fail
   go_ret
   exact ⟨by unfold sumOf; rw [← hfin.out]; simp [List.take_take], rfl⟩
set_option maxHeartbeats 400000 in
theorem refSum_any (A : Option Addr) (n c B : Nat) (zs : List Nat) (w : World) (hm : n ≤ 9223372036854775807) (hr : Reads w B 1 A n (u8s zs)) (hb : ∀ x ∈ zs, x < 256) :
 Calls Tryz.prog 49 #[.slice A n c] w fun e w' => e = .returned (.int .u32 (sumOf zs)) ∧ w = w' := by
 have hl : zs.length = n := by have := hr.1; simpa [u8s] using this
 have HL := Lib.hid hl; clear hl
 have HR := Lib.hid hr; clear hr
 have HB := Lib.hid hb; clear hb
 go_enter Tryz.func49, Tryz.ntmps49
 go_wp2_with fail
 go_loop [3, 4] (fun s i => ∃ k : Nat, k ≤ n ∧ i = .int .i64 k ∧ s = .int .u32 (crc 4294967295 (zs.take k))) (fun _ i => n - (intOf i).toNat)
 case atStart => exact ⟨0, by omega, rfl, rfl⟩
 case round =>
  obtain ⟨k, hk, rfl, rfl⟩ := hrel
  have hlt0 := crc_lt 4294967295 (zs.take k) (by omega) (fun x hx => HB.out x (List.mem_of_mem_take hx))
  by_cases hlt : k < n
  ·obtain ⟨ad, u0, rfl, _, hx, hcell⟩ := HR.out.at_ hlt
   obtain ⟨z, hz, rfl⟩ := u8s_at hx
   have hz8 := HB.out z (List.mem_of_getElem? hz)
   have HS := Lib.hid (crc_snoc 4294967295 zs k z hz)
   clear hx hz
   generalize crc 4294967295 (zs.take k) = u at *
   have hx : bits .xor .u32 (u : Int) (z : Int) = ((u ^^^ z : Nat) : Int) := u32_xor_nat _ _ hlt0 (by omega)
   have hxl : u ^^^ z < 4294967296 := Nat.xor_lt_two_pow (n := 32) (by omega) (by omega)
   go_wp2_with fail
   go_loop [3, 5] (fun s i => ∃ j : Nat, j ≤ 8 ∧ i = .int .i64 j ∧ s = .int .u32 (crcN j (u ^^^ z))) (fun _ i => 8 - (intOf i).toNat)
   case atStart => exact ⟨0, by omega, rfl, rfl⟩
   case round =>
    obtain ⟨j, hj, rfl, rfl⟩ := hrel
    have hl := crcN_lt j _ hxl
    by_cases hj8 : j < 8
    ·have HB := Lib.hid (show crcN (j + 1) (u ^^^ z) = crcBit (crcN j (u ^^^ z)) from rfl)
     generalize crcN j (u ^^^ z) = v at *
     clear hx hxl hz8 hlt0
     by_cases hv : v % 2 = 1
     ·have h1 : (v : Int) % 2 = 1 := by omega
      have h3 := u32_xorc (v / 2) (by omega)
      rw [show ((v / 2 : Nat) : Int) = (v : Int) / 2 from by omega] at h3
      have h4 : crcBit v = (v / 2) ^^^ 3988292384 := by simp [crcBit, hv]
      generalize ((v / 2) ^^^ 3988292384) = y at *
      have H4 := Lib.hid h4
      clear h4 hv
      go_wp2_with fail
      go_round
      case rel => exact ⟨j + 1, by omega, by go_num, by rw [HB.out, H4.out]⟩
      case measure => simp [intOf]; omega
     ·have h1 : (v : Int) % 2 = 0 := by omega
      have h4 : crcBit v = v / 2 := by simp [crcBit, hv]
      have H4 := Lib.hid h4
      clear h4 hv
      go_wp2_with fail
      go_round
      case rel => exact ⟨j + 1, by omega, by go_num, by rw [HB.out, H4.out]; go_num⟩
      case measure => simp [intOf]; omega
    ·obtain rfl : j = 8 := by omega
     go_wp2_with fail
     go_round
     case rel => exact ⟨k + 1, by omega, by go_num, by rw [HS.out]; rfl⟩
     case measure => simp [intOf]; omega
  ·obtain rfl : k = n := by omega
   have hfin := Lib.hid (show zs.take k = zs from List.take_of_length_le (by rw [HL.out]; omega))
   go_wp2_with fail
   go_ret
   exact ⟨by unfold sumOf; rw [← hfin.out]; simp [List.take_take], rfl⟩
end
end Go.Proofs.YthadjmhipckelaaGreatDoor
