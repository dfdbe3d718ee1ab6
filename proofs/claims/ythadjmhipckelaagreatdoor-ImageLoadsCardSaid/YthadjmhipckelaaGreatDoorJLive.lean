import Derived.Test.YthadjmhipckelaaGreatDoorJMake
import Derived.Test.YthadjmhipckelaaGreatDoorJShow
import Derived.Test.YthadjmhipckelaaGreatDoorJLoad2
import Derived.Test.YthadjmhipckelaaGreatDoorJOop
import Derived.Test.YthadjmhipckelaaGreatDoorJText
import Derived.Test.YthadjmhipckelaaGreatDoorJMay
import Derived.Test.YthadjmhipckelaaGreatDoorJAlloc
import Derived.StillTailTactics
set_option linter.unusedVariables false
set_option linter.unusedSectionVars false
namespace Go.Proofs.YthadjmhipckelaaGreatDoor
section
open Go.RowKit
structure Env (w : World) : Prop where
 spares : Spares w
 pow : Pow w
theorem Env.below {w w' : World} (E : Env w) (hb : Below w.heap.size w w') : Env w' := ⟨E.spares.below hb, E.pow.below hb⟩
structure Live (W w : World) (p : HP) (g : Nat) (h : HM) : Prop where
 at_ : HAt w p h
 hg : p.g = g
 good : ∃ l, h.Good l
 env : Env W
 new : ∀ k, p.has k → W.heap.size ≤ k
 below : Below W.heap.size W w
section
variable {W w w' : World} {p p' : HP} {g : Nat} {h h' : HM}
theorem Live.fit (L : Live W w p g h) : h.Fit := by obtain ⟨l, G⟩ := L.good; exact G.fit
theorem Live.after (L : Live W w p g h) (hb : Below w.heap.size w w') : Live W w' p g h :=
 ⟨L.at_.below hb, L.hg, L.good, L.env, L.new, below_top L.below hb⟩
def Told (v : Value) (w : World) (e : Ending) (w' : World) : Prop := e = .returned v ∧ Below w.heap.size w w'
def Said (v : Value) (w : World) (e : Ending) (w' : World) : Prop := e = .returned v ∧ w = w'
theorem Live.size (L : Live W w p g h) : Calls Tryz.prog 14 #[.pointer (some ⟨g, 0, none⟩)] w (Said (.int .i64 (h.size : Nat)) w) := by
 have hh := size_any L.at_ L.fit
 rw [L.hg] at hh
 exact hh
theorem Live.top (L : Live W w p g h) : Calls Tryz.prog 15 #[.pointer (some ⟨g, 0, none⟩)] w (Said (.int .i64 (h.words.length : Nat)) w) := by
 have hh := top_any L.at_ L.fit
 rw [L.hg] at hh
 exact hh
theorem Live.last (L : Live W w p g h) : Calls Tryz.prog 17 #[.pointer (some ⟨g, 0, none⟩)] w (Said (.int .u32 (h.last : Nat)) w) := by
 have hh := last_any L.at_ L.fit
 rw [L.hg] at hh
 exact hh
theorem Live.words (L : Live W w p g h) : Calls Tryz.prog 19 #[.pointer (some ⟨g, 0, none⟩)] w (NewRow 32 (u32s h.words) w) := by
 have hh := words_any L.at_ L.fit
 rw [L.hg] at hh
 exact hh
theorem Live.roots (L : Live W w p g h) : Calls Tryz.prog 21 #[.pointer (some ⟨g, 0, none⟩)] w (NewRow 72 (u32s h.roots) w) := by
 have hh := roots_any L.at_ L.fit
 rw [L.hg] at hh
 exact hh
end
end
section
open Go.RowKit
end
section
open Go.RowKit
theorem tdiv2 (x : Int) (h : x % 2 = 0) : x.tdiv 2 = x / 2 := Int.tdiv_eq_ediv_of_dvd (Int.dvd_of_emod_eq_zero h)
theorem rvalue_any (o : Nat) (ho : o < 4294967296) (h1 : o % 2 = 1) (w : World) :
 Calls Tryz.prog 65 #[.int .u32 o] w fun e w' => e = .returned (.int .i64 (smallV o)) ∧ w = w' := by
 have hp : 0 < (o : Int) := by omega
 by_cases h : o < 2147483648
 ·have HF := Lib.hid (show smallV o = ((o : Int) - 1) / 2 by unfold smallV; rw [if_pos h]; omega)
  have hd : decide ((2147483648 : Int) ≤ (o : Int)) = false := by simp; omega
  clear h1 h
  go_enter Tryz.func65, Tryz.ntmps65
  go_wp2_with fail
  go_ret
  exact ⟨by rw [HF.out]; rfl, rfl⟩
 ·have HF := Lib.hid (show smallV o = ((o : Int) - 4294967296 - 1).tdiv 2 by rw [tdiv2 _ (by omega)]; unfold smallV; rw [if_neg h]; omega)
  have hd : decide ((2147483648 : Int) ≤ (o : Int)) = true := by simp; omega
  clear h1 h
  go_enter Tryz.func65, Tryz.ntmps65
  go_wp2_with fail
  go_ret
  exact ⟨by rw [HF.out]; rfl, rfl⟩
set_option maxHeartbeats 2000000 in
theorem rmay_any (x : Hd) (f : x.Fit) (w : World) :
 Calls Tryz.prog 84 #[x.val] w fun e w' => e = .returned (.bool x.may) ∧ Below w.heap.size w w' := by
 obtain ⟨n, t, s, c, r⟩ := x
 obtain ⟨f1, f2, f3, f4, f5⟩ := f
 simp only at f1 f2 f3 f4 f5
 unfold Hd.val
 by_cases h1 : 65535 < n
 ·have HF := Lib.hid (show Hd.may ⟨n, t, s, c, r⟩ = false by simp [Hd.may]; omega)
  go_enter Tryz.func84, Tryz.ntmps84
  go_wp2_with fail
  go_ret
  exact ⟨by rw [HF.out]; rfl, (Below.refl _ _).alloc (Nat.le_refl _) _⟩
 by_cases h2 : t < 1
 ·have HF := Lib.hid (show Hd.may ⟨n, t, s, c, r⟩ = false by simp [Hd.may]; omega)
  go_enter Tryz.func84, Tryz.ntmps84
  go_wp2_with fail
  go_ret
  exact ⟨by rw [HF.out]; rfl, (Below.refl _ _).alloc (Nat.le_refl _) _⟩
 by_cases h3 : 4 < t
 ·have HF := Lib.hid (show Hd.may ⟨n, t, s, c, r⟩ = false by simp [Hd.may]; omega)
  go_enter Tryz.func84, Tryz.ntmps84
  go_wp2_with fail
  go_ret
  exact ⟨by rw [HF.out]; rfl, (Below.refl _ _).alloc (Nat.le_refl _) _⟩
 by_cases h4 : s = 0
 ·subst h4
  have HF := Lib.hid (show Hd.may ⟨n, t, 0, c, r⟩ = true by simp [Hd.may]; omega)
  go_enter Tryz.func84, Tryz.ntmps84
  go_wp2_with fail
  go_ret
  exact ⟨by rw [HF.out]; rfl, (Below.refl _ _).alloc (Nat.le_refl _) _⟩
 have h4' : ((s : Int) == 0) = false := by simpa using h4
 by_cases h5 : t = 2
 ·subst h5
  by_cases h6 : n = 0
  ·subst h6
   have HF := Lib.hid (show Hd.may ⟨0, 2, s, c, r⟩ = false by simp [Hd.may, h4])
   clear h4
   go_enter Tryz.func84, Tryz.ntmps84
   go_wp2_with fail
   go_ret
   exact ⟨by rw [HF.out]; rfl, (Below.refl _ _).alloc (Nat.le_refl _) _⟩
  ·have HF := Lib.hid (show Hd.may ⟨n, 2, s, c, r⟩ = true by simp [Hd.may]; omega)
   have h7 : (0 : Int) < n := by omega
   clear h4 h6
   go_enter Tryz.func84, Tryz.ntmps84
   go_wp2_with fail
   go_ret
   exact ⟨by rw [HF.out]; simp; omega, (Below.refl _ _).alloc (Nat.le_refl _) _⟩
 ·have HF := Lib.hid (show Hd.may ⟨n, t, s, c, r⟩ = false by simp [Hd.may]; omega)
  have h5' : ((t : Int) == 2) = false := by simp; omega
  clear h4 h5
  go_enter Tryz.func84, Tryz.ntmps84
  go_wp2_with fail
  go_ret
  exact ⟨by rw [HF.out]; rfl, (Below.refl _ _).alloc (Nat.le_refl _) _⟩
set_option maxHeartbeats 1000000 in
theorem rpack_any (x : Hd) (f : x.Fit) (w : World) :
 Calls Tryz.prog 53 #[x.val] w fun e w' => e = .returned x.packed ∧ Below w.heap.size w w' := by
 obtain ⟨n, t, s, c, r⟩ := x
 obtain ⟨f1, f2, f3, f4, f5⟩ := f
 simp only at f1 f2 f3 f4 f5
 have HF := Lib.hid (show Hd.packed ⟨n, t, s, c, r⟩ = .agg #[.int .u32 ((n : Int) + (t : Int) * 16777216 + (s : Int) * 134217728), .int .u32 c, .int .u32 r] by simp [Hd.packed, Hd.w0])
 unfold Hd.val
 go_enter Tryz.func53, Tryz.ntmps53
 go_wp2_with fail
 refine bodyPost_ret (v := .agg #[.int .u32 ((n : Int) + (t : Int) * 16777216 + (s : Int) * 134217728), .int .u32 c, .int .u32 r]) (by simp [results, Tryz.results53, go_sem]) rfl ⟨by rw [HF.out], ?_⟩
 exact ((Below.refl _ _).alloc (Nat.le_refl _) _).alloc (by simp) _
def unpackV (a b c : Nat) : Value := .tuple #[if okhd a b c then (unhd a b c).val else .agg #[.int .i64 0, .int .i64 0, .int .i64 0, .int .u32 0, .int .u32 0], .bool (okhd a b c)]
set_option maxHeartbeats 2000000 in
theorem runpack_any (a b c : Nat) (ha : a < 4294967296) (hb : b < 4294967296) (hc : c < 4294967296) (w : World) :
 Calls Tryz.prog 55 #[.agg #[.int .u32 a, .int .u32 b, .int .u32 c]] w (Told (unpackV a b c) w) := by
 have hx : (unhd a b c).val = .agg #[.int .i64 ((a : Int) % 16777216), .int .i64 ((a : Int) / 16777216 % 8), .int .i64 ((a : Int) / 134217728 % 4), .int .u32 b, .int .u32 c] := rfl
 have HX := Lib.hid hx
 have HF := Lib.hid (unhd_fit a b c hb hc)
 by_cases hlt : a < 536870912
 ·have hd : (((a : Int) / 536870912) != 0) = false := by simp; omega
  cases hok : (unhd a b c).may
  ·have HV := Lib.hid (show unpackV a b c = .tuple #[.agg #[.int .i64 0, .int .i64 0, .int .i64 0, .int .u32 0, .int .u32 0], .bool false] by simp [unpackV, okhd, hok])
   have HM := Lib.hid (fun w => (rmay_any _ HF.out w))
   rw [HX.out, hok] at HM
   clear hok hx hlt
   go_enter Tryz.func55, Tryz.ntmps55
   go_wp2_with fail
   generalize hW : ((w.alloc _).alloc _).alloc _ = W
   have hbW : Below w.heap.size w W := by rw [← hW]; exact (((Below.refl _ _).alloc (Nat.le_refl _) _).alloc (by simp) _).alloc (by simp; omega) _
   have B1 : Blk W (w.heap.size + 1) 103 #[.int .i64 0, .int .i64 0, .int .i64 0, .int .u32 0, .int .u32 0] := by
    rw [← hW]
    have := (Blk.new (w.alloc (.cells #[.int .u32 a, .int .u32 b, .int .u32 c] 107)) 103 #[.int .i64 0, .int .i64 0, .int .i64 0, .int .u32 0, .int .u32 0]).alloc (.cells #[.int .i64 ((a : Int) % 16777216), .int .i64 ((a : Int) / 16777216 % 8), .int .i64 ((a : Int) / 134217728 % 4), .int .u32 b, .int .u32 c] 103)
    rw [World.size_alloc] at this
    exact this
   have B2 : Blk W (w.heap.size + 1 + 1) 103 #[.int .i64 ((a : Int) % 16777216), .int .i64 ((a : Int) / 16777216 % 8), .int .i64 ((a : Int) / 134217728 % 4), .int .u32 b, .int .u32 c] := by
    rw [← hW]
    have := Blk.new ((w.alloc (.cells #[.int .u32 a, .int .u32 b, .int .u32 c] 107)).alloc (.cells #[.int .i64 0, .int .i64 0, .int .i64 0, .int .u32 0, .int .u32 0] 103)) 103 #[.int .i64 ((a : Int) % 16777216), .int .i64 ((a : Int) / 16777216 % 8), .int .i64 ((a : Int) / 134217728 % 4), .int .u32 b, .int .u32 c]
    rw [World.size_alloc, World.size_alloc] at this
    exact this
   clear hW
   refine (HM.out _).mono ?_
   rintro e w1 ⟨rfl, hb1⟩
   replace B1 := B1.below hb1 B1.lt
   replace B2 := B2.below hb1 B2.lt
   have hb := below_top hbW hb1
   clear hb1 hbW
   obtain ⟨a0, a1, a2, a3, a4⟩ := B2.cells5
   obtain ⟨d0, d1, d2, d3, d4⟩ := B1.cells5
   have z1 := B1.fz
   have hz1 := B1.lt
   go_wp2_with fail
   refine bodyPost_ret (v := .tuple #[.agg #[.int .i64 0, .int .i64 0, .int .i64 0, .int .u32 0, .int .u32 0], .bool false]) (by simp [results, Tryz.results55, go_sem, d0, d1, d2, d3, d4]) rfl ⟨by rw [HV.out], ?_⟩
   exact ((((hb.setCell (by simp) _).setCell (by simp) _).setCell (by simp) _).setCell (by simp) _).setCell (by simp) _
  ·have HV := Lib.hid (show unpackV a b c = .tuple #[(unhd a b c).val, .bool true] by simp [unpackV, okhd, hok, hlt])
   have HM := Lib.hid (fun w => (rmay_any _ HF.out w))
   rw [HX.out, hok] at HM
   clear hok hx hlt
   go_enter Tryz.func55, Tryz.ntmps55
   go_wp2_with fail
   generalize hW : ((w.alloc _).alloc _).alloc _ = W
   have hbW : Below w.heap.size w W := by rw [← hW]; exact (((Below.refl _ _).alloc (Nat.le_refl _) _).alloc (by simp) _).alloc (by simp; omega) _
   have B1 : Blk W (w.heap.size + 1) 103 #[.int .i64 0, .int .i64 0, .int .i64 0, .int .u32 0, .int .u32 0] := by
    rw [← hW]
    have := (Blk.new (w.alloc (.cells #[.int .u32 a, .int .u32 b, .int .u32 c] 107)) 103 #[.int .i64 0, .int .i64 0, .int .i64 0, .int .u32 0, .int .u32 0]).alloc (.cells #[.int .i64 ((a : Int) % 16777216), .int .i64 ((a : Int) / 16777216 % 8), .int .i64 ((a : Int) / 134217728 % 4), .int .u32 b, .int .u32 c] 103)
    rw [World.size_alloc] at this
    exact this
   have B2 : Blk W (w.heap.size + 1 + 1) 103 #[.int .i64 ((a : Int) % 16777216), .int .i64 ((a : Int) / 16777216 % 8), .int .i64 ((a : Int) / 134217728 % 4), .int .u32 b, .int .u32 c] := by
    rw [← hW]
    have := Blk.new ((w.alloc (.cells #[.int .u32 a, .int .u32 b, .int .u32 c] 107)).alloc (.cells #[.int .i64 0, .int .i64 0, .int .i64 0, .int .u32 0, .int .u32 0] 103)) 103 #[.int .i64 ((a : Int) % 16777216), .int .i64 ((a : Int) / 16777216 % 8), .int .i64 ((a : Int) / 134217728 % 4), .int .u32 b, .int .u32 c]
    rw [World.size_alloc, World.size_alloc] at this
    exact this
   clear hW
   refine (HM.out _).mono ?_
   rintro e w1 ⟨rfl, hb1⟩
   replace B1 := B1.below hb1 B1.lt
   replace B2 := B2.below hb1 B2.lt
   have hb := below_top hbW hb1
   clear hb1 hbW
   obtain ⟨a0, a1, a2, a3, a4⟩ := B2.cells5
   obtain ⟨d0, d1, d2, d3, d4⟩ := B1.cells5
   have z1 := B1.fz
   have hz1 := B1.lt
   go_wp2_with fail
   refine bodyPost_ret (v := .tuple #[.agg #[.int .i64 ((a : Int) % 16777216), .int .i64 ((a : Int) / 16777216 % 8), .int .i64 ((a : Int) / 134217728 % 4), .int .u32 b, .int .u32 c], .bool true]) (by simp [results, Tryz.results55, go_sem, d0, d1, d2, d3, d4]) rfl ⟨by rw [HV.out]; rw [HX.out], ?_⟩
   exact ((((hb.setCell (by simp) _).setCell (by simp) _).setCell (by simp) _).setCell (by simp) _).setCell (by simp) _
 ·have hd : (((a : Int) / 536870912) != 0) = true := by simp; omega
  have HV := Lib.hid (show unpackV a b c = .tuple #[.agg #[.int .i64 0, .int .i64 0, .int .i64 0, .int .u32 0, .int .u32 0], .bool false] by simp [unpackV, okhd, hlt])
  clear hx hlt
  go_enter Tryz.func55, Tryz.ntmps55
  go_wp2_with fail
  refine bodyPost_ret (v := .tuple #[.agg #[.int .i64 0, .int .i64 0, .int .i64 0, .int .u32 0, .int .u32 0], .bool false]) (by simp [results, Tryz.results55, go_sem]) rfl ⟨by rw [HV.out], ?_⟩
  exact (((Below.refl _ _).alloc (Nat.le_refl _) _).alloc (by simp) _).alloc (by simp; omega) _
end
section
open Go.RowKit
theorem rlength_any (n : Nat) (hn : n ≤ 1000000) (w : World) :
 Calls Tryz.prog 113 #[.int .i64 n] w fun e w' => e = .returned (.tuple #[.int .i64 ((n + 3) / 4 : Nat), .int .i64 (4 * ((n + 3) / 4) - n : Nat)]) ∧ w = w' := by
 go_enter Tryz.func113, Tryz.ntmps113
 go_wp2_with fail
 go_loop [4] (fun v => ∃ k : Nat, v = .int .i64 k ∧ 4 * k < n + 4) (fun v => n - (intOf v).toNat)
 case atStart => exact ⟨0, rfl, by omega⟩
 case round =>
  obtain ⟨k, rfl, hk⟩ := hrel
  by_cases hlt : 4 * k < n
  ·have hl : (4 : Int) * k < n := by omega
   go_wp2_with fail
   go_round
   case rel => exact ⟨k + 1, by go_num, by omega⟩
   case measure => simp [intOf]; omega
  ·have hl : ¬ (4 : Int) * k < n := by omega
   have HE := Lib.hid (show ((n : Int) + 3) / 4 = k by omega)
   have HEN := Lib.hid (show (n + 3) / 4 = k by omega)
   have HE2 := Lib.hid (show ((4 * k - n : Nat) : Int) = (4 : Int) * k - n by omega)
   go_wp2_with fail
   go_ret2
   exact ⟨by rw [HE.out, HEN.out, HE2.out]; rfl, rfl⟩
end
section
open Go.RowKit
theorem wordAt_low (bs : List Nat) (h : ∀ x ∈ bs, x < 256) (k : Nat) : wordAt (bs.take k) (k / 4) < 2 ^ (8 * (k % 4)) := by
 have h0 := getD_lt bs h (4 * (k / 4))
 have h1 := getD_lt bs h (4 * (k / 4) + 1)
 have h2 := getD_lt bs h (4 * (k / 4) + 2)
 unfold wordAt
 simp only [take_getD]
 rcases (by omega : k % 4 = 0 ∨ k % 4 = 1 ∨ k % 4 = 2 ∨ k % 4 = 3) with r | r | r | r <;> rw [r]
 ·rw [if_neg (by omega), if_neg (by omega), if_neg (by omega), if_neg (by omega)]; omega
 ·rw [if_pos (by omega), if_neg (by omega), if_neg (by omega), if_neg (by omega)]; omega
 ·rw [if_pos (by omega), if_pos (by omega), if_neg (by omega), if_neg (by omega)]; omega
 ·rw [if_pos (by omega), if_pos (by omega), if_pos (by omega), if_neg (by omega)]; omega
theorem wordAt_sum (bs : List Nat) (h : ∀ x ∈ bs, x < 256) (k : Nat) : wordAt (bs.take k) (k / 4) ||| (bs.getD k 0 * 2 ^ (8 * (k % 4))) = wordAt (bs.take k) (k / 4) + bs.getD k 0 * 256 ^ (k % 4) := by
 rw [Nat.or_comm, nat_join (8 * (k % 4)) _ _ (by simp) (wordAt_low bs h k), Nat.add_comm, Nat.pow_mul]
theorem pow256_le (j : Nat) (h : j < 3) : 256 ^ j ≤ 65536 := by
 rcases (by omega : j = 0 ∨ j = 1 ∨ j = 2) with rfl | rfl | rfl <;> decide
def RPackB (bs : List Nat) (w : World) (d : Ending) (w' : World) : Prop :=
 ∃ g, d = .returned (.slice (some ⟨g, 0, none⟩) (packM bs).length (packM bs).length) ∧ Row w' g 32 (packM bs).length (u32s (packM bs)) ∧ w.heap.size ≤ g ∧ Below w.heap.size w w'
set_option maxHeartbeats 4000000 in
theorem rpackBytes_any {w : World} (A : Option Addr) (n c B : Nat) (bs : List Nat) (hn : n ≤ 262140) (hr : Reads w B 1 A n (u8c bs)) (hB : B ≤ w.heap.size) (hb : ∀ x ∈ bs, x < 256) :
 Calls Tryz.prog 85 #[.slice A n c] w (RPackB bs w) := by
 have hl : bs.length = n := by have := hr.1; simpa [u8c] using this
 subst hl
 have HL := Lib.hid (rlength_any bs.length (by omega) w)
 have HRD := Lib.hid hr
 have HBB := Lib.hid hb
 have hmk := make_u32 ((bs.length + 3) / 4) (by omega)
 have HPL := Lib.hid (packM_len bs)
 have hpk : packM bs = packK ((bs.length + 3) / 4) bs bs.length := rfl
 have HPK := Lib.hid hpk
 clear hr hb hpk
 have hF : bs.length ≤ 4 * ((bs.length + 3) / 4) := by omega
 have hF2 : (bs.length + 3) / 4 ≤ 65535 := by omega
 generalize hFe : (bs.length + 3) / 4 = F at *
 have HFE := Lib.hid hFe
 clear hFe
 generalize hN : bs.length = N at *
 have HN := Lib.hid hN
 clear hN
 generalize 4 * F - N = sp at *
 go_enter Tryz.func85, Tryz.ntmps85
 go_wp2_with fail
 refine HL.out.mono ?_
 rintro e w1 ⟨rfl, rfl⟩
 go_wp2_with fail
 have HS := Lib.hid (show Row (w.alloc (.cells (zcells (.int .u32 0) F) 32)) w.heap.size 32 F (u32s (packK F bs 0)) from by rw [packK_zero]; exact zcells_row w _ F 0 (by simp only [maxLen]; omega))
 have HB0 := Lib.hid (show Below w.heap.size w (w.alloc (.cells (zcells (.int .u32 0) F) 32)) from (Below.refl _ _).alloc (Nat.le_refl _) _)
 clear hmk
 go_loopw [6] (fun i wr => ∃ k : Nat, k ≤ N ∧ i = .int .i64 k ∧ Row wr w.heap.size 32 F (u32s (packK F bs k)) ∧ Below w.heap.size w wr) (fun i _ => N - (intOf i).toNat)
 case atStart => exact ⟨0, by omega, rfl, HS.out, HB0.out⟩
 case round =>
  clear HS HB0
  obtain ⟨k, hk, rfl, hrow, hbel⟩ := hrel
  by_cases hlt : k < N
  ·obtain ⟨ad, u0, hA, _, hx, hcell0⟩ := (HRD.out.below (hbel.mono hB)).at_ hlt
   obtain ⟨x, hxe, rfl⟩ := u8c_at hx
   have hx8 := HBB.out x (List.mem_of_getElem? hxe)
   have hkF : k / 4 < F := by omega
   have hcw := hrow.cell (i := k / 4) (u := .int .u32 ((wordAt (bs.take k) (k / 4) : Nat) : Int)) (by simp [u32s, packK_get F bs k _ hkF])
   have hcf := hrow.frozen (k / 4)
   have hold := wordAt_low bs HBB.out k
   have hstep := packK_step F bs HBB.out k hkF
   have hsum := wordAt_sum bs HBB.out k
   have hxg : bs.getD k 0 = x := by simp [List.getD, hxe]
   rw [hsum, hxg] at hstep
   have hset := hrow.set (k / 4) (.int .u32 ((wordAt (bs.take k) (k / 4) + x * 256 ^ (k % 4) : Nat) : Int))
   rw [show (u32s (packK F bs k)).set (k / 4) (.int .u32 ((wordAt (bs.take k) (k / 4) + x * 256 ^ (k % 4) : Nat) : Int)) = u32s (packK F bs (k + 1)) by rw [← hstep]; simp [u32s]] at hset
   have hbig : wordAt (bs.take k) (k / 4) + x * 256 ^ (k % 4) ≤ 4294967295 := by
    rcases (by omega : k % 4 = 0 ∨ k % 4 = 1 ∨ k % 4 = 2 ∨ k % 4 = 3) with r | r | r | r <;> rw [r] at hold ⊢ <;> omega
   have HSET := Lib.hid hset
   clear hset hstep hxg hxe hx hrow hsum hold
   generalize wordAt (bs.take k) (k / 4) = old at *
   obtain ⟨j, hj⟩ : ∃ j, k / 4 = j := ⟨_, rfl⟩
   have hdiv : (k : Int) / 4 = (j : Int) := by omega
   rw [hj] at hcw hcf HSET hkF
   clear hj
   have HBEL := Lib.hid hbel
   clear hbel
   have hjF : (j : Int) < (F : Int) := by omega
   have hj0 : (0 : Int) ≤ (j : Int) := by omega
   subst hA
   have hr4 : k % 4 ≤ 3 := by omega
   have hmod : (k : Int) % 4 = ((k % 4 : Nat) : Int) := by omega
   generalize k % 4 = r at *
   have hbigI : (old : Int) + ((x * 256 ^ r : Nat) : Int) ≤ 4294967295 := by omega
   have HBIG := Lib.hid hbigI
   clear hbig hbigI
   obtain ⟨wo, hwo⟩ : ∃ wo : World, wo = wr := ⟨_, rfl⟩
   subst hwo
   go_wp2_with fail
   go_loop [7, 8] (fun v i => ∃ q : Nat, q ≤ r ∧ i = .int .i64 q ∧ v = .int .u32 ((x * 256 ^ q : Nat) : Int)) (fun _ i => r - (intOf i).toNat)
   case atStart => exact ⟨0, by omega, rfl, by simp⟩
   case round =>
    obtain ⟨q, hq, rfl, rfl⟩ := hrel
    by_cases hql : q < r
    ·have hy : x * 256 ^ q ≤ 16777215 := Nat.le_trans (Nat.mul_le_mul (by omega : x ≤ 255) (pow256_le q (by omega))) (by omega)
     have HY := Lib.hid (show x * 256 ^ (q + 1) = x * 256 ^ q * 256 by rw [Nat.pow_succ, Nat.mul_assoc])
     generalize x * 256 ^ q = y at *
     go_wp2_with fail
     go_round
     case rel => exact ⟨q + 1, by omega, by go_num, by rw [HY.out]; go_num⟩
     case measure => simp [intOf]; omega
    ·obtain rfl : q = r := by omega
     have hbigI := HBIG.out
     generalize x * 256 ^ q = y at *
     clear HBIG
     go_wp2_with fail
     go_roundw
     case rel => exact ⟨k + 1, by omega, by go_num, HSET.out, (HBEL.out.setCell (by simp) _)⟩
     case measure => simp [intOf]; omega
  ·obtain rfl : k = N := by omega
   have HR := Lib.hid hrow
   have HBEL := Lib.hid hbel
   clear hrow hbel
   go_wp2_with fail
   go_ret
   refine ⟨w.heap.size, ?_, ?_, Nat.le_refl _, HBEL.out⟩
   ·rw [HPL.out]; rfl
   ·rw [HPL.out, HPK.out]
    exact HR.out
end
section
open Go.RowKit
theorem below_alloc1 {W w : World} {o : Obj} (h : Below W.heap.size W w) : Below W.heap.size W (w.alloc o) := h.alloc h.size o
theorem below_set5 {W w : World} {a b c d e : Value} {g : Nat} (h : Below W.heap.size W w) (hg : W.heap.size ≤ g := by simp) : Below W.heap.size W (((((w.setCell ⟨g, 0, none⟩ a).setCell ⟨g, 1, none⟩ b).setCell ⟨g, 2, none⟩ c).setCell ⟨g, 3, none⟩ d).setCell ⟨g, 4, none⟩ e) :=
 ((((h.setCell (p := ⟨g, 0, none⟩) hg _).setCell (p := ⟨g, 1, none⟩) hg _).setCell (p := ⟨g, 2, none⟩) hg _).setCell (p := ⟨g, 3, none⟩) hg _).setCell (p := ⟨g, 4, none⟩) hg _
theorem begin_one (b : Bool) : (((if b = true then 1 else 0 : Int)) == 1) = b := by cases b <;> rfl
section
variable {w : World} {p : HP} {h : HM} (R : RAt w p h) (f : h.Fit)
include R f
theorem ris_any (o : Nat) (ho : o < 4294967296) :
 Calls Tryz.prog 114 #[ptr p.g, .int .u32 o] w (Said (.bool (h.isB o)) w) := by
 have c4 := R.c4
 have hlen := f.marks
 have hroom := f.room
 have hhi := f.hi
 unfold ptr
 by_cases h0 : o = 0
 ·subst h0
  have HF := Lib.hid (show h.isB 0 = false by simp [HM.isB, objB, kindM])
  go_enter Tryz.func114, Tryz.ntmps114
  go_wp2_with fail
  go_ret
  exact ⟨by rw [HF.out]; rfl, rfl⟩
 have hb : ((o : Int) != 0) = true := by simpa using h0
 by_cases h1 : o % 2 = 1
 ·have HF := Lib.hid (show h.isB o = false by simp [HM.isB, objB, kindM, h0, h1])
  have hb2 : ((o : Int) % 2 == 0) = false := by simp; omega
  clear h0 h1
  go_enter Tryz.func114, Tryz.ntmps114
  go_wp2_with fail
  go_ret
  exact ⟨by rw [HF.out]; rfl, rfl⟩
 have hb2 : ((o : Int) % 2 == 0) = true := by simp; omega
 have hk : objB o = true := (objB_iff o).2 ⟨h0, by omega⟩
 by_cases hl : o / 2 < h.starts.length
 ·have hcell := R.mark hl
  have HF := Lib.hid (show h.isB o = h.starts.getD (o / 2) false by simp [HM.isB, hk])
  generalize h.starts.getD (o / 2) false = b at *
  have hq : ((o : Int) / 2) = ((o / 2 : Nat) : Int) := by omega
  generalize o / 2 = q at *
  have hlt : (q : Int) < (h.starts.length : Int) := by omega
  have h1b := begin_one b
  clear hk h0 h1
  cases b
  all_goals
   go_enter Tryz.func114, Tryz.ntmps114
   go_wp2_with fail
   go_ret
   exact ⟨by rw [HF.out]; rfl, rfl⟩
 ·have HF := Lib.hid (show h.isB o = false by rw [HM.isB, List.getD_eq_getElem?_getD, List.getElem?_eq_none (by omega)]; simp)
  have hq : ((o : Int) / 2) = ((o / 2 : Nat) : Int) := by omega
  generalize o / 2 = q at *
  have hlt : (h.starts.length : Int) ≤ (q : Int) := by omega
  clear hk h0 h1
  go_enter Tryz.func114, Tryz.ntmps114
  go_wp2_with fail
  go_ret
  exact ⟨by rw [HF.out]; rfl, rfl⟩
theorem risclass_any (o : Nat) (ho : o < 4294967296) :
 Calls Tryz.prog 87 #[ptr p.g, .int .u32 o] w (Said (.bool (h.clsB o)) w) := by
 have HI := Lib.hid (ris_any R f o ho)
 unfold ptr at HI ⊢
 by_cases h0 : o = 0
 ·have HF := Lib.hid (show h.clsB o = true by simp [HM.clsB, h0])
  have hb : ((o : Int) == 0) = true := by simp; omega
  clear h0
  go_enter Tryz.func87, Tryz.ntmps87
  go_wp2_with fail
  go_ret
  exact ⟨by rw [HF.out]; rfl, rfl⟩
 ·have HF := Lib.hid (show h.clsB o = h.isB o by simp [HM.clsB, h0])
  have hb : ((o : Int) == 0) = false := by simp; omega
  generalize h.isB o = b at *
  clear h0
  go_enter Tryz.func87, Tryz.ntmps87
  go_wp2_with fail
  refine HI.out.mono ?_
  rintro e w1 ⟨rfl, rfl⟩
  go_wp2_with fail
  go_ret
  exact ⟨by rw [HF.out]; rfl, rfl⟩
theorem rvalb_any (o : Nat) (ho : o < 4294967296) :
 Calls Tryz.prog 88 #[ptr p.g, .int .u32 o] w (Said (.bool (h.valB o)) w) := by
 have HI := Lib.hid (ris_any R f o ho)
 unfold ptr at HI ⊢
 by_cases h0 : o = 0
 ·have HF := Lib.hid (show h.valB o = true by simp [HM.valB, objB, kindM, h0])
  have hb : ((o : Int) == 0) = true := by simp; omega
  clear h0
  go_enter Tryz.func88, Tryz.ntmps88
  go_wp2_with fail
  go_ret
  exact ⟨by rw [HF.out]; rfl, rfl⟩
 have hb : ((o : Int) == 0) = false := by simp; omega
 by_cases h1 : o % 2 = 1
 ·have HF := Lib.hid (show h.valB o = true by simp [HM.valB, objB, kindM, h0, h1])
  have hb2 : ((o : Int) % 2 == 1) = true := by simp; omega
  clear h0 h1
  go_enter Tryz.func88, Tryz.ntmps88
  go_wp2_with fail
  go_ret
  exact ⟨by rw [HF.out]; rfl, rfl⟩
 ·have HF := Lib.hid (show h.valB o = h.isB o by simp [HM.valB, objB, kindM, h0, h1])
  have hb2 : ((o : Int) % 2 == 1) = false := by simp; omega
  generalize h.isB o = b at *
  clear h0 h1
  go_enter Tryz.func88, Tryz.ntmps88
  go_wp2_with fail
  refine HI.out.mono ?_
  rintro e w1 ⟨rfl, rfl⟩
  go_wp2_with fail
  go_ret
  exact ⟨by rw [HF.out]; rfl, rfl⟩
set_option maxHeartbeats 2000000 in
set_option maxRecDepth 100000 in
theorem rheader_any (o : Nat) (ho : o < 4294967296) (hd : h.hdAt (o / 2)) :
 Calls Tryz.prog 60 #[ptr p.g, .int .u32 o] w (Told (h.hd (o / 2)).val w) := by
 have hb0 : ∀ o, Below w.heap.size w (w.alloc o) := fun o => (Below.refl _ _).alloc (Nat.le_refl _) _
 have B0 := R.1.alloc (.cells #[.int .i64 0, .int .i64 0, .int .i64 0, .int .u32 0, .int .u32 0] 103)
 have R' := R.below (hb0 (.cells #[.int .i64 0, .int .i64 0, .int .i64 0, .int .u32 0, .int .u32 0] 103))
 have c1 := R'.c1
 have hroom := f.room
 have hhi := f.hi
 have hd1 := hd.1
 have hd2 := hd.2
 have hw0 := R'.word (i := o / 2) (by omega)
 have hw1 := R'.word (i := o / 2 + 1) (by omega)
 have hw2 := R'.word (i := o / 2 + 2) (by omega)
 have HU := Lib.hid (fun w => runpack_any (h.w (o / 2)) (h.w (o / 2 + 1)) (h.w (o / 2 + 2)) (f.word _) (f.word _) (f.word _) w)
 have HV := Lib.hid (show unpackV (h.w (o / 2)) (h.w (o / 2 + 1)) (h.w (o / 2 + 2)) = .tuple #[(h.hd (o / 2)).val, .bool true] by unfold unpackV; rw [hd2]; rfl)
 rw [HV.out] at HU
 change _ = some (Value.int .u32 ((h.w (o / 2) : Nat) : Int)) at hw0
 change _ = some (Value.int .u32 ((h.w (o / 2 + 1) : Nat) : Int)) at hw1
 change _ = some (Value.int .u32 ((h.w (o / 2 + 2) : Nat) : Int)) at hw2
 have hq : ((o : Int) / 2) = ((o / 2 : Nat) : Int) := by omega
 have HX := Lib.hid (show (h.hd (o / 2)).val = .agg #[.int .i64 (h.hd (o / 2)).size, .int .i64 (h.hd (o / 2)).fmt, .int .i64 (h.hd (o / 2)).spare, .int .u32 (h.hd (o / 2)).cls, .int .u32 (h.hd (o / 2)).ser] from rfl)
 generalize o / 2 = q at *
 generalize h.w q = x0 at *
 generalize h.w (q + 1) = x1 at *
 generalize h.w (q + 2) = x2 at *
 have hlt0 : (q : Int) < (h.words.length : Int) := by omega
 have hlt1 : (q : Int) + 1 < (h.words.length : Int) := by omega
 have hlt2 : (q : Int) + 2 < (h.words.length : Int) := by omega
 have e1 : IntKind.i64.wrap ((q : Int) + 1) = (q : Int) + 1 := IntWalk.i64_in _ (by omega)
 have e2 : IntKind.i64.wrap ((q : Int) + 2) = (q : Int) + 2 := IntWalk.i64_in _ (by omega)
 have p1 : 0 ≤ (q : Int) + 1 := by omega
 have p2 : 0 ≤ (q : Int) + 2 := by omega
 have t1 : ((q : Int) + 1).toNat = q + 1 := by omega
 have t2 : ((q : Int) + 2).toNat = q + 2 := by omega
 have hg0 := R.1.lt
 clear R R' hd hd1 hd2 hb0 HV
 generalize h.hd q = x at *
 unfold ptr
 go_enter Tryz.func60, Tryz.ntmps60
 go_wp2_with fail
 generalize hW : w.alloc _ = W
 rw [hW] at c1 hw0 hw1 hw2 B0
 have hbW : Below w.heap.size w W := by rw [← hW]; exact (Below.refl _ _).alloc (Nat.le_refl _) _
 have BR : Blk W w.heap.size 103 #[.int .i64 0, .int .i64 0, .int .i64 0, .int .u32 0, .int .u32 0] := by rw [← hW]; exact Blk.new _ _ _
 clear hW B0
 have KC := Lib.hid (show ∀ W', Below W.heap.size W W' → W'.cell? ⟨p.g, 1, none⟩ = some (.slice (some ⟨p.gw, 0, none⟩) h.words.length p.cw) ∧ W'.cell? ⟨p.gw, q, none⟩ = some (.int .u32 (x0 : Int)) ∧ W'.cell? ⟨p.gw, q + 1, none⟩ = some (.int .u32 (x1 : Int)) ∧ W'.cell? ⟨p.gw, q + 2, none⟩ = some (.int .u32 (x2 : Int)) from fun W' hb =>
  ⟨(hb.cell (World.block_lt_of_cell? _ _ c1)).trans c1, (hb.cell (World.block_lt_of_cell? _ _ hw0)).trans hw0, (hb.cell (World.block_lt_of_cell? _ _ hw1)).trans hw1, (hb.cell (World.block_lt_of_cell? _ _ hw2)).trans hw2⟩)
 have HUA := Lib.hid (show Calls Tryz.prog 55 #[.agg #[.int .u32 x0, .int .u32 x1, .int .u32 x2]] W.drew fun e w1 => e = .returned (.tuple #[.agg #[.int .i64 x.size, .int .i64 x.fmt, .int .i64 x.spare, .int .u32 x.cls, .int .u32 x.ser], .bool true]) ∧ Below W.heap.size W w1 from
  by rw [← HX.out]; exact (HU.out _).mono fun _ _ ⟨h1, h2⟩ => ⟨h1, below_top (below_drew (Below.refl _ _)) h2⟩)
 have HUB := Lib.hid (show Calls Tryz.prog 55 #[.agg #[.int .u32 x0, .int .u32 x1, .int .u32 x2]] (W.alloc (.cells #[.int .i64 0, .int .i64 0, .int .i64 0, .int .u32 0, .int .u32 0] 103)).drew fun e w1 => e = .returned (.tuple #[.agg #[.int .i64 x.size, .int .i64 x.fmt, .int .i64 x.spare, .int .u32 x.cls, .int .u32 x.ser], .bool true]) ∧ Below W.heap.size W w1 ∧ Blk w1 W.heap.size 103 #[.int .i64 0, .int .i64 0, .int .i64 0, .int .u32 0, .int .u32 0] from
  by rw [← HX.out]; exact (HU.out _).mono fun _ _ ⟨h1, h2⟩ => ⟨h1, below_top (below_drew (below_alloc1 (Below.refl _ _))) h2, ((Blk.new W _ _).drew).below h2 (by simp [World.drew])⟩)
 have hb0 := Below.refl W.heap.size W
 have hn1 : W.heap.size ≠ p.gw := by have := World.block_lt_of_cell? _ _ hw0; simp only at this; omega
 have hn2 : W.heap.size ≠ p.g := by have := World.block_lt_of_cell? _ _ c1; simp only at this; omega
 go_cut [6] (fun v wx => ∃ g, v = ptr g ∧ Below W.heap.size W wx ∧ Blk wx g 103 #[.int .i64 x.size, .int .i64 x.fmt, .int .i64 x.spare, .int .u32 x.cls, .int .u32 x.ser] ∧ W.heap.size ≤ g)
 case first =>
  go_region_held3 (fun w' => w'.cell? ⟨p.g, 1, none⟩ = some (.slice (some ⟨p.gw, 0, none⟩) h.words.length p.cw) ∧ w'.cell? ⟨p.gw, q, none⟩ = some (.int .u32 (x0 : Int)) ∧ w'.cell? ⟨p.gw, q + 1, none⟩ = some (.int .u32 (x1 : Int)) ∧ w'.cell? ⟨p.gw, q + 2, none⟩ = some (.int .u32 (x2 : Int)))
   (first | with_reducible exact KC.out _ hb0 | with_reducible exact KC.out _ (Below.drew hb0) | with_reducible exact KC.out _ (below_alloc1 hb0) | with_reducible exact KC.out _ (Below.drew (below_alloc1 hb0)) | with_reducible exact KC.out _ hk | with_reducible exact KC.out _ (below_alloc1 hk) | with_reducible exact KC.out _ (below_set5 hk (Nat.le_refl _)))
   (first
     | (go_at_call 55; (with_reducible refine HUA.out.mono ?_); rintro e w1 ⟨rfl, hk⟩)
     | (go_at_call 55; (with_reducible refine HUB.out.mono ?_); rintro e w1 ⟨rfl, hk, hB6⟩; obtain ⟨g0, g1, g2, g3, g4⟩ := hB6.cells5; have hgz := hB6.fz; have hgl := hB6.lt))
  all_goals go_wp2_with fail
  all_goals go_meet
  ·exact ⟨_, rfl, below_alloc1 hk, Blk.new _ _ _, hk.size⟩
  ·exact ⟨_, rfl, below_set5 hk (Nat.le_refl _), hB6.setAll5 _ _ _ _ _, Nat.le_refl _⟩
 case rest =>
  obtain ⟨gx, rfl, hbc, BX, hgx⟩ := hcut
  have BR' := BR.below hbc BR.lt
  have hb := hbW.trans (hbc.mono hbW.size)
  clear KC HUA HUB hb0 hbc HU hw0 hw1 hw2 c1 BR
  obtain ⟨d0, d1, d2, d3, d4⟩ := BR'.cells5
  obtain ⟨b0, b1, b2, b3, b4⟩ := BX.cells5
  have z1 := BR'.fz
  have hz := BR'.lt
  unfold ptr
  go_wp2_with fail
  refine bodyPost_ret (v := .agg #[.int .i64 x.size, .int .i64 x.fmt, .int .i64 x.spare, .int .u32 x.cls, .int .u32 x.ser]) (by simp [results, Tryz.results60, go_sem, d0, d1, d2, d3, d4]) rfl ⟨by rw [HX.out], ?_⟩
  exact (((((hb.setCell (by simp) _).setCell (by simp) _).setCell (by simp) _).setCell (by simp) _).setCell (by simp) _)
end
end
section
open Go.RowKit
def HM.placeV (h : HM) (o : Nat) (i : Int) (F : Nat) (fs : List Nat) : Value :=
 .tuple #[.int .i64 ((if h.lookE o i fs = 0 then o / 2 + 3 + (if F = 2 then i.toNat / 4 else i.toNat) else 0 : Nat) : Int), .int .i64 (h.lookE o i fs)]
theorem fld1 : ∀ (a b c d e : Value) (w : World), (Instr.field 103 (.agg #[a, b, c, d, e]) 1).run Tryz.prog w = .ok b w := fun a b c d e w => by kernel_rfl
theorem fld0 : ∀ (a b c d e : Value) (w : World), (Instr.field 103 (.agg #[a, b, c, d, e]) 0).run Tryz.prog w = .ok a w := fun a b c d e w => by kernel_rfl
theorem contains_cases {F t : Nat} {fs : List Nat} (hf : (F = 1 ∧ fs = [1, 4]) ∨ (F = 2 ∧ fs = [2]) ∨ (F = 3 ∧ fs = [3])) :
 (fs.contains t = true ∧ t = F) ∨ (fs.contains t = true ∧ t ≠ F ∧ t = 4 ∧ F = 1) ∨ (fs.contains t = false ∧ t ≠ F ∧ t ≠ 4) ∨ (fs.contains t = false ∧ t ≠ F ∧ t = 4 ∧ F ≠ 1) := by
 rcases hf with ⟨rfl, rfl⟩ | ⟨rfl, rfl⟩ | ⟨rfl, rfl⟩
 ·by_cases h1 : t = 1
  ·subst h1; exact .inl ⟨by decide, rfl⟩
  ·by_cases h4 : t = 4
   ·subst h4; exact .inr (.inl ⟨by decide, by decide, rfl, rfl⟩)
   ·exact .inr (.inr (.inl ⟨by simp [h1, h4], h1, h4⟩))
 ·by_cases h1 : t = 2
  ·subst h1; exact .inl ⟨by decide, rfl⟩
  ·by_cases h4 : t = 4
   ·subst h4; exact .inr (.inr (.inr ⟨by decide, by decide, rfl, by decide⟩))
   ·exact .inr (.inr (.inl ⟨by simp [h1], h1, h4⟩))
 ·by_cases h1 : t = 3
  ·subst h1; exact .inl ⟨by decide, rfl⟩
  ·by_cases h4 : t = 4
   ·subst h4; exact .inr (.inr (.inr ⟨by decide, by decide, rfl, by decide⟩))
   ·exact .inr (.inr (.inl ⟨by simp [h1], h1, h4⟩))
theorem hd_parts {h : HM} (f : h.Fit) (i : Nat) (hi : h.hdAt i) : (h.hd i).len < 4294967296 ∧ ((h.hd i).fmt = 2 → (h.hd i).spare ≤ 4 * (h.hd i).size) ∧ (h.hd i).size < 16777216 ∧ (h.hd i).fmt < 8 ∧ (h.hd i).spare < 4 := by
 have hx := HM.hd_fit f i
 refine ⟨?_, hi.sane, hx.size, hx.fmt, hx.spare⟩
 have := hx.size
 unfold Hd.len
 split <;> omega
section
variable {w : World} {p : HP} {h : HM} (R : RAt w p h) (f : h.Fit) (o : Nat) (ho : o < 4294967296)
include R f ho
theorem rlen_any (hd : h.hdAt (o / 2)) : Calls Tryz.prog 61 #[ptr p.g, .int .u32 o] w (Told (.int .i64 (h.hd (o / 2)).len) w) := by
 have HH := Lib.hid (rheader_any R f o ho hd)
 obtain ⟨h1, h2, h3, h4, h5⟩ := hd_parts f _ hd
 have HX := Lib.hid (show (h.hd (o / 2)).val = .agg #[.int .i64 (h.hd (o / 2)).size, .int .i64 (h.hd (o / 2)).fmt, .int .i64 (h.hd (o / 2)).spare, .int .u32 (h.hd (o / 2)).cls, .int .u32 (h.hd (o / 2)).ser] from rfl)
 clear hd
 generalize h.hd (o / 2) = x at *
 unfold ptr at HH ⊢
 by_cases hf : x.fmt = 2
 ·have HL := Lib.hid (show ((x.len : Nat) : Int) = 4 * (x.size : Int) - x.spare by have := h2 hf; unfold Hd.len; rw [if_pos hf]; omega)
  have hq : ((x.fmt : Int) == 2) = true := by simp; omega
  clear h2 hf h1
  go_enter Tryz.func61, Tryz.ntmps61
  go_wp2_with fail
  refine HH.out.mono ?_
  rintro e w1 ⟨rfl, hb1⟩
  rw [HX.out]
  go_wp2_with fail
  go_ret
  exact ⟨by rw [HL.out]; rfl, hb1.alloc hb1.size _⟩
 ·have HL := Lib.hid (show x.len = x.size by unfold Hd.len; rw [if_neg hf])
  have hq : ((x.fmt : Int) == 2) = false := by simp; omega
  clear h2 hf h1
  go_enter Tryz.func61, Tryz.ntmps61
  go_wp2_with fail
  refine HH.out.mono ?_
  rintro e w1 ⟨rfl, hb1⟩
  rw [HX.out]
  go_wp2_with fail
  go_ret
  exact ⟨by rw [HL.out]; rfl, hb1.alloc hb1.size _⟩
set_option maxRecDepth 100000 in
set_option maxHeartbeats 2000000 in
theorem rplace_any (hh : h.Heads) (i : Int) (F : Nat) (fs : List Nat) (hF : (F = 1 ∧ fs = [1, 4]) ∨ (F = 2 ∧ fs = [2]) ∨ (F = 3 ∧ fs = [3])) (hi1 : i ≤ 9223372036854775807) :
 Calls Tryz.prog 89 #[ptr p.g, .int .u32 o, .int .i64 F, .int .i64 i] w (Told (h.placeV o i F fs) w) := by
 have HI := Lib.hid (ris_any R f o ho)
 have hfl := fld1
 cases hi : h.isB o
 ·have HV := Lib.hid (show h.placeV o i F fs = .tuple #[.int .i64 0, .int .i64 3] by simp [HM.placeV, HM.lookE, hi])
  rw [hi] at HI
  clear hi hF
  unfold ptr at HI ⊢
  go_enter Tryz.func89, Tryz.ntmps89
  go_wp2_with fail
  refine HI.out.mono ?_
  rintro e w1 ⟨rfl, rfl⟩
  go_wp2_with fail
  go_ret2
  exact ⟨by rw [HV.out]; rfl, Below.refl _ _⟩
 ·have hd := HM.isB_hd hh hi
  have HH := Lib.hid (rheader_any R f o ho hd)
  have HL := Lib.hid (fun w' (hb : Below w.heap.size w w') => rlen_any (R.below hb) f o ho hd)
  obtain ⟨g1, g2, g3, g4, g5⟩ := hd_parts f _ hd
  have HE := Lib.hid (show h.lookE o i fs = if fs.contains (h.hd (o / 2)).fmt = false then 21 else if i < 0 ∨ ((h.hd (o / 2)).len : Int) ≤ i then 1 else 0 by simp [HM.lookE, hi])
  have HV := Lib.hid (show h.placeV o i F fs = .tuple #[.int .i64 ((if h.lookE o i fs = 0 then o / 2 + 3 + (if F = 2 then i.toNat / 4 else i.toNat) else 0 : Nat) : Int), .int .i64 (h.lookE o i fs)] from rfl)
  rw [HE.out] at HV
  rw [hi] at HI
  have HX := Lib.hid (show (h.hd (o / 2)).val = .agg #[.int .i64 (h.hd (o / 2)).size, .int .i64 (h.hd (o / 2)).fmt, .int .i64 (h.hd (o / 2)).spare, .int .u32 (h.hd (o / 2)).cls, .int .u32 (h.hd (o / 2)).ser] from rfl)
  have hcc := contains_cases (t := (h.hd (o / 2)).fmt) hF
  have hF3 : F ≤ 3 := by omega
  clear hd hi HE g2 hF hh
  have hq : ((o : Int) / 2) = ((o / 2 : Nat) : Int) := by omega
  have hq2 : o / 2 < 2147483648 := by omega
  generalize h.hd (o / 2) = x at *
  generalize o / 2 = q at *
  unfold ptr at HI HH HL ⊢
  rw [HX.out] at HH
  have bad : ∀ (t4 : Prop), (fs.contains x.fmt = false ∧ x.fmt ≠ F ∧ t4) → Hid (h.placeV o i F fs = .tuple #[.int .i64 0, .int .i64 21]) := fun _ ⟨hc, _, _⟩ => Lib.hid (by rw [HV.out, hc]; simp)
  have good : fs.contains x.fmt = true → Hid (h.placeV o i F fs = .tuple #[.int .i64 ((if (if i < 0 ∨ (x.len : Int) ≤ i then 1 else 0) = 0 then q + 3 + (if F = 2 then i.toNat / 4 else i.toNat) else 0 : Nat) : Int), .int .i64 ((if i < 0 ∨ (x.len : Int) ≤ i then 1 else 0 : Nat) : Int)]) := fun hc => Lib.hid (by rw [HV.out, hc]; simp)
  have fin : fs.contains x.fmt = true → ((((x.fmt : Int) != F) = false) ∨ (((x.fmt : Int) != F) = true ∧ ((x.fmt : Int) != 4) = false ∧ ((F : Int) != 1) = false)) →
   Calls Tryz.prog 89 #[.pointer (some ⟨p.g, 0, none⟩), .int .u32 o, .int .i64 F, .int .i64 i] w (Told (h.placeV o i F fs) w) := by
   intro hc ht
   have HG := good hc
   clear good bad HV hcc hc
   by_cases hneg : i < 0
   ·have HP := Lib.hid (show h.placeV o i F fs = .tuple #[.int .i64 0, .int .i64 1] by rw [HG.out, show (if i < 0 ∨ (x.len : Int) ≤ i then 1 else 0) = 1 from if_pos (Or.inl hneg)]; simp)
    clear HG
    have hd : decide (i < 0) = true := by simpa using hneg
    rcases ht with ht | ⟨ht, ht2, ht3⟩
    all_goals
     go_enter Tryz.func89, Tryz.ntmps89
     go_wp2_with fail
     refine HI.out.mono ?_
     rintro e w1 ⟨rfl, rfl⟩
     go_wp2_with fail
     refine HH.out.mono ?_
     rintro e w1 ⟨rfl, hb1⟩
     go_wp2_with fail
     go_ret2
     exact ⟨by rw [HP.out]; rfl, hb1⟩
   ·have hd : decide (i < 0) = false := by simpa using hneg
    by_cases hge : (x.len : Int) ≤ i
    ·have HP := Lib.hid (show h.placeV o i F fs = .tuple #[.int .i64 0, .int .i64 1] by rw [HG.out, show (if i < 0 ∨ (x.len : Int) ≤ i then 1 else 0) = 1 from if_pos (Or.inr hge)]; simp)
     clear HG
     have hd2 : decide ((x.len : Int) ≤ i) = true := by simpa using hge
     rcases ht with ht | ⟨ht, ht2, ht3⟩
     all_goals
      go_enter Tryz.func89, Tryz.ntmps89
      go_wp2_with fail
      refine HI.out.mono ?_
      rintro e w1 ⟨rfl, rfl⟩
      go_wp2_with fail
      refine HH.out.mono ?_
      rintro e w1 ⟨rfl, hb1⟩
      go_wp2_with fail
      refine (HL.out _ hb1).mono ?_
      rintro e w2 ⟨rfl, hb2⟩
      go_wp2_with fail
      go_ret2
      exact ⟨by rw [HP.out]; rfl, below_top hb1 hb2⟩
    ·have hd2 : decide ((x.len : Int) ≤ i) = false := by simpa using hge
     obtain ⟨k, rfl⟩ := Int.eq_ofNat_of_zero_le (by omega : 0 ≤ i)
     have HP := Lib.hid (show h.placeV o k F fs = .tuple #[.int .i64 ((q + 3 + (if F = 2 then k / 4 else k) : Nat) : Int), .int .i64 0] by rw [HG.out, show (if (k : Int) < 0 ∨ (x.len : Int) ≤ (k : Int) then 1 else 0) = 0 from if_neg (by omega)]; simp)
     have hk : k < 4294967296 := by omega
     clear HG
     by_cases h2 : F = 2
     ·have hp2 : ((F : Int) == 2) = true := by simp; omega
      rw [if_pos h2] at HP
      clear h2
      rcases ht with ht | ⟨ht, ht2, ht3⟩
      all_goals
       go_enter Tryz.func89, Tryz.ntmps89
       go_wp2_with fail
       refine HI.out.mono ?_
       rintro e w1 ⟨rfl, rfl⟩
       go_wp2_with fail
       refine HH.out.mono ?_
       rintro e w1 ⟨rfl, hb1⟩
       go_wp2_with fail
       refine (HL.out _ hb1).mono ?_
       rintro e w2 ⟨rfl, hb2⟩
       go_wp2_with fail
       go_ret2
       exact ⟨by rw [HP.out]; simp, below_top hb1 hb2⟩
     ·have hp2 : ((F : Int) == 2) = false := by simp; omega
      rw [if_neg h2] at HP
      clear h2
      rcases ht with ht | ⟨ht, ht2, ht3⟩
      all_goals
       go_enter Tryz.func89, Tryz.ntmps89
       go_wp2_with fail
       refine HI.out.mono ?_
       rintro e w1 ⟨rfl, rfl⟩
       go_wp2_with fail
       refine HH.out.mono ?_
       rintro e w1 ⟨rfl, hb1⟩
       go_wp2_with fail
       refine (HL.out _ hb1).mono ?_
       rintro e w2 ⟨rfl, hb2⟩
       go_wp2_with fail
       go_ret2
       exact ⟨by rw [HP.out]; simp, below_top hb1 hb2⟩
  rcases hcc with ⟨hc, he⟩ | ⟨hc, h1, h4, hF1⟩ | ⟨hc, h1, h4⟩ | ⟨hc, h1, h4, hF1⟩
  ·exact fin hc (.inl (by simp [he]))
  ·exact fin hc (.inr ⟨by simp; omega, by simp; omega, by simp; omega⟩)
  ·have HB := bad _ ⟨hc, h1, h4⟩
   have ht : ((x.fmt : Int) != F) = true := by simp; omega
   have ht2 : ((x.fmt : Int) != 4) = true := by simp; omega
   clear bad good fin HV hc h1 h4
   go_enter Tryz.func89, Tryz.ntmps89
   go_wp2_with fail
   refine HI.out.mono ?_
   rintro e w1 ⟨rfl, rfl⟩
   go_wp2_with fail
   refine HH.out.mono ?_
   rintro e w1 ⟨rfl, hb1⟩
   go_wp2_with fail
   go_ret2
   exact ⟨by rw [HB.out]; rfl, hb1⟩
  ·have HB := bad _ ⟨hc, h1, trivial⟩
   have ht : ((x.fmt : Int) != F) = true := by simp; omega
   have ht2 : ((x.fmt : Int) != 4) = false := by simp; omega
   have ht3 : ((F : Int) != 1) = true := by simp; omega
   clear bad good fin HV hc h1 h4 hF1
   go_enter Tryz.func89, Tryz.ntmps89
   go_wp2_with fail
   refine HI.out.mono ?_
   rintro e w1 ⟨rfl, rfl⟩
   go_wp2_with fail
   refine HH.out.mono ?_
   rintro e w1 ⟨rfl, hb1⟩
   go_wp2_with fail
   go_ret2
   exact ⟨by rw [HB.out]; rfl, hb1⟩
end
end
end Go.Proofs.YthadjmhipckelaaGreatDoor
