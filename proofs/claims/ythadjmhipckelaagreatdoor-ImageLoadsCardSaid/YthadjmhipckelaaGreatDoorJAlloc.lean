import Derived.Test.YthadjmhipckelaaGreatDoorJClone
import Derived.Test.YthadjmhipckelaaGreatDoorJZeros
import Derived.Test.YthadjmhipckelaaGreatDoorJLook
import Derived.Test.YthadjmhipckelaaGreatDoorJBase
import Derived.Test.YthadjmhipckelaaGreatDoorJMem
import Derived.Test.YthadjmhipckelaaGreatDoorJOop
import Derived.StillTailTactics
import Derived.Deep.DeepCutAuto
import Derived.Deep.LoopGhost
import Derived.Deep.RegionHeld3
import Derived.Deep.RegionLaw
set_option linter.unusedVariables false
set_option linter.unusedSimpArgs false
set_option linter.unusedSectionVars false
namespace Go.Proofs.YthadjmhipckelaaGreatDoor
section
open Go.RowKit
def Made (p : HP) (h' : HM) (v : Value) (w : World) (e : Ending) (w' : World) : Prop := ∃ p', e = .returned v ∧ HAt w' p' h' ∧ Step p p' w w'
end
section
open Go.RowKit
theorem olength_any (n : Nat) (hn : n ≤ 9223372036854775807) (w : World) :
 Calls Tryz.prog 117 #[.int .i64 n] w fun e w' => e = .returned (.tuple (if 262140 < n then #[.int .i64 0, .int .i64 0, .int .i64 1] else #[.int .i64 ((n + 3) / 4 : Nat), .int .i64 (4 * ((n + 3) / 4) - n : Nat), .int .i64 0])) ∧ w = w' := by
 by_cases h1 : 262140 < n
 ·rw [if_pos h1]
  have h1' : (262140 : Int) < n := by omega
  go_enter Tryz.func117, Tryz.ntmps117
  go_wp2_with fail
  go_ret3
  exact ⟨by simp, rfl⟩
 ·rw [if_neg h1]
  have h1' : (n : Int) ≤ 262140 := by omega
  have e1 : (((n + 3) / 4 : Nat) : Int) = ((n : Int) + 3) / 4 := by omega
  have e2 : ((4 * ((n + 3) / 4) - n : Nat) : Int) = 4 * (((n : Int) + 3) / 4) - n := by omega
  rw [e2, e1]
  clear e1 e2 h1
  go_enter Tryz.func117, Tryz.ntmps117
  go_wp2_with fail
  go_ret3
  exact ⟨by simp, rfl⟩
end
section
open Go.RowKit
theorem run_make_rowN {P : Program} (t e : TypeId) (i : TypeInfo) (z : Value) (ht : P.underlying t = some (.slice e)) (hi : P.info? e = some i) (hz : i.zero = some z)
 (kl kc : IntKind) (n c : Nat) (hnc : n ≤ c) (hbytes : i.bytes * c ≤ 281474976710656) (h63 : c ≤ 9223372036854775807) (w : World) :
 (Instr.makeSlice t (.int kl (n : Int)) (.int kc (c : Int))).run P w = .ok (.slice (some ⟨w.heap.size, 0, none⟩) n c) (w.alloc (.cells (madeCells z.cells (c * i.size)) e)) := by
 have hb : (i.bytes : Int) * (c : Int) ≤ 281474976710656 := by
  have h : ((i.bytes * c : Nat) : Int) ≤ 281474976710656 := by omega
  rwa [Int.natCast_mul] at h
 have hr := run_make (P := P) w t e i z ht hi hz kl kc n c (by omega) (by omega) hb (by omega)
 simp only [Int.toNat_natCast] at hr
 exact hr
def zcells (z : Value) (n : Nat) : Array Value := Array.replicate n z
theorem make_u32 (F : Nat) (hF : F ≤ 1048576) (w : World) :
 (Instr.makeSlice 44 (.int .i64 (F : Int)) (.int .i64 (F : Int))).run Tryz.prog w = .ok (.slice (some ⟨w.heap.size, 0, none⟩) F F) (w.alloc (.cells (zcells (.int .u32 0) F) 32)) := by
 obtain ⟨i0, hi0, hz0, hz1, hz2⟩ := info_parts info_u32
 have := run_make_rowN (P := Tryz.prog) 44 32 i0 _ Tryz.underlying44 hi0 hz0 .i64 .i64 F F (Nat.le_refl _) (by rw [hz2]; omega) (by omega) w
 have e : madeCells (Value.int .u32 0).cells (F * 1) = zcells (.int .u32 0) F := by
  apply Array.ext
  ·simp [madeCells, zcells, Value.cells]
  ·intro i h1 h2
   simp [madeCells, zcells, Value.cells, Nat.mod_one]
 rw [this, hz1, e]
theorem zcells_row (w : World) (e : TypeId) (F x : Nat) (hF : F ≤ maxLen) : Row (w.alloc (.cells (zcells (.int .u32 x) F) e)) w.heap.size e F (u32s (List.replicate F x)) :=
 ⟨zcells (.int .u32 x) F, Blk.new w _ _, by simp [u32s], hF, by simp [zcells], by simp [zcells, u32s]⟩
def PackedB (bs : List Nat) (w : World) (d : Ending) (w' : World) : Prop :=
 ∃ g, d = .returned (.tuple #[.slice (some ⟨g, 0, none⟩) (packM bs).length (packM bs).length, .int .i64 (4 * ((bs.length + 3) / 4) - bs.length : Nat), .int .i64 0]) ∧
   Row w' g 32 (packM bs).length (u32s (packM bs)) ∧ w.heap.size ≤ g ∧ Below w.heap.size w w'
theorem u8c_at {zs : List Nat} {k : Nat} {u : Value} (h : (u8c zs)[k]? = some u) : ∃ x, zs[k]? = some x ∧ u = .int .u8 (x : Int) := by
 unfold u8c at h
 rw [List.getElem?_map] at h
 cases hz : zs[k]? with
 | none => rw [hz] at h; cases h
 | some x => rw [hz] at h; exact ⟨x, rfl, by injection h with h; exact h.symm⟩
set_option maxHeartbeats 4000000 in
theorem packBytes_any {w : World} (A : Option Addr) (n c B : Nat) (bs : List Nat) (hn : n ≤ 262140) (hr : Reads w B 1 A n (u8c bs)) (hB : B ≤ w.heap.size) (hb : ∀ x ∈ bs, x < 256) :
 Calls Tryz.prog 94 #[.slice A n c] w (PackedB bs w) := by
 have hl : bs.length = n := by have := hr.1; simpa [u8c] using this
 subst hl
 have HL := Lib.hid (olength_any bs.length (by omega) w)
 rw [if_neg (by omega)] at HL
 have HRD := Lib.hid hr
 have HBB := Lib.hid hb
 have hmk := make_u32 ((bs.length + 3) / 4) (by omega)
 have HPL := Lib.hid (packM_len bs)
 have hpk : packM bs = packK ((bs.length + 3) / 4) bs bs.length := rfl
 have HPK := Lib.hid hpk
 clear hr hb hpk
 have hF : bs.length ≤ 4 * ((bs.length + 3) / 4) := by omega
 have hF2 : (bs.length + 3) / 4 ≤ 65535 := by omega
 generalize hFe : (bs.length + 3) / 4 = F at *
 have HFE := Lib.hid hFe
 clear hFe
 generalize hN : bs.length = N at *
 have HN := Lib.hid hN
 clear hN
 go_enter Tryz.func94, Tryz.ntmps94
 go_wp2_with fail
 refine HL.out.mono ?_
 rintro e w1 ⟨rfl, rfl⟩
 go_wp2_with fail
 have HS := Lib.hid (show Row (w.alloc (.cells (zcells (.int .u32 0) F) 32)) w.heap.size 32 F (u32s (packK F bs 0)) from by rw [packK_zero]; exact zcells_row w _ F 0 (by simp only [maxLen]; omega))
 have HB0 := Lib.hid (show Below w.heap.size w (w.alloc (.cells (zcells (.int .u32 0) F) 32)) from (Below.refl _ _).alloc (Nat.le_refl _) _)
 clear hmk
 go_loopw [24] (fun i wr => ∃ k : Nat, k ≤ N ∧ i = .int .i64 k ∧ Row wr w.heap.size 32 F (u32s (packK F bs k)) ∧ Below w.heap.size w wr) (fun i _ => N - (intOf i).toNat)
 case atStart => exact ⟨0, by omega, rfl, HS.out, HB0.out⟩
 case round =>
  clear HS HB0
  obtain ⟨k, hk, rfl, hrow, hbel⟩ := hrel
  by_cases hlt : k < N
  ·obtain ⟨ad, u0, hA, _, hx, hcell0⟩ := (HRD.out.below (hbel.mono hB)).at_ hlt
   obtain ⟨x, hxe, rfl⟩ := u8c_at hx
   have hx8 := HBB.out x (List.mem_of_getElem? hxe)
   have hkF : k / 4 < F := by omega
   have hcw := hrow.cell (i := k / 4) (u := .int .u32 ((wordAt (bs.take k) (k / 4) : Nat) : Int)) (by simp [u32s, packK_get F bs k _ hkF])
   have hcf := hrow.frozen (k / 4)
   have hold := wordAt_lt (bs.take k) (fun y hy => HBB.out y (List.mem_of_mem_take hy)) (k / 4)
   have hstep := packK_step F bs HBB.out k hkF
   have hxg : bs.getD k 0 = x := by simp [List.getD, hxe]
   rw [hxg] at hstep
   have hset := hrow.set (k / 4) (.int .u32 ((wordAt (bs.take k) (k / 4) ||| (x * 2 ^ (8 * (k % 4))) : Nat) : Int))
   rw [show (u32s (packK F bs k)).set (k / 4) (.int .u32 ((wordAt (bs.take k) (k / 4) ||| (x * 2 ^ (8 * (k % 4))) : Nat) : Int)) = u32s (packK F bs (k + 1)) by rw [← hstep]; simp [u32s]] at hset
   have hsh : x * 2 ^ (8 * (k % 4)) < 4294967296 := by
    rcases (by omega : k % 4 = 0 ∨ k % 4 = 1 ∨ k % 4 = 2 ∨ k % 4 = 3) with r | r | r | r <;> rw [r] <;> omega
   have hor := u32_or_nat (wordAt (bs.take k) (k / 4)) (x * 2 ^ (8 * (k % 4))) hold hsh
   have HSET := Lib.hid hset
   have HOR := Lib.hid hor
   clear hset hor hstep hxg hxe hx hrow hsh
   generalize wordAt (bs.take k) (k / 4) = old at *
   generalize hnw : (old ||| x * 2 ^ (8 * (k % 4))) = nw at *
   clear hnw
   obtain ⟨j, hj⟩ : ∃ j, k / 4 = j := ⟨_, rfl⟩
   have hdiv : (k : Int) / 4 = (j : Int) := by omega
   rw [hj] at hcw hcf HSET hkF
   clear hj
   have HBEL := Lib.hid hbel
   clear hbel
   have hjF : (j : Int) < (F : Int) := by omega
   have hj0 : (0 : Int) ≤ (j : Int) := by omega
   subst hA
   rcases (by omega : k % 4 = 0 ∨ k % 4 = 1 ∨ k % 4 = 2 ∨ k % 4 = 3) with hr | hr | hr | hr
   all_goals
    have hor := HOR.out
    rw [hr] at hor
    have hmod : (k : Int) % 4 = ((k % 4 : Nat) : Int) := by omega
    rw [hr] at hmod
    simp at hor
    clear hr
    go_wp2_with fail
    go_region
   all_goals
    go_wp2_with fail
    go_roundw
    case rel => exact ⟨k + 1, by omega, by go_num, HSET.out, (HBEL.out.setCell (by simp) _).drew⟩
    case measure => simp [intOf]; omega
  ·obtain rfl : k = N := by omega
   have HR := Lib.hid hrow
   have HBEL := Lib.hid hbel
   clear hrow hbel
   go_wp2_with fail
   go_ret3
   refine ⟨w.heap.size, ?_, ?_, Nat.le_refl _, HBEL.out⟩
   ·rw [HPL.out, HN.out, HFE.out]
    simp
   ·rw [HPL.out, HPK.out]
    exact HR.out
end
section
open Go.RowKit
def bytes4 (x : Nat) : List Nat := [x % 256, x / 256 % 256, x / 65536 % 256, x / 16777216 % 256]
def bytesM (ys : List Nat) : List Nat := ys.flatMap bytes4
theorem bytesM_len (ys : List Nat) : (bytesM ys).length = 4 * ys.length := by
 induction ys with
 | nil => rfl
 | cons x ys ih =>
   have : bytesM (x :: ys) = bytes4 x ++ bytesM ys := rfl
   rw [this, List.length_append, ih]
   simp [bytes4]; omega
theorem bytesM_take (ys : List Nat) (k x : Nat) (h : ys[k]? = some x) : bytesM (ys.take (k + 1)) = bytesM (ys.take k) ++ bytes4 x := by
 rw [List.take_add_one, h]
 simp [bytesM, List.flatMap_append]
def spareE (ys : List Nat) (s : Nat) : Nat := if ((bytesM ys).drop (4 * ys.length - s)).all (· == 0) then 0 else 10
def UnpB (ys : List Nat) (s : Nat) (w : World) (d : Ending) (w' : World) : Prop :=
 Below w.heap.size w w' ∧ if spareE ys s = 0 then ∃ g c, d = .returned (.tuple #[.slice (some ⟨g, 0, none⟩) (4 * ys.length - s) (4 * ys.length - s), .int .i64 0]) ∧ Row w' g 5 c (u8c (bytesM ys)) ∧ w.heap.size ≤ g
  else d = .returned (.tuple #[.slice none 0 0, .int .i64 10])
theorem u32s_at {zs : List Nat} {k : Nat} {u : Value} (h : (u32s zs)[k]? = some u) : ∃ x, zs[k]? = some x ∧ u = .int .u32 (x : Int) := by
 unfold u32s at h
 rw [List.getElem?_map] at h
 cases hz : zs[k]? with
 | none => rw [hz] at h; cases h
 | some x => rw [hz] at h; exact ⟨x, rfl, by injection h with h; exact h.symm⟩
theorem one_u8c (l : List Nat) : ∀ u ∈ u8c l, u.oneCell' = true := by
 intro u hu; obtain ⟨x, _, rfl⟩ := List.mem_map.1 hu; rfl
theorem make_u8 (F : Nat) (hF : F ≤ 4194304) (w : World) :
 (Instr.makeSlice 22 (.int .i64 0) (.int .i64 (F : Int))).run Tryz.prog w = .ok (.slice (some ⟨w.heap.size, 0, none⟩) 0 F) (w.alloc (.cells (zcells (.int .u8 0) F) 5)) := by
 obtain ⟨i0, hi0, hz0, hz1, hz2⟩ := info_parts info_u8
 have := run_make_rowN (P := Tryz.prog) 22 5 i0 _ Tryz.underlying22 hi0 hz0 .i64 .i64 0 F (by omega) (by rw [hz2]; omega) (by omega) w
 have e : madeCells (Value.int .u8 0).cells (F * 1) = zcells (.int .u8 0) F := by
  apply Array.ext
  ·simp [madeCells, zcells, Value.cells]
  ·intro i h1 h2
   simp [madeCells, zcells, Value.cells, Nat.mod_one]
 have e0 : ((0 : Nat) : Int) = 0 := rfl
 rw [e0] at this
 rw [this, hz1, e]
theorem zcells_row0 (w : World) (e : TypeId) (F : Nat) (z : Value) (hF : F ≤ maxLen) : Row (w.alloc (.cells (zcells z F) e)) w.heap.size e F [] :=
 ⟨zcells z F, Blk.new w _ _, by simp, hF, by simp [zcells], by simp⟩
theorem Row.ownsB {w : World} {g c B L : Nat} {e : TypeId} {xs : List Value} (h : Row w g e c xs) (hB : B ≤ g) (hl : xs.length = L) : w.ownsRow B e 1 (.slice (some ⟨g, 0, none⟩) L c) L xs := by
 subst hl
 obtain ⟨cur, hb, hl, hm, hc, hx⟩ := h
 exact ⟨by simp, .inr ⟨g, c, cur, rfl, hB, hb, hl, hm, by simpa using hc, by simpa using hx⟩⟩
theorem owns_alloc {w : World} {B e n : Nat} {v : Value} {xs : List Value} (h : w.ownsRow B e 1 v n xs) (o : Obj) : (w.alloc o).ownsRow B e 1 v n xs := by
 obtain ⟨h1, h2⟩ := h
 refine ⟨h1, ?_⟩
 rcases h2 with h2 | ⟨g, c, cur, hv, hB, hb, r⟩
 ·exact .inl h2
 ·exact .inr ⟨g, c, cur, hv, hB, Blk.alloc hb o, r⟩
theorem reads_new4 (w : World) (e : TypeId) (a b c d : Value) : Reads (w.alloc (.cells #[a, b, c, d] e)) (w.heap.size + 1) 1 (some ⟨w.heap.size, 0, none⟩) 4 [a, b, c, d] :=
 ⟨rfl, fun _ => ⟨_, rfl, by simp, fun j u hj => by
   rw [WideShapes.add_plain, Nat.zero_add, (Blk.new w _ _).cell]
   simpa using hj⟩⟩
theorem one4 (a b c d : Int) : ∀ u ∈ ([.int .u8 a, .int .u8 b, .int .u8 c, .int .u8 d] : List Value), u.oneCell' = true := by
 intro u hu
 simp at hu
 rcases hu with rfl | rfl | rfl | rfl <;> rfl
theorem bytes4_eq {w : World} {B e n : Nat} {v : Value} {ys : List Nat} {k x : Nat} {a b c d : Int} (h : w.ownsRow B e 1 v n (u8c (bytesM (ys.take k)) ++ [.int .u8 a, .int .u8 b, .int .u8 c, .int .u8 d]))
 (hk : bytesM (ys.take (k + 1)) = bytesM (ys.take k) ++ bytes4 x) (ha : a = (x : Int) % 256) (hb : b = (x : Int) / 256 % 256) (hc : c = (x : Int) / 65536 % 256) (hd : d = (x : Int) / 16777216 % 256) :
 w.ownsRow B e 1 v n (u8c (bytesM (ys.take (k + 1)))) := by
 subst ha hb hc hd
 rw [hk]
 simpa [u8c, bytes4] using h
theorem below_grown {w w1 w2 : World} {B : Nat} {b : Option Nat} (hBs : B ≤ w.heap.size) (h : Below B w w1) (hg : w1.grownBy w2 b) (hb : ∀ g, b = some g → B ≤ g) : Below B w w2 :=
 ⟨hg.os.trans h.os, hg.tape.trans h.tape, hg.output.trans h.output, Nat.le_trans h.size hg.size, fun k hk => (hg.block k (Nat.lt_of_lt_of_le hk (Nat.le_trans hBs h.size)) (fun e => by have := hb k e.symm; omega)).trans (h.block k hk)⟩
theorem spareE_zero (ys : List Nat) : spareE ys 0 = 0 := by
 unfold spareE
 rw [Nat.sub_zero, ← bytesM_len, List.drop_length]
 rfl
set_option maxRecDepth 100000 in
set_option maxHeartbeats 4000000 in
theorem unpackBytes_any {w : World} (A : Option Addr) (n c B s : Nat) (ys : List Nat) (hn : n ≤ 65535) (hr : Reads w B 1 A n (u32s ys)) (hB : B ≤ w.heap.size) (hb : ∀ x ∈ ys, x < 4294967296) (hs : s ≤ 3) (hs0 : 0 < s → 0 < n) :
 Calls Tryz.prog 101 #[.slice A n c, .int .i64 s] w (UnpB ys s w) := by
 have hl : ys.length = n := by have := hr.1; simpa [u32s] using this
 have HRD := Lib.hid hr
 have HBB := Lib.hid hb
 have HL := Lib.hid hl
 have hmk := make_u8 (4 * n) (by omega) w
 have hS := Lib.hid (show Row (w.alloc (.cells (zcells (.int .u8 0) (4 * n)) 5)) w.heap.size 5 (4 * n) (u8c (bytesM (ys.take 0))) from by simpa [bytesM, u8c] using zcells_row0 w 5 (4 * n) (.int .u8 0) (by simp only [maxLen]; omega))
 have HB0 := Lib.hid (show Below w.heap.size w (w.alloc (.cells (zcells (.int .u8 0) (4 * n)) 5)) from (Below.refl _ _).alloc (Nat.le_refl _) _)
 clear hr hb hl
 obtain ⟨N4, hN4⟩ : ∃ N4, 4 * n = N4 := ⟨_, rfl⟩
 have hN4i : 4 * (n : Int) = (N4 : Int) := by omega
 rw [hN4] at hmk hS HB0
 have HG := Lib.hid (show (s = 0 ∨ 0 < s ∧ 0 < n) by omega)
 have hnz : (decide (0 < (s : Int)) && ((n : Int) == 0)) = false := by
  by_cases h : 0 < s
  ·have := hs0 h
   simp; omega
  ·simp; omega
 have hpos : ∀ v : Bool, (if decide (0 < (s : Int)) = true then v else false) = (decide (0 < (s : Int)) && v) := fun v => by cases decide (0 < (s : Int)) <;> rfl
 clear hs0
 obtain ⟨i0, hi0, hz0, hz1, hz2⟩ := info_parts info_u8
 rcases (by have := HG.out; omega : s = 0 ∨ 0 < s ∧ ¬ n = 0) with h0 | ⟨h0, h1⟩
 ·subst h0
  go_enter Tryz.func101, Tryz.ntmps101
  go_wp2_with fail
  clear hmk
  go_loopw [6, 36] (fun b i wr => ∃ (k g1 c1 L : Nat), k ≤ n ∧ i = .int .i64 k ∧ b = .slice (some ⟨g1, 0, none⟩) L c1 ∧ L = 4 * k ∧ Row wr g1 5 c1 (u8c (bytesM (ys.take k))) ∧ w.heap.size ≤ g1 ∧ Below w.heap.size w wr) (fun _ i _ => n - (intOf i).toNat)
  case atStart => exact ⟨0, _, _, _, by omega, rfl, rfl, rfl, hS.out, Nat.le_refl _, HB0.out⟩
  case round =>
   clear hS HB0
   obtain ⟨k, g1, c1, L, hk, rfl, rfl, hLk, hrow, hg1, hbel⟩ := hrel
   by_cases hlt : k < n
   ·obtain ⟨ad, u0, hA, _, hx, hcell0⟩ := (HRD.out.below (hbel.mono hB)).at_ hlt
    obtain ⟨x, hxe, rfl⟩ := u32s_at hx
    have hx32 := HBB.out x (List.mem_of_getElem? hxe)
    have HTK := Lib.hid (bytesM_take ys k x hxe)
    have HOW := Lib.hid (show wr.ownsRow w.heap.size 5 1 (.slice (some ⟨g1, 0, none⟩) L c1) L (u8c (bytesM (ys.take k))) from by
     have hl : (u8c (bytesM (ys.take k))).length = L := by simp [u8c, bytesM_len, HL.out]; omega
     exact hrow.ownsB hg1 hl)
    subst hA
    have HBEL := Lib.hid hbel
    have HLK := Lib.hid hLk
    clear hrow hbel hx hxe hLk
    go_wp2_with (at_builtin; refine wpList_append_any _ rfl (.tmp 40) (.tmp 52) _ rfl w.heap.size 5 i0 _ 1 1 Tryz.underlying22 hi0 hz0 hz1 hz2 rfl (by omega) (.slice (some ⟨g1, 0, none⟩) L c1) L _ rfl (owns_alloc HOW.out _) (wr.heap.size + 1) (some ⟨wr.heap.size, 0, none⟩) 4 4 _ rfl (reads_new4 _ _ _ _ _ _) (one4 _ _ _ _) (by have := HLK.out; simp only [maxLen]; omega) (by have := HLK.out; omega) (by have := HBEL.out.size; simp; omega) ?_; intro v1 w5 hown5 hgrow hat5; obtain ⟨g5, c5, rfl, hrow5, hlen5, hge5⟩ := Row.of_any (bytes4_eq hown5 HTK.out (by omega) (by omega) (by omega) (by omega)) (by omega); clear hown5)
    go_roundw
    case rel => exact ⟨k + 1, g5, c5, L + 4, by omega, by go_num, rfl, by have := HLK.out; omega, hrow5, hge5, below_grown (Nat.le_refl _) ((HBEL.out).alloc HBEL.out.size _) hgrow (by simp [Value.ownBlock]; exact hg1)⟩
    case measure => simp [intOf]; omega
   ·obtain rfl : k = n := by omega
    have HR := Lib.hid (show Row wr g1 5 c1 (u8c (bytesM ys)) from by rw [← HL.out, List.take_length] at hrow; exact hrow)
    have hLc : L ≤ c1 := by have := hrow; obtain ⟨_, _, h1, _⟩ := hrow; simp [u8c, bytesM_len, HL.out] at h1; omega
    have HBEL := Lib.hid hbel
    have hsl1 : L - L = 0 := by omega
    clear hrow hbel
    by_cases hc : c1 = L
    ·subst hc
     go_wp2_with fail
     go_loopw [63] (fun i wr => i = .int .i64 0 ∧ Row wr g1 5 c1 (u8c (bytesM ys)) ∧ Below w.heap.size w wr) (fun _ _ => 0)
     case atStart => exact ⟨rfl, HR.out, HBEL.out⟩
     case round =>
      clear HR HBEL
      obtain ⟨rfl, hrow, hbel⟩ := hrel
      have HR := Lib.hid hrow
      have HBEL := Lib.hid hbel
      clear hrow hbel
      go_wp2_with fail
      go_ret2
      refine ⟨HBEL.out, ?_⟩
      rw [if_pos (spareE_zero ys)]
      exact ⟨g1, _, by rw [HL.out, Nat.sub_zero, hN4]; rfl, HR.out, hg1⟩
    ·go_wp2_with fail
     go_loopw [63] (fun i wr => i = .int .i64 0 ∧ Row wr g1 5 c1 (u8c (bytesM ys)) ∧ Below w.heap.size w wr) (fun _ _ => 0)
     case atStart => exact ⟨rfl, HR.out, HBEL.out⟩
     case round =>
      clear HR HBEL
      obtain ⟨rfl, hrow, hbel⟩ := hrel
      have HR := Lib.hid hrow
      have HBEL := Lib.hid hbel
      clear hrow hbel
      go_wp2_with fail
      go_ret2
      refine ⟨HBEL.out, ?_⟩
      rw [if_pos (spareE_zero ys)]
      exact ⟨g1, _, by rw [HL.out, Nat.sub_zero, hN4]; rfl, HR.out, hg1⟩
 ·have hnz2 : ((n : Int) == 0) = false := by simp; omega
  have hsp : decide (0 < (s : Int)) = true := by simp; omega
  clear hpos hnz
  go_enter Tryz.func101, Tryz.ntmps101
  go_wp2_with fail
  clear hmk
  go_loopw [6, 36] (fun b i wr => ∃ (k g1 c1 L : Nat), k ≤ n ∧ i = .int .i64 k ∧ b = .slice (some ⟨g1, 0, none⟩) L c1 ∧ L = 4 * k ∧ Row wr g1 5 c1 (u8c (bytesM (ys.take k))) ∧ w.heap.size ≤ g1 ∧ Below w.heap.size w wr) (fun _ i _ => n - (intOf i).toNat)
  case atStart => exact ⟨0, _, _, _, by omega, rfl, rfl, rfl, hS.out, Nat.le_refl _, HB0.out⟩
  case round =>
   clear hS HB0
   obtain ⟨k, g1, c1, L, hk, rfl, rfl, hLk, hrow, hg1, hbel⟩ := hrel
   by_cases hlt : k < n
   ·obtain ⟨ad, u0, hA, _, hx, hcell0⟩ := (HRD.out.below (hbel.mono hB)).at_ hlt
    obtain ⟨x, hxe, rfl⟩ := u32s_at hx
    have hx32 := HBB.out x (List.mem_of_getElem? hxe)
    have HTK := Lib.hid (bytesM_take ys k x hxe)
    have HOW := Lib.hid (show wr.ownsRow w.heap.size 5 1 (.slice (some ⟨g1, 0, none⟩) L c1) L (u8c (bytesM (ys.take k))) from by
     have hl : (u8c (bytesM (ys.take k))).length = L := by simp [u8c, bytesM_len, HL.out]; omega
     exact hrow.ownsB hg1 hl)
    subst hA
    have HBEL := Lib.hid hbel
    have HLK := Lib.hid hLk
    clear hrow hbel hx hxe hLk
    go_wp2_with (at_builtin; refine wpList_append_any _ rfl (.tmp 40) (.tmp 52) _ rfl w.heap.size 5 i0 _ 1 1 Tryz.underlying22 hi0 hz0 hz1 hz2 rfl (by omega) (.slice (some ⟨g1, 0, none⟩) L c1) L _ rfl (owns_alloc HOW.out _) (wr.heap.size + 1) (some ⟨wr.heap.size, 0, none⟩) 4 4 _ rfl (reads_new4 _ _ _ _ _ _) (one4 _ _ _ _) (by have := HLK.out; simp only [maxLen]; omega) (by have := HLK.out; omega) (by have := HBEL.out.size; simp; omega) ?_; intro v1 w5 hown5 hgrow hat5; obtain ⟨g5, c5, rfl, hrow5, hlen5, hge5⟩ := Row.of_any (bytes4_eq hown5 HTK.out (by omega) (by omega) (by omega) (by omega)) (by omega); clear hown5)
    go_roundw
    case rel => exact ⟨k + 1, g5, c5, L + 4, by omega, by go_num, rfl, by have := HLK.out; omega, hrow5, hge5, below_grown (Nat.le_refl _) ((HBEL.out).alloc HBEL.out.size _) hgrow (by simp [Value.ownBlock]; exact hg1)⟩
    case measure => simp [intOf]; omega
   ·obtain rfl : k = n := by omega
    obtain rfl : L = N4 := by omega
    have HR := Lib.hid (show Row wr g1 5 c1 (u8c (bytesM ys)) from by rw [← HL.out, List.take_length] at hrow; exact hrow)
    have hLc : L ≤ c1 := by have := hrow; obtain ⟨_, _, h1, _⟩ := hrow; simp [u8c, bytesM_len, HL.out] at h1; omega
    have hc63 : c1 ≤ 9223372036854775807 := by obtain ⟨_, _, _, h1, _⟩ := hrow; unfold maxLen at h1; exact h1
    have HBEL := Lib.hid hbel
    obtain ⟨T, hT⟩ : ∃ T, L = T + s := ⟨L - s, by omega⟩
    have hT1 : (L : Int) - (s : Int) = (T : Int) := by omega
    have hT2 : L - T = s := by omega
    have hT3 : T ≤ L := by omega
    have hT4 : ¬ c1 = T := by omega
    have hT5 : (T : Int) ≤ (L : Int) := by omega
    have HT := Lib.hid hT
    clear hrow hbel hT hLk
    go_wp2_with fail
    go_loopw [63] (fun i wr => ∃ j : Nat, j ≤ s ∧ i = .int .i64 j ∧ (∀ m, m < j → (bytesM ys).getD (T + m) 0 = 0) ∧ Row wr g1 5 c1 (u8c (bytesM ys)) ∧ Below w.heap.size w wr) (fun i _ => s - (intOf i).toNat)
    case atStart => exact ⟨0, by omega, rfl, fun m h => absurd h (by omega), HR.out, HBEL.out⟩
    case round =>
     clear HR HBEL
     obtain ⟨j, hj, rfl, hzero, hrow, hbel⟩ := hrel
     have HZ := Lib.hid hzero
     have HR := Lib.hid hrow
     have HBEL := Lib.hid hbel
     by_cases hlt : j < s
     ·have hlen : T + j < (bytesM ys).length := by rw [bytesM_len, HL.out, hN4, HT.out]; omega
      have hcell := hrow.cell (i := T + j) (u := .int .u8 ((bytesM ys).getD (T + j) 0 : Nat)) (by simp [u8c, List.getD_eq_getElem?_getD, List.getElem?_eq_getElem hlen])
      have HBY := Lib.hid (show ∀ b, (bytesM ys).getD (T + j) 0 = b → b = 0 → ∀ m, m < j + 1 → (bytesM ys).getD (T + m) 0 = 0 from fun b e1 e2 m hm => by
       by_cases h : m = j
       ·subst h; rw [e1, e2]
       ·exact hzero m (by omega))
      have HNZ := Lib.hid (show (bytesM ys).getD (T + j) 0 ≠ 0 → spareE ys s = 10 from fun hne => by
       unfold spareE
       rw [if_neg]
       intro hall
       rw [List.all_eq_true] at hall
       have hm : (bytesM ys).getD (T + j) 0 ∈ (bytesM ys).drop (4 * ys.length - s) := by
        rw [HL.out, hN4, HT.out, Nat.add_sub_cancel]
        rw [List.getD_eq_getElem?_getD, List.getElem?_eq_getElem hlen, Option.getD_some]
        rw [List.mem_drop_iff_getElem]
        exact ⟨j, by omega, rfl⟩
       have := hall _ hm
       simp at this
       exact hne (by simpa [List.getD_eq_getElem?_getD] using this))
      have hji : (j : Int) < (s : Int) := by omega
      clear hzero hrow hbel
      generalize hb : (bytesM ys).getD (T + j) 0 = b at *
      have HBB2 := Lib.hid hb
      clear hb hlen
      by_cases hb0 : b = 0
      ·have hz := HBY.out b rfl hb0
       have HZ2 := Lib.hid hz
       have hbi : ((b : Int) != 0) = false := by simp; omega
       clear HBY HNZ hz
       go_wp2_with fail
       go_roundw
       case rel => exact ⟨j + 1, by omega, by go_num, HZ2.out, HR.out, HBEL.out⟩
       case measure => simp [intOf]; omega
      ·have hbi : ((b : Int) != 0) = true := by simp; omega
       have HE := Lib.hid (HNZ.out hb0)
       clear HBY HNZ hb0
       go_wp2_with fail
       go_ret2
       refine ⟨HBEL.out, ?_⟩
       rw [HE.out, if_neg (by decide)]
       rfl
     ·obtain rfl : j = s := by omega
      have HE := Lib.hid (show spareE ys j = 0 from by
       unfold spareE
       rw [if_pos]
       rw [List.all_eq_true]
       intro x hx
       rw [HL.out, hN4, HT.out, Nat.add_sub_cancel] at hx
       rw [List.mem_drop_iff_getElem] at hx
       obtain ⟨m, hm, rfl⟩ := hx
       rw [bytesM_len, HL.out, hN4, HT.out] at hm
       have := hzero m (by omega)
       rw [List.getD_eq_getElem?_getD, List.getElem?_eq_getElem (by rw [bytesM_len, HL.out, hN4, HT.out]; omega), Option.getD_some] at this
       simpa using this)
      clear hzero hrow hbel
      go_wp2_with fail
      go_ret2
      refine ⟨HBEL.out, ?_⟩
      rw [if_pos HE.out]
      exact ⟨g1, _, by rw [HL.out, hN4, HT.out, Nat.add_sub_cancel]; rfl, HR.out, hg1⟩
end
section
open Go.RowKit
def HM.fields (h : HM) (o : Nat) : List Nat := (h.words.drop (o / 2 + 3)).take (h.hd (o / 2)).size
def HM.bytesE (h : HM) (o : Nat) : Nat := if h.isB o = false then 3 else if (h.hd (o / 2)).fmt = 2 then spareE (h.fields o) (h.hd (o / 2)).spare else 21
def BytesP (h : HM) (o : Nat) (w : World) (d : Ending) (w' : World) : Prop :=
 Below w.heap.size w w' ∧ if h.bytesE o = 0 then ∃ g c, d = .returned (.tuple #[.slice (some ⟨g, 0, none⟩) (h.hd (o / 2)).len (h.hd (o / 2)).len, .int .i64 0]) ∧ Row w' g 5 c (u8c (bytesM (h.fields o))) ∧ w.heap.size ≤ g
  else d = .returned (.tuple #[.slice none 0 0, .int .i64 (h.bytesE o)])
theorem HM.fields_len {h : HM} {o : Nat} (hd : h.hdAt (o / 2)) : (h.fields o).length = (h.hd (o / 2)).size := by
 have := hd.1
 simp [HM.fields]; omega
theorem below_drew {w w' : World} {B : Nat} (hb : Below B w w') : Below B w w'.drew := ⟨hb.os, hb.tape, hb.output, hb.size, hb.block⟩
def UnpV (ys : List Nat) (s B : Nat) (v : Value) (E : Nat) (w' : World) : Prop :=
 (spareE ys s = 0 ∧ E = 0 ∧ ∃ g c, v = .slice (some ⟨g, 0, none⟩) (4 * ys.length - s) (4 * ys.length - s) ∧ Row w' g 5 c (u8c (bytesM ys)) ∧ B ≤ g) ∨ (spareE ys s = 10 ∧ E = 10 ∧ v = .slice none 0 0)
theorem UnpB.any {ys : List Nat} {s : Nat} {w w' : World} {d : Ending} (h : UnpB ys s w d w') :
 Below w.heap.size w w' ∧ ∃ v E, d = .returned (.tuple #[v, .int .i64 ((E : Nat) : Int)]) ∧ UnpV ys s w.heap.size v E w' := by
 obtain ⟨h1, h2⟩ := h
 refine ⟨h1, ?_⟩
 by_cases he : spareE ys s = 0
 ·rw [if_pos he] at h2
  obtain ⟨g, c, rfl, hr, hg⟩ := h2
  exact ⟨_, 0, rfl, .inl ⟨he, rfl, g, c, rfl, hr, hg⟩⟩
 ·rw [if_neg he] at h2
  have he2 : spareE ys s = 10 := by unfold spareE at *; split <;> simp_all
  exact ⟨_, 10, h2, .inr ⟨he2, rfl, rfl⟩⟩
theorem UnpV.mono {ys : List Nat} {s B B' E : Nat} {v : Value} {w' : World} (h : UnpV ys s B v E w') (hB : B' ≤ B) : UnpV ys s B' v E w' := by
 rcases h with ⟨h1, h2, g, c, h3, h4, h5⟩ | h
 ·exact .inl ⟨h1, h2, g, c, h3, h4, Nat.le_trans hB h5⟩
 ·exact .inr h
section
variable {w : World} {p : HP} {h : HM} (H : HAt w p h) (f : h.Fit) (hh : h.Heads) (hs : Spares w) (o : Nat) (ho : o < 4294967296)
include H f hh hs ho
set_option maxHeartbeats 4000000 in
theorem bytes_any : Calls Tryz.prog 79 #[ptr p.g, .int .u32 o] w (BytesP h o w) := by
 have HC := Lib.hid (Header_any H f hh hs o ho)
 cases hi : h.isB o
 ·have HH := Lib.hid (show h.headerV o = .tuple #[.agg #[.int .i64 0, .int .i64 0, .int .i64 0, .int .u32 0, .int .u32 0], .int .i64 3] by simp [HM.headerV, hi])
  have HF := Lib.hid (show h.bytesE o = 3 by simp [HM.bytesE, hi])
  rw [HH.out] at HC
  clear HH hi
  unfold ptr at HC ⊢
  go_enter Tryz.func79, Tryz.ntmps79
  go_wp2_with fail
  refine HC.out.mono ?_
  rintro e w1 ⟨rfl, hb1⟩
  go_wp2_with fail
  go_ret2
  exact ⟨hb1.alloc hb1.size _, by rw [if_neg (by rw [HF.out]; decide), HF.out]; rfl⟩
 ·have hd := HM.isB_hd hh hi
  have hk := HM.isB_obj hi
  have HH := Lib.hid (show h.headerV o = .tuple #[(h.hd (o / 2)).val, .int .i64 0] by simp [HM.headerV, hi])
  have HX := Lib.hid (show (h.hd (o / 2)).val = .agg #[.int .i64 (h.hd (o / 2)).size, .int .i64 (h.hd (o / 2)).fmt, .int .i64 (h.hd (o / 2)).spare, .int .u32 (h.hd (o / 2)).cls, .int .u32 (h.hd (o / 2)).ser] from rfl)
  have hfit := HM.hd_fit f (o / 2)
  rw [HH.out, HX.out] at HC
  clear HH HX
  by_cases h2 : (h.hd (o / 2)).fmt = 2
  ·have hmay : (h.hd (o / 2)).may = true := by have := hd.2; unfold okhd at this; simp only [Bool.and_eq_true] at this; exact this.1
   have hle : (h.hd (o / 2)).size ≤ 65535 ∧ (h.hd (o / 2)).spare ≤ 3 ∧ (0 < (h.hd (o / 2)).spare → 0 < (h.hd (o / 2)).size) := by
    have := hfit
    unfold Hd.may at hmay
    simp only [Bool.and_eq_true, Bool.or_eq_true, decide_eq_true_eq] at hmay
    obtain ⟨_, _, h3, _, _⟩ := hfit
    omega
   have HE := Lib.hid (show h.bytesE o = spareE (h.fields o) (h.hd (o / 2)).spare by simp [HM.bytesE, hi, h2])
   have HLN := Lib.hid (show (h.hd (o / 2)).len = 4 * (h.hd (o / 2)).size - (h.hd (o / 2)).spare by unfold Hd.len; rw [if_pos h2])
   have HFL := Lib.hid (HM.fields_len hd)
   have hroom := hd.1
   have hmx := f.room
   have hmx2 := f.hi
   have HUB := Lib.hid (fun (w1 : World) (hb : Below w.heap.size w w1) (A : Option Addr) (c : Nat) (hA : 0 < (h.hd (o / 2)).size → A = some ⟨p.gw, o / 2 + 3, none⟩) => unpackBytes_any (w := w1) A (h.hd (o / 2)).size c w1.heap.size (h.hd (o / 2)).spare (h.fields o) hle.1
    ⟨by simp [u32s, HFL.out], fun h0 => ⟨_, hA h0, by have := (H.below hb).lt (.inr (.inl rfl)); exact this, fun j u hj => by
      obtain ⟨x, hx, rfl⟩ := u32s_at hj
      have hjl : j < (h.hd (o / 2)).size := by rw [← HFL.out]; exact (List.getElem?_eq_some_iff.1 hx).1
      have hw := (H.below hb).word (i := o / 2 + 3 + j) (by omega)
      rw [WideShapes.add_plain, hw]
      congr 2
      unfold HM.fields at hx
      rw [List.getElem?_take, if_pos hjl, List.getElem?_drop] at hx
      rw [List.getD_eq_getElem?_getD, hx]
      rfl⟩⟩ (Nat.le_refl _) (fun x hx => f.w32 x (List.mem_of_mem_drop (List.mem_of_mem_take hx))) hle.2.1 hle.2.2)
   have HA := Lib.hid (fun w => at_any p.g o ho hk w)
   have HC0 := Lib.hid (fun w' (hb : Below w.heap.size w w') => show w'.cell? ⟨p.g, 0, none⟩ = some (.slice (some ⟨p.gw, 0, none⟩) h.words.length p.cw) from (H.below hb).c0)
   obtain ⟨hcw, hcm⟩ : h.words.length ≤ p.cw ∧ p.cw ≤ 9223372036854775807 := by
    obtain ⟨_, _, h1, h2, _⟩ := H.2.1; rw [u32s_len] at h1; unfold maxLen at h2; exact ⟨h1, h2⟩
   have hs65 := hle.1
   clear hd hk hi hfit hmay hle
   have HOK := Lib.hid (fun v E w' (hb : Below w.heap.size w w') (hU : UnpV (h.fields o) (h.hd (o / 2)).spare w.heap.size v E w') =>
    show BytesP h o w (.returned (.tuple #[v, .int .i64 (E : Nat)])) w' from by
     rcases hU with ⟨he, rfl, g, c', rfl, hr, hg⟩ | ⟨he, rfl, rfl⟩
     ·exact ⟨hb, by rw [if_pos (by rw [HE.out]; exact he)]; exact ⟨g, c', by rw [HLN.out, HFL.out]; rfl, hr, hg⟩⟩
     ·exact ⟨hb, by rw [if_neg (by rw [HE.out, he]; decide), HE.out, he]⟩)
   clear HE HLN
   generalize hBP : BytesP h o w = BP at *
   clear hBP
   generalize h.hd (o / 2) = x at *
   generalize o / 2 = q at *
   generalize h.words.length = len at *
   obtain ⟨S, t, s, c, r⟩ := x
   dsimp only at *
   subst h2
   obtain ⟨Q, hQ⟩ : ∃ Q, q + 3 = Q := ⟨_, rfl⟩
   obtain ⟨R, hR⟩ : ∃ R, Q + S = R := ⟨_, rfl⟩
   have e1 : (q : Int) + 3 = (Q : Int) := by omega
   have e2 : (Q : Int) + (S : Int) = (R : Int) := by omega
   have e3 : R - Q = S := by omega
   have e4 : Q ≤ R := by omega
   have e4' : (Q : Int) ≤ (R : Int) := by omega
   have e5 : R ≤ p.cw := by omega
   have e5' : (R : Int) ≤ (p.cw : Int) := by omega
   have e6 : IntKind.i64.wrap (R : Int) = (R : Int) := IntWalk.i64_in _ (by omega)
   have e7 : IntKind.i64.wrap (Q : Int) = (Q : Int) := IntWalk.i64_in _ (by omega)
   rw [hQ] at HUB
   have HQ := Lib.hid hQ
   clear hQ hR hroom
   unfold ptr at HC HA ⊢
   by_cases hcap : p.cw = Q
   ·have hS0 : S = 0 := by omega
    subst hS0
    obtain rfl : R = Q := by omega
    clear e3 e4 e4' e5 e5' e6
    have e8 : R - R = 0 := by omega
    go_enter Tryz.func79, Tryz.ntmps79
    go_wp2_with fail
    refine HC.out.mono ?_
    rintro e w1 ⟨rfl, hb1⟩
    have hb := hb1.alloc hb1.size (.cells #[.int .i64 0, .int .i64 2, .int .i64 s, .int .u32 c, .int .u32 r] 103)
    have c0 := HC0.out _ hb
    go_wp2_with fail
    refine (HA.out _).mono ?_
    rintro e w2 ⟨rfl, rfl⟩
    go_wp2_with fail
    go_region_with (refine (HUB.out _ (below_drew hb) (some ⟨p.gw, 0, none⟩) 0 (fun hh => absurd hh (by decide))).mono ?_; rintro e w2 hU; obtain ⟨hb2, v, E, rfl, hU2⟩ := UnpB.any hU)
    all_goals go_wp2_with fail
    all_goals go_ret2
    all_goals exact HOK.out _ _ _ (below_top (below_drew hb) hb2) (hU2.mono hb.size)
   ·skip
    go_enter Tryz.func79, Tryz.ntmps79
    go_wp2_with fail
    refine HC.out.mono ?_
    rintro e w1 ⟨rfl, hb1⟩
    have hb := hb1.alloc hb1.size (.cells #[.int .i64 S, .int .i64 2, .int .i64 s, .int .u32 c, .int .u32 r] 103)
    have c0 := HC0.out _ hb
    go_wp2_with fail
    refine (HA.out _).mono ?_
    rintro e w2 ⟨rfl, rfl⟩
    go_wp2_with fail
    go_region_with (refine (HUB.out _ (below_drew hb) (some ⟨p.gw, Q, none⟩) (p.cw - Q) (fun _ => rfl)).mono ?_; rintro e w2 hU; obtain ⟨hb2, v, E, rfl, hU2⟩ := UnpB.any hU)
    all_goals go_wp2_with fail
    all_goals go_ret2
    all_goals exact HOK.out _ _ _ (below_top (below_drew hb) hb2) (hU2.mono hb.size)
  ·have HE := Lib.hid (show h.bytesE o = 21 by simp [HM.bytesE, hi, h2])
   have hne : (((h.hd (o / 2)).fmt : Int) != 2) = true := by simp; omega
   clear h2 hi hk hd hfit
   have HBAD := Lib.hid (fun w' (hb : Below w.heap.size w w') =>
    show BytesP h o w (.returned (.tuple #[.slice none 0 0, .int .i64 21])) w' from ⟨hb, by rw [if_neg (by rw [HE.out]; decide), HE.out]; rfl⟩)
   generalize hBP : BytesP h o w = BP at *
   clear hBP
   generalize h.hd (o / 2) = x at *
   obtain ⟨S, t, s, c, r⟩ := x
   dsimp only at *
   unfold ptr at HC ⊢
   go_enter Tryz.func79, Tryz.ntmps79
   go_wp2_with fail
   refine HC.out.mono ?_
   rintro e w1 ⟨rfl, hb1⟩
   have hb := hb1.alloc hb1.size (.cells #[.int .i64 S, .int .i64 t, .int .i64 s, .int .u32 c, .int .u32 r] 103)
   go_wp2_with fail
   exact HBAD.out _ hb
end
end
section
open Go.RowKit
attribute [local go_sem] Oper.semAt_some
theorem cnt7I_len : ∀ (k x : Nat), x < 128 ^ (k + 1) → (cnt7 x).length ≤ k + 1
 | 0, x, h => by rw [cnt7_small (by simpa using h)]; simp
 | k + 1, x, h => by
   by_cases hx : x < 128
   ·rw [cnt7_small hx]; simp
   ·rw [cnt7_big hx]
    have := cnt7I_len k (x / 128) (by rw [Nat.div_lt_iff_lt_mul (by omega)]; rw [Nat.pow_succ] at h; exact h)
    simp; omega
theorem cnt7I_len5 {x : Nat} (h : x < 4294967296) : (cnt7 x).length ≤ 5 := cnt7I_len 4 x (by rw [show (128 : Nat) ^ (4 + 1) = 34359738368 by decide]; omega)
set_option maxRecDepth 100000 in
theorem or128I (m : Nat) : bits .or .u8 ((m : Int) % 256) 128 = ((m % 128 + 128 : Nat) : Int) := by
 have h : ∀ a : Fin 256, (a.val ||| 128) = a.val % 128 + 128 := by decide
 have h1 := u8_or_nat (m % 256) 128 (by omega) (by omega)
 rw [h ⟨m % 256, by omega⟩] at h1
 simp only at h1
 rw [show ((m : Int) % 256) = ((m % 256 : Nat) : Int) by omega, show (128 : Int) = ((128 : Nat) : Int) from rfl, h1]
 congr 1
 omega
def BytesN (bs : List Nat) (w : World) (e : Ending) (w' : World) : Prop :=
 ∃ v', e = .returned v' ∧ w'.ownsRow w.heap.size 5 1 v' bs.length (u8c bs) ∧ Below w.heap.size w w'
def BytesB (B : Nat) (v : Value) (bs cs : List Nat) (w : World) (e : Ending) (w' : World) : Prop :=
 ∃ v', e = .returned v' ∧ w'.ownsRow B 5 1 v' (bs ++ cs).length (u8c (bs ++ cs)) ∧ w.heap.size ≤ w'.heap.size ∧ w'.os = w.os ∧ w'.tape = w.tape ∧ w'.output = w.output ∧ (∀ k, k < w.heap.size → v.ownBlock ≠ some k → w'.heap[k]? = w.heap[k]?) ∧ ∀ k, v'.ownBlock = some k → v.ownBlock = some k ∨ w.heap.size ≤ k
set_option maxRecDepth 100000 in
set_option maxHeartbeats 4000000 in
theorem inumber_any (x : Nat) (hx : x < 4294967296) (w : World) : Calls Tryz.prog 45 #[.int .u32 x] w (BytesN (cnt7 x) w) := by
 have hc5 := cnt7I_len5 hx
 obtain ⟨i0, hi0, hz0, hz1, hz2⟩ := info_parts info_u8
 have HO := Lib.hid (show w.ownsRow w.heap.size 5 1 (.slice none 0 0) ([] : List Nat).length (u8c []) from ⟨rfl, .inl ⟨rfl, rfl⟩⟩)
 go_enter Tryz.func45, Tryz.ntmps45
 go_wp2_with fail
 go_loopw [0, 3] (fun y b wr => ∃ m bs', y = .int .u32 (m : Nat) ∧ m < 4294967296 ∧ bs' ++ cnt7 m = cnt7 x ∧ wr.ownsRow w.heap.size 5 1 b (bs' : List Nat).length (u8c bs') ∧ Below w.heap.size w wr) (fun y _ _ => (intOf y).toNat)
 case atStart => exact ⟨x, [], rfl, hx, rfl, HO.out, Below.refl _ _⟩
 case round =>
  clear HO
  obtain ⟨m, bs', rfl, hm, hcat, hown, hgr⟩ := hrel
  have HOW := Lib.hid hown
  have HGR := Lib.hid hgr
  have HCAT := Lib.hid hcat
  clear hown hgr hcat
  have hBw : w.heap.size ≤ wr.heap.size := HGR.out.size
  by_cases h128 : m < 128
  ·have hbl : bs'.length ≤ 10 := by have := congrArg List.length HCAT.out; simp at this; omega
   have hd : decide (128 ≤ (m : Int)) = false := by simp; omega
   have hm8 : ((m : Int) % 256) = (m : Int) := by omega
   have HC1 := Lib.hid (show cnt7 x = bs' ++ [m] by rw [← HCAT.out, cnt7_small h128])
   clear h128 hm
   go_wp2_with (at_builtin; refine wpList_append_any _ rfl (.tmp 14) (.tmp 17) _ rfl w.heap.size 5 i0 _ 1 1 Tryz.underlying22 hi0 hz0 hz1 hz2 rfl (by omega) u3 bs'.length _ rfl (HOW.out.alloc _) (wr.heap.size + 1) (some ⟨wr.heap.size, 0, none⟩) 1 1 (u8c [m]) rfl ⟨rfl, fun _ => ⟨_, rfl, by simp, cell_one_new _ _ _⟩⟩ (one_u8c _) (by simp only [maxLen]; omega) (by omega) (by simp; omega) ?_; intro v1 w5 hown5 hgrow hat5)
   go_ret
   refine ⟨_, rfl, ?_, below_grown (Nat.le_refl _) (HGR.out.alloc HGR.out.size _) hgrow (fun q hq => (HOW.out.lt q hq).1)⟩
   rw [HC1.out]
   unfold u8c at hown5 ⊢
   rw [List.map_append, List.length_append]
   exact hown5
  ·have hbl : bs'.length + 1 ≤ 10 := by have := congrArg List.length HCAT.out; rw [cnt7_big h128] at this; simp at this; omega
   have hd : decide (128 ≤ (m : Int)) = true := by simp; omega
   have hor := or128I m
   have HC1 := Lib.hid (show (bs' ++ [m % 128 + 128]) ++ cnt7 (m / 128) = cnt7 x by rw [← HCAT.out, cnt7_big h128]; simp)
   have HD := Lib.hid (show m / 128 < 4294967296 ∧ m / 128 < m by omega)
   clear h128 hm
   go_wp2_with (at_builtin; refine wpList_append_any _ rfl (.tmp 6) (.tmp 10) _ rfl w.heap.size 5 i0 _ 1 1 Tryz.underlying22 hi0 hz0 hz1 hz2 rfl (by omega) u3 bs'.length _ rfl (HOW.out.alloc _) (wr.heap.size + 1) (some ⟨wr.heap.size, 0, none⟩) 1 1 (u8c [m % 128 + 128]) rfl ⟨rfl, fun _ => ⟨_, rfl, by simp, cell_one_new _ _ _⟩⟩ (one_u8c _) (by simp only [maxLen]; omega) (by omega) (by simp; omega) ?_; intro v1 w5 hown5 hgrow hat5)
   go_roundw
   case rel =>
    refine ⟨m / 128, bs' ++ [m % 128 + 128], by go_num, HD.out.1, HC1.out, ?_, below_grown (Nat.le_refl _) (HGR.out.alloc HGR.out.size _) hgrow (fun q hq => (HOW.out.lt q hq).1)⟩
    unfold u8c at hown5 ⊢
    rw [List.map_append, List.length_append]
    exact hown5
   case measure => have := HD.out.2; simp [intOf]; omega
def four4 (x : Nat) : List Nat := [x % 256, x / 256 % 256, x / 65536 % 256, x / 16777216 % 256]
set_option maxRecDepth 100000 in
set_option maxHeartbeats 4000000 in
theorem ifour_any (x : Nat) (hx : x < 4294967296) (w : World) : Calls Tryz.prog 46 #[.int .u32 x] w (BytesN (four4 x) w) := by
 have e0 : IntKind.u8.wrap (x : Int) = ((x % 256 : Nat) : Int) := by show (x : Int) % 256 = _; omega
 have e1 : IntKind.u8.wrap ((x : Int) / 256) = ((x / 256 % 256 : Nat) : Int) := by show ((x : Int) / 256) % 256 = _; omega
 have e2 : IntKind.u8.wrap ((x : Int) / 65536) = ((x / 65536 % 256 : Nat) : Int) := by show ((x : Int) / 65536) % 256 = _; omega
 have e3 : IntKind.u8.wrap ((x : Int) / 16777216) = ((x / 16777216 % 256 : Nat) : Int) := by show ((x : Int) / 16777216) % 256 = _; omega
 go_enter Tryz.func46, Tryz.ntmps46
 go_wp2_with fail
 go_ret
 exact ⟨_, rfl, ⟨rfl, .inr ⟨w.heap.size, 4, _, rfl, Nat.le_refl _, heap_alloc_new w _, Nat.le_refl _, by simp [maxLen], rfl, rfl⟩⟩, (Below.refl _ _).alloc (Nat.le_refl _) _⟩
theorem own_sliceI {w : World} {base : Nat} {e : TypeId} {v : Value} {n : Nat} {xs : List Value} (h : w.ownsRow base e 1 v n xs) : ∃ A c, v = .slice A n c ∧ Reads w w.heap.size 1 A n xs := by
 rcases Nat.eq_zero_or_pos n with h0 | h0
 ·have hx : xs = [] := List.eq_nil_of_length_eq_zero (by have := h.1; omega)
  subst hx
  subst h0
  rcases h.2 with ⟨h1, _⟩ | ⟨g, cap, cur, rfl, _⟩
  ·exact ⟨none, 0, h1, rfl, fun hh => by omega⟩
  ·exact ⟨some ⟨g, 0, none⟩, cap, rfl, rfl, fun hh => by omega⟩
 ·obtain ⟨g, c, rfl, hr, hx, hb⟩ := Row.of_any h h0
  refine ⟨some ⟨g, 0, none⟩, c, rfl, ?_⟩
  rw [← hx]
  exact hr.reads (h.lt g rfl).2
theorem own_sameI {w w' : World} {base s n : Nat} {e : TypeId} {v : Value} {xs : List Value} (h : w.ownsRow base e s v n xs) (hs : ∀ k, v.ownBlock = some k → w'.heap[k]? = w.heap[k]?) : w'.ownsRow base e s v n xs := by
 refine ⟨h.1, ?_⟩
 rcases h.2 with h1 | ⟨g, cap, cur, h1, h2, h3, h4⟩
 ·exact .inl h1
 ·exact .inr ⟨g, cap, cur, h1, h2, (hs g (by rw [h1]; rfl)).trans h3, h4⟩
structure RB (w2 wr : World) (B : Nat) (v : Value) (bs : List Nat) : Prop where
 own : wr.ownsRow B 5 1 v bs.length (u8c bs)
 base : Below w2.heap.size w2 wr
 hB : w2.heap.size ≤ B
 top : B ≤ wr.heap.size
theorem RB.below {w2 w w' : World} {B : Nat} {v : Value} {bs : List Nat} (C : RB w2 w B v bs) (hb : Below w.heap.size w w') : RB w2 w' B v bs :=
 ⟨own_sameI C.own (fun k hk => hb.block k (C.own.lt k hk).2), below_top C.base hb, C.hB, Nat.le_trans C.top hb.size⟩
theorem u8c_appI (a b : List Nat) : u8c (a ++ b) = u8c a ++ u8c b := by simp [u8c]
theorem RB.app {w2 w w' : World} {B m : Nat} {v v' : Value} {bs cs : List Nat} (C : RB w2 w B v bs) (hm : cs.length = m) (ho : w'.ownsRow B 5 1 v' (bs.length + m) (u8c bs ++ u8c cs)) (hg : w.grownBy w' v.ownBlock) : RB w2 w' B v' (bs ++ cs) :=
 ⟨by rw [List.length_append, u8c_appI, hm]; exact ho, C.base.grown hg (Nat.le_trans C.hB C.top) (fun k hk => Nat.le_trans C.hB (C.own.lt k hk).1), C.hB, Nat.le_trans C.top hg.size⟩
theorem RB.bytes {w2 w w' : World} {B : Nat} {v : Value} {bs cs : List Nat} {e : Ending} (C : RB w2 w B v bs) (h : BytesB B v bs cs w e w') : ∃ v', e = .returned v' ∧ RB w2 w' B v' (bs ++ cs) := by
 obtain ⟨v', rfl, h1, h2, h3, h4, h5, h6, -⟩ := h
 exact ⟨v', rfl, h1, ⟨h3.trans C.base.os, h4.trans C.base.tape, h5.trans C.base.output, Nat.le_trans C.base.size h2, fun k hk => (h6 k (Nat.lt_of_lt_of_le hk C.base.size) (fun e => by have := (C.own.lt k e).1; have := C.hB; omega)).trans (C.base.block k hk)⟩, C.hB, Nat.le_trans C.top h2⟩
set_option maxRecDepth 100000 in
set_option maxHeartbeats 4000000 in
theorem rfour_any {w : World} {B : Nat} {v : Value} {bs : List Nat} (hown : w.ownsRow B 5 1 v bs.length (u8c bs)) (hB : B ≤ w.heap.size) (hn : bs.length ≤ 100000000000000) (x : Nat) (hx : x < 4294967296) :
 Calls Tryz.prog 59 #[v, .int .u32 x] w (BytesB B v bs (four4 x) w) := by
 have e0 : IntKind.u8.wrap (x : Int) = ((x % 256 : Nat) : Int) := by show (x : Int) % 256 = _; omega
 have e1 : IntKind.u8.wrap ((x : Int) / 256) = ((x / 256 % 256 : Nat) : Int) := by show ((x : Int) / 256) % 256 = _; omega
 have e2 : IntKind.u8.wrap ((x : Int) / 65536) = ((x / 65536 % 256 : Nat) : Int) := by show ((x : Int) / 65536) % 256 = _; omega
 have e3 : IntKind.u8.wrap ((x : Int) / 16777216) = ((x / 16777216 % 256 : Nat) : Int) := by show ((x : Int) / 16777216) % 256 = _; omega
 obtain ⟨i0, hi0, hz0, hz1, hz2⟩ := info_parts info_u8
 have HO := Lib.hid hown
 clear hown
 go_enter Tryz.func59, Tryz.ntmps59
 go_wp2_with (at_builtin; refine wpList_append_any _ rfl (.tmp 5) (.tmp 17) _ rfl B 5 i0 _ 1 1 Tryz.underlying22 hi0 hz0 hz1 hz2 rfl (by omega) v bs.length (u8c bs) rfl (HO.out.alloc _) (w.heap.size + 1) (some ⟨w.heap.size, 0, none⟩) 4 4 (u8c (four4 x)) rfl ⟨rfl, fun _ => ⟨_, rfl, by simp, fun j u hu => (by rw [WideShapes.add_plain, Nat.zero_add]; refine ((Blk.new w _ _).cell j).trans ?_; rw [← hu]; simp [u8c, four4])⟩⟩ (one_u8c _) (by simp only [maxLen]; omega) (by omega) (by simp; omega) ?_; intro v1 w5 hown5 hgrow hat5)
 go_ret
 refine ⟨v1, rfl, ?_, Nat.le_trans (by simp) hgrow.size, hgrow.os, hgrow.tape, hgrow.output, fun k hk hne => (hgrow.block k (by simp; omega) (fun e => hne e.symm)).trans (Below.heap_alloc w _ k hk), fun k hk => ?_⟩
 ·rw [List.length_append, u8c_appI]; exact hown5
 ·rcases hat5 with e | e
  ·exact .inl (e ▸ hk)
  ·rw [e] at hk; injection hk with hk; simp at hk; exact .inr (by omega)
end
end Go.Proofs.YthadjmhipckelaaGreatDoor
