/- PackBytes of the program. -/
import Derived.Test.YtkpjkbkglnabiaaGreatDoorPack
import Derived.Test.YtkpjkbkglnabiaaGreatDoorPkM
import Derived.Deep.LoopGhost
set_option linter.unusedVariables false
namespace Go.Proofs.YtkpjkbkglnabiaaGreatDoor
open Go.RowKit

theorem run_make_rowN {P : Program} (t e : TypeId) (i : TypeInfo) (z : Value) (ht : P.underlying t = some (.slice e)) (hi : P.info? e = some i) (hz : i.zero = some z)
    (kl kc : IntKind) (n c : Nat) (hnc : n ≤ c) (hbytes : i.bytes * c ≤ 281474976710656) (h63 : c ≤ 9223372036854775807) (w : World) :
    (Instr.makeSlice t (.int kl (n : Int)) (.int kc (c : Int))).run P w = .ok (.slice (some ⟨w.heap.size, 0, none⟩) n c) (w.alloc (.cells (madeCells z.cells (c * i.size)) e)) := by
  have hb : (i.bytes : Int) * (c : Int) ≤ 281474976710656 := by
    have h : ((i.bytes * c : Nat) : Int) ≤ 281474976710656 := by omega
    rwa [Int.natCast_mul] at h
  have hr := run_make (P := P) w t e i z ht hi hz kl kc n c (by omega) (by omega) hb (by omega)
  simp only [Int.toNat_natCast] at hr
  exact hr

def zcells (z : Value) (n : Nat) : Array Value := Array.replicate n z
theorem make_u32 (F : Nat) (hF : F ≤ 1048576) (w : World) :
    (Instr.makeSlice 42 (.int .i64 (F : Int)) (.int .i64 (F : Int))).run Tryz.prog w = .ok (.slice (some ⟨w.heap.size, 0, none⟩) F F) (w.alloc (.cells (zcells (.int .u32 0) F) 29)) := by
  obtain ⟨i0, hi0, hz0, hz1, hz2⟩ := info_parts info_u32
  have := run_make_rowN (P := Tryz.prog) 42 29 i0 _ Tryz.underlying42 hi0 hz0 .i64 .i64 F F (Nat.le_refl _) (by rw [hz2]; omega) (by omega) w
  have e : madeCells (Value.int .u32 0).cells (F * 1) = zcells (.int .u32 0) F := by
    apply Array.ext
    · simp [madeCells, zcells, Value.cells]
    · intro i h1 h2
      simp [madeCells, zcells, Value.cells, Nat.mod_one]
  rw [this, hz1, e]
theorem zcells_row (w : World) (e : TypeId) (F x : Nat) (hF : F ≤ maxLen) : Row (w.alloc (.cells (zcells (.int .u32 x) F) e)) w.heap.size e F (u32s (List.replicate F x)) :=
  ⟨zcells (.int .u32 x) F, Blk.new w _ _, by simp [u32s], hF, by simp [zcells], by simp [zcells, u32s]⟩

/-- What PackBytes answers: a new row of words, the spare bytes. -/
def PackedB (bs : List Nat) (w : World) (d : Ending) (w' : World) : Prop :=
  ∃ g, d = .returned (.tuple #[.slice (some ⟨g, 0, none⟩) (packM bs).length (packM bs).length, .int .i64 (4 * ((bs.length + 3) / 4) - bs.length : Nat), .int .i64 0]) ∧
    Row w' g 29 (packM bs).length (u32s (packM bs)) ∧ w.heap.size ≤ g ∧ Below w.heap.size w w'

theorem u8c_at {zs : List Nat} {k : Nat} {u : Value} (h : (u8c zs)[k]? = some u) : ∃ x, zs[k]? = some x ∧ u = .int .u8 (x : Int) := by
  unfold u8c at h
  rw [List.getElem?_map] at h
  cases hz : zs[k]? with
  | none => rw [hz] at h; cases h
  | some x => rw [hz] at h; exact ⟨x, rfl, by injection h with h; exact h.symm⟩

theorem packBytes_long {w : World} (A : Option Addr) (n c : Nat) (hn : 262140 < n) (hm : n ≤ 9223372036854775807) :
    Calls Tryz.prog 63 #[.slice A n c] w fun e w' => e = .returned (.tuple #[.slice none 0 0, .int .i64 0, .int .i64 2]) ∧ w = w' := by
  have HL := Lib.hid (olength_any n hm w)
  rw [if_pos hn] at HL
  go_enter Tryz.func63, Tryz.ntmps63
  go_wp2_with fail
  refine HL.out.mono ?_
  rintro e w1 ⟨rfl, rfl⟩
  go_wp2_with fail
  go_ret3
  exact ⟨by simp, rfl⟩

set_option maxHeartbeats 4000000 in
theorem packBytes_any {w : World} (A : Option Addr) (n c B : Nat) (bs : List Nat) (hn : n ≤ 262140) (hr : Reads w B 1 A n (u8c bs)) (hB : B ≤ w.heap.size) (hb : ∀ x ∈ bs, x < 256) :
    Calls Tryz.prog 63 #[.slice A n c] w (PackedB bs w) := by
  have hl : bs.length = n := by have := hr.1; simpa [u8c] using this
  subst hl
  have HL := Lib.hid (olength_any bs.length (by omega) w)
  rw [if_neg (by omega)] at HL
  have HRD := Lib.hid hr
  have HBB := Lib.hid hb
  have hmk := make_u32 ((bs.length + 3) / 4) (by omega)
  have HPL := Lib.hid (packM_len bs)
  have hpk : packM bs = packK ((bs.length + 3) / 4) bs bs.length := rfl
  have HPK := Lib.hid hpk
  clear hr hb hpk
  have hF : bs.length ≤ 4 * ((bs.length + 3) / 4) := by omega
  have hF2 : (bs.length + 3) / 4 ≤ 65535 := by omega
  generalize hFe : (bs.length + 3) / 4 = F at *
  have HFE := Lib.hid hFe
  clear hFe
  generalize hN : bs.length = N at *
  have HN := Lib.hid hN
  clear hN
  go_enter Tryz.func63, Tryz.ntmps63
  go_wp2_with fail
  refine HL.out.mono ?_
  rintro e w1 ⟨rfl, rfl⟩
  go_wp2_with fail
  have HS := Lib.hid (show Row (w.alloc (.cells (zcells (.int .u32 0) F) 29)) w.heap.size 29 F (u32s (packK F bs 0)) from by rw [packK_zero]; exact zcells_row w _ F 0 (by simp only [maxLen]; omega))
  have HB0 := Lib.hid (show Below w.heap.size w (w.alloc (.cells (zcells (.int .u32 0) F) 29)) from (Below.refl _ _).alloc (Nat.le_refl _) _)
  clear hmk
  go_loopw [24] (fun i wr => ∃ k : Nat, k ≤ N ∧ i = .int .i64 k ∧ Row wr w.heap.size 29 F (u32s (packK F bs k)) ∧ Below w.heap.size w wr) (fun i _ => N - (intOf i).toNat)
  case atStart => exact ⟨0, by omega, rfl, HS.out, HB0.out⟩
  case round =>
    clear HS HB0
    obtain ⟨k, hk, rfl, hrow, hbel⟩ := hrel
    by_cases hlt : k < N
    · obtain ⟨ad, u0, hA, _, hx, hcell0⟩ := (HRD.out.below (hbel.mono hB)).at_ hlt
      obtain ⟨x, hxe, rfl⟩ := u8c_at hx
      have hx8 := HBB.out x (List.mem_of_getElem? hxe)
      have hkF : k / 4 < F := by omega
      have hcw := hrow.cell (i := k / 4) (u := .int .u32 ((wordAt (bs.take k) (k / 4) : Nat) : Int)) (by simp [u32s, packK_get F bs k _ hkF])
      have hcf := hrow.frozen (k / 4)
      have hold := wordAt_lt (bs.take k) (fun y hy => HBB.out y (List.mem_of_mem_take hy)) (k / 4)
      have hstep := packK_step F bs HBB.out k hkF
      have hxg : bs.getD k 0 = x := by simp [List.getD, hxe]
      rw [hxg] at hstep
      have hset := hrow.set (k / 4) (.int .u32 ((wordAt (bs.take k) (k / 4) ||| (x * 2 ^ (8 * (k % 4))) : Nat) : Int))
      rw [show (u32s (packK F bs k)).set (k / 4) (.int .u32 ((wordAt (bs.take k) (k / 4) ||| (x * 2 ^ (8 * (k % 4))) : Nat) : Int)) = u32s (packK F bs (k + 1)) by rw [← hstep]; simp [u32s]] at hset
      have hsh : x * 2 ^ (8 * (k % 4)) < 4294967296 := by
        rcases (by omega : k % 4 = 0 ∨ k % 4 = 1 ∨ k % 4 = 2 ∨ k % 4 = 3) with r | r | r | r <;> rw [r] <;> omega
      have hor := u32_or_nat (wordAt (bs.take k) (k / 4)) (x * 2 ^ (8 * (k % 4))) hold hsh
      have HSET := Lib.hid hset
      have HOR := Lib.hid hor
      clear hset hor hstep hxg hxe hx hrow hsh
      generalize wordAt (bs.take k) (k / 4) = old at *
      generalize hnw : (old ||| x * 2 ^ (8 * (k % 4))) = nw at *
      clear hnw
      obtain ⟨j, hj⟩ : ∃ j, k / 4 = j := ⟨_, rfl⟩
      have hdiv : (k : Int) / 4 = (j : Int) := by omega
      rw [hj] at hcw hcf HSET hkF
      clear hj
      have HBEL := Lib.hid hbel
      clear hbel
      have hjF : (j : Int) < (F : Int) := by omega
      have hj0 : (0 : Int) ≤ (j : Int) := by omega
      subst hA
      rcases (by omega : k % 4 = 0 ∨ k % 4 = 1 ∨ k % 4 = 2 ∨ k % 4 = 3) with hr | hr | hr | hr
      all_goals
        have hor := HOR.out
        rw [hr] at hor
        have hmod : (k : Int) % 4 = ((k % 4 : Nat) : Int) := by omega
        rw [hr] at hmod
        simp at hor
        clear hr
        go_wp2_with fail
        go_region
      all_goals
        go_wp2_with fail
        go_roundw
        case rel => exact ⟨k + 1, by omega, by go_num, HSET.out, (HBEL.out.setCell (by simp) _).drew⟩
        case measure => simp [intOf]; omega
    · obtain rfl : k = N := by omega
      have HR := Lib.hid hrow
      have HBEL := Lib.hid hbel
      clear hrow hbel
      go_wp2_with fail
      go_ret3
      refine ⟨w.heap.size, ?_, ?_, Nat.le_refl _, HBEL.out⟩
      · rw [HPL.out, HN.out, HFE.out]
        simp
      · rw [HPL.out, HPK.out]
        exact HR.out
end Go.Proofs.YtkpjkbkglnabiaaGreatDoor
