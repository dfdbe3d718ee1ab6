/- Byte, SetByte of the program's heap. -/
import Derived.Test.YtkpjkbkglnabiaaGreatDoorGet
import Derived.Test.YtkpjkbkglnabiaaGreatDoorBits
set_option linter.unusedVariables false
namespace Go.Proofs.YtkpjkbkglnabiaaGreatDoor
open Go.RowKit

def fb (h : HM) (o k : Nat) : Nat := byteOf (fw h o (k / 4)) (k % 4)
def HM.byteV (h : HM) (o : Nat) (i : Int) : Value := .tuple #[.int .u8 ((if h.lookE o i [2] = 0 then fb h o i.toNat else 0 : Nat) : Int), .int .i64 (h.lookE o i [2])]
def HM.setByteH (h : HM) (o : Nat) (i : Int) (b : Nat) : HM := if h.lookE o i [2] = 0 then h.setF o (i.toNat / 4) (setByte (fw h o (i.toNat / 4)) (i.toNat % 4) b) else h

theorem byte_room {h : HM} (hh : h.Heads) {o k : Nat} (hi : h.isB o = true) (hc : ([2] : List Nat).contains (h.hd (o / 2)).fmt = true) (hlt : (k : Int) < (h.hd (o / 2)).len) : o / 2 + 3 + k / 4 < h.words.length := by
  have hd := (HM.isB_hd hh hi).1
  have h2 : (h.hd (o / 2)).fmt = 2 := by simpa using hc
  have hl : (h.hd (o / 2)).len = 4 * (h.hd (o / 2)).size - (h.hd (o / 2)).spare := by unfold Hd.len; rw [if_pos h2]
  rw [hl] at hlt
  omega

section
variable {w : World} {p : HP} {h : HM} (H : HAt w p h) (f : h.Fit) (hh : h.Heads) (hs : Spares w) (o : Nat) (ho : o < 4294967296) (i : Int)
include H f hh hs ho

set_option maxHeartbeats 2000000 in
theorem byte_any : Calls Tryz.prog 38 #[ptr p.g, .int .u32 o, .int .i64 i] w fun e w' => e = .returned (h.byteV o i) ∧ Below w.heap.size w w' := by
  have hb0 : ∀ o, Below w.heap.size w (w.alloc o) := fun o => (Below.refl _ _).alloc (Nat.le_refl _) _
  have HC := Lib.hid (look_any (H.below (hb0 (.cells #[.int .i64 2] 57))) f hh (hs.below (hb0 _)) o ho i (some ⟨w.heap.size, 0, none⟩) 1 1 [2] (by omega)
    ⟨rfl, fun _ => ⟨_, rfl, by simp, fun j u hj => by
      rw [WideShapes.add_plain, Nat.zero_add, (Blk.new w _ _).cell]
      simpa [ints] using hj⟩⟩)
  have HV := Lib.hid (show h.byteV o i = .tuple #[.int .u8 ((if h.lookE o i [2] = 0 then fb h o i.toNat else 0 : Nat) : Int), .int .i64 (h.lookE o i [2])] from rfl)
  have HL := Lib.hid (show h.lookV o i [2] = .tuple #[.int .i64 ((if h.lookE o i [2] = 0 then o / 2 + 3 else 0 : Nat) : Int), .int .i64 (h.lookE o i [2])] from rfl)
  rw [HL.out] at HC
  clear HL
  have hle := h.lookE_lt o i [2]
  unfold ptr at HC ⊢
  by_cases he : h.lookE o i [2] = 0
  · obtain ⟨hi, hc, h0, hlt⟩ := HM.look_ok he
    obtain ⟨k, rfl⟩ := Int.eq_ofNat_of_zero_le h0
    have hk := byte_room hh hi hc hlt
    have HCC := Lib.hid (fun w' (hb : Below w.heap.size w w') => show w'.cell? ⟨p.gw, o / 2 + 3 + k / 4, none⟩ = some (.int .u32 (fw h o (k / 4) : Nat)) from (H.below hb).word hk)
    have HC0 := Lib.hid (fun w' (hb : Below w.heap.size w w') => show w'.cell? ⟨p.g, 0, none⟩ = some (.slice (some ⟨p.gw, 0, none⟩) h.words.length p.cw) from (H.below hb).c0)
    have hmx := f.room
    have hmx2 := f.hi
    have hkl : k < 4294967296 := by omega
    rw [he] at HC HV
    simp only [if_true, Int.toNat_natCast] at HC HV
    have hv32 : fw h o (k / 4) < 4294967296 := f.w _
    have HB := Lib.hid (show fb h o k = byteOf (fw h o (k / 4)) (k % 4) from rfl)
    clear he hi hc hlt hle
    have hq : o / 2 < 2147483648 := by omega
    generalize fw h o (k / 4) = v at *
    generalize o / 2 = q at *
    generalize h.words.length = len at *
    obtain ⟨j, hj⟩ : ∃ j, k / 4 = j := ⟨_, rfl⟩
    have hdiv : (k : Int) / 4 = (j : Int) := by omega
    rw [hj] at hk HCC
    have HJ := Lib.hid hj
    clear hj
    have hbyte : ∀ r : Nat, ((v / 2 ^ (8 * r) : Nat) : Int) % 256 = (byteOf v r : Nat) := fun r => by unfold byteOf; omega
    have HBY := Lib.hid hbyte
    clear hbyte
    rcases (by omega : k % 4 = 0 ∨ k % 4 = 1 ∨ k % 4 = 2 ∨ k % 4 = 3) with hr | hr | hr | hr
    all_goals
      rw [hr] at HB
      have hmod : (k : Int) % 4 = ((k % 4 : Nat) : Int) := by omega
      rw [hr] at hmod
      have hfin := HBY.out (k % 4)
      rw [hr] at hfin
      simp at hfin
      have HFIN := Lib.hid hfin
      clear hr hfin
      go_enter Tryz.func38, Tryz.ntmps38
      go_wp2_with fail
      refine HC.out.mono ?_
      rintro e w1 ⟨rfl, hb1⟩
      have hb := below_top (hb0 _) hb1
      have c0 := HC0.out _ hb
      have cv := HCC.out _ hb
      go_wp2_with fail
      go_ret2
      refine ⟨?_, hb⟩
      rw [HV.out, HB.out, ← HFIN.out]
      first
        | rfl
        | (rw [show (v : Int) / 16777216 % 256 = (v : Int) / 16777216 by omega]; rfl)
  · have hne : ((h.lookE o i [2] : Int) != 0) = true := by simp; omega
    simp only [if_neg he] at HC HV
    generalize h.lookE o i [2] = E at *
    clear he
    go_enter Tryz.func38, Tryz.ntmps38
    go_wp2_with fail
    refine HC.out.mono ?_
    rintro e w1 ⟨rfl, hb1⟩
    go_wp2_with fail
    go_ret2
    exact ⟨by rw [HV.out]; rfl, below_top (hb0 _) hb1⟩

set_option maxHeartbeats 4000000 in
theorem setByte_any (b : Nat) (hb8 : b < 256) : Calls Tryz.prog 40 #[ptr p.g, .int .u32 o, .int .i64 i, .int .u8 b] w (Deeds p (h.setByteH o i b) (h.lookE o i [2]) w) := by
  have hb0 : ∀ o, Below w.heap.size w (w.alloc o) := fun o => (Below.refl _ _).alloc (Nat.le_refl _) _
  have HC := Lib.hid (look_any (H.below (hb0 (.cells #[.int .i64 2] 57))) f hh (hs.below (hb0 _)) o ho i (some ⟨w.heap.size, 0, none⟩) 1 1 [2] (by omega)
    ⟨rfl, fun _ => ⟨_, rfl, by simp, fun j u hj => by
      rw [WideShapes.add_plain, Nat.zero_add, (Blk.new w _ _).cell]
      simpa [ints] using hj⟩⟩)
  have HL := Lib.hid (show h.lookV o i [2] = .tuple #[.int .i64 ((if h.lookE o i [2] = 0 then o / 2 + 3 else 0 : Nat) : Int), .int .i64 (h.lookE o i [2])] from rfl)
  rw [HL.out] at HC
  clear HL
  have hle := h.lookE_lt o i [2]
  by_cases he : h.lookE o i [2] = 0
  · obtain ⟨hi, hc, h0, hlt⟩ := HM.look_ok he
    obtain ⟨k, rfl⟩ := Int.eq_ofNat_of_zero_le h0
    have hk := byte_room hh hi hc hlt
    have HCC := Lib.hid (fun w' (hb : Below w.heap.size w w') => show w'.cell? ⟨p.gw, o / 2 + 3 + k / 4, none⟩ = some (.int .u32 (fw h o (k / 4) : Nat)) from (H.below hb).word hk)
    have HC0 := Lib.hid (fun w' (hb : Below w.heap.size w w') => show w'.cell? ⟨p.g, 0, none⟩ = some (.slice (some ⟨p.gw, 0, none⟩) h.words.length p.cw) from (H.below hb).c0)
    have HFZ := Lib.hid (fun w' (hb : Below w.heap.size w w') => show w'.frozen? ⟨p.gw, o / 2 + 3 + k / 4, none⟩ = false from (H.below hb).2.1.frozen _)
    have hmx := f.room
    have hmx2 := f.hi
    have hkl : k < 4294967296 := by omega
    have hv32 : fw h o (k / 4) < 4294967296 := f.w _
    have HS := Lib.hid (show ∀ w', Below w.heap.size w w' → HAt (w'.setCell ⟨p.gw, o / 2 + 3 + k / 4, none⟩ (.int .u32 (setByte (fw h o (k / 4)) (k % 4) b : Nat))) p (h.setByteH o k b) from fun w' hb => by
      have := (H.below hb).setWord (o / 2 + 3 + k / 4) (setByte (fw h o (k / 4)) (k % 4) b)
      simpa [HM.setByteH, he, HM.setF] using this)
    have HE := Lib.hid he
    rw [he] at HC
    simp only [if_true] at HC
    have hbits := setByte_bits (fw h o (k / 4)) (k % 4) b hv32 hb8 (by omega)
    clear he hi hc hlt hle
    have hq : o / 2 < 2147483648 := by omega
    generalize hnew : setByte (fw h o (k / 4)) (k % 4) b = nv at *
    clear hnew
    generalize fw h o (k / 4) = v at *
    generalize h.setByteH o k b = h2 at *
    generalize o / 2 = q at *
    generalize h.words.length = len at *
    obtain ⟨j, hj⟩ : ∃ j, k / 4 = j := ⟨_, rfl⟩
    have hdiv : (k : Int) / 4 = (j : Int) := by omega
    rw [hj] at hk HCC HS HFZ
    clear hj
    have HBT := Lib.hid hbits
    clear hbits
    unfold ptr at HC ⊢
    rcases (by omega : k % 4 = 0 ∨ k % 4 = 1 ∨ k % 4 = 2 ∨ k % 4 = 3) with hr | hr | hr | hr
    all_goals
      have hbt := HBT.out
      rw [hr] at hbt
      have hmod : (k : Int) % 4 = ((k % 4 : Nat) : Int) := by omega
      rw [hr] at hmod
      simp at hbt
      clear hr
      go_enter Tryz.func40, Tryz.ntmps40
      go_wp2_with fail
      refine HC.out.mono ?_
      rintro e w1 ⟨rfl, hb1⟩
      have hb := below_top (hb0 _) hb1
      have c0 := HC0.out _ hb
      have cv := HCC.out _ hb
      have cf := HFZ.out _ hb
      go_wp2_with fail
      go_region
      go_wp2_with fail
      go_ret
      exact ⟨by rw [HE.out]; rfl, HS.out _ hb, ((Step.of_below hb).setCell (.inl (.inr (.inl rfl))) _).drew⟩
  · have hne : ((h.lookE o i [2] : Int) == 0) = false := by simp; omega
    simp only [if_neg he] at HC
    have HP' := Lib.hid (show h.setByteH o i b = h by simp [HM.setByteH, he])
    generalize h.lookE o i [2] = E at *
    clear he
    unfold ptr at HC ⊢
    go_enter Tryz.func40, Tryz.ntmps40
    go_wp2_with fail
    refine HC.out.mono ?_
    rintro e w1 ⟨rfl, hb1⟩
    have hb := below_top (hb0 _) hb1
    go_wp2_with fail
    go_ret
    exact ⟨rfl, by rw [HP'.out]; exact H.below hb, .of_below hb⟩
end
end Go.Proofs.YtkpjkbkglnabiaaGreatDoor
