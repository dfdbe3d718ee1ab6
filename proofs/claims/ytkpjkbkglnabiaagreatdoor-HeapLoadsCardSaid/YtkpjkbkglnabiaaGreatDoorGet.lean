/- Get, Put, Word, SetWord, Byte, SetByte of the program's heap. -/
import Derived.Test.YtkpjkbkglnabiaaGreatDoorLook
import Derived.Deep.RegionWith
set_option linter.unusedVariables false
namespace Go.Proofs.YtkpjkbkglnabiaaGreatDoor
open Go.RowKit

def fw (h : HM) (o k : Nat) : Nat := h.w (o / 2 + 3 + k)
/-- What reading a field answers. -/
def HM.readV (h : HM) (o : Nat) (i : Int) (fs : List Nat) : Value :=
  .tuple #[.int .u32 ((if h.lookE o i fs = 0 then fw h o i.toNat else 0 : Nat) : Int), .int .i64 (h.lookE o i fs)]

/-- A look that meets no error. -/
theorem HM.look_ok {h : HM} {o : Nat} {i : Int} {fs : List Nat} (he : h.lookE o i fs = 0) :
    h.isB o = true ∧ fs.contains (h.hd (o / 2)).fmt = true ∧ 0 ≤ i ∧ i < (h.hd (o / 2)).len := by
  unfold HM.lookE at he
  split at he
  · omega
  · rename_i h1
    split at he
    · omega
    · rename_i h2
      split at he
      · omega
      · rename_i h3
        exact ⟨by simpa using h1, by simpa using h2, by omega, by omega⟩
theorem HM.isB_hd {h : HM} (hh : h.Heads) {o : Nat} (hi : h.isB o = true) : h.hdAt (o / 2) :=
  hh _ (by unfold HM.isB at hi; simp only [Bool.and_eq_true] at hi; exact hi.2)
theorem HM.isB_obj {h : HM} {o : Nat} (hi : h.isB o = true) : objB o = true := by
  unfold HM.isB at hi; simp only [Bool.and_eq_true] at hi; exact hi.1
theorem HM.lookE_lt (h : HM) (o : Nat) (i : Int) (fs : List Nat) : h.lookE o i fs ≤ 21 := by
  unfold HM.lookE; split <;> (try split) <;> (try split) <;> omega

section
variable {w : World} {p : HP} {h : HM} (H : HAt w p h) (f : h.Fit) (hh : h.Heads) (hs : Spares w) (o : Nat) (ho : o < 4294967296) (i : Int)
include H f hh hs ho

set_option maxHeartbeats 1000000 in
theorem get_any : Calls Tryz.prog 26 #[ptr p.g, .int .u32 o, .int .i64 i] w fun e w' => e = .returned (h.readV o i [1, 4]) ∧ Below w.heap.size w w' := by
  have hb0 : ∀ o, Below w.heap.size w (w.alloc o) := fun o => (Below.refl _ _).alloc (Nat.le_refl _) _
  have HC := Lib.hid (look_any (H.below (hb0 (.cells #[.int .i64 1, .int .i64 4] 57))) f hh (hs.below (hb0 _)) o ho i (some ⟨w.heap.size, 0, none⟩) 2 2 [1, 4] (by omega)
    ⟨rfl, fun _ => ⟨_, rfl, by simp, fun j u hj => by
      rw [WideShapes.add_plain, Nat.zero_add, (Blk.new w _ _).cell]
      simpa [ints] using hj⟩⟩)
  have HV := Lib.hid (show h.readV o i [1, 4] = .tuple #[.int .u32 ((if h.lookE o i [1, 4] = 0 then fw h o i.toNat else 0 : Nat) : Int), .int .i64 (h.lookE o i [1, 4])] from rfl)
  have HL := Lib.hid (show h.lookV o i [1, 4] = .tuple #[.int .i64 ((if h.lookE o i [1, 4] = 0 then o / 2 + 3 else 0 : Nat) : Int), .int .i64 (h.lookE o i [1, 4])] from rfl)
  rw [HL.out] at HC
  clear HL
  have hle := h.lookE_lt o i [1, 4]
  unfold ptr at HC ⊢
  by_cases he : h.lookE o i [1, 4] = 0
  · obtain ⟨hi, hc, h0, hlt⟩ := HM.look_ok he
    have hd := (HM.isB_hd hh hi).1
    have hsz : (h.hd (o / 2)).len = (h.hd (o / 2)).size := by
      unfold Hd.len; rw [if_neg (fun e => by rw [e] at hc; simp at hc)]
    rw [hsz] at hlt
    obtain ⟨k, rfl⟩ := Int.eq_ofNat_of_zero_le h0
    have hk : o / 2 + 3 + k < h.words.length := by omega
    have hcell : ∀ w', Below w.heap.size w w' → w'.cell? ⟨p.gw, o / 2 + 3 + k, none⟩ = some (.int .u32 (fw h o k : Nat)) := fun w' hb => (H.below hb).word hk
    have hc0 : ∀ w', Below w.heap.size w w' → w'.cell? ⟨p.g, 0, none⟩ = some (.slice (some ⟨p.gw, 0, none⟩) h.words.length p.cw) := fun w' hb => (H.below hb).c0
    have HCC := Lib.hid hcell
    have HC0 := Lib.hid hc0
    have hmx := f.room
    have hmx2 := f.hi
    rw [he] at HC HV
    simp only [if_true, Int.toNat_natCast] at HC HV
    clear he hi hc hd hsz hlt hcell hc0 hle
    have hq : o / 2 < 2147483648 := by omega
    generalize fw h o k = v at *
    generalize o / 2 = q at *
    generalize h.words.length = len at *
    go_enter Tryz.func26, Tryz.ntmps26
    go_wp2_with fail
    refine HC.out.mono ?_
    rintro e w1 ⟨rfl, hb1⟩
    have hb := below_top (hb0 _) hb1
    have c0 := HC0.out _ hb
    have cv := HCC.out _ hb
    go_wp2_with fail
    go_ret2
    exact ⟨by rw [HV.out]; rfl, hb⟩
  · have hne : ((h.lookE o i [1, 4] : Int) != 0) = true := by simp; omega
    simp only [if_neg he] at HC HV
    generalize h.lookE o i [1, 4] = E at *
    clear he
    go_enter Tryz.func26, Tryz.ntmps26
    go_wp2_with fail
    refine HC.out.mono ?_
    rintro e w1 ⟨rfl, hb1⟩
    go_wp2_with fail
    go_ret2
    exact ⟨by rw [HV.out]; rfl, below_top (hb0 _) hb1⟩
set_option maxHeartbeats 1000000 in
theorem word_any : Calls Tryz.prog 34 #[ptr p.g, .int .u32 o, .int .i64 i] w fun e w' => e = .returned (h.readV o i [3]) ∧ Below w.heap.size w w' := by
  have hb0 : ∀ o, Below w.heap.size w (w.alloc o) := fun o => (Below.refl _ _).alloc (Nat.le_refl _) _
  have HC := Lib.hid (look_any (H.below (hb0 (.cells #[.int .i64 3] 57))) f hh (hs.below (hb0 _)) o ho i (some ⟨w.heap.size, 0, none⟩) 1 1 [3] (by omega)
    ⟨rfl, fun _ => ⟨_, rfl, by simp, fun j u hj => by
      rw [WideShapes.add_plain, Nat.zero_add, (Blk.new w _ _).cell]
      simpa [ints] using hj⟩⟩)
  have HV := Lib.hid (show h.readV o i [3] = .tuple #[.int .u32 ((if h.lookE o i [3] = 0 then fw h o i.toNat else 0 : Nat) : Int), .int .i64 (h.lookE o i [3])] from rfl)
  have HL := Lib.hid (show h.lookV o i [3] = .tuple #[.int .i64 ((if h.lookE o i [3] = 0 then o / 2 + 3 else 0 : Nat) : Int), .int .i64 (h.lookE o i [3])] from rfl)
  rw [HL.out] at HC
  clear HL
  have hle := h.lookE_lt o i [3]
  unfold ptr at HC ⊢
  by_cases he : h.lookE o i [3] = 0
  · obtain ⟨hi, hc, h0, hlt⟩ := HM.look_ok he
    have hd := (HM.isB_hd hh hi).1
    have hsz : (h.hd (o / 2)).len = (h.hd (o / 2)).size := by
      unfold Hd.len; rw [if_neg (fun e => by rw [e] at hc; simp at hc)]
    rw [hsz] at hlt
    obtain ⟨k, rfl⟩ := Int.eq_ofNat_of_zero_le h0
    have hk : o / 2 + 3 + k < h.words.length := by omega
    have hcell : ∀ w', Below w.heap.size w w' → w'.cell? ⟨p.gw, o / 2 + 3 + k, none⟩ = some (.int .u32 (fw h o k : Nat)) := fun w' hb => (H.below hb).word hk
    have hc0 : ∀ w', Below w.heap.size w w' → w'.cell? ⟨p.g, 0, none⟩ = some (.slice (some ⟨p.gw, 0, none⟩) h.words.length p.cw) := fun w' hb => (H.below hb).c0
    have HCC := Lib.hid hcell
    have HC0 := Lib.hid hc0
    have hmx := f.room
    have hmx2 := f.hi
    rw [he] at HC HV
    simp only [if_true, Int.toNat_natCast] at HC HV
    clear he hi hc hd hsz hlt hcell hc0 hle
    have hq : o / 2 < 2147483648 := by omega
    generalize fw h o k = v at *
    generalize o / 2 = q at *
    generalize h.words.length = len at *
    go_enter Tryz.func34, Tryz.ntmps34
    go_wp2_with fail
    refine HC.out.mono ?_
    rintro e w1 ⟨rfl, hb1⟩
    have hb := below_top (hb0 _) hb1
    have c0 := HC0.out _ hb
    have cv := HCC.out _ hb
    go_wp2_with fail
    go_ret2
    exact ⟨by rw [HV.out]; rfl, hb⟩
  · have hne : ((h.lookE o i [3] : Int) != 0) = true := by simp; omega
    simp only [if_neg he] at HC HV
    generalize h.lookE o i [3] = E at *
    clear he
    go_enter Tryz.func34, Tryz.ntmps34
    go_wp2_with fail
    refine HC.out.mono ?_
    rintro e w1 ⟨rfl, hb1⟩
    go_wp2_with fail
    go_ret2
    exact ⟨by rw [HV.out]; rfl, below_top (hb0 _) hb1⟩
end

/-- What Put answers, and leaves. -/
def HM.putE (h : HM) (o : Nat) (i : Int) (v : Nat) : Nat := if h.lookE o i [1, 4] = 0 then (if h.valB v then 0 else 3) else h.lookE o i [1, 4]
def HM.setF (h : HM) (o k v : Nat) : HM := { h with words := h.words.set (o / 2 + 3 + k) v }
def HM.putH (h : HM) (o : Nat) (i : Int) (v : Nat) : HM := if h.putE o i v = 0 then h.setF o i.toNat v else h
/-- A deed that answers an error's number and leaves the heap as told. -/
def Deeds (p : HP) (h' : HM) (E : Nat) (w : World) (e : Ending) (w' : World) : Prop := e = .returned (.int .i64 E) ∧ HAt w' p h' ∧ Step p p w w'

section
variable {w : World} {p : HP} {h : HM} (H : HAt w p h) (f : h.Fit) (hh : h.Heads) (hs : Spares w) (o : Nat) (ho : o < 4294967296) (i : Int)
include H f hh hs ho

set_option maxHeartbeats 1000000 in
theorem put_any (v : Nat) (hv : v < 4294967296) : Calls Tryz.prog 28 #[ptr p.g, .int .u32 o, .int .i64 i, .int .u32 v] w (Deeds p (h.putH o i v) (h.putE o i v) w) := by
  have hb0 : ∀ o, Below w.heap.size w (w.alloc o) := fun o => (Below.refl _ _).alloc (Nat.le_refl _) _
  have HC := Lib.hid (look_any (H.below (hb0 (.cells #[.int .i64 1, .int .i64 4] 57))) f hh (hs.below (hb0 _)) o ho i (some ⟨w.heap.size, 0, none⟩) 2 2 [1, 4] (by omega)
    ⟨rfl, fun _ => ⟨_, rfl, by simp, fun j u hj => by
      rw [WideShapes.add_plain, Nat.zero_add, (Blk.new w _ _).cell]
      simpa [ints] using hj⟩⟩)
  have HL := Lib.hid (show h.lookV o i [1, 4] = .tuple #[.int .i64 ((if h.lookE o i [1, 4] = 0 then o / 2 + 3 else 0 : Nat) : Int), .int .i64 (h.lookE o i [1, 4])] from rfl)
  rw [HL.out] at HC
  clear HL
  have hle := h.lookE_lt o i [1, 4]
  have HVC := Lib.hid (fun w' (hb : Below w.heap.size w w') => value_any (H.below hb) f v hv)
  by_cases he : h.lookE o i [1, 4] = 0
  · obtain ⟨hi, hc, h0, hlt⟩ := HM.look_ok he
    have hd := (HM.isB_hd hh hi).1
    have hsz : (h.hd (o / 2)).len = (h.hd (o / 2)).size := by
      unfold Hd.len; rw [if_neg (fun e => by rw [e] at hc; simp at hc)]
    rw [hsz] at hlt
    obtain ⟨k, rfl⟩ := Int.eq_ofNat_of_zero_le h0
    have hk : o / 2 + 3 + k < h.words.length := by omega
    have hmx := f.room
    have hmx2 := f.hi
    have hE : h.putE o k v = if h.valB v then 0 else 3 := by simp [HM.putE, he]
    cases hval : h.valB v
    · have HP' := Lib.hid (show h.putE o k v = 3 ∧ h.putH o k v = h by simp [HM.putH, hE, hval])
      rw [hval] at HVC
      rw [he] at HC
      simp only [if_true] at HC
      clear he hi hc hd hsz hlt hle hE hval
      have hq : o / 2 < 2147483648 := by omega
      generalize o / 2 = q at *
      unfold ptr at HC HVC ⊢
      go_enter Tryz.func28, Tryz.ntmps28
      go_wp2_with fail
      refine HC.out.mono ?_
      rintro e w1 ⟨rfl, hb1⟩
      have hb := below_top (hb0 _) hb1
      go_wp2_with fail
      refine (HVC.out _ hb).mono ?_
      rintro e w2 ⟨rfl, rfl⟩
      go_wp2_with fail
      go_ret
      exact ⟨by rw [HP'.out.1]; rfl, by rw [HP'.out.2]; exact H.below hb, .of_below hb⟩
    · have HP' := Lib.hid (show h.putE o k v = 0 ∧ h.putH o k v = h.setF o k v by simp [HM.putH, hE, hval])
      rw [hval] at HVC
      rw [he] at HC
      simp only [if_true] at HC
      clear he hi hc hd hsz hlt hle hE hval
      have hc0 : ∀ w', Below w.heap.size w w' → w'.cell? ⟨p.g, 0, none⟩ = some (.slice (some ⟨p.gw, 0, none⟩) h.words.length p.cw) := fun w' hb => (H.below hb).c0
      have hcell : ∀ w', Below w.heap.size w w' → w'.cell? ⟨p.gw, o / 2 + 3 + k, none⟩ = some (.int .u32 (fw h o k : Nat)) := fun w' hb => (H.below hb).word hk
      have hfz : ∀ w', Below w.heap.size w w' → w'.frozen? ⟨p.gw, o / 2 + 3 + k, none⟩ = false := fun w' hb => (H.below hb).2.1.frozen _
      have HCC := Lib.hid hcell
      have HC0 := Lib.hid hc0
      have HFZ := Lib.hid hfz
      have HS := Lib.hid (show ∀ w', Below w.heap.size w w' → HAt (w'.setCell ⟨p.gw, o / 2 + 3 + k, none⟩ (.int .u32 v)) p (h.setF o k v) from fun w' hb => (H.below hb).setWord _ _)
      clear hc0 hcell hfz
      have hq : o / 2 < 2147483648 := by omega
      generalize h.setF o k v = h2 at *
      generalize o / 2 = q at *
      generalize h.words.length = len at *
      unfold ptr at HC HVC ⊢
      go_enter Tryz.func28, Tryz.ntmps28
      go_wp2_with fail
      refine HC.out.mono ?_
      rintro e w1 ⟨rfl, hb1⟩
      have hb := below_top (hb0 _) hb1
      go_wp2_with fail
      refine (HVC.out _ hb).mono ?_
      rintro e w2 ⟨rfl, rfl⟩
      have c0 := HC0.out _ hb
      have cv := HCC.out _ hb
      have cf := HFZ.out _ hb
      go_wp2_with fail
      go_ret
      exact ⟨by rw [HP'.out.1]; rfl, by rw [HP'.out.2]; exact HS.out _ hb, (Step.of_below hb).setCell (.inl (.inr (.inl rfl))) _⟩
  · have hne : ((h.lookE o i [1, 4] : Int) != 0) = true := by simp; omega
    simp only [if_neg he] at HC
    have HP' := Lib.hid (show h.putE o i v = h.lookE o i [1, 4] ∧ h.putH o i v = h by simp [HM.putH, HM.putE, he])
    generalize h.lookE o i [1, 4] = E at *
    clear he
    unfold ptr at HC HVC ⊢
    go_enter Tryz.func28, Tryz.ntmps28
    go_wp2_with fail
    refine HC.out.mono ?_
    rintro e w1 ⟨rfl, hb1⟩
    have hb := below_top (hb0 _) hb1
    go_wp2_with fail
    go_ret
    exact ⟨by rw [HP'.out.1]; rfl, by rw [HP'.out.2]; exact H.below hb, .of_below hb⟩
end
end Go.Proofs.YtkpjkbkglnabiaaGreatDoor
