/- slices.Contains at formats, pointers, length, Length, look. -/
/- Get, Put, Word, SetWord, Byte, SetByte of the program's heap. -/
import Derived.Test.YtblekggklimpeaaDoorJMay
import Derived.Deep.LoopGhost
import Derived.Deep.RegionWith
set_option linter.unusedVariables false
set_option linter.unusedSectionVars false
namespace Go.Proofs.YtblekggklimpeaaDoor
open Go.RowKit

def ints (l : List Nat) : List Value := l.map fun x : Nat => .int .i64 (x : Int)
theorem ints_at {zs : List Nat} {k : Nat} {u : Value} (h : (ints zs)[k]? = some u) : ∃ x, zs[k]? = some x ∧ u = .int .i64 (x : Int) := by
  unfold ints at h
  rw [List.getElem?_map] at h
  cases hz : zs[k]? with
  | none => rw [hz] at h; cases h
  | some x => rw [hz] at h; exact ⟨x, rfl, by injection h with h; exact h.symm⟩

/-- What Index answers: a place from 0 on, or -1. -/
def idxPost (fs : List Nat) (x : Nat) (w : World) (e : Ending) (w' : World) : Prop := ∃ j : Int, e = .returned (.int .i64 j) ∧ (decide (0 ≤ j) = fs.contains x) ∧ -1 ≤ j ∧ j ≤ 9223372036854775807 ∧ w = w'

theorem take_contains_none {fs : List Nat} {x k y : Nat} (hy : fs[k]? = some y) (hne : x ≠ y) (h : (fs.take k).contains x = false) : (fs.take (k + 1)).contains x = false := by
  rw [List.take_add_one, hy]
  simp at h ⊢
  exact ⟨h, hne⟩
theorem contains_of_get {fs : List Nat} {x k : Nat} (hy : fs[k]? = some x) : fs.contains x = true := by
  simp
  exact List.mem_of_getElem? hy

set_option maxHeartbeats 400000 in
theorem index_fmt (A : Option Addr) (n c B : Nat) (fs : List Nat) (x : Nat) (w : World) (hn : n ≤ 9223372036854775807) (hr : Reads w B 1 A n (ints fs)) :
    Calls Tryd.prog 127 #[.slice A n c, .int .i64 x] w (idxPost fs x w) := by
  have hl : fs.length = n := by have := hr.1; simpa [ints] using this
  have HL := Lib.hid hl; clear hl
  have HR := Lib.hid hr; clear hr
  go_enter Tryd.func127, Tryd.ntmps127
  go_wp2_with fail
  go_loop [8] (fun i => ∃ k : Nat, k ≤ n ∧ i = .int .i64 k ∧ (fs.take k).contains x = false) (fun i => n - (intOf i).toNat)
  case atStart => exact ⟨0, by omega, rfl, by simp⟩
  case round =>
    obtain ⟨k, hk, rfl, hno⟩ := hrel
    have HNO := Lib.hid hno; clear hno
    by_cases hlt : k < n
    · obtain ⟨ad, u0, rfl, _, hx, hcell⟩ := HR.out.at_ hlt
      obtain ⟨y, hy, rfl⟩ := ints_at hx
      clear hx
      have HY := Lib.hid hy; clear hy
      by_cases hxy : x = y
      · subst hxy
        go_wp2_with fail
        go_ret
        exact ⟨k, rfl, by rw [contains_of_get HY.out]; simp, by omega, by omega, rfl⟩
      · have hb : ((x : Int) == (y : Int)) = false := beq_eq_false_iff_ne.2 (by omega)
        have HXY := Lib.hid hxy; clear hxy
        go_wp2_with fail
        go_round
        case rel => exact ⟨k + 1, by omega, by go_num, take_contains_none HY.out HXY.out HNO.out⟩
        case measure => simp [intOf]; omega
    · obtain rfl : k = n := by omega
      have hall := HNO.out
      rw [List.take_of_length_le (by rw [HL.out]; omega)] at hall
      have HA := Lib.hid hall; clear hall
      go_wp2_with fail
      go_ret
      exact ⟨-1, rfl, by rw [HA.out]; simp, by omega, by omega, rfl⟩

theorem contains_fmt (A : Option Addr) (n c B : Nat) (fs : List Nat) (x : Nat) (w : World) (hn : n ≤ 9223372036854775807) (hr : Reads w B 1 A n (ints fs)) :
    Calls Tryd.prog 100 #[.slice A n c, .int .i64 x] w fun e w' => e = .returned (.bool (fs.contains x)) ∧ w = w' := by
  have HR := Lib.hid hr; clear hr
  go_enter Tryd.func100, Tryd.ntmps100
  go_wp2_with fail
  refine (index_fmt A n c B fs x w hn HR.out).mono ?_
  rintro e w' ⟨j, rfl, hj, hlo, hhi, rfl⟩
  have HJ := Lib.hid hj; clear hj
  go_wp2_with fail
  go_ret
  exact ⟨by rw [← HJ.out]; rfl, rfl⟩

def Hd.len (x : Hd) : Nat := if x.fmt = 2 then 4 * x.size - x.spare else x.size
def Hd.ptrB (x : Hd) : Bool := decide (x.fmt = 1) || decide (x.fmt = 4)

theorem pointers_any (x : Hd) (f : x.Fit) (w : World) :
    Calls Tryd.prog 105 #[x.val] w fun e w' => e = .returned (.bool x.ptrB) ∧ Below w.heap.size w w' := by
  obtain ⟨n, t, s, c, r⟩ := x
  obtain ⟨f1, f2, f3, f4, f5⟩ := f
  simp only at f1 f2 f3 f4 f5
  unfold Hd.val
  by_cases h1 : t = 1
  · subst h1
    go_enter Tryd.func105, Tryd.ntmps105
    go_wp2_with fail
    go_ret
    exact ⟨rfl, (Below.refl _ _).alloc (Nat.le_refl _) _⟩
  · have hb : ((t : Int) == 1) = false := by simp; omega
    have HF := Lib.hid (show Hd.ptrB ⟨n, t, s, c, r⟩ = ((t : Int) == 4) by
      unfold Hd.ptrB; simp only [h1, decide_false, Bool.false_or]
      by_cases h4 : t = 4
      · subst h4; rfl
      · rw [show ((t : Int) == 4) = false by simp; omega]; simp [h4])
    clear h1
    go_enter Tryd.func105, Tryd.ntmps105
    go_wp2_with fail
    go_ret
    exact ⟨by rw [HF.out]; rfl, (Below.refl _ _).alloc (Nat.le_refl _) _⟩

theorem length_any (x : Hd) (f : x.Fit) (hs : x.fmt = 2 → x.spare ≤ 4 * x.size) (w : World) :
    Calls Tryd.prog 101 #[x.val] w fun e w' => e = .returned (.int .i64 x.len) ∧ Below w.heap.size w w' := by
  obtain ⟨n, t, s, c, r⟩ := x
  obtain ⟨f1, f2, f3, f4, f5⟩ := f
  simp only at f1 f2 f3 f4 f5 hs
  unfold Hd.val
  by_cases h1 : t = 2
  · subst h1
    have h2 := hs rfl
    have HF := Lib.hid (show ((Hd.len ⟨n, 2, s, c, r⟩ : Nat) : Int) = 4 * (n : Int) - s by simp [Hd.len]; omega)
    clear hs
    go_enter Tryd.func101, Tryd.ntmps101
    go_wp2_with fail
    go_ret
    exact ⟨by rw [HF.out]; rfl, (Below.refl _ _).alloc (Nat.le_refl _) _⟩
  · have hb : ((t : Int) == 2) = false := by simp; omega
    have HF := Lib.hid (show Hd.len ⟨n, t, s, c, r⟩ = n by simp [Hd.len, h1])
    clear h1 hs
    go_enter Tryd.func101, Tryd.ntmps101
    go_wp2_with fail
    go_ret
    exact ⟨by rw [HF.out]; rfl, (Below.refl _ _).alloc (Nat.le_refl _) _⟩

/-- A header's spare bytes lie within its fields. -/
def Hd.sane (x : Hd) : Prop := x.fmt = 2 → x.spare ≤ 4 * x.size
theorem okhd_sane {a b c : Nat} (h : okhd a b c = true) : (unhd a b c).sane := by
  intro hf
  unfold okhd Hd.may at h
  simp only [Bool.and_eq_true, Bool.or_eq_true, decide_eq_true_eq] at h
  have hs : (unhd a b c).spare < 4 := Nat.mod_lt _ (by omega)
  omega
theorem HM.hdAt.sane {h : HM} {i : Nat} (hi : h.hdAt i) : (h.hd i).sane := okhd_sane hi.2

/-- The error that a look at an element meets: no object, another format, out of range. -/
def HM.lookE (h : HM) (o : Nat) (i : Int) (fs : List Nat) : Nat :=
  if h.isB o = false then 3 else if fs.contains (h.hd (o / 2)).fmt = false then 21 else if i < 0 ∨ ((h.hd (o / 2)).len : Int) ≤ i then 1 else 0
def HM.lookV (h : HM) (o : Nat) (i : Int) (fs : List Nat) : Value := .tuple #[.int .i64 ((if h.lookE o i fs = 0 then o / 2 + 3 else 0 : Nat) : Int), .int .i64 (h.lookE o i fs)]

set_option maxHeartbeats 2000000 in
theorem look_any {w : World} {p : HP} {h : HM} (H : HAt w p h) (f : h.Fit) (hh : h.Heads) (hs : Spares w) (o : Nat) (ho : o < 4294967296) (i : Int) (A : Option Addr) (n c : Nat) (fs : List Nat)
    (hn : n ≤ 9223372036854775807) (hr : Reads w w.heap.size 1 A n (ints fs)) :
    Calls Tryd.prog 69 #[ptr p.g, .int .u32 o, .int .i64 i, .slice A n c] w fun e w' => e = .returned (h.lookV o i fs) ∧ Below w.heap.size w w' := by
  have HC := Lib.hid (Header_any H f hh hs o ho)
  have HR := Lib.hid hr; clear hr
  cases hi : h.isB o
  · have HH := Lib.hid (show h.headerV o = .tuple #[.agg #[.int .i64 0, .int .i64 0, .int .i64 0, .int .u32 0, .int .u32 0], .int .i64 3] by simp [HM.headerV, hi])
    have HF := Lib.hid (show h.lookV o i fs = .tuple #[.int .i64 0, .int .i64 3] by simp [HM.lookV, HM.lookE, hi])
    rw [HH.out] at HC
    clear HH hi
    unfold ptr at HC ⊢
    go_enter Tryd.func69, Tryd.ntmps69
    go_wp2_with fail
    refine HC.out.mono ?_
    rintro e w1 ⟨rfl, hb1⟩
    go_wp2_with fail
    go_ret2
    exact ⟨by rw [HF.out]; rfl, hb1.alloc hb1.size _⟩
  · have hk : objB o = true := by unfold HM.isB at hi; simp only [Bool.and_eq_true] at hi; exact hi.1
    have hd : h.hdAt (o / 2) := hh _ (by unfold HM.isB at hi; simp only [Bool.and_eq_true] at hi; exact hi.2)
    have hx := HM.hd_fit f (o / 2)
    have hsane := hd.sane
    have HH := Lib.hid (show h.headerV o = .tuple #[(h.hd (o / 2)).val, .int .i64 0] by simp [HM.headerV, hi])
    have HA := Lib.hid (fun w => at_any p.g o ho hk w)
    have HE := Lib.hid (show h.lookE o i fs = if fs.contains (h.hd (o / 2)).fmt = false then 21 else if i < 0 ∨ ((h.hd (o / 2)).len : Int) ≤ i then 1 else 0 by simp [HM.lookE, hi])
    have HV := Lib.hid (show h.lookV o i fs = .tuple #[.int .i64 ((if h.lookE o i fs = 0 then o / 2 + 3 else 0 : Nat) : Int), .int .i64 (h.lookE o i fs)] from rfl)
    rw [HE.out] at HV
    rw [HH.out] at HC
    clear hd hk hi HH HE
    have hq : o / 2 < 2147483648 := by omega
    generalize o / 2 = q at *
    have HLC := Lib.hid (fun w => length_any (h.hd q) hx hsane w)
    have hlen : (h.hd q).len < 4294967296 := by
      have := hx.size; unfold Hd.len; split <;> omega
    have HX := Lib.hid (show (h.hd q).val = .agg #[.int .i64 (h.hd q).size, .int .i64 (h.hd q).fmt, .int .i64 (h.hd q).spare, .int .u32 (h.hd q).cls, .int .u32 (h.hd q).ser] from rfl)
    rw [HX.out] at HC HLC
    clear hsane HX
    generalize h.hd q = x at *
    obtain ⟨f1, f2, f3, f4, f5⟩ := hx
    unfold ptr at HC HA ⊢
    go_enter Tryd.func69, Tryd.ntmps69
    go_wp2_with fail
    refine HC.out.mono ?_
    rintro e w1 ⟨rfl, hb1⟩
    have hb2 := hb1.alloc hb1.size (.cells #[.int .i64 x.size, .int .i64 x.fmt, .int .i64 x.spare, .int .u32 x.cls, .int .u32 x.ser] 56)
    have HR2 := Lib.hid (HR.out.below hb2)
    go_wp2_with fail
    refine (contains_fmt A n c _ fs x.fmt _ hn HR2.out).mono ?_
    rintro e w2 ⟨rfl, rfl⟩
    cases hc : fs.contains x.fmt
    · rw [hc] at HV
      simp only [if_true] at HV
      go_wp2_with fail
      go_ret2
      exact ⟨by rw [HV.out]; rfl, hb2⟩
    · rw [hc] at HV
      simp only [Bool.true_eq_false, if_false] at HV
      clear hc
      by_cases hneg : i < 0
      · rw [if_pos (Or.inl hneg)] at HV
        have hd : decide (i < 0) = true := by simpa using hneg
        go_wp2_with fail
        go_ret2
        exact ⟨by rw [HV.out]; rfl, hb2⟩
      · have hd : decide (i < 0) = false := by simpa using hneg
        by_cases hge : (x.len : Int) ≤ i
        · rw [if_pos (Or.inr hge)] at HV
          have hd2 : decide ((x.len : Int) ≤ i) = true := by simpa using hge
          go_wp2_with fail
          refine (HLC.out _).mono ?_
          rintro e w2 ⟨rfl, hb3⟩
          go_wp2_with fail
          go_ret2
          exact ⟨by rw [HV.out]; rfl, below_top hb2 hb3⟩
        · rw [if_neg (show ¬(i < 0 ∨ (x.len : Int) ≤ i) by omega)] at HV
          have hd2 : decide ((x.len : Int) ≤ i) = false := by simpa using hge
          go_wp2_with fail
          refine (HLC.out _).mono ?_
          rintro e w2 ⟨rfl, hb3⟩
          go_wp2_with fail
          refine (HA.out _).mono ?_
          rintro e w3 ⟨rfl, rfl⟩
          go_wp2_with fail
          go_ret2
          exact ⟨by rw [HV.out]; simp, below_top hb2 hb3⟩
end Go.Proofs.YtblekggklimpeaaDoor

namespace Go.Proofs.YtblekggklimpeaaDoor
open Go.RowKit

def fw (h : HM) (o k : Nat) : Nat := h.w (o / 2 + 3 + k)
/-- What reading a field answers. -/
def HM.readV (h : HM) (o : Nat) (i : Int) (fs : List Nat) : Value :=
  .tuple #[.int .u32 ((if h.lookE o i fs = 0 then fw h o i.toNat else 0 : Nat) : Int), .int .i64 (h.lookE o i fs)]

/-- A look that meets no error. -/
theorem HM.look_ok {h : HM} {o : Nat} {i : Int} {fs : List Nat} (he : h.lookE o i fs = 0) :
    h.isB o = true ∧ fs.contains (h.hd (o / 2)).fmt = true ∧ 0 ≤ i ∧ i < (h.hd (o / 2)).len := by
  unfold HM.lookE at he
  split at he
  · omega
  · rename_i h1
    split at he
    · omega
    · rename_i h2
      split at he
      · omega
      · rename_i h3
        exact ⟨by simpa using h1, by simpa using h2, by omega, by omega⟩
theorem HM.isB_hd {h : HM} (hh : h.Heads) {o : Nat} (hi : h.isB o = true) : h.hdAt (o / 2) :=
  hh _ (by unfold HM.isB at hi; simp only [Bool.and_eq_true] at hi; exact hi.2)
theorem HM.isB_obj {h : HM} {o : Nat} (hi : h.isB o = true) : objB o = true := by
  unfold HM.isB at hi; simp only [Bool.and_eq_true] at hi; exact hi.1
theorem HM.lookE_lt (h : HM) (o : Nat) (i : Int) (fs : List Nat) : h.lookE o i fs ≤ 21 := by
  unfold HM.lookE; split <;> (try split) <;> (try split) <;> omega

section
variable {w : World} {p : HP} {h : HM} (H : HAt w p h) (f : h.Fit) (hh : h.Heads) (hs : Spares w) (o : Nat) (ho : o < 4294967296) (i : Int)
include H f hh hs ho

set_option maxHeartbeats 1000000 in
theorem get_any : Calls Tryd.prog 26 #[ptr p.g, .int .u32 o, .int .i64 i] w fun e w' => e = .returned (h.readV o i [1, 4]) ∧ Below w.heap.size w w' := by
  have hb0 : ∀ o, Below w.heap.size w (w.alloc o) := fun o => (Below.refl _ _).alloc (Nat.le_refl _) _
  have HC := Lib.hid (look_any (H.below (hb0 (.cells #[.int .i64 1, .int .i64 4] 54))) f hh (hs.below (hb0 _)) o ho i (some ⟨w.heap.size, 0, none⟩) 2 2 [1, 4] (by omega)
    ⟨rfl, fun _ => ⟨_, rfl, by simp, fun j u hj => by
      rw [WideShapes.add_plain, Nat.zero_add, (Blk.new w _ _).cell]
      simpa [ints] using hj⟩⟩)
  have HV := Lib.hid (show h.readV o i [1, 4] = .tuple #[.int .u32 ((if h.lookE o i [1, 4] = 0 then fw h o i.toNat else 0 : Nat) : Int), .int .i64 (h.lookE o i [1, 4])] from rfl)
  have HL := Lib.hid (show h.lookV o i [1, 4] = .tuple #[.int .i64 ((if h.lookE o i [1, 4] = 0 then o / 2 + 3 else 0 : Nat) : Int), .int .i64 (h.lookE o i [1, 4])] from rfl)
  rw [HL.out] at HC
  clear HL
  have hle := h.lookE_lt o i [1, 4]
  unfold ptr at HC ⊢
  by_cases he : h.lookE o i [1, 4] = 0
  · obtain ⟨hi, hc, h0, hlt⟩ := HM.look_ok he
    have hd := (HM.isB_hd hh hi).1
    have hsz : (h.hd (o / 2)).len = (h.hd (o / 2)).size := by
      unfold Hd.len; rw [if_neg (fun e => by rw [e] at hc; simp at hc)]
    rw [hsz] at hlt
    obtain ⟨k, rfl⟩ := Int.eq_ofNat_of_zero_le h0
    have hk : o / 2 + 3 + k < h.words.length := by omega
    have hcell : ∀ w', Below w.heap.size w w' → w'.cell? ⟨p.gw, o / 2 + 3 + k, none⟩ = some (.int .u32 (fw h o k : Nat)) := fun w' hb => (H.below hb).word hk
    have hc0 : ∀ w', Below w.heap.size w w' → w'.cell? ⟨p.g, 0, none⟩ = some (.slice (some ⟨p.gw, 0, none⟩) h.words.length p.cw) := fun w' hb => (H.below hb).c0
    have HCC := Lib.hid hcell
    have HC0 := Lib.hid hc0
    have hmx := f.room
    have hmx2 := f.hi
    rw [he] at HC HV
    simp only [if_true, Int.toNat_natCast] at HC HV
    clear he hi hc hd hsz hlt hcell hc0 hle
    have hq : o / 2 < 2147483648 := by omega
    generalize fw h o k = v at *
    generalize o / 2 = q at *
    generalize h.words.length = len at *
    go_enter Tryd.func26, Tryd.ntmps26
    go_wp2_with fail
    refine HC.out.mono ?_
    rintro e w1 ⟨rfl, hb1⟩
    have hb := below_top (hb0 _) hb1
    have c0 := HC0.out _ hb
    have cv := HCC.out _ hb
    go_wp2_with fail
    go_ret2
    exact ⟨by rw [HV.out]; rfl, hb⟩
  · have hne : ((h.lookE o i [1, 4] : Int) != 0) = true := by simp; omega
    simp only [if_neg he] at HC HV
    generalize h.lookE o i [1, 4] = E at *
    clear he
    go_enter Tryd.func26, Tryd.ntmps26
    go_wp2_with fail
    refine HC.out.mono ?_
    rintro e w1 ⟨rfl, hb1⟩
    go_wp2_with fail
    go_ret2
    exact ⟨by rw [HV.out]; rfl, below_top (hb0 _) hb1⟩
set_option maxHeartbeats 1000000 in
theorem word_any : Calls Tryd.prog 71 #[ptr p.g, .int .u32 o, .int .i64 i] w fun e w' => e = .returned (h.readV o i [3]) ∧ Below w.heap.size w w' := by
  have hb0 : ∀ o, Below w.heap.size w (w.alloc o) := fun o => (Below.refl _ _).alloc (Nat.le_refl _) _
  have HC := Lib.hid (look_any (H.below (hb0 (.cells #[.int .i64 3] 54))) f hh (hs.below (hb0 _)) o ho i (some ⟨w.heap.size, 0, none⟩) 1 1 [3] (by omega)
    ⟨rfl, fun _ => ⟨_, rfl, by simp, fun j u hj => by
      rw [WideShapes.add_plain, Nat.zero_add, (Blk.new w _ _).cell]
      simpa [ints] using hj⟩⟩)
  have HV := Lib.hid (show h.readV o i [3] = .tuple #[.int .u32 ((if h.lookE o i [3] = 0 then fw h o i.toNat else 0 : Nat) : Int), .int .i64 (h.lookE o i [3])] from rfl)
  have HL := Lib.hid (show h.lookV o i [3] = .tuple #[.int .i64 ((if h.lookE o i [3] = 0 then o / 2 + 3 else 0 : Nat) : Int), .int .i64 (h.lookE o i [3])] from rfl)
  rw [HL.out] at HC
  clear HL
  have hle := h.lookE_lt o i [3]
  unfold ptr at HC ⊢
  by_cases he : h.lookE o i [3] = 0
  · obtain ⟨hi, hc, h0, hlt⟩ := HM.look_ok he
    have hd := (HM.isB_hd hh hi).1
    have hsz : (h.hd (o / 2)).len = (h.hd (o / 2)).size := by
      unfold Hd.len; rw [if_neg (fun e => by rw [e] at hc; simp at hc)]
    rw [hsz] at hlt
    obtain ⟨k, rfl⟩ := Int.eq_ofNat_of_zero_le h0
    have hk : o / 2 + 3 + k < h.words.length := by omega
    have hcell : ∀ w', Below w.heap.size w w' → w'.cell? ⟨p.gw, o / 2 + 3 + k, none⟩ = some (.int .u32 (fw h o k : Nat)) := fun w' hb => (H.below hb).word hk
    have hc0 : ∀ w', Below w.heap.size w w' → w'.cell? ⟨p.g, 0, none⟩ = some (.slice (some ⟨p.gw, 0, none⟩) h.words.length p.cw) := fun w' hb => (H.below hb).c0
    have HCC := Lib.hid hcell
    have HC0 := Lib.hid hc0
    have hmx := f.room
    have hmx2 := f.hi
    rw [he] at HC HV
    simp only [if_true, Int.toNat_natCast] at HC HV
    clear he hi hc hd hsz hlt hcell hc0 hle
    have hq : o / 2 < 2147483648 := by omega
    generalize fw h o k = v at *
    generalize o / 2 = q at *
    generalize h.words.length = len at *
    go_enter Tryd.func71, Tryd.ntmps71
    go_wp2_with fail
    refine HC.out.mono ?_
    rintro e w1 ⟨rfl, hb1⟩
    have hb := below_top (hb0 _) hb1
    have c0 := HC0.out _ hb
    have cv := HCC.out _ hb
    go_wp2_with fail
    go_ret2
    exact ⟨by rw [HV.out]; rfl, hb⟩
  · have hne : ((h.lookE o i [3] : Int) != 0) = true := by simp; omega
    simp only [if_neg he] at HC HV
    generalize h.lookE o i [3] = E at *
    clear he
    go_enter Tryd.func71, Tryd.ntmps71
    go_wp2_with fail
    refine HC.out.mono ?_
    rintro e w1 ⟨rfl, hb1⟩
    go_wp2_with fail
    go_ret2
    exact ⟨by rw [HV.out]; rfl, below_top (hb0 _) hb1⟩
end

/-- What Put answers, and leaves. -/
def HM.putE (h : HM) (o : Nat) (i : Int) (v : Nat) : Nat := if h.lookE o i [1, 4] = 0 then (if h.valB v then 0 else 3) else h.lookE o i [1, 4]
def HM.setF (h : HM) (o k v : Nat) : HM := { h with words := h.words.set (o / 2 + 3 + k) v }
def HM.putH (h : HM) (o : Nat) (i : Int) (v : Nat) : HM := if h.putE o i v = 0 then h.setF o i.toNat v else h
/-- A deed that answers an error's number and leaves the heap as told. -/
def Deeds (p : HP) (h' : HM) (E : Nat) (w : World) (e : Ending) (w' : World) : Prop := e = .returned (.int .i64 E) ∧ HAt w' p h' ∧ Step p p w w'

section
variable {w : World} {p : HP} {h : HM} (H : HAt w p h) (f : h.Fit) (hh : h.Heads) (hs : Spares w) (o : Nat) (ho : o < 4294967296) (i : Int)
include H f hh hs ho

set_option maxHeartbeats 1000000 in
theorem put_any (v : Nat) (hv : v < 4294967296) : Calls Tryd.prog 51 #[ptr p.g, .int .u32 o, .int .i64 i, .int .u32 v] w (Deeds p (h.putH o i v) (h.putE o i v) w) := by
  have hb0 : ∀ o, Below w.heap.size w (w.alloc o) := fun o => (Below.refl _ _).alloc (Nat.le_refl _) _
  have HC := Lib.hid (look_any (H.below (hb0 (.cells #[.int .i64 1, .int .i64 4] 54))) f hh (hs.below (hb0 _)) o ho i (some ⟨w.heap.size, 0, none⟩) 2 2 [1, 4] (by omega)
    ⟨rfl, fun _ => ⟨_, rfl, by simp, fun j u hj => by
      rw [WideShapes.add_plain, Nat.zero_add, (Blk.new w _ _).cell]
      simpa [ints] using hj⟩⟩)
  have HL := Lib.hid (show h.lookV o i [1, 4] = .tuple #[.int .i64 ((if h.lookE o i [1, 4] = 0 then o / 2 + 3 else 0 : Nat) : Int), .int .i64 (h.lookE o i [1, 4])] from rfl)
  rw [HL.out] at HC
  clear HL
  have hle := h.lookE_lt o i [1, 4]
  have HVC := Lib.hid (fun w' (hb : Below w.heap.size w w') => value_any (H.below hb) f v hv)
  by_cases he : h.lookE o i [1, 4] = 0
  · obtain ⟨hi, hc, h0, hlt⟩ := HM.look_ok he
    have hd := (HM.isB_hd hh hi).1
    have hsz : (h.hd (o / 2)).len = (h.hd (o / 2)).size := by
      unfold Hd.len; rw [if_neg (fun e => by rw [e] at hc; simp at hc)]
    rw [hsz] at hlt
    obtain ⟨k, rfl⟩ := Int.eq_ofNat_of_zero_le h0
    have hk : o / 2 + 3 + k < h.words.length := by omega
    have hmx := f.room
    have hmx2 := f.hi
    have hE : h.putE o k v = if h.valB v then 0 else 3 := by simp [HM.putE, he]
    cases hval : h.valB v
    · have HP' := Lib.hid (show h.putE o k v = 3 ∧ h.putH o k v = h by simp [HM.putH, hE, hval])
      rw [hval] at HVC
      rw [he] at HC
      simp only [if_true] at HC
      clear he hi hc hd hsz hlt hle hE hval
      have hq : o / 2 < 2147483648 := by omega
      generalize o / 2 = q at *
      unfold ptr at HC HVC ⊢
      go_enter Tryd.func51, Tryd.ntmps51
      go_wp2_with fail
      refine HC.out.mono ?_
      rintro e w1 ⟨rfl, hb1⟩
      have hb := below_top (hb0 _) hb1
      go_wp2_with fail
      refine (HVC.out _ hb).mono ?_
      rintro e w2 ⟨rfl, rfl⟩
      go_wp2_with fail
      go_ret
      exact ⟨by rw [HP'.out.1]; rfl, by rw [HP'.out.2]; exact H.below hb, .of_below hb⟩
    · have HP' := Lib.hid (show h.putE o k v = 0 ∧ h.putH o k v = h.setF o k v by simp [HM.putH, hE, hval])
      rw [hval] at HVC
      rw [he] at HC
      simp only [if_true] at HC
      clear he hi hc hd hsz hlt hle hE hval
      have hc0 : ∀ w', Below w.heap.size w w' → w'.cell? ⟨p.g, 0, none⟩ = some (.slice (some ⟨p.gw, 0, none⟩) h.words.length p.cw) := fun w' hb => (H.below hb).c0
      have hcell : ∀ w', Below w.heap.size w w' → w'.cell? ⟨p.gw, o / 2 + 3 + k, none⟩ = some (.int .u32 (fw h o k : Nat)) := fun w' hb => (H.below hb).word hk
      have hfz : ∀ w', Below w.heap.size w w' → w'.frozen? ⟨p.gw, o / 2 + 3 + k, none⟩ = false := fun w' hb => (H.below hb).2.1.frozen _
      have HCC := Lib.hid hcell
      have HC0 := Lib.hid hc0
      have HFZ := Lib.hid hfz
      have HS := Lib.hid (show ∀ w', Below w.heap.size w w' → HAt (w'.setCell ⟨p.gw, o / 2 + 3 + k, none⟩ (.int .u32 v)) p (h.setF o k v) from fun w' hb => (H.below hb).setWord _ _)
      clear hc0 hcell hfz
      have hq : o / 2 < 2147483648 := by omega
      generalize h.setF o k v = h2 at *
      generalize o / 2 = q at *
      generalize h.words.length = len at *
      unfold ptr at HC HVC ⊢
      go_enter Tryd.func51, Tryd.ntmps51
      go_wp2_with fail
      refine HC.out.mono ?_
      rintro e w1 ⟨rfl, hb1⟩
      have hb := below_top (hb0 _) hb1
      go_wp2_with fail
      refine (HVC.out _ hb).mono ?_
      rintro e w2 ⟨rfl, rfl⟩
      have c0 := HC0.out _ hb
      have cv := HCC.out _ hb
      have cf := HFZ.out _ hb
      go_wp2_with fail
      go_ret
      exact ⟨by rw [HP'.out.1]; rfl, by rw [HP'.out.2]; exact HS.out _ hb, (Step.of_below hb).setCell (.inl (.inr (.inl rfl))) _⟩
  · have hne : ((h.lookE o i [1, 4] : Int) != 0) = true := by simp; omega
    simp only [if_neg he] at HC
    have HP' := Lib.hid (show h.putE o i v = h.lookE o i [1, 4] ∧ h.putH o i v = h by simp [HM.putH, HM.putE, he])
    generalize h.lookE o i [1, 4] = E at *
    clear he
    unfold ptr at HC HVC ⊢
    go_enter Tryd.func51, Tryd.ntmps51
    go_wp2_with fail
    refine HC.out.mono ?_
    rintro e w1 ⟨rfl, hb1⟩
    have hb := below_top (hb0 _) hb1
    go_wp2_with fail
    go_ret
    exact ⟨by rw [HP'.out.1]; rfl, by rw [HP'.out.2]; exact H.below hb, .of_below hb⟩
end
end Go.Proofs.YtblekggklimpeaaDoor
