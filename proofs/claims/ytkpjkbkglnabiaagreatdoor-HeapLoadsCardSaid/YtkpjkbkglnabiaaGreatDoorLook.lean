/- slices.Contains at formats, pointers, length, Length, look. -/
import Derived.Test.YtkpjkbkglnabiaaGreatDoorHeader
import Derived.Deep.LoopGhost
set_option linter.unusedVariables false
namespace Go.Proofs.YtkpjkbkglnabiaaGreatDoor
open Go.RowKit

def ints (l : List Nat) : List Value := l.map fun x : Nat => .int .i64 (x : Int)
theorem ints_at {zs : List Nat} {k : Nat} {u : Value} (h : (ints zs)[k]? = some u) : ∃ x, zs[k]? = some x ∧ u = .int .i64 (x : Int) := by
  unfold ints at h
  rw [List.getElem?_map] at h
  cases hz : zs[k]? with
  | none => rw [hz] at h; cases h
  | some x => rw [hz] at h; exact ⟨x, rfl, by injection h with h; exact h.symm⟩

/-- What Index answers: a place from 0 on, or -1. -/
def idxPost (fs : List Nat) (x : Nat) (w : World) (e : Ending) (w' : World) : Prop := ∃ j : Int, e = .returned (.int .i64 j) ∧ (decide (0 ≤ j) = fs.contains x) ∧ -1 ≤ j ∧ j ≤ 9223372036854775807 ∧ w = w'

theorem take_contains_none {fs : List Nat} {x k y : Nat} (hy : fs[k]? = some y) (hne : x ≠ y) (h : (fs.take k).contains x = false) : (fs.take (k + 1)).contains x = false := by
  rw [List.take_add_one, hy]
  simp at h ⊢
  exact ⟨h, hne⟩
theorem contains_of_get {fs : List Nat} {x k : Nat} (hy : fs[k]? = some x) : fs.contains x = true := by
  simp
  exact List.mem_of_getElem? hy

set_option maxHeartbeats 400000 in
theorem index_fmt (A : Option Addr) (n c B : Nat) (fs : List Nat) (x : Nat) (w : World) (hn : n ≤ 9223372036854775807) (hr : Reads w B 1 A n (ints fs)) :
    Calls Tryz.prog 118 #[.slice A n c, .int .i64 x] w (idxPost fs x w) := by
  have hl : fs.length = n := by have := hr.1; simpa [ints] using this
  have HL := Lib.hid hl; clear hl
  have HR := Lib.hid hr; clear hr
  go_enter Tryz.func118, Tryz.ntmps118
  go_wp2_with fail
  go_loop [8] (fun i => ∃ k : Nat, k ≤ n ∧ i = .int .i64 k ∧ (fs.take k).contains x = false) (fun i => n - (intOf i).toNat)
  case atStart => exact ⟨0, by omega, rfl, by simp⟩
  case round =>
    obtain ⟨k, hk, rfl, hno⟩ := hrel
    have HNO := Lib.hid hno; clear hno
    by_cases hlt : k < n
    · obtain ⟨ad, u0, rfl, _, hx, hcell⟩ := HR.out.at_ hlt
      obtain ⟨y, hy, rfl⟩ := ints_at hx
      clear hx
      have HY := Lib.hid hy; clear hy
      by_cases hxy : x = y
      · subst hxy
        go_wp2_with fail
        go_ret
        exact ⟨k, rfl, by rw [contains_of_get HY.out]; simp, by omega, by omega, rfl⟩
      · have hb : ((x : Int) == (y : Int)) = false := beq_eq_false_iff_ne.2 (by omega)
        have HXY := Lib.hid hxy; clear hxy
        go_wp2_with fail
        go_round
        case rel => exact ⟨k + 1, by omega, by go_num, take_contains_none HY.out HXY.out HNO.out⟩
        case measure => simp [intOf]; omega
    · obtain rfl : k = n := by omega
      have hall := HNO.out
      rw [List.take_of_length_le (by rw [HL.out]; omega)] at hall
      have HA := Lib.hid hall; clear hall
      go_wp2_with fail
      go_ret
      exact ⟨-1, rfl, by rw [HA.out]; simp, by omega, by omega, rfl⟩

theorem contains_fmt (A : Option Addr) (n c B : Nat) (fs : List Nat) (x : Nat) (w : World) (hn : n ≤ 9223372036854775807) (hr : Reads w B 1 A n (ints fs)) :
    Calls Tryz.prog 105 #[.slice A n c, .int .i64 x] w fun e w' => e = .returned (.bool (fs.contains x)) ∧ w = w' := by
  have HR := Lib.hid hr; clear hr
  go_enter Tryz.func105, Tryz.ntmps105
  go_wp2_with fail
  refine (index_fmt A n c B fs x w hn HR.out).mono ?_
  rintro e w' ⟨j, rfl, hj, hlo, hhi, rfl⟩
  have HJ := Lib.hid hj; clear hj
  go_wp2_with fail
  go_ret
  exact ⟨by rw [← HJ.out]; rfl, rfl⟩

def Hd.len (x : Hd) : Nat := if x.fmt = 2 then 4 * x.size - x.spare else x.size
def Hd.ptrB (x : Hd) : Bool := decide (x.fmt = 1) || decide (x.fmt = 4)

theorem pointers_any (x : Hd) (f : x.Fit) (w : World) :
    Calls Tryz.prog 96 #[x.val] w fun e w' => e = .returned (.bool x.ptrB) ∧ Below w.heap.size w w' := by
  obtain ⟨n, t, s, c, r⟩ := x
  obtain ⟨f1, f2, f3, f4, f5⟩ := f
  simp only at f1 f2 f3 f4 f5
  unfold Hd.val
  by_cases h1 : t = 1
  · subst h1
    go_enter Tryz.func96, Tryz.ntmps96
    go_wp2_with fail
    go_ret
    exact ⟨rfl, (Below.refl _ _).alloc (Nat.le_refl _) _⟩
  · have hb : ((t : Int) == 1) = false := by simp; omega
    have HF := Lib.hid (show Hd.ptrB ⟨n, t, s, c, r⟩ = ((t : Int) == 4) by
      unfold Hd.ptrB; simp only [h1, decide_false, Bool.false_or]
      by_cases h4 : t = 4
      · subst h4; rfl
      · rw [show ((t : Int) == 4) = false by simp; omega]; simp [h4])
    clear h1
    go_enter Tryz.func96, Tryz.ntmps96
    go_wp2_with fail
    go_ret
    exact ⟨by rw [HF.out]; rfl, (Below.refl _ _).alloc (Nat.le_refl _) _⟩

theorem length_any (x : Hd) (f : x.Fit) (hs : x.fmt = 2 → x.spare ≤ 4 * x.size) (w : World) :
    Calls Tryz.prog 70 #[x.val] w fun e w' => e = .returned (.int .i64 x.len) ∧ Below w.heap.size w w' := by
  obtain ⟨n, t, s, c, r⟩ := x
  obtain ⟨f1, f2, f3, f4, f5⟩ := f
  simp only at f1 f2 f3 f4 f5 hs
  unfold Hd.val
  by_cases h1 : t = 2
  · subst h1
    have h2 := hs rfl
    have HF := Lib.hid (show ((Hd.len ⟨n, 2, s, c, r⟩ : Nat) : Int) = 4 * (n : Int) - s by simp [Hd.len]; omega)
    clear hs
    go_enter Tryz.func70, Tryz.ntmps70
    go_wp2_with fail
    go_ret
    exact ⟨by rw [HF.out]; rfl, (Below.refl _ _).alloc (Nat.le_refl _) _⟩
  · have hb : ((t : Int) == 2) = false := by simp; omega
    have HF := Lib.hid (show Hd.len ⟨n, t, s, c, r⟩ = n by simp [Hd.len, h1])
    clear h1 hs
    go_enter Tryz.func70, Tryz.ntmps70
    go_wp2_with fail
    go_ret
    exact ⟨by rw [HF.out]; rfl, (Below.refl _ _).alloc (Nat.le_refl _) _⟩

/-- A header's spare bytes lie within its fields. -/
def Hd.sane (x : Hd) : Prop := x.fmt = 2 → x.spare ≤ 4 * x.size
theorem okhd_sane {a b c : Nat} (h : okhd a b c = true) : (unhd a b c).sane := by
  intro hf
  unfold okhd Hd.may at h
  simp only [Bool.and_eq_true, Bool.or_eq_true, decide_eq_true_eq] at h
  have hs : (unhd a b c).spare < 4 := Nat.mod_lt _ (by omega)
  omega
theorem HM.hdAt.sane {h : HM} {i : Nat} (hi : h.hdAt i) : (h.hd i).sane := okhd_sane hi.2

/-- The error that a look at an element meets: no object, another format, out of range. -/
def HM.lookE (h : HM) (o : Nat) (i : Int) (fs : List Nat) : Nat :=
  if h.isB o = false then 3 else if fs.contains (h.hd (o / 2)).fmt = false then 21 else if i < 0 ∨ ((h.hd (o / 2)).len : Int) ≤ i then 1 else 0
def HM.lookV (h : HM) (o : Nat) (i : Int) (fs : List Nat) : Value := .tuple #[.int .i64 ((if h.lookE o i fs = 0 then o / 2 + 3 else 0 : Nat) : Int), .int .i64 (h.lookE o i fs)]

set_option maxHeartbeats 2000000 in
theorem look_any {w : World} {p : HP} {h : HM} (H : HAt w p h) (f : h.Fit) (hh : h.Heads) (hs : Spares w) (o : Nat) (ho : o < 4294967296) (i : Int) (A : Option Addr) (n c : Nat) (fs : List Nat)
    (hn : n ≤ 9223372036854775807) (hr : Reads w w.heap.size 1 A n (ints fs)) :
    Calls Tryz.prog 66 #[ptr p.g, .int .u32 o, .int .i64 i, .slice A n c] w fun e w' => e = .returned (h.lookV o i fs) ∧ Below w.heap.size w w' := by
  have HC := Lib.hid (Header_any H f hh hs o ho)
  have HR := Lib.hid hr; clear hr
  cases hi : h.isB o
  · have HH := Lib.hid (show h.headerV o = .tuple #[.agg #[.int .i64 0, .int .i64 0, .int .i64 0, .int .u32 0, .int .u32 0], .int .i64 3] by simp [HM.headerV, hi])
    have HF := Lib.hid (show h.lookV o i fs = .tuple #[.int .i64 0, .int .i64 3] by simp [HM.lookV, HM.lookE, hi])
    rw [HH.out] at HC
    clear HH hi
    unfold ptr at HC ⊢
    go_enter Tryz.func66, Tryz.ntmps66
    go_wp2_with fail
    refine HC.out.mono ?_
    rintro e w1 ⟨rfl, hb1⟩
    go_wp2_with fail
    go_ret2
    exact ⟨by rw [HF.out]; rfl, hb1.alloc hb1.size _⟩
  · have hk : objB o = true := by unfold HM.isB at hi; simp only [Bool.and_eq_true] at hi; exact hi.1
    have hd : h.hdAt (o / 2) := hh _ (by unfold HM.isB at hi; simp only [Bool.and_eq_true] at hi; exact hi.2)
    have hx := HM.hd_fit f (o / 2)
    have hsane := hd.sane
    have HH := Lib.hid (show h.headerV o = .tuple #[(h.hd (o / 2)).val, .int .i64 0] by simp [HM.headerV, hi])
    have HA := Lib.hid (fun w => at_any p.g o ho hk w)
    have HE := Lib.hid (show h.lookE o i fs = if fs.contains (h.hd (o / 2)).fmt = false then 21 else if i < 0 ∨ ((h.hd (o / 2)).len : Int) ≤ i then 1 else 0 by simp [HM.lookE, hi])
    have HV := Lib.hid (show h.lookV o i fs = .tuple #[.int .i64 ((if h.lookE o i fs = 0 then o / 2 + 3 else 0 : Nat) : Int), .int .i64 (h.lookE o i fs)] from rfl)
    rw [HE.out] at HV
    rw [HH.out] at HC
    clear hd hk hi HH HE
    have hq : o / 2 < 2147483648 := by omega
    generalize o / 2 = q at *
    have HLC := Lib.hid (fun w => length_any (h.hd q) hx hsane w)
    have hlen : (h.hd q).len < 4294967296 := by
      have := hx.size; unfold Hd.len; split <;> omega
    have HX := Lib.hid (show (h.hd q).val = .agg #[.int .i64 (h.hd q).size, .int .i64 (h.hd q).fmt, .int .i64 (h.hd q).spare, .int .u32 (h.hd q).cls, .int .u32 (h.hd q).ser] from rfl)
    rw [HX.out] at HC HLC
    clear hsane HX
    generalize h.hd q = x at *
    obtain ⟨f1, f2, f3, f4, f5⟩ := hx
    unfold ptr at HC HA ⊢
    go_enter Tryz.func66, Tryz.ntmps66
    go_wp2_with fail
    refine HC.out.mono ?_
    rintro e w1 ⟨rfl, hb1⟩
    have hb2 := hb1.alloc hb1.size (.cells #[.int .i64 x.size, .int .i64 x.fmt, .int .i64 x.spare, .int .u32 x.cls, .int .u32 x.ser] 101)
    have HR2 := Lib.hid (HR.out.below hb2)
    go_wp2_with fail
    refine (contains_fmt A n c _ fs x.fmt _ hn HR2.out).mono ?_
    rintro e w2 ⟨rfl, rfl⟩
    cases hc : fs.contains x.fmt
    · rw [hc] at HV
      simp only [if_true] at HV
      go_wp2_with fail
      go_ret2
      exact ⟨by rw [HV.out]; rfl, hb2⟩
    · rw [hc] at HV
      simp only [Bool.true_eq_false, if_false] at HV
      clear hc
      by_cases hneg : i < 0
      · rw [if_pos (Or.inl hneg)] at HV
        have hd : decide (i < 0) = true := by simpa using hneg
        go_wp2_with fail
        go_ret2
        exact ⟨by rw [HV.out]; rfl, hb2⟩
      · have hd : decide (i < 0) = false := by simpa using hneg
        by_cases hge : (x.len : Int) ≤ i
        · rw [if_pos (Or.inr hge)] at HV
          have hd2 : decide ((x.len : Int) ≤ i) = true := by simpa using hge
          go_wp2_with fail
          refine (HLC.out _).mono ?_
          rintro e w2 ⟨rfl, hb3⟩
          go_wp2_with fail
          go_ret2
          exact ⟨by rw [HV.out]; rfl, below_top hb2 hb3⟩
        · rw [if_neg (show ¬(i < 0 ∨ (x.len : Int) ≤ i) by omega)] at HV
          have hd2 : decide ((x.len : Int) ≤ i) = false := by simpa using hge
          go_wp2_with fail
          refine (HLC.out _).mono ?_
          rintro e w2 ⟨rfl, hb3⟩
          go_wp2_with fail
          refine (HA.out _).mono ?_
          rintro e w3 ⟨rfl, rfl⟩
          go_wp2_with fail
          go_ret2
          exact ⟨by rw [HV.out]; simp, below_top hb2 hb3⟩
end Go.Proofs.YtkpjkbkglnabiaaGreatDoor
