import Derived.Test.YthadjmhipckelaaGreatDoorJMem
import Derived.Test.YthadjmhipckelaaGreatDoorJMapIs
import Derived.Deep.QuietTactic
import Derived.BigQuiet
import Derived.WalkLawsBesides
set_option linter.unusedVariables false
set_option linter.unusedSectionVars false
namespace Go.Proofs.YthadjmhipckelaaGreatDoor
section
open Go.RowKit
def kindM (o : Nat) : Nat := if o = 0 then 0 else if o % 2 = 1 then 1 else 2
theorem u32_and_one (v : Nat) (h : v < 4294967296) : bits .and .u32 (v : Int) 1 = ((v % 2 : Nat) : Int) := by
 rw [u32_and _ _ (by omega) (by omega) (by omega) (by omega)]
 simp
theorem kind_any (o : Nat) (ho : o < 4294967296) (w : World) :
 Calls Tryz.prog 119 #[.int .u32 o] w fun e w' => e = .returned (.int .i64 (kindM o)) ∧ w = w' := by
 have h1 := u32_and_one o ho
 by_cases h0 : o = 0
 ·subst h0
  go_enter Tryz.func119, Tryz.ntmps119
  go_wp2_with fail
  go_ret
  exact ⟨rfl, rfl⟩
 ·have hb : ((o : Int) == 0) = false := by simpa using h0
  by_cases h2 : o % 2 = 1
  ·have hk : kindM o = 1 := by simp [kindM, h0, h2]
   rw [h2] at h1
   have HK := Lib.hid hk; clear hk h2
   go_enter Tryz.func119, Tryz.ntmps119
   go_wp2_with fail
   go_ret
   exact ⟨by rw [HK.out]; rfl, rfl⟩
  ·have hk : kindM o = 2 := by simp [kindM, h0, h2]
   rw [show o % 2 = 0 by omega] at h1
   have HK := Lib.hid hk; clear hk h2
   go_enter Tryz.func119, Tryz.ntmps119
   go_wp2_with fail
   go_ret
   exact ⟨by rw [HK.out]; rfl, rfl⟩
def objB (o : Nat) : Bool := decide (kindM o = 2)
theorem objB_iff (o : Nat) : objB o = true ↔ o ≠ 0 ∧ o % 2 = 0 := by
 unfold objB kindM
 by_cases h : o = 0
 ·simp [h]
 ·by_cases h2 : o % 2 = 1
  ·simp [h, h2]
  ·simp [h, h2]; omega
def indexV (o : Nat) : Value := .tuple (if objB o then #[.int .i64 (o / 2 : Nat), .int .i64 0] else #[.int .i64 0, .int .i64 3])
theorem index_any (o : Nat) (ho : o < 4294967296) (w : World) :
 Calls Tryz.prog 109 #[.int .u32 o] w fun e w' => e = .returned (indexV o) ∧ w = w' := by
 by_cases hk : kindM o = 2
 ·have hn : ((((kindM o : Nat) : Int)) == 2) = true := by rw [hk]; rfl
  go_enter Tryz.func109, Tryz.ntmps109
  go_wp2_with fail
  refine (kind_any o ho _).mono ?_
  rintro e w' ⟨rfl, rfl⟩
  rw [hk]
  go_wp2_with fail
  go_ret2
  exact ⟨by simp [indexV, objB, hk], rfl⟩
 ·have hn : ((((kindM o : Nat) : Int)) != 2) = true := by simp; omega
  have hf : objB o = false := by simp [objB, hk]
  have HF := Lib.hid hf; clear hf
  generalize hkk : kindM o = k at hn hk
  have HKK := Lib.hid hkk; clear hkk
  go_enter Tryz.func109, Tryz.ntmps109
  go_wp2_with fail
  refine (kind_any o ho _).mono ?_
  rintro e w' ⟨rfl, rfl⟩
  rw [HKK.out]
  go_wp2_with fail
  go_ret2
  exact ⟨by simp [indexV, HF.out], rfl⟩
def HM.isB (h : HM) (o : Nat) : Bool := objB o && h.starts.getD (o / 2) false
theorem made_any {w : World} {p : HP} {h : HM} (H : HAt w p h) (hs : 0 < h.size) (hs2 : h.size ≤ 1048576) :
 Calls Tryz.prog 37 #[ptr p.g] w fun e w' => e = .returned (.bool true) ∧ w = w' := by
 have c3 := H.c3
 have h1 : decide ((h.size : Int) > 0) = true := by simp; omega
 unfold ptr
 go_enter Tryz.func37, Tryz.ntmps37
 go_wp2_with fail
 go_ret
 exact ⟨by simp, rfl⟩
theorem is_any {w : World} {p : HP} {h : HM} (H : HAt w p h) (f : h.Fit) (o : Nat) (ho : o < 4294967296) :
 Calls Tryz.prog 108 #[ptr p.g, .int .u32 o] w fun e w' => e = .returned (.bool (h.isB o)) ∧ w = w' := by
 have hm := made_any H (by have := f.lo; omega) f.hi
 have HM' := Lib.hid hm; clear hm
 have c1 := H.c1
 have hlen := f.marks
 have hroom := f.room
 have hhi := f.hi
 by_cases hk : objB o = true
 ·have hi : indexV o = .tuple #[.int .i64 (o / 2 : Nat), .int .i64 0] := by simp [indexV, hk]
  by_cases hl : o / 2 < h.starts.length
  ·have hcell := H.mark hl
   have HF := Lib.hid (show h.isB o = h.starts.getD (o / 2) false by simp [HM.isB, hk])
   generalize h.starts.getD (o / 2) false = b at *
   generalize hq : o / 2 = q at *
   have HI := Lib.hid hi
   clear hi hq hk
   unfold ptr
   have hlt : (q : Int) < (h.starts.length : Int) := by omega
   go_enter Tryz.func108, Tryz.ntmps108
   go_wp2_with fail
   refine (index_any o ho _).mono ?_
   rintro e w' ⟨rfl, rfl⟩
   rw [HI.out]
   go_wp2_with fail
   refine HM'.out.mono ?_
   rintro e w' ⟨rfl, rfl⟩
   go_wp2_with fail
   go_ret
   exact ⟨by rw [HF.out]; rfl, rfl⟩
  ·have HF := Lib.hid (show h.isB o = false by rw [HM.isB, List.getD_eq_getElem?_getD, List.getElem?_eq_none (by omega)]; simp)
   generalize hq : o / 2 = q at *
   have HI := Lib.hid hi
   clear hi hq hk
   unfold ptr
   have hlt : (h.starts.length : Int) ≤ (q : Int) := by omega
   go_enter Tryz.func108, Tryz.ntmps108
   go_wp2_with fail
   refine (index_any o ho _).mono ?_
   rintro e w' ⟨rfl, rfl⟩
   rw [HI.out]
   go_wp2_with fail
   refine HM'.out.mono ?_
   rintro e w' ⟨rfl, rfl⟩
   go_wp2_with fail
   go_ret
   exact ⟨by rw [HF.out]; rfl, rfl⟩
 ·have HI := Lib.hid (show indexV o = .tuple #[.int .i64 0, .int .i64 3] by simp [indexV, hk])
  have HF := Lib.hid (show h.isB o = false by simp [HM.isB, hk])
  clear hk
  unfold ptr
  go_enter Tryz.func108, Tryz.ntmps108
  go_wp2_with fail
  refine (index_any o ho _).mono ?_
  rintro e w' ⟨rfl, rfl⟩
  rw [HI.out]
  go_wp2_with fail
  go_ret
  exact ⟨by rw [HF.out]; rfl, rfl⟩
def HM.clsB (h : HM) (c : Nat) : Bool := decide (c = 0) || h.isB c
def HM.valB (h : HM) (v : Nat) : Bool := !objB v || h.isB v
theorem class_any {w : World} {p : HP} {h : HM} (H : HAt w p h) (f : h.Fit) (o : Nat) (ho : o < 4294967296) :
 Calls Tryz.prog 100 #[ptr p.g, .int .u32 o] w fun e w' => e = .returned (.bool (h.clsB o)) ∧ w = w' := by
 have HI := Lib.hid (is_any H f o ho)
 by_cases h0 : o = 0
 ·subst h0
  go_enter Tryz.func100, Tryz.ntmps100
  go_wp2_with fail
  go_ret
  exact ⟨by simp [HM.clsB], rfl⟩
 ·have hb : ((o : Int) == 0) = false := by simpa using h0
  have HF := Lib.hid (show h.clsB o = h.isB o by simp [HM.clsB, h0])
  generalize h.isB o = b at *
  clear h0
  go_enter Tryz.func100, Tryz.ntmps100
  go_wp2_with fail
  refine HI.out.mono ?_
  rintro e w' ⟨rfl, rfl⟩
  go_wp2_with fail
  go_ret
  exact ⟨by rw [HF.out]; rfl, rfl⟩
theorem value_any {w : World} {p : HP} {h : HM} (H : HAt w p h) (f : h.Fit) (o : Nat) (ho : o < 4294967296) :
 Calls Tryz.prog 103 #[ptr p.g, .int .u32 o] w fun e w' => e = .returned (.bool (h.valB o)) ∧ w = w' := by
 have HI := Lib.hid (is_any H f o ho)
 have HK := Lib.hid (kind_any o ho w)
 by_cases hk : kindM o = 2
 ·have HF := Lib.hid (show h.valB o = h.isB o by simp [HM.valB, objB, hk])
  have hb : ((2 : Int) != 2) = false := rfl
  rw [hk] at HK
  clear hk
  generalize h.isB o = b at *
  go_enter Tryz.func103, Tryz.ntmps103
  go_wp2_with fail
  refine HK.out.mono ?_
  rintro e w' ⟨rfl, rfl⟩
  go_wp2_with fail
  refine HI.out.mono ?_
  rintro e w' ⟨rfl, rfl⟩
  go_wp2_with fail
  go_ret
  exact ⟨by rw [HF.out]; rfl, rfl⟩
 ·have HF := Lib.hid (show h.valB o = true by simp [HM.valB, objB, hk])
  have hb : ((kindM o : Int) != 2) = true := by simp; omega
  generalize kindM o = k at *
  clear hk
  go_enter Tryz.func103, Tryz.ntmps103
  go_wp2_with fail
  refine HK.out.mono ?_
  rintro e w' ⟨rfl, rfl⟩
  go_wp2_with fail
  go_ret
  exact ⟨by rw [HF.out]; rfl, rfl⟩
theorem at_any (g : Nat) (o : Nat) (ho : o < 4294967296) (hk : objB o = true) (w : World) :
 Calls Tryz.prog 78 #[ptr g, .int .u32 o] w fun e w' => e = .returned (.int .i64 (o / 2 : Nat)) ∧ w = w' := by
 have HI := Lib.hid (show indexV o = .tuple #[.int .i64 (o / 2 : Nat), .int .i64 0] by simp [indexV, hk])
 clear hk
 go_enter Tryz.func78, Tryz.ntmps78
 go_wp2_with fail
 refine (index_any o ho _).mono ?_
 rintro e w' ⟨rfl, rfl⟩
 rw [HI.out]
 go_wp2_with fail
 go_ret
 exact ⟨by simp, rfl⟩
end
section
open Go.RowKit
end
section
open Go.RowKit
structure Nd where
 o : Nat
 par : Int
 fld : Int
 deep : Nat
instance : Inhabited Nd := ⟨⟨0, 0, 0, 0⟩⟩
def oopsOf (l : List Nd) : List Nat := l.map (·.o)
def meetN (l : List Nd) (o : Nat) (par fld : Int) (deep : Nat) : List Nd := if kindM o = 2 ∧ o ∉ oopsOf l then l ++ [⟨o, par, fld, deep⟩] else l
section
variable (nN : Nat → Nat) (nA : Nat → Nat → Nat)
def meetF (fr : List Nat) : Nat → List Nd
 | 0 => []
 | k + 1 => meetN (meetF fr k) (fr.getD k 0) (-1) (k : Int) 1
def meetK (l : List Nd) (i : Nat) : Nat → List Nd
 | 0 => l
 | k + 1 => meetN (meetK l i k) (nA (l.getD i default).o k) (i : Int) ((k : Int) - 1) ((l.getD i default).deep + 1)
def roundM (l : List Nd) (i : Nat) : List Nd := meetK nA l i (nN (l.getD i default).o)
def bfsM : Nat → Nat → List Nd → Option (List Nd)
 | 0, _, _ => none
 | f + 1, i, l => if i < l.length then (if 65536 < (roundM nN nA l i).length then none else bfsM f (i + 1) (roundM nN nA l i)) else some l
def seenM (fr : List Nat) : Option (List Nd) := if 65536 < (meetF fr fr.length).length then none else bfsM nN nA 65538 0 (meetF fr fr.length)
end
structure Going (nN : Nat → Nat) (nA : Nat → Nat → Nat) (fr : List Nat) (i : Nat) (l : List Nd) : Prop where
 nodup : (oopsOf l).Nodup
 le : i ≤ l.length
 short : i = 0 ∨ l.length ≤ 65536
 rest : seenM nN nA fr = if 65536 < l.length then none else bfsM nN nA (65538 - i) i l
def cnt7 (n : Nat) : List Nat := if h : n < 128 then [n] else (n % 128 + 128) :: cnt7 (n / 128)
termination_by n
decreasing_by omega
theorem cnt7_small {n : Nat} (h : n < 128) : cnt7 n = [n] := by unfold cnt7; rw [dif_pos h]
theorem cnt7_big {n : Nat} (h : ¬ n < 128) : cnt7 n = (n % 128 + 128) :: cnt7 (n / 128) := by conv => lhs; unfold cnt7
                                                                                              rw [dif_neg h]
theorem cnt7_byte (n : Nat) : ∀ x ∈ cnt7 n, x < 256 := by
 induction n using Nat.strongRecOn with
 | _ n ih =>
   intro x hx
   by_cases h : n < 128
   ·rw [cnt7_small h] at hx; simp at hx; omega
   ·rw [cnt7_big h] at hx
    rcases List.mem_cons.1 hx with rfl | hx
    ·omega
    ·exact ih (n / 128) (by omega) x hx
end
end Go.Proofs.YthadjmhipckelaaGreatDoor
