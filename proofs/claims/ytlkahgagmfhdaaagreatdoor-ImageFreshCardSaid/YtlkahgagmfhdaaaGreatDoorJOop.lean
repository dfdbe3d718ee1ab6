import Derived.Test.YtlkahgagmfhdaaaGreatDoorJMem
import Derived.Test.YtlkahgagmfhdaaaGreatDoorJMapIs
import Derived.Deep.QuietTactic
import Derived.BigQuiet
import Derived.WalkLawsBesides
set_option linter.unusedVariables false
set_option linter.unusedSectionVars false
namespace Go.Proofs.YtlkahgagmfhdaaaGreatDoor
section
open Go.RowKit
def kindM (o : Nat) : Nat := if o = 0 then 0 else if o % 2 = 1 then 1 else 2
theorem u32_and_one (v : Nat) (h : v < 4294967296) : bits .and .u32 (v : Int) 1 = ((v % 2 : Nat) : Int) := by
 rw [u32_and _ _ (by omega) (by omega) (by omega) (by omega)]
 simp
theorem kind_any (o : Nat) (ho : o < 4294967296) (w : World) :
 Calls Tryz.prog 82 #[.int .u32 o] w fun e w' => e = .returned (.int .i64 (kindM o)) ∧ w = w' := by
 have h1 := u32_and_one o ho
 by_cases h0 : o = 0
 ·subst h0
  go_enter Tryz.func82, Tryz.ntmps82
  go_wp2_with fail
  go_ret
  exact ⟨rfl, rfl⟩
 ·have hb : ((o : Int) == 0) = false := by simpa using h0
  by_cases h2 : o % 2 = 1
  ·have hk : kindM o = 1 := by simp [kindM, h0, h2]
   rw [h2] at h1
   have HK := Lib.hid hk; clear hk h2
   go_enter Tryz.func82, Tryz.ntmps82
   go_wp2_with fail
   go_ret
   exact ⟨by rw [HK.out]; rfl, rfl⟩
  ·have hk : kindM o = 2 := by simp [kindM, h0, h2]
   rw [show o % 2 = 0 by omega] at h1
   have HK := Lib.hid hk; clear hk h2
   go_enter Tryz.func82, Tryz.ntmps82
   go_wp2_with fail
   go_ret
   exact ⟨by rw [HK.out]; rfl, rfl⟩
def objB (o : Nat) : Bool := decide (kindM o = 2)
theorem objB_iff (o : Nat) : objB o = true ↔ o ≠ 0 ∧ o % 2 = 0 := by
 unfold objB kindM
 by_cases h : o = 0
 ·simp [h]
 ·by_cases h2 : o % 2 = 1
  ·simp [h, h2]
  ·simp [h, h2]; omega
def indexV (o : Nat) : Value := .tuple (if objB o then #[.int .i64 (o / 2 : Nat), .int .i64 0] else #[.int .i64 0, .int .i64 3])
theorem index_any (o : Nat) (ho : o < 4294967296) (w : World) :
 Calls Tryz.prog 165 #[.int .u32 o] w fun e w' => e = .returned (indexV o) ∧ w = w' := by
 by_cases hk : kindM o = 2
 ·have hn : ((((kindM o : Nat) : Int)) == 2) = true := by rw [hk]; rfl
  go_enter Tryz.func165, Tryz.ntmps165
  go_wp2_with fail
  refine (kind_any o ho _).mono ?_
  rintro e w' ⟨rfl, rfl⟩
  rw [hk]
  go_wp2_with fail
  go_ret2
  exact ⟨by simp [indexV, objB, hk], rfl⟩
 ·have hn : ((((kindM o : Nat) : Int)) != 2) = true := by simp; omega
  have hf : objB o = false := by simp [objB, hk]
  have HF := Lib.hid hf; clear hf
  generalize hkk : kindM o = k at hn hk
  have HKK := Lib.hid hkk; clear hkk
  go_enter Tryz.func165, Tryz.ntmps165
  go_wp2_with fail
  refine (kind_any o ho _).mono ?_
  rintro e w' ⟨rfl, rfl⟩
  rw [HKK.out]
  go_wp2_with fail
  go_ret2
  exact ⟨by simp [indexV, HF.out], rfl⟩
def HM.isB (h : HM) (o : Nat) : Bool := objB o && h.starts.getD (o / 2) false
theorem made_any {w : World} {p : HP} {h : HM} (H : HAt w p h) (hs : 0 < h.size) (hs2 : h.size ≤ 1048576) :
 Calls Tryz.prog 83 #[ptr p.g] w fun e w' => e = .returned (.bool true) ∧ w = w' := by
 have c3 := H.c3
 have h1 : decide ((h.size : Int) > 0) = true := by simp; omega
 unfold ptr
 go_enter Tryz.func83, Tryz.ntmps83
 go_wp2_with fail
 go_ret
 exact ⟨by simp, rfl⟩
theorem is_any {w : World} {p : HP} {h : HM} (H : HAt w p h) (f : h.Fit) (o : Nat) (ho : o < 4294967296) :
 Calls Tryz.prog 85 #[ptr p.g, .int .u32 o] w fun e w' => e = .returned (.bool (h.isB o)) ∧ w = w' := by
 have hm := made_any H (by have := f.lo; omega) f.hi
 have HM' := Lib.hid hm; clear hm
 have c1 := H.c1
 have hlen := f.marks
 have hroom := f.room
 have hhi := f.hi
 by_cases hk : objB o = true
 ·have hi : indexV o = .tuple #[.int .i64 (o / 2 : Nat), .int .i64 0] := by simp [indexV, hk]
  by_cases hl : o / 2 < h.starts.length
  ·have hcell := H.mark hl
   have HF := Lib.hid (show h.isB o = h.starts.getD (o / 2) false by simp [HM.isB, hk])
   generalize h.starts.getD (o / 2) false = b at *
   generalize hq : o / 2 = q at *
   have HI := Lib.hid hi
   clear hi hq hk
   unfold ptr
   have hlt : (q : Int) < (h.starts.length : Int) := by omega
   go_enter Tryz.func85, Tryz.ntmps85
   go_wp2_with fail
   refine (index_any o ho _).mono ?_
   rintro e w' ⟨rfl, rfl⟩
   rw [HI.out]
   go_wp2_with fail
   refine HM'.out.mono ?_
   rintro e w' ⟨rfl, rfl⟩
   go_wp2_with fail
   go_ret
   exact ⟨by rw [HF.out]; rfl, rfl⟩
  ·have HF := Lib.hid (show h.isB o = false by rw [HM.isB, List.getD_eq_getElem?_getD, List.getElem?_eq_none (by omega)]; simp)
   generalize hq : o / 2 = q at *
   have HI := Lib.hid hi
   clear hi hq hk
   unfold ptr
   have hlt : (h.starts.length : Int) ≤ (q : Int) := by omega
   go_enter Tryz.func85, Tryz.ntmps85
   go_wp2_with fail
   refine (index_any o ho _).mono ?_
   rintro e w' ⟨rfl, rfl⟩
   rw [HI.out]
   go_wp2_with fail
   refine HM'.out.mono ?_
   rintro e w' ⟨rfl, rfl⟩
   go_wp2_with fail
   go_ret
   exact ⟨by rw [HF.out]; rfl, rfl⟩
 ·have HI := Lib.hid (show indexV o = .tuple #[.int .i64 0, .int .i64 3] by simp [indexV, hk])
  have HF := Lib.hid (show h.isB o = false by simp [HM.isB, hk])
  clear hk
  unfold ptr
  go_enter Tryz.func85, Tryz.ntmps85
  go_wp2_with fail
  refine (index_any o ho _).mono ?_
  rintro e w' ⟨rfl, rfl⟩
  rw [HI.out]
  go_wp2_with fail
  go_ret
  exact ⟨by rw [HF.out]; rfl, rfl⟩
def HM.clsB (h : HM) (c : Nat) : Bool := decide (c = 0) || h.isB c
def HM.valB (h : HM) (v : Nat) : Bool := !objB v || h.isB v
theorem class_any {w : World} {p : HP} {h : HM} (H : HAt w p h) (f : h.Fit) (o : Nat) (ho : o < 4294967296) :
 Calls Tryz.prog 204 #[ptr p.g, .int .u32 o] w fun e w' => e = .returned (.bool (h.clsB o)) ∧ w = w' := by
 have HI := Lib.hid (is_any H f o ho)
 by_cases h0 : o = 0
 ·subst h0
  go_enter Tryz.func204, Tryz.ntmps204
  go_wp2_with fail
  go_ret
  exact ⟨by simp [HM.clsB], rfl⟩
 ·have hb : ((o : Int) == 0) = false := by simpa using h0
  have HF := Lib.hid (show h.clsB o = h.isB o by simp [HM.clsB, h0])
  generalize h.isB o = b at *
  clear h0
  go_enter Tryz.func204, Tryz.ntmps204
  go_wp2_with fail
  refine HI.out.mono ?_
  rintro e w' ⟨rfl, rfl⟩
  go_wp2_with fail
  go_ret
  exact ⟨by rw [HF.out]; rfl, rfl⟩
theorem value_any {w : World} {p : HP} {h : HM} (H : HAt w p h) (f : h.Fit) (o : Nat) (ho : o < 4294967296) :
 Calls Tryz.prog 161 #[ptr p.g, .int .u32 o] w fun e w' => e = .returned (.bool (h.valB o)) ∧ w = w' := by
 have HI := Lib.hid (is_any H f o ho)
 have HK := Lib.hid (kind_any o ho w)
 by_cases hk : kindM o = 2
 ·have HF := Lib.hid (show h.valB o = h.isB o by simp [HM.valB, objB, hk])
  have hb : ((2 : Int) != 2) = false := rfl
  rw [hk] at HK
  clear hk
  generalize h.isB o = b at *
  go_enter Tryz.func161, Tryz.ntmps161
  go_wp2_with fail
  refine HK.out.mono ?_
  rintro e w' ⟨rfl, rfl⟩
  go_wp2_with fail
  refine HI.out.mono ?_
  rintro e w' ⟨rfl, rfl⟩
  go_wp2_with fail
  go_ret
  exact ⟨by rw [HF.out]; rfl, rfl⟩
 ·have HF := Lib.hid (show h.valB o = true by simp [HM.valB, objB, hk])
  have hb : ((kindM o : Int) != 2) = true := by simp; omega
  generalize kindM o = k at *
  clear hk
  go_enter Tryz.func161, Tryz.ntmps161
  go_wp2_with fail
  refine HK.out.mono ?_
  rintro e w' ⟨rfl, rfl⟩
  go_wp2_with fail
  go_ret
  exact ⟨by rw [HF.out]; rfl, rfl⟩
theorem at_any (g : Nat) (o : Nat) (ho : o < 4294967296) (hk : objB o = true) (w : World) :
 Calls Tryz.prog 98 #[ptr g, .int .u32 o] w fun e w' => e = .returned (.int .i64 (o / 2 : Nat)) ∧ w = w' := by
 have HI := Lib.hid (show indexV o = .tuple #[.int .i64 (o / 2 : Nat), .int .i64 0] by simp [indexV, hk])
 clear hk
 go_enter Tryz.func98, Tryz.ntmps98
 go_wp2_with fail
 refine (index_any o ho _).mono ?_
 rintro e w' ⟨rfl, rfl⟩
 rw [HI.out]
 go_wp2_with fail
 go_ret
 exact ⟨by simp, rfl⟩
end
section
open Go.RowKit
def sameH (a b : HM) : Bool := decide (a.size = b.size) && decide (a.last = b.last) && sameL a.words b.words && sameL a.roots b.roots
theorem sameH_self (a : HM) : sameH a a = true := by simp [sameH, sameL_self]
set_option maxRecDepth 100000 in
set_option maxHeartbeats 2000000 in
theorem Same_any {w : World} {p q : HP} {a b : HM} (Ha : HAt w p a) (Hb : HAt w q b) (fa : a.Fit) (fb : b.Fit) :
 Calls Tryz.prog 46 #[ptr p.g, ptr q.g] w fun e w' => e = .returned (.bool (sameH a b)) ∧ ∃ m, w' = w.drewN m := by
 have hm := Lib.hid (made_any Ha (by have := fa.lo; omega) fa.hi)
 have hm' := Lib.hid (made_any Hb (by have := fb.lo; omega) fb.hi)
 have c0 := Ha.c0
 have c2 := Ha.c2
 have c3 := Ha.c3
 have c4 := Ha.c4
 have k0 := Hb.c0
 have k2 := Hb.c2
 have k3 := Hb.c3
 have k4 := Hb.c4
 have r1 := fa.room
 have r2 := fa.hi
 have r3 := fb.room
 have r4 := fb.hi
 have e1 := fa.roots
 have e2 := fb.roots
 have R1 := Ha.2.1.reads Ha.2.1.lt
 have R2 := Hb.2.1.reads Hb.2.1.lt
 have R3 := Ha.2.2.2.reads Ha.2.2.2.lt
 have R4 := Hb.2.2.2.reads Hb.2.2.2.lt
 rw [u32s_len] at R1 R2 R3 R4
 have HQ1 := Lib.hid (fun n => equal_u32 _ _ _ _ p.cw q.cw a.words b.words (w.drewN n) (by omega) (by omega) (R1.drewN n) (R2.drewN n))
 have HQ2 := Lib.hid (fun n => equal_oop _ _ _ _ p.cr q.cr a.roots b.roots (w.drewN n) (by omega) (by omega) (R3.drewN n) (R4.drewN n))
 have HF := Lib.hid (show sameH a b = (decide (a.size = b.size) && decide (a.last = b.last) && sameL a.words b.words && sameL a.roots b.roots) from rfl)
 clear Ha Hb fa fb R1 R2 R3 R4 e1 e2
 unfold ptr at hm hm' ⊢
 generalize sameL a.roots b.roots = y at *
 by_cases h1 : a.size = b.size
 ·have v1 : ((a.size : Int) == (b.size : Int)) = true := by simp [h1]
  by_cases h2 : a.last = b.last
  ·have v2 : ((a.last : Int) == (b.last : Int)) = true := by simp [h2]
   rw [decide_eq_true h1, decide_eq_true h2, Bool.true_and, Bool.true_and] at HF
   clear h1 h2
   cases h3 : sameL a.words b.words
   ·rw [h3] at HF HQ1
    clear h3
    go_enter Tryz.func46, Tryz.ntmps46
    go_wp2_with fail
    refine hm.out.mono ?_
    rintro e w' ⟨rfl, rfl⟩
    go_wp2_with fail
    refine hm'.out.mono ?_
    rintro e w' ⟨rfl, rfl⟩
    go_wp2_with fail
    go_quiet ((go_at_call 114; exact Calls.quiet_of (HQ1.out _)))
    all_goals go_wp2_with fail
    all_goals go_ret
    all_goals exact ⟨by rw [HF.out]; rfl, _, rfl⟩
   ·rw [h3] at HF HQ1
    clear h3
    go_enter Tryz.func46, Tryz.ntmps46
    go_wp2_with fail
    refine hm.out.mono ?_
    rintro e w' ⟨rfl, rfl⟩
    go_wp2_with fail
    refine hm'.out.mono ?_
    rintro e w' ⟨rfl, rfl⟩
    go_wp2_with fail
    go_quiet (first | (go_at_call 114; exact Calls.quiet_of (HQ1.out _)) | (go_at_call 115; exact Calls.quiet_of (HQ2.out _)))
    all_goals go_wp2_with fail
    all_goals go_ret
    all_goals exact ⟨by rw [HF.out]; rfl, _, rfl⟩
  ·have v2 : ((a.last : Int) == (b.last : Int)) = false := by simp; omega
   rw [decide_eq_true h1, decide_eq_false h2, Bool.true_and, Bool.false_and, Bool.false_and] at HF
   clear h1 h2
   go_enter Tryz.func46, Tryz.ntmps46
   go_wp2_with fail
   refine hm.out.mono ?_
   rintro e w' ⟨rfl, rfl⟩
   go_wp2_with fail
   refine hm'.out.mono ?_
   rintro e w' ⟨rfl, rfl⟩
   go_wp2_with fail
   go_quiet (fail)
   all_goals go_wp2_with fail
   all_goals go_ret
   all_goals exact ⟨by rw [HF.out]; rfl, _, rfl⟩
 ·have v1 : ((a.size : Int) == (b.size : Int)) = false := by simp; omega
  rw [decide_eq_false h1, Bool.false_and, Bool.false_and, Bool.false_and] at HF
  clear h1
  go_enter Tryz.func46, Tryz.ntmps46
  go_wp2_with fail
  refine hm.out.mono ?_
  rintro e w' ⟨rfl, rfl⟩
  go_wp2_with fail
  refine hm'.out.mono ?_
  rintro e w' ⟨rfl, rfl⟩
  go_wp2_with fail
  go_quiet (fail)
  all_goals go_wp2_with fail
  all_goals go_ret
  all_goals exact ⟨by rw [HF.out]; rfl, _, rfl⟩
end
section
open Go.RowKit
structure Nd where
 o : Nat
 par : Int
 fld : Int
 deep : Nat
instance : Inhabited Nd := ⟨⟨0, 0, 0, 0⟩⟩
def oopsOf (l : List Nd) : List Nat := l.map (·.o)
def meetN (l : List Nd) (o : Nat) (par fld : Int) (deep : Nat) : List Nd := if kindM o = 2 ∧ o ∉ oopsOf l then l ++ [⟨o, par, fld, deep⟩] else l
section
variable (nN : Nat → Nat) (nA : Nat → Nat → Nat)
def meetF (fr : List Nat) : Nat → List Nd
 | 0 => []
 | k + 1 => meetN (meetF fr k) (fr.getD k 0) (-1) (k : Int) 1
def meetK (l : List Nd) (i : Nat) : Nat → List Nd
 | 0 => l
 | k + 1 => meetN (meetK l i k) (nA (l.getD i default).o k) (i : Int) ((k : Int) - 1) ((l.getD i default).deep + 1)
def roundM (l : List Nd) (i : Nat) : List Nd := meetK nA l i (nN (l.getD i default).o)
def bfsM : Nat → Nat → List Nd → Option (List Nd)
 | 0, _, _ => none
 | f + 1, i, l => if i < l.length then (if 65536 < (roundM nN nA l i).length then none else bfsM f (i + 1) (roundM nN nA l i)) else some l
def seenM (fr : List Nat) : Option (List Nd) := if 65536 < (meetF fr fr.length).length then none else bfsM nN nA 65538 0 (meetF fr fr.length)
end
structure Going (nN : Nat → Nat) (nA : Nat → Nat → Nat) (fr : List Nat) (i : Nat) (l : List Nd) : Prop where
 nodup : (oopsOf l).Nodup
 le : i ≤ l.length
 short : i = 0 ∨ l.length ≤ 65536
 rest : seenM nN nA fr = if 65536 < l.length then none else bfsM nN nA (65538 - i) i l
def cnt7 (n : Nat) : List Nat := if h : n < 128 then [n] else (n % 128 + 128) :: cnt7 (n / 128)
termination_by n
decreasing_by omega
theorem cnt7_small {n : Nat} (h : n < 128) : cnt7 n = [n] := by unfold cnt7; rw [dif_pos h]
theorem cnt7_big {n : Nat} (h : ¬ n < 128) : cnt7 n = (n % 128 + 128) :: cnt7 (n / 128) := by conv => lhs; unfold cnt7
                                                                                              rw [dif_neg h]
theorem cnt7_byte (n : Nat) : ∀ x ∈ cnt7 n, x < 256 := by
 induction n using Nat.strongRecOn with
 | _ n ih =>
   intro x hx
   by_cases h : n < 128
   ·rw [cnt7_small h] at hx; simp at hx; omega
   ·rw [cnt7_big h] at hx
    rcases List.mem_cons.1 hx with rfl | hx
    ·omega
    ·exact ih (n / 128) (by omega) x hx
end
end Go.Proofs.YtlkahgagmfhdaaaGreatDoor
