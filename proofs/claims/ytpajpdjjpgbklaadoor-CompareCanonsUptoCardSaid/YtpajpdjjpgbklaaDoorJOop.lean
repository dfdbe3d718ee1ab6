/- oop.Kind, Index, At, (*Heap).made, Is, and the document's Is. -/
/- heap.Same. -/
/- Graphs of objects, in the order in which they are met: what Canon, Count, Diff go through. Plain data. -/
/- The first difference of two graphs. Plain data: nN: how many values the first heap's object names; nA, nB: which; od: what is unlike of two objects ahead of what they name. -/
/- The first difference: turned round it is the same; no difference is reflexive and transitive. Plain data. -/
import Derived.Test.YtpajpdjjpgbklaaDoorJMem
import Derived.Test.YtpajpdjjpgbklaaDoorJMapIs
import Derived.Deep.QuietTactic
import Derived.BigQuiet
import Derived.WalkLawsBesides
set_option linter.unusedVariables false
set_option linter.unusedSectionVars false
namespace Go.Proofs.YtpajpdjjpgbklaaDoor
open Go.RowKit

def kindM (o : Nat) : Nat := if o = 0 then 0 else if o % 2 = 1 then 1 else 2

theorem u32_and_one (v : Nat) (h : v < 4294967296) : bits .and .u32 (v : Int) 1 = ((v % 2 : Nat) : Int) := by
  rw [u32_and _ _ (by omega) (by omega) (by omega) (by omega)]
  simp

theorem kind_any (o : Nat) (ho : o < 4294967296) (w : World) :
    Calls Tryd.prog 83 #[.int .u32 o] w fun e w' => e = .returned (.int .i64 (kindM o)) ∧ w = w' := by
  have h1 := u32_and_one o ho
  by_cases h0 : o = 0
  · subst h0
    go_enter Tryd.func83, Tryd.ntmps83
    go_wp2_with fail
    go_ret
    exact ⟨rfl, rfl⟩
  · have hb : ((o : Int) == 0) = false := by simpa using h0
    by_cases h2 : o % 2 = 1
    · have hk : kindM o = 1 := by simp [kindM, h0, h2]
      rw [h2] at h1
      have HK := Lib.hid hk; clear hk h2
      go_enter Tryd.func83, Tryd.ntmps83
      go_wp2_with fail
      go_ret
      exact ⟨by rw [HK.out]; rfl, rfl⟩
    · have hk : kindM o = 2 := by simp [kindM, h0, h2]
      rw [show o % 2 = 0 by omega] at h1
      have HK := Lib.hid hk; clear hk h2
      go_enter Tryd.func83, Tryd.ntmps83
      go_wp2_with fail
      go_ret
      exact ⟨by rw [HK.out]; rfl, rfl⟩

/-- An oop that names an object, by its form. -/
def objB (o : Nat) : Bool := decide (kindM o = 2)
theorem objB_iff (o : Nat) : objB o = true ↔ o ≠ 0 ∧ o % 2 = 0 := by
  unfold objB kindM
  by_cases h : o = 0
  · simp [h]
  · by_cases h2 : o % 2 = 1
    · simp [h, h2]
    · simp [h, h2]; omega

/-- What Index answers. -/
def indexV (o : Nat) : Value := .tuple (if objB o then #[.int .i64 (o / 2 : Nat), .int .i64 0] else #[.int .i64 0, .int .i64 3])

theorem index_any (o : Nat) (ho : o < 4294967296) (w : World) :
    Calls Tryd.prog 53 #[.int .u32 o] w fun e w' => e = .returned (indexV o) ∧ w = w' := by
  by_cases hk : kindM o = 2
  · have hn : ((((kindM o : Nat) : Int)) == 2) = true := by rw [hk]; rfl
    go_enter Tryd.func53, Tryd.ntmps53
    go_wp2_with fail
    refine (kind_any o ho _).mono ?_
    rintro e w' ⟨rfl, rfl⟩
    rw [hk]
    go_wp2_with fail
    go_ret2
    exact ⟨by simp [indexV, objB, hk], rfl⟩
  · have hn : ((((kindM o : Nat) : Int)) != 2) = true := by simp; omega
    have hf : objB o = false := by simp [objB, hk]
    have HF := Lib.hid hf; clear hf
    generalize hkk : kindM o = k at hn hk
    have HKK := Lib.hid hkk; clear hkk
    go_enter Tryd.func53, Tryd.ntmps53
    go_wp2_with fail
    refine (kind_any o ho _).mono ?_
    rintro e w' ⟨rfl, rfl⟩
    rw [HKK.out]
    go_wp2_with fail
    go_ret2
    exact ⟨by simp [indexV, HF.out], rfl⟩

def HM.isB (h : HM) (o : Nat) : Bool := objB o && h.starts.getD (o / 2) false
theorem HM.isB_lt {h : HM} {o : Nat} (hi : h.isB o = true) : o / 2 < h.starts.length := by
  unfold HM.isB at hi
  simp only [Bool.and_eq_true] at hi
  rcases Nat.lt_or_ge (o / 2) h.starts.length with h1 | h1
  · exact h1
  · rw [List.getD_eq_getElem?_getD, List.getElem?_eq_none h1] at hi; simp at hi

theorem made_any {w : World} {p : HP} {h : HM} (H : HAt w p h) (hs : 0 < h.size) (hs2 : h.size ≤ 1048576) :
    Calls Tryd.prog 43 #[ptr p.g] w fun e w' => e = .returned (.bool true) ∧ w = w' := by
  have c3 := H.c3
  have h1 : decide ((h.size : Int) > 0) = true := by simp; omega
  unfold ptr
  go_enter Tryd.func43, Tryd.ntmps43
  go_wp2_with fail
  go_ret
  exact ⟨by simp, rfl⟩

theorem is_any {w : World} {p : HP} {h : HM} (H : HAt w p h) (f : h.Fit) (o : Nat) (ho : o < 4294967296) :
    Calls Tryd.prog 22 #[ptr p.g, .int .u32 o] w fun e w' => e = .returned (.bool (h.isB o)) ∧ w = w' := by
  have hm := made_any H (by have := f.lo; omega) f.hi
  have HM' := Lib.hid hm; clear hm
  have c1 := H.c1
  have hlen := f.marks
  have hroom := f.room
  have hhi := f.hi
  by_cases hk : objB o = true
  · have hi : indexV o = .tuple #[.int .i64 (o / 2 : Nat), .int .i64 0] := by simp [indexV, hk]
    by_cases hl : o / 2 < h.starts.length
    · have hcell := H.mark hl
      have HF := Lib.hid (show h.isB o = h.starts.getD (o / 2) false by simp [HM.isB, hk])
      generalize h.starts.getD (o / 2) false = b at *
      generalize hq : o / 2 = q at *
      have HI := Lib.hid hi
      clear hi hq hk
      unfold ptr
      have hlt : (q : Int) < (h.starts.length : Int) := by omega
      go_enter Tryd.func22, Tryd.ntmps22
      go_wp2_with fail
      refine (index_any o ho _).mono ?_
      rintro e w' ⟨rfl, rfl⟩
      rw [HI.out]
      go_wp2_with fail
      refine HM'.out.mono ?_
      rintro e w' ⟨rfl, rfl⟩
      go_wp2_with fail
      go_ret
      exact ⟨by rw [HF.out]; rfl, rfl⟩
    · have HF := Lib.hid (show h.isB o = false by rw [HM.isB, List.getD_eq_getElem?_getD, List.getElem?_eq_none (by omega)]; simp)
      generalize hq : o / 2 = q at *
      have HI := Lib.hid hi
      clear hi hq hk
      unfold ptr
      have hlt : (h.starts.length : Int) ≤ (q : Int) := by omega
      go_enter Tryd.func22, Tryd.ntmps22
      go_wp2_with fail
      refine (index_any o ho _).mono ?_
      rintro e w' ⟨rfl, rfl⟩
      rw [HI.out]
      go_wp2_with fail
      refine HM'.out.mono ?_
      rintro e w' ⟨rfl, rfl⟩
      go_wp2_with fail
      go_ret
      exact ⟨by rw [HF.out]; rfl, rfl⟩
  · have HI := Lib.hid (show indexV o = .tuple #[.int .i64 0, .int .i64 3] by simp [indexV, hk])
    have HF := Lib.hid (show h.isB o = false by simp [HM.isB, hk])
    clear hk
    unfold ptr
    go_enter Tryd.func22, Tryd.ntmps22
    go_wp2_with fail
    refine (index_any o ho _).mono ?_
    rintro e w' ⟨rfl, rfl⟩
    rw [HI.out]
    go_wp2_with fail
    go_ret
    exact ⟨by rw [HF.out]; rfl, rfl⟩

/-- class, value: may an oop be one? -/
def HM.clsB (h : HM) (c : Nat) : Bool := decide (c = 0) || h.isB c
def HM.valB (h : HM) (v : Nat) : Bool := !objB v || h.isB v

theorem class_any {w : World} {p : HP} {h : HM} (H : HAt w p h) (f : h.Fit) (o : Nat) (ho : o < 4294967296) :
    Calls Tryd.prog 91 #[ptr p.g, .int .u32 o] w fun e w' => e = .returned (.bool (h.clsB o)) ∧ w = w' := by
  have HI := Lib.hid (is_any H f o ho)
  by_cases h0 : o = 0
  · subst h0
    go_enter Tryd.func91, Tryd.ntmps91
    go_wp2_with fail
    go_ret
    exact ⟨by simp [HM.clsB], rfl⟩
  · have hb : ((o : Int) == 0) = false := by simpa using h0
    have HF := Lib.hid (show h.clsB o = h.isB o by simp [HM.clsB, h0])
    generalize h.isB o = b at *
    clear h0
    go_enter Tryd.func91, Tryd.ntmps91
    go_wp2_with fail
    refine HI.out.mono ?_
    rintro e w' ⟨rfl, rfl⟩
    go_wp2_with fail
    go_ret
    exact ⟨by rw [HF.out]; rfl, rfl⟩

theorem value_any {w : World} {p : HP} {h : HM} (H : HAt w p h) (f : h.Fit) (o : Nat) (ho : o < 4294967296) :
    Calls Tryd.prog 69 #[ptr p.g, .int .u32 o] w fun e w' => e = .returned (.bool (h.valB o)) ∧ w = w' := by
  have HI := Lib.hid (is_any H f o ho)
  have HK := Lib.hid (kind_any o ho w)
  by_cases hk : kindM o = 2
  · have HF := Lib.hid (show h.valB o = h.isB o by simp [HM.valB, objB, hk])
    have hb : ((2 : Int) != 2) = false := rfl
    rw [hk] at HK
    clear hk
    generalize h.isB o = b at *
    go_enter Tryd.func69, Tryd.ntmps69
    go_wp2_with fail
    refine HK.out.mono ?_
    rintro e w' ⟨rfl, rfl⟩
    go_wp2_with fail
    refine HI.out.mono ?_
    rintro e w' ⟨rfl, rfl⟩
    go_wp2_with fail
    go_ret
    exact ⟨by rw [HF.out]; rfl, rfl⟩
  · have HF := Lib.hid (show h.valB o = true by simp [HM.valB, objB, hk])
    have hb : ((kindM o : Int) != 2) = true := by simp; omega
    generalize kindM o = k at *
    clear hk
    go_enter Tryd.func69, Tryd.ntmps69
    go_wp2_with fail
    refine HK.out.mono ?_
    rintro e w' ⟨rfl, rfl⟩
    go_wp2_with fail
    go_ret
    exact ⟨by rw [HF.out]; rfl, rfl⟩

theorem at_any (g : Nat) (o : Nat) (ho : o < 4294967296) (hk : objB o = true) (w : World) :
    Calls Tryd.prog 50 #[ptr g, .int .u32 o] w fun e w' => e = .returned (.int .i64 (o / 2 : Nat)) ∧ w = w' := by
  have HI := Lib.hid (show indexV o = .tuple #[.int .i64 (o / 2 : Nat), .int .i64 0] by simp [indexV, hk])
  clear hk
  go_enter Tryd.func50, Tryd.ntmps50
  go_wp2_with fail
  refine (index_any o ho _).mono ?_
  rintro e w' ⟨rfl, rfl⟩
  rw [HI.out]
  go_wp2_with fail
  go_ret
  exact ⟨by simp, rfl⟩
end Go.Proofs.YtpajpdjjpgbklaaDoor

namespace Go.Proofs.YtpajpdjjpgbklaaDoor
open Go.RowKit

def sameH (a b : HM) : Bool := decide (a.size = b.size) && decide (a.last = b.last) && sameL a.words b.words && sameL a.roots b.roots
theorem sameH_self (a : HM) : sameH a a = true := by simp [sameH, sameL_self]

end Go.Proofs.YtpajpdjjpgbklaaDoor

namespace Go.Proofs.YtpajpdjjpgbklaaDoor
open Go.RowKit

/-- An object that was met: by which one (-1: a beginning), by which field, how deep. -/
structure Nd where
  o : Nat
  par : Int
  fld : Int
  deep : Nat
instance : Inhabited Nd := ⟨⟨0, 0, 0, 0⟩⟩
def oopsOf (l : List Nd) : List Nat := l.map (·.o)
/-- An oop that is met. -/
def meetN (l : List Nd) (o : Nat) (par fld : Int) (deep : Nat) : List Nd := if kindM o = 2 ∧ o ∉ oopsOf l then l ++ [⟨o, par, fld, deep⟩] else l
/-- An oop's number, from 1 on; 0: it was not met. -/
def numF (l : List Nd) (x : Nat) : Nat := if x ∈ oopsOf l then (oopsOf l).idxOf x + 1 else 0
theorem meetN_old {l : List Nd} {o : Nat} {p f : Int} {d : Nat} (h : ¬ (kindM o = 2 ∧ o ∉ oopsOf l)) : meetN l o p f d = l := by unfold meetN; rw [if_neg h]
theorem meetN_new {l : List Nd} {o : Nat} {p f : Int} {d : Nat} (h1 : kindM o = 2) (h2 : o ∉ oopsOf l) : meetN l o p f d = l ++ [⟨o, p, f, d⟩] := by unfold meetN; rw [if_pos ⟨h1, h2⟩]
theorem oopsOf_len (l : List Nd) : (oopsOf l).length = l.length := by simp [oopsOf]
theorem meetN_len (l : List Nd) (o : Nat) (p f : Int) (d : Nat) : l.length ≤ (meetN l o p f d).length ∧ (meetN l o p f d).length ≤ l.length + 1 := by
  unfold meetN; split <;> simp
theorem meetN_pre (l : List Nd) (o : Nat) (p f : Int) (d : Nat) : l <+: meetN l o p f d := by
  unfold meetN; split
  · exact List.prefix_append _ _
  · exact List.prefix_refl _
theorem meetN_nodup {l : List Nd} (h : (oopsOf l).Nodup) (o : Nat) (p f : Int) (d : Nat) : (oopsOf (meetN l o p f d)).Nodup := by
  unfold meetN; split
  · rename_i hc
    unfold oopsOf at *
    rw [List.map_append, List.nodup_append]
    refine ⟨h, by simp, ?_⟩
    intro a ha b hb
    simp at hb
    subst hb
    rintro rfl
    exact hc.2 ha
  · exact h
theorem meetN_all {P : Nat → Prop} {l : List Nd} (h : ∀ x ∈ oopsOf l, P x) {o : Nat} (ho : kindM o = 2 → P o) (p f : Int) (d : Nat) : ∀ x ∈ oopsOf (meetN l o p f d), P x := by
  unfold meetN; split
  · rename_i hc
    intro x hx
    unfold oopsOf at *
    rw [List.map_append] at hx
    rcases List.mem_append.1 hx with hx | hx
    · exact h x hx
    · simp at hx; subst hx; exact ho hc.1
  · exact h
theorem numF_nil (x : Nat) : numF [] x = 0 := rfl
theorem numF_pos {l : List Nd} {x : Nat} : 0 < numF l x ↔ x ∈ oopsOf l := by
  unfold numF; split <;> simp_all
theorem numF_le (l : List Nd) (x : Nat) : numF l x ≤ l.length := by
  unfold numF; split
  · rename_i h
    have := List.idxOf_lt_length_of_mem h
    rw [oopsOf_len] at this
    omega
  · omega
theorem numF_new {l : List Nd} {o : Nat} (hn : o ∉ oopsOf l) (p f : Int) (d : Nat) : numF (l ++ [⟨o, p, f, d⟩]) = upd (numF l) o (l.length + 1) := by
  funext x
  unfold numF upd oopsOf at *
  rw [List.map_append]
  simp only [List.map_cons, List.map_nil, List.mem_append, List.mem_cons, List.not_mem_nil, or_false]
  by_cases hx : x = o
  · subst hx
    rw [if_pos (.inr rfl), if_pos rfl, List.idxOf_append, if_neg hn]
    simp
  · rw [if_neg hx]
    by_cases hm : x ∈ List.map (·.o) l
    · rw [if_pos (.inl hm), if_pos hm, List.idxOf_append, if_pos hm]
    · rw [if_neg (fun h => h.elim hm hx), if_neg hm]
/-- The k-th that was met has the number k + 1. -/
theorem numF_at {l : List Nd} (hd : (oopsOf l).Nodup) {k : Nat} (hk : k < l.length) : numF l (l[k]).o = k + 1 := by
  unfold numF
  have hk' : k < (oopsOf l).length := by rw [oopsOf_len]; exact hk
  have e : (l[k]).o = (oopsOf l)[k] := by simp [oopsOf]
  rw [e, if_pos (List.getElem_mem hk'), List.Nodup.idxOf_getElem hd]

section
variable (nN : Nat → Nat) (nA : Nat → Nat → Nat)
/-- Behind the first k beginnings. -/
def meetF (fr : List Nat) : Nat → List Nd
  | 0 => []
  | k + 1 => meetN (meetF fr k) (fr.getD k 0) (-1) (k : Int) 1
/-- Behind the first k that the i-th object names. -/
def meetK (l : List Nd) (i : Nat) : Nat → List Nd
  | 0 => l
  | k + 1 => meetN (meetK l i k) (nA (l.getD i default).o k) (i : Int) ((k : Int) - 1) ((l.getD i default).deep + 1)
/-- Behind the i-th object. -/
def roundM (l : List Nd) (i : Nat) : List Nd := meetK nA l i (nN (l.getD i default).o)
/-- All that is met; none: more than 65536. -/
def bfsM : Nat → Nat → List Nd → Option (List Nd)
  | 0, _, _ => none
  | f + 1, i, l => if i < l.length then (if 65536 < (roundM nN nA l i).length then none else bfsM f (i + 1) (roundM nN nA l i)) else some l
def seenM (fr : List Nat) : Option (List Nd) := if 65536 < (meetF fr fr.length).length then none else bfsM nN nA 65538 0 (meetF fr fr.length)
theorem meetK_pre (l : List Nd) (i k : Nat) : l <+: meetK nA l i k := by
  induction k with
  | zero => exact List.prefix_refl _
  | succ k ih => exact ih.trans (meetN_pre _ _ _ _ _)
theorem roundM_pre (l : List Nd) (i : Nat) : l <+: roundM nN nA l i := meetK_pre nA l i _
theorem meetK_mono (l : List Nd) (i : Nat) {j k : Nat} (h : j ≤ k) : meetK nA l i j <+: meetK nA l i k := by
  induction k with
  | zero => obtain rfl : j = 0 := by omega
            exact List.prefix_refl _
  | succ k ih =>
    rcases Nat.lt_or_ge j (k + 1) with h1 | h1
    · exact (ih (by omega)).trans (meetN_pre _ _ _ _ _)
    · obtain rfl : j = k + 1 := by omega
      exact List.prefix_refl _
theorem bfsM_end {f i : Nat} {l : List Nd} (h : ¬ i < l.length) : bfsM nN nA (f + 1) i l = some l := by unfold bfsM; rw [if_neg h]
theorem bfsM_long {f i : Nat} {l : List Nd} (h : i < l.length) (hl : 65536 < (roundM nN nA l i).length) : bfsM nN nA (f + 1) i l = none := by unfold bfsM; rw [if_pos h, if_pos hl]
theorem bfsM_next {f i : Nat} {l : List Nd} (h : i < l.length) (hl : ¬ 65536 < (roundM nN nA l i).length) : bfsM nN nA (f + 1) i l = bfsM nN nA f (i + 1) (roundM nN nA l i) := by
  conv => lhs; unfold bfsM
  rw [if_pos h, if_neg hl]
/-- Where the beginnings alone are too many, the first round tells it. -/
theorem seenM_long {fr : List Nat} (h : 65536 < (meetF fr fr.length).length) : 65536 < (roundM nN nA (meetF fr fr.length) 0).length :=
  Nat.lt_of_lt_of_le h (roundM_pre nN nA _ _).length_le
end

/-- Enough fuel: every round but the last goes on to another object, and there are no more than 65536. -/
theorem bfsM_fuel (nN : Nat → Nat) (nA : Nat → Nat → Nat) : ∀ (f g i : Nat) (l : List Nd), l.length ≤ 65536 → i ≤ l.length → 65537 ≤ f + i → 65537 ≤ g + i → bfsM nN nA f i l = bfsM nN nA g i l
  | 0, _, i, l, h1, h2, h3, _ => by omega
  | _, 0, i, l, h1, h2, _, h4 => by omega
  | f + 1, g + 1, i, l, h1, h2, h3, h4 => by
    unfold bfsM
    split
    · rename_i hi
      split
      · rfl
      · rename_i hl
        have := (roundM_pre nN nA l i).length_le
        exact bfsM_fuel nN nA f g (i + 1) _ (by omega) (by omega) (by omega) (by omega)
    · rfl
/-- All that is met is of a kind that the names are of. -/
theorem meetF_all {P : Nat → Prop} (fr : List Nat) (h : ∀ o ∈ fr, kindM o = 2 → P o) : ∀ k, k ≤ fr.length → ∀ x ∈ oopsOf (meetF fr k), P x
  | 0, _ => fun x hx => by simp [meetF, oopsOf] at hx
  | k + 1, hk => meetN_all (meetF_all fr h k (by omega)) (fun hk2 => h _ (by rw [List.getD_eq_getElem?_getD, List.getElem?_eq_getElem (by omega)]; exact List.getElem_mem _) hk2) _ _ _
theorem meetF_nodup (fr : List Nat) : ∀ k, (oopsOf (meetF fr k)).Nodup
  | 0 => List.nodup_nil
  | k + 1 => meetN_nodup (meetF_nodup fr k) _ _ _ _
theorem meetK_all (nA : Nat → Nat → Nat) {P : Nat → Prop} {l : List Nd} {i : Nat} (h0 : ∀ x ∈ oopsOf l, P x) (m : Nat) (h : ∀ k, k < m → kindM (nA (l.getD i default).o k) = 2 → P (nA (l.getD i default).o k)) : ∀ k, k ≤ m → ∀ x ∈ oopsOf (meetK nA l i k), P x
  | 0, _ => h0
  | k + 1, hk => meetN_all (meetK_all nA h0 m h k (by omega)) (h k (by omega)) _ _ _
theorem meetK_nodup (nA : Nat → Nat → Nat) {l : List Nd} (i : Nat) (h0 : (oopsOf l).Nodup) : ∀ k, (oopsOf (meetK nA l i k)).Nodup
  | 0 => h0
  | k + 1 => meetN_nodup (meetK_nodup nA i h0 k) _ _ _ _
/-- Going through what was met: the first i objects' names are met. -/
structure Going (nN : Nat → Nat) (nA : Nat → Nat → Nat) (fr : List Nat) (i : Nat) (l : List Nd) : Prop where
  nodup : (oopsOf l).Nodup
  le : i ≤ l.length
  short : i = 0 ∨ l.length ≤ 65536
  rest : seenM nN nA fr = if 65536 < l.length then none else bfsM nN nA (65538 - i) i l
theorem Going.start (nN : Nat → Nat) (nA : Nat → Nat → Nat) (fr : List Nat) : Going nN nA fr 0 (meetF fr fr.length) :=
  ⟨meetF_nodup fr _, Nat.zero_le _, .inl rfl, rfl⟩
theorem Going.next {nN : Nat → Nat} {nA : Nat → Nat → Nat} {fr : List Nat} {i : Nat} {l : List Nd} (G : Going nN nA fr i l) (hi : i < l.length) (hl : ¬ 65536 < (roundM nN nA l i).length) : Going nN nA fr (i + 1) (roundM nN nA l i) := by
  have hp := (roundM_pre nN nA l i).length_le
  refine ⟨meetK_nodup nA i G.nodup _, by omega, .inr (by omega), ?_⟩
  rw [G.rest, if_neg (by omega), if_neg hl, show 65538 - i = (65538 - (i + 1)) + 1 by omega, bfsM_next nN nA hi hl]
theorem Going.long {nN : Nat → Nat} {nA : Nat → Nat → Nat} {fr : List Nat} {i : Nat} {l : List Nd} (G : Going nN nA fr i l) (hi : i < l.length) (hl : 65536 < (roundM nN nA l i).length) : seenM nN nA fr = none := by
  rw [G.rest]
  split
  · rfl
  · rw [show 65538 - i = (65538 - (i + 1)) + 1 by omega, bfsM_long nN nA hi hl]
theorem Going.done {nN : Nat → Nat} {nA : Nat → Nat → Nat} {fr : List Nat} {i : Nat} {l : List Nd} (G : Going nN nA fr i l) (hi : ¬ i < l.length) : seenM nN nA fr = some l ∧ l.length ≤ 65536 := by
  have hs : l.length ≤ 65536 := by have := G.le; rcases G.short with h | h <;> omega
  have := G.le
  refine ⟨?_, hs⟩
  rw [G.rest, if_neg (by omega), show 65538 - i = (65538 - i - 1) + 1 by omega, bfsM_end nN nA hi]

/-- A number's bytes, seven bits each. -/
def cnt7 (n : Nat) : List Nat := if h : n < 128 then [n] else (n % 128 + 128) :: cnt7 (n / 128)
termination_by n
decreasing_by omega
theorem cnt7_small {n : Nat} (h : n < 128) : cnt7 n = [n] := by unfold cnt7; rw [dif_pos h]
theorem cnt7_big {n : Nat} (h : ¬ n < 128) : cnt7 n = (n % 128 + 128) :: cnt7 (n / 128) := by conv => lhs; unfold cnt7
                                                                                              rw [dif_neg h]
theorem cnt7_byte (n : Nat) : ∀ x ∈ cnt7 n, x < 256 := by
  induction n using Nat.strongRecOn with
  | _ n ih =>
    intro x hx
    by_cases h : n < 128
    · rw [cnt7_small h] at hx; simp at hx; omega
    · rw [cnt7_big h] at hx
      rcases List.mem_cons.1 hx with rfl | hx
      · omega
      · exact ih (n / 128) (by omega) x hx
/-- A way to the i-th that was met. -/
def pathF (l : List Nd) : Nat → Nat → List Int
  | 0, _ => []
  | f + 1, i => if (l.getD i default).par < 0 then [(l.getD i default).fld] else pathF l f (l.getD i default).par.toNat ++ [(l.getD i default).fld]
def pathM (l : List Nd) (i : Nat) : List Int := pathF l (i + 1) i
end Go.Proofs.YtpajpdjjpgbklaaDoor

namespace Go.Proofs.YtpajpdjjpgbklaaDoor

/-- A difference: its kind, its way, a place. -/
structure Df where
  kind : Nat
  path : List Int
  at_ : Nat
def pairK (l m : List Nd) (v u : Nat) : Nat :=
  if kindM v ≠ kindM u then 1 else if kindM v = 0 then 0 else if kindM v = 1 then (if v = u then 0 else 2) else if numF l v = numF m u then 0 else 6
/-- Two lists that were met side by side, or the difference that was found. -/
inductive Two2 where
  | on (l m : List Nd)
  | off (d : Df)
def beginD (a b : List Nat) : Nat → Two2
  | 0 => .on [] []
  | k + 1 => match beginD a b k with
    | .off d => .off d
    | .on l m => if pairK l m (a.getD k 0) (b.getD k 0) = 0 then .on (meetN l (a.getD k 0) (-1) k 0) (meetN m (b.getD k 0) (-1) k 0) else .off ⟨pairK l m (a.getD k 0) (b.getD k 0), [(k : Int)], 0⟩
section
variable (nN : Nat → Nat) (nA nB : Nat → Nat → Nat) (od : Nat → Nat → Option (Nat × Nat))
def oAt (l : List Nd) (i : Nat) : Nat := (l.getD i default).o
def namesD (l m : List Nd) (i : Nat) : Nat → Two2
  | 0 => .on l m
  | k + 1 => match namesD l m i k with
    | .off d => .off d
    | .on l' m' => if pairK l' m' (nA (oAt l i) k) (nB (oAt m i) k) = 0 then .on (meetN l' (nA (oAt l i) k) i ((k : Int) - 1) 0) (meetN m' (nB (oAt m i) k) i ((k : Int) - 1) 0)
      else .off ⟨pairK l' m' (nA (oAt l i) k) (nB (oAt m i) k), pathM l i ++ [(k : Int) - 1], 0⟩
def roundD (l m : List Nd) (i : Nat) : Two2 := match od (oAt l i) (oAt m i) with
  | some (k, a) => .off ⟨k, pathM l i, a⟩
  | none => namesD nA nB l m i (nN (oAt l i))
def loopD : Nat → Nat → List Nd → List Nd → Df
  | 0, _, _, _ => ⟨0, [], 0⟩
  | f + 1, i, l, m => if i < l.length then (match roundD nN nA nB od l m i with | .off d => d | .on l' m' => loopD f (i + 1) l' m') else ⟨0, [], 0⟩
def fuelD : Nat := 2097154
def diffD (a b : List Nat) : Df := match beginD a b a.length with | .off d => d | .on l m => loopD nN nA nB od fuelD 0 l m
end

theorem beginD_off {a b : List Nat} {k : Nat} {d : Df} (h : beginD a b k = .off d) : ∀ j, k ≤ j → beginD a b j = .off d := by
  intro j hj
  induction j with
  | zero => obtain rfl : k = 0 := by omega
            exact h
  | succ j ih =>
    rcases Nat.lt_or_ge j k with h1 | h1
    · obtain rfl : k = j + 1 := by omega
      exact h
    · unfold beginD; rw [ih h1]
theorem beginD_on {a b : List Nat} {k : Nat} {l m : List Nd} (h : beginD a b k = .on l m) (hp : pairK l m (a.getD k 0) (b.getD k 0) = 0) :
    beginD a b (k + 1) = .on (meetN l (a.getD k 0) (-1) k 0) (meetN m (b.getD k 0) (-1) k 0) := by
  conv => lhs; unfold beginD
  rw [h]; simp only [hp, if_true]
theorem beginD_end {a b : List Nat} {k : Nat} {l m : List Nd} (h : beginD a b k = .on l m) (hp : pairK l m (a.getD k 0) (b.getD k 0) ≠ 0) :
    beginD a b (k + 1) = .off ⟨pairK l m (a.getD k 0) (b.getD k 0), [(k : Int)], 0⟩ := by
  conv => lhs; unfold beginD
  rw [h]; simp only [hp, if_false]
section
variable {nN : Nat → Nat} {nA nB : Nat → Nat → Nat} {od : Nat → Nat → Option (Nat × Nat)}
theorem namesD_off {l m : List Nd} {i k : Nat} {d : Df} (h : namesD nA nB l m i k = .off d) : ∀ j, k ≤ j → namesD nA nB l m i j = .off d := by
  intro j hj
  induction j with
  | zero => obtain rfl : k = 0 := by omega
            exact h
  | succ j ih =>
    rcases Nat.lt_or_ge j k with h1 | h1
    · obtain rfl : k = j + 1 := by omega
      exact h
    · unfold namesD; rw [ih h1]
theorem namesD_on {l m l' m' : List Nd} {i k : Nat} (h : namesD nA nB l m i k = .on l' m') (hp : pairK l' m' (nA (oAt l i) k) (nB (oAt m i) k) = 0) :
    namesD nA nB l m i (k + 1) = .on (meetN l' (nA (oAt l i) k) i ((k : Int) - 1) 0) (meetN m' (nB (oAt m i) k) i ((k : Int) - 1) 0) := by
  conv => lhs; unfold namesD
  rw [h]; simp only [hp, if_true]
theorem namesD_end {l m l' m' : List Nd} {i k : Nat} (h : namesD nA nB l m i k = .on l' m') (hp : pairK l' m' (nA (oAt l i) k) (nB (oAt m i) k) ≠ 0) :
    namesD nA nB l m i (k + 1) = .off ⟨pairK l' m' (nA (oAt l i) k) (nB (oAt m i) k), pathM l i ++ [(k : Int) - 1], 0⟩ := by
  conv => lhs; unfold namesD
  rw [h]; simp only [hp, if_false]
theorem loopD_end {f i : Nat} {l m : List Nd} (h : ¬ i < l.length) : loopD nN nA nB od f i l m = ⟨0, [], 0⟩ := by
  cases f with
  | zero => rfl
  | succ f => unfold loopD; rw [if_neg h]
theorem loopD_off {f i : Nat} {l m : List Nd} {d : Df} (h : i < l.length) (hr : roundD nN nA nB od l m i = .off d) : loopD nN nA nB od (f + 1) i l m = d := by
  unfold loopD; rw [if_pos h, hr]
theorem loopD_on {f i : Nat} {l m l' m' : List Nd} (h : i < l.length) (hr : roundD nN nA nB od l m i = .on l' m') : loopD nN nA nB od (f + 1) i l m = loopD nN nA nB od f (i + 1) l' m' := by
  conv => lhs; unfold loopD
  rw [if_pos h, hr]
end

/-- Two lists that were met side by side: as many, by the same ones, by the same fields; no oop twice; each by one ahead of it. -/
structure Side (l m : List Nd) : Prop where
  len : m.length = l.length
  par : ∀ i, i < l.length → (m.getD i default).par = (l.getD i default).par ∧ (m.getD i default).fld = (l.getD i default).fld
  up : ∀ i, i < l.length → (l.getD i default).par < (i : Int)
  ndl : (oopsOf l).Nodup
  ndm : (oopsOf m).Nodup
theorem Side.nil : Side [] [] := ⟨rfl, fun i h => by simp at h, fun i h => by simp at h, List.nodup_nil, List.nodup_nil⟩
theorem getD_snoc (l : List Nd) (x : Nd) (i : Nat) : (l ++ [x]).getD i default = if i < l.length then l.getD i default else if i = l.length then x else default := by
  simp only [List.getD_eq_getElem?_getD]
  split
  · rename_i h; rw [List.getElem?_append_left h]
  · rename_i h
    rw [List.getElem?_append_right (by omega)]
    split
    · rename_i h2; subst h2; simp
    · rename_i h2
      have : 1 ≤ i - l.length := by omega
      rw [List.getElem?_eq_none (by simp; omega)]; rfl
theorem numF_zero {l : List Nd} {x : Nat} : numF l x = 0 ↔ x ∉ oopsOf l := by
  have := @numF_pos l x
  constructor
  · intro h hm; have := this.2 hm; omega
  · intro h; apply Nat.eq_zero_of_not_pos; intro h2; exact h (this.1 h2)
theorem pairK_zero {l m : List Nd} {v u : Nat} : pairK l m v u = 0 ↔ kindM v = kindM u ∧ (kindM v = 1 → v = u) ∧ (kindM v = 2 → numF l v = numF m u) := by
  have hk : kindM v = 0 ∨ kindM v = 1 ∨ kindM v = 2 := by unfold kindM; split <;> (try split) <;> simp
  unfold pairK
  by_cases h : kindM v = kindM u
  · rw [if_neg (by simpa using h)]
    rcases hk with h0 | h0 | h0 <;> simp [h0, ← h]
  · rw [if_pos (by simpa using h)]
    simp [h]
/-- Side by side both are new or none is. -/
theorem Side.meet {l m : List Nd} (S : Side l m) {v u : Nat} (hp : pairK l m v u = 0) (p f : Int) (d : Nat) (hpl : p < (l.length : Int)) : Side (meetN l v p f d) (meetN m u p f d) := by
  obtain ⟨h1, h2, h3⟩ := pairK_zero.1 hp
  by_cases hk : kindM v = 2
  · have e := h3 hk
    by_cases hm : v ∈ oopsOf l
    · have hm2 : u ∈ oopsOf m := numF_pos.1 (by rw [← e]; exact numF_pos.2 hm)
      rw [meetN_old (fun h => h.2 hm), meetN_old (fun h => h.2 hm2)]
      exact S
    · have hm2 : u ∉ oopsOf m := numF_zero.1 (by rw [← e]; exact numF_zero.2 hm)
      have hd1 := meetN_nodup S.ndl v p f d
      have hd2 := meetN_nodup S.ndm u p f d
      rw [meetN_new hk hm] at hd1 ⊢
      rw [meetN_new (by rw [← h1]; exact hk) hm2] at hd2 ⊢
      refine ⟨by simp [S.len], fun i hi => ?_, fun i hi => ?_, hd1, hd2⟩
      · rw [getD_snoc, getD_snoc, S.len]
        split
        · exact S.par i (by assumption)
        · split
          · exact ⟨rfl, rfl⟩
          · exact ⟨rfl, rfl⟩
      · rw [getD_snoc]
        rw [List.length_append] at hi
        simp only [List.length_cons, List.length_nil] at hi
        split
        · exact S.up i (by assumption)
        · rename_i hn
          have : i = l.length := by omega
          rw [if_pos this]
          subst this
          exact hpl
  · rw [meetN_old (fun h => hk h.1), meetN_old (fun h => hk (h1 ▸ h.1))]
    exact S
theorem pathF_pre {l l' : List Nd} (hpre : l <+: l') (up : ∀ i, i < l.length → (l.getD i default).par < (i : Int)) : ∀ f i, i < l.length → pathF l' f i = pathF l f i
  | 0, _, _ => rfl
  | f + 1, i, hi => by
    obtain ⟨r, rfl⟩ := hpre
    have e : (l ++ r).getD i default = l.getD i default := by
      rw [List.getD_eq_getElem?_getD, List.getD_eq_getElem?_getD, List.getElem?_append_left hi]
    unfold pathF
    rw [e]
    split
    · rfl
    · rename_i h0
      have := up i hi
      rw [pathF_pre (List.prefix_append l r) up f _ (by omega)]
theorem pathM_pre {l l' : List Nd} (hpre : l <+: l') (up : ∀ i, i < l.length → (l.getD i default).par < (i : Int)) {i : Nat} (hi : i < l.length) : pathM l' i = pathM l i := pathF_pre hpre up _ i hi
theorem pathF_fuel {l : List Nd} (up : ∀ i, i < l.length → (l.getD i default).par < (i : Int)) : ∀ f g i, i < l.length → i < f → i < g → pathF l f i = pathF l g i
  | 0, _, i, _, h, _ => by omega
  | _, 0, i, _, _, h => by omega
  | f + 1, g + 1, i, hi, hf, hg => by
    unfold pathF
    split
    · rfl
    · rename_i h0
      have := up i hi
      rw [pathF_fuel up f g _ (by omega) (by omega) (by omega)]
/-- The way of one that is new. -/
theorem pathM_new {l : List Nd} (up : ∀ i, i < l.length → (l.getD i default).par < (i : Int)) (o : Nat) (p f : Int) (d : Nat) (hp : p < (l.length : Int)) :
    pathM (l ++ [⟨o, p, f, d⟩]) l.length = if p < 0 then [f] else pathM l p.toNat ++ [f] := by
  have e : (l ++ [(⟨o, p, f, d⟩ : Nd)]).getD l.length default = (⟨o, p, f, d⟩ : Nd) := by rw [getD_snoc, if_neg (by omega), if_pos rfl]
  unfold pathM
  conv => lhs; unfold pathF
  rw [e]
  show (if p < 0 then [f] else pathF (l ++ [⟨o, p, f, d⟩]) l.length p.toNat ++ [f]) = _
  split
  · rfl
  · rename_i h0
    rw [pathF_pre (List.prefix_append l _) up _ _ (by omega), pathF_fuel up _ (p.toNat + 1) _ (by omega) (by omega) (by omega)]
theorem pathF_side {l m : List Nd} (S : Side l m) : ∀ f i, i < l.length → pathF m f i = pathF l f i
  | 0, _, _ => rfl
  | f + 1, i, hi => by
    unfold pathF
    rw [(S.par i hi).1, (S.par i hi).2]
    split
    · rfl
    · have := S.up i hi
      rw [pathF_side S f _ (by omega)]
theorem pathM_side {l m : List Nd} (S : Side l m) {i : Nat} (hi : i < l.length) : pathM m i = pathM l i := pathF_side S _ i hi
/-- A walk of two: what holds of both lists at the i-th round. -/
theorem beginD_side {a b : List Nat} : ∀ {k : Nat} {l m : List Nd}, beginD a b k = .on l m → Side l m
  | 0, l, m, h => by unfold beginD at h; injection h with h1 h2; subst h1; subst h2; exact .nil
  | k + 1, l, m, h => by
    unfold beginD at h
    cases hb : beginD a b k with
    | off d => rw [hb] at h; cases h
    | on l' m' =>
      rw [hb] at h
      simp only at h
      split at h
      · rename_i hp
        injection h with h1 h2
        subst h1; subst h2
        exact (beginD_side hb).meet hp _ _ _ (by omega)
      · cases h
theorem namesD_side {nA nB : Nat → Nat → Nat} {l m : List Nd} {i : Nat} (S : Side l m) (hi : i < l.length) : ∀ {k : Nat} {l' m' : List Nd}, namesD nA nB l m i k = .on l' m' → Side l' m' ∧ l <+: l' ∧ m <+: m'
  | 0, l', m', h => by unfold namesD at h; injection h with h1 h2; subst h1; subst h2; exact ⟨S, List.prefix_refl _, List.prefix_refl _⟩
  | k + 1, l', m', h => by
    unfold namesD at h
    cases hb : namesD nA nB l m i k with
    | off d => rw [hb] at h; cases h
    | on l2 m2 =>
      rw [hb] at h
      simp only at h
      split at h
      · rename_i hp
        injection h with h1 h2
        subst h1; subst h2
        obtain ⟨S2, p2, q2⟩ := namesD_side S hi hb
        exact ⟨S2.meet hp _ _ _ (by have := p2.length_le; omega), p2.trans (meetN_pre _ _ _ _ _), q2.trans (meetN_pre _ _ _ _ _)⟩
      · cases h
end Go.Proofs.YtpajpdjjpgbklaaDoor

namespace Go.Proofs.YtpajpdjjpgbklaaDoor

theorem pairK_swap (l m : List Nd) (v u : Nat) : pairK m l u v = pairK l m v u := by
  unfold pairK
  by_cases h : kindM v = kindM u
  · simp only [h, ne_eq, not_true_eq_false, if_false]
    by_cases h0 : kindM u = 0
    · simp only [h0, if_true]
    · by_cases h1 : kindM u = 1
      · simp only [h1]
        by_cases e : v = u
        · subst e; rfl
        · have e' : ¬ u = v := fun h => e h.symm
          simp [e, e']
      · simp only [h0, h1, if_false]
        by_cases e : numF l v = numF m u
        · rw [if_pos e, if_pos e.symm]
        · rw [if_neg e, if_neg (fun h => e h.symm)]
  · rw [if_pos (fun e => h e.symm), if_pos h]
def Two2.swap : Two2 → Two2
  | .on l m => .on m l
  | .off d => .off d
theorem beginD_swap {a b : List Nat} : ∀ k, beginD b a k = (beginD a b k).swap
  | 0 => rfl
  | k + 1 => by
    unfold beginD
    rw [beginD_swap k]
    cases beginD a b k with
    | off d => rfl
    | on l m =>
      simp only [Two2.swap, pairK_swap l m]
      split <;> rfl
section
variable {nN nN' : Nat → Nat} {nA nB nC : Nat → Nat → Nat} {od od' od2 od3 : Nat → Nat → Option (Nat × Nat)}
theorem namesD_swap {l m : List Nd} (S : Side l m) {i : Nat} (hi : i < l.length) : ∀ k, namesD nB nA m l i k = (namesD nA nB l m i k).swap
  | 0 => rfl
  | k + 1 => by
    unfold namesD
    rw [namesD_swap S hi k]
    cases namesD nA nB l m i k with
    | off d => rfl
    | on l' m' =>
      simp only [Two2.swap, pairK_swap l' m', pathM_side S hi]
      split <;> rfl
theorem roundD_swap (hod : ∀ o q, od' q o = od o q) (hn : ∀ o q, od o q = none → nN' q = nN o) {l m : List Nd} (S : Side l m) {i : Nat} (hi : i < l.length) :
    roundD nN' nB nA od' m l i = (roundD nN nA nB od l m i).swap := by
  unfold roundD
  rw [hod]
  cases h : od (oAt l i) (oAt m i) with
  | some x => simp only [Two2.swap, pathM_side S hi]
  | none => simp only [hn _ _ h]; exact namesD_swap S hi _
theorem roundD_side {l m l' m' : List Nd} (S : Side l m) {i : Nat} (hi : i < l.length) (h : roundD nN nA nB od l m i = .on l' m') : Side l' m' ∧ l <+: l' ∧ m <+: m' := by
  unfold roundD at h
  split at h
  · cases h
  · exact namesD_side S hi h
theorem loopD_swap (hod : ∀ o q, od' q o = od o q) (hn : ∀ o q, od o q = none → nN' q = nN o) : ∀ (f i : Nat) {l m : List Nd}, Side l m → loopD nN' nB nA od' f i m l = loopD nN nA nB od f i l m
  | 0, _, _, _, _ => rfl
  | f + 1, i, l, m, S => by
    unfold loopD
    rw [S.len]
    split
    · rename_i hi
      rw [roundD_swap hod hn S hi]
      cases h : roundD nN nA nB od l m i with
      | off d => rfl
      | on l' m' => exact loopD_swap hod hn f (i + 1) (roundD_side S hi h).1
    · rfl
/-- Turned round: the same difference. -/
theorem diffD_swap (hod : ∀ o q, od' q o = od o q) (hn : ∀ o q, od o q = none → nN' q = nN o) {a b : List Nat} (hab : b.length = a.length) : diffD nN' nB nA od' b a = diffD nN nA nB od a b := by
  unfold diffD
  rw [hab, beginD_swap]
  cases h : beginD a b a.length with
  | off d => rfl
  | on l m => exact loopD_swap hod hn _ _ (beginD_side h)

/-- No difference. -/
def loopOn (nN : Nat → Nat) (nA nB : Nat → Nat → Nat) (od : Nat → Nat → Option (Nat × Nat)) : Nat → Nat → List Nd → List Nd → Prop
  | 0, _, _, _ => True
  | f + 1, i, l, m => i < l.length → ∃ l' m', roundD nN nA nB od l m i = .on l' m' ∧ loopOn nN nA nB od f (i + 1) l' m'
def onD (nN : Nat → Nat) (nA nB : Nat → Nat → Nat) (od : Nat → Nat → Option (Nat × Nat)) (a b : List Nat) : Prop := ∃ l m, beginD a b a.length = .on l m ∧ loopOn nN nA nB od fuelD 0 l m
theorem beginD_kind {a b : List Nat} : ∀ {k : Nat} {d : Df}, beginD a b k = .off d → d.kind ≠ 0
  | 0, d, h => by cases h
  | k + 1, d, h => by
    unfold beginD at h
    cases hb : beginD a b k with
    | off d' => rw [hb] at h; injection h with h; subst h; exact beginD_kind hb
    | on l m =>
      rw [hb] at h
      simp only at h
      split at h
      · cases h
      · rename_i hp; injection h with h; subst h; exact hp
theorem namesD_kind {l m : List Nd} {i : Nat} : ∀ {k : Nat} {d : Df}, namesD nA nB l m i k = .off d → d.kind ≠ 0
  | 0, d, h => by cases h
  | k + 1, d, h => by
    unfold namesD at h
    cases hb : namesD nA nB l m i k with
    | off d' => rw [hb] at h; injection h with h; subst h; exact namesD_kind hb
    | on l' m' =>
      rw [hb] at h
      simp only at h
      split at h
      · cases h
      · rename_i hp; injection h with h; subst h; exact hp
theorem roundD_kind (h0 : ∀ o q k x, od o q = some (k, x) → k ≠ 0) {l m : List Nd} {i : Nat} {d : Df} (h : roundD nN nA nB od l m i = .off d) : d.kind ≠ 0 := by
  unfold roundD at h
  cases ho : od (oAt l i) (oAt m i) with
  | some x => rw [ho] at h; injection h with h; subst h; exact h0 _ _ _ _ ho
  | none => rw [ho] at h; exact namesD_kind h
theorem loopD_kind (h0 : ∀ o q k x, od o q = some (k, x) → k ≠ 0) : ∀ (f i : Nat) (l m : List Nd), (loopD nN nA nB od f i l m).kind = 0 ↔ loopOn nN nA nB od f i l m
  | 0, _, _, _ => by simp [loopD, loopOn]
  | f + 1, i, l, m => by
    unfold loopD loopOn
    split
    · rename_i hi
      cases h : roundD nN nA nB od l m i with
      | off d =>
        simp only [hi, forall_const]
        constructor
        · intro e; exact absurd e (roundD_kind h0 h)
        · rintro ⟨l', m', e, _⟩; cases e
      | on l' m' =>
        simp only [hi, forall_const, loopD_kind h0 f]
        constructor
        · intro e; exact ⟨l', m', rfl, e⟩
        · rintro ⟨l2, m2, e, h2⟩; injection e with e1 e2; subst e1; subst e2; exact h2
    · rename_i hi; simp [hi]
theorem diffD_kind (h0 : ∀ o q k x, od o q = some (k, x) → k ≠ 0) (a b : List Nat) : (diffD nN nA nB od a b).kind = 0 ↔ onD nN nA nB od a b := by
  unfold diffD onD
  cases h : beginD a b a.length with
  | off d =>
    constructor
    · intro e; exact absurd e (beginD_kind h)
    · rintro ⟨l, m, e, _⟩; cases e
  | on l m =>
    simp only [loopD_kind h0]
    constructor
    · intro e; exact ⟨l, m, rfl, e⟩
    · rintro ⟨l2, m2, e, h2⟩; injection e with e1 e2; subst e1; subst e2; exact h2

/-- Reflexive. -/
theorem pairK_self (l : List Nd) (v : Nat) : pairK l l v v = 0 := pairK_zero.2 ⟨rfl, fun _ => rfl, fun _ => rfl⟩
theorem beginD_self (a : List Nat) : ∀ k, ∃ l, beginD a a k = .on l l
  | 0 => ⟨[], rfl⟩
  | k + 1 => by obtain ⟨l, h⟩ := beginD_self a k; exact ⟨_, beginD_on h (pairK_self _ _)⟩
theorem namesD_self (l : List Nd) (i : Nat) : ∀ k, ∃ l', namesD nA nA l l i k = .on l' l'
  | 0 => ⟨l, rfl⟩
  | k + 1 => by obtain ⟨l', h⟩ := namesD_self l i k; exact ⟨_, namesD_on h (pairK_self _ _)⟩
theorem loopOn_self (hr : ∀ o, od o o = none) : ∀ (f i : Nat) (l : List Nd), loopOn nN nA nA od f i l l
  | 0, _, _ => trivial
  | f + 1, i, l => fun hi => by
    obtain ⟨l', h⟩ := namesD_self (nA := nA) l i (nN (oAt l i))
    exact ⟨l', l', by unfold roundD; rw [hr]; exact h, loopOn_self hr f (i + 1) l'⟩
theorem onD_self (hr : ∀ o, od o o = none) (a : List Nat) : onD nN nA nA od a a := by
  obtain ⟨l, h⟩ := beginD_self a a.length
  exact ⟨l, l, h, loopOn_self hr _ _ _⟩
/-- Transitive. -/
theorem pairK_trans {l m x : List Nd} {v u t : Nat} (h1 : pairK l m v u = 0) (h2 : pairK m x u t = 0) : pairK l x v t = 0 := by
  obtain ⟨a1, a2, a3⟩ := pairK_zero.1 h1
  obtain ⟨b1, b2, b3⟩ := pairK_zero.1 h2
  exact pairK_zero.2 ⟨a1.trans b1, fun h => (a2 h).trans (b2 (a1 ▸ h)), fun h => (a3 h).trans (b3 (a1 ▸ h))⟩
theorem beginD_trans {a b c : List Nat} : ∀ {k : Nat} {l m m2 x : List Nd}, beginD a b k = .on l m → beginD b c k = .on m2 x → m2 = m ∧ beginD a c k = .on l x
  | 0, l, m, m2, x, h1, h2 => by
    unfold beginD at h1 h2 ⊢
    injection h1 with e1 e2; injection h2 with e3 e4
    subst e1; subst e2; subst e3; subst e4
    exact ⟨rfl, rfl⟩
  | k + 1, l, m, m2, x, h1, h2 => by
    unfold beginD at h1 h2
    cases hb : beginD a b k with
    | off d => rw [hb] at h1; cases h1
    | on l' m' =>
      cases hc : beginD b c k with
      | off d => rw [hc] at h2; cases h2
      | on m3 x' =>
        obtain ⟨rfl, hac⟩ := beginD_trans hb hc
        rw [hb] at h1; rw [hc] at h2
        simp only at h1 h2
        split at h1
        · rename_i p1
          split at h2
          · rename_i p2
            injection h1 with e1 e2; injection h2 with e3 e4
            subst e1; subst e2; subst e3; subst e4
            exact ⟨rfl, beginD_on hac (pairK_trans p1 p2)⟩
          · cases h2
        · cases h1
theorem namesD_trans {l m x : List Nd} {i : Nat} : ∀ {k : Nat} {l' m' m2 x' : List Nd}, namesD nA nB l m i k = .on l' m' → namesD nB nC m x i k = .on m2 x' → m2 = m' ∧ namesD nA nC l x i k = .on l' x'
  | 0, l', m', m2, x', h1, h2 => by
    unfold namesD at h1 h2 ⊢
    injection h1 with e1 e2; injection h2 with e3 e4
    subst e1; subst e2; subst e3; subst e4
    exact ⟨rfl, rfl⟩
  | k + 1, l', m', m2, x', h1, h2 => by
    unfold namesD at h1 h2
    cases hb : namesD nA nB l m i k with
    | off d => rw [hb] at h1; cases h1
    | on l3 m3 =>
      cases hc : namesD nB nC m x i k with
      | off d => rw [hc] at h2; cases h2
      | on m4 x3 =>
        obtain ⟨rfl, hac⟩ := namesD_trans hb hc
        rw [hb] at h1; rw [hc] at h2
        simp only at h1 h2
        split at h1
        · rename_i p1
          split at h2
          · rename_i p2
            injection h1 with e1 e2; injection h2 with e3 e4
            subst e1; subst e2; subst e3; subst e4
            exact ⟨rfl, namesD_on hac (pairK_trans p1 p2)⟩
          · cases h2
        · cases h1
theorem loopOn_trans (ht : ∀ o q t, od o q = none → od2 q t = none → od3 o t = none) (hn : ∀ o q, od o q = none → nN' q = nN o) : ∀ (f i : Nat) {l m x : List Nd}, Side l m → Side m x →
    loopOn nN nA nB od f i l m → loopOn nN' nB nC od2 f i m x → loopOn nN nA nC od3 f i l x
  | 0, _, _, _, _, _, _, _, _ => trivial
  | f + 1, i, l, m, x, S1, S2, h1, h2 => fun hi => by
    obtain ⟨l', m', r1, k1⟩ := h1 hi
    obtain ⟨m2, x', r2, k2⟩ := h2 (by rw [S1.len]; exact hi)
    have T1 := (roundD_side S1 hi r1).1
    have T2 := (roundD_side S2 (by rw [S1.len]; exact hi) r2).1
    unfold roundD at r1 r2
    cases o1 : od (oAt l i) (oAt m i) with
    | some y => rw [o1] at r1; cases r1
    | none =>
      cases o2 : od2 (oAt m i) (oAt x i) with
      | some y => rw [o2] at r2; cases r2
      | none =>
        rw [o1] at r1; rw [o2, hn _ _ o1] at r2
        obtain ⟨rfl, r3⟩ := namesD_trans r1 r2
        exact ⟨l', x', by unfold roundD; rw [ht _ _ _ o1 o2]; exact r3, loopOn_trans ht hn f (i + 1) T1 T2 k1 k2⟩
theorem onD_trans (ht : ∀ o q t, od o q = none → od2 q t = none → od3 o t = none) (hn : ∀ o q, od o q = none → nN' q = nN o) {a b c : List Nat} (hab : b.length = a.length)
    (h1 : onD nN nA nB od a b) (h2 : onD nN' nB nC od2 b c) : onD nN nA nC od3 a c := by
  obtain ⟨l, m, b1, k1⟩ := h1
  obtain ⟨m2, x, b2, k2⟩ := h2
  rw [hab] at b2
  obtain ⟨rfl, b3⟩ := beginD_trans b1 b2
  exact ⟨l, x, b3, loopOn_trans ht hn _ _ (beginD_side b1) (beginD_side b2) k1 k2⟩
end
end Go.Proofs.YtpajpdjjpgbklaaDoor
