/- slices.Equal at words and oops: two lists are the same. -/
import Derived.Test.YtblekggklimpeaaDoorJMem
import Derived.RegionTactic
set_option linter.unusedVariables false
namespace Go.Proofs.YtblekggklimpeaaDoor
open Go.RowKit

def sameL (xs ys : List Nat) : Bool := xs == ys
theorem sameL_self (xs : List Nat) : sameL xs xs = true := by simp [sameL]
theorem sameL_len {xs ys : List Nat} (h : xs.length ≠ ys.length) : sameL xs ys = false := by
  unfold sameL
  rw [beq_eq_false_iff_ne]
  exact fun e => h (congrArg List.length e)
theorem sameL_at {xs ys : List Nat} {k : Nat} (hx : k < xs.length) (hy : k < ys.length) (h : xs.getD k 0 ≠ ys.getD k 0) : sameL xs ys = false := by
  unfold sameL
  rw [beq_eq_false_iff_ne]
  exact fun e => h (by rw [e])
theorem take_eq_succ {xs ys : List Nat} {k : Nat} (hx : k < xs.length) (hy : k < ys.length) (h : xs.getD k 0 = ys.getD k 0) (ht : xs.take k = ys.take k) : xs.take (k + 1) = ys.take (k + 1) := by
  rw [List.take_add_one, List.take_add_one, ht, List.getElem?_eq_getElem hx, List.getElem?_eq_getElem hy]
  rw [List.getD_eq_getElem?_getD, List.getD_eq_getElem?_getD, List.getElem?_eq_getElem hx, List.getElem?_eq_getElem hy] at h
  simp at h
  rw [h]
theorem sameL_all {xs ys : List Nat} {n : Nat} (hx : xs.length = n) (hy : ys.length = n) (ht : xs.take n = ys.take n) : sameL xs ys = true := by
  rw [List.take_of_length_le (by omega), List.take_of_length_le (by omega)] at ht
  rw [ht]
  exact sameL_self _

set_option maxHeartbeats 1000000 in
theorem equal_u32 (A A' : Option Addr) (n n' c c' : Nat) (xs ys : List Nat) (w : World) (hn : n ≤ 9223372036854775807) (hn' : n' ≤ 9223372036854775807) (hr : Reads w w.heap.size 1 A n (u32s xs)) (hr' : Reads w w.heap.size 1 A' n' (u32s ys)) :
    Calls Tryd.prog 79 #[.slice A n c, .slice A' n' c'] w fun e w' => e = .returned (.bool (sameL xs ys)) ∧ ∃ m, w' = w.drewN m := by
  have hl : xs.length = n := by have := hr.1; rw [u32s_len] at this; omega
  have hl' : ys.length = n' := by have := hr'.1; rw [u32s_len] at this; omega
  have HL := Lib.hid hl; have HL' := Lib.hid hl'
  clear hl hl'
  have HR := Lib.hid hr; have HR' := Lib.hid hr'
  clear hr hr'
  by_cases hnn : n = n'
  · subst hnn
    go_enter Tryd.func79, Tryd.ntmps79
    go_wp2_with fail
    go_loopw [13] (fun i wr => ∃ k : Nat, k ≤ n ∧ i = .int .i64 k ∧ xs.take k = ys.take k ∧ ∃ m, wr = w.drewN m) (fun i _ => n - (intOf i).toNat)
    case atStart => exact ⟨0, by omega, rfl, rfl, 0, rfl⟩
    case round =>
      obtain ⟨k, hk, rfl, ht, m, rfl⟩ := hrel
      have HT := Lib.hid ht; clear ht
      by_cases hlt : k < n
      · have hx : k < xs.length := by rw [HL.out]; exact hlt
        have hy : k < ys.length := by rw [HL'.out]; exact hlt
        obtain ⟨ad, u, rfl, hbl, hu, hc⟩ := HR.out.at_ hlt
        obtain ⟨ad', u', rfl, hbl', hu', hc'⟩ := HR'.out.at_ hlt
        rw [u32s_get hx] at hu
        rw [u32s_get hy] at hu'
        injection hu with hu
        injection hu' with hu'
        subst hu hu'
        have HX := Lib.hid hx; have HY := Lib.hid hy
        clear hx hy
        by_cases he : xs.getD k 0 = ys.getD k 0
        · have HE := Lib.hid (take_eq_succ HX.out HY.out he HT.out)
          have hv : ((xs.getD k 0 : Int) != (ys.getD k 0 : Int)) = false := by rw [he]; simp
          clear he
          generalize xs.getD k 0 = x at *
          generalize ys.getD k 0 = y at *
          go_wp2_with fail
          go_region
          all_goals go_wp2_with fail
          all_goals go_roundw
          case rel => exact ⟨k + 1, by omega, by go_num, HE.out, m + 1, rfl⟩
          case measure => simp [intOf]; omega
        · have HE := Lib.hid (sameL_at HX.out HY.out he)
          have hv : ((xs.getD k 0 : Int) != (ys.getD k 0 : Int)) = true := by rw [bne_iff_ne]; omega
          clear he
          generalize xs.getD k 0 = x at *
          generalize ys.getD k 0 = y at *
          go_wp2_with fail
          go_region
          all_goals go_wp2_with fail
          all_goals go_ret
          all_goals exact ⟨by rw [HE.out]; rfl, m + 1, rfl⟩
      · obtain rfl : k = n := by omega
        have HA := Lib.hid (sameL_all HL.out HL'.out HT.out)
        go_wp2_with fail
        go_ret
        exact ⟨by rw [HA.out]; rfl, m, rfl⟩
  · have HF := Lib.hid (sameL_len (xs := xs) (ys := ys) (by rw [HL.out, HL'.out]; exact hnn))
    have hv : ((n : Int) != (n' : Int)) = true := by simp; omega
    clear hnn
    go_enter Tryd.func79, Tryd.ntmps79
    go_wp2_with fail
    go_ret
    exact ⟨by rw [HF.out]; rfl, 0, rfl⟩

set_option maxHeartbeats 1000000 in
theorem equal_oop (A A' : Option Addr) (n n' c c' : Nat) (xs ys : List Nat) (w : World) (hn : n ≤ 9223372036854775807) (hn' : n' ≤ 9223372036854775807) (hr : Reads w w.heap.size 1 A n (u32s xs)) (hr' : Reads w w.heap.size 1 A' n' (u32s ys)) :
    Calls Tryd.prog 80 #[.slice A n c, .slice A' n' c'] w fun e w' => e = .returned (.bool (sameL xs ys)) ∧ ∃ m, w' = w.drewN m := by
  have hl : xs.length = n := by have := hr.1; rw [u32s_len] at this; omega
  have hl' : ys.length = n' := by have := hr'.1; rw [u32s_len] at this; omega
  have HL := Lib.hid hl; have HL' := Lib.hid hl'
  clear hl hl'
  have HR := Lib.hid hr; have HR' := Lib.hid hr'
  clear hr hr'
  by_cases hnn : n = n'
  · subst hnn
    go_enter Tryd.func80, Tryd.ntmps80
    go_wp2_with fail
    go_loopw [13] (fun i wr => ∃ k : Nat, k ≤ n ∧ i = .int .i64 k ∧ xs.take k = ys.take k ∧ ∃ m, wr = w.drewN m) (fun i _ => n - (intOf i).toNat)
    case atStart => exact ⟨0, by omega, rfl, rfl, 0, rfl⟩
    case round =>
      obtain ⟨k, hk, rfl, ht, m, rfl⟩ := hrel
      have HT := Lib.hid ht; clear ht
      by_cases hlt : k < n
      · have hx : k < xs.length := by rw [HL.out]; exact hlt
        have hy : k < ys.length := by rw [HL'.out]; exact hlt
        obtain ⟨ad, u, rfl, hbl, hu, hc⟩ := HR.out.at_ hlt
        obtain ⟨ad', u', rfl, hbl', hu', hc'⟩ := HR'.out.at_ hlt
        rw [u32s_get hx] at hu
        rw [u32s_get hy] at hu'
        injection hu with hu
        injection hu' with hu'
        subst hu hu'
        have HX := Lib.hid hx; have HY := Lib.hid hy
        clear hx hy
        by_cases he : xs.getD k 0 = ys.getD k 0
        · have HE := Lib.hid (take_eq_succ HX.out HY.out he HT.out)
          have hv : ((xs.getD k 0 : Int) != (ys.getD k 0 : Int)) = false := by rw [he]; simp
          clear he
          generalize xs.getD k 0 = x at *
          generalize ys.getD k 0 = y at *
          go_wp2_with fail
          go_region
          all_goals go_wp2_with fail
          all_goals go_roundw
          case rel => exact ⟨k + 1, by omega, by go_num, HE.out, m + 1, rfl⟩
          case measure => simp [intOf]; omega
        · have HE := Lib.hid (sameL_at HX.out HY.out he)
          have hv : ((xs.getD k 0 : Int) != (ys.getD k 0 : Int)) = true := by rw [bne_iff_ne]; omega
          clear he
          generalize xs.getD k 0 = x at *
          generalize ys.getD k 0 = y at *
          go_wp2_with fail
          go_region
          all_goals go_wp2_with fail
          all_goals go_ret
          all_goals exact ⟨by rw [HE.out]; rfl, m + 1, rfl⟩
      · obtain rfl : k = n := by omega
        have HA := Lib.hid (sameL_all HL.out HL'.out HT.out)
        go_wp2_with fail
        go_ret
        exact ⟨by rw [HA.out]; rfl, m, rfl⟩
  · have HF := Lib.hid (sameL_len (xs := xs) (ys := ys) (by rw [HL.out, HL'.out]; exact hnn))
    have hv : ((n : Int) != (n' : Int)) = true := by simp; omega
    clear hnn
    go_enter Tryd.func80, Tryd.ntmps80
    go_wp2_with fail
    go_ret
    exact ⟨by rw [HF.out]; rfl, 0, rfl⟩
end Go.Proofs.YtblekggklimpeaaDoor
