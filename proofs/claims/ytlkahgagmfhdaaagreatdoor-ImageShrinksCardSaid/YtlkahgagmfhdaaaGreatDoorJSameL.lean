import Derived.Test.YtlkahgagmfhdaaaGreatDoorJLive
import Derived.Test.YtlkahgagmfhdaaaGreatDoorJMem
import Derived.RegionTactic
import Derived.Deep.RegionHeld3
set_option linter.unusedVariables false
set_option linter.unusedSectionVars false
namespace Go.Proofs.YtlkahgagmfhdaaaGreatDoor
section
open Go.RowKit
theorem u8c_lenS (l : List Nat) : (u8c l).length = l.length := by simp [u8c]
theorem u8c_get {l : List Nat} {i : Nat} (h : i < l.length) : (u8c l)[i]? = some (.int .u8 ((l.getD i 0 : Nat) : Int)) := by
 simp [u8c, List.getD, h]
set_option maxHeartbeats 1000000 in
theorem sameWords_any (A A' : Option Addr) (n n' c c' : Nat) (xs ys : List Nat) (w : World) (hn : n ≤ 9223372036854775807) (hn' : n' ≤ 9223372036854775807) (hr : Reads w w.heap.size 1 A n (u32s xs)) (hr' : Reads w w.heap.size 1 A' n' (u32s ys)) :
 Calls Tryz.prog 38 #[.slice A n c, .slice A' n' c'] w (Told (.bool (sameL xs ys)) w) := by
 have hl : xs.length = n := by have := hr.1; rw [u32s_len] at this; omega
 have hl' : ys.length = n' := by have := hr'.1; rw [u32s_len] at this; omega
 have HL := Lib.hid hl; have HL' := Lib.hid hl'
 clear hl hl'
 have HR := Lib.hid hr; have HR' := Lib.hid hr'
 clear hr hr'
 by_cases hnn : n = n'
 ·subst hnn
  go_enter Tryz.func38, Tryz.ntmps38
  go_wp2_with fail
  go_loopw [5] (fun i wr => ∃ k : Nat, k ≤ n ∧ i = .int .i64 k ∧ xs.take k = ys.take k ∧ Below w.heap.size w wr) (fun i _ => n - (intOf i).toNat)
  case atStart => exact ⟨0, by omega, rfl, rfl, Below.refl _ _⟩
  case round =>
   obtain ⟨k, hk, rfl, ht, hb⟩ := hrel
   have HT := Lib.hid ht; clear ht
   by_cases hlt : k < n
   ·have hx : k < xs.length := by rw [HL.out]; exact hlt
    have hy : k < ys.length := by rw [HL'.out]; exact hlt
    obtain ⟨ad, u, rfl, hbl, hu, hc⟩ := (HR.out.below hb).at_ hlt
    obtain ⟨ad', u', rfl, hbl', hu', hc'⟩ := (HR'.out.below hb).at_ hlt
    rw [u32s_get hx] at hu
    rw [u32s_get hy] at hu'
    injection hu with hu
    injection hu' with hu'
    subst hu hu'
    have HX := Lib.hid hx; have HY := Lib.hid hy
    clear hx hy
    by_cases he : xs.getD k 0 = ys.getD k 0
    ·have HE := Lib.hid (take_eq_succ HX.out HY.out he HT.out)
     have hv : ((xs.getD k 0 : Int) != (ys.getD k 0 : Int)) = false := by rw [he]; simp
     clear he
     generalize xs.getD k 0 = x at *
     generalize ys.getD k 0 = y at *
     go_wp2_with fail
     go_region
     all_goals go_wp2_with fail
     all_goals go_roundw
     case rel => exact ⟨k + 1, by omega, by go_num, HE.out, below_drew hb⟩
     case measure => simp [intOf]; omega
    ·have HE := Lib.hid (sameL_at HX.out HY.out he)
     have hv : ((xs.getD k 0 : Int) != (ys.getD k 0 : Int)) = true := by rw [bne_iff_ne]; omega
     clear he
     generalize xs.getD k 0 = x at *
     generalize ys.getD k 0 = y at *
     go_wp2_with fail
     go_region
     all_goals go_wp2_with fail
     all_goals go_ret
     all_goals exact ⟨by rw [HE.out]; rfl, below_drew hb⟩
   ·obtain rfl : k = n := by omega
    have HA := Lib.hid (sameL_all HL.out HL'.out HT.out)
    go_wp2_with fail
    go_ret
    exact ⟨by rw [HA.out]; rfl, hb⟩
 ·have HF := Lib.hid (sameL_len (xs := xs) (ys := ys) (by rw [HL.out, HL'.out]; exact hnn))
  have hv : ((n : Int) != (n' : Int)) = true := by simp; omega
  clear hnn
  go_enter Tryz.func38, Tryz.ntmps38
  go_wp2_with fail
  go_ret
  exact ⟨by rw [HF.out]; rfl, Below.refl _ _⟩
set_option maxHeartbeats 1000000 in
theorem sameOops_any (A A' : Option Addr) (n n' c c' : Nat) (xs ys : List Nat) (w : World) (hn : n ≤ 9223372036854775807) (hn' : n' ≤ 9223372036854775807) (hr : Reads w w.heap.size 1 A n (u32s xs)) (hr' : Reads w w.heap.size 1 A' n' (u32s ys)) :
 Calls Tryz.prog 63 #[.slice A n c, .slice A' n' c'] w (Told (.bool (sameL xs ys)) w) := by
 have hl : xs.length = n := by have := hr.1; rw [u32s_len] at this; omega
 have hl' : ys.length = n' := by have := hr'.1; rw [u32s_len] at this; omega
 have HL := Lib.hid hl; have HL' := Lib.hid hl'
 clear hl hl'
 have HR := Lib.hid hr; have HR' := Lib.hid hr'
 clear hr hr'
 by_cases hnn : n = n'
 ·subst hnn
  go_enter Tryz.func63, Tryz.ntmps63
  go_wp2_with fail
  go_loopw [5] (fun i wr => ∃ k : Nat, k ≤ n ∧ i = .int .i64 k ∧ xs.take k = ys.take k ∧ Below w.heap.size w wr) (fun i _ => n - (intOf i).toNat)
  case atStart => exact ⟨0, by omega, rfl, rfl, Below.refl _ _⟩
  case round =>
   obtain ⟨k, hk, rfl, ht, hb⟩ := hrel
   have HT := Lib.hid ht; clear ht
   by_cases hlt : k < n
   ·have hx : k < xs.length := by rw [HL.out]; exact hlt
    have hy : k < ys.length := by rw [HL'.out]; exact hlt
    obtain ⟨ad, u, rfl, hbl, hu, hc⟩ := (HR.out.below hb).at_ hlt
    obtain ⟨ad', u', rfl, hbl', hu', hc'⟩ := (HR'.out.below hb).at_ hlt
    rw [u32s_get hx] at hu
    rw [u32s_get hy] at hu'
    injection hu with hu
    injection hu' with hu'
    subst hu hu'
    have HX := Lib.hid hx; have HY := Lib.hid hy
    clear hx hy
    by_cases he : xs.getD k 0 = ys.getD k 0
    ·have HE := Lib.hid (take_eq_succ HX.out HY.out he HT.out)
     have hv : ((xs.getD k 0 : Int) != (ys.getD k 0 : Int)) = false := by rw [he]; simp
     clear he
     generalize xs.getD k 0 = x at *
     generalize ys.getD k 0 = y at *
     go_wp2_with fail
     go_region
     all_goals go_wp2_with fail
     all_goals go_roundw
     case rel => exact ⟨k + 1, by omega, by go_num, HE.out, below_drew hb⟩
     case measure => simp [intOf]; omega
    ·have HE := Lib.hid (sameL_at HX.out HY.out he)
     have hv : ((xs.getD k 0 : Int) != (ys.getD k 0 : Int)) = true := by rw [bne_iff_ne]; omega
     clear he
     generalize xs.getD k 0 = x at *
     generalize ys.getD k 0 = y at *
     go_wp2_with fail
     go_region
     all_goals go_wp2_with fail
     all_goals go_ret
     all_goals exact ⟨by rw [HE.out]; rfl, below_drew hb⟩
   ·obtain rfl : k = n := by omega
    have HA := Lib.hid (sameL_all HL.out HL'.out HT.out)
    go_wp2_with fail
    go_ret
    exact ⟨by rw [HA.out]; rfl, hb⟩
 ·have HF := Lib.hid (sameL_len (xs := xs) (ys := ys) (by rw [HL.out, HL'.out]; exact hnn))
  have hv : ((n : Int) != (n' : Int)) = true := by simp; omega
  clear hnn
  go_enter Tryz.func63, Tryz.ntmps63
  go_wp2_with fail
  go_ret
  exact ⟨by rw [HF.out]; rfl, Below.refl _ _⟩
end
section
open Go.RowKit
set_option maxHeartbeats 1000000 in
theorem isame_any (A A' : Option Addr) (n n' c c' : Nat) (xs ys : List Nat) (w : World) (hn : n ≤ 9223372036854775807) (hn' : n' ≤ 9223372036854775807) (hr : Reads w w.heap.size 1 A n (u8c xs)) (hr' : Reads w w.heap.size 1 A' n' (u8c ys)) :
 Calls Tryz.prog 19 #[.slice A n c, .slice A' n' c'] w (Told (.bool (sameL xs ys)) w) := by
 have hl : xs.length = n := by have := hr.1; rw [u8c_lenS] at this; omega
 have hl' : ys.length = n' := by have := hr'.1; rw [u8c_lenS] at this; omega
 have HL := Lib.hid hl; have HL' := Lib.hid hl'
 clear hl hl'
 have HR := Lib.hid hr; have HR' := Lib.hid hr'
 clear hr hr'
 by_cases hnn : n = n'
 ·subst hnn
  go_enter Tryz.func19, Tryz.ntmps19
  go_wp2_with fail
  go_loopw [5] (fun i wr => ∃ k : Nat, k ≤ n ∧ i = .int .i64 k ∧ xs.take k = ys.take k ∧ Below w.heap.size w wr) (fun i _ => n - (intOf i).toNat)
  case atStart => exact ⟨0, by omega, rfl, rfl, Below.refl _ _⟩
  case round =>
   obtain ⟨k, hk, rfl, ht, hb⟩ := hrel
   have HT := Lib.hid ht; clear ht
   by_cases hlt : k < n
   ·have hx : k < xs.length := by rw [HL.out]; exact hlt
    have hy : k < ys.length := by rw [HL'.out]; exact hlt
    obtain ⟨ad, u, rfl, hbl, hu, hc⟩ := (HR.out.below hb).at_ hlt
    obtain ⟨ad', u', rfl, hbl', hu', hc'⟩ := (HR'.out.below hb).at_ hlt
    rw [u8c_get hx] at hu
    rw [u8c_get hy] at hu'
    injection hu with hu
    injection hu' with hu'
    subst hu hu'
    have HX := Lib.hid hx; have HY := Lib.hid hy
    clear hx hy
    by_cases he : xs.getD k 0 = ys.getD k 0
    ·have HE := Lib.hid (take_eq_succ HX.out HY.out he HT.out)
     have hv : ((xs.getD k 0 : Int) != (ys.getD k 0 : Int)) = false := by rw [he]; simp
     clear he
     generalize xs.getD k 0 = x at *
     generalize ys.getD k 0 = y at *
     go_wp2_with fail
     go_region
     all_goals go_wp2_with fail
     all_goals go_roundw
     case rel => exact ⟨k + 1, by omega, by go_num, HE.out, below_drew hb⟩
     case measure => simp [intOf]; omega
    ·have HE := Lib.hid (sameL_at HX.out HY.out he)
     have hv : ((xs.getD k 0 : Int) != (ys.getD k 0 : Int)) = true := by rw [bne_iff_ne]; omega
     clear he
     generalize xs.getD k 0 = x at *
     generalize ys.getD k 0 = y at *
     go_wp2_with fail
     go_region
     all_goals go_wp2_with fail
     all_goals go_ret
     all_goals exact ⟨by rw [HE.out]; rfl, below_drew hb⟩
   ·obtain rfl : k = n := by omega
    have HA := Lib.hid (sameL_all HL.out HL'.out HT.out)
    go_wp2_with fail
    go_ret
    exact ⟨by rw [HA.out]; rfl, hb⟩
 ·have HF := Lib.hid (sameL_len (xs := xs) (ys := ys) (by rw [HL.out, HL'.out]; exact hnn))
  have hv : ((n : Int) != (n' : Int)) = true := by simp; omega
  clear hnn
  go_enter Tryz.func19, Tryz.ntmps19
  go_wp2_with fail
  go_ret
  exact ⟨by rw [HF.out]; rfl, Below.refl _ _⟩
theorem inum_any (E : Nat) (hE : E < 4294967296) (w : World) : Calls Tryz.prog 14 #[.int .i64 E] w fun e w' => e = .returned (.int .i64 E) ∧ w = w' := by
 go_enter Tryz.func14, Tryz.ntmps14
 go_wp2_with fail
 go_ret
 exact ⟨rfl, rfl⟩
end
section
open Go.RowKit
theorem rtop_any {w : World} {q : HP} {h : HM} (R : RAt w q h) (hl : h.words.length ≤ 1048576) : Calls Tryz.prog 61 #[.pointer (some ⟨q.g, 0, none⟩)] w (Said (.int .i64 (h.words.length : Nat)) w) := by
 have c1 := R.c1
 go_enter Tryz.func61, Tryz.ntmps61
 go_wp2_with fail
 go_ret
 exact ⟨rfl, rfl⟩
set_option maxRecDepth 100000 in
set_option maxHeartbeats 4000000 in
theorem like_any {W w : World} {p q : HP} {g : Nat} {h : HM} (L : Live W w p g h) (R : RAt w q h) :
 Calls Tryz.prog 15 #[.pointer (some ⟨g, 0, none⟩), .pointer (some ⟨q.g, 0, none⟩)] w (Told (.bool true) w) := by
 have hf := L.fit
 have r1 := hf.room
 have r2 := hf.hi
 have hrl := hf.roots
 have HSZ := Lib.hid (fun (w1 : World) (hb : Below w.heap.size w w1) => (L.after hb).size)
 have HTP := Lib.hid (fun (w1 : World) (hb : Below w.heap.size w w1) => (L.after hb).top)
 have HLS := Lib.hid (fun (w1 : World) (hb : Below w.heap.size w w1) => (L.after hb).last)
 have HWD := Lib.hid (fun (w1 : World) (hb : Below w.heap.size w w1) => (L.after hb).words)
 have HRT := Lib.hid (fun (w1 : World) (hb : Below w.heap.size w w1) => (L.after hb).roots)
 have HTQ := Lib.hid (fun (w1 : World) (hb : Below w.heap.size w w1) => rtop_any (R.below hb) (by omega))
 have HSW := Lib.hid (fun (w1 w2 : World) (hb : Below w.heap.size w w2) (g1 c1 : Nat) (r : Row w2 g1 32 c1 (u32s h.words)) => sameWords_any (some ⟨g1, 0, none⟩) (some ⟨q.gw, 0, none⟩) h.words.length h.words.length c1 q.cw h.words h.words w2 (by omega) (by omega)
  (by have := r.reads r.lt; rw [u32s_len] at this; exact this) (by have := (R.below hb).2.1.reads (R.below hb).2.1.lt; rw [u32s_len] at this; exact this))
 have HSO := Lib.hid (fun (w1 w2 : World) (hb : Below w.heap.size w w2) (g1 c1 : Nat) (r : Row w2 g1 54 c1 (u32s h.roots)) => sameOops_any (some ⟨g1, 0, none⟩) (some ⟨q.gr, 0, none⟩) h.roots.length h.roots.length c1 q.cr h.roots h.roots w2 (by omega) (by omega)
  (by have := r.reads r.lt; rw [u32s_len] at this; exact this) (by have := (R.below hb).2.2.2.reads (R.below hb).2.2.2.lt; rw [u32s_len] at this; exact this))
 rw [sameL_self] at HSW HSO
 have HC := Lib.hid (fun (w1 : World) (hb : Below w.heap.size w w1) => (R.below hb).1.cells5)
 obtain ⟨c0, c1, c2, c3, c4⟩ := R.1.cells5
 have HL1 := Lib.hid (u32s_len h.words)
 have HL2 := Lib.hid (u32s_len h.roots)
 have hB0 : Below w.heap.size w w.drew := below_drew (Below.refl _ _)
 clear L R hf hrl
 go_enter Tryz.func15, Tryz.ntmps15
 go_wp2_with fail
 go_region_held3 (fun w' => w'.cell? ⟨q.g, 0, none⟩ = some (.int .i64 h.size) ∧ w'.cell? ⟨q.g, 1, none⟩ = some (.slice (some ⟨q.gw, 0, none⟩) h.words.length q.cw) ∧ w'.cell? ⟨q.g, 2, none⟩ = some (.slice (some ⟨q.gr, 0, none⟩) h.roots.length q.cr) ∧ w'.cell? ⟨q.g, 3, none⟩ = some (.int .u32 h.last) ∧ w'.cell? ⟨q.g, 4, none⟩ = some (.slice (some ⟨q.gs, 0, none⟩) h.starts.length q.cs))
  (first | exact ⟨c0, c1, c2, c3, c4⟩ | exact HC.out _ (by assumption) | go_keep)
  (first
    | (go_at_call 59; refine (HSZ.out _ (by assumption)).mono ?_; rintro e w' ⟨rfl, rfl⟩)
    | (go_at_call 60; refine (HTP.out _ (by assumption)).mono ?_; rintro e w' ⟨rfl, rfl⟩)
    | (go_at_call 62; refine (HLS.out _ (by assumption)).mono ?_; rintro e w' ⟨rfl, rfl⟩)
    | (go_at_call 61; refine (HTQ.out _ (by assumption)).mono ?_; rintro e w' ⟨rfl, rfl⟩)
    | (go_at_call 35; refine (HWD.out _ (by assumption)).mono ?_; rintro e w1 ⟨g1, k1, rfl, rw1, -, hb1⟩; rw [HL1.out]; have hB1 := below_top (by assumption) hb1)
    | (go_at_call 54; refine (HRT.out _ (by assumption)).mono ?_; rintro e w3 ⟨g3, k3, rfl, rw3, -, hb3⟩; rw [HL2.out]; have hB3 := below_top (by assumption) hb3)
    | (go_at_call 38; refine (HSW.out w _ (by assumption) _ _ (by assumption)).mono ?_; rintro e w2 ⟨rfl, hb2⟩; have hB2 := below_top (by assumption) hb2)
    | (go_at_call 63; refine (HSO.out w _ (by assumption) _ _ (by assumption)).mono ?_; rintro e w4 ⟨rfl, hb4⟩; have hB4 := below_top (by assumption) hb4))
 all_goals go_wp2_with fail
 all_goals go_ret
 all_goals exact ⟨rfl, by assumption⟩
end
end Go.Proofs.YtlkahgagmfhdaaaGreatDoor
