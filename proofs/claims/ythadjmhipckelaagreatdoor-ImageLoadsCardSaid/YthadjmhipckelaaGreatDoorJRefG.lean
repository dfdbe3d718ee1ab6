import Derived.Test.YthadjmhipckelaaGreatDoorJLive
import Derived.Test.YthadjmhipckelaaGreatDoorJZeros
import Derived.Test.YthadjmhipckelaaGreatDoorJAlloc
import Derived.Test.YthadjmhipckelaaGreatDoorJMake
import Derived.Test.YthadjmhipckelaaGreatDoorJMem
import Derived.StillTailTactics
import Derived.Deep.RegionLaw
import Derived.RegionTactic
import Derived.Deep.RegionHeld3
set_option linter.unusedVariables false
set_option linter.unusedSimpArgs false
set_option linter.unusedSectionVars false
namespace Go.Proofs.YthadjmhipckelaaGreatDoor
section
open Go.RowKit
theorem look_at {h : HM} (hh : h.Heads) {o : Nat} {i : Int} {F : Nat} {fs : List Nat} (hF : (F = 1 ∧ fs = [1, 4]) ∨ (F = 2 ∧ fs = [2]) ∨ (F = 3 ∧ fs = [3])) (he : h.lookE o i fs = 0) :
 ∃ k : Nat, i = k ∧ o / 2 + 3 + (if F = 2 then k / 4 else k) < h.words.length := by
 obtain ⟨hi, hc, h0, hlt⟩ := HM.look_ok he
 have hd := (HM.isB_hd hh hi).1
 obtain ⟨k, rfl⟩ := Int.eq_ofNat_of_zero_le h0
 refine ⟨k, rfl, ?_⟩
 unfold Hd.len at hlt
 rcases hF with ⟨rfl, rfl⟩ | ⟨rfl, rfl⟩ | ⟨rfl, rfl⟩
 ·rw [if_neg (fun e => by rw [e] at hc; simp at hc)] at hlt
  rw [if_neg (by omega)]; omega
 ·rw [if_pos (by simpa using hc)] at hlt
  rw [if_pos rfl]; omega
 ·rw [if_neg (fun e => by rw [e] at hc; simp at hc)] at hlt
  rw [if_neg (by omega)]; omega
theorem HM.placeV_no {h : HM} {o F : Nat} {i : Int} {fs : List Nat} (he : h.lookE o i fs ≠ 0) : h.placeV o i F fs = .tuple #[.int .i64 0, .int .i64 (h.lookE o i fs)] := by
 unfold HM.placeV; rw [if_neg he]; rfl
theorem HM.placeV_at {h : HM} {o F k : Nat} {fs : List Nat} (he : h.lookE o k fs = 0) : h.placeV o k F fs = .tuple #[.int .i64 ((o / 2 + 3 + (if F = 2 then k / 4 else k) : Nat) : Int), .int .i64 0] := by
 unfold HM.placeV; rw [if_pos he, he, Int.toNat_natCast]; rfl
section
variable {w : World} {p : HP} {h : HM} (R : RAt w p h) (f : h.Fit) (hh : h.Heads) (o : Nat) (ho : o < 4294967296) (i : Int) (hi63 : i ≤ 9223372036854775807)
include R f hh ho hi63
set_option maxRecDepth 100000 in
theorem rget_any : Calls Tryz.prog 64 #[ptr p.g, .int .u32 o, .int .i64 i] w (Told (.tuple #[.int .u32 (h.readN o i [1, 4] : Nat), .int .i64 (h.lookE o i [1, 4] : Nat)]) w) := by
 have HP := Lib.hid (rplace_any R f o ho hh i 1 [1, 4] (by decide) hi63)
 have hle := h.lookE_lt o i [1, 4]
 by_cases he : h.lookE o i [1, 4] = 0
 ·obtain ⟨k, rfl, hk⟩ := look_at hh (F := 1) (fs := [1, 4]) (by decide) he
  rw [HM.placeV_at he] at HP
  simp only [Nat.reduceEqDiff, if_false] at HP hk
  have HN := Lib.hid (show h.readN o k [1, 4] = fw h o k by unfold HM.readN; rw [if_pos he]; rfl)
  have HC := Lib.hid (show ∀ w', Below w.heap.size w w' → w'.cell? ⟨p.g, 1, none⟩ = some (.slice (some ⟨p.gw, 0, none⟩) h.words.length p.cw) ∧ w'.cell? ⟨p.gw, o / 2 + 3 + k, none⟩ = some (.int .u32 (fw h o k : Nat)) from fun w' hb => ⟨(R.below hb).c1, (R.below hb).word hk⟩)
  have hmx := f.room
  have hmx2 := f.hi
  rw [HN.out, he]
  clear he hle HN R f hh
  generalize fw h o k = v at *
  generalize o / 2 + 3 + k = q at *
  generalize h.words.length = len at *
  unfold ptr at HP ⊢
  go_enter Tryz.func64, Tryz.ntmps64
  go_wp2_with fail
  refine HP.out.mono ?_
  rintro e w1 ⟨rfl, hb⟩
  obtain ⟨c1, cv⟩ := HC.out _ hb
  go_wp2_with fail
  go_ret2
  exact ⟨rfl, hb⟩
 ·have hne : ((h.lookE o i [1, 4] : Int) != 0) = true := by simp; omega
  rw [HM.placeV_no he] at HP
  have HN := Lib.hid (show h.readN o i [1, 4] = 0 by unfold HM.readN; rw [if_neg he])
  rw [HN.out]
  generalize h.lookE o i [1, 4] = E at *
  clear he HN
  unfold ptr at HP ⊢
  go_enter Tryz.func64, Tryz.ntmps64
  go_wp2_with fail
  refine HP.out.mono ?_
  rintro e w1 ⟨rfl, hb⟩
  go_wp2_with fail
  go_ret2
  exact ⟨rfl, hb⟩
set_option maxRecDepth 100000 in
theorem rword_any : Calls Tryz.prog 63 #[ptr p.g, .int .u32 o, .int .i64 i] w (Told (.tuple #[.int .u32 (h.readN o i [3] : Nat), .int .i64 (h.lookE o i [3] : Nat)]) w) := by
 have HP := Lib.hid (rplace_any R f o ho hh i 3 [3] (by decide) hi63)
 have hle := h.lookE_lt o i [3]
 by_cases he : h.lookE o i [3] = 0
 ·obtain ⟨k, rfl, hk⟩ := look_at hh (F := 3) (fs := [3]) (by decide) he
  rw [HM.placeV_at he] at HP
  simp only [Nat.reduceEqDiff, if_false] at HP hk
  have HN := Lib.hid (show h.readN o k [3] = fw h o k by unfold HM.readN; rw [if_pos he]; rfl)
  have HC := Lib.hid (show ∀ w', Below w.heap.size w w' → w'.cell? ⟨p.g, 1, none⟩ = some (.slice (some ⟨p.gw, 0, none⟩) h.words.length p.cw) ∧ w'.cell? ⟨p.gw, o / 2 + 3 + k, none⟩ = some (.int .u32 (fw h o k : Nat)) from fun w' hb => ⟨(R.below hb).c1, (R.below hb).word hk⟩)
  have hmx := f.room
  have hmx2 := f.hi
  rw [HN.out, he]
  clear he hle HN R f hh
  generalize fw h o k = v at *
  generalize o / 2 + 3 + k = q at *
  generalize h.words.length = len at *
  unfold ptr at HP ⊢
  go_enter Tryz.func63, Tryz.ntmps63
  go_wp2_with fail
  refine HP.out.mono ?_
  rintro e w1 ⟨rfl, hb⟩
  obtain ⟨c1, cv⟩ := HC.out _ hb
  go_wp2_with fail
  go_ret2
  exact ⟨rfl, hb⟩
 ·have hne : ((h.lookE o i [3] : Int) != 0) = true := by simp; omega
  rw [HM.placeV_no he] at HP
  have HN := Lib.hid (show h.readN o i [3] = 0 by unfold HM.readN; rw [if_neg he])
  rw [HN.out]
  generalize h.lookE o i [3] = E at *
  clear he HN
  unfold ptr at HP ⊢
  go_enter Tryz.func63, Tryz.ntmps63
  go_wp2_with fail
  refine HP.out.mono ?_
  rintro e w1 ⟨rfl, hb⟩
  go_wp2_with fail
  go_ret2
  exact ⟨rfl, hb⟩
set_option maxRecDepth 100000 in
set_option maxHeartbeats 2000000 in
theorem rbyte_any : Calls Tryz.prog 62 #[ptr p.g, .int .u32 o, .int .i64 i] w (Told (.tuple #[.int .u8 (h.byteN o i : Nat), .int .i64 (h.lookE o i [2] : Nat)]) w) := by
 have HP := Lib.hid (rplace_any R f o ho hh i 2 [2] (by decide) hi63)
 have hle := h.lookE_lt o i [2]
 by_cases he : h.lookE o i [2] = 0
 ·obtain ⟨k, rfl, hk⟩ := look_at hh (F := 2) (fs := [2]) (by decide) he
  rw [HM.placeV_at he] at HP
  simp only [if_true] at HP hk
  have HN := Lib.hid (show h.byteN o k = byteOf (fw h o (k / 4)) (k % 4) by unfold HM.byteN; rw [if_pos he]; rfl)
  have HC := Lib.hid (show ∀ w', Below w.heap.size w w' → w'.cell? ⟨p.g, 1, none⟩ = some (.slice (some ⟨p.gw, 0, none⟩) h.words.length p.cw) ∧ w'.cell? ⟨p.gw, o / 2 + 3 + k / 4, none⟩ = some (.int .u32 (fw h o (k / 4) : Nat)) from fun w' hb => ⟨(R.below hb).c1, (R.below hb).word hk⟩)
  have hmx := f.room
  have hmx2 := f.hi
  have hv : fw h o (k / 4) < 4294967296 := f.word _
  rw [HN.out, he]
  clear he hle HN R f hh
  generalize fw h o (k / 4) = v at *
  generalize o / 2 + 3 + k / 4 = q at *
  generalize h.words.length = len at *
  unfold ptr at HP ⊢
  rcases (by omega : k % 4 = 0 ∨ k % 4 = 1 ∨ k % 4 = 2 ∨ k % 4 = 3) with hr | hr | hr | hr
  all_goals
   have hmod : (k : Int) % 4 = ((k % 4 : Nat) : Int) := by omega
   rw [hr] at hmod
   have HFIN := Lib.hid (show ((byteOf v (k % 4) : Nat) : Int) = (v : Int) / ((2 ^ (8 * (k % 4)) : Nat) : Int) % 256 by unfold byteOf; simp)
   rw [hr] at HFIN
   rw [hr]
   clear hr
   go_enter Tryz.func62, Tryz.ntmps62
   go_wp2_with fail
   refine HP.out.mono ?_
   rintro e w1 ⟨rfl, hb⟩
   obtain ⟨c1, cv⟩ := HC.out _ hb
   go_wp2_with fail
   go_ret2
   refine ⟨?_, hb⟩
   rw [HFIN.out]
   first
    | (simp; done)
    | (simp; omega)
    | trace_state
 ·have hne : ((h.lookE o i [2] : Int) != 0) = true := by simp; omega
  rw [HM.placeV_no he] at HP
  have HN := Lib.hid (show h.byteN o i = 0 by unfold HM.byteN; rw [if_neg he])
  rw [HN.out]
  generalize h.lookE o i [2] = E at *
  clear he HN
  unfold ptr at HP ⊢
  go_enter Tryz.func62, Tryz.ntmps62
  go_wp2_with fail
  refine HP.out.mono ?_
  rintro e w1 ⟨rfl, hb⟩
  go_wp2_with fail
  go_ret2
  exact ⟨rfl, hb⟩
end
end
section
open Go.RowKit
section
variable {w : World} {p : HP} {h : HM} (R : RAt w p h) (f : h.Fit) (hh : h.Heads) (o : Nat) (ho : o < 4294967296) (i : Int) (hi63 : i ≤ 9223372036854775807)
include R f hh ho hi63
end
section
variable {w : World} {p : HP} {h : HM} (R : RAt w p h) (f : h.Fit)
include R f
end
end
section
open Go.RowKit
section
variable {w w1 : World} {p : HP} {h : HM}
end
end
section
open Go.RowKit
attribute [local go_sem] Oper.semAt_some
section
variable {w : World} {p : HP} {h : HM} (R : RAt w p h) (f : h.Fit)
include R f
end
end
section
open Go.RowKit
section
variable {w w' : World} {p p' : HP} {B : Nat} {A : Option Addr} {ds : List Dd}
theorem cell_add {a : Addr} {j : Nat} {v : Value} (h : w.cell? (a.add j) = some v) (hj : 0 < j) : w.cell? ⟨a.block, a.off + j, none⟩ = some v := by
 unfold Addr.add at h
 rw [if_neg (by omega)] at h
 exact h
end
end
section
open Go.RowKit
attribute [local go_sem] Oper.semAt_some
def cntB (l : List Bool) : Nat := l.countP id
theorem cntB_le (l : List Bool) : cntB l ≤ l.length := List.countP_le_length
theorem cntB_step {l : List Bool} {i : Nat} (h : i < l.length) : cntB (l.take (i + 1)) = cntB (l.take i) + (if l.getD i false then 1 else 0) := by
 unfold cntB
 rw [List.take_add_one, List.getElem?_eq_getElem h, List.countP_append, List.getD_eq_getElem?_getD, List.getElem?_eq_getElem h]
 simp only [Option.toList_some, Option.getD_some, List.countP_cons, List.countP_nil, Nat.zero_add, id]
theorem cntB_ms (l : List Ob) : cntB (msOf l) = l.length := by
 induction l with
 | nil => rfl
 | cons b l ih =>
   unfold cntB at ih ⊢
   rw [msOf_cons, List.countP_append, ih]
   unfold Ob.ms
   rw [List.countP_cons, List.countP_replicate]
   simp
   omega
theorem cntB_laid {h : HM} {l : List Ob} (L : h.Laid l) : cntB h.starts = l.length := by
 rw [L.marks]
 have := cntB_ms l
 unfold cntB at this ⊢
 rw [List.countP_cons, this]
 simp
set_option maxHeartbeats 1000000 in
theorem rcountB_any {w : World} {p : HP} {h : HM} (R : RAt w p h) (hl : h.starts.length ≤ 9000000) : Calls Tryz.prog 26 #[ptr p.g] w (fun e w' => e = .returned (.int .i64 (cntB h.starts : Nat)) ∧ w = w') := by
 have HR := Lib.hid R
 have q4 : w.cell? ⟨p.g, 4, none⟩ = some (.slice (some ⟨p.gs, 0, none⟩) h.starts.length p.cs) := R.1.cell 4
 clear R
 unfold ptr
 go_enter Tryz.func26, Tryz.ntmps26
 go_wp2_with fail
 go_loopw [3, 4] (fun s i wr => ∃ k : Nat, i = .int .i64 k ∧ s = .int .i64 (cntB (h.starts.take k) : Nat) ∧ k ≤ h.starts.length ∧ w = wr) (fun _ i _ => h.starts.length - (intOf i).toNat)
 case atStart => exact ⟨0, rfl, rfl, Nat.zero_le _, rfl⟩
 case round =>
  obtain ⟨k, rfl, rfl, hk, rfl⟩ := hrel
  by_cases hkn : k < h.starts.length
  ·have hd : decide ((k : Int) < (h.starts.length : Int)) = true := by simp; omega
   have hkni : (k : Int) < (h.starts.length : Int) := by omega
   have hc := HR.out.2.2.1.cell (begins_get hkn)
   have HST := Lib.hid (cntB_step hkn)
   have hb1 := cntB_le (h.starts.take k)
   rw [List.length_take] at hb1
   have hcb : cntB (h.starts.take k) ≤ 9000000 := by omega
   clear hb1
   generalize cntB (h.starts.take k) = s at *
   have hw1 : wrap64 ((s : Int) + 1) = (s : Int) + 1 := IntWalk.wrap64_in _ (by omega)
   have hw2 : wrap64 (s : Int) = (s : Int) := IntWalk.wrap64_in _ (by omega)
   by_cases hb : h.starts.getD k false = true
   ·rw [if_pos hb] at hc HST
    clear hb
    go_wp2_with fail
    go_roundw
    case rel => exact ⟨k + 1, by go_num, by rw [HST.out]; first | rfl | (congr 2; push_cast; rfl) | (congr 2), by omega, trivial⟩
    case measure => simp [intOf]; omega
   ·rw [if_neg hb] at hc HST
    clear hb
    go_wp2_with fail
    go_roundw
    case rel => exact ⟨k + 1, by go_num, by rw [HST.out]; first | rfl | (congr 2; push_cast; rfl) | simp, by omega, trivial⟩
    case measure => simp [intOf]; omega
  ·obtain rfl : k = h.starts.length := by omega
   have hd : decide ((h.starts.length : Int) < (h.starts.length : Int)) = false := by simp
   rw [List.take_length]
   go_wp2_with fail
   go_ret
   exact ⟨rfl, rfl⟩
end
section
open Go.RowKit
theorem u8c_lenS (l : List Nat) : (u8c l).length = l.length := by simp [u8c]
theorem u8c_get {l : List Nat} {i : Nat} (h : i < l.length) : (u8c l)[i]? = some (.int .u8 ((l.getD i 0 : Nat) : Int)) := by
 simp [u8c, List.getD, h]
set_option maxHeartbeats 1000000 in
theorem sameWords_any (A A' : Option Addr) (n n' c c' : Nat) (xs ys : List Nat) (w : World) (hn : n ≤ 9223372036854775807) (hn' : n' ≤ 9223372036854775807) (hr : Reads w w.heap.size 1 A n (u32s xs)) (hr' : Reads w w.heap.size 1 A' n' (u32s ys)) :
 Calls Tryz.prog 18 #[.slice A n c, .slice A' n' c'] w (Told (.bool (sameL xs ys)) w) := by
 have hl : xs.length = n := by have := hr.1; rw [u32s_len] at this; omega
 have hl' : ys.length = n' := by have := hr'.1; rw [u32s_len] at this; omega
 have HL := Lib.hid hl; have HL' := Lib.hid hl'
 clear hl hl'
 have HR := Lib.hid hr; have HR' := Lib.hid hr'
 clear hr hr'
 by_cases hnn : n = n'
 ·subst hnn
  go_enter Tryz.func18, Tryz.ntmps18
  go_wp2_with fail
  go_loopw [5] (fun i wr => ∃ k : Nat, k ≤ n ∧ i = .int .i64 k ∧ xs.take k = ys.take k ∧ Below w.heap.size w wr) (fun i _ => n - (intOf i).toNat)
  case atStart => exact ⟨0, by omega, rfl, rfl, Below.refl _ _⟩
  case round =>
   obtain ⟨k, hk, rfl, ht, hb⟩ := hrel
   have HT := Lib.hid ht; clear ht
   by_cases hlt : k < n
   ·have hx : k < xs.length := by rw [HL.out]; exact hlt
    have hy : k < ys.length := by rw [HL'.out]; exact hlt
    obtain ⟨ad, u, rfl, hbl, hu, hc⟩ := (HR.out.below hb).at_ hlt
    obtain ⟨ad', u', rfl, hbl', hu', hc'⟩ := (HR'.out.below hb).at_ hlt
    rw [u32s_get hx] at hu
    rw [u32s_get hy] at hu'
    injection hu with hu
    injection hu' with hu'
    subst hu hu'
    have HX := Lib.hid hx; have HY := Lib.hid hy
    clear hx hy
    by_cases he : xs.getD k 0 = ys.getD k 0
    ·have HE := Lib.hid (take_eq_succ HX.out HY.out he HT.out)
     have hv : ((xs.getD k 0 : Int) != (ys.getD k 0 : Int)) = false := by rw [he]; simp
     clear he
     generalize xs.getD k 0 = x at *
     generalize ys.getD k 0 = y at *
     go_wp2_with fail
     go_region
     all_goals go_wp2_with fail
     all_goals go_roundw
     case rel => exact ⟨k + 1, by omega, by go_num, HE.out, below_drew hb⟩
     case measure => simp [intOf]; omega
    ·have HE := Lib.hid (sameL_at HX.out HY.out he)
     have hv : ((xs.getD k 0 : Int) != (ys.getD k 0 : Int)) = true := by rw [bne_iff_ne]; omega
     clear he
     generalize xs.getD k 0 = x at *
     generalize ys.getD k 0 = y at *
     go_wp2_with fail
     go_region
     all_goals go_wp2_with fail
     all_goals go_ret
     all_goals exact ⟨by rw [HE.out]; rfl, below_drew hb⟩
   ·obtain rfl : k = n := by omega
    have HA := Lib.hid (sameL_all HL.out HL'.out HT.out)
    go_wp2_with fail
    go_ret
    exact ⟨by rw [HA.out]; rfl, hb⟩
 ·have HF := Lib.hid (sameL_len (xs := xs) (ys := ys) (by rw [HL.out, HL'.out]; exact hnn))
  have hv : ((n : Int) != (n' : Int)) = true := by simp; omega
  clear hnn
  go_enter Tryz.func18, Tryz.ntmps18
  go_wp2_with fail
  go_ret
  exact ⟨by rw [HF.out]; rfl, Below.refl _ _⟩
set_option maxHeartbeats 1000000 in
theorem sameOops_any (A A' : Option Addr) (n n' c c' : Nat) (xs ys : List Nat) (w : World) (hn : n ≤ 9223372036854775807) (hn' : n' ≤ 9223372036854775807) (hr : Reads w w.heap.size 1 A n (u32s xs)) (hr' : Reads w w.heap.size 1 A' n' (u32s ys)) :
 Calls Tryz.prog 20 #[.slice A n c, .slice A' n' c'] w (Told (.bool (sameL xs ys)) w) := by
 have hl : xs.length = n := by have := hr.1; rw [u32s_len] at this; omega
 have hl' : ys.length = n' := by have := hr'.1; rw [u32s_len] at this; omega
 have HL := Lib.hid hl; have HL' := Lib.hid hl'
 clear hl hl'
 have HR := Lib.hid hr; have HR' := Lib.hid hr'
 clear hr hr'
 by_cases hnn : n = n'
 ·subst hnn
  go_enter Tryz.func20, Tryz.ntmps20
  go_wp2_with fail
  go_loopw [5] (fun i wr => ∃ k : Nat, k ≤ n ∧ i = .int .i64 k ∧ xs.take k = ys.take k ∧ Below w.heap.size w wr) (fun i _ => n - (intOf i).toNat)
  case atStart => exact ⟨0, by omega, rfl, rfl, Below.refl _ _⟩
  case round =>
   obtain ⟨k, hk, rfl, ht, hb⟩ := hrel
   have HT := Lib.hid ht; clear ht
   by_cases hlt : k < n
   ·have hx : k < xs.length := by rw [HL.out]; exact hlt
    have hy : k < ys.length := by rw [HL'.out]; exact hlt
    obtain ⟨ad, u, rfl, hbl, hu, hc⟩ := (HR.out.below hb).at_ hlt
    obtain ⟨ad', u', rfl, hbl', hu', hc'⟩ := (HR'.out.below hb).at_ hlt
    rw [u32s_get hx] at hu
    rw [u32s_get hy] at hu'
    injection hu with hu
    injection hu' with hu'
    subst hu hu'
    have HX := Lib.hid hx; have HY := Lib.hid hy
    clear hx hy
    by_cases he : xs.getD k 0 = ys.getD k 0
    ·have HE := Lib.hid (take_eq_succ HX.out HY.out he HT.out)
     have hv : ((xs.getD k 0 : Int) != (ys.getD k 0 : Int)) = false := by rw [he]; simp
     clear he
     generalize xs.getD k 0 = x at *
     generalize ys.getD k 0 = y at *
     go_wp2_with fail
     go_region
     all_goals go_wp2_with fail
     all_goals go_roundw
     case rel => exact ⟨k + 1, by omega, by go_num, HE.out, below_drew hb⟩
     case measure => simp [intOf]; omega
    ·have HE := Lib.hid (sameL_at HX.out HY.out he)
     have hv : ((xs.getD k 0 : Int) != (ys.getD k 0 : Int)) = true := by rw [bne_iff_ne]; omega
     clear he
     generalize xs.getD k 0 = x at *
     generalize ys.getD k 0 = y at *
     go_wp2_with fail
     go_region
     all_goals go_wp2_with fail
     all_goals go_ret
     all_goals exact ⟨by rw [HE.out]; rfl, below_drew hb⟩
   ·obtain rfl : k = n := by omega
    have HA := Lib.hid (sameL_all HL.out HL'.out HT.out)
    go_wp2_with fail
    go_ret
    exact ⟨by rw [HA.out]; rfl, hb⟩
 ·have HF := Lib.hid (sameL_len (xs := xs) (ys := ys) (by rw [HL.out, HL'.out]; exact hnn))
  have hv : ((n : Int) != (n' : Int)) = true := by simp; omega
  clear hnn
  go_enter Tryz.func20, Tryz.ntmps20
  go_wp2_with fail
  go_ret
  exact ⟨by rw [HF.out]; rfl, Below.refl _ _⟩
end
section
open Go.RowKit
set_option maxHeartbeats 1000000 in
theorem isame_any (A A' : Option Addr) (n n' c c' : Nat) (xs ys : List Nat) (w : World) (hn : n ≤ 9223372036854775807) (hn' : n' ≤ 9223372036854775807) (hr : Reads w w.heap.size 1 A n (u8c xs)) (hr' : Reads w w.heap.size 1 A' n' (u8c ys)) :
 Calls Tryz.prog 11 #[.slice A n c, .slice A' n' c'] w (Told (.bool (sameL xs ys)) w) := by
 have hl : xs.length = n := by have := hr.1; rw [u8c_lenS] at this; omega
 have hl' : ys.length = n' := by have := hr'.1; rw [u8c_lenS] at this; omega
 have HL := Lib.hid hl; have HL' := Lib.hid hl'
 clear hl hl'
 have HR := Lib.hid hr; have HR' := Lib.hid hr'
 clear hr hr'
 by_cases hnn : n = n'
 ·subst hnn
  go_enter Tryz.func11, Tryz.ntmps11
  go_wp2_with fail
  go_loopw [5] (fun i wr => ∃ k : Nat, k ≤ n ∧ i = .int .i64 k ∧ xs.take k = ys.take k ∧ Below w.heap.size w wr) (fun i _ => n - (intOf i).toNat)
  case atStart => exact ⟨0, by omega, rfl, rfl, Below.refl _ _⟩
  case round =>
   obtain ⟨k, hk, rfl, ht, hb⟩ := hrel
   have HT := Lib.hid ht; clear ht
   by_cases hlt : k < n
   ·have hx : k < xs.length := by rw [HL.out]; exact hlt
    have hy : k < ys.length := by rw [HL'.out]; exact hlt
    obtain ⟨ad, u, rfl, hbl, hu, hc⟩ := (HR.out.below hb).at_ hlt
    obtain ⟨ad', u', rfl, hbl', hu', hc'⟩ := (HR'.out.below hb).at_ hlt
    rw [u8c_get hx] at hu
    rw [u8c_get hy] at hu'
    injection hu with hu
    injection hu' with hu'
    subst hu hu'
    have HX := Lib.hid hx; have HY := Lib.hid hy
    clear hx hy
    by_cases he : xs.getD k 0 = ys.getD k 0
    ·have HE := Lib.hid (take_eq_succ HX.out HY.out he HT.out)
     have hv : ((xs.getD k 0 : Int) != (ys.getD k 0 : Int)) = false := by rw [he]; simp
     clear he
     generalize xs.getD k 0 = x at *
     generalize ys.getD k 0 = y at *
     go_wp2_with fail
     go_region
     all_goals go_wp2_with fail
     all_goals go_roundw
     case rel => exact ⟨k + 1, by omega, by go_num, HE.out, below_drew hb⟩
     case measure => simp [intOf]; omega
    ·have HE := Lib.hid (sameL_at HX.out HY.out he)
     have hv : ((xs.getD k 0 : Int) != (ys.getD k 0 : Int)) = true := by rw [bne_iff_ne]; omega
     clear he
     generalize xs.getD k 0 = x at *
     generalize ys.getD k 0 = y at *
     go_wp2_with fail
     go_region
     all_goals go_wp2_with fail
     all_goals go_ret
     all_goals exact ⟨by rw [HE.out]; rfl, below_drew hb⟩
   ·obtain rfl : k = n := by omega
    have HA := Lib.hid (sameL_all HL.out HL'.out HT.out)
    go_wp2_with fail
    go_ret
    exact ⟨by rw [HA.out]; rfl, hb⟩
 ·have HF := Lib.hid (sameL_len (xs := xs) (ys := ys) (by rw [HL.out, HL'.out]; exact hnn))
  have hv : ((n : Int) != (n' : Int)) = true := by simp; omega
  clear hnn
  go_enter Tryz.func11, Tryz.ntmps11
  go_wp2_with fail
  go_ret
  exact ⟨by rw [HF.out]; rfl, Below.refl _ _⟩
theorem inum_any (E : Nat) (hE : E < 4294967296) (w : World) : Calls Tryz.prog 6 #[.int .i64 E] w fun e w' => e = .returned (.int .i64 E) ∧ w = w' := by
 go_enter Tryz.func6, Tryz.ntmps6
 go_wp2_with fail
 go_ret
 exact ⟨rfl, rfl⟩
end
section
open Go.RowKit
theorem rtop_any {w : World} {q : HP} {h : HM} (R : RAt w q h) (hl : h.words.length ≤ 1048576) : Calls Tryz.prog 16 #[.pointer (some ⟨q.g, 0, none⟩)] w (Said (.int .i64 (h.words.length : Nat)) w) := by
 have c1 := R.c1
 go_enter Tryz.func16, Tryz.ntmps16
 go_wp2_with fail
 go_ret
 exact ⟨rfl, rfl⟩
set_option maxRecDepth 100000 in
set_option maxHeartbeats 4000000 in
theorem like_any {W w : World} {p q : HP} {g : Nat} {h : HM} (L : Live W w p g h) (R : RAt w q h) :
 Calls Tryz.prog 7 #[.pointer (some ⟨g, 0, none⟩), .pointer (some ⟨q.g, 0, none⟩)] w (Told (.bool true) w) := by
 have hf := L.fit
 have r1 := hf.room
 have r2 := hf.hi
 have hrl := hf.roots
 have HSZ := Lib.hid (fun (w1 : World) (hb : Below w.heap.size w w1) => (L.after hb).size)
 have HTP := Lib.hid (fun (w1 : World) (hb : Below w.heap.size w w1) => (L.after hb).top)
 have HLS := Lib.hid (fun (w1 : World) (hb : Below w.heap.size w w1) => (L.after hb).last)
 have HWD := Lib.hid (fun (w1 : World) (hb : Below w.heap.size w w1) => (L.after hb).words)
 have HRT := Lib.hid (fun (w1 : World) (hb : Below w.heap.size w w1) => (L.after hb).roots)
 have HTQ := Lib.hid (fun (w1 : World) (hb : Below w.heap.size w w1) => rtop_any (R.below hb) (by omega))
 have HSW := Lib.hid (fun (w1 w2 : World) (hb : Below w.heap.size w w2) (g1 c1 : Nat) (r : Row w2 g1 32 c1 (u32s h.words)) => sameWords_any (some ⟨g1, 0, none⟩) (some ⟨q.gw, 0, none⟩) h.words.length h.words.length c1 q.cw h.words h.words w2 (by omega) (by omega)
  (by have := r.reads r.lt; rw [u32s_len] at this; exact this) (by have := (R.below hb).2.1.reads (R.below hb).2.1.lt; rw [u32s_len] at this; exact this))
 have HSO := Lib.hid (fun (w1 w2 : World) (hb : Below w.heap.size w w2) (g1 c1 : Nat) (r : Row w2 g1 72 c1 (u32s h.roots)) => sameOops_any (some ⟨g1, 0, none⟩) (some ⟨q.gr, 0, none⟩) h.roots.length h.roots.length c1 q.cr h.roots h.roots w2 (by omega) (by omega)
  (by have := r.reads r.lt; rw [u32s_len] at this; exact this) (by have := (R.below hb).2.2.2.reads (R.below hb).2.2.2.lt; rw [u32s_len] at this; exact this))
 rw [sameL_self] at HSW HSO
 have HC := Lib.hid (fun (w1 : World) (hb : Below w.heap.size w w1) => (R.below hb).1.cells5)
 obtain ⟨c0, c1, c2, c3, c4⟩ := R.1.cells5
 have HL1 := Lib.hid (u32s_len h.words)
 have HL2 := Lib.hid (u32s_len h.roots)
 have hB0 : Below w.heap.size w w.drew := below_drew (Below.refl _ _)
 clear L R hf hrl
 go_enter Tryz.func7, Tryz.ntmps7
 go_wp2_with fail
 go_region_held3 (fun w' => w'.cell? ⟨q.g, 0, none⟩ = some (.int .i64 h.size) ∧ w'.cell? ⟨q.g, 1, none⟩ = some (.slice (some ⟨q.gw, 0, none⟩) h.words.length q.cw) ∧ w'.cell? ⟨q.g, 2, none⟩ = some (.slice (some ⟨q.gr, 0, none⟩) h.roots.length q.cr) ∧ w'.cell? ⟨q.g, 3, none⟩ = some (.int .u32 h.last) ∧ w'.cell? ⟨q.g, 4, none⟩ = some (.slice (some ⟨q.gs, 0, none⟩) h.starts.length q.cs))
  (first | exact ⟨c0, c1, c2, c3, c4⟩ | exact HC.out _ (by assumption) | go_keep)
  (first
    | (go_at_call 14; refine (HSZ.out _ (by assumption)).mono ?_; rintro e w' ⟨rfl, rfl⟩)
    | (go_at_call 15; refine (HTP.out _ (by assumption)).mono ?_; rintro e w' ⟨rfl, rfl⟩)
    | (go_at_call 17; refine (HLS.out _ (by assumption)).mono ?_; rintro e w' ⟨rfl, rfl⟩)
    | (go_at_call 16; refine (HTQ.out _ (by assumption)).mono ?_; rintro e w' ⟨rfl, rfl⟩)
    | (go_at_call 19; refine (HWD.out _ (by assumption)).mono ?_; rintro e w1 ⟨g1, k1, rfl, rw1, -, hb1⟩; rw [HL1.out]; have hB1 := below_top (by assumption) hb1)
    | (go_at_call 21; refine (HRT.out _ (by assumption)).mono ?_; rintro e w3 ⟨g3, k3, rfl, rw3, -, hb3⟩; rw [HL2.out]; have hB3 := below_top (by assumption) hb3)
    | (go_at_call 18; refine (HSW.out w _ (by assumption) _ _ (by assumption)).mono ?_; rintro e w2 ⟨rfl, hb2⟩; have hB2 := below_top (by assumption) hb2)
    | (go_at_call 20; refine (HSO.out w _ (by assumption) _ _ (by assumption)).mono ?_; rintro e w4 ⟨rfl, hb4⟩; have hB4 := below_top (by assumption) hb4))
 all_goals go_wp2_with fail
 all_goals go_ret
 all_goals exact ⟨rfl, by assumption⟩
end
end Go.Proofs.YthadjmhipckelaaGreatDoor
