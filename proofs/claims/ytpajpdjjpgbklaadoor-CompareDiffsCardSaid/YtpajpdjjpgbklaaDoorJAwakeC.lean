/- compare's awake: chapter 23's first two examples hold; ints. -/
/- CompareDiffs, walked: of two heaps and any beginnings the first difference. -/
import Derived.Test.YtpajpdjjpgbklaaDoorJDiffW
import Derived.Test.YtpajpdjjpgbklaaDoorJLive
import Derived.Test.YtpajpdjjpgbklaaDoorJRefQ
import Derived.Test.YtpajpdjjpgbklaaDoorJAlike
import Derived.Test.YtpajpdjjpgbklaaDoorJRDiff
import Derived.Lib.SlBytesConst
import Derived.Deep.QuietTactic
import Derived.BigQuiet
set_option linter.unusedVariables false
set_option linter.unusedSimpArgs false
set_option linter.unusedSectionVars false
namespace Go.Proofs.YtpajpdjjpgbklaaDoor
open Go.RowKit

def ca0 : HM := HM.new 64
def ca1 : HM := ca0.AllocH 0 1 2
def ca2 : HM := ca1.AllocH 0 1 2
def ca3 : HM := ca2.putH 2 0 2
def ca4 : HM := ca3.putH 2 1 7
def ca5 : HM := ca4.putH 12 0 12
def ca6 : HM := ca5.putH 12 1 9
theorem ca_f1 : ca0.AllocO 0 1 2 = 2 ∧ ca0.AllocE 0 1 2 = 0 := by decide +kernel
theorem ca_f2 : ca1.AllocO 0 1 2 = 12 ∧ ca1.AllocE 0 1 2 = 0 := by decide +kernel
theorem ca_f3 : ca2.putE 2 0 2 = 0 := by decide +kernel
theorem ca_f4 : ca3.putE 2 1 7 = 0 := by decide +kernel
theorem ca_f5 : ca4.putE 12 0 12 = 0 := by decide +kernel
theorem ca_f6 : ca5.putE 12 1 9 = 0 := by decide +kernel
theorem ca_fits : ca6.fitsB [2] = true ∧ ca6.fitsB [12] = true := by decide +kernel
theorem ca_seen : seenM ca6.nmN ca6.nmAt [2] = some [⟨2, -1, 0, 1⟩] := by kernel_rfl
theorem ca_seen2 : seenM ca6.nmN ca6.nmAt [12] = some [⟨12, -1, 0, 1⟩] := by kernel_rfl
theorem ca_diff : diffD ca6.nmN ca6.nmAt ca6.nmAt (ca6.odM ca6 false) [2] [12] = ⟨2, [0, 1], 0⟩ := by kernel_rfl
theorem ca_canon : canonM ca6 false [2] [⟨2, -1, 0, 1⟩] = [2, 1, 0, 2, 0, 2, 13] := by
  have e1 : (ca6.hd (2 / 2)) = ⟨2, 1, 0, 0, 1⟩ := by kernel_rfl
  have e2 : ca6.nmN 2 = 3 := by decide +kernel
  have r0 : refM [⟨2, -1, 0, 1⟩] (ca6.nmAt 2 0) = 0 := by decide +kernel
  have r1 : refM [⟨2, -1, 0, 1⟩] (ca6.nmAt 2 1) = 2 := by decide +kernel
  have r2 : refM [⟨2, -1, 0, 1⟩] (ca6.nmAt 2 2) = 13 := by decide +kernel
  have r3 : refM [⟨2, -1, 0, 1⟩] (id 2) = 2 := by decide +kernel
  unfold canonM refsB HM.objC HM.headB HM.contB HM.serB refsB
  simp only [oopsOf, List.map_cons, List.map_nil, List.flatMap_cons, List.flatMap_nil, e1, e2, r3, List.range_succ, List.range_zero, List.flatMap_append, List.nil_append, r0, r1, r2, cnt7_small (show 2 < 128 by omega), cnt7_small (show 0 < 128 by omega), cnt7_small (show 13 < 128 by omega)]
  rfl
theorem ca_diffE : diffE ca6 ca6 [2] [12] = 0 := by
  unfold diffE HM.seenE
  rw [if_pos ca_fits, ca_seen, ca_seen2]
  rfl
theorem ca_diffV : diffV ca6 ca6 false [2] [12] = ⟨2, [0, 1], 0⟩ := by unfold diffV; rw [if_pos ca_diffE]; exact ca_diff
theorem eq_of_getD {xs ys : List Int} (hl : xs.length = ys.length) (h : ∀ j, j < xs.length → xs.getD j 0 = ys.getD j 0) : xs = ys := by
  apply List.ext_getElem hl
  intro j h1 h2
  have := h j h1
  rw [List.getD_eq_getElem?_getD, List.getD_eq_getElem?_getD, List.getElem?_eq_getElem h1, List.getElem?_eq_getElem h2] at this
  simpa using this
set_option maxRecDepth 100000 in
set_option maxHeartbeats 2000000 in
theorem ints_any {w : World} (A A' : Option Addr) (n m c c' : Nat) (xs ys : List Int) (hn : n ≤ 140737488351232) (hm : m ≤ 140737488351232) (hr : Reads w w.heap.size 1 A n (intZ xs)) (hr' : Reads w w.heap.size 1 A' m (intZ ys)) :
    Calls Tryd.prog 16 #[.slice A n c, .slice A' m c'] w (Told (.bool (decide (xs = ys))) w) := by
  have hl : xs.length = n := by have := hr.1; rw [intZ_len] at this; omega
  have hl' : ys.length = m := by have := hr'.1; rw [intZ_len] at this; omega
  have HL := Lib.hid hl; have HL' := Lib.hid hl'; have HR := Lib.hid hr; have HR' := Lib.hid hr'
  clear hl hl' hr hr'
  by_cases hnm : n = m
  · subst hnm
    have en : ((n : Int) != (n : Int)) = false := by simp
    go_enter Tryd.func16, Tryd.ntmps16
    go_wp2_with fail
    go_loopw [5] (fun iv wr => ∃ k : Nat, k ≤ n ∧ iv = .int .i64 k ∧ (∀ j, j < k → xs.getD j 0 = ys.getD j 0) ∧ Below w.heap.size w wr) (fun iv _ => n - (intOf iv).toNat)
    case atStart => exact ⟨0, by omega, rfl, fun j hj => by omega, Below.refl _ _⟩
    case round =>
      obtain ⟨k, hk, rfl, hno, hb⟩ := hrel
      have HNO := Lib.hid hno
      have HB := Lib.hid hb
      clear hno hb
      by_cases hlt : k < n
      · obtain ⟨ad1, u1, rfl, _, hx1, kc1⟩ := (HR.out.below HB.out).at_ hlt
        obtain ⟨ad2, u2, rfl, _, hx2, kc2⟩ := (HR'.out.below HB.out).at_ hlt
        rw [intZ_get (by rw [HL.out]; exact hlt)] at hx1
        rw [intZ_get (by rw [HL'.out]; exact hlt)] at hx2
        injection hx1 with hx1
        injection hx2 with hx2
        subst hx1
        subst hx2
        by_cases heq : xs.getD k 0 = ys.getD k 0
        · have e5 : ((xs.getD k 0) != (ys.getD k 0)) = false := by rw [heq]; simp
          have HEQ := Lib.hid heq
          clear heq
          generalize hv1 : xs.getD k 0 = y1 at *
          generalize hv2 : ys.getD k 0 = y2 at *
          have HV1 := Lib.hid hv1
          have HV2 := Lib.hid hv2
          clear hv1 hv2
          go_wp2_with fail
          go_quiet (fail)
          go_wp2_with fail
          go_roundw
          case rel =>
            refine ⟨k + 1, by omega, by go_num, fun j hj => ?_, below_drewN HB.out _⟩
            rcases Nat.lt_or_ge j k with h1 | h1
            · exact HNO.out j h1
            · obtain rfl : j = k := by omega
              rw [HV1.out, HV2.out, HEQ.out]
          case measure => simp [intOf]; omega
        · have e5 : ((xs.getD k 0) != (ys.getD k 0)) = true := by simpa using heq
          have HFD := Lib.hid (show decide (xs = ys) = false from decide_eq_false fun e => heq (by rw [e]))
          rw [HFD.out]
          clear heq
          generalize xs.getD k 0 = y1 at *
          generalize ys.getD k 0 = y2 at *
          go_wp2_with fail
          go_quiet (fail)
          have HBQ := Lib.hid (below_drewN HB.out nq)
          clear kc1 kc2 HB
          generalize wr.drewN nq = w7 at *
          go_wp2_with fail
          go_ret
          exact ⟨rfl, HBQ.out⟩
      · obtain rfl : k = n := by omega
        have HFN := Lib.hid (show decide (xs = ys) = true from decide_eq_true (eq_of_getD (by rw [HL.out, HL'.out]) (fun j hj => HNO.out j (by rw [HL.out] at hj; exact hj))))
        go_wp2_with fail
        go_ret
        exact ⟨by rw [HFN.out]; rfl, HB.out⟩
  · have en : ((n : Int) != (m : Int)) = true := by simp; omega
    have HFD := Lib.hid (show decide (xs = ys) = false from decide_eq_false fun e => hnm (by rw [← HL.out, ← HL'.out, e]))
    rw [HFD.out]
    clear hnm
    go_enter Tryd.func16, Tryd.ntmps16
    go_wp2_with fail
    go_ret
    exact ⟨rfl, Below.refl _ _⟩
set_option maxRecDepth 100000 in
set_option maxHeartbeats 4000000 in
theorem cawake_any (W : World) (E : Env W) : Calls Tryd.prog 9 #[] W (Told (.bool true) W) := by
  have HE := Lib.hid E; clear E
  go_enter Tryd.func9, Tryd.ntmps9
  go_wp2_with fail
  refine (new_any 64 (by decide) (by decide) _).mono ?_
  rintro e w1 hN
  obtain ⟨p, g, rfl, L0⟩ := Live.of_new (v := fun g => .tuple #[ptr g, .int .i64 0]) HE.out (by decide) (by decide) hN
  replace L0 : Live W w1 p g ca0 := L0
  clear hN
  unfold ptr
  go_wp2_with fail
  refine (L0.alloc 0 (by decide) 1 2).mono ?_
  rintro e w2 ⟨p1, rfl, L1, -⟩
  rw [ca_f1.1, ca_f1.2]
  replace L1 : Live W w2 p1 g ca1 := L1
  go_wp2_with fail
  refine (L1.alloc 0 (by decide) 1 2).mono ?_
  rintro e w3 ⟨p2, rfl, L2, -⟩
  rw [ca_f2.1, ca_f2.2]
  replace L2 : Live W w3 p2 g ca2 := L2
  go_wp2_with fail
  refine (L2.put 2 (by decide) 0 2 (by decide)).mono ?_
  rintro e w4 ⟨p3, rfl, L3, -⟩
  rw [ca_f3]
  replace L3 : Live W w4 p3 g ca3 := L3
  go_wp2_with fail
  refine (L3.put 2 (by decide) 1 7 (by decide)).mono ?_
  rintro e w5 ⟨p4, rfl, L4, -⟩
  rw [ca_f4]
  replace L4 : Live W w5 p4 g ca4 := L4
  go_wp2_with fail
  refine (L4.put 12 (by decide) 0 12 (by decide)).mono ?_
  rintro e w6 ⟨p5, rfl, L5, -⟩
  rw [ca_f5]
  replace L5 : Live W w6 p5 g ca5 := L5
  go_wp2_with fail
  refine (L5.put 12 (by decide) 1 9 (by decide)).mono ?_
  rintro e w7 ⟨p6, rfl, L6, -⟩
  rw [ca_f6]
  replace L6 : Live W w7 p6 g ca6 := L6
  clear L0 L1 L2 L3 L4 L5
  obtain ⟨ls, G6⟩ := L6.good
  have hg6 := L6.hg
  subst hg6
  have HG6 := Lib.hid G6
  go_wp2_with fail
  have La := L6.after ((Below.refl _ w7).alloc (Nat.le_refl _) (.cells #[.int .u32 2] 50))
  refine (canon_any La.at_ G6 G6.laid.heads La.envw.spares false (some ⟨w7.heap.size, 0, none⟩) 1 1 [2] (by decide) ⟨rfl, fun _ => ⟨_, rfl, by simp, cell_one_new _ _ _⟩⟩ (by decide)).mono ?_
  rintro e w8 ⟨hb8, ⟨h1, -⟩ | ⟨-, h1, -⟩ | ⟨-, l, v, h1, -, rfl, hown⟩⟩
  · rw [ca_fits.1] at h1; cases h1
  · rw [ca_seen] at h1; cases h1
  rw [ca_seen] at h1
  injection h1 with h1
  subst h1
  rw [ca_canon] at hown
  have HL8 := Lib.hid (La.after hb8)
  have HO8 := Lib.hid hown
  clear La hb8 hown L6
  go_wp2_with fail
  have hba := (Below.refl w8.heap.size w8).alloc (Nat.le_refl _) (.cells #[.int .u32 2] 50)
  have hbb := hba.alloc (by simp) (.cells #[.int .u32 12] 50)
  have Lb := HL8.out.after hbb
  have c2 := (Blk.new w8 50 #[.int .u32 2]).alloc (.cells #[.int .u32 12] 50)
  have c12 := Blk.new (w8.alloc (.cells #[.int .u32 2] 50)) 50 #[.int .u32 12]
  rw [World.size_alloc] at c12
  refine (diff_any Lb.at_ G6 Lb.at_ G6 Lb.envw.spares false (some ⟨w8.heap.size, 0, none⟩) (some ⟨w8.heap.size + 1, 0, none⟩) 1 1 1 1 [2] [12] (by decide) (by decide) (row_one' c2 (by simp; omega)) (row_one' c12 (by simp)) (by decide) (by decide)).mono ?_
  rintro e w9 ⟨hb9, A9, c9, rfl, hrd9, -⟩
  rw [ca_diffV] at hrd9 ⊢
  rw [ca_diffE]
  replace hrd9 : Reads w9 w9.heap.size 1 A9 2 (intZ [0, 1]) := hrd9
  have HR9 := Lib.hid hrd9
  have HL9 := Lib.hid (Lb.after hb9)
  have hbD := (below_top hbb hb9).alloc (below_top hbb hb9).size (.cells #[.int .i64 2, .slice A9 2 c9, .int .i64 0] 35)
  have kcv := conv_own (own_same HO8.out (fun k hk => hbD.block k (HO8.out.lt k hk).2))
  rw [show strN [2, 1, 0, 2, 0, 2, 13] = ⟨#[2, 1, 0, 2, 0, 2, 13]⟩ by decide +kernel] at kcv
  have kcl := conv_own (w := (w9.alloc (.cells #[.int .i64 2, .slice A9 2 c9, .int .i64 0] 35)).alloc (.cells #[.int .u8 2, .int .u8 1, .int .u8 0, .int .u8 2, .int .u8 0, .int .u8 2, .int .u8 13] 5)) (base := 0) (n := 7) (v := .slice (some ⟨w9.heap.size + 1, 0, none⟩) 7 7) (xs := [2, 1, 0, 2, 0, 2, 13])
    ⟨rfl, .inr ⟨w9.heap.size + 1, 7, _, rfl, Nat.zero_le _, (by have h := heap_alloc_new (w9.alloc (.cells #[.int .i64 2, .slice A9 2 c9, .int .i64 0] 35)) (.cells #[.int .u8 2, .int .u8 1, .int .u8 0, .int .u8 2, .int .u8 0, .int .u8 2, .int .u8 13] 5); rw [World.size_alloc] at h; exact h), by simp [u8c], by simp [maxLen], rfl, rfl⟩⟩
  rw [show strN [2, 1, 0, 2, 0, 2, 13] = ⟨#[2, 1, 0, 2, 0, 2, 13]⟩ by decide +kernel] at kcl
  have BD := Blk.new w9 35 #[.int .i64 2, .slice A9 2 c9, .int .i64 0]
  have HBD := Lib.hid BD
  have hbE := ((Below.refl w9.heap.size w9).alloc (Nat.le_refl _) (.cells #[.int .i64 2, .slice A9 2 c9, .int .i64 0] 35)).alloc (by simp) (.cells #[.int .u8 2, .int .u8 1, .int .u8 0, .int .u8 2, .int .u8 0, .int .u8 2, .int .u8 13] 5)
  have HBE := Lib.hid hbE
  have d0 := (BD.alloc (.cells #[.int .u8 2, .int .u8 1, .int .u8 0, .int .u8 2, .int .u8 0, .int .u8 2, .int .u8 13] 5)).cell 0
  have d1 := (BD.alloc (.cells #[.int .u8 2, .int .u8 1, .int .u8 0, .int .u8 2, .int .u8 0, .int .u8 2, .int .u8 13] 5)).cell 1
  clear hba hbb Lb c2 c12 hb9 hrd9 hbD BD HL8 hbE
  go_wp2_with fail
  have hbF := HBE.out.alloc (by simp; omega) (.cells #[.int .i64 0, .int .i64 1] 3)
  have c01 := Blk.new ((w9.alloc (.cells #[.int .i64 2, .slice A9 2 c9, .int .i64 0] 35)).alloc (.cells #[.int .u8 2, .int .u8 1, .int .u8 0, .int .u8 2, .int .u8 0, .int .u8 2, .int .u8 13] 5)) 3 #[.int .i64 0, .int .i64 1]
  rw [World.size_alloc, World.size_alloc] at c01
  have HBF := Lib.hid hbF
  have HLF := Lib.hid (HL9.out.after hbF)
  refine (ints_any A9 (some ⟨w9.heap.size + 1 + 1, 0, none⟩) 2 2 c9 2 [0, 1] [0, 1] (by decide) (by decide) ((HR9.out.below hbF).more hbF.size) (row_two' c01 (by simp))).mono ?_
  rintro e w10 ⟨rfl, hb10⟩
  have HLG := Lib.hid (HLF.out.after hb10)
  rw [show decide (([0, 1] : List Int) = [0, 1]) = true from rfl]
  clear hbF c01 hb10
  go_wp2_with fail
  go_ret
  exact ⟨rfl, HLG.out.below⟩
end Go.Proofs.YtpajpdjjpgbklaaDoor

namespace Go.Proofs.YtpajpdjjpgbklaaDoor
open Go.RowKit
attribute [local go_sem] Oper.semAt_some
/-- built's answer, whatever it is. -/
def BuiltG (W : World) (e : Ending) (w' : World) : Prop := ∃ v q b, e = .returned (.tuple #[v, q, .bool b]) ∧ Below W.heap.size W w'
theorem built_flatD (W : World) (E : Env W) (k : Cs) (hk : k.At W W.heap.size) : Calls Tryd.prog 8 #[k.agg] W (BuiltG W) :=
  (built_any W E k hk).mono fun e w' ⟨hb, h⟩ => by
    rcases h with ⟨_, rfl⟩ | ⟨_, p, q, ls, rfl, _⟩
    · exact ⟨_, _, _, rfl, hb⟩
    · exact ⟨_, _, _, rfl, hb⟩
def Cs.cellsD (k : Cs) : Array Value := #[.int .i64 k.size, .slice k.A k.n k.c, .slice k.A' k.n' k.c', .int .u32 (k.last : Nat)]
theorem cellsD4 {w : World} {g : Nat} {t : TypeId} {a b c d : Value} (h : Blk w g t #[a, b, c, d]) : w.cell? ⟨g, 0, none⟩ = some a ∧ w.cell? ⟨g, 1, none⟩ = some b ∧ w.cell? ⟨g, 2, none⟩ = some c ∧ w.cell? ⟨g, 3, none⟩ = some d := ⟨h.cell 0, h.cell 1, h.cell 2, h.cell 3⟩
theorem diffV_short (g h : HM) (ser : Bool) (a b : List Nat) : (diffV g h ser a b).path.length ≤ 2097156 := by
  unfold diffV
  split
  · exact diffD_short a b
  · exact Nat.zero_le _
set_option maxRecDepth 100000 in
set_option maxHeartbeats 4000000 in
/-- The same difference twice. -/
theorem dsame_any {w : World} (d : Df) (A A' : Option Addr) (c c' : Nat) (hn : d.path.length ≤ 2097156) (hr : Reads w w.heap.size 1 A d.path.length (intZ d.path)) (hr' : Reads w w.heap.size 1 A' d.path.length (intZ d.path)) :
    Calls Tryd.prog 12 #[.agg #[.int .i64 d.kind, .slice A d.path.length c, .int .i64 d.at_], .agg #[.int .i64 d.kind, .slice A' d.path.length c', .int .i64 d.at_]] w (Told (.bool true) w) := by
  have hb := ((Below.refl w.heap.size w).alloc (Nat.le_refl _) (.cells #[.int .i64 d.kind, .slice A d.path.length c, .int .i64 d.at_] 35)).alloc (by simp) (.cells #[.int .i64 d.kind, .slice A' d.path.length c', .int .i64 d.at_] 35)
  have hi := ints_any A A' d.path.length d.path.length c c' d.path d.path (by omega) (by omega) ((hr.below hb).more hb.size) ((hr'.below hb).more hb.size)
  rw [show decide (d.path = d.path) = true by simp] at hi
  have HI := Lib.hid hi
  have HB := Lib.hid hb
  have e1 : ((d.kind : Int) == (d.kind : Int)) = true := by simp
  have e2 : ((d.at_ : Int) == (d.at_ : Int)) = true := by simp
  have BX := (Blk.new w 35 #[.int .i64 d.kind, .slice A d.path.length c, .int .i64 d.at_]).alloc (.cells #[.int .i64 d.kind, .slice A' d.path.length c', .int .i64 d.at_] 35)
  have BY := Blk.new (w.alloc (.cells #[.int .i64 d.kind, .slice A d.path.length c, .int .i64 d.at_] 35)) 35 #[.int .i64 d.kind, .slice A' d.path.length c', .int .i64 d.at_]
  rw [World.size_alloc] at BY
  obtain ⟨x0, x1, x2⟩ := BX.cells3
  obtain ⟨y0, y1, y2⟩ := BY.cells3
  clear hi hb hr hr' BX BY hn
  go_enter Tryd.func12, Tryd.ntmps12
  go_wp2_with fail
  refine HI.out.mono ?_
  rintro e w1 ⟨rfl, hb1⟩
  have HB1 := Lib.hid (HB.out.trans (hb1.mono HB.out.size))
  clear hb1 x0 x1 x2 y0 y1 y2
  go_wp2_with fail
  go_ret
  exact ⟨rfl, HB1.out⟩
set_option maxRecDepth 100000 in
set_option maxHeartbeats 8000000 in
theorem diffsL_any (W : World) (E : Env W) (k1 k2 : Cs) (h1 : k1.At W W.heap.size) (h2 : k2.At W W.heap.size) (ser : Bool) (A1 A2 : Option Addr) (n1 n2 c1 c2 : Nat) (a b : List Nat) (hn1 : n1 ≤ 9223372036854775807) (hn2 : n2 ≤ 9223372036854775807)
    (hra : Reads W W.heap.size 1 A1 n1 (u32s a)) (hrb : Reads W W.heap.size 1 A2 n2 (u32s b)) (ha32 : ∀ y ∈ a, y < 4294967296) (hb32 : ∀ y ∈ b, y < 4294967296) :
    Calls Tryd.prog 3 #[k1.agg, k2.agg, .bool ser, .slice A1 n1 c1, .slice A2 n2 c2] W (Told (.bool true) W) := by
  have hb1 := (Below.refl W.heap.size W).alloc (Nat.le_refl _) (.cells k1.cellsD 26)
  have hb2 := hb1.alloc (by simp) (.cells k2.cellsD 26)
  have B1 := (Blk.new W 26 k1.cellsD).alloc (.cells k2.cellsD 26)
  have B2 := Blk.new (W.alloc (.cells k1.cellsD 26)) 26 k2.cellsD
  rw [World.size_alloc] at B2
  have HB2 := Lib.hid hb2
  have HBX := Lib.hid (And.intro B1 B2)
  have HE := Lib.hid (E.below hb2)
  have HK := Lib.hid (And.intro (h1.below hb2) (h2.below hb2))
  have HX := Lib.hid (And.intro ((hra.below hb2).more hb2.size) (And.intro ((hrb.below hb2).more hb2.size) (And.intro ha32 (And.intro hb32 (And.intro hn1 hn2)))))
  clear hb1 hb2 B1 B2 E h1 h2 hra hrb ha32 hb32 hn1 hn2
  unfold Cs.cellsD at HB2 HBX HE HK HX
  have HAW := Lib.hid (fun (w : World) (E : Env w) => cawake_any w E)
  have HBU := Lib.hid (fun (w : World) (E : Env w) (k : Cs) (hk : k.At w w.heap.size) => built_any w E k hk)
  have HBF := Lib.hid (fun (w : World) (E : Env w) (k : Cs) (hk : k.At w w.heap.size) => built_flatD w E k hk)
  unfold Cs.agg at HBU HBF ⊢
  go_enter Tryd.func3, Tryd.ntmps3
  obtain ⟨x0, x1, x2, x3⟩ := cellsD4 HBX.out.1
  go_wp2_with fail
  generalize (W.alloc (.cells #[.int .i64 k1.size, .slice k1.A k1.n k1.c, .slice k1.A' k1.n' k1.c', .int .u32 (k1.last : Nat)] 26)).alloc (.cells #[.int .i64 k2.size, .slice k2.A k2.n k2.c, .slice k2.A' k2.n' k2.c', .int .u32 (k2.last : Nat)] 26) = W1 at *
  refine (HBU.out W1 HE.out k1 HK.out.1).mono ?_
  rintro e w1 ⟨hb1, ⟨hno, rfl⟩ | ⟨hok1, p1, q1, l1, rfl, A1', G1, R1⟩⟩
  · have HC1 := Lib.hid hb1
    clear hb1 x0 x1 x2 x3
    obtain ⟨y0, y1, y2, y3⟩ := cellsD4 (HBX.out.2.below HC1.out HBX.out.2.lt)
    go_wp2_with fail
    refine (HBF.out _ (HE.out.below HC1.out) k2 (HK.out.2.below HC1.out)).mono ?_
    rintro e w2 ⟨vw2, qw2, bw2, rfl, hbw2⟩
    have HC2 := Lib.hid (below_top HC1.out hbw2)
    clear hbw2 y0 y1 y2 y3
    go_wp2_with fail
    refine (HAW.out _ (HE.out.below HC2.out)).mono ?_
    rintro e wa ⟨rfl, hba⟩
    have HBA := Lib.hid (below_top HC2.out hba)
    clear hba
    go_wp2_with fail
    go_ret
    exact ⟨rfl, HB2.out.trans (HBA.out.mono HB2.out.size)⟩
  · have HC1 := Lib.hid hb1
    have HA1 := Lib.hid A1'
    have HG1 := Lib.hid G1
    have HR1 := Lib.hid R1
    clear hb1 A1' G1 R1 x0 x1 x2 x3
    obtain ⟨y0, y1, y2, y3⟩ := cellsD4 (HBX.out.2.below HC1.out HBX.out.2.lt)
    unfold ptr
    go_wp2_with fail
    refine (HBU.out w1 (HE.out.below HC1.out) k2 (HK.out.2.below HC1.out)).mono ?_
    rintro e w2 ⟨hb2, ⟨hno, rfl⟩ | ⟨hok2, p2, q2, l2, rfl, A2', G2, R2⟩⟩
    · have HC2 := Lib.hid (below_top HC1.out hb2)
      clear hb2 y0 y1 y2 y3
      go_wp2_with fail
      refine (HAW.out _ (HE.out.below HC2.out)).mono ?_
      rintro e wa ⟨rfl, hba⟩
      have HBA := Lib.hid (below_top HC2.out hba)
      clear hba
      go_wp2_with fail
      go_ret
      exact ⟨rfl, HB2.out.trans (HBA.out.mono HB2.out.size)⟩
    · have HC2 := Lib.hid (below_top HC1.out hb2)
      have HA12 := Lib.hid (HA1.out.below hb2)
      have HR12 := Lib.hid (HR1.out.below hb2)
      have HA2 := Lib.hid A2'
      have HG2 := Lib.hid G2
      have HR2 := Lib.hid R2
      clear hb2 y0 y1 y2 y3 A2' G2 R2 HA1 HR1
      unfold ptr
      go_wp2_with fail
      refine (HAW.out _ (HE.out.below HC2.out)).mono ?_
      rintro e wa ⟨rfl, hba⟩
      have HCA := Lib.hid (below_top HC2.out hba)
      have HDF := Lib.hid (diff_any (HA12.out.below hba) HG1.out (HA2.out.below hba) HG2.out (HE.out.below HCA.out).spares ser A1 A2 n1 n2 c1 c2 a b HX.out.2.2.2.2.1 HX.out.2.2.2.2.2 ((HX.out.1.below HCA.out).more HCA.out.size) ((HX.out.2.1.below HCA.out).more HCA.out.size) HX.out.2.2.1 HX.out.2.2.2.1)
      have HA13 := Lib.hid (HA12.out.below hba)
      have HA23 := Lib.hid (HA2.out.below hba)
      have HR13 := Lib.hid (HR12.out.below hba)
      have HR23 := Lib.hid (HR2.out.below hba)
      have hsh := diffV_short k1.h k2.h ser a b
      have HSB := Lib.hid (show sameB k1.h k2.h ser a b = decide (diffE k1.h k2.h a b = 0 ∧ (diffV k1.h k2.h ser a b).kind = 0) from rfl)
      have HRD := Lib.hid (fun (w' : World) (hb : Below wa.heap.size wa w') => rdiff_any (HR13.out.below hb) HG1.out (HR23.out.below hb) HG2.out ser A1 A2 n1 n2 c1 c2 a b HX.out.2.2.2.2.1 HX.out.2.2.2.2.2 ((HX.out.1.below (below_top HCA.out hb)).more (below_top HCA.out hb).size) ((HX.out.2.1.below (below_top HCA.out hb)).more (below_top HCA.out hb).size) HX.out.2.2.1 HX.out.2.2.2.1)
      have HSM := Lib.hid (fun (w' : World) (hb : Below wa.heap.size wa w') => csame_any (c1 := c1) (c2 := c2) (HA13.out.below hb) HG1.out (HA23.out.below hb) HG2.out (HE.out.below (below_top HCA.out hb)).spares ser A1 A2 n1 n2 a b HX.out.2.2.2.2.1 HX.out.2.2.2.2.2 ((HX.out.1.below (below_top HCA.out hb)).more (below_top HCA.out hb).size) ((HX.out.2.1.below (below_top HCA.out hb)).more (below_top HCA.out hb).size) HX.out.2.2.1 HX.out.2.2.2.1)
      unfold ptr at HDF HRD HSM
      rw [HSB.out] at HSM
      unfold DiffP at HDF HRD
      clear hba HA12 HA2 HR12 HR2
      generalize diffV k1.h k2.h ser a b = d at *
      generalize diffE k1.h k2.h a b = E at *
      go_wp2_with fail
      refine HDF.out.mono ?_
      rintro e w3 ⟨hb3, Ap, cp, rfl, hrp, -⟩
      have BD3 := Lib.hid (Blk.new w3 35 #[.int .i64 d.kind, .slice Ap d.path.length cp, .int .i64 d.at_])
      have hb3' := hb3.alloc hb3.size (.cells #[.int .i64 d.kind, .slice Ap d.path.length cp, .int .i64 d.at_] 35)
      have HB3 := Lib.hid hb3'
      have HRP := Lib.hid ((hrp.alloc (Nat.le_refl _) (.cells #[.int .i64 d.kind, .slice Ap d.path.length cp, .int .i64 d.at_] 35)).more (show w3.heap.size ≤ (w3.alloc (.cells #[.int .i64 d.kind, .slice Ap d.path.length cp, .int .i64 d.at_] 35)).heap.size by simp))
      clear hb3 hrp hb3' HDF
      go_wp2_with fail
      generalize w3.heap.size = gP at *
      generalize w3.alloc (.cells #[.int .i64 d.kind, .slice Ap d.path.length cp, .int .i64 d.at_] 35) = w4 at *
      refine (HRD.out _ HB3.out).mono ?_
      rintro e w5 ⟨hb5, Aq, cq, rfl, hrq, -⟩
      have BD5 := Lib.hid ((BD3.out.below hb5 BD3.out.lt).alloc (.cells #[.int .i64 d.kind, .slice Aq d.path.length cq, .int .i64 d.at_] 35))
      have BE5 := Lib.hid (Blk.new w5 35 #[.int .i64 d.kind, .slice Aq d.path.length cq, .int .i64 d.at_])
      have hb5' := hb5.alloc hb5.size (.cells #[.int .i64 d.kind, .slice Aq d.path.length cq, .int .i64 d.at_] 35)
      have HRP5 := Lib.hid ((HRP.out.below hb5').more hb5'.size)
      have HRQ5 := Lib.hid ((hrq.alloc (Nat.le_refl _) (.cells #[.int .i64 d.kind, .slice Aq d.path.length cq, .int .i64 d.at_] 35)).more (show w5.heap.size ≤ (w5.alloc (.cells #[.int .i64 d.kind, .slice Aq d.path.length cq, .int .i64 d.at_] 35)).heap.size by simp))
      have HB5 := Lib.hid (below_top HB3.out hb5')
      clear hb5 hrq hb5' HRD HRP
      go_upto_region 7 with fail
      generalize w5.heap.size = gQ at *
      generalize w5.alloc (.cells #[.int .i64 d.kind, .slice Aq d.path.length cq, .int .i64 d.at_] 35) = w6 at *
      obtain ⟨p0, p1, p2⟩ := BD5.out.cells3
      obtain ⟨q0, q1, q2⟩ := BE5.out.cells3
      have HSS := Lib.hid (dsame_any d Ap Aq cp cq hsh HRP5.out HRQ5.out)
      have eE : ((E : Int) == (E : Int)) = true := by simp
      have HFIN := Lib.hid (fun (w' : World) (hb : Below w6.heap.size w6 w') => show Told (.bool true) W (.returned (.bool true)) w' from ⟨rfl, HB2.out.trans ((below_top (below_top HCA.out HB5.out) hb).mono HB2.out.size)⟩)
      clear hsh
      by_cases h0 : E = 0
      · subst h0
        by_cases h1 : d.kind = 0
        · rw [show decide ((0 : Nat) = 0 ∧ d.kind = 0) = true by simp [h1]] at HSM
          have e1 : ((d.kind : Int) == 0) = true := by rw [h1]; rfl
          clear h1
          go_wp2_with fail
          refine HSS.out.mono ?_
          rintro e w7 ⟨rfl, hb7⟩
          have BE7 := BE5.out.below hb7 BE5.out.lt
          have r0 := BE7.cell 0
          have HB7 := Lib.hid hb7
          clear hb7 BE7 p0 p1 p2 q0 q1 q2
          go_wp2_with fail
          refine (HSM.out _ (below_top HB5.out HB7.out)).mono ?_
          rintro e w8 ⟨rfl, hb8⟩
          have HB8 := Lib.hid (below_top HB7.out hb8)
          have s0 := (hb8.cell (p := ⟨gQ, 0, none⟩) (World.block_lt_of_cell? _ _ r0)).trans r0
          clear hb8 r0
          go_wp2_with fail
          go_ret
          exact HFIN.out _ HB8.out
        · rw [show decide ((0 : Nat) = 0 ∧ d.kind = 0) = false by simp [h1]] at HSM
          have e1 : ((d.kind : Int) == 0) = false := by simp; omega
          clear h1
          go_wp2_with fail
          refine HSS.out.mono ?_
          rintro e w7 ⟨rfl, hb7⟩
          have BE7 := BE5.out.below hb7 BE5.out.lt
          have r0 := BE7.cell 0
          have HB7 := Lib.hid hb7
          clear hb7 BE7 p0 p1 p2 q0 q1 q2
          go_wp2_with fail
          refine (HSM.out _ (below_top HB5.out HB7.out)).mono ?_
          rintro e w8 ⟨rfl, hb8⟩
          have HB8 := Lib.hid (below_top HB7.out hb8)
          have s0 := (hb8.cell (p := ⟨gQ, 0, none⟩) (World.block_lt_of_cell? _ _ r0)).trans r0
          clear hb8 r0
          go_wp2_with fail
          go_ret
          exact HFIN.out _ HB8.out
      · rw [show decide (E = 0 ∧ d.kind = 0) = false by simp [h0]] at HSM
        have e0 : ((E : Int) == 0) = false := by simp; omega
        clear h0
        go_wp2_with fail
        refine HSS.out.mono ?_
        rintro e w7 ⟨rfl, hb7⟩
        have BE7 := BE5.out.below hb7 BE5.out.lt
        have r0 := BE7.cell 0
        have HB7 := Lib.hid hb7
        clear hb7 BE7 p0 p1 p2 q0 q1 q2
        go_wp2_with fail
        refine (HSM.out _ (below_top HB5.out HB7.out)).mono ?_
        rintro e w8 ⟨rfl, hb8⟩
        have HB8 := Lib.hid (below_top HB7.out hb8)
        have s0 := (hb8.cell (p := ⟨gQ, 0, none⟩) (World.block_lt_of_cell? _ _ r0)).trans r0
        clear hb8 r0
        go_wp2_with fail
        go_ret
        exact HFIN.out _ HB8.out
theorem diffsC_any (W : World) (E : Env W) (k0 : Cs) (hk0 : k0.At W W.heap.size) (k1 : Cs) (hk1 : k1.At W W.heap.size) (b2 : Bool) (A3 : Option Addr) (nd3 c3 : Nat) (l3 : List Nat) (hnd3 : nd3 ≤ 9223372036854775807) (hr3 : Reads W W.heap.size 1 A3 nd3 (u32s l3)) (hb3 : ∀ y ∈ l3, y < 4294967296) {P3 : Prop} (_ : P3)
    (A4 : Option Addr) (nd4 c4 : Nat) (l4 : List Nat) (hnd4 : nd4 ≤ 9223372036854775807) (hr4 : Reads W W.heap.size 1 A4 nd4 (u32s l4)) (hb4 : ∀ y ∈ l4, y < 4294967296) {P4 : Prop} (_ : P4) :
    Calls Tryd.prog 3 #[k0.agg, k1.agg, .bool b2, .slice A3 nd3 c3, .slice A4 nd4 c4] W (Told (.bool true) W) :=
  diffsL_any W E k0 k1 hk0 hk1 b2 A3 A4 nd3 nd4 c3 c4 l3 l4 hnd3 hnd4 hr3 hr4 hb3 hb4
end Go.Proofs.YtpajpdjjpgbklaaDoor
