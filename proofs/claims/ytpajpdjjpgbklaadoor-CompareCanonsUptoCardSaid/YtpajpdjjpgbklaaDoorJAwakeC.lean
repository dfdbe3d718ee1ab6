/- compare's awake: chapter 23's first two examples hold; ints. -/
import Derived.Test.YtpajpdjjpgbklaaDoorJDiffW
import Derived.Test.YtpajpdjjpgbklaaDoorJLive
import Derived.Lib.SlBytesConst
import Derived.Deep.QuietTactic
import Derived.BigQuiet
set_option linter.unusedVariables false
set_option linter.unusedSimpArgs false
namespace Go.Proofs.YtpajpdjjpgbklaaDoor
open Go.RowKit

def ca0 : HM := HM.new 64
def ca1 : HM := ca0.AllocH 0 1 2
def ca2 : HM := ca1.AllocH 0 1 2
def ca3 : HM := ca2.putH 2 0 2
def ca4 : HM := ca3.putH 2 1 7
def ca5 : HM := ca4.putH 12 0 12
def ca6 : HM := ca5.putH 12 1 9
theorem ca_f1 : ca0.AllocO 0 1 2 = 2 ∧ ca0.AllocE 0 1 2 = 0 := by decide +kernel
theorem ca_f2 : ca1.AllocO 0 1 2 = 12 ∧ ca1.AllocE 0 1 2 = 0 := by decide +kernel
theorem ca_f3 : ca2.putE 2 0 2 = 0 := by decide +kernel
theorem ca_f4 : ca3.putE 2 1 7 = 0 := by decide +kernel
theorem ca_f5 : ca4.putE 12 0 12 = 0 := by decide +kernel
theorem ca_f6 : ca5.putE 12 1 9 = 0 := by decide +kernel
theorem ca_fits : ca6.fitsB [2] = true ∧ ca6.fitsB [12] = true := by decide +kernel
theorem ca_seen : seenM ca6.nmN ca6.nmAt [2] = some [⟨2, -1, 0, 1⟩] := by kernel_rfl
theorem ca_seen2 : seenM ca6.nmN ca6.nmAt [12] = some [⟨12, -1, 0, 1⟩] := by kernel_rfl
theorem ca_diff : diffD ca6.nmN ca6.nmAt ca6.nmAt (ca6.odM ca6 false) [2] [12] = ⟨2, [0, 1], 0⟩ := by kernel_rfl
theorem ca_canon : canonM ca6 false [2] [⟨2, -1, 0, 1⟩] = [2, 1, 0, 2, 0, 2, 13] := by
  have e1 : (ca6.hd (2 / 2)) = ⟨2, 1, 0, 0, 1⟩ := by kernel_rfl
  have e2 : ca6.nmN 2 = 3 := by decide +kernel
  have r0 : refM [⟨2, -1, 0, 1⟩] (ca6.nmAt 2 0) = 0 := by decide +kernel
  have r1 : refM [⟨2, -1, 0, 1⟩] (ca6.nmAt 2 1) = 2 := by decide +kernel
  have r2 : refM [⟨2, -1, 0, 1⟩] (ca6.nmAt 2 2) = 13 := by decide +kernel
  have r3 : refM [⟨2, -1, 0, 1⟩] (id 2) = 2 := by decide +kernel
  unfold canonM refsB HM.objC HM.headB HM.contB HM.serB refsB
  simp only [oopsOf, List.map_cons, List.map_nil, List.flatMap_cons, List.flatMap_nil, e1, e2, r3, List.range_succ, List.range_zero, List.flatMap_append, List.nil_append, r0, r1, r2, cnt7_small (show 2 < 128 by omega), cnt7_small (show 0 < 128 by omega), cnt7_small (show 13 < 128 by omega)]
  rfl
theorem ca_diffE : diffE ca6 ca6 [2] [12] = 0 := by
  unfold diffE HM.seenE
  rw [if_pos ca_fits, ca_seen, ca_seen2]
  rfl
theorem ca_diffV : diffV ca6 ca6 false [2] [12] = ⟨2, [0, 1], 0⟩ := by unfold diffV; rw [if_pos ca_diffE]; exact ca_diff
theorem eq_of_getD {xs ys : List Int} (hl : xs.length = ys.length) (h : ∀ j, j < xs.length → xs.getD j 0 = ys.getD j 0) : xs = ys := by
  apply List.ext_getElem hl
  intro j h1 h2
  have := h j h1
  rw [List.getD_eq_getElem?_getD, List.getD_eq_getElem?_getD, List.getElem?_eq_getElem h1, List.getElem?_eq_getElem h2] at this
  simpa using this
set_option maxRecDepth 100000 in
set_option maxHeartbeats 2000000 in
theorem ints_any {w : World} (A A' : Option Addr) (n m c c' : Nat) (xs ys : List Int) (hn : n ≤ 140737488351232) (hm : m ≤ 140737488351232) (hr : Reads w w.heap.size 1 A n (intZ xs)) (hr' : Reads w w.heap.size 1 A' m (intZ ys)) :
    Calls Tryd.prog 16 #[.slice A n c, .slice A' m c'] w (Told (.bool (decide (xs = ys))) w) := by
  have hl : xs.length = n := by have := hr.1; rw [intZ_len] at this; omega
  have hl' : ys.length = m := by have := hr'.1; rw [intZ_len] at this; omega
  have HL := Lib.hid hl; have HL' := Lib.hid hl'; have HR := Lib.hid hr; have HR' := Lib.hid hr'
  clear hl hl' hr hr'
  by_cases hnm : n = m
  · subst hnm
    have en : ((n : Int) != (n : Int)) = false := by simp
    go_enter Tryd.func16, Tryd.ntmps16
    go_wp2_with fail
    go_loopw [5] (fun iv wr => ∃ k : Nat, k ≤ n ∧ iv = .int .i64 k ∧ (∀ j, j < k → xs.getD j 0 = ys.getD j 0) ∧ Below w.heap.size w wr) (fun iv _ => n - (intOf iv).toNat)
    case atStart => exact ⟨0, by omega, rfl, fun j hj => by omega, Below.refl _ _⟩
    case round =>
      obtain ⟨k, hk, rfl, hno, hb⟩ := hrel
      have HNO := Lib.hid hno
      have HB := Lib.hid hb
      clear hno hb
      by_cases hlt : k < n
      · obtain ⟨ad1, u1, rfl, _, hx1, kc1⟩ := (HR.out.below HB.out).at_ hlt
        obtain ⟨ad2, u2, rfl, _, hx2, kc2⟩ := (HR'.out.below HB.out).at_ hlt
        rw [intZ_get (by rw [HL.out]; exact hlt)] at hx1
        rw [intZ_get (by rw [HL'.out]; exact hlt)] at hx2
        injection hx1 with hx1
        injection hx2 with hx2
        subst hx1
        subst hx2
        by_cases heq : xs.getD k 0 = ys.getD k 0
        · have e5 : ((xs.getD k 0) != (ys.getD k 0)) = false := by rw [heq]; simp
          have HEQ := Lib.hid heq
          clear heq
          generalize hv1 : xs.getD k 0 = y1 at *
          generalize hv2 : ys.getD k 0 = y2 at *
          have HV1 := Lib.hid hv1
          have HV2 := Lib.hid hv2
          clear hv1 hv2
          go_wp2_with fail
          go_quiet (fail)
          go_wp2_with fail
          go_roundw
          case rel =>
            refine ⟨k + 1, by omega, by go_num, fun j hj => ?_, below_drewN HB.out _⟩
            rcases Nat.lt_or_ge j k with h1 | h1
            · exact HNO.out j h1
            · obtain rfl : j = k := by omega
              rw [HV1.out, HV2.out, HEQ.out]
          case measure => simp [intOf]; omega
        · have e5 : ((xs.getD k 0) != (ys.getD k 0)) = true := by simpa using heq
          have HFD := Lib.hid (show decide (xs = ys) = false from decide_eq_false fun e => heq (by rw [e]))
          rw [HFD.out]
          clear heq
          generalize xs.getD k 0 = y1 at *
          generalize ys.getD k 0 = y2 at *
          go_wp2_with fail
          go_quiet (fail)
          have HBQ := Lib.hid (below_drewN HB.out nq)
          clear kc1 kc2 HB
          generalize wr.drewN nq = w7 at *
          go_wp2_with fail
          go_ret
          exact ⟨rfl, HBQ.out⟩
      · obtain rfl : k = n := by omega
        have HFN := Lib.hid (show decide (xs = ys) = true from decide_eq_true (eq_of_getD (by rw [HL.out, HL'.out]) (fun j hj => HNO.out j (by rw [HL.out] at hj; exact hj))))
        go_wp2_with fail
        go_ret
        exact ⟨by rw [HFN.out]; rfl, HB.out⟩
  · have en : ((n : Int) != (m : Int)) = true := by simp; omega
    have HFD := Lib.hid (show decide (xs = ys) = false from decide_eq_false fun e => hnm (by rw [← HL.out, ← HL'.out, e]))
    rw [HFD.out]
    clear hnm
    go_enter Tryd.func16, Tryd.ntmps16
    go_wp2_with fail
    go_ret
    exact ⟨rfl, Below.refl _ _⟩
set_option maxRecDepth 100000 in
set_option maxHeartbeats 4000000 in
theorem cawake_any (W : World) (E : Env W) : Calls Tryd.prog 9 #[] W (Told (.bool true) W) := by
  have HE := Lib.hid E; clear E
  go_enter Tryd.func9, Tryd.ntmps9
  go_wp2_with fail
  refine (new_any 64 (by decide) (by decide) _).mono ?_
  rintro e w1 hN
  obtain ⟨p, g, rfl, L0⟩ := Live.of_new (v := fun g => .tuple #[ptr g, .int .i64 0]) HE.out (by decide) (by decide) hN
  replace L0 : Live W w1 p g ca0 := L0
  clear hN
  unfold ptr
  go_wp2_with fail
  refine (L0.alloc 0 (by decide) 1 2).mono ?_
  rintro e w2 ⟨p1, rfl, L1, -⟩
  rw [ca_f1.1, ca_f1.2]
  replace L1 : Live W w2 p1 g ca1 := L1
  go_wp2_with fail
  refine (L1.alloc 0 (by decide) 1 2).mono ?_
  rintro e w3 ⟨p2, rfl, L2, -⟩
  rw [ca_f2.1, ca_f2.2]
  replace L2 : Live W w3 p2 g ca2 := L2
  go_wp2_with fail
  refine (L2.put 2 (by decide) 0 2 (by decide)).mono ?_
  rintro e w4 ⟨p3, rfl, L3, -⟩
  rw [ca_f3]
  replace L3 : Live W w4 p3 g ca3 := L3
  go_wp2_with fail
  refine (L3.put 2 (by decide) 1 7 (by decide)).mono ?_
  rintro e w5 ⟨p4, rfl, L4, -⟩
  rw [ca_f4]
  replace L4 : Live W w5 p4 g ca4 := L4
  go_wp2_with fail
  refine (L4.put 12 (by decide) 0 12 (by decide)).mono ?_
  rintro e w6 ⟨p5, rfl, L5, -⟩
  rw [ca_f5]
  replace L5 : Live W w6 p5 g ca5 := L5
  go_wp2_with fail
  refine (L5.put 12 (by decide) 1 9 (by decide)).mono ?_
  rintro e w7 ⟨p6, rfl, L6, -⟩
  rw [ca_f6]
  replace L6 : Live W w7 p6 g ca6 := L6
  clear L0 L1 L2 L3 L4 L5
  obtain ⟨ls, G6⟩ := L6.good
  have hg6 := L6.hg
  subst hg6
  have HG6 := Lib.hid G6
  go_wp2_with fail
  have La := L6.after ((Below.refl _ w7).alloc (Nat.le_refl _) (.cells #[.int .u32 2] 50))
  refine (canon_any La.at_ G6 G6.laid.heads La.envw.spares false (some ⟨w7.heap.size, 0, none⟩) 1 1 [2] (by decide) ⟨rfl, fun _ => ⟨_, rfl, by simp, cell_one_new _ _ _⟩⟩ (by decide)).mono ?_
  rintro e w8 ⟨hb8, ⟨h1, -⟩ | ⟨-, h1, -⟩ | ⟨-, l, v, h1, -, rfl, hown⟩⟩
  · rw [ca_fits.1] at h1; cases h1
  · rw [ca_seen] at h1; cases h1
  rw [ca_seen] at h1
  injection h1 with h1
  subst h1
  rw [ca_canon] at hown
  have HL8 := Lib.hid (La.after hb8)
  have HO8 := Lib.hid hown
  clear La hb8 hown L6
  go_wp2_with fail
  have hba := (Below.refl w8.heap.size w8).alloc (Nat.le_refl _) (.cells #[.int .u32 2] 50)
  have hbb := hba.alloc (by simp) (.cells #[.int .u32 12] 50)
  have Lb := HL8.out.after hbb
  have c2 := (Blk.new w8 50 #[.int .u32 2]).alloc (.cells #[.int .u32 12] 50)
  have c12 := Blk.new (w8.alloc (.cells #[.int .u32 2] 50)) 50 #[.int .u32 12]
  rw [World.size_alloc] at c12
  refine (diff_any Lb.at_ G6 Lb.at_ G6 Lb.envw.spares false (some ⟨w8.heap.size, 0, none⟩) (some ⟨w8.heap.size + 1, 0, none⟩) 1 1 1 1 [2] [12] (by decide) (by decide) (row_one' c2 (by simp; omega)) (row_one' c12 (by simp)) (by decide) (by decide)).mono ?_
  rintro e w9 ⟨hb9, A9, c9, rfl, hrd9, -⟩
  rw [ca_diffV] at hrd9 ⊢
  rw [ca_diffE]
  replace hrd9 : Reads w9 w9.heap.size 1 A9 2 (intZ [0, 1]) := hrd9
  have HR9 := Lib.hid hrd9
  have HL9 := Lib.hid (Lb.after hb9)
  have hbD := (below_top hbb hb9).alloc (below_top hbb hb9).size (.cells #[.int .i64 2, .slice A9 2 c9, .int .i64 0] 35)
  have kcv := conv_own (own_same HO8.out (fun k hk => hbD.block k (HO8.out.lt k hk).2))
  rw [show strN [2, 1, 0, 2, 0, 2, 13] = ⟨#[2, 1, 0, 2, 0, 2, 13]⟩ by decide +kernel] at kcv
  have kcl := conv_own (w := (w9.alloc (.cells #[.int .i64 2, .slice A9 2 c9, .int .i64 0] 35)).alloc (.cells #[.int .u8 2, .int .u8 1, .int .u8 0, .int .u8 2, .int .u8 0, .int .u8 2, .int .u8 13] 5)) (base := 0) (n := 7) (v := .slice (some ⟨w9.heap.size + 1, 0, none⟩) 7 7) (xs := [2, 1, 0, 2, 0, 2, 13])
    ⟨rfl, .inr ⟨w9.heap.size + 1, 7, _, rfl, Nat.zero_le _, (by have h := heap_alloc_new (w9.alloc (.cells #[.int .i64 2, .slice A9 2 c9, .int .i64 0] 35)) (.cells #[.int .u8 2, .int .u8 1, .int .u8 0, .int .u8 2, .int .u8 0, .int .u8 2, .int .u8 13] 5); rw [World.size_alloc] at h; exact h), by simp [u8c], by simp [maxLen], rfl, rfl⟩⟩
  rw [show strN [2, 1, 0, 2, 0, 2, 13] = ⟨#[2, 1, 0, 2, 0, 2, 13]⟩ by decide +kernel] at kcl
  have BD := Blk.new w9 35 #[.int .i64 2, .slice A9 2 c9, .int .i64 0]
  have HBD := Lib.hid BD
  have hbE := ((Below.refl w9.heap.size w9).alloc (Nat.le_refl _) (.cells #[.int .i64 2, .slice A9 2 c9, .int .i64 0] 35)).alloc (by simp) (.cells #[.int .u8 2, .int .u8 1, .int .u8 0, .int .u8 2, .int .u8 0, .int .u8 2, .int .u8 13] 5)
  have HBE := Lib.hid hbE
  have d0 := (BD.alloc (.cells #[.int .u8 2, .int .u8 1, .int .u8 0, .int .u8 2, .int .u8 0, .int .u8 2, .int .u8 13] 5)).cell 0
  have d1 := (BD.alloc (.cells #[.int .u8 2, .int .u8 1, .int .u8 0, .int .u8 2, .int .u8 0, .int .u8 2, .int .u8 13] 5)).cell 1
  clear hba hbb Lb c2 c12 hb9 hrd9 hbD BD HL8 hbE
  go_wp2_with fail
  have hbF := HBE.out.alloc (by simp; omega) (.cells #[.int .i64 0, .int .i64 1] 3)
  have c01 := Blk.new ((w9.alloc (.cells #[.int .i64 2, .slice A9 2 c9, .int .i64 0] 35)).alloc (.cells #[.int .u8 2, .int .u8 1, .int .u8 0, .int .u8 2, .int .u8 0, .int .u8 2, .int .u8 13] 5)) 3 #[.int .i64 0, .int .i64 1]
  rw [World.size_alloc, World.size_alloc] at c01
  have HBF := Lib.hid hbF
  have HLF := Lib.hid (HL9.out.after hbF)
  refine (ints_any A9 (some ⟨w9.heap.size + 1 + 1, 0, none⟩) 2 2 c9 2 [0, 1] [0, 1] (by decide) (by decide) ((HR9.out.below hbF).more hbF.size) (row_two' c01 (by simp))).mono ?_
  rintro e w10 ⟨rfl, hb10⟩
  have HLG := Lib.hid (HLF.out.after hb10)
  rw [show decide (([0, 1] : List Int) = [0, 1]) = true from rfl]
  clear hbF c01 hb10
  go_wp2_with fail
  go_ret
  exact ⟨rfl, HLG.out.below⟩
end Go.Proofs.YtpajpdjjpgbklaaDoor
