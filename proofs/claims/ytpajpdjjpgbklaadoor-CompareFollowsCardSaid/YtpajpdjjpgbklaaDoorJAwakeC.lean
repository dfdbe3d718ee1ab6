/- compare's awake: chapter 23's first two examples hold; ints. -/
/- CompareFollows, walked: over no heap, and any way from any oop. -/
import Derived.Test.YtpajpdjjpgbklaaDoorJDiffW
import Derived.Test.YtpajpdjjpgbklaaDoorJLive
import Derived.Test.YtpajpdjjpgbklaaDoorJRefQ
import Derived.Test.YtpajpdjjpgbklaaDoorJWalkN
import Derived.Test.YtpajpdjjpgbklaaDoorJFollow
import Derived.Lib.SlBytesConst
import Derived.Deep.QuietTactic
import Derived.BigQuiet
set_option linter.unusedVariables false
set_option linter.unusedSimpArgs false
set_option linter.unusedSectionVars false
namespace Go.Proofs.YtpajpdjjpgbklaaDoor
open Go.RowKit

def ca0 : HM := HM.new 64
def ca1 : HM := ca0.AllocH 0 1 2
def ca2 : HM := ca1.AllocH 0 1 2
def ca3 : HM := ca2.putH 2 0 2
def ca4 : HM := ca3.putH 2 1 7
def ca5 : HM := ca4.putH 12 0 12
def ca6 : HM := ca5.putH 12 1 9
theorem ca_f1 : ca0.AllocO 0 1 2 = 2 ∧ ca0.AllocE 0 1 2 = 0 := by decide +kernel
theorem ca_f2 : ca1.AllocO 0 1 2 = 12 ∧ ca1.AllocE 0 1 2 = 0 := by decide +kernel
theorem ca_f3 : ca2.putE 2 0 2 = 0 := by decide +kernel
theorem ca_f4 : ca3.putE 2 1 7 = 0 := by decide +kernel
theorem ca_f5 : ca4.putE 12 0 12 = 0 := by decide +kernel
theorem ca_f6 : ca5.putE 12 1 9 = 0 := by decide +kernel
theorem ca_fits : ca6.fitsB [2] = true ∧ ca6.fitsB [12] = true := by decide +kernel
theorem ca_seen : seenM ca6.nmN ca6.nmAt [2] = some [⟨2, -1, 0, 1⟩] := by kernel_rfl
theorem ca_seen2 : seenM ca6.nmN ca6.nmAt [12] = some [⟨12, -1, 0, 1⟩] := by kernel_rfl
theorem ca_diff : diffD ca6.nmN ca6.nmAt ca6.nmAt (ca6.odM ca6 false) [2] [12] = ⟨2, [0, 1], 0⟩ := by kernel_rfl
theorem ca_canon : canonM ca6 false [2] [⟨2, -1, 0, 1⟩] = [2, 1, 0, 2, 0, 2, 13] := by
  have e1 : (ca6.hd (2 / 2)) = ⟨2, 1, 0, 0, 1⟩ := by kernel_rfl
  have e2 : ca6.nmN 2 = 3 := by decide +kernel
  have r0 : refM [⟨2, -1, 0, 1⟩] (ca6.nmAt 2 0) = 0 := by decide +kernel
  have r1 : refM [⟨2, -1, 0, 1⟩] (ca6.nmAt 2 1) = 2 := by decide +kernel
  have r2 : refM [⟨2, -1, 0, 1⟩] (ca6.nmAt 2 2) = 13 := by decide +kernel
  have r3 : refM [⟨2, -1, 0, 1⟩] (id 2) = 2 := by decide +kernel
  unfold canonM refsB HM.objC HM.headB HM.contB HM.serB refsB
  simp only [oopsOf, List.map_cons, List.map_nil, List.flatMap_cons, List.flatMap_nil, e1, e2, r3, List.range_succ, List.range_zero, List.flatMap_append, List.nil_append, r0, r1, r2, cnt7_small (show 2 < 128 by omega), cnt7_small (show 0 < 128 by omega), cnt7_small (show 13 < 128 by omega)]
  rfl
theorem ca_diffE : diffE ca6 ca6 [2] [12] = 0 := by
  unfold diffE HM.seenE
  rw [if_pos ca_fits, ca_seen, ca_seen2]
  rfl
theorem ca_diffV : diffV ca6 ca6 false [2] [12] = ⟨2, [0, 1], 0⟩ := by unfold diffV; rw [if_pos ca_diffE]; exact ca_diff
theorem eq_of_getD {xs ys : List Int} (hl : xs.length = ys.length) (h : ∀ j, j < xs.length → xs.getD j 0 = ys.getD j 0) : xs = ys := by
  apply List.ext_getElem hl
  intro j h1 h2
  have := h j h1
  rw [List.getD_eq_getElem?_getD, List.getD_eq_getElem?_getD, List.getElem?_eq_getElem h1, List.getElem?_eq_getElem h2] at this
  simpa using this
set_option maxRecDepth 100000 in
set_option maxHeartbeats 2000000 in
theorem ints_any {w : World} (A A' : Option Addr) (n m c c' : Nat) (xs ys : List Int) (hn : n ≤ 140737488351232) (hm : m ≤ 140737488351232) (hr : Reads w w.heap.size 1 A n (intZ xs)) (hr' : Reads w w.heap.size 1 A' m (intZ ys)) :
    Calls Tryd.prog 16 #[.slice A n c, .slice A' m c'] w (Told (.bool (decide (xs = ys))) w) := by
  have hl : xs.length = n := by have := hr.1; rw [intZ_len] at this; omega
  have hl' : ys.length = m := by have := hr'.1; rw [intZ_len] at this; omega
  have HL := Lib.hid hl; have HL' := Lib.hid hl'; have HR := Lib.hid hr; have HR' := Lib.hid hr'
  clear hl hl' hr hr'
  by_cases hnm : n = m
  · subst hnm
    have en : ((n : Int) != (n : Int)) = false := by simp
    go_enter Tryd.func16, Tryd.ntmps16
    go_wp2_with fail
    go_loopw [5] (fun iv wr => ∃ k : Nat, k ≤ n ∧ iv = .int .i64 k ∧ (∀ j, j < k → xs.getD j 0 = ys.getD j 0) ∧ Below w.heap.size w wr) (fun iv _ => n - (intOf iv).toNat)
    case atStart => exact ⟨0, by omega, rfl, fun j hj => by omega, Below.refl _ _⟩
    case round =>
      obtain ⟨k, hk, rfl, hno, hb⟩ := hrel
      have HNO := Lib.hid hno
      have HB := Lib.hid hb
      clear hno hb
      by_cases hlt : k < n
      · obtain ⟨ad1, u1, rfl, _, hx1, kc1⟩ := (HR.out.below HB.out).at_ hlt
        obtain ⟨ad2, u2, rfl, _, hx2, kc2⟩ := (HR'.out.below HB.out).at_ hlt
        rw [intZ_get (by rw [HL.out]; exact hlt)] at hx1
        rw [intZ_get (by rw [HL'.out]; exact hlt)] at hx2
        injection hx1 with hx1
        injection hx2 with hx2
        subst hx1
        subst hx2
        by_cases heq : xs.getD k 0 = ys.getD k 0
        · have e5 : ((xs.getD k 0) != (ys.getD k 0)) = false := by rw [heq]; simp
          have HEQ := Lib.hid heq
          clear heq
          generalize hv1 : xs.getD k 0 = y1 at *
          generalize hv2 : ys.getD k 0 = y2 at *
          have HV1 := Lib.hid hv1
          have HV2 := Lib.hid hv2
          clear hv1 hv2
          go_wp2_with fail
          go_quiet (fail)
          go_wp2_with fail
          go_roundw
          case rel =>
            refine ⟨k + 1, by omega, by go_num, fun j hj => ?_, below_drewN HB.out _⟩
            rcases Nat.lt_or_ge j k with h1 | h1
            · exact HNO.out j h1
            · obtain rfl : j = k := by omega
              rw [HV1.out, HV2.out, HEQ.out]
          case measure => simp [intOf]; omega
        · have e5 : ((xs.getD k 0) != (ys.getD k 0)) = true := by simpa using heq
          have HFD := Lib.hid (show decide (xs = ys) = false from decide_eq_false fun e => heq (by rw [e]))
          rw [HFD.out]
          clear heq
          generalize xs.getD k 0 = y1 at *
          generalize ys.getD k 0 = y2 at *
          go_wp2_with fail
          go_quiet (fail)
          have HBQ := Lib.hid (below_drewN HB.out nq)
          clear kc1 kc2 HB
          generalize wr.drewN nq = w7 at *
          go_wp2_with fail
          go_ret
          exact ⟨rfl, HBQ.out⟩
      · obtain rfl : k = n := by omega
        have HFN := Lib.hid (show decide (xs = ys) = true from decide_eq_true (eq_of_getD (by rw [HL.out, HL'.out]) (fun j hj => HNO.out j (by rw [HL.out] at hj; exact hj))))
        go_wp2_with fail
        go_ret
        exact ⟨by rw [HFN.out]; rfl, HB.out⟩
  · have en : ((n : Int) != (m : Int)) = true := by simp; omega
    have HFD := Lib.hid (show decide (xs = ys) = false from decide_eq_false fun e => hnm (by rw [← HL.out, ← HL'.out, e]))
    rw [HFD.out]
    clear hnm
    go_enter Tryd.func16, Tryd.ntmps16
    go_wp2_with fail
    go_ret
    exact ⟨rfl, Below.refl _ _⟩
set_option maxRecDepth 100000 in
set_option maxHeartbeats 4000000 in
theorem cawake_any (W : World) (E : Env W) : Calls Tryd.prog 9 #[] W (Told (.bool true) W) := by
  have HE := Lib.hid E; clear E
  go_enter Tryd.func9, Tryd.ntmps9
  go_wp2_with fail
  refine (new_any 64 (by decide) (by decide) _).mono ?_
  rintro e w1 hN
  obtain ⟨p, g, rfl, L0⟩ := Live.of_new (v := fun g => .tuple #[ptr g, .int .i64 0]) HE.out (by decide) (by decide) hN
  replace L0 : Live W w1 p g ca0 := L0
  clear hN
  unfold ptr
  go_wp2_with fail
  refine (L0.alloc 0 (by decide) 1 2).mono ?_
  rintro e w2 ⟨p1, rfl, L1, -⟩
  rw [ca_f1.1, ca_f1.2]
  replace L1 : Live W w2 p1 g ca1 := L1
  go_wp2_with fail
  refine (L1.alloc 0 (by decide) 1 2).mono ?_
  rintro e w3 ⟨p2, rfl, L2, -⟩
  rw [ca_f2.1, ca_f2.2]
  replace L2 : Live W w3 p2 g ca2 := L2
  go_wp2_with fail
  refine (L2.put 2 (by decide) 0 2 (by decide)).mono ?_
  rintro e w4 ⟨p3, rfl, L3, -⟩
  rw [ca_f3]
  replace L3 : Live W w4 p3 g ca3 := L3
  go_wp2_with fail
  refine (L3.put 2 (by decide) 1 7 (by decide)).mono ?_
  rintro e w5 ⟨p4, rfl, L4, -⟩
  rw [ca_f4]
  replace L4 : Live W w5 p4 g ca4 := L4
  go_wp2_with fail
  refine (L4.put 12 (by decide) 0 12 (by decide)).mono ?_
  rintro e w6 ⟨p5, rfl, L5, -⟩
  rw [ca_f5]
  replace L5 : Live W w6 p5 g ca5 := L5
  go_wp2_with fail
  refine (L5.put 12 (by decide) 1 9 (by decide)).mono ?_
  rintro e w7 ⟨p6, rfl, L6, -⟩
  rw [ca_f6]
  replace L6 : Live W w7 p6 g ca6 := L6
  clear L0 L1 L2 L3 L4 L5
  obtain ⟨ls, G6⟩ := L6.good
  have hg6 := L6.hg
  subst hg6
  have HG6 := Lib.hid G6
  go_wp2_with fail
  have La := L6.after ((Below.refl _ w7).alloc (Nat.le_refl _) (.cells #[.int .u32 2] 50))
  refine (canon_any La.at_ G6 G6.laid.heads La.envw.spares false (some ⟨w7.heap.size, 0, none⟩) 1 1 [2] (by decide) ⟨rfl, fun _ => ⟨_, rfl, by simp, cell_one_new _ _ _⟩⟩ (by decide)).mono ?_
  rintro e w8 ⟨hb8, ⟨h1, -⟩ | ⟨-, h1, -⟩ | ⟨-, l, v, h1, -, rfl, hown⟩⟩
  · rw [ca_fits.1] at h1; cases h1
  · rw [ca_seen] at h1; cases h1
  rw [ca_seen] at h1
  injection h1 with h1
  subst h1
  rw [ca_canon] at hown
  have HL8 := Lib.hid (La.after hb8)
  have HO8 := Lib.hid hown
  clear La hb8 hown L6
  go_wp2_with fail
  have hba := (Below.refl w8.heap.size w8).alloc (Nat.le_refl _) (.cells #[.int .u32 2] 50)
  have hbb := hba.alloc (by simp) (.cells #[.int .u32 12] 50)
  have Lb := HL8.out.after hbb
  have c2 := (Blk.new w8 50 #[.int .u32 2]).alloc (.cells #[.int .u32 12] 50)
  have c12 := Blk.new (w8.alloc (.cells #[.int .u32 2] 50)) 50 #[.int .u32 12]
  rw [World.size_alloc] at c12
  refine (diff_any Lb.at_ G6 Lb.at_ G6 Lb.envw.spares false (some ⟨w8.heap.size, 0, none⟩) (some ⟨w8.heap.size + 1, 0, none⟩) 1 1 1 1 [2] [12] (by decide) (by decide) (row_one' c2 (by simp; omega)) (row_one' c12 (by simp)) (by decide) (by decide)).mono ?_
  rintro e w9 ⟨hb9, A9, c9, rfl, hrd9, -⟩
  rw [ca_diffV] at hrd9 ⊢
  rw [ca_diffE]
  replace hrd9 : Reads w9 w9.heap.size 1 A9 2 (intZ [0, 1]) := hrd9
  have HR9 := Lib.hid hrd9
  have HL9 := Lib.hid (Lb.after hb9)
  have hbD := (below_top hbb hb9).alloc (below_top hbb hb9).size (.cells #[.int .i64 2, .slice A9 2 c9, .int .i64 0] 35)
  have kcv := conv_own (own_same HO8.out (fun k hk => hbD.block k (HO8.out.lt k hk).2))
  rw [show strN [2, 1, 0, 2, 0, 2, 13] = ⟨#[2, 1, 0, 2, 0, 2, 13]⟩ by decide +kernel] at kcv
  have kcl := conv_own (w := (w9.alloc (.cells #[.int .i64 2, .slice A9 2 c9, .int .i64 0] 35)).alloc (.cells #[.int .u8 2, .int .u8 1, .int .u8 0, .int .u8 2, .int .u8 0, .int .u8 2, .int .u8 13] 5)) (base := 0) (n := 7) (v := .slice (some ⟨w9.heap.size + 1, 0, none⟩) 7 7) (xs := [2, 1, 0, 2, 0, 2, 13])
    ⟨rfl, .inr ⟨w9.heap.size + 1, 7, _, rfl, Nat.zero_le _, (by have h := heap_alloc_new (w9.alloc (.cells #[.int .i64 2, .slice A9 2 c9, .int .i64 0] 35)) (.cells #[.int .u8 2, .int .u8 1, .int .u8 0, .int .u8 2, .int .u8 0, .int .u8 2, .int .u8 13] 5); rw [World.size_alloc] at h; exact h), by simp [u8c], by simp [maxLen], rfl, rfl⟩⟩
  rw [show strN [2, 1, 0, 2, 0, 2, 13] = ⟨#[2, 1, 0, 2, 0, 2, 13]⟩ by decide +kernel] at kcl
  have BD := Blk.new w9 35 #[.int .i64 2, .slice A9 2 c9, .int .i64 0]
  have HBD := Lib.hid BD
  have hbE := ((Below.refl w9.heap.size w9).alloc (Nat.le_refl _) (.cells #[.int .i64 2, .slice A9 2 c9, .int .i64 0] 35)).alloc (by simp) (.cells #[.int .u8 2, .int .u8 1, .int .u8 0, .int .u8 2, .int .u8 0, .int .u8 2, .int .u8 13] 5)
  have HBE := Lib.hid hbE
  have d0 := (BD.alloc (.cells #[.int .u8 2, .int .u8 1, .int .u8 0, .int .u8 2, .int .u8 0, .int .u8 2, .int .u8 13] 5)).cell 0
  have d1 := (BD.alloc (.cells #[.int .u8 2, .int .u8 1, .int .u8 0, .int .u8 2, .int .u8 0, .int .u8 2, .int .u8 13] 5)).cell 1
  clear hba hbb Lb c2 c12 hb9 hrd9 hbD BD HL8 hbE
  go_wp2_with fail
  have hbF := HBE.out.alloc (by simp; omega) (.cells #[.int .i64 0, .int .i64 1] 3)
  have c01 := Blk.new ((w9.alloc (.cells #[.int .i64 2, .slice A9 2 c9, .int .i64 0] 35)).alloc (.cells #[.int .u8 2, .int .u8 1, .int .u8 0, .int .u8 2, .int .u8 0, .int .u8 2, .int .u8 13] 5)) 3 #[.int .i64 0, .int .i64 1]
  rw [World.size_alloc, World.size_alloc] at c01
  have HBF := Lib.hid hbF
  have HLF := Lib.hid (HL9.out.after hbF)
  refine (ints_any A9 (some ⟨w9.heap.size + 1 + 1, 0, none⟩) 2 2 c9 2 [0, 1] [0, 1] (by decide) (by decide) ((HR9.out.below hbF).more hbF.size) (row_two' c01 (by simp))).mono ?_
  rintro e w10 ⟨rfl, hb10⟩
  have HLG := Lib.hid (HLF.out.after hb10)
  rw [show decide (([0, 1] : List Int) = [0, 1]) = true from rfl]
  clear hbF c01 hb10
  go_wp2_with fail
  go_ret
  exact ⟨rfl, HLG.out.below⟩
end Go.Proofs.YtpajpdjjpgbklaaDoor

namespace Go.Proofs.YtpajpdjjpgbklaaDoor
open Go.RowKit
attribute [local go_sem] Oper.semAt_some
theorem one_oop {w : World} (o : Nat) : Reads (w.alloc (.cells #[.int .u32 (o : Int)] 50)) (w.alloc (.cells #[.int .u32 (o : Int)] 50)).heap.size 1 (some ⟨w.heap.size, 0, none⟩) 1 (u32s [o]) := ⟨rfl, fun _ => ⟨_, rfl, by simp, cell_one_new _ _ _⟩⟩
theorem nfits_bad {o : Nat} (hk : kindM o = 2) : nfitsB [o] = false := by simp [nfitsB, nvB, hk]
theorem nfits_k2 {o : Nat} (hk : kindM o ≠ 2) : ∀ y ∈ [o], kindM y ≠ 2 := by intro y hy; simp at hy; subst hy; exact hk
theorem one_32 {o : Nat} (ho : o < 4294967296) : ∀ y ∈ [o], y < 4294967296 := by intro y hy; simp at hy; omega
def CanF (k : Int) (w : World) (e : Ending) (w' : World) : Prop := (∃ v, e = .returned (.tuple #[v, .int .i64 k])) ∧ Below w.heap.size w w'
section
variable {w : World} {q : Option Addr}
theorem canN1 (N : NoHp w (.pointer q)) (o : Nat) (ho : o < 4294967296) (hk : kindM o = 2) :
    Calls Tryd.prog 15 #[.pointer q, .bool true, .slice (some ⟨w.heap.size, 0, none⟩) 1 1] (w.alloc (.cells #[.int .u32 (o : Int)] 50)) (CanF 3 w) :=
  (canon_no1 (N.alloc _) true (some ⟨w.heap.size, 0, none⟩) 1 1 [o] (by omega) (one_oop o) (one_32 ho) (nfits_bad hk)).mono fun e w' ⟨h1, h2⟩ => ⟨⟨_, h1⟩, below_top ((Below.refl _ _).alloc (Nat.le_refl _) _) h2⟩
theorem canN2 (N : NoHp w (.pointer q)) (o : Nat) (ho : o < 4294967296) (hk : kindM o ≠ 2) :
    Calls Tryd.prog 15 #[.pointer q, .bool true, .slice (some ⟨w.heap.size, 0, none⟩) 1 1] (w.alloc (.cells #[.int .u32 (o : Int)] 50)) (CanF 0 w) :=
  (canon_no (N.alloc _) true (some ⟨w.heap.size, 0, none⟩) 1 1 [o] (by omega) (one_oop o) (one_32 ho) (nfits_k2 hk)).mono fun e w' ⟨h1, h2⟩ => ⟨h1, below_top ((Below.refl _ _).alloc (Nat.le_refl _) _) h2⟩
theorem two_oop (o : Nat) : Reads ((w.alloc (.cells #[.int .u32 (o : Int)] 50)).alloc (.cells #[.int .u32 (o : Int)] 50)) ((w.alloc (.cells #[.int .u32 (o : Int)] 50)).alloc (.cells #[.int .u32 (o : Int)] 50)).heap.size 1 (some ⟨w.heap.size, 0, none⟩) 1 (u32s [o]) ∧
    Reads ((w.alloc (.cells #[.int .u32 (o : Int)] 50)).alloc (.cells #[.int .u32 (o : Int)] 50)) ((w.alloc (.cells #[.int .u32 (o : Int)] 50)).alloc (.cells #[.int .u32 (o : Int)] 50)).heap.size 1 (some ⟨w.heap.size + 1, 0, none⟩) 1 (u32s [o]) := by
  have h1 := one_oop (w := w) o
  have h2 := one_oop (w := w.alloc (.cells #[.int .u32 (o : Int)] 50)) o
  rw [show (w.alloc (.cells #[.int .u32 (o : Int)] 50)).heap.size = w.heap.size + 1 from World.size_alloc ..] at h2
  exact ⟨(h1.alloc (Nat.le_refl _) _).more (by simp), h2⟩
theorem sameN1 (N : NoHp w (.pointer q)) (o : Nat) (ho : o < 4294967296) (hk : kindM o = 2) :
    Calls Tryd.prog 13 #[.pointer q, .pointer q, .bool false, .slice (some ⟨w.heap.size, 0, none⟩) 1 1, .slice (some ⟨w.heap.size + 1, 0, none⟩) 1 1] ((w.alloc (.cells #[.int .u32 (o : Int)] 50)).alloc (.cells #[.int .u32 (o : Int)] 50)) (Told (.bool false) w) :=
  (csame_no1 ((N.alloc _).alloc _) false _ _ 1 1 1 [o] (by omega) (two_oop o).1 (two_oop o).2 (one_32 ho) (nfits_bad hk)).mono fun e w' ⟨h1, h2⟩ => ⟨h1, below_top (((Below.refl _ _).alloc (Nat.le_refl _) _).alloc (by simp) _) h2⟩
theorem sameN2 (N : NoHp w (.pointer q)) (o : Nat) (ho : o < 4294967296) (hk : kindM o ≠ 2) :
    Calls Tryd.prog 13 #[.pointer q, .pointer q, .bool false, .slice (some ⟨w.heap.size, 0, none⟩) 1 1, .slice (some ⟨w.heap.size + 1, 0, none⟩) 1 1] ((w.alloc (.cells #[.int .u32 (o : Int)] 50)).alloc (.cells #[.int .u32 (o : Int)] 50)) (Told (.bool true) w) :=
  (csame_no2 ((N.alloc _).alloc _) false _ _ 1 1 1 [o] (by omega) (two_oop o).1 (two_oop o).2 (one_32 ho) (nfits_k2 hk)).mono fun e w' ⟨h1, h2⟩ => ⟨h1, below_top (((Below.refl _ _).alloc (Nat.le_refl _) _).alloc (by simp) _) h2⟩
theorem folN (N : NoHp w (.pointer q)) (o : Nat) (ho : o < 4294967296) :
    Calls Tryd.prog 17 #[.pointer q, .int .u32 (o : Int), .slice (some ⟨w.heap.size, 0, none⟩) 1 1] (w.alloc (.cells #[.int .i64 0] 3)) (Told (.tuple #[.int .u32 0, .int .i64 3]) w) :=
  (follow_no (N.alloc _) o ho ⟨w.heap.size, 0, none⟩ 1 0 ((Blk.new w 3 #[.int .i64 0]).cell 0)).mono fun e w' ⟨h1, h2⟩ => ⟨h1, below_top ((Below.refl _ _).alloc (Nat.le_refl _) _) h2⟩
end
set_option maxRecDepth 100000 in
set_option maxHeartbeats 8000000 in
theorem followsL_any (W : World) (E : Env W) (k : Cs) (hk : k.At W W.heap.size) (o : Nat) (ho : o < 4294967296) (A : Option Addr) (n c : Nat) (path : List Int) (hn : n ≤ 9223372036854775807) (hr : Reads W W.heap.size 1 A n (intZ path)) (h63 : ∀ x ∈ path, x ≤ 9223372036854775807) :
    Calls Tryd.prog 6 #[k.agg, .int .u32 (o : Int), .slice A n c] W (Told (.bool true) W) := by
  have hb0 := (Below.refl W.heap.size W).alloc (Nat.le_refl _) (.cells #[.int .i64 k.size, .slice k.A k.n k.c, .slice k.A' k.n' k.c', .int .u32 (k.last : Nat)] 26)
  have HB0 := Lib.hid hb0
  have HBX := Lib.hid (Blk.new W 26 #[.int .i64 k.size, .slice k.A k.n k.c, .slice k.A' k.n' k.c', .int .u32 (k.last : Nat)])
  have HE := Lib.hid (E.below hb0)
  have HK := Lib.hid (hk.below hb0)
  have HR := Lib.hid ((hr.below hb0).more hb0.size)
  have H63 := Lib.hid h63
  have HON := Lib.hid (And.intro ho hn)
  have HKD := Lib.hid (rkind_any o ho)
  have HAW := Lib.hid (fun (w : World) (E : Env w) => cawake_any w E)
  have HBU := Lib.hid (fun (w : World) (E : Env w) (k : Cs) (hk : k.At w w.heap.size) => built_any w E k hk)
  unfold Cs.agg at HBU ⊢
  clear hb0 E hk hr h63 ho hn
  go_enter Tryd.func6, Tryd.ntmps6
  go_wp2_with fail
  generalize hW1 : W.alloc (.cells #[.int .i64 k.size, .slice k.A k.n k.c, .slice k.A' k.n' k.c', .int .u32 (k.last : Nat)] 26) = W1 at *
  clear hW1
  go_loopw [7, 8] (fun i _ wr => ∃ j : Nat, j ≤ 2 ∧ i = .int .i64 j ∧ Below W1.heap.size W1 wr) (fun i _ _ => 2 - (intOf i).toNat)
  case atStart => exact ⟨0, by omega, rfl, Below.refl _ _⟩
  case round =>
    obtain ⟨j, hj, rfl, hbr⟩ := hrel
    have HBR := Lib.hid hbr
    clear hbr
    by_cases hlt : j < 2
    · have h01 : j = 0 ∨ j = 1 := by omega
      rcases h01 with rfl | rfl
      · have HN := Lib.hid (show NoHp wr (.pointer none) from .inl rfl)
        have HBQ := Lib.hid HBR.out
        by_cases hk2 : kindM o = 2
        · have hC := canN1 HN.out o HON.out.1 hk2
          skip
          have HC := Lib.hid hC
          clear hC
          have HS := Lib.hid (fun (w : World) (N : NoHp w (.pointer none)) => sameN1 N o HON.out.1 hk2)
          have HF := Lib.hid (fun (w : World) (N : NoHp w (.pointer none)) => folN N o HON.out.1)
          rw [hk2] at HKD
          clear hk2
          go_wp2_with fail
          refine HC.out.mono ?_
          rintro e w2 ⟨⟨cv, rfl⟩, hb2⟩
          have HB2 := Lib.hid hb2
          have HN2 := Lib.hid (HN.out.below hb2)
          clear hb2
          go_wp2_with fail
          refine (HKD.out _).mono ?_
          rintro e wk ⟨rfl, rfl⟩
          go_wp2_with fail
          refine (HS.out _ HN2.out).mono ?_
          rintro e w3 ⟨rfl, hb3⟩
          have HB3 := Lib.hid (below_top HB2.out hb3)
          have HN3 := Lib.hid (HN2.out.below hb3)
          clear hb3
          go_wp2_with fail
          refine (HF.out _ HN3.out).mono ?_
          rintro e w4 ⟨rfl, hb4⟩
          have HB4 := Lib.hid (below_top HB3.out hb4)
          clear hb4
          go_wp2_with fail
          go_roundw
          case rel => exact ⟨1, by omega, by go_num, below_top HBQ.out HB4.out⟩
          case measure => simp [intOf]
        · have hC := canN2 HN.out o HON.out.1 hk2
          skip
          have HC := Lib.hid hC
          clear hC
          have HS := Lib.hid (fun (w : World) (N : NoHp w (.pointer none)) => sameN2 N o HON.out.1 hk2)
          have HF := Lib.hid (fun (w : World) (N : NoHp w (.pointer none)) => folN N o HON.out.1)
          have hkb : ((kindM o : Int) == 2) = false := by simp; omega
          generalize kindM o = kd at *
          clear hk2
          go_wp2_with fail
          refine HC.out.mono ?_
          rintro e w2 ⟨⟨cv, rfl⟩, hb2⟩
          have HB2 := Lib.hid hb2
          have HN2 := Lib.hid (HN.out.below hb2)
          clear hb2
          go_wp2_with fail
          refine (HKD.out _).mono ?_
          rintro e wk ⟨rfl, rfl⟩
          go_wp2_with fail
          refine (HS.out _ HN2.out).mono ?_
          rintro e w3 ⟨rfl, hb3⟩
          have HB3 := Lib.hid (below_top HB2.out hb3)
          have HN3 := Lib.hid (HN2.out.below hb3)
          clear hb3
          go_wp2_with fail
          refine (HF.out _ HN3.out).mono ?_
          rintro e w4 ⟨rfl, hb4⟩
          have HB4 := Lib.hid (below_top HB3.out hb4)
          clear hb4
          go_wp2_with fail
          go_roundw
          case rel => exact ⟨1, by omega, by go_num, below_top HBQ.out HB4.out⟩
          case measure => simp [intOf]
      · have HBQ := Lib.hid (HBR.out.alloc HBR.out.size (.cells #[.slice none 0 0, .slice none 0 0, .slice none 0 0, .int .i64 0, .int .u32 0] 65))
        have HN := Lib.hid (show NoHp (wr.alloc (.cells #[.slice none 0 0, .slice none 0 0, .slice none 0 0, .int .i64 0, .int .u32 0] 65)) (.pointer (some ⟨wr.heap.size, 0, none⟩)) from .inr ⟨wr.heap.size, rfl, (Blk.new wr 65 #[.slice none 0 0, .slice none 0 0, .slice none 0 0, .int .i64 0, .int .u32 0]).cell 3⟩)
        by_cases hk2 : kindM o = 2
        · have hC := canN1 HN.out o HON.out.1 hk2
          rw [show (wr.alloc (.cells #[.slice none 0 0, .slice none 0 0, .slice none 0 0, .int .i64 0, .int .u32 0] 65)).heap.size = wr.heap.size + 1 from World.size_alloc ..] at hC
          have HC := Lib.hid hC
          clear hC
          have HS := Lib.hid (fun (w : World) (N : NoHp w (.pointer (some ⟨wr.heap.size, 0, none⟩))) => sameN1 N o HON.out.1 hk2)
          have HF := Lib.hid (fun (w : World) (N : NoHp w (.pointer (some ⟨wr.heap.size, 0, none⟩))) => folN N o HON.out.1)
          rw [hk2] at HKD
          clear hk2
          go_wp2_with fail
          refine HC.out.mono ?_
          rintro e w2 ⟨⟨cv, rfl⟩, hb2⟩
          have HB2 := Lib.hid hb2
          have HN2 := Lib.hid (HN.out.below hb2)
          clear hb2
          go_wp2_with fail
          refine (HKD.out _).mono ?_
          rintro e wk ⟨rfl, rfl⟩
          go_wp2_with fail
          refine (HS.out _ HN2.out).mono ?_
          rintro e w3 ⟨rfl, hb3⟩
          have HB3 := Lib.hid (below_top HB2.out hb3)
          have HN3 := Lib.hid (HN2.out.below hb3)
          clear hb3
          go_wp2_with fail
          refine (HF.out _ HN3.out).mono ?_
          rintro e w4 ⟨rfl, hb4⟩
          have HB4 := Lib.hid (below_top HB3.out hb4)
          clear hb4
          go_wp2_with fail
          go_roundw
          case rel => exact ⟨2, by omega, by go_num, below_top HBQ.out HB4.out⟩
          case measure => simp [intOf]
        · have hC := canN2 HN.out o HON.out.1 hk2
          rw [show (wr.alloc (.cells #[.slice none 0 0, .slice none 0 0, .slice none 0 0, .int .i64 0, .int .u32 0] 65)).heap.size = wr.heap.size + 1 from World.size_alloc ..] at hC
          have HC := Lib.hid hC
          clear hC
          have HS := Lib.hid (fun (w : World) (N : NoHp w (.pointer (some ⟨wr.heap.size, 0, none⟩))) => sameN2 N o HON.out.1 hk2)
          have HF := Lib.hid (fun (w : World) (N : NoHp w (.pointer (some ⟨wr.heap.size, 0, none⟩))) => folN N o HON.out.1)
          have hkb : ((kindM o : Int) == 2) = false := by simp; omega
          generalize kindM o = kd at *
          clear hk2
          go_wp2_with fail
          refine HC.out.mono ?_
          rintro e w2 ⟨⟨cv, rfl⟩, hb2⟩
          have HB2 := Lib.hid hb2
          have HN2 := Lib.hid (HN.out.below hb2)
          clear hb2
          go_wp2_with fail
          refine (HKD.out _).mono ?_
          rintro e wk ⟨rfl, rfl⟩
          go_wp2_with fail
          refine (HS.out _ HN2.out).mono ?_
          rintro e w3 ⟨rfl, hb3⟩
          have HB3 := Lib.hid (below_top HB2.out hb3)
          have HN3 := Lib.hid (HN2.out.below hb3)
          clear hb3
          go_wp2_with fail
          refine (HF.out _ HN3.out).mono ?_
          rintro e w4 ⟨rfl, hb4⟩
          have HB4 := Lib.hid (below_top HB3.out hb4)
          clear hb4
          go_wp2_with fail
          go_roundw
          case rel => exact ⟨2, by omega, by go_num, below_top HBQ.out HB4.out⟩
          case measure => simp [intOf]
    · obtain rfl : j = 2 := by omega
      have BXr := HBX.out.below HBR.out HBX.out.lt
      have x0 := BXr.cell 0
      have x1 := BXr.cell 1
      have x2 := BXr.cell 2
      have x3 := BXr.cell 3
      clear BXr
      go_wp2_with fail
      refine (HBU.out _ (HE.out.below HBR.out) k (HK.out.below HBR.out)).mono ?_
      rintro e w1 ⟨hb1, ⟨hno, rfl⟩ | ⟨hok, p, q, ls, rfl, A1, G1, R1⟩⟩
      · have HC1 := Lib.hid (below_top HBR.out hb1)
        clear hb1
        go_wp2_with fail
        refine (HAW.out _ (HE.out.below HC1.out)).mono ?_
        rintro e wa ⟨rfl, hba⟩
        have HBA := Lib.hid (below_top HC1.out hba)
        clear hba
        go_wp2_with fail
        go_ret
        exact ⟨rfl, HB0.out.trans (HBA.out.mono HB0.out.size)⟩
      · have HC1 := Lib.hid (below_top HBR.out hb1)
        have HA1 := Lib.hid A1
        have HG1 := Lib.hid G1
        have HR1 := Lib.hid R1
        clear hb1 A1 G1 R1
        unfold ptr
        go_wp2_with fail
        refine (HAW.out _ (HE.out.below HC1.out)).mono ?_
        rintro e w2 ⟨rfl, hb2⟩
        have HC2 := Lib.hid (below_top HC1.out hb2)
        have HA2 := Lib.hid (HA1.out.below hb2)
        have HR2 := Lib.hid (HR1.out.below hb2)
        have HFO := Lib.hid (follow_any HA2.out HG1.out.fit HG1.out.laid.heads (HE.out.below HC2.out).spares o HON.out.1 A n c path HON.out.2 ((HR.out.below HC2.out).more HC2.out.size))
        unfold ptr at HFO
        clear hb2 HA1 HR1
        go_wp2_with fail
        refine HFO.out.mono ?_
        rintro e w3 ⟨rfl, hb3⟩
        have HC3 := Lib.hid (below_top HC2.out hb3)
        have HR3 := Lib.hid (HR2.out.below hb3)
        have HRF := Lib.hid (rfollow_any HR3.out HG1.out.fit HG1.out.laid.heads o HON.out.1 A n c path HON.out.2 ((HR.out.below HC3.out).more HC3.out.size) H63.out)
        unfold ptr at HRF
        clear hb3 HFO
        generalize (k.h.followM o path).1 = fv at *
        generalize (k.h.followM o path).2 = fe at *
        go_wp2_with fail
        refine HRF.out.mono ?_
        rintro e w4 ⟨rfl, hb4⟩
        have HC4 := Lib.hid (below_top HC3.out hb4)
        clear hb4
        have e1 : ((fv : Int) == (fv : Int)) = true := by simp
        have e2 : ((fe : Int) == (fe : Int)) = true := by simp
        go_wp2_with fail
        go_ret
        exact ⟨rfl, HB0.out.trans (HC4.out.mono HB0.out.size)⟩
theorem followsC_any (W : World) (E : Env W) (k : Cs) (hk : k.At W W.heap.size) (o : Nat) (ho : o < 4294967296) (A : Option Addr) (n c : Nat) (path : List Int) (hn : n ≤ 9223372036854775807) (hr : Reads W W.heap.size 1 A n (intZ path)) (h63 : ∀ x ∈ path, x ≤ 9223372036854775807) :
    Calls Tryd.prog 6 #[k.agg, .int .u32 (o : Int), .slice A n c] W (Told (.bool true) W) := followsL_any W E k hk o ho A n c path hn hr h63
end Go.Proofs.YtpajpdjjpgbklaaDoor
