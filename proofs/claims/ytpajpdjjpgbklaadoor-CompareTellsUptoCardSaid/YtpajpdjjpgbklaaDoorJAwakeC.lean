/- compare's awake: chapter 23's first two examples hold; ints. -/
/- CompareLike, walked: being alike is reflexive, symmetric and transitive. -/
import Derived.Test.YtpajpdjjpgbklaaDoorJDiffW
import Derived.Test.YtpajpdjjpgbklaaDoorJLive
import Derived.Test.YtpajpdjjpgbklaaDoorJRefQ
import Derived.Lib.SlBytesConst
import Derived.Deep.QuietTactic
import Derived.BigQuiet
import Derived.Deep.RegionHeld3
import Derived.IntWalk
set_option linter.unusedVariables false
set_option linter.unusedSimpArgs false
set_option linter.unusedSectionVars false
namespace Go.Proofs.YtpajpdjjpgbklaaDoor
open Go.RowKit

def ca0 : HM := HM.new 64
def ca1 : HM := ca0.AllocH 0 1 2
def ca2 : HM := ca1.AllocH 0 1 2
def ca3 : HM := ca2.putH 2 0 2
def ca4 : HM := ca3.putH 2 1 7
def ca5 : HM := ca4.putH 12 0 12
def ca6 : HM := ca5.putH 12 1 9
theorem ca_f1 : ca0.AllocO 0 1 2 = 2 ∧ ca0.AllocE 0 1 2 = 0 := by decide +kernel
theorem ca_f2 : ca1.AllocO 0 1 2 = 12 ∧ ca1.AllocE 0 1 2 = 0 := by decide +kernel
theorem ca_f3 : ca2.putE 2 0 2 = 0 := by decide +kernel
theorem ca_f4 : ca3.putE 2 1 7 = 0 := by decide +kernel
theorem ca_f5 : ca4.putE 12 0 12 = 0 := by decide +kernel
theorem ca_f6 : ca5.putE 12 1 9 = 0 := by decide +kernel
theorem ca_fits : ca6.fitsB [2] = true ∧ ca6.fitsB [12] = true := by decide +kernel
theorem ca_seen : seenM ca6.nmN ca6.nmAt [2] = some [⟨2, -1, 0, 1⟩] := by kernel_rfl
theorem ca_seen2 : seenM ca6.nmN ca6.nmAt [12] = some [⟨12, -1, 0, 1⟩] := by kernel_rfl
theorem ca_diff : diffD ca6.nmN ca6.nmAt ca6.nmAt (ca6.odM ca6 false) [2] [12] = ⟨2, [0, 1], 0⟩ := by kernel_rfl
theorem ca_canon : canonM ca6 false [2] [⟨2, -1, 0, 1⟩] = [2, 1, 0, 2, 0, 2, 13] := by
  have e1 : (ca6.hd (2 / 2)) = ⟨2, 1, 0, 0, 1⟩ := by kernel_rfl
  have e2 : ca6.nmN 2 = 3 := by decide +kernel
  have r0 : refM [⟨2, -1, 0, 1⟩] (ca6.nmAt 2 0) = 0 := by decide +kernel
  have r1 : refM [⟨2, -1, 0, 1⟩] (ca6.nmAt 2 1) = 2 := by decide +kernel
  have r2 : refM [⟨2, -1, 0, 1⟩] (ca6.nmAt 2 2) = 13 := by decide +kernel
  have r3 : refM [⟨2, -1, 0, 1⟩] (id 2) = 2 := by decide +kernel
  unfold canonM refsB HM.objC HM.headB HM.contB HM.serB refsB
  simp only [oopsOf, List.map_cons, List.map_nil, List.flatMap_cons, List.flatMap_nil, e1, e2, r3, List.range_succ, List.range_zero, List.flatMap_append, List.nil_append, r0, r1, r2, cnt7_small (show 2 < 128 by omega), cnt7_small (show 0 < 128 by omega), cnt7_small (show 13 < 128 by omega)]
  rfl
theorem ca_diffE : diffE ca6 ca6 [2] [12] = 0 := by
  unfold diffE HM.seenE
  rw [if_pos ca_fits, ca_seen, ca_seen2]
  rfl
theorem ca_diffV : diffV ca6 ca6 false [2] [12] = ⟨2, [0, 1], 0⟩ := by unfold diffV; rw [if_pos ca_diffE]; exact ca_diff
theorem eq_of_getD {xs ys : List Int} (hl : xs.length = ys.length) (h : ∀ j, j < xs.length → xs.getD j 0 = ys.getD j 0) : xs = ys := by
  apply List.ext_getElem hl
  intro j h1 h2
  have := h j h1
  rw [List.getD_eq_getElem?_getD, List.getD_eq_getElem?_getD, List.getElem?_eq_getElem h1, List.getElem?_eq_getElem h2] at this
  simpa using this
set_option maxRecDepth 100000 in
set_option maxHeartbeats 2000000 in
theorem ints_any {w : World} (A A' : Option Addr) (n m c c' : Nat) (xs ys : List Int) (hn : n ≤ 140737488351232) (hm : m ≤ 140737488351232) (hr : Reads w w.heap.size 1 A n (intZ xs)) (hr' : Reads w w.heap.size 1 A' m (intZ ys)) :
    Calls Tryd.prog 16 #[.slice A n c, .slice A' m c'] w (Told (.bool (decide (xs = ys))) w) := by
  have hl : xs.length = n := by have := hr.1; rw [intZ_len] at this; omega
  have hl' : ys.length = m := by have := hr'.1; rw [intZ_len] at this; omega
  have HL := Lib.hid hl; have HL' := Lib.hid hl'; have HR := Lib.hid hr; have HR' := Lib.hid hr'
  clear hl hl' hr hr'
  by_cases hnm : n = m
  · subst hnm
    have en : ((n : Int) != (n : Int)) = false := by simp
    go_enter Tryd.func16, Tryd.ntmps16
    go_wp2_with fail
    go_loopw [5] (fun iv wr => ∃ k : Nat, k ≤ n ∧ iv = .int .i64 k ∧ (∀ j, j < k → xs.getD j 0 = ys.getD j 0) ∧ Below w.heap.size w wr) (fun iv _ => n - (intOf iv).toNat)
    case atStart => exact ⟨0, by omega, rfl, fun j hj => by omega, Below.refl _ _⟩
    case round =>
      obtain ⟨k, hk, rfl, hno, hb⟩ := hrel
      have HNO := Lib.hid hno
      have HB := Lib.hid hb
      clear hno hb
      by_cases hlt : k < n
      · obtain ⟨ad1, u1, rfl, _, hx1, kc1⟩ := (HR.out.below HB.out).at_ hlt
        obtain ⟨ad2, u2, rfl, _, hx2, kc2⟩ := (HR'.out.below HB.out).at_ hlt
        rw [intZ_get (by rw [HL.out]; exact hlt)] at hx1
        rw [intZ_get (by rw [HL'.out]; exact hlt)] at hx2
        injection hx1 with hx1
        injection hx2 with hx2
        subst hx1
        subst hx2
        by_cases heq : xs.getD k 0 = ys.getD k 0
        · have e5 : ((xs.getD k 0) != (ys.getD k 0)) = false := by rw [heq]; simp
          have HEQ := Lib.hid heq
          clear heq
          generalize hv1 : xs.getD k 0 = y1 at *
          generalize hv2 : ys.getD k 0 = y2 at *
          have HV1 := Lib.hid hv1
          have HV2 := Lib.hid hv2
          clear hv1 hv2
          go_wp2_with fail
          go_quiet (fail)
          go_wp2_with fail
          go_roundw
          case rel =>
            refine ⟨k + 1, by omega, by go_num, fun j hj => ?_, below_drewN HB.out _⟩
            rcases Nat.lt_or_ge j k with h1 | h1
            · exact HNO.out j h1
            · obtain rfl : j = k := by omega
              rw [HV1.out, HV2.out, HEQ.out]
          case measure => simp [intOf]; omega
        · have e5 : ((xs.getD k 0) != (ys.getD k 0)) = true := by simpa using heq
          have HFD := Lib.hid (show decide (xs = ys) = false from decide_eq_false fun e => heq (by rw [e]))
          rw [HFD.out]
          clear heq
          generalize xs.getD k 0 = y1 at *
          generalize ys.getD k 0 = y2 at *
          go_wp2_with fail
          go_quiet (fail)
          have HBQ := Lib.hid (below_drewN HB.out nq)
          clear kc1 kc2 HB
          generalize wr.drewN nq = w7 at *
          go_wp2_with fail
          go_ret
          exact ⟨rfl, HBQ.out⟩
      · obtain rfl : k = n := by omega
        have HFN := Lib.hid (show decide (xs = ys) = true from decide_eq_true (eq_of_getD (by rw [HL.out, HL'.out]) (fun j hj => HNO.out j (by rw [HL.out] at hj; exact hj))))
        go_wp2_with fail
        go_ret
        exact ⟨by rw [HFN.out]; rfl, HB.out⟩
  · have en : ((n : Int) != (m : Int)) = true := by simp; omega
    have HFD := Lib.hid (show decide (xs = ys) = false from decide_eq_false fun e => hnm (by rw [← HL.out, ← HL'.out, e]))
    rw [HFD.out]
    clear hnm
    go_enter Tryd.func16, Tryd.ntmps16
    go_wp2_with fail
    go_ret
    exact ⟨rfl, Below.refl _ _⟩
set_option maxRecDepth 100000 in
set_option maxHeartbeats 4000000 in
theorem cawake_any (W : World) (E : Env W) : Calls Tryd.prog 9 #[] W (Told (.bool true) W) := by
  have HE := Lib.hid E; clear E
  go_enter Tryd.func9, Tryd.ntmps9
  go_wp2_with fail
  refine (new_any 64 (by decide) (by decide) _).mono ?_
  rintro e w1 hN
  obtain ⟨p, g, rfl, L0⟩ := Live.of_new (v := fun g => .tuple #[ptr g, .int .i64 0]) HE.out (by decide) (by decide) hN
  replace L0 : Live W w1 p g ca0 := L0
  clear hN
  unfold ptr
  go_wp2_with fail
  refine (L0.alloc 0 (by decide) 1 2).mono ?_
  rintro e w2 ⟨p1, rfl, L1, -⟩
  rw [ca_f1.1, ca_f1.2]
  replace L1 : Live W w2 p1 g ca1 := L1
  go_wp2_with fail
  refine (L1.alloc 0 (by decide) 1 2).mono ?_
  rintro e w3 ⟨p2, rfl, L2, -⟩
  rw [ca_f2.1, ca_f2.2]
  replace L2 : Live W w3 p2 g ca2 := L2
  go_wp2_with fail
  refine (L2.put 2 (by decide) 0 2 (by decide)).mono ?_
  rintro e w4 ⟨p3, rfl, L3, -⟩
  rw [ca_f3]
  replace L3 : Live W w4 p3 g ca3 := L3
  go_wp2_with fail
  refine (L3.put 2 (by decide) 1 7 (by decide)).mono ?_
  rintro e w5 ⟨p4, rfl, L4, -⟩
  rw [ca_f4]
  replace L4 : Live W w5 p4 g ca4 := L4
  go_wp2_with fail
  refine (L4.put 12 (by decide) 0 12 (by decide)).mono ?_
  rintro e w6 ⟨p5, rfl, L5, -⟩
  rw [ca_f5]
  replace L5 : Live W w6 p5 g ca5 := L5
  go_wp2_with fail
  refine (L5.put 12 (by decide) 1 9 (by decide)).mono ?_
  rintro e w7 ⟨p6, rfl, L6, -⟩
  rw [ca_f6]
  replace L6 : Live W w7 p6 g ca6 := L6
  clear L0 L1 L2 L3 L4 L5
  obtain ⟨ls, G6⟩ := L6.good
  have hg6 := L6.hg
  subst hg6
  have HG6 := Lib.hid G6
  go_wp2_with fail
  have La := L6.after ((Below.refl _ w7).alloc (Nat.le_refl _) (.cells #[.int .u32 2] 50))
  refine (canon_any La.at_ G6 G6.laid.heads La.envw.spares false (some ⟨w7.heap.size, 0, none⟩) 1 1 [2] (by decide) ⟨rfl, fun _ => ⟨_, rfl, by simp, cell_one_new _ _ _⟩⟩ (by decide)).mono ?_
  rintro e w8 ⟨hb8, ⟨h1, -⟩ | ⟨-, h1, -⟩ | ⟨-, l, v, h1, -, rfl, hown⟩⟩
  · rw [ca_fits.1] at h1; cases h1
  · rw [ca_seen] at h1; cases h1
  rw [ca_seen] at h1
  injection h1 with h1
  subst h1
  rw [ca_canon] at hown
  have HL8 := Lib.hid (La.after hb8)
  have HO8 := Lib.hid hown
  clear La hb8 hown L6
  go_wp2_with fail
  have hba := (Below.refl w8.heap.size w8).alloc (Nat.le_refl _) (.cells #[.int .u32 2] 50)
  have hbb := hba.alloc (by simp) (.cells #[.int .u32 12] 50)
  have Lb := HL8.out.after hbb
  have c2 := (Blk.new w8 50 #[.int .u32 2]).alloc (.cells #[.int .u32 12] 50)
  have c12 := Blk.new (w8.alloc (.cells #[.int .u32 2] 50)) 50 #[.int .u32 12]
  rw [World.size_alloc] at c12
  refine (diff_any Lb.at_ G6 Lb.at_ G6 Lb.envw.spares false (some ⟨w8.heap.size, 0, none⟩) (some ⟨w8.heap.size + 1, 0, none⟩) 1 1 1 1 [2] [12] (by decide) (by decide) (row_one' c2 (by simp; omega)) (row_one' c12 (by simp)) (by decide) (by decide)).mono ?_
  rintro e w9 ⟨hb9, A9, c9, rfl, hrd9, -⟩
  rw [ca_diffV] at hrd9 ⊢
  rw [ca_diffE]
  replace hrd9 : Reads w9 w9.heap.size 1 A9 2 (intZ [0, 1]) := hrd9
  have HR9 := Lib.hid hrd9
  have HL9 := Lib.hid (Lb.after hb9)
  have hbD := (below_top hbb hb9).alloc (below_top hbb hb9).size (.cells #[.int .i64 2, .slice A9 2 c9, .int .i64 0] 35)
  have kcv := conv_own (own_same HO8.out (fun k hk => hbD.block k (HO8.out.lt k hk).2))
  rw [show strN [2, 1, 0, 2, 0, 2, 13] = ⟨#[2, 1, 0, 2, 0, 2, 13]⟩ by decide +kernel] at kcv
  have kcl := conv_own (w := (w9.alloc (.cells #[.int .i64 2, .slice A9 2 c9, .int .i64 0] 35)).alloc (.cells #[.int .u8 2, .int .u8 1, .int .u8 0, .int .u8 2, .int .u8 0, .int .u8 2, .int .u8 13] 5)) (base := 0) (n := 7) (v := .slice (some ⟨w9.heap.size + 1, 0, none⟩) 7 7) (xs := [2, 1, 0, 2, 0, 2, 13])
    ⟨rfl, .inr ⟨w9.heap.size + 1, 7, _, rfl, Nat.zero_le _, (by have h := heap_alloc_new (w9.alloc (.cells #[.int .i64 2, .slice A9 2 c9, .int .i64 0] 35)) (.cells #[.int .u8 2, .int .u8 1, .int .u8 0, .int .u8 2, .int .u8 0, .int .u8 2, .int .u8 13] 5); rw [World.size_alloc] at h; exact h), by simp [u8c], by simp [maxLen], rfl, rfl⟩⟩
  rw [show strN [2, 1, 0, 2, 0, 2, 13] = ⟨#[2, 1, 0, 2, 0, 2, 13]⟩ by decide +kernel] at kcl
  have BD := Blk.new w9 35 #[.int .i64 2, .slice A9 2 c9, .int .i64 0]
  have HBD := Lib.hid BD
  have hbE := ((Below.refl w9.heap.size w9).alloc (Nat.le_refl _) (.cells #[.int .i64 2, .slice A9 2 c9, .int .i64 0] 35)).alloc (by simp) (.cells #[.int .u8 2, .int .u8 1, .int .u8 0, .int .u8 2, .int .u8 0, .int .u8 2, .int .u8 13] 5)
  have HBE := Lib.hid hbE
  have d0 := (BD.alloc (.cells #[.int .u8 2, .int .u8 1, .int .u8 0, .int .u8 2, .int .u8 0, .int .u8 2, .int .u8 13] 5)).cell 0
  have d1 := (BD.alloc (.cells #[.int .u8 2, .int .u8 1, .int .u8 0, .int .u8 2, .int .u8 0, .int .u8 2, .int .u8 13] 5)).cell 1
  clear hba hbb Lb c2 c12 hb9 hrd9 hbD BD HL8 hbE
  go_wp2_with fail
  have hbF := HBE.out.alloc (by simp; omega) (.cells #[.int .i64 0, .int .i64 1] 3)
  have c01 := Blk.new ((w9.alloc (.cells #[.int .i64 2, .slice A9 2 c9, .int .i64 0] 35)).alloc (.cells #[.int .u8 2, .int .u8 1, .int .u8 0, .int .u8 2, .int .u8 0, .int .u8 2, .int .u8 13] 5)) 3 #[.int .i64 0, .int .i64 1]
  rw [World.size_alloc, World.size_alloc] at c01
  have HBF := Lib.hid hbF
  have HLF := Lib.hid (HL9.out.after hbF)
  refine (ints_any A9 (some ⟨w9.heap.size + 1 + 1, 0, none⟩) 2 2 c9 2 [0, 1] [0, 1] (by decide) (by decide) ((HR9.out.below hbF).more hbF.size) (row_two' c01 (by simp))).mono ?_
  rintro e w10 ⟨rfl, hb10⟩
  have HLG := Lib.hid (HLF.out.after hb10)
  rw [show decide (([0, 1] : List Int) = [0, 1]) = true from rfl]
  clear hbF c01 hb10
  go_wp2_with fail
  go_ret
  exact ⟨rfl, HLG.out.below⟩
end Go.Proofs.YtpajpdjjpgbklaaDoor

namespace Go.Proofs.YtpajpdjjpgbklaaDoor
open Go.RowKit
attribute [local go_sem] Oper.semAt_some

/-- built's answer, whatever it is. -/
def BuiltF (W : World) (e : Ending) (w' : World) : Prop := ∃ v q b, e = .returned (.tuple #[v, q, .bool b]) ∧ Below W.heap.size W w'
theorem built_flat (W : World) (E : Env W) (k : Cs) (hk : k.At W W.heap.size) : Calls Tryd.prog 8 #[k.agg] W (BuiltF W) :=
  (built_any W E k hk).mono fun e w' ⟨hb, h⟩ => by
    rcases h with ⟨_, rfl⟩ | ⟨_, p, q, ls, rfl, _⟩
    · exact ⟨_, _, _, rfl, hb⟩
    · exact ⟨_, _, _, rfl, hb⟩
def Cs.cells (k : Cs) : Array Value := #[.int .i64 k.size, .slice k.A k.n k.c, .slice k.A' k.n' k.c', .int .u32 (k.last : Nat)]
theorem cells4 {w : World} {g : Nat} {t : TypeId} {a b c d : Value} (h : Blk w g t #[a, b, c, d]) : w.cell? ⟨g, 0, none⟩ = some a ∧ w.cell? ⟨g, 1, none⟩ = some b ∧ w.cell? ⟨g, 2, none⟩ = some c ∧ w.cell? ⟨g, 3, none⟩ = some d := ⟨h.cell 0, h.cell 1, h.cell 2, h.cell 3⟩
/-- The roots, of which the first rn are taken. -/
def RootsP (h : HM) (rn : Nat) (w : World) (e : Ending) (w' : World) : Prop :=
  ∃ g c, e = .returned (.slice (some ⟨g, 0, none⟩) 64 c) ∧ rn ≤ c ∧ (rn : Int) ≤ (c : Int) ∧ Reads w' w'.heap.size 1 (some ⟨g, 0, none⟩) rn (u32s (h.roots.take rn)) ∧ Below w.heap.size w w'
theorem roots_take {w : World} {p : HP} {h : HM} (H : HAt w p h) (f : h.Fit) (rn : Nat) (hr : rn ≤ 64) : Calls Tryd.prog 14 #[ptr p.g] w (RootsP h rn w) :=
  (roots_any H f).mono fun e w' ⟨g, c, he, hrow, hge, hb⟩ => by
    have h64 := f.roots
    rw [u32s_len, h64] at he
    have hc : 64 ≤ c := by
      obtain ⟨cur, _, h2, _⟩ := hrow
      rw [u32s_len, h64] at h2
      exact h2
    refine ⟨g, c, he, by omega, by omega, ⟨by rw [u32s_len, List.length_take]; omega, fun _ => ⟨_, rfl, hrow.lt, fun j u hu => ?_⟩⟩, hb⟩
    rw [WideShapes.add_plain, Nat.zero_add]
    refine hrow.cell ?_
    unfold u32s at hu ⊢
    rw [List.getElem?_map] at hu ⊢
    rw [List.getElem?_take] at hu
    split at hu
    · exact hu
    · cases hu
/-- The number of roots that the law takes. -/
def rootsN (n : Int) : Nat := (((n.tmod 64) + 64).tmod 64).toNat
theorem tmod64 (n : Int) : -64 < n.tmod 64 ∧ n.tmod 64 < 64 := by
  obtain ⟨k, rfl | rfl⟩ := n.eq_nat_or_neg
  · have h1 := Int.tmod_lt_of_pos (k : Int) (show (0 : Int) < 64 by omega)
    have h2 := Int.tmod_nonneg 64 (show 0 ≤ (k : Int) by omega)
    omega
  · rw [Int.neg_tmod]
    have h1 := Int.tmod_lt_of_pos (k : Int) (show (0 : Int) < 64 by omega)
    have h2 := Int.tmod_nonneg 64 (show 0 ≤ (k : Int) by omega)
    omega
theorem rootsN_eq (n : Int) : ((n.tmod 64) + 64).tmod 64 = (rootsN n : Int) ∧ rootsN n < 64 := by
  unfold rootsN
  have h12 := tmod64 n
  have h3 := Int.tmod_lt_of_pos (n.tmod 64 + 64) (show (0 : Int) < 64 by omega)
  have h4 := Int.tmod_nonneg 64 (show 0 ≤ n.tmod 64 + 64 by omega)
  omega
set_option maxRecDepth 100000 in
set_option maxHeartbeats 8000000 in
theorem likeL_any (W : World) (E : Env W) (k1 k2 k3 : Cs) (h1 : k1.At W W.heap.size) (h2 : k2.At W W.heap.size) (h3 : k3.At W W.heap.size) (ser : Bool) (n : Int) (hnlo : -9223372036854775808 ≤ n) (hnhi : n ≤ 9223372036854775807) :
    Calls Tryd.prog 4 #[k1.agg, k2.agg, k3.agg, .bool ser, .int .i64 n] W (Told (.bool true) W) := by
  have hb1 := (Below.refl W.heap.size W).alloc (Nat.le_refl _) (.cells k1.cells 26)
  have hb2 := hb1.alloc (by simp) (.cells k2.cells 26)
  have hb3 := hb2.alloc (by simp; omega) (.cells k3.cells 26)
  have B1 := ((Blk.new W 26 k1.cells).alloc (.cells k2.cells 26)).alloc (.cells k3.cells 26)
  have B2 := (Blk.new (W.alloc (.cells k1.cells 26)) 26 k2.cells).alloc (.cells k3.cells 26)
  have B3 := Blk.new ((W.alloc (.cells k1.cells 26)).alloc (.cells k2.cells 26)) 26 k3.cells
  rw [World.size_alloc] at B2
  rw [World.size_alloc, World.size_alloc] at B3
  have HB3 := Lib.hid hb3
  have HBX := Lib.hid (And.intro B1 (And.intro B2 B3))
  have HE := Lib.hid (E.below hb3)
  have HK := Lib.hid (And.intro (h1.below hb3) (And.intro (h2.below hb3) (h3.below hb3)))
  clear hb1 hb2 hb3 B1 B2 B3 E h1 h2 h3
  unfold Cs.cells at HB3 HBX HE HK
  have HAW := Lib.hid (fun (w : World) (E : Env w) => cawake_any w E)
  have HBU := Lib.hid (fun (w : World) (E : Env w) (k : Cs) (hk : k.At w w.heap.size) => built_any w E k hk)
  have HBF := Lib.hid (fun (w : World) (E : Env w) (k : Cs) (hk : k.At w w.heap.size) => built_flat w E k hk)
  unfold Cs.agg at HBU HBF ⊢
  go_enter Tryd.func4, Tryd.ntmps4
  obtain ⟨x0, x1, x2, x3⟩ := cells4 HBX.out.1
  go_wp2_with fail
  clear x0 x1 x2 x3
  generalize ((W.alloc (.cells #[.int .i64 k1.size, .slice k1.A k1.n k1.c, .slice k1.A' k1.n' k1.c', .int .u32 (k1.last : Nat)] 26)).alloc (.cells #[.int .i64 k2.size, .slice k2.A k2.n k2.c, .slice k2.A' k2.n' k2.c', .int .u32 (k2.last : Nat)] 26)).alloc (.cells #[.int .i64 k3.size, .slice k3.A k3.n k3.c, .slice k3.A' k3.n' k3.c', .int .u32 (k3.last : Nat)] 26) = W3 at *
  refine (HBU.out W3 HE.out k1 HK.out.1).mono ?_
  rintro e w1 ⟨hb1, ⟨hno, rfl⟩ | ⟨hok1, p1, q1, l1, rfl, A1, G1, -⟩⟩
  · have HC1 := Lib.hid hb1
    clear hb1
    obtain ⟨y0, y1, y2, y3⟩ := cells4 (HBX.out.2.1.below HC1.out HBX.out.2.1.lt)
    go_wp2_with fail
    refine (HBF.out _ (HE.out.below HC1.out) k2 (HK.out.2.1.below HC1.out)).mono ?_
    rintro e w2 ⟨vw2, qw2, bw2, rfl, hbw2⟩
    have HC2 := Lib.hid (below_top HC1.out hbw2)
    clear hbw2 y0 y1 y2 y3
    obtain ⟨y0, y1, y2, y3⟩ := cells4 (HBX.out.2.2.below HC2.out HBX.out.2.2.lt)
    go_wp2_with fail
    refine (HBF.out _ (HE.out.below HC2.out) k3 (HK.out.2.2.below HC2.out)).mono ?_
    rintro e w3 ⟨vw3, qw3, bw3, rfl, hbw3⟩
    have HC3 := Lib.hid (below_top HC2.out hbw3)
    clear hbw3 y0 y1 y2 y3
    go_wp2_with fail
    refine (HAW.out _ (HE.out.below HC3.out)).mono ?_
    rintro e wa ⟨rfl, hba⟩
    have HBA := Lib.hid (below_top HC3.out hba)
    clear hba
    go_wp2_with fail
    go_ret
    exact ⟨rfl, HB3.out.trans (HBA.out.mono HB3.out.size)⟩
  · have HC1 := Lib.hid hb1
    have HA1 := Lib.hid A1
    have HG1 := Lib.hid G1
    clear hb1 A1 G1
    obtain ⟨y0, y1, y2, y3⟩ := cells4 (HBX.out.2.1.below HC1.out HBX.out.2.1.lt)
    unfold ptr
    go_wp2_with fail
    refine (HBU.out w1 (HE.out.below HC1.out) k2 (HK.out.2.1.below HC1.out)).mono ?_
    rintro e w2 ⟨hb2, ⟨hno, rfl⟩ | ⟨hok2, p2, q2, l2, rfl, A2, G2, -⟩⟩
    · have HC2 := Lib.hid (below_top HC1.out hb2)
      clear hb2 y0 y1 y2 y3
      obtain ⟨y0, y1, y2, y3⟩ := cells4 (HBX.out.2.2.below HC2.out HBX.out.2.2.lt)
      go_wp2_with fail
      refine (HBF.out _ (HE.out.below HC2.out) k3 (HK.out.2.2.below HC2.out)).mono ?_
      rintro e w3 ⟨vw3, qw3, bw3, rfl, hbw3⟩
      have HC3 := Lib.hid (below_top HC2.out hbw3)
      clear hbw3 y0 y1 y2 y3
      go_wp2_with fail
      refine (HAW.out _ (HE.out.below HC3.out)).mono ?_
      rintro e wa ⟨rfl, hba⟩
      have HBA := Lib.hid (below_top HC3.out hba)
      clear hba
      go_wp2_with fail
      go_ret
      exact ⟨rfl, HB3.out.trans (HBA.out.mono HB3.out.size)⟩
    · have HC2 := Lib.hid (below_top HC1.out hb2)
      have HA1' := Lib.hid (HA1.out.below hb2)
      have HA2 := Lib.hid A2
      have HG2 := Lib.hid G2
      clear hb2 y0 y1 y2 y3 A2 G2 HA1
      obtain ⟨y0, y1, y2, y3⟩ := cells4 (HBX.out.2.2.below HC2.out HBX.out.2.2.lt)
      unfold ptr
      go_wp2_with fail
      refine (HBU.out w2 (HE.out.below HC2.out) k3 (HK.out.2.2.below HC2.out)).mono ?_
      rintro e w3 ⟨hb3, ⟨hno, rfl⟩ | ⟨hok3, p3, q3, l3, rfl, A3, G3, -⟩⟩
      · have HC3 := Lib.hid (below_top HC2.out hb3)
        clear hb3 y0 y1 y2 y3
        go_wp2_with fail
        refine (HAW.out _ (HE.out.below HC3.out)).mono ?_
        rintro e wa ⟨rfl, hba⟩
        have HBA := Lib.hid (below_top HC3.out hba)
        clear hba
        go_wp2_with fail
        go_ret
        exact ⟨rfl, HB3.out.trans (HBA.out.mono HB3.out.size)⟩
      · have HC3 := Lib.hid (below_top HC2.out hb3)
        have HB1 := Lib.hid (HA1'.out.below hb3)
        have HB2 := Lib.hid (HA2.out.below hb3)
        have HB3' := Lib.hid A3
        have HG3 := Lib.hid G3
        clear hb3 y0 y1 y2 y3 A3 G3 HA2 HA1'
        obtain ⟨x0, x1, x2, x3⟩ := cells4 (HBX.out.1.below HC3.out HBX.out.1.lt)
        obtain ⟨y0, y1, y2, y3⟩ := cells4 (HBX.out.2.1.below HC3.out HBX.out.2.1.lt)
        obtain ⟨z0, z1, z2, z3⟩ := cells4 (HBX.out.2.2.below HC3.out HBX.out.2.2.lt)
        have HLN := Lib.hid (show k1.ws.length = k1.n ∧ k2.ws.length = k2.n ∧ k3.ws.length = k3.n from ⟨by have := HK.out.1.hr.1; rw [u32s_len] at this; omega, by have := HK.out.2.1.hr.1; rw [u32s_len] at this; omega, by have := HK.out.2.2.hr.1; rw [u32s_len] at this; omega⟩)
        have hn1 : k1.n ≤ 1048576 := by have h := HG1.out.fit.room; have h' := HG1.out.fit.hi; rw [← HLN.out.1]; exact Nat.le_trans h h'
        have hn2 : k2.n ≤ 1048576 := by have h := HG2.out.fit.room; have h' := HG2.out.fit.hi; rw [← HLN.out.2.1]; exact Nat.le_trans h h'
        have hn3 : k3.n ≤ 1048576 := by have h := HG3.out.fit.room; have h' := HG3.out.fit.hi; rw [← HLN.out.2.2]; exact Nat.le_trans h h'
        unfold ptr
        by_cases hlong : 196608 < k1.n + k2.n + k3.n
        · have hd : decide ((k1.n : Int) + (k2.n : Int) + (k3.n : Int) > 196608) = true := by simp; omega
          have hd2 : decide ((196608 : Int) < (k1.n : Int) + (k2.n : Int) + (k3.n : Int)) = true := by simp; omega
          go_wp2_with fail
          refine (HAW.out _ (HE.out.below HC3.out)).mono ?_
          rintro e wa ⟨rfl, hba⟩
          have HBA := Lib.hid (below_top HC3.out hba)
          clear hba
          go_wp2_with fail
          go_ret
          exact ⟨rfl, HB3.out.trans (HBA.out.mono HB3.out.size)⟩
        · have hd : decide ((k1.n : Int) + (k2.n : Int) + (k3.n : Int) > 196608) = false := by simp; omega
          have hd2 : decide ((196608 : Int) < (k1.n : Int) + (k2.n : Int) + (k3.n : Int)) = false := by simp; omega
          go_wp2_with fail
          refine (HAW.out _ (HE.out.below HC3.out)).mono ?_
          rintro e wa ⟨rfl, hba⟩
          have HC4 := Lib.hid (below_top HC3.out hba)
          have HD1 := Lib.hid (HB1.out.below hba)
          have HD2 := Lib.hid (HB2.out.below hba)
          have HD3 := Lib.hid (HB3'.out.below hba)
          clear hba x0 x1 x2 x3 y0 y1 y2 y3 z0 z1 z2 z3 HB1 HB2 HB3' hd hd2
          obtain ⟨hrem, hrn⟩ := rootsN_eq n
          have hwr : (wrap64 (n.tmod 64 + 64)).tmod 64 = (rootsN n : Int) := by
            rw [← hrem, IntWalk.wrap64_in _ (by
              have h1 := (tmod64 n).1
              have h2 := (tmod64 n).2
              omega)]
          clear hrem hnlo hnhi
          generalize rootsN n = rn at *
          have HR1 := Lib.hid (fun (w' : World) (hb : Below wa.heap.size wa w') => roots_take (HD1.out.below hb) HG1.out.fit rn (by omega))
          have HR2 := Lib.hid (fun (w' : World) (hb : Below wa.heap.size wa w') => roots_take (HD2.out.below hb) HG2.out.fit rn (by omega))
          have HR3 := Lib.hid (fun (w' : World) (hb : Below wa.heap.size wa w') => roots_take (HD3.out.below hb) HG3.out.fit rn (by omega))
          unfold ptr at HR1 HR2 HR3
          clear hn1 hn2 hn3
          go_upto_region 7 with fail
          clear hwr
          go_cut [20, 21, 22] (fun a b d W' => ∃ g1 e1 g2 e2 g3 e3, a = .slice (some ⟨g1, 0, none⟩) rn e1 ∧ b = .slice (some ⟨g2, 0, none⟩) rn e2 ∧ d = .slice (some ⟨g3, 0, none⟩) rn e3 ∧ Reads W' W'.heap.size 1 (some ⟨g1, 0, none⟩) rn (u32s (k1.h.roots.take rn)) ∧
            Reads W' W'.heap.size 1 (some ⟨g2, 0, none⟩) rn (u32s (k2.h.roots.take rn)) ∧ Reads W' W'.heap.size 1 (some ⟨g3, 0, none⟩) rn (u32s (k3.h.roots.take rn)) ∧ Below wa.heap.size wa W')
          case first =>
            have hB0 : Below wa.heap.size wa wa.drew := below_drew (Below.refl _ _)
            go_region_held3 (fun w' => True)
              (first | exact trivial | go_keep)
              (first
                | (go_at_call 14; (with_reducible refine (HR1.out _ (by assumption)).mono ?_); rintro e w4 ⟨g1, e1, rfl, c1, i1, rd1, hb4⟩; have hB4 := below_top (by assumption) hb4)
                | (go_at_call 14; (with_reducible refine (HR2.out _ (by assumption)).mono ?_); rintro e w5 ⟨g2, e2, rfl, c2, i2, rd2, hb5⟩; have hB5 := below_top (by assumption) hb5)
                | (go_at_call 14; (with_reducible refine (HR3.out _ (by assumption)).mono ?_); rintro e w6 ⟨g3, e3, rfl, c3, i3, rd3, hb6⟩; have hB6 := below_top (by assumption) hb6))
            all_goals go_wp2_with fail
            all_goals go_meet
            all_goals exact ⟨_, _, _, _, _, _, rfl, rfl, rfl, (rd1.below (below_top hb5 hb6)).more (below_top hb5 hb6).size, (rd2.below hb6).more hb6.size, rd3, hB6⟩
          case rest =>
            obtain ⟨g1, e1, g2, e2, g3, e3, rfl, rfl, rfl, rd1, rd2, rd3, hb5⟩ := hcut
            have HC5 := Lib.hid (below_top HC4.out hb5)
            have h1f := fits_roots HG1.out rn
            have h1s : k1.h.seenE (k1.h.roots.take rn) = 0 := seenE_small HG1.out (by have := HLN.out.1; show k1.ws.length ≤ 196608; omega) h1f
            have t1 : ∀ y ∈ k1.h.roots.take rn, y < 4294967296 := fun y hy => HG1.out.fit.r32 y (List.mem_of_mem_take hy)
            have t2 : ∀ y ∈ k2.h.roots.take rn, y < 4294967296 := fun y hy => HG2.out.fit.r32 y (List.mem_of_mem_take hy)
            have t3 : ∀ y ∈ k3.h.roots.take rn, y < 4294967296 := fun y hy => HG3.out.fit.r32 y (List.mem_of_mem_take hy)
            have HM1 := Lib.hid (HD1.out.below hb5)
            have HM2 := Lib.hid (HD2.out.below hb5)
            have HM3 := Lib.hid (HD3.out.below hb5)
            have SP := fun (w' : World) (hb : Below wc.heap.size wc w') => ((HE.out.below HC5.out).below hb).spares
            have hrn9 : rn ≤ 9223372036854775807 := by omega
            have H11 := Lib.hid (fun (w' : World) (hb : Below wc.heap.size wc w') => csame_any (HM1.out.below hb) HG1.out (HM1.out.below hb) HG1.out (SP w' hb) ser (some ⟨g1, 0, none⟩) (some ⟨g1, 0, none⟩) rn rn e1 e1 _ _ hrn9 hrn9 ((rd1.below hb).more hb.size) ((rd1.below hb).more hb.size) t1 t1)
            have H12 := Lib.hid (fun (w' : World) (hb : Below wc.heap.size wc w') => csame_any (HM1.out.below hb) HG1.out (HM2.out.below hb) HG2.out (SP w' hb) ser (some ⟨g1, 0, none⟩) (some ⟨g2, 0, none⟩) rn rn e1 e2 _ _ hrn9 hrn9 ((rd1.below hb).more hb.size) ((rd2.below hb).more hb.size) t1 t2)
            have H21 := Lib.hid (fun (w' : World) (hb : Below wc.heap.size wc w') => csame_any (HM2.out.below hb) HG2.out (HM1.out.below hb) HG1.out (SP w' hb) ser (some ⟨g2, 0, none⟩) (some ⟨g1, 0, none⟩) rn rn e2 e1 _ _ hrn9 hrn9 ((rd2.below hb).more hb.size) ((rd1.below hb).more hb.size) t2 t1)
            have H23 := Lib.hid (fun (w' : World) (hb : Below wc.heap.size wc w') => csame_any (HM2.out.below hb) HG2.out (HM3.out.below hb) HG3.out (SP w' hb) ser (some ⟨g2, 0, none⟩) (some ⟨g3, 0, none⟩) rn rn e2 e3 _ _ hrn9 hrn9 ((rd2.below hb).more hb.size) ((rd3.below hb).more hb.size) t2 t3)
            have H13 := Lib.hid (fun (w' : World) (hb : Below wc.heap.size wc w') => csame_any (HM1.out.below hb) HG1.out (HM3.out.below hb) HG3.out (SP w' hb) ser (some ⟨g1, 0, none⟩) (some ⟨g3, 0, none⟩) rn rn e1 e3 _ _ hrn9 hrn9 ((rd1.below hb).more hb.size) ((rd3.below hb).more hb.size) t1 t3)
            rw [sameB_self h1f h1s] at H11
            rw [sameB_swap] at H21
            have HT := Lib.hid (fun h1 h2 => @sameB_trans k1.h k2.h k3.h ser (k1.h.roots.take rn) (k2.h.roots.take rn) (k3.h.roots.take rn) h1 h2)
            generalize sameB k1.h k2.h ser (k1.h.roots.take rn) (k2.h.roots.take rn) = b12 at *
            generalize sameB k2.h k3.h ser (k2.h.roots.take rn) (k3.h.roots.take rn) = b23 at *
            generalize sameB k1.h k3.h ser (k1.h.roots.take rn) (k3.h.roots.take rn) = b13 at *
            have HC0 := Lib.hid (Below.refl wc.heap.size wc)
            unfold ptr at H11 H12 H21 H23 H13
            have HFIN := Lib.hid (fun (w' : World) (hb : Below wc.heap.size wc w') => show Told (.bool true) W (.returned (.bool true)) w' from ⟨rfl, HB3.out.trans ((below_top HC5.out hb).mono HB3.out.size)⟩)
            clear h1f h1s t1 t2 t3 SP rd1 rd2 rd3 hb5 hrn9
            cases b12
            · go_wp2_with fail
              refine (H11.out _ HC0.out).mono ?_
              rintro e w11 ⟨rfl, hbw11⟩
              have K1 := Lib.hid (below_top HC0.out hbw11)
              clear hbw11
              go_wp2_with fail
              refine (H12.out _ K1.out).mono ?_
              rintro e w12 ⟨rfl, hbw12⟩
              have K2 := Lib.hid (below_top K1.out hbw12)
              clear hbw12
              go_wp2_with fail
              refine (H21.out _ K2.out).mono ?_
              rintro e w21 ⟨rfl, hbw21⟩
              have K3 := Lib.hid (below_top K2.out hbw21)
              clear hbw21
              go_wp2_with fail
              refine (H12.out _ K3.out).mono ?_
              rintro e w13 ⟨rfl, hbw13⟩
              have K4 := Lib.hid (below_top K3.out hbw13)
              clear hbw13
              go_wp2_with fail
              go_ret
              exact HFIN.out _ K4.out
            · cases b23
              · go_wp2_with fail
                refine (H11.out _ HC0.out).mono ?_
                rintro e w11 ⟨rfl, hbw11⟩
                have K1 := Lib.hid (below_top HC0.out hbw11)
                clear hbw11
                go_wp2_with fail
                refine (H12.out _ K1.out).mono ?_
                rintro e w12 ⟨rfl, hbw12⟩
                have K2 := Lib.hid (below_top K1.out hbw12)
                clear hbw12
                go_wp2_with fail
                refine (H21.out _ K2.out).mono ?_
                rintro e w21 ⟨rfl, hbw21⟩
                have K3 := Lib.hid (below_top K2.out hbw21)
                clear hbw21
                go_wp2_with fail
                refine (H12.out _ K3.out).mono ?_
                rintro e w13 ⟨rfl, hbw13⟩
                have K4 := Lib.hid (below_top K3.out hbw13)
                clear hbw13
                go_wp2_with fail
                refine (H23.out _ K4.out).mono ?_
                rintro e w14 ⟨rfl, hbw14⟩
                have K5 := Lib.hid (below_top K4.out hbw14)
                clear hbw14
                go_wp2_with fail
                go_ret
                exact HFIN.out _ K5.out
              · have hz := HT.out rfl rfl
                subst hz
                go_wp2_with fail
                refine (H11.out _ HC0.out).mono ?_
                rintro e w11 ⟨rfl, hbw11⟩
                have K1 := Lib.hid (below_top HC0.out hbw11)
                clear hbw11
                go_wp2_with fail
                refine (H12.out _ K1.out).mono ?_
                rintro e w12 ⟨rfl, hbw12⟩
                have K2 := Lib.hid (below_top K1.out hbw12)
                clear hbw12
                go_wp2_with fail
                refine (H21.out _ K2.out).mono ?_
                rintro e w21 ⟨rfl, hbw21⟩
                have K3 := Lib.hid (below_top K2.out hbw21)
                clear hbw21
                go_wp2_with fail
                refine (H12.out _ K3.out).mono ?_
                rintro e w13 ⟨rfl, hbw13⟩
                have K4 := Lib.hid (below_top K3.out hbw13)
                clear hbw13
                go_wp2_with fail
                refine (H23.out _ K4.out).mono ?_
                rintro e w14 ⟨rfl, hbw14⟩
                have K5 := Lib.hid (below_top K4.out hbw14)
                clear hbw14
                go_wp2_with fail
                refine (H13.out _ K5.out).mono ?_
                rintro e w15 ⟨rfl, hbw15⟩
                have K6 := Lib.hid (below_top K5.out hbw15)
                clear hbw15
                go_wp2_with fail
                go_ret
                exact HFIN.out _ K6.out
theorem likeC_any (W : World) (E : Env W) (k1 : Cs) (h1 : k1.At W W.heap.size) (k2 : Cs) (h2 : k2.At W W.heap.size) (k3 : Cs) (h3 : k3.At W W.heap.size) (ser : Bool) (n : Int) (w : (Lit.int .i64 n).wf = true) :
    Calls Tryd.prog 4 #[k1.agg, k2.agg, k3.agg, .bool ser, .int .i64 n] W (Told (.bool true) W) := by
  have hr : IntKind.i64.min ≤ n ∧ n ≤ IntKind.i64.max := by simpa [Lit.wf] using w
  have e1 : IntKind.i64.min = -9223372036854775808 := rfl
  have e2 : IntKind.i64.max = 9223372036854775807 := rfl
  exact likeL_any W E k1 k2 k3 h1 h2 h3 ser n (by omega) (by omega)
end Go.Proofs.YtpajpdjjpgbklaaDoor
