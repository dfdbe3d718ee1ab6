/- New. -/
/- heaps: a heap of the program's and one of the document's, with so many objects. -/
/- awake of chapter 16. -/
/- A table that is nil, or that New did not make. -/
/- The document's table of handles: its memory, and New. -/
/- begun: a script's table; sameHandles. -/
/- HandlesFull, walked. -/
import Derived.Test.YtlkahgagmfhdaaaGreatDoorJHdO
import Derived.Test.YtlkahgagmfhdaaaGreatDoorJTwo
import Derived.Test.YtlkahgagmfhdaaaGreatDoorJAll
import Derived.Test.YtlkahgagmfhdaaaGreatDoorJSameL
import Derived.Laws.Tables
set_option linter.unusedVariables false
set_option linter.unusedSimpArgs false
set_option linter.unusedSectionVars false
namespace Go.Proofs.YtlkahgagmfhdaaaGreatDoor
open Go.RowKit
attribute [local go_sem] Oper.semAt_some

set_option maxRecDepth 100000 in
theorem tab_cells (g cap first : Nat) : ((Tryz.zeroCells96.setIfInBounds 0 (.pointer (some ⟨g, 0, none⟩))).setIfInBounds 513 (.int .i64 (cap : Int))).setIfInBounds 514 (.int .u64 (first : Int)) = ((TM.fresh cap first).cells g).toArray := by kernel_rfl
/-- New's error, and what it leaves. -/
def nwE (h : HM) (n : Int) (first : Nat) : Nat := if n < 1 ∨ 256 < n ∨ first = 0 then 1 else if kindM (h.roots.getD 20 0) = 1 then 3 else h.AllocE (h.roots.getD 20 0) 1 n
def nwH (h : HM) (n : Int) : HM := (h.AllocH (h.roots.getD 20 0) 1 n).setRootH 40 (h.AllocO (h.roots.getD 20 0) 1 n)
def NewP (W : World) (p : HP) (g : Nat) (h : HM) (n : Int) (first : Nat) (w : World) (e : Ending) (w' : World) : Prop :=
  (nwE h n first ≠ 0 ∧ ∃ p', e = .returned (.tuple #[.pointer none, .int .i64 (nwE h n first : Nat)]) ∧ Live W w' p' g h ∧ Step p p' w w') ∨
  (nwE h n first = 0 ∧ ∃ p' gt, e = .returned (.tuple #[.pointer (some ⟨gt, 0, none⟩), .int .i64 0]) ∧ HT W w' p' g gt (nwH h n) (TM.fresh n.toNat first) ∧ Step p p' w w' ∧ w.heap.size ≤ gt)
theorem kind_small (o : Nat) : ((kindM o : Int) == 1) = decide (kindM o = 1) := by
  by_cases h : kindM o = 1
  · simp [h]
  · simp [h]; omega
set_option maxRecDepth 100000 in
set_option maxHeartbeats 4000000 in
theorem tnew_any {W w : World} {p : HP} {g : Nat} {h : HM} (L : Live W w p g h) (n : Int) (first : Nat) (hf : first < 18446744073709551616) : Calls Tryz.prog 23 #[.pointer (some ⟨g, 0, none⟩), .int .i64 n, .int .u64 (first : Int)] w (NewP W p g h n first w) := by
  have HE := Lib.hid (show nwE h n first = if n < 1 ∨ 256 < n ∨ first = 0 then 1 else if kindM (h.roots.getD 20 0) = 1 then 3 else h.AllocE (h.roots.getD 20 0) 1 n from rfl)
  have HL := Lib.hid L
  by_cases hr : n < 1 ∨ 256 < n ∨ first = 0
  · have he : nwE h n first = 1 := by rw [HE.out, if_pos hr]
    have HV := Lib.hid he
    clear he HE L
    by_cases h1 : n < 1
    · clear hr
      go_enter Tryz.func23, Tryz.ntmps23
      go_wp2_with fail
      go_ret2
      exact .inl ⟨by rw [HV.out]; decide, p, by rw [HV.out]; rfl, HL.out, Step.refl _ _⟩
    · by_cases h2 : 256 < n
      · clear hr
        go_enter Tryz.func23, Tryz.ntmps23
        go_wp2_with fail
        go_ret2
        exact .inl ⟨by rw [HV.out]; decide, p, by rw [HV.out]; rfl, HL.out, Step.refl _ _⟩
      · obtain rfl : first = 0 := by omega
        clear hr
        simp only [Int.natCast_zero]
        go_enter Tryz.func23, Tryz.ntmps23
        go_wp2_with fail
        go_ret2
        exact .inl ⟨by rw [HV.out]; decide, p, by rw [HV.out]; rfl, HL.out, Step.refl _ _⟩
  · have h1 : ¬ n < 1 := fun hh => hr (.inl hh)
    have h2 : ¬ 256 < n := fun hh => hr (.inr (.inl hh))
    have h3 : ¬ first = 0 := fun hh => hr (.inr (.inr hh))
    have h4 : ((first : Int) == 0) = false := by simpa using h3
    have HE2 := Lib.hid (HE.out.trans (if_neg hr))
    have HR := Lib.hid (show Calls Tryz.prog 81 #[.pointer (some ⟨g, 0, none⟩), .int .i64 20] w (Said (.tuple #[.int .u32 (h.roots.getD 20 0 : Nat), .int .i64 0]) w) from L.root 20)
    have hc := L.fit.root 20
    have HK := Lib.hid (kind_any (h.roots.getD 20 0) hc w)
    have HA := Lib.hid (L.alloc (h.roots.getD 20 0) hc 1 n)
    have HNW := Lib.hid (show nwH h n = (h.AllocH (h.roots.getD 20 0) 1 n).setRootH 40 (h.AllocO (h.roots.getD 20 0) 1 n) from rfl)
    have HO := Lib.hid (show h.AllocE (h.roots.getD 20 0) 1 n ≠ 0 → h.AllocH (h.roots.getD 20 0) 1 n = h from fun hh => by rw [HM.AllocH_eq, if_neg hh])
    have HO32 := Lib.hid (show h.AllocO (h.roots.getD 20 0) 1 n < 4294967296 by unfold HM.AllocO; have := L.fit.room; have := L.fit.hi; split <;> omega)
    have hks := kind_small (h.roots.getD 20 0)
    have hkl : kindM (h.roots.getD 20 0) < 3 := by unfold kindM; split <;> (try split) <;> omega
    have HAE := h.AllocE_lt (h.roots.getD 20 0) 1 n
    clear HE L hr
    generalize h.roots.getD 20 0 = c at *
    by_cases hk : kindM c = 1
    · have he : nwE h n first = 3 := by rw [HE2.out, if_pos hk]
      have HV := Lib.hid he
      rw [hk] at HK
      clear he HE2 HA HO HNW hks HAE
      go_enter Tryz.func23, Tryz.ntmps23
      go_wp2_with fail
      refine HR.out.mono ?_
      rintro e w1 ⟨rfl, rfl⟩
      go_wp2_with fail
      refine HK.out.mono ?_
      rintro e w1 ⟨rfl, rfl⟩
      go_wp2_with fail
      go_ret2
      exact .inl ⟨by rw [HV.out]; decide, p, by rw [HV.out]; rfl, HL.out, Step.refl _ _⟩
    · have HE3 := Lib.hid (HE2.out.trans (if_neg hk))
      rw [decide_eq_false hk] at hks
      clear HE2
      by_cases ha : h.AllocE c 1 n = 0
      · have HV := Lib.hid (HE3.out.trans ha)
        rw [ha] at HA
        obtain ⟨m, rfl⟩ := Int.eq_ofNat_of_zero_le (show 0 ≤ n by omega)
        have HF := Lib.hid (TM.Ok.fresh (cap := m) (first := first) (by omega) (by omega) hf)
        have HBT := Lib.hid (tab_cells g m first)
        generalize h.AllocO c 1 m = o at *
        generalize h.AllocH c 1 m = h2 at *
        clear HE3 HO hkl HAE hk
        generalize kindM c = kk at *
        go_enter Tryz.func23, Tryz.ntmps23
        go_wp2_with fail
        refine HR.out.mono ?_
        rintro e w1 ⟨rfl, rfl⟩
        go_wp2_with fail
        refine HK.out.mono ?_
        rintro e w1 ⟨rfl, rfl⟩
        go_wp2_with fail
        refine HA.out.mono ?_
        rintro e w1 ⟨p1, rfl, L1, s1⟩
        have HSR := Lib.hid (L1.setRoot 40 o HO32.out)
        have HS1 := Lib.hid s1
        clear L1 s1
        go_wp2_with fail
        refine HSR.out.mono ?_
        rintro e w2 ⟨p2, rfl, L2, s2⟩
        have HL2 := Lib.hid L2
        have HS2 := Lib.hid (HS1.out.trans s2)
        clear L2 s2
        go_wp2_with fail
        go_ret2
        have hb := (Below.refl w2.heap.size w2).alloc (Nat.le_refl _) (.cells (((Tryz.zeroCells96.setIfInBounds 0 (.pointer (some ⟨g, 0, none⟩))).setIfInBounds 513 (.int .i64 (m : Int))).setIfInBounds 514 (.int .u64 (first : Int))) 96)
        have hbl := Blk.new w2 96 (((Tryz.zeroCells96.setIfInBounds 0 (.pointer (some ⟨g, 0, none⟩))).setIfInBounds 513 (.int .i64 (m : Int))).setIfInBounds 514 (.int .u64 (first : Int)))
        rw [HBT.out] at hbl hb
        rw [HBT.out]
        exact .inr ⟨HV.out, p2, w2.heap.size, rfl, ⟨HNW.out ▸ HL2.out.after hb, hbl, HF.out, HL2.out.below.size⟩, HS2.out.below' hb, HS2.out.size⟩
      · have HV := Lib.hid HE3.out
        have hne : ((h.AllocE c 1 n : Int) != 0) = true := by simp; omega
        rw [HO.out ha] at HA
        generalize h.AllocE c 1 n = E at *
        clear HE3 HO hkl hk HAE
        generalize kindM c = kk at *
        go_enter Tryz.func23, Tryz.ntmps23
        go_wp2_with fail
        refine HR.out.mono ?_
        rintro e w1 ⟨rfl, rfl⟩
        go_wp2_with fail
        refine HK.out.mono ?_
        rintro e w1 ⟨rfl, rfl⟩
        go_wp2_with fail
        refine HA.out.mono ?_
        rintro e w1 ⟨p1, rfl, L1, s1⟩
        have HL1 := Lib.hid L1
        have HS1 := Lib.hid s1
        clear L1 s1
        go_wp2_with fail
        go_ret2
        exact .inl ⟨by rw [HV.out]; exact ha, p1, by rw [HV.out]; rfl, HL1.out, HS1.out⟩
end Go.Proofs.YtlkahgagmfhdaaaGreatDoor

namespace Go.Proofs.YtlkahgagmfhdaaaGreatDoor
open Go.RowKit
attribute [local go_sem] Oper.semAt_some

theorem hnum_any (E : Nat) (hE : E < 4294967296) (w : World) : Calls Tryz.prog 24 #[.int .i64 (E : Int)] w (Said (.int .i64 (E : Int)) w) := by
  go_enter Tryz.func24, Tryz.ntmps24
  go_wp2_with fail
  go_ret
  exact ⟨rfl, rfl⟩
def allocs (n : Nat) : Nat → HM
  | 0 => HM.new n
  | j + 1 => (allocs n j).AllocH 0 1 2
def hpsH (n k : Nat) : HM := (allocs n k).setRootH 1 ((allocs n k).objM 1)
def obN (ob : Int) : Nat := min ob.toNat 1000
def HeapsP (W : World) (sz ob : Int) (e : Ending) (w' : World) : Prop :=
  ((sz < 64 ∨ 1048576 < sz) ∧ e = .returned (.tuple #[.pointer none, .pointer none, .bool false]) ∧ Below W.heap.size W w') ∨
  (64 ≤ sz ∧ sz ≤ 1048576 ∧ ∃ p q g k, e = .returned (.tuple #[.pointer (some ⟨g, 0, none⟩), .pointer (some ⟨k, 0, none⟩), .bool true]) ∧ Two W w' p g q k (hpsH sz.toNat (obN ob)) (hpsH sz.toNat (obN ob)) ∧ Below W.heap.size W w')
/-- A block that is none of the heaps' stays. -/
theorem Blk.two {w w' : World} {p q p' q' : HP} {g : Nat} {t : TypeId} {cs : Array Value} (B : Blk w g t cs) (s : Step2 p q p' q' w w') (hp : ¬ p.has g) (hq : ¬ q.has g) : Blk w' g t cs ∧ ¬ p'.has g ∧ ¬ q'.has g :=
  ⟨B.same (s.block g B.lt hp hq), fun h => (s.prows g h).elim hp (fun h => by have := B.lt; omega), fun h => (s.qrows g h).elim hq (fun h => by have := B.lt; omega)⟩
theorem objM_lt {h : HM} (f : h.Fit) : h.objM 1 < 4294967296 := by
  unfold HM.objM
  split <;> omega
set_option maxRecDepth 100000 in
set_option maxHeartbeats 4000000 in
theorem heaps_any (W : World) (E : Env W) (sz ob cp : Int) (fi : Nat) (A : Option Addr) (nd c : Nat) : Calls Tryz.prog 22 #[.agg #[.int .i64 sz, .int .i64 ob, .int .i64 cp, .int .u64 (fi : Int), .slice A nd c]] W (HeapsP W sz ob) := by
  have hb0 := (Below.refl W.heap.size W).alloc (Nat.le_refl _) (.cells #[.int .i64 sz, .int .i64 ob, .int .i64 cp, .int .u64 (fi : Int), .slice A nd c] 50)
  have BX := Lib.hid (Blk.new W 50 #[.int .i64 sz, .int .i64 ob, .int .i64 cp, .int .u64 (fi : Int), .slice A nd c])
  have HB0 := Lib.hid hb0
  have HE := Lib.hid E
  have HNU := Lib.hid (fun w' => hnum_any 0 (by decide) w')
  clear hb0 E
  by_cases hz : sz < 64 ∨ 1048576 < sz
  · have HN := Lib.hid (fun w => new_bad sz hz w)
    have HRN := Lib.hid (fun w => rnew_bad sz hz w)
    go_enter Tryz.func22, Tryz.ntmps22
    obtain ⟨x0, x1, x2, x3, x4⟩ := BX.out.cells5
    go_wp2_with fail
    refine (HN.out _).mono ?_
    rintro e w1 ⟨rfl, rfl⟩
    go_wp2_with fail
    refine (HRN.out _).mono ?_
    rintro e w2 ⟨rfl, rfl⟩
    go_wp2_with fail
    go_ret3
    exact .inl ⟨hz, rfl, HB0.out⟩
  · obtain ⟨n, rfl⟩ := Int.eq_ofNat_of_zero_le (show 0 ≤ sz by omega)
    have h1 : 64 ≤ n := by omega
    have h2 : n ≤ 1048576 := by omega
    have HN := Lib.hid (fun w => new_any n h1 h2 w)
    have HRN := Lib.hid (fun w => rnew_any n h1 h2 w)
    have HSZ := Lib.hid (show (64 : Int) ≤ (n : Int) ∧ (n : Int) ≤ 1048576 by omega)
    clear hz
    go_enter Tryz.func22, Tryz.ntmps22
    obtain ⟨x0, x1, x2, x3, x4⟩ := BX.out.cells5
    go_wp2_with fail
    clear x0 x1 x2 x3 x4
    generalize W.alloc (.cells #[.int .i64 (n : Int), .int .i64 ob, .int .i64 cp, .int .u64 (fi : Int), .slice A nd c] 50) = W1 at *
    refine (HN.out _).mono ?_
    rintro e w1 ⟨p, rfl, H1, hp1, hb1⟩
    have L1 : Live W w1 p p.g (HM.new n) := ⟨H1, rfl, ⟨[], HM.new_good h1 h2 (HM.new_fit h1 h2)⟩, HE.out, fun k hk => Nat.le_trans HB0.out.size (hp1 k hk), HB0.out.trans (hb1.mono HB0.out.size)⟩
    have HL1 := Lib.hid L1
    have HB1 := Lib.hid hb1
    have BX1 := Lib.hid (BX.out.below hb1 BX.out.lt)
    have HX1 := Lib.hid (show ∀ k, p.has k → W1.heap.size ≤ k from hp1)
    obtain ⟨x0, x1, x2, x3, x4⟩ := BX1.out.cells5
    clear H1 hp1 hb1 L1
    unfold ptr
    go_wp2_with fail
    clear x0 x1 x2 x3 x4
    refine (HRN.out _).mono ?_
    rintro e w2 ⟨q, rfl, R2, hq2, hb2⟩
    have HT := Lib.hid (show Two W w2 p p.g q q.g (HM.new n) (HM.new n) from ⟨HL1.out.after hb2, R2, rfl, fun j hj => Nat.le_trans HL1.out.below.size (hq2 j hj), fun j hj hh => by have := HL1.out.at_.lt hh; have := hq2 j hj; omega⟩)
    have BX2 := Lib.hid (BX1.out.below hb2 BX1.out.lt)
    have HXP := Lib.hid (show ¬ p.has W.heap.size ∧ ¬ q.has W.heap.size from ⟨fun hh => by have := HX1.out _ hh; have := BX.out.lt; omega, fun hh => by have := hq2 _ hh; have := BX1.out.lt; omega⟩)
    clear R2 hq2 hb2
    unfold ptr
    go_wp2_with fail
    refine (HNU.out _).mono ?_
    rintro e w3 ⟨rfl, rfl⟩
    go_wp2_with fail
    generalize p.g = g at *
    generalize q.g = k at *
    go_loopw [8] (fun iv wr => ∃ (j : Nat) (pj qj : HP), iv = .int .i64 (j : Int) ∧ j ≤ obN ob ∧ Hid (Two W wr pj g qj k (allocs n j) (allocs n j)) ∧ Hid (Blk wr W.heap.size 50 #[.int .i64 (n : Int), .int .i64 ob, .int .i64 cp, .int .u64 (fi : Int), .slice A nd c]) ∧ Hid (¬ pj.has W.heap.size ∧ ¬ qj.has W.heap.size)) (fun iv _ => obN ob - (intOf iv).toNat)
    case atStart => exact ⟨0, p, q, rfl, Nat.zero_le _, HT, BX2, HXP⟩
    case round =>
      clear HT BX2 HXP HL1 HB1 BX1 HX1
      obtain ⟨j, pj, qj, rfl, hj, HTj, BXj, HXj⟩ := hrel
      obtain ⟨x0, x1, x2, x3, x4⟩ := BXj.out.cells5
      by_cases hlt : j < obN ob
      · have d1 : (j : Int) < ob := by unfold obN at hlt; omega
        have d2 : (j : Int) < 1000 := by unfold obN at hlt; omega
        have HA := Lib.hid (HTj.out.live.alloc 0 (by decide) 1 2)
        have hE := (allocs n j).AllocE_lt 0 1 2
        have HFT := Lib.hid HTj.out.live.fit
        have HAH := Lib.hid (show allocs n (j + 1) = (allocs n j).AllocH 0 1 2 from rfl)
        simp only [Int.natCast_zero] at HA
        go_wp2_with fail
        clear x0 x1 x2 x3 x4
        refine HA.out.mono ?_
        intro e w4 hD
        obtain ⟨p4, q4, rfl, T4, s4⟩ := HTj.out.of_done hD
        obtain ⟨BX4, hp4, hq4⟩ := BXj.out.two s4 HXj.out.1 HXj.out.2
        have HRA := Lib.hid (T4.ralloc HFT.out 0 (by decide) 1 2)
        have HBX4 := Lib.hid BX4
        have HX4 := Lib.hid (And.intro hp4 hq4)
        clear hD T4 s4 BX4 hp4 hq4
        simp only [Int.natCast_zero] at HRA
        generalize (allocs n j).AllocO 0 1 2 = O at *
        go_wp2_with fail
        refine HRA.out.mono ?_
        rintro e w5 ⟨p5, q5, rfl, T5, s5⟩
        obtain ⟨BX5, hp5, hq5⟩ := HBX4.out.two s5 HX4.out.1 HX4.out.2
        have HT5 := Lib.hid T5
        have HBX5 := Lib.hid BX5
        have HX5 := Lib.hid (And.intro hp5 hq5)
        clear T5 s5 BX5 hp5 hq5
        go_wp2_with fail
        go_roundw
        case rel => exact ⟨j + 1, p5, q5, by go_num, by omega, by rw [HAH.out]; exact HT5, HBX5, HX5⟩
        case measure => simp [intOf]; omega
      · have hje : j = obN ob := by omega
        have d1 : ¬ ((j : Int) < ob ∧ (j : Int) < 1000) := by unfold obN at hje; omega
        have HF := Lib.hid (HTj.out.live.first)
        have HO := Lib.hid (objM_lt HTj.out.live.fit)
        have HSR := Lib.hid (HTj.out.live.setRoot 1 ((allocs n j).objM 1) HO.out)
        have HFT := Lib.hid HTj.out.live.fit
        have HHP := Lib.hid (show hpsH n (obN ob) = (allocs n j).setRootH 1 ((allocs n j).objM 1) by rw [← hje]; rfl)
        have HTX := Lib.hid (fun (w' : World) (p' q' : HP) (a : HM) (T' : Two W w' p' g q' k a (allocs n j)) => (show Calls Tryz.prog 80 #[.pointer (some ⟨k, 0, none⟩)] w' (Said (.int .u32 ((allocs n j).objM 1 : Nat)) w') from by have hh := rfirst_any T'.doc HFT.out; rw [ptr, T'.hk] at hh; exact hh))
        clear hje hj hlt
        generalize (allocs n j).objM 1 = O at *
        generalize allocs n j = aa at *
        by_cases e1 : (j : Int) < ob
        · have e2 : ¬ (j : Int) < 1000 := fun hh => d1 ⟨e1, hh⟩
          clear d1
          go_wp2_with fail
          refine HF.out.mono ?_
          rintro e w4 ⟨rfl, rfl⟩
          go_wp2_with fail
          refine HSR.out.mono ?_
          intro e w5 hD
          obtain ⟨p5, q5, rfl, T5, s5⟩ := HTj.out.of_done hD
          have HFI := Lib.hid (HTX.out _ _ _ _ T5)
          have HRS := Lib.hid (T5.rsetRoot HFT.out 1 O HO.out)
          clear hD T5 s5
          go_wp2_with fail
          refine HFI.out.mono ?_
          rintro e w6 ⟨rfl, rfl⟩
          go_wp2_with fail
          refine HRS.out.mono ?_
          rintro e w7 ⟨p7, q7, rfl, T7, s7⟩
          have HT7 := Lib.hid T7
          clear T7 s7
          go_wp2_with fail
          go_ret3
          exact .inr ⟨HSZ.out.1, HSZ.out.2, p7, q7, g, k, rfl, by rw [show (n : Int).toNat = n from rfl, HHP.out]; exact HT7.out, HT7.out.live.below⟩
        · clear d1
          go_wp2_with fail
          refine HF.out.mono ?_
          rintro e w4 ⟨rfl, rfl⟩
          go_wp2_with fail
          refine HSR.out.mono ?_
          intro e w5 hD
          obtain ⟨p5, q5, rfl, T5, s5⟩ := HTj.out.of_done hD
          have HFI := Lib.hid (HTX.out _ _ _ _ T5)
          have HRS := Lib.hid (T5.rsetRoot HFT.out 1 O HO.out)
          clear hD T5 s5
          go_wp2_with fail
          refine HFI.out.mono ?_
          rintro e w6 ⟨rfl, rfl⟩
          go_wp2_with fail
          refine HRS.out.mono ?_
          rintro e w7 ⟨p7, q7, rfl, T7, s7⟩
          have HT7 := Lib.hid T7
          clear T7 s7
          go_wp2_with fail
          go_ret3
          exact .inr ⟨HSZ.out.1, HSZ.out.2, p7, q7, g, k, rfl, by rw [show (n : Int).toNat = n from rfl, HHP.out]; exact HT7.out, HT7.out.live.below⟩
end Go.Proofs.YtlkahgagmfhdaaaGreatDoor

namespace Go.Proofs.YtlkahgagmfhdaaaGreatDoor
open Go.RowKit
attribute [local go_sem] Oper.semAt_some

def hwk0 : HM := hpsH 200 3
def hwk1 : HM := nwH hwk0 2
def htk0 : TM := TM.fresh 2 1
def htk1 : TM := issT hwk1 htk0 2 5
def hwk2 : HM := issH hwk1 htk0 2 5
def htk2 : TM := issT hwk2 htk1 12 3
def hwk3 : HM := issH hwk2 htk1 12 3
def htk3 : TM := issT hwk3 htk2 22 9
def hwk4 : HM := issH hwk3 htk2 22 9
def htk4 : TM := tikT hwk4 htk3 3
def hwk5 : HM := tikH hwk4 htk3 3
def htk5 : TM := issT hwk5 htk4 22 9
def hwk6 : HM := issH hwk5 htk4 22 9
theorem hwk_new : nwE hwk0 2 1 = 0 := by decide +kernel
theorem hwk_i1 : issE hwk1 htk0 2 5 = 0 ∧ issV hwk1 htk0 2 5 = 1 := by decide +kernel
theorem hwk_i2 : issE hwk2 htk1 12 3 = 0 ∧ issV hwk2 htk1 12 3 = 2 := by decide +kernel
theorem hwk_i3 : issE hwk3 htk2 22 9 = 161 := by decide +kernel
theorem hwk_t : tikE hwk4 htk3 3 = 0 := by decide +kernel
theorem hwk_l : (htk3.pass 3).ids ((htk3.pass 3).goneK 256) = [2] := by decide +kernel
theorem sortN_one (x : Nat) : sortN [x] = [x] := by simp [sortN]
theorem hwk_tl : tikL hwk4 htk3 3 = [2] := by
  unfold tikL
  rw [if_pos hwk_t, show (3 : Int).toNat = 3 from rfl, hwk_l, sortN_one]
theorem hwk_i4 : issE hwk5 htk4 22 9 = 0 ∧ issV hwk5 htk4 22 9 = 3 := by decide +kernel
theorem hwk_g : fndE hwk6 htk5 2 = 160 := by decide +kernel
/-- Own rows stay under a table's deed. -/
theorem HKeep.row {p : HP} {gt : Nat} {w w' : World} {B s n : Nat} {e : TypeId} {v : Value} {xs : List Value} (K : HKeep p gt w w') (h : w.ownsRow B e s v n xs) (hB : ∀ k, B ≤ k → ¬ p.has k ∧ k ≠ gt) : w'.ownsRow B e s v n xs :=
  own_keep h fun q hq => K.block q (h.lt q hq).2 (hB q (h.lt q hq).1).1 (hB q (h.lt q hq).1).2
theorem HT.above {W w : World} {p : HP} {g gt : Nat} {h : HM} {t : TM} (T : HT W w p g gt h t) : ∀ k, w.heap.size ≤ k → ¬ p.has k ∧ k ≠ gt :=
  fun k hk => ⟨fun hh => by have := T.live.at_.lt hh; omega, fun e => by have := T.tab.lt; omega⟩
set_option maxRecDepth 100000 in
set_option maxHeartbeats 4000000 in
theorem hawake_any (W : World) (E : Env W) : Calls Tryz.prog 21 #[] W (Told (.bool true) W) := by
  have HH := Lib.hid (show Calls Tryz.prog 22 #[.agg #[.int .i64 200, .int .i64 3, .int .i64 0, .int .u64 0, .slice none 0 0]] W (HeapsP W 200 3) from heaps_any W E 200 3 0 0 none 0 0)
  have HNU := Lib.hid (fun E hE w' => hnum_any E hE w')
  clear E
  go_enter Tryz.func21, Tryz.ntmps21
  go_wp2_with fail
  refine HH.out.mono ?_
  rintro e w1 (⟨hz, -, -⟩ | ⟨-, -, p1, q1, g, k, rfl, T1, hb1⟩)
  · omega
  have L1 : Live W w1 p1 g hwk0 := T1.live
  have HNW := Lib.hid (show Calls Tryz.prog 23 #[.pointer (some ⟨g, 0, none⟩), .int .i64 2, .int .u64 1] w1 (NewP W p1 g hwk0 2 1 w1) from tnew_any L1 2 1 (by decide))
  clear T1 hb1 L1 HH
  go_wp2_with fail
  refine HNW.out.mono ?_
  rintro e w2 (⟨hne, -⟩ | ⟨-, p2, gt, rfl, T2, s2, hgt⟩)
  · exact absurd hwk_new hne
  have T2 : HT W w2 p2 g gt hwk1 htk0 := T2
  have H1 := tissue_any T2 2 (by decide) 5
  rw [hwk_i1.1, hwk_i1.2] at H1
  have HI1 := Lib.hid (show Calls Tryz.prog 26 #[.pointer (some ⟨gt, 0, none⟩), .int .u32 2, .int .i64 5] w2 (HDone W p2 g gt hwk2 htk1 (.tuple #[.int .u64 1, .int .i64 0]) w2) from H1)
  clear T2 s2 hgt H1 HNW
  go_wp2_with fail
  refine (HNU.out 0 (by decide) _).mono ?_
  rintro e w3 ⟨rfl, rfl⟩
  go_wp2_with fail
  refine HI1.out.mono ?_
  rintro e w3 ⟨rfl, T3, K3⟩
  have H2 := tissue_any T3 12 (by decide) 3
  rw [hwk_i2.1, hwk_i2.2] at H2
  have HI2 := Lib.hid (show Calls Tryz.prog 26 #[.pointer (some ⟨gt, 0, none⟩), .int .u32 12, .int .i64 3] w3 (HDone W p2 g gt hwk3 htk2 (.tuple #[.int .u64 2, .int .i64 0]) w3) from H2)
  clear T3 K3 H2 HI1
  go_wp2_with fail
  refine HI2.out.mono ?_
  rintro e w4 ⟨rfl, T4, K4⟩
  have H3 := tissue_any T4 22 (by decide) 9
  rw [hwk_i3] at H3
  have HI3 := Lib.hid (show Calls Tryz.prog 26 #[.pointer (some ⟨gt, 0, none⟩), .int .u32 22, .int .i64 9] w4 (HDone W p2 g gt hwk4 htk3 (.tuple #[.int .u64 (issV hwk3 htk2 22 9 : Nat), .int .i64 161]) w4) from H3)
  clear T4 K4 H3 HI2
  generalize issV hwk3 htk2 22 9 = v3 at *
  go_wp2_with fail
  refine HI3.out.mono ?_
  rintro e w5 ⟨rfl, T5, K5⟩
  have HTK := Lib.hid (ttick_any T5 3 (by decide) (by decide))
  have HAB := Lib.hid T5.above
  clear T5 K5 HI3
  go_wp2_with fail
  refine HTK.out.mono ?_
  rintro e w6 ⟨v, rfl, hown, T6, K6⟩
  rw [hwk_tl] at hown
  have hown : w6.ownsRow w5.heap.size 47 1 v 1 [.int .u64 2] := hown
  have HOW := Lib.hid hown
  have HTE := Lib.hid hwk_t
  rw [HTE.out]
  have H4 := tissue_any T6 22 (by decide) 9
  rw [show tikE hwk4 htk3 3 = 0 from hwk_t] at *
  have H4 : Calls Tryz.prog 26 #[.pointer (some ⟨gt, 0, none⟩), .int .u32 22, .int .i64 9] w6 (HDone W p2 g gt hwk6 htk5 (.tuple #[.int .u64 (issV hwk5 htk4 22 9 : Nat), .int .i64 (issE hwk5 htk4 22 9 : Nat)]) w6) := H4
  rw [hwk_i4.1, hwk_i4.2] at H4
  have HI4 := Lib.hid H4
  clear hown T6 K6 H4 HTK HTE
  go_wp2_with fail
  refine HI4.out.mono ?_
  rintro e w7 ⟨rfl, T7, K7⟩
  have HO7 := Lib.hid (K7.row HOW.out HAB.out)
  have H5 := tget_any T7 2 (by decide)
  rw [hwk_g] at H5
  have HG := Lib.hid (show Calls Tryz.prog 30 #[.pointer (some ⟨gt, 0, none⟩), .int .u64 2] w7 (Told (.tuple #[.int .u32 (gotV hwk6 htk5 2 : Nat), .int .i64 160]) w7) from H5)
  have HB7 := Lib.hid T7.live.below
  clear T7 K7 H5 HI4 HOW HAB
  generalize gotV hwk6 htk5 2 = o7 at *
  go_wp2_with fail
  refine HG.out.mono ?_
  rintro e w8 ⟨rfl, hb8⟩
  obtain ⟨gv, cv, rfl, hrow, -, -⟩ := Row.of_any (own_below HO7.out hb8) (by decide)
  have hcell := hrow.cell (i := 0) (u := .int .u64 2) rfl
  have HB8 := Lib.hid (below_top HB7.out hb8)
  clear hb8 hrow HO7 HG
  go_wp2_with fail
  refine (HNU.out 161 (by decide) _).mono ?_
  rintro e w9 ⟨rfl, rfl⟩
  go_wp2_with fail
  refine (HNU.out 160 (by decide) _).mono ?_
  rintro e w9 ⟨rfl, rfl⟩
  go_wp2_with fail
  go_ret
  exact ⟨rfl, HB8.out⟩
end Go.Proofs.YtlkahgagmfhdaaaGreatDoor

namespace Go.Proofs.YtlkahgagmfhdaaaGreatDoor
open Go.RowKit
attribute [local go_sem] Oper.semAt_some

def NoTb (w : World) (v : Value) : Prop := v = .pointer none ∨ ∃ g, v = .pointer (some ⟨g, 0, none⟩) ∧ w.cell? ⟨g, 513, none⟩ = some (.int .i64 0)
theorem NoTb.below {w w' : World} {v : Value} (h : NoTb w v) (hb : Below w.heap.size w w') : NoTb w' v := by
  rcases h with h | ⟨g, h1, h2⟩
  · exact .inl h
  · exact .inr ⟨g, h1, (hb.cell (p := ⟨g, 513, none⟩) (World.block_lt_of_cell? _ _ h2)).trans h2⟩
section
variable {w : World} {v : Value}
theorem nbroken_no (N : NoTb w v) : Calls Tryz.prog 84 #[v] w (Said (.bool true) w) := by
  rcases N with rfl | ⟨g, rfl, c⟩
  · go_enter Tryz.func84, Tryz.ntmps84
    go_wp2_with fail
    go_ret
    exact ⟨rfl, rfl⟩
  · go_enter Tryz.func84, Tryz.ntmps84
    go_wp2_with fail
    go_ret
    exact ⟨rfl, rfl⟩
theorem nmade_no (N : NoTb w v) : Calls Tryz.prog 99 #[v] w (Said (.bool false) w) := by
  rcases N with rfl | ⟨g, rfl, c⟩
  · go_enter Tryz.func99, Tryz.ntmps99
    go_wp2_with fail
    go_ret
    exact ⟨rfl, rfl⟩
  · go_enter Tryz.func99, Tryz.ntmps99
    go_wp2_with fail
    go_ret
    exact ⟨rfl, rfl⟩
theorem nissue_no (N : NoTb w v) (o n : Value) : Calls Tryz.prog 26 #[v, o, n] w (Said (.tuple #[.int .u64 0, .int .i64 164]) w) := by
  have HB := Lib.hid (nbroken_no N)
  clear N
  go_enter Tryz.func26, Tryz.ntmps26
  go_wp2_with fail
  refine HB.out.mono ?_
  rintro e w1 ⟨rfl, rfl⟩
  go_wp2_with fail
  go_ret2
  exact ⟨rfl, rfl⟩
theorem nfind_no (N : NoTb w v) (id : Value) : Calls Tryz.prog 95 #[v, id] w (Said (.tuple #[.int .i64 0, .int .i64 164]) w) := by
  have HB := Lib.hid (nbroken_no N)
  clear N
  go_enter Tryz.func95, Tryz.ntmps95
  go_wp2_with fail
  refine HB.out.mono ?_
  rintro e w1 ⟨rfl, rfl⟩
  go_wp2_with fail
  go_ret2
  exact ⟨rfl, rfl⟩
theorem nget_no (N : NoTb w v) (id : Value) : Calls Tryz.prog 30 #[v, id] w (Said (.tuple #[.int .u32 0, .int .i64 164]) w) := by
  have HB := Lib.hid (nfind_no N id)
  clear N
  go_enter Tryz.func30, Tryz.ntmps30
  go_wp2_with fail
  refine HB.out.mono ?_
  rintro e w1 ⟨rfl, rfl⟩
  go_wp2_with fail
  go_ret2
  exact ⟨rfl, rfl⟩
theorem nrenew_no (N : NoTb w v) (id n : Value) : Calls Tryz.prog 29 #[v, id, n] w (Said (.int .i64 164) w) := by
  have HB := Lib.hid (nfind_no N id)
  clear N
  go_enter Tryz.func29, Tryz.ntmps29
  go_wp2_with fail
  refine HB.out.mono ?_
  rintro e w1 ⟨rfl, rfl⟩
  go_wp2_with fail
  go_ret
  exact ⟨rfl, rfl⟩
theorem nrelease_no (N : NoTb w v) (id : Value) : Calls Tryz.prog 33 #[v, id] w (Said (.int .i64 164) w) := by
  have HB := Lib.hid (nfind_no N id)
  clear N
  go_enter Tryz.func33, Tryz.ntmps33
  go_wp2_with fail
  refine HB.out.mono ?_
  rintro e w1 ⟨rfl, rfl⟩
  go_wp2_with fail
  go_ret
  exact ⟨rfl, rfl⟩
theorem ntick_no (N : NoTb w v) (n : Value) : Calls Tryz.prog 27 #[v, n] w (Said (.tuple #[.slice none 0 0, .int .i64 164]) w) := by
  have HB := Lib.hid (nbroken_no N)
  clear N
  go_enter Tryz.func27, Tryz.ntmps27
  go_wp2_with fail
  refine HB.out.mono ?_
  rintro e w1 ⟨rfl, rfl⟩
  go_wp2_with fail
  go_ret2
  exact ⟨rfl, rfl⟩
theorem nclear_no (N : NoTb w v) : Calls Tryz.prog 40 #[v] w (Said (.int .i64 0) w) := by
  have HB := Lib.hid (nbroken_no N)
  clear N
  go_enter Tryz.func40, Tryz.ntmps40
  go_wp2_with fail
  refine HB.out.mono ?_
  rintro e w1 ⟨rfl, rfl⟩
  go_wp2_with fail
  go_ret
  exact ⟨rfl, rfl⟩
theorem nlive_no (N : NoTb w v) : Calls Tryz.prog 37 #[v] w (Said (.slice none 0 0) w) := by
  have HB := Lib.hid (nbroken_no N)
  clear N
  go_enter Tryz.func37, Tryz.ntmps37
  go_wp2_with fail
  refine HB.out.mono ?_
  rintro e w1 ⟨rfl, rfl⟩
  go_wp2_with fail
  go_ret
  exact ⟨rfl, rfl⟩
theorem nnow_no (N : NoTb w v) : Calls Tryz.prog 34 #[v] w (Said (.int .i64 0) w) := by
  have HB := Lib.hid (nmade_no N)
  clear N
  go_enter Tryz.func34, Tryz.ntmps34
  go_wp2_with fail
  refine HB.out.mono ?_
  rintro e w1 ⟨rfl, rfl⟩
  go_wp2_with fail
  go_ret
  exact ⟨rfl, rfl⟩
theorem nnext_no (N : NoTb w v) : Calls Tryz.prog 36 #[v] w (Said (.int .u64 0) w) := by
  have HB := Lib.hid (nmade_no N)
  clear N
  go_enter Tryz.func36, Tryz.ntmps36
  go_wp2_with fail
  refine HB.out.mono ?_
  rintro e w1 ⟨rfl, rfl⟩
  go_wp2_with fail
  go_ret
  exact ⟨rfl, rfl⟩
theorem ncap_no (N : NoTb w v) : Calls Tryz.prog 41 #[v] w (Said (.int .i64 0) w) := by
  have HB := Lib.hid (nmade_no N)
  clear N
  go_enter Tryz.func41, Tryz.ntmps41
  go_wp2_with fail
  refine HB.out.mono ?_
  rintro e w1 ⟨rfl, rfl⟩
  go_wp2_with fail
  go_ret
  exact ⟨rfl, rfl⟩
end
end Go.Proofs.YtlkahgagmfhdaaaGreatDoor

namespace Go.Proofs.YtlkahgagmfhdaaaGreatDoor
open Go.RowKit
attribute [local go_sem] Oper.semAt_some

def dsC (l : List (Nat × Nat)) : List Value := l.flatMap fun s => [.bool (usedB s), .int .u64 (s.1 : Int), .int .i64 (s.2 : Int)]
theorem dsC_cons (s : Nat × Nat) (l : List (Nat × Nat)) : dsC (s :: l) = .bool (usedB s) :: .int .u64 (s.1 : Int) :: .int .i64 (s.2 : Int) :: dsC l := rfl
theorem dsC_len : ∀ l : List (Nat × Nat), (dsC l).length = 3 * l.length
  | [] => rfl
  | s :: l => by rw [dsC_cons, List.length_cons, List.length_cons, List.length_cons, List.length_cons, dsC_len l]; omega
theorem dsC_get : ∀ (l : List (Nat × Nat)) (k : Nat), k < l.length → (dsC l)[3 * k]? = some (.bool (usedB (l.getD k (0, 0)))) ∧ (dsC l)[3 * k + 1]? = some (.int .u64 ((l.getD k (0, 0)).1 : Int)) ∧ (dsC l)[3 * k + 2]? = some (.int .i64 ((l.getD k (0, 0)).2 : Int))
  | [], k, h => absurd h (Nat.not_lt_zero _)
  | s :: l, 0, _ => ⟨rfl, rfl, rfl⟩
  | s :: l, k + 1, h => by
    have := dsC_get l k (by simpa using h)
    rw [dsC_cons, show 3 * (k + 1) = 3 * k + 1 + 1 + 1 by omega, show 3 * k + 1 + 1 + 1 + 1 = 3 * k + 1 + 1 + 1 + 1 from rfl]
    simpa using this
theorem dsC_set : ∀ (l : List (Nat × Nat)) (k : Nat) (v : Nat × Nat), dsC (l.set k v) = (((dsC l).set (3 * k) (.bool (usedB v))).set (3 * k + 1) (.int .u64 (v.1 : Int))).set (3 * k + 2) (.int .i64 (v.2 : Int))
  | [], k, v => by simp [dsC]
  | s :: l, 0, v => rfl
  | s :: l, k + 1, v => by
    rw [List.set_cons_succ, dsC_cons, dsC_cons, dsC_set l k v, show 3 * (k + 1) = 3 * k + 1 + 1 + 1 by omega]
    rfl
theorem dsC_nil (m : Nat) : madeCells (Value.agg #[.bool false, .int .u64 0, .int .i64 0]).cells (m * 3) = (dsC (List.replicate m (0, 0))).toArray := by
  apply Array.ext
  · simp [madeCells, dsC_len]; omega
  · intro i h1 h2
    have hi : i < m * 3 := by simpa [madeCells] using h1
    have hg := dsC_get (List.replicate m (0, 0)) (i / 3) (by rw [List.length_replicate]; omega)
    have hz : (List.replicate m ((0, 0) : Nat × Nat)).getD (i / 3) (0, 0) = (0, 0) := by
      rw [List.getD_eq_getElem?_getD, List.getElem?_replicate]
      split <;> rfl
    rw [hz] at hg
    have hl : i < (dsC (List.replicate m (0, 0))).length := by simpa using h2
    have e1 : (dsC (List.replicate m (0, 0))).toArray[i] = (dsC (List.replicate m (0, 0)))[i] := by simp
    rw [e1]
    have e2 : (madeCells (Value.agg #[.bool false, .int .u64 0, .int .i64 0]).cells (m * 3))[i] = (#[Value.bool false, .int .u64 0, .int .i64 0] : Array Value)[i % 3]! := by simp [madeCells, Value.cells]
    rw [e2]
    have e3 : (dsC (List.replicate m (0, 0)))[i]? = some ((dsC (List.replicate m (0, 0)))[i]) := List.getElem?_eq_getElem hl
    rcases (by omega : i % 3 = 0 ∨ i % 3 = 1 ∨ i % 3 = 2) with hr | hr | hr
    · rw [show 3 * (i / 3) = i by omega] at hg
      rw [hr]
      exact Option.some.inj (hg.1.symm.trans e3)
    · rw [show 3 * (i / 3) + 1 = i by omega] at hg
      rw [hr]
      exact Option.some.inj (hg.2.1.symm.trans e3)
    · rw [show 3 * (i / 3) + 2 = i by omega] at hg
      rw [hr]
      exact Option.some.inj (hg.2.2.symm.trans e3)
theorem info_dslot : (Tryz.prog.info? 209).map (fun i => (i.zero, i.size, i.bytes)) = some (some (Value.agg #[.bool false, .int .u64 0, .int .i64 0]), 3, 24) := by kernel_rfl
theorem make_dslots (m : Nat) (hm : m ≤ 256) (w : World) :
    (Instr.makeSlice 116 (.int .i64 (m : Int)) (.int .i64 (m : Int))).run Tryz.prog w = .ok (.slice (some ⟨w.heap.size, 0, none⟩) m m) (w.alloc (.cells (dsC (List.replicate m (0, 0))).toArray 209)) := by
  obtain ⟨i0, hi0, hz0, hz1, hz2⟩ := info_parts info_dslot
  have := run_make_rowN (P := Tryz.prog) 116 209 i0 _ Tryz.underlying116 hi0 hz0 .i64 .i64 m m (Nat.le_refl _) (by rw [hz2]; omega) (by omega) w
  rw [hz1, dsC_nil] at this
  exact this
def dtabC (k kb : Nat) (t : TM) : Array Value := #[.pointer (some ⟨k, 0, none⟩), .slice (some ⟨kb, 0, none⟩) t.cap t.cap, .int .i64 (t.now : Int), .int .u64 (t.next : Int)]
/-- The document's table at block kt, its slots at kb, over the document's heap. -/
structure DT (W w : World) (q : HP) (k kt kb : Nat) (h : HM) (t : TM) : Prop where
  doc : RAt w q h
  hk : q.g = k
  tab : Blk w kt 118 (dtabC k kb t)
  row : Blk w kb 209 (dsC (t.slots.take t.cap)).toArray
  ok : t.Ok
  good : ∃ l, h.Good l
  new : ∀ j, q.has j ∨ j = kt ∨ j = kb → W.heap.size ≤ j
  low : Below W.heap.size W w
/-- What a deed with the document's table leaves as it was. -/
structure DKeep (q : HP) (kt kb : Nat) (w w' : World) : Prop where
  os : w'.os = w.os
  tape : w'.tape = w.tape
  output : w'.output = w.output
  size : w.heap.size ≤ w'.heap.size
  block : ∀ j, j < w.heap.size → ¬ q.has j → j ≠ kt → j ≠ kb → w'.heap[j]? = w.heap[j]?
section
variable {W w w' w'' : World} {q : HP} {k kt kb : Nat} {h h' : HM} {t t' : TM}
theorem DKeep.refl (q : HP) (kt kb : Nat) (w : World) : DKeep q kt kb w w := ⟨rfl, rfl, rfl, Nat.le_refl _, fun _ _ _ _ _ => rfl⟩
theorem DKeep.of_below (hb : Below w.heap.size w w') : DKeep q kt kb w w' := ⟨hb.os, hb.tape, hb.output, hb.size, fun j hj _ _ _ => hb.block j hj⟩
theorem DKeep.of_step (s : Step q q w w') : DKeep q kt kb w w' := ⟨s.os, s.tape, s.output, s.size, fun j hj hn _ _ => s.block j hj hn⟩
theorem DKeep.trans (a : DKeep q kt kb w w') (b : DKeep q kt kb w' w'') : DKeep q kt kb w w'' :=
  ⟨b.os.trans a.os, b.tape.trans a.tape, b.output.trans a.output, Nat.le_trans a.size b.size, fun j hj hn h1 h2 => (b.block j (Nat.lt_of_lt_of_le hj a.size) hn h1 h2).trans (a.block j hj hn h1 h2)⟩
theorem DKeep.after (a : DKeep q kt kb w w') (hb : Below w'.heap.size w' w'') : DKeep q kt kb w w'' := a.trans (.of_below hb)
theorem DKeep.tab (a : DKeep q kt kb w w') (i : Nat) (v : Value) : DKeep q kt kb w (w'.setCell ⟨kt, i, none⟩ v) :=
  ⟨a.os, a.tape, a.output, by simpa [World.setCell] using a.size, fun j hj hn h1 h2 => (Below.heap_setCell w' ⟨kt, i, none⟩ v j h1).trans (a.block j hj hn h1 h2)⟩
theorem DKeep.row (a : DKeep q kt kb w w') (i : Nat) (v : Value) : DKeep q kt kb w (w'.setCell ⟨kb, i, none⟩ v) :=
  ⟨a.os, a.tape, a.output, by simpa [World.setCell] using a.size, fun j hj hn h1 h2 => (Below.heap_setCell w' ⟨kb, i, none⟩ v j h2).trans (a.block j hj hn h1 h2)⟩
theorem DKeep.drew (a : DKeep q kt kb w w') : DKeep q kt kb w w'.drew := ⟨a.os, a.tape, a.output, a.size, a.block⟩
theorem DKeep.below (a : DKeep q kt kb w w') (L : Below W.heap.size W w) (hn : ∀ j, q.has j ∨ j = kt ∨ j = kb → W.heap.size ≤ j) : Below W.heap.size W w' :=
  ⟨a.os.trans L.os, a.tape.trans L.tape, a.output.trans L.output, Nat.le_trans L.size a.size, fun j hj => (a.block j (Nat.lt_of_lt_of_le hj L.size) (fun hh => by have := hn j (.inl hh); omega) (fun e => by have := hn j (.inr (.inl e)); omega) (fun e => by have := hn j (.inr (.inr e)); omega)).trans (L.block j hj)⟩
theorem DT.apart (D : DT W w q k kt kb h t) : ¬ q.has kt ∧ ¬ q.has kb ∧ kt ≠ kb := by
  obtain ⟨hb, hw, hs, hr⟩ := D.doc
  refine ⟨?_, ?_, D.tab.ne_ D.row (by decide)⟩
  · rintro (e | e | e | e)
    · exact D.tab.ne_ hb (by decide) e
    · exact Row.ne_blk hw D.tab (by decide) e.symm
    · exact Row.ne_blk hs D.tab (by decide) e.symm
    · exact Row.ne_blk hr D.tab (by decide) e.symm
  · rintro (e | e | e | e)
    · exact D.row.ne_ hb (by decide) e
    · exact Row.ne_blk hw D.row (by decide) e.symm
    · exact Row.ne_blk hs D.row (by decide) e.symm
    · exact Row.ne_blk hr D.row (by decide) e.symm
theorem DT.same (D : DT W w q k kt kb h t) (hs : ∀ j, q.has j ∨ j = kt ∨ j = kb → w'.heap[j]? = w.heap[j]?) (hb : Below W.heap.size W w') : DT W w' q k kt kb h t :=
  ⟨D.doc.same fun j hj => hs j (.inl hj), D.hk, D.tab.same (hs kt (.inr (.inl rfl))), D.row.same (hs kb (.inr (.inr rfl))), D.ok, D.good, D.new, hb⟩
theorem DT.lt (D : DT W w q k kt kb h t) : ∀ j, q.has j ∨ j = kt ∨ j = kb → j < w.heap.size := by
  rintro j (hj | rfl | rfl)
  · exact D.doc.lt hj
  · exact D.tab.lt
  · exact D.row.lt
theorem DT.after (D : DT W w q k kt kb h t) (hb : Below w.heap.size w w') : DT W w' q k kt kb h t :=
  D.same (fun j hj => hb.block j (D.lt j hj)) (below_top D.low hb)
theorem DT.drew (D : DT W w q k kt kb h t) : DT W w.drew q k kt kb h t := D.after (below_drew (Below.refl _ _))
/-- The heap's deed beside the table. -/
theorem DT.heap (D : DT W w q k kt kb h t) (R : RAt w' q h') (s : Step q q w w') (G : ∃ l, h'.Good l) : DT W w' q k kt kb h' t :=
  ⟨R, D.hk, D.tab.same (s.block kt D.tab.lt D.apart.1), D.row.same (s.block kb D.row.lt D.apart.2.1), D.ok, G, D.new, s.below D.low fun j hj => D.new j (.inl hj)⟩
theorem DT.setNow (D : DT W w q k kt kb h t) (n : Nat) (O : ({ t with now := n } : TM).Ok) : DT W (w.setCell ⟨kt, 2, none⟩ (.int .i64 (n : Int))) q k kt kb h { t with now := n } :=
  ⟨D.doc.same fun j hj => Below.heap_setCell w ⟨kt, 2, none⟩ _ j (fun e => D.apart.1 ((show j = kt from e) ▸ hj)), D.hk, D.tab.set_ 2 _, D.row.far (p := ⟨kt, 2, none⟩) (fun e => D.apart.2.2 e.symm) _, O, D.good, D.new, D.low.setCell (p := ⟨kt, 2, none⟩) (D.new kt (.inr (.inl rfl))) _⟩
theorem DT.setNext (D : DT W w q k kt kb h t) (n : Nat) (O : ({ t with next := n } : TM).Ok) : DT W (w.setCell ⟨kt, 3, none⟩ (.int .u64 (n : Int))) q k kt kb h { t with next := n } :=
  ⟨D.doc.same fun j hj => Below.heap_setCell w ⟨kt, 3, none⟩ _ j (fun e => D.apart.1 ((show j = kt from e) ▸ hj)), D.hk, D.tab.set_ 3 _, D.row.far (p := ⟨kt, 3, none⟩) (fun e => D.apart.2.2 e.symm) _, O, D.good, D.new, D.low.setCell (p := ⟨kt, 3, none⟩) (D.new kt (.inr (.inl rfl))) _⟩
theorem take_getS {α : Type} (l : List α) (c k : Nat) (hk : k < c) (d : α) : (l.take c).getD k d = l.getD k d := by
  rw [List.getD_eq_getElem?_getD, List.getD_eq_getElem?_getD, List.getElem?_take, if_pos hk]
theorem DT.slotsLen (D : DT W w q k kt kb h t) : (t.slots.take t.cap).length = t.cap := by
  rw [List.length_take, D.ok.len]
  have := D.ok.hi
  omega
theorem DT.slot (D : DT W w q k kt kb h t) {i : Nat} (v : Nat × Nat) (O : ({ t with slots := t.slots.set i v } : TM).Ok) :
    DT W (((w.setCell ⟨kb, i * 3, none⟩ (.bool (usedB v))).setCell ⟨kb, i * 3 + 1, none⟩ (.int .u64 (v.1 : Int))).setCell ⟨kb, i * 3 + 2, none⟩ (.int .i64 (v.2 : Int))) q k kt kb h { t with slots := t.slots.set i v } := by
  rw [Nat.mul_comm i 3]
  have ha := D.apart
  refine ⟨D.doc.same fun j hj => ?_, D.hk, ?_, ?_, O, D.good, D.new, ?_⟩
  · have hj2 : j ≠ kb := fun e => ha.2.1 (e ▸ hj)
    rw [Below.heap_setCell _ ⟨kb, 3 * i + 2, none⟩ _ j hj2, Below.heap_setCell _ ⟨kb, 3 * i + 1, none⟩ _ j hj2, Below.heap_setCell _ ⟨kb, 3 * i, none⟩ _ j hj2]
  · exact ((D.tab.far (p := ⟨kb, 3 * i, none⟩) ha.2.2 _).far (p := ⟨kb, 3 * i + 1, none⟩) ha.2.2 _).far (p := ⟨kb, 3 * i + 2, none⟩) ha.2.2 _
  · have h1 := ((D.row.set_ (3 * i) (.bool (usedB v))).set_ (3 * i + 1) (.int .u64 (v.1 : Int))).set_ (3 * i + 2) (.int .i64 (v.2 : Int))
    rw [set_arr, set_arr, set_arr, ← dsC_set, ← List.take_set] at h1
    exact h1
  · have hn := D.new kb (.inr (.inr rfl))
    exact ((D.low.setCell (p := ⟨kb, 3 * i, none⟩) hn _).setCell (p := ⟨kb, 3 * i + 1, none⟩) hn _).setCell (p := ⟨kb, 3 * i + 2, none⟩) hn _
theorem DT.c0 (D : DT W w q k kt kb h t) : w.cell? ⟨kt, 0, none⟩ = some (.pointer (some ⟨k, 0, none⟩)) := D.tab.cell 0
theorem DT.c1 (D : DT W w q k kt kb h t) : w.cell? ⟨kt, 1, none⟩ = some (.slice (some ⟨kb, 0, none⟩) t.cap t.cap) := D.tab.cell 1
theorem DT.c2 (D : DT W w q k kt kb h t) : w.cell? ⟨kt, 2, none⟩ = some (.int .i64 (t.now : Int)) := D.tab.cell 2
theorem DT.c3 (D : DT W w q k kt kb h t) : w.cell? ⟨kt, 3, none⟩ = some (.int .u64 (t.next : Int)) := D.tab.cell 3
theorem DT.cell (D : DT W w q k kt kb h t) {i : Nat} (hi : i < t.cap) : w.cell? ⟨kb, i * 3, none⟩ = some (.bool (usedB (t.at i))) ∧ w.cell? ⟨kb, i * 3 + 1, none⟩ = some (.int .u64 ((t.at i).1 : Int)) ∧ w.cell? ⟨kb, i * 3 + 2, none⟩ = some (.int .i64 ((t.at i).2 : Int)) := by
  have hg := dsC_get (t.slots.take t.cap) i (by rw [D.slotsLen]; exact hi)
  rw [take_getS _ _ _ hi] at hg
  rw [Nat.mul_comm i 3, D.row.cell, D.row.cell, D.row.cell, List.getElem?_toArray, List.getElem?_toArray, List.getElem?_toArray]
  exact hg
theorem DT.fit (D : DT W w q k kt kb h t) : h.Fit := by obtain ⟨l, G⟩ := D.good; exact G.fit
theorem DT.heads (D : DT W w q k kt kb h t) : h.Heads := by obtain ⟨l, G⟩ := D.good; exact G.laid.heads
end
theorem alloc_valB {h : HM} (f : h.Fit) {c : Nat} {t n : Int} (he : h.AllocE c t n = 0) : (h.AllocH c t n).valB (h.AllocO c t n) = true := by
  have hm := f.marks
  unfold HM.valB
  cases ho : objB (h.AllocO c t n) with
  | false => rfl
  | true =>
    unfold HM.isB
    rw [ho]
    unfold HM.AllocO
    rw [HM.AllocH_eq, if_pos he, if_pos he]
    show (!true || (true && (h.starts ++ (true :: List.replicate _ false)).getD (2 * h.words.length / 2) false)) = true
    rw [List.getD_eq_getElem?_getD, List.getElem?_append_right (by omega), show 2 * h.words.length / 2 - h.starts.length = 0 by omega]
    rfl
def RNewP (q : HP) (k : Nat) (b : HM) (n : Int) (first : Nat) (w : World) (e : Ending) (w' : World) : Prop :=
  (nwE b n first ≠ 0 ∧ ∃ q', e = .returned (.tuple #[.pointer none, .int .i64 (nwE b n first : Nat)]) ∧ RAt w' q' b ∧ Step q q' w w') ∨
  (nwE b n first = 0 ∧ ∃ q' kt kb, e = .returned (.tuple #[.pointer (some ⟨kt, 0, none⟩), .int .i64 0]) ∧ RAt w' q' (nwH b n) ∧ Blk w' kt 118 (dtabC k kb (TM.fresh n.toNat first)) ∧ Blk w' kb 209 (dsC ((TM.fresh n.toNat first).slots.take (TM.fresh n.toNat first).cap)).toArray ∧ Step q q' w w' ∧ w.heap.size ≤ kt ∧ w.heap.size ≤ kb)
theorem kind_odd (c : Nat) : (((c : Int) % 2) == 1) = decide (kindM c = 1) := by
  unfold kindM
  by_cases h0 : c = 0
  · subst h0; rfl
  · rw [if_neg h0]
    by_cases h1 : c % 2 = 1
    · rw [if_pos h1]; simp; omega
    · rw [if_neg h1]; simp; omega
set_option maxRecDepth 100000 in
set_option maxHeartbeats 4000000 in
theorem rtnew_any {w : World} {q : HP} {k : Nat} {b : HM} (R : RAt w q b) (hk0 : q.g = k) (f : b.Fit) (n : Int) (first : Nat) (hf : first < 18446744073709551616) : Calls Tryz.prog 48 #[.pointer (some ⟨k, 0, none⟩), .int .i64 n, .int .u64 (first : Int)] w (RNewP q k b n first w) := by
  have HE := Lib.hid (show nwE b n first = if n < 1 ∨ 256 < n ∨ first = 0 then 1 else if kindM (b.roots.getD 20 0) = 1 then 3 else b.AllocE (b.roots.getD 20 0) 1 n from rfl)
  have HT := Lib.hid R
  have HK0 := Lib.hid hk0
  by_cases hr : n < 1 ∨ 256 < n ∨ first = 0
  · have he : nwE b n first = 1 := by rw [HE.out, if_pos hr]
    have HV := Lib.hid he
    clear he HE R hk0
    by_cases h1 : n < 1
    · clear hr
      go_enter Tryz.func48, Tryz.ntmps48
      go_wp2_with fail
      go_ret2
      exact .inl ⟨by rw [HV.out]; decide, q, by rw [HV.out]; rfl, HT.out, Step.refl _ _⟩
    · by_cases h2 : 256 < n
      · clear hr
        go_enter Tryz.func48, Tryz.ntmps48
        go_wp2_with fail
        go_ret2
        exact .inl ⟨by rw [HV.out]; decide, q, by rw [HV.out]; rfl, HT.out, Step.refl _ _⟩
      · obtain rfl : first = 0 := by omega
        clear hr
        simp only [Int.natCast_zero]
        go_enter Tryz.func48, Tryz.ntmps48
        go_wp2_with fail
        go_ret2
        exact .inl ⟨by rw [HV.out]; decide, q, by rw [HV.out]; rfl, HT.out, Step.refl _ _⟩
  · have h1 : ¬ n < 1 := fun hh => hr (.inl hh)
    have h2 : ¬ 256 < n := fun hh => hr (.inr (.inl hh))
    have h3 : ¬ first = 0 := fun hh => hr (.inr (.inr hh))
    have h4 : ((first : Int) == 0) = false := by simpa using h3
    have HE2 := Lib.hid (HE.out.trans (if_neg hr))
    have hroots := f.roots
    have c2 := R.c2
    have x20 := R.root (i := 20) (by omega)
    rw [hk0, hroots] at c2
    have hc := f.root 20
    have HA := rAlloc_any R f (b.roots.getD 20 0) hc 1 n
    rw [HM.AllocV_eq, ptr, hk0] at HA
    have HA := Lib.hid HA
    have HNW := Lib.hid (show nwH b n = (b.AllocH (b.roots.getD 20 0) 1 n).setRootH 40 (b.AllocO (b.roots.getD 20 0) 1 n) from rfl)
    have HO := Lib.hid (show b.AllocE (b.roots.getD 20 0) 1 n ≠ 0 → b.AllocH (b.roots.getD 20 0) 1 n = b from fun hh => by rw [HM.AllocH_eq, if_neg hh])
    have HVB := Lib.hid (fun he => alloc_valB f (c := b.roots.getD 20 0) (t := 1) (n := n) he)
    have HFT := Lib.hid (show b.AllocE (b.roots.getD 20 0) 1 n = 0 → (b.AllocH (b.roots.getD 20 0) 1 n).roots.length = 64 from fun hh => by rw [HM.AllocH_eq, if_pos hh]; exact hroots)
    have hks := kind_odd (b.roots.getD 20 0)
    have HAE := b.AllocE_lt (b.roots.getD 20 0) 1 n
    clear HE R hr hroots hk0
    generalize b.roots.getD 20 0 = c at *
    by_cases hk : kindM c = 1
    · have he : nwE b n first = 3 := by rw [HE2.out, if_pos hk]
      have HV := Lib.hid he
      rw [decide_eq_true hk] at hks
      clear he HE2 HA HO HNW HAE hk HVB HFT
      go_enter Tryz.func48, Tryz.ntmps48
      go_wp2_with fail
      go_ret2
      exact .inl ⟨by rw [HV.out]; decide, q, by rw [HV.out]; rfl, HT.out, Step.refl _ _⟩
    · have HE3 := Lib.hid (HE2.out.trans (if_neg hk))
      rw [decide_eq_false hk] at hks
      clear HE2 hk
      by_cases ha : b.AllocE c 1 n = 0
      · have HV := Lib.hid (HE3.out.trans ha)
        have HVB := Lib.hid (HVB.out ha)
        have HFT := Lib.hid (HFT.out ha)
        rw [ha] at HA
        obtain ⟨m, rfl⟩ := Int.eq_ofNat_of_zero_le (show 0 ≤ n by omega)
        have HMK := Lib.hid (make_dslots m (by omega))
        have HTK := Lib.hid (show (TM.fresh m first).slots.take (TM.fresh m first).cap = List.replicate m (0, 0) by
          show (List.replicate 256 ((0, 0) : Nat × Nat)).take m = _
          rw [List.take_replicate]; congr 1; omega)
        clear HE3 HO HAE
        generalize b.AllocO c 1 m = o at *
        generalize b.AllocH c 1 m = b2 at *
        go_enter Tryz.func48, Tryz.ntmps48
        go_wp2_with fail
        refine HA.out.mono ?_
        rintro e w1 ⟨q1, rfl, T1, s1⟩
        have y2 := T1.c2
        have y40 := T1.root (i := 40) (by rw [HFT.out]; decide)
        have y40f := T1.2.2.2.frozen 40
        rw [s1.g.trans HK0.out, HFT.out] at y2
        have HT1 := Lib.hid T1
        have HS1 := Lib.hid s1
        have hmk := fun w => HMK.out w
        clear T1 s1 c2 x20
        go_wp2_with fail
        go_ret2
        have R2 := HT1.out.setRoot 40 o
        have s2 := HS1.out.setCell (a := ⟨q1.gr, 40, none⟩) ((HS1.out.rows q1.gr (.inr (.inr (.inr rfl))))) (.int .u32 o)
        have e2 : nwH b m = { b2 with roots := b2.roots.set 40 o } := by
          rw [HNW.out]
          unfold HM.setRootH HM.setRootE
          rw [HVB.out]
          rfl
        have hb3 := (Below.refl (w1.setCell ⟨q1.gr, 40, none⟩ (.int .u32 o)).heap.size (w1.setCell ⟨q1.gr, 40, none⟩ (.int .u32 o))).alloc (Nat.le_refl _) (.cells (dsC (List.replicate m (0, 0))).toArray 209)
        have hb4 := hb3.alloc hb3.size (.cells #[.pointer (some ⟨k, 0, none⟩), .slice (some ⟨w1.heap.size, 0, none⟩) m m, .int .i64 0, .int .u64 (first : Int)] 118)
        have B3 := (Blk.new (w1.setCell ⟨q1.gr, 40, none⟩ (.int .u32 o)) 209 (dsC (List.replicate m (0, 0))).toArray).alloc (.cells #[.pointer (some ⟨k, 0, none⟩), .slice (some ⟨w1.heap.size, 0, none⟩) m m, .int .i64 0, .int .u64 (first : Int)] 118)
        have B4 := Blk.new ((w1.setCell ⟨q1.gr, 40, none⟩ (.int .u32 o)).alloc (.cells (dsC (List.replicate m (0, 0))).toArray 209)) 118 #[.pointer (some ⟨k, 0, none⟩), .slice (some ⟨w1.heap.size, 0, none⟩) m m, .int .i64 0, .int .u64 (first : Int)]
        have hsz : (w1.setCell ⟨q1.gr, 40, none⟩ (.int .u32 o)).heap.size = w1.heap.size := by simp [World.setCell]
        have hsz2 : ((w1.setCell ⟨q1.gr, 40, none⟩ (.int .u32 o)).alloc (.cells (dsC (List.replicate m (0, 0))).toArray 209)).heap.size = w1.heap.size + 1 := by rw [World.size_alloc, hsz]
        rw [hsz] at B3
        rw [hsz2] at B4
        refine .inr ⟨HV.out, q1, w1.heap.size + 1, w1.heap.size, rfl, by rw [e2]; exact R2.below hb4, B4, ?_, s2.below' hb4, by have := HS1.out.size; omega, HS1.out.size⟩
        rw [Int.toNat_natCast, HTK.out]
        exact B3
      · have HV := Lib.hid HE3.out
        have hne : ((b.AllocE c 1 n : Int) != 0) = true := by simp; omega
        rw [HO.out ha] at HA
        have HA0 := Lib.hid ha
        generalize b.AllocE c 1 n = E at *
        clear HE3 HO HAE ha HVB HFT
        go_enter Tryz.func48, Tryz.ntmps48
        go_wp2_with fail
        refine HA.out.mono ?_
        rintro e w1 ⟨q1, rfl, T1, s1⟩
        have HT1 := Lib.hid T1
        have HS1 := Lib.hid s1
        clear T1 s1
        go_wp2_with fail
        go_ret2
        exact .inl ⟨by rw [HV.out]; exact HA0.out, q1, by rw [HV.out]; rfl, HT1.out, HS1.out⟩
end Go.Proofs.YtlkahgagmfhdaaaGreatDoor

namespace Go.Proofs.YtlkahgagmfhdaaaGreatDoor
open Go.RowKit
attribute [local go_sem] Oper.semAt_some

def hps (sz ob : Int) : HM := hpsH sz.toNat (obN ob)
def BegunP (W : World) (sz ob cp : Int) (fi : Nat) (e : Ending) (w' : World) : Prop :=
  (e = .returned (.tuple #[.pointer none, .pointer none, .bool false]) ∧ Below W.heap.size W w') ∨
  (nwE (hps sz ob) cp fi = 0 ∧ ∃ p g gt, e = .returned (.tuple #[.pointer (some ⟨gt, 0, none⟩), .pointer (some ⟨g, 0, none⟩), .bool true]) ∧ HT W w' p g gt (nwH (hps sz ob) cp) (TM.fresh cp.toNat fi))
set_option maxRecDepth 100000 in
set_option maxHeartbeats 4000000 in
theorem begun_any (W : World) (E : Env W) (sz ob cp : Int) (fi : Nat) (hfi : fi < 18446744073709551616) (A : Option Addr) (nd c : Nat) : Calls Tryz.prog 31 #[.agg #[.int .i64 sz, .int .i64 ob, .int .i64 cp, .int .u64 (fi : Int), .slice A nd c]] W (BegunP W sz ob cp fi) := by
  have hb0 := (Below.refl W.heap.size W).alloc (Nat.le_refl _) (.cells #[.int .i64 sz, .int .i64 ob, .int .i64 cp, .int .u64 (fi : Int), .slice A nd c] 50)
  have BX := Lib.hid (Blk.new W 50 #[.int .i64 sz, .int .i64 ob, .int .i64 cp, .int .u64 (fi : Int), .slice A nd c])
  have HB0 := Lib.hid hb0
  have HH := Lib.hid (heaps_any _ (E.below hb0) sz ob cp fi A nd c)
  have HNU := Lib.hid (fun w' => hnum_any 0 (by decide) w')
  have HE := Lib.hid E
  clear hb0 E
  go_enter Tryz.func31, Tryz.ntmps31
  obtain ⟨x0, x1, x2, x3, x4⟩ := BX.out.cells5
  have HSZ := Lib.hid BX.out.lt
  go_wp2_with fail
  clear x0 x1 x2 x3 x4
  generalize hW1 : W.alloc (.cells #[.int .i64 sz, .int .i64 ob, .int .i64 cp, .int .u64 (fi : Int), .slice A nd c] 50) = W1 at *
  clear hW1
  refine HH.out.mono ?_
  rintro e w1 (⟨hz, rfl, hb1⟩ | ⟨hz1, hz2, p, q, g, k, rfl, T1, hb1⟩)
  · have HB1 := Lib.hid (below_top HB0.out hb1)
    clear hb1 hz
    go_wp2_with fail
    go_ret3
    exact .inl ⟨rfl, HB1.out⟩
  · have BX1 := Lib.hid (BX.out.below hb1 BX.out.lt)
    have HT1 := Lib.hid T1
    have HXS := Lib.hid (show ¬ p.has W.heap.size ∧ ¬ q.has W.heap.size from ⟨fun hh => by have := T1.live.new _ hh; have := HSZ.out; omega, fun hh => by have := T1.qnew _ hh; have := HSZ.out; omega⟩)
    have HRN := Lib.hid (show Calls Tryz.prog 48 #[.pointer (some ⟨k, 0, none⟩), .int .i64 cp, .int .u64 (fi : Int)] w1 (RNewP q k (hps sz ob) cp fi w1) from rtnew_any T1.doc T1.hk T1.live.fit cp fi hfi)
    have HB1 := Lib.hid (below_top HB0.out hb1)
    obtain ⟨x0, x1, x2, x3, x4⟩ := BX1.out.cells5
    clear T1 hb1 HH BX hz1 hz2
    go_wp2_with fail
    refine HRN.out.mono ?_
    rintro e w2 (⟨hne, q2, rfl, R2, s2⟩ | ⟨h0, q2, kt, kb, rfl, R2, -, -, s2, -, -⟩)
    · have HB2 := Lib.hid (s2.below HB1.out (fun j hj => Nat.le_trans (by have := HB0.out.size; exact this) (HT1.out.qnew j hj)))
      have hn2 : ((nwE (hps sz ob) cp fi : Int) != 0) = true := by simp; omega
      generalize nwE (hps sz ob) cp fi = E at *
      clear R2 s2 hne
      clear x0 x1 x2 x3 x4
      go_wp2_with fail
      go_ret3
      exact .inl ⟨rfl, HB2.out⟩
    · have T2 := HT1.out.right R2 s2
      have HT2 := Lib.hid T2
      have BX2 := Lib.hid (BX1.out.same (s2.block _ BX1.out.lt HXS.out.2))
      have HNW := Lib.hid (show Calls Tryz.prog 23 #[.pointer (some ⟨g, 0, none⟩), .int .i64 cp, .int .u64 (fi : Int)] w2 (NewP W1 p g (hps sz ob) cp fi w2) from tnew_any T2.live cp fi hfi)
      have HV := Lib.hid h0
      clear T2 R2 s2 h0 x0 x1 x2 x3 x4
      obtain ⟨x0, x1, x2, x3, x4⟩ := BX2.out.cells5
      go_wp2_with fail
      refine HNW.out.mono ?_
      rintro e w3 (⟨hne, -⟩ | ⟨-, p3, gt, rfl, T3, s3, -⟩)
      · exact absurd HV.out hne
      have HT3 := Lib.hid T3
      clear T3 s3 x0 x1 x2 x3 x4
      go_wp2_with fail
      refine (HNU.out _).mono ?_
      rintro e w4 ⟨rfl, rfl⟩
      go_wp2_with fail
      go_ret3
      have T4 := HT3.out
      exact .inr ⟨HV.out, p3, g, gt, rfl, ⟨⟨T4.live.at_, T4.live.hg, T4.live.good, HE.out, fun k hk => Nat.le_trans HB0.out.size (T4.live.new k hk), HB0.out.trans (T4.live.below.mono HB0.out.size)⟩, T4.tab, T4.ok, Nat.le_trans HB0.out.size T4.new⟩⟩
theorem add_cell (a : Addr) (n i : Nat) : (⟨(a.add n).block, (a.add n).off + (i + 1), none⟩ : Addr) = a.add (n + (i + 1)) := by
  unfold Addr.add
  by_cases h : n = 0
  · subst h; simp
  · rw [if_neg h, if_neg (by omega)]; simp [Nat.add_assoc]
theorem hds_take {xs ys : List H3} {k : Nat} {x y : H3} (hx : xs[k]? = some x) (hy : ys[k]? = some y) (he : x = y) (ht : xs.take k = ys.take k) : xs.take (k + 1) = ys.take (k + 1) := by
  rw [List.take_add_one, List.take_add_one, ht, hx, hy, he]
set_option maxRecDepth 100000 in
set_option maxHeartbeats 4000000 in
theorem sameHandles_any (A A' : Option Addr) (n n' c c' : Nat) (xs ys : List H3) (w : World) (hn : n ≤ 9223372036854775807) (hn' : n' ≤ 9223372036854775807) (hr : Reads w w.heap.size 3 A n (hdsC xs)) (hr' : Reads w w.heap.size 3 A' n' (hdsC ys)) :
    Calls Tryz.prog 39 #[.slice A n c, .slice A' n' c'] w (Told (.bool (decide (xs = ys))) w) := by
  have hl : xs.length = n := by have := hr.1; rw [hdsC_len] at this; omega
  have hl' : ys.length = n' := by have := hr'.1; rw [hdsC_len] at this; omega
  have HL := Lib.hid hl; have HL' := Lib.hid hl'
  clear hl hl'
  have HR := Lib.hid hr; have HR' := Lib.hid hr'
  clear hr hr'
  by_cases hnn : n = n'
  · subst hnn
    go_enter Tryz.func39, Tryz.ntmps39
    go_wp2_with fail
    go_loopw [5] (fun i wr => ∃ k : Nat, k ≤ n ∧ i = .int .i64 k ∧ Hid (xs.take k = ys.take k) ∧ Hid (Below w.heap.size w wr)) (fun i _ => n - (intOf i).toNat)
    case atStart => exact ⟨0, by omega, rfl, Lib.hid rfl, Lib.hid (Below.refl _ _)⟩
    case round =>
      obtain ⟨k, hk, rfl, HT, HB⟩ := hrel
      by_cases hlt : k < n
      · obtain ⟨x, hx⟩ : ∃ x, xs[k]? = some x := ⟨_, List.getElem?_eq_getElem (by rw [HL.out]; exact hlt)⟩
        obtain ⟨y, hy⟩ : ∃ y, ys[k]? = some y := ⟨_, List.getElem?_eq_getElem (by rw [HL'.out]; exact hlt)⟩
        obtain ⟨ad, rfl, hbl, hc⟩ := HR.out.2 (by omega)
        obtain ⟨ad', rfl, hbl', hc'⟩ := HR'.out.2 (by omega)
        have g0 := hdsC_get hx
        have g1 := hdsC_get hy
        have a0 := (HB.out.cell (p := ad.add (k * 3)) (by rw [block_of_add]; exact hbl)).trans (hc _ _ g0.1)
        have a1 := (HB.out.cell (p := ad.add (k * 3 + 1)) (by rw [block_of_add]; exact hbl)).trans (hc _ _ g0.2.1)
        have a2 := (HB.out.cell (p := ad.add (k * 3 + 2)) (by rw [block_of_add]; exact hbl)).trans (hc _ _ g0.2.2)
        have b0 := (HB.out.cell (p := ad'.add (k * 3)) (by rw [block_of_add]; exact hbl')).trans (hc' _ _ g1.1)
        have b1 := (HB.out.cell (p := ad'.add (k * 3 + 1)) (by rw [block_of_add]; exact hbl')).trans (hc' _ _ g1.2.1)
        have b2 := (HB.out.cell (p := ad'.add (k * 3 + 2)) (by rw [block_of_add]; exact hbl')).trans (hc' _ _ g1.2.2)
        rw [← add_cell ad (k * 3) 0] at a1
        rw [← add_cell ad (k * 3) 1] at a2
        rw [← add_cell ad' (k * 3) 0] at b1
        rw [← add_cell ad' (k * 3) 1] at b2
        have HX := Lib.hid hx
        have HY := Lib.hid hy
        clear hx hy g0 g1 hc hc' hbl hbl' HR HR'
        rcases x with ⟨x0, x1, x2⟩
        rcases y with ⟨y0, y1, y2⟩
        dsimp only at a0 a1 a2 b0 b1 b2
        by_cases he : ((x0, x1, x2) : H3) = (y0, y1, y2)
        · obtain ⟨rfl, rfl, rfl⟩ : x0 = y0 ∧ x1 = y1 ∧ x2 = y2 := by simpa using he
          have HE := Lib.hid (hds_take HX.out HY.out rfl HT.out)
          clear he
          go_upto_region 6 with fail
          go_region
          all_goals go_wp2_with fail
          all_goals go_roundw
          case rel => exact ⟨k + 1, by omega, by go_num, HE, Lib.hid (below_drew HB.out)⟩
          case measure => simp [intOf]; omega
        · have HN := Lib.hid (show ¬ xs = ys from fun e => he (Option.some.inj (by rw [← HX.out, ← HY.out, e])))
          have hc : ((x0 : Int) == (y0 : Int)) = false ∨ (x0 = y0 ∧ ((x1 : Int) == (y1 : Int)) = false) ∨ (x0 = y0 ∧ x1 = y1 ∧ ((x2 : Int) == (y2 : Int)) = false) := by
            by_cases h0 : x0 = y0
            · by_cases h1 : x1 = y1
              · by_cases h2 : x2 = y2
                · exact absurd (by rw [h0, h1, h2]) he
                · exact .inr (.inr ⟨h0, h1, by simp; omega⟩)
              · exact .inr (.inl ⟨h0, by simp; omega⟩)
            · exact .inl (by simp; omega)
          clear he HX HY
          rcases hc with h0 | ⟨rfl, h1⟩ | ⟨rfl, rfl, h2⟩
          all_goals
            go_upto_region 6 with fail
            go_region
            all_goals go_wp2_with fail
            all_goals go_ret
            all_goals exact ⟨by rw [decide_eq_false HN.out]; rfl, below_drew HB.out⟩
      · obtain rfl : k = n := by omega
        have HA := Lib.hid (show xs = ys by have h1 := HT.out; rw [List.take_of_length_le (by rw [HL.out]; exact Nat.le_refl _), List.take_of_length_le (by rw [HL'.out]; exact Nat.le_refl _)] at h1; exact h1)
        go_wp2_with fail
        go_ret
        exact ⟨by rw [decide_eq_true HA.out]; rfl, HB.out⟩
  · have HF := Lib.hid (show ¬ xs = ys from fun e => hnn (by rw [← HL.out, ← HL'.out, e]))
    have hv : ((n : Int) != (n' : Int)) = true := by simp; omega
    clear hnn
    go_enter Tryz.func39, Tryz.ntmps39
    go_wp2_with fail
    go_ret
    exact ⟨by rw [decide_eq_false HF.out]; rfl, Below.refl _ _⟩
end Go.Proofs.YtlkahgagmfhdaaaGreatDoor

namespace Go.Proofs.YtlkahgagmfhdaaaGreatDoor
open Go.RowKit
attribute [local go_sem] Oper.semAt_some

/-- A deed of a script. -/
structure Hd5 where
  k : Int
  o : Nat
  id : Nat
  n : Int
  i : Int
def Hd5.vals (d : Hd5) : List Value := [.int .i64 d.k, .int .u32 (d.o : Int), .int .u64 (d.id : Int), .int .i64 d.n, .int .i64 d.i]
structure Hd5.Fit (d : Hd5) : Prop where
  k1 : -9223372036854775808 ≤ d.k
  k2 : d.k ≤ 9223372036854775807
  o : d.o < 4294967296
  id : d.id < 18446744073709551616
  n1 : -9223372036854775808 ≤ d.n
  n2 : d.n ≤ 9223372036854775807
  i1 : -9223372036854775808 ≤ d.i
  i2 : d.i ≤ 9223372036854775807
/-- The deeds of a script in memory. -/
def Hds5 (w : World) (B : Nat) (A : Option Addr) (n : Nat) (ds : List Hd5) : Prop := ds.length = n ∧ ∀ i d, ds[i]? = some d → d.Fit ∧ ∃ ad, A = some ad ∧ ad.block < B ∧ ∀ j v, d.vals[j]? = some v → w.cell? (ad.add (i * 5 + j)) = some v
theorem Hds5.below {w w' : World} {B : Nat} {A : Option Addr} {n : Nat} {ds : List Hd5} (H : Hds5 w B A n ds) (hb : Below B w w') : Hds5 w' B A n ds :=
  ⟨H.1, fun i d hd => by
    obtain ⟨f, ad, h1, h2, h3⟩ := H.2 i d hd
    exact ⟨f, ad, h1, h2, fun j v hv => (hb.cell (p := ad.add (i * 5 + j)) (by rw [block_of_add]; exact h2)).trans (h3 j v hv)⟩⟩
theorem Hds5.at_ {w : World} {B : Nat} {A : Option Addr} {n : Nat} {ds : List Hd5} (H : Hds5 w B A n ds) {i : Nat} (hi : i < n) : ∃ d ad, ds[i]? = some d ∧ d.Fit ∧ A = some ad ∧ ad.block < B ∧
    w.cell? (ad.add (i * 5)) = some (.int .i64 d.k) ∧ w.cell? (ad.add (i * 5 + 1)) = some (.int .u32 (d.o : Int)) ∧ w.cell? (ad.add (i * 5 + 2)) = some (.int .u64 (d.id : Int)) ∧ w.cell? (ad.add (i * 5 + 3)) = some (.int .i64 d.n) ∧ w.cell? (ad.add (i * 5 + 4)) = some (.int .i64 d.i) := by
  have hl : i < ds.length := by rw [H.1]; exact hi
  obtain ⟨f, ad, h1, h2, h3⟩ := H.2 i _ (List.getElem?_eq_getElem hl)
  exact ⟨_, ad, List.getElem?_eq_getElem hl, f, h1, h2, h3 0 _ rfl, h3 1 _ rfl, h3 2 _ rfl, h3 3 _ rfl, h3 4 _ rfl⟩
theorem own_readsH {w : World} {base n s : Nat} {e : TypeId} {v : Value} {xs : List Value} (h : w.ownsRow base e s v n xs) : ∃ A c, v = .slice A n c ∧ Reads w w.heap.size s A n xs ∧ n ≤ 9223372036854775807 := by
  obtain ⟨h1, h2⟩ := h
  rcases h2 with ⟨rfl, h0⟩ | ⟨g, cap, cur, rfl, hb, hh, hl, hm, hc, hx⟩
  · have : n = 0 := h0
    subst this
    exact ⟨none, 0, rfl, ⟨h1, fun h => absurd h (by omega)⟩, by omega⟩
  · have hB : Blk w g e cur := hh
    refine ⟨some ⟨g, 0, none⟩, cap, rfl, ⟨h1, fun _ => ⟨_, rfl, hB.lt, fun j u hu => ?_⟩⟩, by simp only [maxLen] at hm; omega⟩
    rw [WideShapes.add_plain, Nat.zero_add, hB.cell]
    rw [← hx, List.getElem?_take] at hu
    split at hu
    · simpa using hu
    · cases hu
set_option maxRecDepth 100000 in
set_option maxHeartbeats 8000000 in
theorem fullL_any (W : World) (E : Env W) (sz ob cp : Int) (fi : Nat) (A : Option Addr) (nd c : Nat) (ds : List Hd5) (hfi : fi < 18446744073709551616) (hnd : nd ≤ 9223372036854775807) (hds : Hds5 W W.heap.size A nd ds) (d : Hd5) (fd : d.Fit) :
    Calls Tryz.prog 6 #[.agg #[.int .i64 sz, .int .i64 ob, .int .i64 cp, .int .u64 (fi : Int), .slice A nd c], .agg #[.int .i64 d.k, .int .u32 (d.o : Int), .int .u64 (d.id : Int), .int .i64 d.n, .int .i64 d.i]] W (Told (.bool true) W) := by
  have HAW := Lib.hid (fun (w : World) (E : Env w) => hawake_any w E)
  have HNU := Lib.hid (fun E hE w' => hnum_any E hE w')
  have HDS := Lib.hid hds
  have HFD := Lib.hid fd
  have hb1 := ((Below.refl W.heap.size W).alloc (Nat.le_refl _) (.cells #[.int .i64 sz, .int .i64 ob, .int .i64 cp, .int .u64 (fi : Int), .slice A nd c] 50)).alloc (by rw [World.size_alloc]; omega) (.cells #[.int .i64 d.k, .int .u32 (d.o : Int), .int .u64 (d.id : Int), .int .i64 d.n, .int .i64 d.i] 72)
  have HB1 := Lib.hid hb1
  have hs1 : (W.alloc (.cells #[.int .i64 sz, .int .i64 ob, .int .i64 cp, .int .u64 (fi : Int), .slice A nd c] 50)).heap.size = W.heap.size + 1 := World.size_alloc _ _
  have BS0 := (Blk.new W 50 #[.int .i64 sz, .int .i64 ob, .int .i64 cp, .int .u64 (fi : Int), .slice A nd c]).alloc (.cells #[.int .i64 d.k, .int .u32 (d.o : Int), .int .u64 (d.id : Int), .int .i64 d.n, .int .i64 d.i] 72)
  have BD0 := Blk.new (W.alloc (.cells #[.int .i64 sz, .int .i64 ob, .int .i64 cp, .int .u64 (fi : Int), .slice A nd c] 50)) 72 #[.int .i64 d.k, .int .u32 (d.o : Int), .int .u64 (d.id : Int), .int .i64 d.n, .int .i64 d.i]
  rw [hs1] at BD0
  have HBG := Lib.hid (begun_any _ (E.below hb1) sz ob cp fi hfi A nd c)
  have HE := Lib.hid (E.below hb1)
  obtain ⟨x0, x1, x2, x3, x4⟩ := BS0.cells5
  have BS := Lib.hid BS0
  have BD := Lib.hid BD0
  clear hds fd hb1 hs1 BS0 BD0 E
  go_enter Tryz.func6, Tryz.ntmps6
  go_wp2_with fail
  clear x0 x1 x2 x3 x4
  generalize hW2 : (W.alloc (.cells #[.int .i64 sz, .int .i64 ob, .int .i64 cp, .int .u64 (fi : Int), .slice A nd c] 50)).alloc (.cells #[.int .i64 d.k, .int .u32 (d.o : Int), .int .u64 (d.id : Int), .int .i64 d.n, .int .i64 d.i] 72) = W2 at *
  clear hW2
  refine HBG.out.mono ?_
  rintro e w1 (⟨rfl, hb1⟩ | ⟨h0, p, g, gt, rfl, T1⟩)
  · have HA1 := Lib.hid (HAW.out w1 (HE.out.below hb1))
    have HB2 := Lib.hid (below_top HB1.out hb1)
    clear hb1 HBG
    go_wp2_with fail
    refine HA1.out.mono ?_
    rintro e w2 ⟨rfl, hb2⟩
    have HB3 := Lib.hid (below_top HB2.out hb2)
    clear hb2
    go_wp2_with fail
    go_ret
    exact ⟨rfl, HB3.out⟩
  · have HA1 := Lib.hid (HAW.out w1 T1.live.envw)
    have BS1 := Lib.hid (BS.out.below T1.live.below BS.out.lt)
    have BD1 := Lib.hid (BD.out.below T1.live.below BD.out.lt)
    have hcp : (TM.fresh cp.toNat fi).cap = cp.toNat := rfl
    have HCP := Lib.hid (show 1 ≤ cp by have := T1.ok.lo; omega)
    have HT1 := Lib.hid T1
    clear T1 h0 HBG
    generalize nwH (hps sz ob) cp = h0 at *
    generalize TM.fresh cp.toNat fi = t0 at *
    have HC1 := Lib.hid hcp
    clear hcp
    go_wp2_with fail
    refine HA1.out.mono ?_
    rintro e w2 ⟨rfl, hb2⟩
    have HT2 := Lib.hid (HT1.out.after hb2)
    have BS2 := Lib.hid (BS1.out.below hb2 BS1.out.lt)
    have BD2 := Lib.hid (BD1.out.below hb2 BD1.out.lt)
    clear hb2 HT1 BS1 BD1 HA1
    go_wp2_with fail
    have HLB := Lib.hid (show ∀ (h : HM) (t : TM) (wr : World), HT W2 wr p g gt h t → ∀ b, b < W2.heap.size → ¬ p.has b ∧ b ≠ gt from fun h t wr T b hb => ⟨fun hh => by have := T.live.new _ hh; omega, fun e => by have := T.new; omega⟩)
    have HSL := Lib.hid BS.out.lt
    have HDL := Lib.hid BD.out.lt
    go_loopw [8] (fun iv wr => ∃ (j : Nat) (h : HM) (t : TM), iv = .int .i64 (j : Int) ∧ j ≤ nd ∧ Hid (HT W2 wr p g gt h t) ∧ Hid (t.cap = cp.toNat) ∧ Hid (Blk wr W.heap.size 50 #[.int .i64 sz, .int .i64 ob, .int .i64 cp, .int .u64 (fi : Int), .slice A nd c]) ∧ Hid (Blk wr (W.heap.size + 1) 72 #[.int .i64 d.k, .int .u32 (d.o : Int), .int .u64 (d.id : Int), .int .i64 d.n, .int .i64 d.i])) (fun iv _ => nd - (intOf iv).toNat)
    case atStart => exact ⟨0, h0, t0, rfl, Nat.zero_le _, HT2, HC1, BS2, BD2⟩
    case round =>
      clear HT2 BS2 BD2
      obtain ⟨j, h, t, rfl, hj, HTj, HCj, BSj, BDj⟩ := hrel
      obtain ⟨x0, x1, x2, x3, x4⟩ := BSj.out.cells5
      by_cases hlt : j < nd
      · obtain ⟨q, ad, -, fq, hA, hbl, y0, y1, y2, y3, y4⟩ := (HDS.out.below (HB1.out.trans (HTj.out.live.below.mono HB1.out.size))).at_ hlt
        subst hA
        rw [← add_cell ad (j * 5) 0] at y1
        rw [← add_cell ad (j * 5) 1] at y2
        rw [← add_cell ad (j * 5) 2] at y3
        rw [← add_cell ad (j * 5) 3] at y4
        have HFQ := Lib.hid fq
        have hba := (Below.refl wr.heap.size wr).alloc (Nat.le_refl _) (.cells #[.int .i64 q.k, .int .u32 (q.o : Int), .int .u64 (q.id : Int), .int .i64 q.n, .int .i64 q.i] 72)
        have BN := Blk.new wr 72 #[.int .i64 q.k, .int .u32 (q.o : Int), .int .u64 (q.id : Int), .int .i64 q.n, .int .i64 q.i]
        obtain ⟨z0, z1, z2, z3, z4⟩ := BN.cells5
        have HIS := Lib.hid (tissue_any (HTj.out.after hba) q.o fq.o q.n)
        have HTa := Lib.hid (HTj.out.after hba)
        have BSa := Lib.hid (BSj.out.below hba BSj.out.lt)
        have BDa := Lib.hid (BDj.out.below hba BDj.out.lt)
        clear fq hbl hba BN x0 x1 x2 x3
        generalize q.k = qk at *
        by_cases hk : qk.tmod 10 < 3
        · go_wp2_with fail
          refine HIS.out.mono ?_
          rintro e w4 ⟨rfl, T4, K4⟩
          have HT4 := Lib.hid T4
          have HC4 := Lib.hid (show (issT h t q.o q.n).cap = cp.toNat from (iss_cap q.o q.n).trans HCj.out)
          have BS4 := Lib.hid (BSa.out.same (K4.block _ BSa.out.lt (HLB.out _ _ _ HTa.out _ HSL.out).1 (HLB.out _ _ _ HTa.out _ HSL.out).2))
          have BD4 := Lib.hid (BDa.out.same (K4.block _ BDa.out.lt (HLB.out _ _ _ HTa.out _ HDL.out).1 (HLB.out _ _ _ HTa.out _ HDL.out).2))
          clear T4 K4
          go_wp2_with fail
          go_roundw
          case rel => exact ⟨j + 1, _, _, by go_num, by omega, HT4, HC4, BS4, BD4⟩
          case measure => simp [intOf]; omega
        · go_wp2_with fail
          go_roundw
          case rel => exact ⟨j + 1, h, t, by go_num, by omega, HTa, HCj, BSa, BDa⟩
          case measure => simp [intOf]; omega
      · obtain rfl : j = nd := by omega
        have HWD := Lib.hid HTj.out.live.words
        have HCI := Lib.hid (show t.cap = cp.toNat from HCj.out)
        clear hj HDS
        go_wp2_with fail
        clear x0 x1 x2 x3 x4
        refine HWD.out.mono ?_
        rintro e w5 ⟨gw, cw, rfl, hrow5, hgw5, hb5⟩
        have HT5 := Lib.hid (HTj.out.after hb5)
        have HR5 := Lib.hid hrow5
        have BS5 := Lib.hid (BSj.out.below hb5 BSj.out.lt)
        have BD5 := Lib.hid (BDj.out.below hb5 BDj.out.lt)
        have HGW := Lib.hid (show ¬ p.has gw ∧ gw ≠ gt from ⟨fun hh => by have := HTj.out.live.at_.lt hh; omega, fun e => by have := HTj.out.tab.lt; omega⟩)
        have HNX := Lib.hid (tnext_any HT5.out)
        have HLV := Lib.hid (tlive_any HT5.out)
        clear hrow5 hgw5 hb5 HTj BSj BDj HWD
        rw [u32s_len]
        go_wp2_with fail
        refine HNX.out.mono ?_
        rintro e w6 ⟨rfl, rfl⟩
        go_wp2_with fail
        refine HLV.out.mono ?_
        rintro e w6 ⟨vl, rfl, hown6, hb6⟩
        have HT6 := Lib.hid (HT5.out.after hb6)
        have HR6 := Lib.hid (HR5.out.below hb6)
        have BS6 := Lib.hid (BS5.out.below hb6 BS5.out.lt)
        have BD6 := Lib.hid (BD5.out.below hb6 BD5.out.lt)
        have HO6 := Lib.hid hown6
        have HAB := Lib.hid (show ∀ b, w5.heap.size ≤ b → ¬ p.has b ∧ b ≠ gt from fun b hb => ⟨fun hh => by have := HT5.out.live.at_.lt hh; omega, fun e => by have := HT5.out.tab.lt; omega⟩)
        have hlc := liv_cap (h := h) HT5.out.ok
        rw [HCI.out] at hlc
        have hlc2 : ¬ cp < ((livL h t).length : Int) := by have := HCP.out; omega
        have HLC := Lib.hid hlc
        obtain ⟨Al, cl, rfl⟩ := own_val hown6
        clear hown6 hb6 HT5 HR5 BS5 BD5 HNX HLV hlc
        obtain ⟨x0, x1, x2, x3, x4⟩ := BS6.out.cells5
        obtain ⟨z0, z1, z2, z3, z4⟩ := BD6.out.cells5
        have HIS := Lib.hid (tissue_any HT6.out d.o HFD.out.o d.n)
        go_wp2_with fail
        refine HIS.out.mono ?_
        rintro e w7 ⟨rfl, T7, K7⟩
        have HT7 := Lib.hid T7
        have BS7 := Lib.hid (BS6.out.same (K7.block _ BS6.out.lt (HLB.out _ _ _ HT6.out _ HSL.out).1 (HLB.out _ _ _ HT6.out _ HSL.out).2))
        have HR7 := Lib.hid (HR6.out.same (K7.block _ HR6.out.lt HGW.out.1 HGW.out.2))
        have HO7 := Lib.hid (K7.row HO6.out HAB.out)
        have he32 : issE h t d.o d.n < 4294967296 := by unfold issE; split <;> (try split) <;> (try split) <;> (try split) <;> (try split) <;> omega
        have HN7 := Lib.hid (HNU.out (issE h t d.o d.n) he32)
        clear T7 K7 x0 x1 x2 x3 x4 z0 z1 z2 z3 z4 BS6 BD6 HR6 HO6 HIS he32
        obtain ⟨x0, x1, x2, x3, x4⟩ := BS7.out.cells5
        by_cases he : issE h t d.o d.n = 0
        · have HLI := Lib.hid (liv_issue HT6.out.ok HT6.out.live.heads HT6.out.live.fit.marks he)
          have HLV7 := Lib.hid (tlive_any HT7.out)
          have hl1 : (livL h t).length < cp.toNat := by rw [← HCI.out]; exact HLI.out.2
          have hl2 : ((livL h t).length : Int) < cp := by have := HCP.out; omega
          have a1 : IntKind.i64.wrap (((livL h t).length : Int) + 1) = ((livL h t).length : Int) + 1 := IntWalk.i64_in _ (by have := HT6.out.ok.hi; have := HCI.out; omega)
          rw [he] at HN7 ⊢
          clear he HT6
          generalize issV h t d.o d.n = V7 at *
          go_wp2_with fail
          refine (HN7.out _).mono ?_
          rintro e w8 ⟨rfl, rfl⟩
          go_wp2_with fail
          refine HLV7.out.mono ?_
          rintro e w8 ⟨v8, rfl, hown8, hb8⟩
          rw [HLI.out.1] at hown8
          obtain ⟨A8, c8, rfl⟩ := own_val hown8
          have BS8 := BS7.out.below hb8 BS7.out.lt
          clear x0 x1 x2 x3 x4 hown8
          obtain ⟨x0, x1, x2, x3, x4⟩ := BS8.cells5
          have HB8 := Lib.hid (HB1.out.trans (((HT7.out.after hb8).live.below).mono HB1.out.size))
          clear hb8 BS8
          go_wp2_with fail
          go_ret
          exact ⟨rfl, HB8.out⟩
        · have HNO := Lib.hid (iss_no he)
          have hne : ((issE h t d.o d.n : Int) == 0) = false := by simp; omega
          have HNE := Lib.hid he
          clear he
          generalize issE h t d.o d.n = E7 at *
          generalize issV h t d.o d.n = V7 at *
          have T7 := HT7.out
          rw [HNO.out.1, HNO.out.2] at T7
          have HT7 := Lib.hid T7
          have HWD7 := Lib.hid T7.live.words
          clear T7
          go_wp2_with fail
          refine (HN7.out _).mono ?_
          rintro e w8 ⟨rfl, rfl⟩
          go_wp2_with fail
          refine HWD7.out.mono ?_
          rintro e w8 ⟨g8, c8, rfl, hrow8, hg8, hb8⟩
          rw [u32s_len]
          have hwl : h.words.length ≤ 9223372036854775807 := by have := HT7.out.live.fit.room; have := HT7.out.live.fit.hi; omega
          have hr8 := hrow8.reads (B := w8.heap.size) hrow8.lt
          have hr7 := (HR7.out.below hb8).reads (B := w8.heap.size) (HR7.out.below hb8).lt
          rw [u32s_len] at hr7 hr8
          have HSW := Lib.hid (sameWords_any (some ⟨g8, 0, none⟩) (some ⟨gw, 0, none⟩) h.words.length h.words.length c8 cw h.words h.words w8 hwl hwl hr8 hr7)
          rw [sameL_self] at HSW
          have HT8 := Lib.hid (HT7.out.after hb8)
          have HO8 := Lib.hid (own_below HO7.out hb8)
          clear hrow8 hg8 hb8 hr8 hr7 hwl HT7 HR7 HO7 x0 x1 x2 x3 x4
          go_wp2_with fail
          refine HSW.out.mono ?_
          rintro e w9 ⟨rfl, hb9⟩
          have HT9 := Lib.hid (HT8.out.after hb9)
          have HO9 := Lib.hid (own_below HO8.out hb9)
          have HNX := Lib.hid (tnext_any HT9.out)
          have HLV := Lib.hid (tlive_any HT9.out)
          clear hb9 HT8 HO8 HSW
          go_wp2_with fail
          refine HNX.out.mono ?_
          rintro e w10 ⟨rfl, rfl⟩
          go_wp2_with fail
          refine HLV.out.mono ?_
          rintro e w10 ⟨v10, rfl, hown10, hb10⟩
          obtain ⟨A10, c10, rfl, hr10, hn10⟩ := own_readsH hown10
          obtain ⟨Al', cl', hv, hrl, hnl⟩ := own_readsH (own_below HO9.out hb10)
          injection hv with hv1 hv2 hv3
          subst hv1 hv3
          have HSH := Lib.hid (sameHandles_any A10 Al (livL h t).length (livL h t).length c10 cl (livL h t) (livL h t) w10 hn10 hnl hr10 hrl)
          rw [decide_eq_true rfl] at HSH
          have HB10 := Lib.hid (HB1.out.trans ((HT9.out.after hb10).live.below.mono HB1.out.size))
          clear hown10 hb10 hr10 hn10 hrl hnl HT9 HO9 HLV
          go_wp2_with fail
          refine HSH.out.mono ?_
          rintro e w11 ⟨rfl, hb11⟩
          have HB11 := Lib.hid (below_top HB10.out hb11)
          clear hb11
          go_wp2_with fail
          go_ret
          exact ⟨rfl, HB11.out⟩
end Go.Proofs.YtlkahgagmfhdaaaGreatDoor
