/- New. -/
/- heaps: a heap of the program's and one of the document's, with so many objects. -/
/- The document's table of handles: its memory, and New. -/
/- begun: a script's table; sameHandles. -/
/- awake of chapter 16. -/
/- HandlesFull, walked. -/
/- A table that is nil, or that New did not make. -/
import Derived.Test.YtlkahgagmfhdaaaGreatDoorJHdO
import Derived.Test.YtlkahgagmfhdaaaGreatDoorJTwo
import Derived.Test.YtlkahgagmfhdaaaGreatDoorJAll
import Derived.Test.YtlkahgagmfhdaaaGreatDoorJHdF
import Derived.Laws.Tables
set_option linter.unusedVariables false
set_option linter.unusedSimpArgs false
set_option linter.unusedSectionVars false
namespace Go.Proofs.YtlkahgagmfhdaaaGreatDoor
open Go.RowKit
attribute [local go_sem] Oper.semAt_some

set_option maxRecDepth 100000 in
theorem tab_cells (g cap first : Nat) : ((Tryz.zeroCells96.setIfInBounds 0 (.pointer (some ⟨g, 0, none⟩))).setIfInBounds 513 (.int .i64 (cap : Int))).setIfInBounds 514 (.int .u64 (first : Int)) = ((TM.fresh cap first).cells g).toArray := by kernel_rfl
/-- New's error, and what it leaves. -/
def nwE (h : HM) (n : Int) (first : Nat) : Nat := if n < 1 ∨ 256 < n ∨ first = 0 then 1 else if kindM (h.roots.getD 20 0) = 1 then 3 else h.AllocE (h.roots.getD 20 0) 1 n
def nwH (h : HM) (n : Int) : HM := (h.AllocH (h.roots.getD 20 0) 1 n).setRootH 40 (h.AllocO (h.roots.getD 20 0) 1 n)
def NewP (W : World) (p : HP) (g : Nat) (h : HM) (n : Int) (first : Nat) (w : World) (e : Ending) (w' : World) : Prop :=
  (nwE h n first ≠ 0 ∧ ∃ p', e = .returned (.tuple #[.pointer none, .int .i64 (nwE h n first : Nat)]) ∧ Live W w' p' g h ∧ Step p p' w w') ∨
  (nwE h n first = 0 ∧ ∃ p' gt, e = .returned (.tuple #[.pointer (some ⟨gt, 0, none⟩), .int .i64 0]) ∧ HT W w' p' g gt (nwH h n) (TM.fresh n.toNat first) ∧ Step p p' w w' ∧ w.heap.size ≤ gt)
theorem kind_small (o : Nat) : ((kindM o : Int) == 1) = decide (kindM o = 1) := by
  by_cases h : kindM o = 1
  · simp [h]
  · simp [h]; omega
set_option maxRecDepth 100000 in
set_option maxHeartbeats 4000000 in
theorem tnew_any {W w : World} {p : HP} {g : Nat} {h : HM} (L : Live W w p g h) (n : Int) (first : Nat) (hf : first < 18446744073709551616) : Calls Tryz.prog 23 #[.pointer (some ⟨g, 0, none⟩), .int .i64 n, .int .u64 (first : Int)] w (NewP W p g h n first w) := by
  have HE := Lib.hid (show nwE h n first = if n < 1 ∨ 256 < n ∨ first = 0 then 1 else if kindM (h.roots.getD 20 0) = 1 then 3 else h.AllocE (h.roots.getD 20 0) 1 n from rfl)
  have HL := Lib.hid L
  by_cases hr : n < 1 ∨ 256 < n ∨ first = 0
  · have he : nwE h n first = 1 := by rw [HE.out, if_pos hr]
    have HV := Lib.hid he
    clear he HE L
    by_cases h1 : n < 1
    · clear hr
      go_enter Tryz.func23, Tryz.ntmps23
      go_wp2_with fail
      go_ret2
      exact .inl ⟨by rw [HV.out]; decide, p, by rw [HV.out]; rfl, HL.out, Step.refl _ _⟩
    · by_cases h2 : 256 < n
      · clear hr
        go_enter Tryz.func23, Tryz.ntmps23
        go_wp2_with fail
        go_ret2
        exact .inl ⟨by rw [HV.out]; decide, p, by rw [HV.out]; rfl, HL.out, Step.refl _ _⟩
      · obtain rfl : first = 0 := by omega
        clear hr
        simp only [Int.natCast_zero]
        go_enter Tryz.func23, Tryz.ntmps23
        go_wp2_with fail
        go_ret2
        exact .inl ⟨by rw [HV.out]; decide, p, by rw [HV.out]; rfl, HL.out, Step.refl _ _⟩
  · have h1 : ¬ n < 1 := fun hh => hr (.inl hh)
    have h2 : ¬ 256 < n := fun hh => hr (.inr (.inl hh))
    have h3 : ¬ first = 0 := fun hh => hr (.inr (.inr hh))
    have h4 : ((first : Int) == 0) = false := by simpa using h3
    have HE2 := Lib.hid (HE.out.trans (if_neg hr))
    have HR := Lib.hid (show Calls Tryz.prog 81 #[.pointer (some ⟨g, 0, none⟩), .int .i64 20] w (Said (.tuple #[.int .u32 (h.roots.getD 20 0 : Nat), .int .i64 0]) w) from L.root 20)
    have hc := L.fit.root 20
    have HK := Lib.hid (kind_any (h.roots.getD 20 0) hc w)
    have HA := Lib.hid (L.alloc (h.roots.getD 20 0) hc 1 n)
    have HNW := Lib.hid (show nwH h n = (h.AllocH (h.roots.getD 20 0) 1 n).setRootH 40 (h.AllocO (h.roots.getD 20 0) 1 n) from rfl)
    have HO := Lib.hid (show h.AllocE (h.roots.getD 20 0) 1 n ≠ 0 → h.AllocH (h.roots.getD 20 0) 1 n = h from fun hh => by rw [HM.AllocH_eq, if_neg hh])
    have HO32 := Lib.hid (show h.AllocO (h.roots.getD 20 0) 1 n < 4294967296 by unfold HM.AllocO; have := L.fit.room; have := L.fit.hi; split <;> omega)
    have hks := kind_small (h.roots.getD 20 0)
    have hkl : kindM (h.roots.getD 20 0) < 3 := by unfold kindM; split <;> (try split) <;> omega
    have HAE := h.AllocE_lt (h.roots.getD 20 0) 1 n
    clear HE L hr
    generalize h.roots.getD 20 0 = c at *
    by_cases hk : kindM c = 1
    · have he : nwE h n first = 3 := by rw [HE2.out, if_pos hk]
      have HV := Lib.hid he
      rw [hk] at HK
      clear he HE2 HA HO HNW hks HAE
      go_enter Tryz.func23, Tryz.ntmps23
      go_wp2_with fail
      refine HR.out.mono ?_
      rintro e w1 ⟨rfl, rfl⟩
      go_wp2_with fail
      refine HK.out.mono ?_
      rintro e w1 ⟨rfl, rfl⟩
      go_wp2_with fail
      go_ret2
      exact .inl ⟨by rw [HV.out]; decide, p, by rw [HV.out]; rfl, HL.out, Step.refl _ _⟩
    · have HE3 := Lib.hid (HE2.out.trans (if_neg hk))
      rw [decide_eq_false hk] at hks
      clear HE2
      by_cases ha : h.AllocE c 1 n = 0
      · have HV := Lib.hid (HE3.out.trans ha)
        rw [ha] at HA
        obtain ⟨m, rfl⟩ := Int.eq_ofNat_of_zero_le (show 0 ≤ n by omega)
        have HF := Lib.hid (TM.Ok.fresh (cap := m) (first := first) (by omega) (by omega) hf)
        have HBT := Lib.hid (tab_cells g m first)
        generalize h.AllocO c 1 m = o at *
        generalize h.AllocH c 1 m = h2 at *
        clear HE3 HO hkl HAE hk
        generalize kindM c = kk at *
        go_enter Tryz.func23, Tryz.ntmps23
        go_wp2_with fail
        refine HR.out.mono ?_
        rintro e w1 ⟨rfl, rfl⟩
        go_wp2_with fail
        refine HK.out.mono ?_
        rintro e w1 ⟨rfl, rfl⟩
        go_wp2_with fail
        refine HA.out.mono ?_
        rintro e w1 ⟨p1, rfl, L1, s1⟩
        have HSR := Lib.hid (L1.setRoot 40 o HO32.out)
        have HS1 := Lib.hid s1
        clear L1 s1
        go_wp2_with fail
        refine HSR.out.mono ?_
        rintro e w2 ⟨p2, rfl, L2, s2⟩
        have HL2 := Lib.hid L2
        have HS2 := Lib.hid (HS1.out.trans s2)
        clear L2 s2
        go_wp2_with fail
        go_ret2
        have hb := (Below.refl w2.heap.size w2).alloc (Nat.le_refl _) (.cells (((Tryz.zeroCells96.setIfInBounds 0 (.pointer (some ⟨g, 0, none⟩))).setIfInBounds 513 (.int .i64 (m : Int))).setIfInBounds 514 (.int .u64 (first : Int))) 96)
        have hbl := Blk.new w2 96 (((Tryz.zeroCells96.setIfInBounds 0 (.pointer (some ⟨g, 0, none⟩))).setIfInBounds 513 (.int .i64 (m : Int))).setIfInBounds 514 (.int .u64 (first : Int)))
        rw [HBT.out] at hbl hb
        rw [HBT.out]
        exact .inr ⟨HV.out, p2, w2.heap.size, rfl, ⟨HNW.out ▸ HL2.out.after hb, hbl, HF.out, HL2.out.below.size⟩, HS2.out.below' hb, HS2.out.size⟩
      · have HV := Lib.hid HE3.out
        have hne : ((h.AllocE c 1 n : Int) != 0) = true := by simp; omega
        rw [HO.out ha] at HA
        generalize h.AllocE c 1 n = E at *
        clear HE3 HO hkl hk HAE
        generalize kindM c = kk at *
        go_enter Tryz.func23, Tryz.ntmps23
        go_wp2_with fail
        refine HR.out.mono ?_
        rintro e w1 ⟨rfl, rfl⟩
        go_wp2_with fail
        refine HK.out.mono ?_
        rintro e w1 ⟨rfl, rfl⟩
        go_wp2_with fail
        refine HA.out.mono ?_
        rintro e w1 ⟨p1, rfl, L1, s1⟩
        have HL1 := Lib.hid L1
        have HS1 := Lib.hid s1
        clear L1 s1
        go_wp2_with fail
        go_ret2
        exact .inl ⟨by rw [HV.out]; exact ha, p1, by rw [HV.out]; rfl, HL1.out, HS1.out⟩
end Go.Proofs.YtlkahgagmfhdaaaGreatDoor

namespace Go.Proofs.YtlkahgagmfhdaaaGreatDoor
open Go.RowKit
attribute [local go_sem] Oper.semAt_some

theorem hnum_any (E : Nat) (hE : E < 4294967296) (w : World) : Calls Tryz.prog 24 #[.int .i64 (E : Int)] w (Said (.int .i64 (E : Int)) w) := by
  go_enter Tryz.func24, Tryz.ntmps24
  go_wp2_with fail
  go_ret
  exact ⟨rfl, rfl⟩
def allocs (n : Nat) : Nat → HM
  | 0 => HM.new n
  | j + 1 => (allocs n j).AllocH 0 1 2
def hpsH (n k : Nat) : HM := (allocs n k).setRootH 1 ((allocs n k).objM 1)
def obN (ob : Int) : Nat := min ob.toNat 1000
def HeapsP (W : World) (sz ob : Int) (e : Ending) (w' : World) : Prop :=
  ((sz < 64 ∨ 1048576 < sz) ∧ e = .returned (.tuple #[.pointer none, .pointer none, .bool false]) ∧ Below W.heap.size W w') ∨
  (64 ≤ sz ∧ sz ≤ 1048576 ∧ ∃ p q g k, e = .returned (.tuple #[.pointer (some ⟨g, 0, none⟩), .pointer (some ⟨k, 0, none⟩), .bool true]) ∧ Two W w' p g q k (hpsH sz.toNat (obN ob)) (hpsH sz.toNat (obN ob)) ∧ Below W.heap.size W w')
/-- A block that is none of the heaps' stays. -/
theorem Blk.two {w w' : World} {p q p' q' : HP} {g : Nat} {t : TypeId} {cs : Array Value} (B : Blk w g t cs) (s : Step2 p q p' q' w w') (hp : ¬ p.has g) (hq : ¬ q.has g) : Blk w' g t cs ∧ ¬ p'.has g ∧ ¬ q'.has g :=
  ⟨B.same (s.block g B.lt hp hq), fun h => (s.prows g h).elim hp (fun h => by have := B.lt; omega), fun h => (s.qrows g h).elim hq (fun h => by have := B.lt; omega)⟩
theorem objM_lt {h : HM} (f : h.Fit) : h.objM 1 < 4294967296 := by
  unfold HM.objM
  split <;> omega
set_option maxRecDepth 100000 in
set_option maxHeartbeats 4000000 in
theorem heaps_any (W : World) (E : Env W) (sz ob cp : Int) (fi : Nat) (A : Option Addr) (nd c : Nat) : Calls Tryz.prog 22 #[.agg #[.int .i64 sz, .int .i64 ob, .int .i64 cp, .int .u64 (fi : Int), .slice A nd c]] W (HeapsP W sz ob) := by
  have hb0 := (Below.refl W.heap.size W).alloc (Nat.le_refl _) (.cells #[.int .i64 sz, .int .i64 ob, .int .i64 cp, .int .u64 (fi : Int), .slice A nd c] 50)
  have BX := Lib.hid (Blk.new W 50 #[.int .i64 sz, .int .i64 ob, .int .i64 cp, .int .u64 (fi : Int), .slice A nd c])
  have HB0 := Lib.hid hb0
  have HE := Lib.hid E
  have HNU := Lib.hid (fun w' => hnum_any 0 (by decide) w')
  clear hb0 E
  by_cases hz : sz < 64 ∨ 1048576 < sz
  · have HN := Lib.hid (fun w => new_bad sz hz w)
    have HRN := Lib.hid (fun w => rnew_bad sz hz w)
    go_enter Tryz.func22, Tryz.ntmps22
    obtain ⟨x0, x1, x2, x3, x4⟩ := BX.out.cells5
    go_wp2_with fail
    refine (HN.out _).mono ?_
    rintro e w1 ⟨rfl, rfl⟩
    go_wp2_with fail
    refine (HRN.out _).mono ?_
    rintro e w2 ⟨rfl, rfl⟩
    go_wp2_with fail
    go_ret3
    exact .inl ⟨hz, rfl, HB0.out⟩
  · obtain ⟨n, rfl⟩ := Int.eq_ofNat_of_zero_le (show 0 ≤ sz by omega)
    have h1 : 64 ≤ n := by omega
    have h2 : n ≤ 1048576 := by omega
    have HN := Lib.hid (fun w => new_any n h1 h2 w)
    have HRN := Lib.hid (fun w => rnew_any n h1 h2 w)
    have HSZ := Lib.hid (show (64 : Int) ≤ (n : Int) ∧ (n : Int) ≤ 1048576 by omega)
    clear hz
    go_enter Tryz.func22, Tryz.ntmps22
    obtain ⟨x0, x1, x2, x3, x4⟩ := BX.out.cells5
    go_wp2_with fail
    clear x0 x1 x2 x3 x4
    generalize W.alloc (.cells #[.int .i64 (n : Int), .int .i64 ob, .int .i64 cp, .int .u64 (fi : Int), .slice A nd c] 50) = W1 at *
    refine (HN.out _).mono ?_
    rintro e w1 ⟨p, rfl, H1, hp1, hb1⟩
    have L1 : Live W w1 p p.g (HM.new n) := ⟨H1, rfl, ⟨[], HM.new_good h1 h2 (HM.new_fit h1 h2)⟩, HE.out, fun k hk => Nat.le_trans HB0.out.size (hp1 k hk), HB0.out.trans (hb1.mono HB0.out.size)⟩
    have HL1 := Lib.hid L1
    have HB1 := Lib.hid hb1
    have BX1 := Lib.hid (BX.out.below hb1 BX.out.lt)
    have HX1 := Lib.hid (show ∀ k, p.has k → W1.heap.size ≤ k from hp1)
    obtain ⟨x0, x1, x2, x3, x4⟩ := BX1.out.cells5
    clear H1 hp1 hb1 L1
    unfold ptr
    go_wp2_with fail
    clear x0 x1 x2 x3 x4
    refine (HRN.out _).mono ?_
    rintro e w2 ⟨q, rfl, R2, hq2, hb2⟩
    have HT := Lib.hid (show Two W w2 p p.g q q.g (HM.new n) (HM.new n) from ⟨HL1.out.after hb2, R2, rfl, fun j hj => Nat.le_trans HL1.out.below.size (hq2 j hj), fun j hj hh => by have := HL1.out.at_.lt hh; have := hq2 j hj; omega⟩)
    have BX2 := Lib.hid (BX1.out.below hb2 BX1.out.lt)
    have HXP := Lib.hid (show ¬ p.has W.heap.size ∧ ¬ q.has W.heap.size from ⟨fun hh => by have := HX1.out _ hh; have := BX.out.lt; omega, fun hh => by have := hq2 _ hh; have := BX1.out.lt; omega⟩)
    clear R2 hq2 hb2
    unfold ptr
    go_wp2_with fail
    refine (HNU.out _).mono ?_
    rintro e w3 ⟨rfl, rfl⟩
    go_wp2_with fail
    generalize p.g = g at *
    generalize q.g = k at *
    go_loopw [8] (fun iv wr => ∃ (j : Nat) (pj qj : HP), iv = .int .i64 (j : Int) ∧ j ≤ obN ob ∧ Hid (Two W wr pj g qj k (allocs n j) (allocs n j)) ∧ Hid (Blk wr W.heap.size 50 #[.int .i64 (n : Int), .int .i64 ob, .int .i64 cp, .int .u64 (fi : Int), .slice A nd c]) ∧ Hid (¬ pj.has W.heap.size ∧ ¬ qj.has W.heap.size)) (fun iv _ => obN ob - (intOf iv).toNat)
    case atStart => exact ⟨0, p, q, rfl, Nat.zero_le _, HT, BX2, HXP⟩
    case round =>
      clear HT BX2 HXP HL1 HB1 BX1 HX1
      obtain ⟨j, pj, qj, rfl, hj, HTj, BXj, HXj⟩ := hrel
      obtain ⟨x0, x1, x2, x3, x4⟩ := BXj.out.cells5
      by_cases hlt : j < obN ob
      · have d1 : (j : Int) < ob := by unfold obN at hlt; omega
        have d2 : (j : Int) < 1000 := by unfold obN at hlt; omega
        have HA := Lib.hid (HTj.out.live.alloc 0 (by decide) 1 2)
        have hE := (allocs n j).AllocE_lt 0 1 2
        have HFT := Lib.hid HTj.out.live.fit
        have HAH := Lib.hid (show allocs n (j + 1) = (allocs n j).AllocH 0 1 2 from rfl)
        simp only [Int.natCast_zero] at HA
        go_wp2_with fail
        clear x0 x1 x2 x3 x4
        refine HA.out.mono ?_
        intro e w4 hD
        obtain ⟨p4, q4, rfl, T4, s4⟩ := HTj.out.of_done hD
        obtain ⟨BX4, hp4, hq4⟩ := BXj.out.two s4 HXj.out.1 HXj.out.2
        have HRA := Lib.hid (T4.ralloc HFT.out 0 (by decide) 1 2)
        have HBX4 := Lib.hid BX4
        have HX4 := Lib.hid (And.intro hp4 hq4)
        clear hD T4 s4 BX4 hp4 hq4
        simp only [Int.natCast_zero] at HRA
        generalize (allocs n j).AllocO 0 1 2 = O at *
        go_wp2_with fail
        refine HRA.out.mono ?_
        rintro e w5 ⟨p5, q5, rfl, T5, s5⟩
        obtain ⟨BX5, hp5, hq5⟩ := HBX4.out.two s5 HX4.out.1 HX4.out.2
        have HT5 := Lib.hid T5
        have HBX5 := Lib.hid BX5
        have HX5 := Lib.hid (And.intro hp5 hq5)
        clear T5 s5 BX5 hp5 hq5
        go_wp2_with fail
        go_roundw
        case rel => exact ⟨j + 1, p5, q5, by go_num, by omega, by rw [HAH.out]; exact HT5, HBX5, HX5⟩
        case measure => simp [intOf]; omega
      · have hje : j = obN ob := by omega
        have d1 : ¬ ((j : Int) < ob ∧ (j : Int) < 1000) := by unfold obN at hje; omega
        have HF := Lib.hid (HTj.out.live.first)
        have HO := Lib.hid (objM_lt HTj.out.live.fit)
        have HSR := Lib.hid (HTj.out.live.setRoot 1 ((allocs n j).objM 1) HO.out)
        have HFT := Lib.hid HTj.out.live.fit
        have HHP := Lib.hid (show hpsH n (obN ob) = (allocs n j).setRootH 1 ((allocs n j).objM 1) by rw [← hje]; rfl)
        have HTX := Lib.hid (fun (w' : World) (p' q' : HP) (a : HM) (T' : Two W w' p' g q' k a (allocs n j)) => (show Calls Tryz.prog 80 #[.pointer (some ⟨k, 0, none⟩)] w' (Said (.int .u32 ((allocs n j).objM 1 : Nat)) w') from by have hh := rfirst_any T'.doc HFT.out; rw [ptr, T'.hk] at hh; exact hh))
        clear hje hj hlt
        generalize (allocs n j).objM 1 = O at *
        generalize allocs n j = aa at *
        by_cases e1 : (j : Int) < ob
        · have e2 : ¬ (j : Int) < 1000 := fun hh => d1 ⟨e1, hh⟩
          clear d1
          go_wp2_with fail
          refine HF.out.mono ?_
          rintro e w4 ⟨rfl, rfl⟩
          go_wp2_with fail
          refine HSR.out.mono ?_
          intro e w5 hD
          obtain ⟨p5, q5, rfl, T5, s5⟩ := HTj.out.of_done hD
          have HFI := Lib.hid (HTX.out _ _ _ _ T5)
          have HRS := Lib.hid (T5.rsetRoot HFT.out 1 O HO.out)
          clear hD T5 s5
          go_wp2_with fail
          refine HFI.out.mono ?_
          rintro e w6 ⟨rfl, rfl⟩
          go_wp2_with fail
          refine HRS.out.mono ?_
          rintro e w7 ⟨p7, q7, rfl, T7, s7⟩
          have HT7 := Lib.hid T7
          clear T7 s7
          go_wp2_with fail
          go_ret3
          exact .inr ⟨HSZ.out.1, HSZ.out.2, p7, q7, g, k, rfl, by rw [show (n : Int).toNat = n from rfl, HHP.out]; exact HT7.out, HT7.out.live.below⟩
        · clear d1
          go_wp2_with fail
          refine HF.out.mono ?_
          rintro e w4 ⟨rfl, rfl⟩
          go_wp2_with fail
          refine HSR.out.mono ?_
          intro e w5 hD
          obtain ⟨p5, q5, rfl, T5, s5⟩ := HTj.out.of_done hD
          have HFI := Lib.hid (HTX.out _ _ _ _ T5)
          have HRS := Lib.hid (T5.rsetRoot HFT.out 1 O HO.out)
          clear hD T5 s5
          go_wp2_with fail
          refine HFI.out.mono ?_
          rintro e w6 ⟨rfl, rfl⟩
          go_wp2_with fail
          refine HRS.out.mono ?_
          rintro e w7 ⟨p7, q7, rfl, T7, s7⟩
          have HT7 := Lib.hid T7
          clear T7 s7
          go_wp2_with fail
          go_ret3
          exact .inr ⟨HSZ.out.1, HSZ.out.2, p7, q7, g, k, rfl, by rw [show (n : Int).toNat = n from rfl, HHP.out]; exact HT7.out, HT7.out.live.below⟩
end Go.Proofs.YtlkahgagmfhdaaaGreatDoor

namespace Go.Proofs.YtlkahgagmfhdaaaGreatDoor
open Go.RowKit
attribute [local go_sem] Oper.semAt_some

def dsC (l : List (Nat × Nat)) : List Value := l.flatMap fun s => [.bool (usedB s), .int .u64 (s.1 : Int), .int .i64 (s.2 : Int)]
theorem dsC_cons (s : Nat × Nat) (l : List (Nat × Nat)) : dsC (s :: l) = .bool (usedB s) :: .int .u64 (s.1 : Int) :: .int .i64 (s.2 : Int) :: dsC l := rfl
theorem dsC_len : ∀ l : List (Nat × Nat), (dsC l).length = 3 * l.length
  | [] => rfl
  | s :: l => by rw [dsC_cons, List.length_cons, List.length_cons, List.length_cons, List.length_cons, dsC_len l]; omega
theorem dsC_get : ∀ (l : List (Nat × Nat)) (k : Nat), k < l.length → (dsC l)[3 * k]? = some (.bool (usedB (l.getD k (0, 0)))) ∧ (dsC l)[3 * k + 1]? = some (.int .u64 ((l.getD k (0, 0)).1 : Int)) ∧ (dsC l)[3 * k + 2]? = some (.int .i64 ((l.getD k (0, 0)).2 : Int))
  | [], k, h => absurd h (Nat.not_lt_zero _)
  | s :: l, 0, _ => ⟨rfl, rfl, rfl⟩
  | s :: l, k + 1, h => by
    have := dsC_get l k (by simpa using h)
    rw [dsC_cons, show 3 * (k + 1) = 3 * k + 1 + 1 + 1 by omega, show 3 * k + 1 + 1 + 1 + 1 = 3 * k + 1 + 1 + 1 + 1 from rfl]
    simpa using this
theorem dsC_set : ∀ (l : List (Nat × Nat)) (k : Nat) (v : Nat × Nat), dsC (l.set k v) = (((dsC l).set (3 * k) (.bool (usedB v))).set (3 * k + 1) (.int .u64 (v.1 : Int))).set (3 * k + 2) (.int .i64 (v.2 : Int))
  | [], k, v => by simp [dsC]
  | s :: l, 0, v => rfl
  | s :: l, k + 1, v => by
    rw [List.set_cons_succ, dsC_cons, dsC_cons, dsC_set l k v, show 3 * (k + 1) = 3 * k + 1 + 1 + 1 by omega]
    rfl
theorem dsC_nil (m : Nat) : madeCells (Value.agg #[.bool false, .int .u64 0, .int .i64 0]).cells (m * 3) = (dsC (List.replicate m (0, 0))).toArray := by
  apply Array.ext
  · simp [madeCells, dsC_len]; omega
  · intro i h1 h2
    have hi : i < m * 3 := by simpa [madeCells] using h1
    have hg := dsC_get (List.replicate m (0, 0)) (i / 3) (by rw [List.length_replicate]; omega)
    have hz : (List.replicate m ((0, 0) : Nat × Nat)).getD (i / 3) (0, 0) = (0, 0) := by
      rw [List.getD_eq_getElem?_getD, List.getElem?_replicate]
      split <;> rfl
    rw [hz] at hg
    have hl : i < (dsC (List.replicate m (0, 0))).length := by simpa using h2
    have e1 : (dsC (List.replicate m (0, 0))).toArray[i] = (dsC (List.replicate m (0, 0)))[i] := by simp
    rw [e1]
    have e2 : (madeCells (Value.agg #[.bool false, .int .u64 0, .int .i64 0]).cells (m * 3))[i] = (#[Value.bool false, .int .u64 0, .int .i64 0] : Array Value)[i % 3]! := by simp [madeCells, Value.cells]
    rw [e2]
    have e3 : (dsC (List.replicate m (0, 0)))[i]? = some ((dsC (List.replicate m (0, 0)))[i]) := List.getElem?_eq_getElem hl
    rcases (by omega : i % 3 = 0 ∨ i % 3 = 1 ∨ i % 3 = 2) with hr | hr | hr
    · rw [show 3 * (i / 3) = i by omega] at hg
      rw [hr]
      exact Option.some.inj (hg.1.symm.trans e3)
    · rw [show 3 * (i / 3) + 1 = i by omega] at hg
      rw [hr]
      exact Option.some.inj (hg.2.1.symm.trans e3)
    · rw [show 3 * (i / 3) + 2 = i by omega] at hg
      rw [hr]
      exact Option.some.inj (hg.2.2.symm.trans e3)
theorem info_dslot : (Tryz.prog.info? 209).map (fun i => (i.zero, i.size, i.bytes)) = some (some (Value.agg #[.bool false, .int .u64 0, .int .i64 0]), 3, 24) := by kernel_rfl
theorem make_dslots (m : Nat) (hm : m ≤ 256) (w : World) :
    (Instr.makeSlice 116 (.int .i64 (m : Int)) (.int .i64 (m : Int))).run Tryz.prog w = .ok (.slice (some ⟨w.heap.size, 0, none⟩) m m) (w.alloc (.cells (dsC (List.replicate m (0, 0))).toArray 209)) := by
  obtain ⟨i0, hi0, hz0, hz1, hz2⟩ := info_parts info_dslot
  have := run_make_rowN (P := Tryz.prog) 116 209 i0 _ Tryz.underlying116 hi0 hz0 .i64 .i64 m m (Nat.le_refl _) (by rw [hz2]; omega) (by omega) w
  rw [hz1, dsC_nil] at this
  exact this
def dtabC (k kb : Nat) (t : TM) : Array Value := #[.pointer (some ⟨k, 0, none⟩), .slice (some ⟨kb, 0, none⟩) t.cap t.cap, .int .i64 (t.now : Int), .int .u64 (t.next : Int)]
/-- The document's table at block kt, its slots at kb, over the document's heap. -/
structure DT (W w : World) (q : HP) (k kt kb : Nat) (h : HM) (t : TM) : Prop where
  doc : RAt w q h
  hk : q.g = k
  tab : Blk w kt 118 (dtabC k kb t)
  row : Blk w kb 209 (dsC (t.slots.take t.cap)).toArray
  ok : t.Ok
  good : ∃ l, h.Good l
  new : ∀ j, q.has j ∨ j = kt ∨ j = kb → W.heap.size ≤ j
  low : Below W.heap.size W w
/-- What a deed with the document's table leaves as it was. -/
structure DKeep (q : HP) (kt kb : Nat) (w w' : World) : Prop where
  os : w'.os = w.os
  tape : w'.tape = w.tape
  output : w'.output = w.output
  size : w.heap.size ≤ w'.heap.size
  block : ∀ j, j < w.heap.size → ¬ q.has j → j ≠ kt → j ≠ kb → w'.heap[j]? = w.heap[j]?
section
variable {W w w' w'' : World} {q : HP} {k kt kb : Nat} {h h' : HM} {t t' : TM}
theorem DKeep.refl (q : HP) (kt kb : Nat) (w : World) : DKeep q kt kb w w := ⟨rfl, rfl, rfl, Nat.le_refl _, fun _ _ _ _ _ => rfl⟩
theorem DKeep.of_below (hb : Below w.heap.size w w') : DKeep q kt kb w w' := ⟨hb.os, hb.tape, hb.output, hb.size, fun j hj _ _ _ => hb.block j hj⟩
theorem DKeep.of_step (s : Step q q w w') : DKeep q kt kb w w' := ⟨s.os, s.tape, s.output, s.size, fun j hj hn _ _ => s.block j hj hn⟩
theorem DKeep.trans (a : DKeep q kt kb w w') (b : DKeep q kt kb w' w'') : DKeep q kt kb w w'' :=
  ⟨b.os.trans a.os, b.tape.trans a.tape, b.output.trans a.output, Nat.le_trans a.size b.size, fun j hj hn h1 h2 => (b.block j (Nat.lt_of_lt_of_le hj a.size) hn h1 h2).trans (a.block j hj hn h1 h2)⟩
theorem DKeep.after (a : DKeep q kt kb w w') (hb : Below w'.heap.size w' w'') : DKeep q kt kb w w'' := a.trans (.of_below hb)
theorem DKeep.tab (a : DKeep q kt kb w w') (i : Nat) (v : Value) : DKeep q kt kb w (w'.setCell ⟨kt, i, none⟩ v) :=
  ⟨a.os, a.tape, a.output, by simpa [World.setCell] using a.size, fun j hj hn h1 h2 => (Below.heap_setCell w' ⟨kt, i, none⟩ v j h1).trans (a.block j hj hn h1 h2)⟩
theorem DKeep.row (a : DKeep q kt kb w w') (i : Nat) (v : Value) : DKeep q kt kb w (w'.setCell ⟨kb, i, none⟩ v) :=
  ⟨a.os, a.tape, a.output, by simpa [World.setCell] using a.size, fun j hj hn h1 h2 => (Below.heap_setCell w' ⟨kb, i, none⟩ v j h2).trans (a.block j hj hn h1 h2)⟩
theorem DKeep.drew (a : DKeep q kt kb w w') : DKeep q kt kb w w'.drew := ⟨a.os, a.tape, a.output, a.size, a.block⟩
theorem DKeep.below (a : DKeep q kt kb w w') (L : Below W.heap.size W w) (hn : ∀ j, q.has j ∨ j = kt ∨ j = kb → W.heap.size ≤ j) : Below W.heap.size W w' :=
  ⟨a.os.trans L.os, a.tape.trans L.tape, a.output.trans L.output, Nat.le_trans L.size a.size, fun j hj => (a.block j (Nat.lt_of_lt_of_le hj L.size) (fun hh => by have := hn j (.inl hh); omega) (fun e => by have := hn j (.inr (.inl e)); omega) (fun e => by have := hn j (.inr (.inr e)); omega)).trans (L.block j hj)⟩
theorem DT.apart (D : DT W w q k kt kb h t) : ¬ q.has kt ∧ ¬ q.has kb ∧ kt ≠ kb := by
  obtain ⟨hb, hw, hs, hr⟩ := D.doc
  refine ⟨?_, ?_, D.tab.ne_ D.row (by decide)⟩
  · rintro (e | e | e | e)
    · exact D.tab.ne_ hb (by decide) e
    · exact Row.ne_blk hw D.tab (by decide) e.symm
    · exact Row.ne_blk hs D.tab (by decide) e.symm
    · exact Row.ne_blk hr D.tab (by decide) e.symm
  · rintro (e | e | e | e)
    · exact D.row.ne_ hb (by decide) e
    · exact Row.ne_blk hw D.row (by decide) e.symm
    · exact Row.ne_blk hs D.row (by decide) e.symm
    · exact Row.ne_blk hr D.row (by decide) e.symm
theorem DT.same (D : DT W w q k kt kb h t) (hs : ∀ j, q.has j ∨ j = kt ∨ j = kb → w'.heap[j]? = w.heap[j]?) (hb : Below W.heap.size W w') : DT W w' q k kt kb h t :=
  ⟨D.doc.same fun j hj => hs j (.inl hj), D.hk, D.tab.same (hs kt (.inr (.inl rfl))), D.row.same (hs kb (.inr (.inr rfl))), D.ok, D.good, D.new, hb⟩
theorem DT.lt (D : DT W w q k kt kb h t) : ∀ j, q.has j ∨ j = kt ∨ j = kb → j < w.heap.size := by
  rintro j (hj | rfl | rfl)
  · exact D.doc.lt hj
  · exact D.tab.lt
  · exact D.row.lt
theorem DT.after (D : DT W w q k kt kb h t) (hb : Below w.heap.size w w') : DT W w' q k kt kb h t :=
  D.same (fun j hj => hb.block j (D.lt j hj)) (below_top D.low hb)
theorem DT.drew (D : DT W w q k kt kb h t) : DT W w.drew q k kt kb h t := D.after (below_drew (Below.refl _ _))
/-- The heap's deed beside the table. -/
theorem DT.heap (D : DT W w q k kt kb h t) (R : RAt w' q h') (s : Step q q w w') (G : ∃ l, h'.Good l) : DT W w' q k kt kb h' t :=
  ⟨R, D.hk, D.tab.same (s.block kt D.tab.lt D.apart.1), D.row.same (s.block kb D.row.lt D.apart.2.1), D.ok, G, D.new, s.below D.low fun j hj => D.new j (.inl hj)⟩
theorem DT.setNow (D : DT W w q k kt kb h t) (n : Nat) (O : ({ t with now := n } : TM).Ok) : DT W (w.setCell ⟨kt, 2, none⟩ (.int .i64 (n : Int))) q k kt kb h { t with now := n } :=
  ⟨D.doc.same fun j hj => Below.heap_setCell w ⟨kt, 2, none⟩ _ j (fun e => D.apart.1 ((show j = kt from e) ▸ hj)), D.hk, D.tab.set_ 2 _, D.row.far (p := ⟨kt, 2, none⟩) (fun e => D.apart.2.2 e.symm) _, O, D.good, D.new, D.low.setCell (p := ⟨kt, 2, none⟩) (D.new kt (.inr (.inl rfl))) _⟩
theorem DT.setNext (D : DT W w q k kt kb h t) (n : Nat) (O : ({ t with next := n } : TM).Ok) : DT W (w.setCell ⟨kt, 3, none⟩ (.int .u64 (n : Int))) q k kt kb h { t with next := n } :=
  ⟨D.doc.same fun j hj => Below.heap_setCell w ⟨kt, 3, none⟩ _ j (fun e => D.apart.1 ((show j = kt from e) ▸ hj)), D.hk, D.tab.set_ 3 _, D.row.far (p := ⟨kt, 3, none⟩) (fun e => D.apart.2.2 e.symm) _, O, D.good, D.new, D.low.setCell (p := ⟨kt, 3, none⟩) (D.new kt (.inr (.inl rfl))) _⟩
theorem take_getS {α : Type} (l : List α) (c k : Nat) (hk : k < c) (d : α) : (l.take c).getD k d = l.getD k d := by
  rw [List.getD_eq_getElem?_getD, List.getD_eq_getElem?_getD, List.getElem?_take, if_pos hk]
theorem DT.slotsLen (D : DT W w q k kt kb h t) : (t.slots.take t.cap).length = t.cap := by
  rw [List.length_take, D.ok.len]
  have := D.ok.hi
  omega
theorem DT.slot (D : DT W w q k kt kb h t) {i : Nat} (v : Nat × Nat) (O : ({ t with slots := t.slots.set i v } : TM).Ok) :
    DT W (((w.setCell ⟨kb, i * 3, none⟩ (.bool (usedB v))).setCell ⟨kb, i * 3 + 1, none⟩ (.int .u64 (v.1 : Int))).setCell ⟨kb, i * 3 + 2, none⟩ (.int .i64 (v.2 : Int))) q k kt kb h { t with slots := t.slots.set i v } := by
  rw [Nat.mul_comm i 3]
  have ha := D.apart
  refine ⟨D.doc.same fun j hj => ?_, D.hk, ?_, ?_, O, D.good, D.new, ?_⟩
  · have hj2 : j ≠ kb := fun e => ha.2.1 (e ▸ hj)
    rw [Below.heap_setCell _ ⟨kb, 3 * i + 2, none⟩ _ j hj2, Below.heap_setCell _ ⟨kb, 3 * i + 1, none⟩ _ j hj2, Below.heap_setCell _ ⟨kb, 3 * i, none⟩ _ j hj2]
  · exact ((D.tab.far (p := ⟨kb, 3 * i, none⟩) ha.2.2 _).far (p := ⟨kb, 3 * i + 1, none⟩) ha.2.2 _).far (p := ⟨kb, 3 * i + 2, none⟩) ha.2.2 _
  · have h1 := ((D.row.set_ (3 * i) (.bool (usedB v))).set_ (3 * i + 1) (.int .u64 (v.1 : Int))).set_ (3 * i + 2) (.int .i64 (v.2 : Int))
    rw [set_arr, set_arr, set_arr, ← dsC_set, ← List.take_set] at h1
    exact h1
  · have hn := D.new kb (.inr (.inr rfl))
    exact ((D.low.setCell (p := ⟨kb, 3 * i, none⟩) hn _).setCell (p := ⟨kb, 3 * i + 1, none⟩) hn _).setCell (p := ⟨kb, 3 * i + 2, none⟩) hn _
theorem DT.expiry (D : DT W w q k kt kb h t) {i : Nat} (hi : i < t.cap) (n : Nat) (O : ({ t with slots := t.slots.set i ((t.at i).1, n) } : TM).Ok) (hu : usedB (t.at i) = usedB ((t.at i).1, n)) :
    DT W (w.setCell ⟨kb, i * 3 + 2, none⟩ (.int .i64 (n : Int))) q k kt kb h { t with slots := t.slots.set i ((t.at i).1, n) } := by
  rw [Nat.mul_comm i 3]
  have ha := D.apart
  refine ⟨D.doc.same fun j hj => Below.heap_setCell _ ⟨kb, 3 * i + 2, none⟩ _ j (fun e => ha.2.1 ((show j = kb from e) ▸ hj)), D.hk, D.tab.far (p := ⟨kb, 3 * i + 2, none⟩) ha.2.2 _, ?_, O, D.good, D.new, D.low.setCell (p := ⟨kb, 3 * i + 2, none⟩) (D.new kb (.inr (.inr rfl))) _⟩
  have h1 := D.row.set_ (3 * i + 2) (.int .i64 (n : Int))
  have hg := dsC_get (t.slots.take t.cap) i (by rw [D.slotsLen]; exact hi)
  rw [take_getS _ _ _ hi] at hg
  rw [set_arr] at h1
  have e : dsC ((t.slots.set i ((t.at i).1, n)).take t.cap) = (dsC (t.slots.take t.cap)).set (3 * i + 2) (.int .i64 (n : Int)) := by
    rw [List.take_set, dsC_set, ← hu]
    congr 1
    obtain ⟨l0, e0⟩ := List.getElem?_eq_some_iff.1 hg.1
    obtain ⟨l1, e1⟩ := List.getElem?_eq_some_iff.1 hg.2.1
    rw [show (Value.bool (usedB (t.at i))) = (dsC (t.slots.take t.cap))[3 * i] from e0.symm, List.set_getElem_self, show (Value.int .u64 (((t.at i).1, n).1 : Int)) = (dsC (t.slots.take t.cap))[3 * i + 1] from e1.symm, List.set_getElem_self]
  show Blk _ kb _ (dsC ((t.slots.set i ((t.at i).1, n)).take t.cap)).toArray
  rw [e]
  exact h1
theorem DT.c0 (D : DT W w q k kt kb h t) : w.cell? ⟨kt, 0, none⟩ = some (.pointer (some ⟨k, 0, none⟩)) := D.tab.cell 0
theorem DT.c1 (D : DT W w q k kt kb h t) : w.cell? ⟨kt, 1, none⟩ = some (.slice (some ⟨kb, 0, none⟩) t.cap t.cap) := D.tab.cell 1
theorem DT.c2 (D : DT W w q k kt kb h t) : w.cell? ⟨kt, 2, none⟩ = some (.int .i64 (t.now : Int)) := D.tab.cell 2
theorem DT.c3 (D : DT W w q k kt kb h t) : w.cell? ⟨kt, 3, none⟩ = some (.int .u64 (t.next : Int)) := D.tab.cell 3
theorem DT.cell (D : DT W w q k kt kb h t) {i : Nat} (hi : i < t.cap) : w.cell? ⟨kb, i * 3, none⟩ = some (.bool (usedB (t.at i))) ∧ w.cell? ⟨kb, i * 3 + 1, none⟩ = some (.int .u64 ((t.at i).1 : Int)) ∧ w.cell? ⟨kb, i * 3 + 2, none⟩ = some (.int .i64 ((t.at i).2 : Int)) := by
  have hg := dsC_get (t.slots.take t.cap) i (by rw [D.slotsLen]; exact hi)
  rw [take_getS _ _ _ hi] at hg
  rw [Nat.mul_comm i 3, D.row.cell, D.row.cell, D.row.cell, List.getElem?_toArray, List.getElem?_toArray, List.getElem?_toArray]
  exact hg
theorem DT.fit (D : DT W w q k kt kb h t) : h.Fit := by obtain ⟨l, G⟩ := D.good; exact G.fit
theorem DT.heads (D : DT W w q k kt kb h t) : h.Heads := by obtain ⟨l, G⟩ := D.good; exact G.laid.heads
end
theorem alloc_valB {h : HM} (f : h.Fit) {c : Nat} {t n : Int} (he : h.AllocE c t n = 0) : (h.AllocH c t n).valB (h.AllocO c t n) = true := by
  have hm := f.marks
  unfold HM.valB
  cases ho : objB (h.AllocO c t n) with
  | false => rfl
  | true =>
    unfold HM.isB
    rw [ho]
    unfold HM.AllocO
    rw [HM.AllocH_eq, if_pos he, if_pos he]
    show (!true || (true && (h.starts ++ (true :: List.replicate _ false)).getD (2 * h.words.length / 2) false)) = true
    rw [List.getD_eq_getElem?_getD, List.getElem?_append_right (by omega), show 2 * h.words.length / 2 - h.starts.length = 0 by omega]
    rfl
def RNewP (q : HP) (k : Nat) (b : HM) (n : Int) (first : Nat) (w : World) (e : Ending) (w' : World) : Prop :=
  (nwE b n first ≠ 0 ∧ ∃ q', e = .returned (.tuple #[.pointer none, .int .i64 (nwE b n first : Nat)]) ∧ RAt w' q' b ∧ Step q q' w w') ∨
  (nwE b n first = 0 ∧ ∃ q' kt kb, e = .returned (.tuple #[.pointer (some ⟨kt, 0, none⟩), .int .i64 0]) ∧ RAt w' q' (nwH b n) ∧ Blk w' kt 118 (dtabC k kb (TM.fresh n.toNat first)) ∧ Blk w' kb 209 (dsC ((TM.fresh n.toNat first).slots.take (TM.fresh n.toNat first).cap)).toArray ∧ Step q q' w w' ∧ w.heap.size ≤ kt ∧ w.heap.size ≤ kb)
theorem kind_odd (c : Nat) : (((c : Int) % 2) == 1) = decide (kindM c = 1) := by
  unfold kindM
  by_cases h0 : c = 0
  · subst h0; rfl
  · rw [if_neg h0]
    by_cases h1 : c % 2 = 1
    · rw [if_pos h1]; simp; omega
    · rw [if_neg h1]; simp; omega
set_option maxRecDepth 100000 in
set_option maxHeartbeats 4000000 in
theorem rtnew_any {w : World} {q : HP} {k : Nat} {b : HM} (R : RAt w q b) (hk0 : q.g = k) (f : b.Fit) (n : Int) (first : Nat) (hf : first < 18446744073709551616) : Calls Tryz.prog 48 #[.pointer (some ⟨k, 0, none⟩), .int .i64 n, .int .u64 (first : Int)] w (RNewP q k b n first w) := by
  have HE := Lib.hid (show nwE b n first = if n < 1 ∨ 256 < n ∨ first = 0 then 1 else if kindM (b.roots.getD 20 0) = 1 then 3 else b.AllocE (b.roots.getD 20 0) 1 n from rfl)
  have HT := Lib.hid R
  have HK0 := Lib.hid hk0
  by_cases hr : n < 1 ∨ 256 < n ∨ first = 0
  · have he : nwE b n first = 1 := by rw [HE.out, if_pos hr]
    have HV := Lib.hid he
    clear he HE R hk0
    by_cases h1 : n < 1
    · clear hr
      go_enter Tryz.func48, Tryz.ntmps48
      go_wp2_with fail
      go_ret2
      exact .inl ⟨by rw [HV.out]; decide, q, by rw [HV.out]; rfl, HT.out, Step.refl _ _⟩
    · by_cases h2 : 256 < n
      · clear hr
        go_enter Tryz.func48, Tryz.ntmps48
        go_wp2_with fail
        go_ret2
        exact .inl ⟨by rw [HV.out]; decide, q, by rw [HV.out]; rfl, HT.out, Step.refl _ _⟩
      · obtain rfl : first = 0 := by omega
        clear hr
        simp only [Int.natCast_zero]
        go_enter Tryz.func48, Tryz.ntmps48
        go_wp2_with fail
        go_ret2
        exact .inl ⟨by rw [HV.out]; decide, q, by rw [HV.out]; rfl, HT.out, Step.refl _ _⟩
  · have h1 : ¬ n < 1 := fun hh => hr (.inl hh)
    have h2 : ¬ 256 < n := fun hh => hr (.inr (.inl hh))
    have h3 : ¬ first = 0 := fun hh => hr (.inr (.inr hh))
    have h4 : ((first : Int) == 0) = false := by simpa using h3
    have HE2 := Lib.hid (HE.out.trans (if_neg hr))
    have hroots := f.roots
    have c2 := R.c2
    have x20 := R.root (i := 20) (by omega)
    rw [hk0, hroots] at c2
    have hc := f.root 20
    have HA := rAlloc_any R f (b.roots.getD 20 0) hc 1 n
    rw [HM.AllocV_eq, ptr, hk0] at HA
    have HA := Lib.hid HA
    have HNW := Lib.hid (show nwH b n = (b.AllocH (b.roots.getD 20 0) 1 n).setRootH 40 (b.AllocO (b.roots.getD 20 0) 1 n) from rfl)
    have HO := Lib.hid (show b.AllocE (b.roots.getD 20 0) 1 n ≠ 0 → b.AllocH (b.roots.getD 20 0) 1 n = b from fun hh => by rw [HM.AllocH_eq, if_neg hh])
    have HVB := Lib.hid (fun he => alloc_valB f (c := b.roots.getD 20 0) (t := 1) (n := n) he)
    have HFT := Lib.hid (show b.AllocE (b.roots.getD 20 0) 1 n = 0 → (b.AllocH (b.roots.getD 20 0) 1 n).roots.length = 64 from fun hh => by rw [HM.AllocH_eq, if_pos hh]; exact hroots)
    have hks := kind_odd (b.roots.getD 20 0)
    have HAE := b.AllocE_lt (b.roots.getD 20 0) 1 n
    clear HE R hr hroots hk0
    generalize b.roots.getD 20 0 = c at *
    by_cases hk : kindM c = 1
    · have he : nwE b n first = 3 := by rw [HE2.out, if_pos hk]
      have HV := Lib.hid he
      rw [decide_eq_true hk] at hks
      clear he HE2 HA HO HNW HAE hk HVB HFT
      go_enter Tryz.func48, Tryz.ntmps48
      go_wp2_with fail
      go_ret2
      exact .inl ⟨by rw [HV.out]; decide, q, by rw [HV.out]; rfl, HT.out, Step.refl _ _⟩
    · have HE3 := Lib.hid (HE2.out.trans (if_neg hk))
      rw [decide_eq_false hk] at hks
      clear HE2 hk
      by_cases ha : b.AllocE c 1 n = 0
      · have HV := Lib.hid (HE3.out.trans ha)
        have HVB := Lib.hid (HVB.out ha)
        have HFT := Lib.hid (HFT.out ha)
        rw [ha] at HA
        obtain ⟨m, rfl⟩ := Int.eq_ofNat_of_zero_le (show 0 ≤ n by omega)
        have HMK := Lib.hid (make_dslots m (by omega))
        have HTK := Lib.hid (show (TM.fresh m first).slots.take (TM.fresh m first).cap = List.replicate m (0, 0) by
          show (List.replicate 256 ((0, 0) : Nat × Nat)).take m = _
          rw [List.take_replicate]; congr 1; omega)
        clear HE3 HO HAE
        generalize b.AllocO c 1 m = o at *
        generalize b.AllocH c 1 m = b2 at *
        go_enter Tryz.func48, Tryz.ntmps48
        go_wp2_with fail
        refine HA.out.mono ?_
        rintro e w1 ⟨q1, rfl, T1, s1⟩
        have y2 := T1.c2
        have y40 := T1.root (i := 40) (by rw [HFT.out]; decide)
        have y40f := T1.2.2.2.frozen 40
        rw [s1.g.trans HK0.out, HFT.out] at y2
        have HT1 := Lib.hid T1
        have HS1 := Lib.hid s1
        have hmk := fun w => HMK.out w
        clear T1 s1 c2 x20
        go_wp2_with fail
        go_ret2
        have R2 := HT1.out.setRoot 40 o
        have s2 := HS1.out.setCell (a := ⟨q1.gr, 40, none⟩) ((HS1.out.rows q1.gr (.inr (.inr (.inr rfl))))) (.int .u32 o)
        have e2 : nwH b m = { b2 with roots := b2.roots.set 40 o } := by
          rw [HNW.out]
          unfold HM.setRootH HM.setRootE
          rw [HVB.out]
          rfl
        have hb3 := (Below.refl (w1.setCell ⟨q1.gr, 40, none⟩ (.int .u32 o)).heap.size (w1.setCell ⟨q1.gr, 40, none⟩ (.int .u32 o))).alloc (Nat.le_refl _) (.cells (dsC (List.replicate m (0, 0))).toArray 209)
        have hb4 := hb3.alloc hb3.size (.cells #[.pointer (some ⟨k, 0, none⟩), .slice (some ⟨w1.heap.size, 0, none⟩) m m, .int .i64 0, .int .u64 (first : Int)] 118)
        have B3 := (Blk.new (w1.setCell ⟨q1.gr, 40, none⟩ (.int .u32 o)) 209 (dsC (List.replicate m (0, 0))).toArray).alloc (.cells #[.pointer (some ⟨k, 0, none⟩), .slice (some ⟨w1.heap.size, 0, none⟩) m m, .int .i64 0, .int .u64 (first : Int)] 118)
        have B4 := Blk.new ((w1.setCell ⟨q1.gr, 40, none⟩ (.int .u32 o)).alloc (.cells (dsC (List.replicate m (0, 0))).toArray 209)) 118 #[.pointer (some ⟨k, 0, none⟩), .slice (some ⟨w1.heap.size, 0, none⟩) m m, .int .i64 0, .int .u64 (first : Int)]
        have hsz : (w1.setCell ⟨q1.gr, 40, none⟩ (.int .u32 o)).heap.size = w1.heap.size := by simp [World.setCell]
        have hsz2 : ((w1.setCell ⟨q1.gr, 40, none⟩ (.int .u32 o)).alloc (.cells (dsC (List.replicate m (0, 0))).toArray 209)).heap.size = w1.heap.size + 1 := by rw [World.size_alloc, hsz]
        rw [hsz] at B3
        rw [hsz2] at B4
        refine .inr ⟨HV.out, q1, w1.heap.size + 1, w1.heap.size, rfl, by rw [e2]; exact R2.below hb4, B4, ?_, s2.below' hb4, by have := HS1.out.size; omega, HS1.out.size⟩
        rw [Int.toNat_natCast, HTK.out]
        exact B3
      · have HV := Lib.hid HE3.out
        have hne : ((b.AllocE c 1 n : Int) != 0) = true := by simp; omega
        rw [HO.out ha] at HA
        have HA0 := Lib.hid ha
        generalize b.AllocE c 1 n = E at *
        clear HE3 HO HAE ha HVB HFT
        go_enter Tryz.func48, Tryz.ntmps48
        go_wp2_with fail
        refine HA.out.mono ?_
        rintro e w1 ⟨q1, rfl, T1, s1⟩
        have HT1 := Lib.hid T1
        have HS1 := Lib.hid s1
        clear T1 s1
        go_wp2_with fail
        go_ret2
        exact .inl ⟨by rw [HV.out]; exact HA0.out, q1, by rw [HV.out]; rfl, HT1.out, HS1.out⟩
end Go.Proofs.YtlkahgagmfhdaaaGreatDoor

namespace Go.Proofs.YtlkahgagmfhdaaaGreatDoor
open Go.RowKit
attribute [local go_sem] Oper.semAt_some

def hps (sz ob : Int) : HM := hpsH sz.toNat (obN ob)
def BegunP (W : World) (sz ob cp : Int) (fi : Nat) (e : Ending) (w' : World) : Prop :=
  (e = .returned (.tuple #[.pointer none, .pointer none, .bool false]) ∧ Below W.heap.size W w') ∨
  (nwE (hps sz ob) cp fi = 0 ∧ ∃ p g gt, e = .returned (.tuple #[.pointer (some ⟨gt, 0, none⟩), .pointer (some ⟨g, 0, none⟩), .bool true]) ∧ HT W w' p g gt (nwH (hps sz ob) cp) (TM.fresh cp.toNat fi))
set_option maxRecDepth 100000 in
set_option maxHeartbeats 4000000 in
theorem begun_any (W : World) (E : Env W) (sz ob cp : Int) (fi : Nat) (hfi : fi < 18446744073709551616) (A : Option Addr) (nd c : Nat) : Calls Tryz.prog 31 #[.agg #[.int .i64 sz, .int .i64 ob, .int .i64 cp, .int .u64 (fi : Int), .slice A nd c]] W (BegunP W sz ob cp fi) := by
  have hb0 := (Below.refl W.heap.size W).alloc (Nat.le_refl _) (.cells #[.int .i64 sz, .int .i64 ob, .int .i64 cp, .int .u64 (fi : Int), .slice A nd c] 50)
  have BX := Lib.hid (Blk.new W 50 #[.int .i64 sz, .int .i64 ob, .int .i64 cp, .int .u64 (fi : Int), .slice A nd c])
  have HB0 := Lib.hid hb0
  have HH := Lib.hid (heaps_any _ (E.below hb0) sz ob cp fi A nd c)
  have HNU := Lib.hid (fun w' => hnum_any 0 (by decide) w')
  have HE := Lib.hid E
  clear hb0 E
  go_enter Tryz.func31, Tryz.ntmps31
  obtain ⟨x0, x1, x2, x3, x4⟩ := BX.out.cells5
  have HSZ := Lib.hid BX.out.lt
  go_wp2_with fail
  clear x0 x1 x2 x3 x4
  generalize hW1 : W.alloc (.cells #[.int .i64 sz, .int .i64 ob, .int .i64 cp, .int .u64 (fi : Int), .slice A nd c] 50) = W1 at *
  clear hW1
  refine HH.out.mono ?_
  rintro e w1 (⟨hz, rfl, hb1⟩ | ⟨hz1, hz2, p, q, g, k, rfl, T1, hb1⟩)
  · have HB1 := Lib.hid (below_top HB0.out hb1)
    clear hb1 hz
    go_wp2_with fail
    go_ret3
    exact .inl ⟨rfl, HB1.out⟩
  · have BX1 := Lib.hid (BX.out.below hb1 BX.out.lt)
    have HT1 := Lib.hid T1
    have HXS := Lib.hid (show ¬ p.has W.heap.size ∧ ¬ q.has W.heap.size from ⟨fun hh => by have := T1.live.new _ hh; have := HSZ.out; omega, fun hh => by have := T1.qnew _ hh; have := HSZ.out; omega⟩)
    have HRN := Lib.hid (show Calls Tryz.prog 48 #[.pointer (some ⟨k, 0, none⟩), .int .i64 cp, .int .u64 (fi : Int)] w1 (RNewP q k (hps sz ob) cp fi w1) from rtnew_any T1.doc T1.hk T1.live.fit cp fi hfi)
    have HB1 := Lib.hid (below_top HB0.out hb1)
    obtain ⟨x0, x1, x2, x3, x4⟩ := BX1.out.cells5
    clear T1 hb1 HH BX hz1 hz2
    go_wp2_with fail
    refine HRN.out.mono ?_
    rintro e w2 (⟨hne, q2, rfl, R2, s2⟩ | ⟨h0, q2, kt, kb, rfl, R2, -, -, s2, -, -⟩)
    · have HB2 := Lib.hid (s2.below HB1.out (fun j hj => Nat.le_trans (by have := HB0.out.size; exact this) (HT1.out.qnew j hj)))
      have hn2 : ((nwE (hps sz ob) cp fi : Int) != 0) = true := by simp; omega
      generalize nwE (hps sz ob) cp fi = E at *
      clear R2 s2 hne
      clear x0 x1 x2 x3 x4
      go_wp2_with fail
      go_ret3
      exact .inl ⟨rfl, HB2.out⟩
    · have T2 := HT1.out.right R2 s2
      have HT2 := Lib.hid T2
      have BX2 := Lib.hid (BX1.out.same (s2.block _ BX1.out.lt HXS.out.2))
      have HNW := Lib.hid (show Calls Tryz.prog 23 #[.pointer (some ⟨g, 0, none⟩), .int .i64 cp, .int .u64 (fi : Int)] w2 (NewP W1 p g (hps sz ob) cp fi w2) from tnew_any T2.live cp fi hfi)
      have HV := Lib.hid h0
      clear T2 R2 s2 h0 x0 x1 x2 x3 x4
      obtain ⟨x0, x1, x2, x3, x4⟩ := BX2.out.cells5
      go_wp2_with fail
      refine HNW.out.mono ?_
      rintro e w3 (⟨hne, -⟩ | ⟨-, p3, gt, rfl, T3, s3, -⟩)
      · exact absurd HV.out hne
      have HT3 := Lib.hid T3
      clear T3 s3 x0 x1 x2 x3 x4
      go_wp2_with fail
      refine (HNU.out _).mono ?_
      rintro e w4 ⟨rfl, rfl⟩
      go_wp2_with fail
      go_ret3
      have T4 := HT3.out
      exact .inr ⟨HV.out, p3, g, gt, rfl, ⟨⟨T4.live.at_, T4.live.hg, T4.live.good, HE.out, fun k hk => Nat.le_trans HB0.out.size (T4.live.new k hk), HB0.out.trans (T4.live.below.mono HB0.out.size)⟩, T4.tab, T4.ok, Nat.le_trans HB0.out.size T4.new⟩⟩
theorem add_cell (a : Addr) (n i : Nat) : (⟨(a.add n).block, (a.add n).off + (i + 1), none⟩ : Addr) = a.add (n + (i + 1)) := by
  unfold Addr.add
  by_cases h : n = 0
  · subst h; simp
  · rw [if_neg h, if_neg (by omega)]; simp [Nat.add_assoc]
end Go.Proofs.YtlkahgagmfhdaaaGreatDoor

namespace Go.Proofs.YtlkahgagmfhdaaaGreatDoor
open Go.RowKit
attribute [local go_sem] Oper.semAt_some

def hwk0 : HM := hpsH 200 3
def hwk1 : HM := nwH hwk0 2
def htk0 : TM := TM.fresh 2 1
def htk1 : TM := issT hwk1 htk0 2 5
def hwk2 : HM := issH hwk1 htk0 2 5
def htk2 : TM := issT hwk2 htk1 12 3
def hwk3 : HM := issH hwk2 htk1 12 3
def htk3 : TM := issT hwk3 htk2 22 9
def hwk4 : HM := issH hwk3 htk2 22 9
def htk4 : TM := tikT hwk4 htk3 3
def hwk5 : HM := tikH hwk4 htk3 3
def htk5 : TM := issT hwk5 htk4 22 9
def hwk6 : HM := issH hwk5 htk4 22 9
theorem hwk_new : nwE hwk0 2 1 = 0 := by decide +kernel
theorem hwk_i1 : issE hwk1 htk0 2 5 = 0 ∧ issV hwk1 htk0 2 5 = 1 := by decide +kernel
theorem hwk_i2 : issE hwk2 htk1 12 3 = 0 ∧ issV hwk2 htk1 12 3 = 2 := by decide +kernel
theorem hwk_i3 : issE hwk3 htk2 22 9 = 161 := by decide +kernel
theorem hwk_t : tikE hwk4 htk3 3 = 0 := by decide +kernel
theorem hwk_l : (htk3.pass 3).ids ((htk3.pass 3).goneK 256) = [2] := by decide +kernel
theorem sortN_one (x : Nat) : sortN [x] = [x] := by simp [sortN]
theorem hwk_tl : tikL hwk4 htk3 3 = [2] := by
  unfold tikL
  rw [if_pos hwk_t, show (3 : Int).toNat = 3 from rfl, hwk_l, sortN_one]
theorem hwk_i4 : issE hwk5 htk4 22 9 = 0 ∧ issV hwk5 htk4 22 9 = 3 := by decide +kernel
theorem hwk_g : fndE hwk6 htk5 2 = 160 := by decide +kernel
/-- Own rows stay under a table's deed. -/
theorem HKeep.row {p : HP} {gt : Nat} {w w' : World} {B s n : Nat} {e : TypeId} {v : Value} {xs : List Value} (K : HKeep p gt w w') (h : w.ownsRow B e s v n xs) (hB : ∀ k, B ≤ k → ¬ p.has k ∧ k ≠ gt) : w'.ownsRow B e s v n xs :=
  own_keep h fun q hq => K.block q (h.lt q hq).2 (hB q (h.lt q hq).1).1 (hB q (h.lt q hq).1).2
theorem HT.above {W w : World} {p : HP} {g gt : Nat} {h : HM} {t : TM} (T : HT W w p g gt h t) : ∀ k, w.heap.size ≤ k → ¬ p.has k ∧ k ≠ gt :=
  fun k hk => ⟨fun hh => by have := T.live.at_.lt hh; omega, fun e => by have := T.tab.lt; omega⟩
set_option maxRecDepth 100000 in
set_option maxHeartbeats 4000000 in
theorem hawake_any (W : World) (E : Env W) : Calls Tryz.prog 21 #[] W (Told (.bool true) W) := by
  have HH := Lib.hid (show Calls Tryz.prog 22 #[.agg #[.int .i64 200, .int .i64 3, .int .i64 0, .int .u64 0, .slice none 0 0]] W (HeapsP W 200 3) from heaps_any W E 200 3 0 0 none 0 0)
  have HNU := Lib.hid (fun E hE w' => hnum_any E hE w')
  clear E
  go_enter Tryz.func21, Tryz.ntmps21
  go_wp2_with fail
  refine HH.out.mono ?_
  rintro e w1 (⟨hz, -, -⟩ | ⟨-, -, p1, q1, g, k, rfl, T1, hb1⟩)
  · omega
  have L1 : Live W w1 p1 g hwk0 := T1.live
  have HNW := Lib.hid (show Calls Tryz.prog 23 #[.pointer (some ⟨g, 0, none⟩), .int .i64 2, .int .u64 1] w1 (NewP W p1 g hwk0 2 1 w1) from tnew_any L1 2 1 (by decide))
  clear T1 hb1 L1 HH
  go_wp2_with fail
  refine HNW.out.mono ?_
  rintro e w2 (⟨hne, -⟩ | ⟨-, p2, gt, rfl, T2, s2, hgt⟩)
  · exact absurd hwk_new hne
  have T2 : HT W w2 p2 g gt hwk1 htk0 := T2
  have H1 := tissue_any T2 2 (by decide) 5
  rw [hwk_i1.1, hwk_i1.2] at H1
  have HI1 := Lib.hid (show Calls Tryz.prog 26 #[.pointer (some ⟨gt, 0, none⟩), .int .u32 2, .int .i64 5] w2 (HDone W p2 g gt hwk2 htk1 (.tuple #[.int .u64 1, .int .i64 0]) w2) from H1)
  clear T2 s2 hgt H1 HNW
  go_wp2_with fail
  refine (HNU.out 0 (by decide) _).mono ?_
  rintro e w3 ⟨rfl, rfl⟩
  go_wp2_with fail
  refine HI1.out.mono ?_
  rintro e w3 ⟨rfl, T3, K3⟩
  have H2 := tissue_any T3 12 (by decide) 3
  rw [hwk_i2.1, hwk_i2.2] at H2
  have HI2 := Lib.hid (show Calls Tryz.prog 26 #[.pointer (some ⟨gt, 0, none⟩), .int .u32 12, .int .i64 3] w3 (HDone W p2 g gt hwk3 htk2 (.tuple #[.int .u64 2, .int .i64 0]) w3) from H2)
  clear T3 K3 H2 HI1
  go_wp2_with fail
  refine HI2.out.mono ?_
  rintro e w4 ⟨rfl, T4, K4⟩
  have H3 := tissue_any T4 22 (by decide) 9
  rw [hwk_i3] at H3
  have HI3 := Lib.hid (show Calls Tryz.prog 26 #[.pointer (some ⟨gt, 0, none⟩), .int .u32 22, .int .i64 9] w4 (HDone W p2 g gt hwk4 htk3 (.tuple #[.int .u64 (issV hwk3 htk2 22 9 : Nat), .int .i64 161]) w4) from H3)
  clear T4 K4 H3 HI2
  generalize issV hwk3 htk2 22 9 = v3 at *
  go_wp2_with fail
  refine HI3.out.mono ?_
  rintro e w5 ⟨rfl, T5, K5⟩
  have HTK := Lib.hid (ttick_any T5 3 (by decide) (by decide))
  have HAB := Lib.hid T5.above
  clear T5 K5 HI3
  go_wp2_with fail
  refine HTK.out.mono ?_
  rintro e w6 ⟨v, rfl, hown, T6, K6⟩
  rw [hwk_tl] at hown
  have hown : w6.ownsRow w5.heap.size 47 1 v 1 [.int .u64 2] := hown
  have HOW := Lib.hid hown
  have HTE := Lib.hid hwk_t
  rw [HTE.out]
  have H4 := tissue_any T6 22 (by decide) 9
  rw [show tikE hwk4 htk3 3 = 0 from hwk_t] at *
  have H4 : Calls Tryz.prog 26 #[.pointer (some ⟨gt, 0, none⟩), .int .u32 22, .int .i64 9] w6 (HDone W p2 g gt hwk6 htk5 (.tuple #[.int .u64 (issV hwk5 htk4 22 9 : Nat), .int .i64 (issE hwk5 htk4 22 9 : Nat)]) w6) := H4
  rw [hwk_i4.1, hwk_i4.2] at H4
  have HI4 := Lib.hid H4
  clear hown T6 K6 H4 HTK HTE
  go_wp2_with fail
  refine HI4.out.mono ?_
  rintro e w7 ⟨rfl, T7, K7⟩
  have HO7 := Lib.hid (K7.row HOW.out HAB.out)
  have H5 := tget_any T7 2 (by decide)
  rw [hwk_g] at H5
  have HG := Lib.hid (show Calls Tryz.prog 30 #[.pointer (some ⟨gt, 0, none⟩), .int .u64 2] w7 (Told (.tuple #[.int .u32 (gotV hwk6 htk5 2 : Nat), .int .i64 160]) w7) from H5)
  have HB7 := Lib.hid T7.live.below
  clear T7 K7 H5 HI4 HOW HAB
  generalize gotV hwk6 htk5 2 = o7 at *
  go_wp2_with fail
  refine HG.out.mono ?_
  rintro e w8 ⟨rfl, hb8⟩
  obtain ⟨gv, cv, rfl, hrow, -, -⟩ := Row.of_any (own_below HO7.out hb8) (by decide)
  have hcell := hrow.cell (i := 0) (u := .int .u64 2) rfl
  have HB8 := Lib.hid (below_top HB7.out hb8)
  clear hb8 hrow HO7 HG
  go_wp2_with fail
  refine (HNU.out 161 (by decide) _).mono ?_
  rintro e w9 ⟨rfl, rfl⟩
  go_wp2_with fail
  refine (HNU.out 160 (by decide) _).mono ?_
  rintro e w9 ⟨rfl, rfl⟩
  go_wp2_with fail
  go_ret
  exact ⟨rfl, HB8.out⟩
end Go.Proofs.YtlkahgagmfhdaaaGreatDoor

namespace Go.Proofs.YtlkahgagmfhdaaaGreatDoor
open Go.RowKit
attribute [local go_sem] Oper.semAt_some

/-- A deed of a script. -/
structure Hd5 where
  k : Int
  o : Nat
  id : Nat
  n : Int
  i : Int
def Hd5.vals (d : Hd5) : List Value := [.int .i64 d.k, .int .u32 (d.o : Int), .int .u64 (d.id : Int), .int .i64 d.n, .int .i64 d.i]
structure Hd5.Fit (d : Hd5) : Prop where
  k1 : -9223372036854775808 ≤ d.k
  k2 : d.k ≤ 9223372036854775807
  o : d.o < 4294967296
  id : d.id < 18446744073709551616
  n1 : -9223372036854775808 ≤ d.n
  n2 : d.n ≤ 9223372036854775807
  i1 : -9223372036854775808 ≤ d.i
  i2 : d.i ≤ 9223372036854775807
/-- The deeds of a script in memory. -/
def Hds5 (w : World) (B : Nat) (A : Option Addr) (n : Nat) (ds : List Hd5) : Prop := ds.length = n ∧ ∀ i d, ds[i]? = some d → d.Fit ∧ ∃ ad, A = some ad ∧ ad.block < B ∧ ∀ j v, d.vals[j]? = some v → w.cell? (ad.add (i * 5 + j)) = some v
theorem Hds5.below {w w' : World} {B : Nat} {A : Option Addr} {n : Nat} {ds : List Hd5} (H : Hds5 w B A n ds) (hb : Below B w w') : Hds5 w' B A n ds :=
  ⟨H.1, fun i d hd => by
    obtain ⟨f, ad, h1, h2, h3⟩ := H.2 i d hd
    exact ⟨f, ad, h1, h2, fun j v hv => (hb.cell (p := ad.add (i * 5 + j)) (by rw [block_of_add]; exact h2)).trans (h3 j v hv)⟩⟩
theorem Hds5.at_ {w : World} {B : Nat} {A : Option Addr} {n : Nat} {ds : List Hd5} (H : Hds5 w B A n ds) {i : Nat} (hi : i < n) : ∃ d ad, ds[i]? = some d ∧ d.Fit ∧ A = some ad ∧ ad.block < B ∧
    w.cell? (ad.add (i * 5)) = some (.int .i64 d.k) ∧ w.cell? (ad.add (i * 5 + 1)) = some (.int .u32 (d.o : Int)) ∧ w.cell? (ad.add (i * 5 + 2)) = some (.int .u64 (d.id : Int)) ∧ w.cell? (ad.add (i * 5 + 3)) = some (.int .i64 d.n) ∧ w.cell? (ad.add (i * 5 + 4)) = some (.int .i64 d.i) := by
  have hl : i < ds.length := by rw [H.1]; exact hi
  obtain ⟨f, ad, h1, h2, h3⟩ := H.2 i _ (List.getElem?_eq_getElem hl)
  exact ⟨_, ad, List.getElem?_eq_getElem hl, f, h1, h2, h3 0 _ rfl, h3 1 _ rfl, h3 2 _ rfl, h3 3 _ rfl, h3 4 _ rfl⟩
end Go.Proofs.YtlkahgagmfhdaaaGreatDoor

namespace Go.Proofs.YtlkahgagmfhdaaaGreatDoor
open Go.RowKit
attribute [local go_sem] Oper.semAt_some

def NoTb (w : World) (v : Value) : Prop := v = .pointer none ∨ ∃ g, v = .pointer (some ⟨g, 0, none⟩) ∧ w.cell? ⟨g, 513, none⟩ = some (.int .i64 0)
theorem NoTb.below {w w' : World} {v : Value} (h : NoTb w v) (hb : Below w.heap.size w w') : NoTb w' v := by
  rcases h with h | ⟨g, h1, h2⟩
  · exact .inl h
  · exact .inr ⟨g, h1, (hb.cell (p := ⟨g, 513, none⟩) (World.block_lt_of_cell? _ _ h2)).trans h2⟩
section
variable {w : World} {v : Value}
end
end Go.Proofs.YtlkahgagmfhdaaaGreatDoor
