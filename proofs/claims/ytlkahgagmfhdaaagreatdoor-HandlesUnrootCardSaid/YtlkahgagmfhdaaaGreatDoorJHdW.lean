/- New. -/
/- heaps: a heap of the program's and one of the document's, with so many objects. -/
/- awake of chapter 16. -/
/- A table that is nil, or that New did not make. -/
import Derived.Test.YtlkahgagmfhdaaaGreatDoorJHdO
import Derived.Test.YtlkahgagmfhdaaaGreatDoorJTwo
import Derived.Test.YtlkahgagmfhdaaaGreatDoorJAll
import Derived.Laws.Tables
set_option linter.unusedVariables false
set_option linter.unusedSimpArgs false
set_option linter.unusedSectionVars false
namespace Go.Proofs.YtlkahgagmfhdaaaGreatDoor
open Go.RowKit
attribute [local go_sem] Oper.semAt_some

set_option maxRecDepth 100000 in
theorem tab_cells (g cap first : Nat) : ((Tryz.zeroCells96.setIfInBounds 0 (.pointer (some ⟨g, 0, none⟩))).setIfInBounds 513 (.int .i64 (cap : Int))).setIfInBounds 514 (.int .u64 (first : Int)) = ((TM.fresh cap first).cells g).toArray := by kernel_rfl
/-- New's error, and what it leaves. -/
def nwE (h : HM) (n : Int) (first : Nat) : Nat := if n < 1 ∨ 256 < n ∨ first = 0 then 1 else if kindM (h.roots.getD 20 0) = 1 then 3 else h.AllocE (h.roots.getD 20 0) 1 n
def nwH (h : HM) (n : Int) : HM := (h.AllocH (h.roots.getD 20 0) 1 n).setRootH 40 (h.AllocO (h.roots.getD 20 0) 1 n)
def NewP (W : World) (p : HP) (g : Nat) (h : HM) (n : Int) (first : Nat) (w : World) (e : Ending) (w' : World) : Prop :=
  (nwE h n first ≠ 0 ∧ ∃ p', e = .returned (.tuple #[.pointer none, .int .i64 (nwE h n first : Nat)]) ∧ Live W w' p' g h ∧ Step p p' w w') ∨
  (nwE h n first = 0 ∧ ∃ p' gt, e = .returned (.tuple #[.pointer (some ⟨gt, 0, none⟩), .int .i64 0]) ∧ HT W w' p' g gt (nwH h n) (TM.fresh n.toNat first) ∧ Step p p' w w' ∧ w.heap.size ≤ gt)
theorem kind_small (o : Nat) : ((kindM o : Int) == 1) = decide (kindM o = 1) := by
  by_cases h : kindM o = 1
  · simp [h]
  · simp [h]; omega
set_option maxRecDepth 100000 in
set_option maxHeartbeats 4000000 in
theorem tnew_any {W w : World} {p : HP} {g : Nat} {h : HM} (L : Live W w p g h) (n : Int) (first : Nat) (hf : first < 18446744073709551616) : Calls Tryz.prog 23 #[.pointer (some ⟨g, 0, none⟩), .int .i64 n, .int .u64 (first : Int)] w (NewP W p g h n first w) := by
  have HE := Lib.hid (show nwE h n first = if n < 1 ∨ 256 < n ∨ first = 0 then 1 else if kindM (h.roots.getD 20 0) = 1 then 3 else h.AllocE (h.roots.getD 20 0) 1 n from rfl)
  have HL := Lib.hid L
  by_cases hr : n < 1 ∨ 256 < n ∨ first = 0
  · have he : nwE h n first = 1 := by rw [HE.out, if_pos hr]
    have HV := Lib.hid he
    clear he HE L
    by_cases h1 : n < 1
    · clear hr
      go_enter Tryz.func23, Tryz.ntmps23
      go_wp2_with fail
      go_ret2
      exact .inl ⟨by rw [HV.out]; decide, p, by rw [HV.out]; rfl, HL.out, Step.refl _ _⟩
    · by_cases h2 : 256 < n
      · clear hr
        go_enter Tryz.func23, Tryz.ntmps23
        go_wp2_with fail
        go_ret2
        exact .inl ⟨by rw [HV.out]; decide, p, by rw [HV.out]; rfl, HL.out, Step.refl _ _⟩
      · obtain rfl : first = 0 := by omega
        clear hr
        simp only [Int.natCast_zero]
        go_enter Tryz.func23, Tryz.ntmps23
        go_wp2_with fail
        go_ret2
        exact .inl ⟨by rw [HV.out]; decide, p, by rw [HV.out]; rfl, HL.out, Step.refl _ _⟩
  · have h1 : ¬ n < 1 := fun hh => hr (.inl hh)
    have h2 : ¬ 256 < n := fun hh => hr (.inr (.inl hh))
    have h3 : ¬ first = 0 := fun hh => hr (.inr (.inr hh))
    have h4 : ((first : Int) == 0) = false := by simpa using h3
    have HE2 := Lib.hid (HE.out.trans (if_neg hr))
    have HR := Lib.hid (show Calls Tryz.prog 81 #[.pointer (some ⟨g, 0, none⟩), .int .i64 20] w (Said (.tuple #[.int .u32 (h.roots.getD 20 0 : Nat), .int .i64 0]) w) from L.root 20)
    have hc := L.fit.root 20
    have HK := Lib.hid (kind_any (h.roots.getD 20 0) hc w)
    have HA := Lib.hid (L.alloc (h.roots.getD 20 0) hc 1 n)
    have HNW := Lib.hid (show nwH h n = (h.AllocH (h.roots.getD 20 0) 1 n).setRootH 40 (h.AllocO (h.roots.getD 20 0) 1 n) from rfl)
    have HO := Lib.hid (show h.AllocE (h.roots.getD 20 0) 1 n ≠ 0 → h.AllocH (h.roots.getD 20 0) 1 n = h from fun hh => by rw [HM.AllocH_eq, if_neg hh])
    have HO32 := Lib.hid (show h.AllocO (h.roots.getD 20 0) 1 n < 4294967296 by unfold HM.AllocO; have := L.fit.room; have := L.fit.hi; split <;> omega)
    have hks := kind_small (h.roots.getD 20 0)
    have hkl : kindM (h.roots.getD 20 0) < 3 := by unfold kindM; split <;> (try split) <;> omega
    have HAE := h.AllocE_lt (h.roots.getD 20 0) 1 n
    clear HE L hr
    generalize h.roots.getD 20 0 = c at *
    by_cases hk : kindM c = 1
    · have he : nwE h n first = 3 := by rw [HE2.out, if_pos hk]
      have HV := Lib.hid he
      rw [hk] at HK
      clear he HE2 HA HO HNW hks HAE
      go_enter Tryz.func23, Tryz.ntmps23
      go_wp2_with fail
      refine HR.out.mono ?_
      rintro e w1 ⟨rfl, rfl⟩
      go_wp2_with fail
      refine HK.out.mono ?_
      rintro e w1 ⟨rfl, rfl⟩
      go_wp2_with fail
      go_ret2
      exact .inl ⟨by rw [HV.out]; decide, p, by rw [HV.out]; rfl, HL.out, Step.refl _ _⟩
    · have HE3 := Lib.hid (HE2.out.trans (if_neg hk))
      rw [decide_eq_false hk] at hks
      clear HE2
      by_cases ha : h.AllocE c 1 n = 0
      · have HV := Lib.hid (HE3.out.trans ha)
        rw [ha] at HA
        obtain ⟨m, rfl⟩ := Int.eq_ofNat_of_zero_le (show 0 ≤ n by omega)
        have HF := Lib.hid (TM.Ok.fresh (cap := m) (first := first) (by omega) (by omega) hf)
        have HBT := Lib.hid (tab_cells g m first)
        generalize h.AllocO c 1 m = o at *
        generalize h.AllocH c 1 m = h2 at *
        clear HE3 HO hkl HAE hk
        generalize kindM c = kk at *
        go_enter Tryz.func23, Tryz.ntmps23
        go_wp2_with fail
        refine HR.out.mono ?_
        rintro e w1 ⟨rfl, rfl⟩
        go_wp2_with fail
        refine HK.out.mono ?_
        rintro e w1 ⟨rfl, rfl⟩
        go_wp2_with fail
        refine HA.out.mono ?_
        rintro e w1 ⟨p1, rfl, L1, s1⟩
        have HSR := Lib.hid (L1.setRoot 40 o HO32.out)
        have HS1 := Lib.hid s1
        clear L1 s1
        go_wp2_with fail
        refine HSR.out.mono ?_
        rintro e w2 ⟨p2, rfl, L2, s2⟩
        have HL2 := Lib.hid L2
        have HS2 := Lib.hid (HS1.out.trans s2)
        clear L2 s2
        go_wp2_with fail
        go_ret2
        have hb := (Below.refl w2.heap.size w2).alloc (Nat.le_refl _) (.cells (((Tryz.zeroCells96.setIfInBounds 0 (.pointer (some ⟨g, 0, none⟩))).setIfInBounds 513 (.int .i64 (m : Int))).setIfInBounds 514 (.int .u64 (first : Int))) 96)
        have hbl := Blk.new w2 96 (((Tryz.zeroCells96.setIfInBounds 0 (.pointer (some ⟨g, 0, none⟩))).setIfInBounds 513 (.int .i64 (m : Int))).setIfInBounds 514 (.int .u64 (first : Int)))
        rw [HBT.out] at hbl hb
        rw [HBT.out]
        exact .inr ⟨HV.out, p2, w2.heap.size, rfl, ⟨HNW.out ▸ HL2.out.after hb, hbl, HF.out, HL2.out.below.size⟩, HS2.out.below' hb, HS2.out.size⟩
      · have HV := Lib.hid HE3.out
        have hne : ((h.AllocE c 1 n : Int) != 0) = true := by simp; omega
        rw [HO.out ha] at HA
        generalize h.AllocE c 1 n = E at *
        clear HE3 HO hkl hk HAE
        generalize kindM c = kk at *
        go_enter Tryz.func23, Tryz.ntmps23
        go_wp2_with fail
        refine HR.out.mono ?_
        rintro e w1 ⟨rfl, rfl⟩
        go_wp2_with fail
        refine HK.out.mono ?_
        rintro e w1 ⟨rfl, rfl⟩
        go_wp2_with fail
        refine HA.out.mono ?_
        rintro e w1 ⟨p1, rfl, L1, s1⟩
        have HL1 := Lib.hid L1
        have HS1 := Lib.hid s1
        clear L1 s1
        go_wp2_with fail
        go_ret2
        exact .inl ⟨by rw [HV.out]; exact ha, p1, by rw [HV.out]; rfl, HL1.out, HS1.out⟩
end Go.Proofs.YtlkahgagmfhdaaaGreatDoor

namespace Go.Proofs.YtlkahgagmfhdaaaGreatDoor
open Go.RowKit
attribute [local go_sem] Oper.semAt_some

theorem hnum_any (E : Nat) (hE : E < 4294967296) (w : World) : Calls Tryz.prog 24 #[.int .i64 (E : Int)] w (Said (.int .i64 (E : Int)) w) := by
  go_enter Tryz.func24, Tryz.ntmps24
  go_wp2_with fail
  go_ret
  exact ⟨rfl, rfl⟩
def scrC (sz ob cp : Int) (fi : Nat) (A : Option Addr) (nd c : Nat) : Array Value := #[.int .i64 sz, .int .i64 ob, .int .i64 cp, .int .u64 (fi : Int), .slice A nd c]
def allocs (n : Nat) : Nat → HM
  | 0 => HM.new n
  | j + 1 => (allocs n j).AllocH 0 1 2
def hpsH (n k : Nat) : HM := (allocs n k).setRootH 1 ((allocs n k).objM 1)
def obN (ob : Int) : Nat := min ob.toNat 1000
def HeapsP (W : World) (sz ob : Int) (e : Ending) (w' : World) : Prop :=
  ((sz < 64 ∨ 1048576 < sz) ∧ e = .returned (.tuple #[.pointer none, .pointer none, .bool false]) ∧ Below W.heap.size W w') ∨
  (64 ≤ sz ∧ sz ≤ 1048576 ∧ ∃ p q g k, e = .returned (.tuple #[.pointer (some ⟨g, 0, none⟩), .pointer (some ⟨k, 0, none⟩), .bool true]) ∧ Two W w' p g q k (hpsH sz.toNat (obN ob)) (hpsH sz.toNat (obN ob)) ∧ Below W.heap.size W w')
/-- A block that is none of the heaps' stays. -/
theorem Blk.two {w w' : World} {p q p' q' : HP} {g : Nat} {t : TypeId} {cs : Array Value} (B : Blk w g t cs) (s : Step2 p q p' q' w w') (hp : ¬ p.has g) (hq : ¬ q.has g) : Blk w' g t cs ∧ ¬ p'.has g ∧ ¬ q'.has g :=
  ⟨B.same (s.block g B.lt hp hq), fun h => (s.prows g h).elim hp (fun h => by have := B.lt; omega), fun h => (s.qrows g h).elim hq (fun h => by have := B.lt; omega)⟩
theorem objM_lt {h : HM} (f : h.Fit) : h.objM 1 < 4294967296 := by
  unfold HM.objM
  split <;> omega
set_option maxRecDepth 100000 in
set_option maxHeartbeats 4000000 in
theorem heaps_any (W : World) (E : Env W) (sz ob cp : Int) (fi : Nat) (A : Option Addr) (nd c : Nat) : Calls Tryz.prog 22 #[.agg #[.int .i64 sz, .int .i64 ob, .int .i64 cp, .int .u64 (fi : Int), .slice A nd c]] W (HeapsP W sz ob) := by
  have hb0 := (Below.refl W.heap.size W).alloc (Nat.le_refl _) (.cells #[.int .i64 sz, .int .i64 ob, .int .i64 cp, .int .u64 (fi : Int), .slice A nd c] 50)
  have BX := Lib.hid (Blk.new W 50 #[.int .i64 sz, .int .i64 ob, .int .i64 cp, .int .u64 (fi : Int), .slice A nd c])
  have HB0 := Lib.hid hb0
  have HE := Lib.hid E
  have HNU := Lib.hid (fun w' => hnum_any 0 (by decide) w')
  clear hb0 E
  by_cases hz : sz < 64 ∨ 1048576 < sz
  · have HN := Lib.hid (fun w => new_bad sz hz w)
    have HRN := Lib.hid (fun w => rnew_bad sz hz w)
    go_enter Tryz.func22, Tryz.ntmps22
    obtain ⟨x0, x1, x2, x3, x4⟩ := BX.out.cells5
    go_wp2_with fail
    refine (HN.out _).mono ?_
    rintro e w1 ⟨rfl, rfl⟩
    go_wp2_with fail
    refine (HRN.out _).mono ?_
    rintro e w2 ⟨rfl, rfl⟩
    go_wp2_with fail
    go_ret3
    exact .inl ⟨hz, rfl, HB0.out⟩
  · obtain ⟨n, rfl⟩ := Int.eq_ofNat_of_zero_le (show 0 ≤ sz by omega)
    have h1 : 64 ≤ n := by omega
    have h2 : n ≤ 1048576 := by omega
    have HN := Lib.hid (fun w => new_any n h1 h2 w)
    have HRN := Lib.hid (fun w => rnew_any n h1 h2 w)
    have HSZ := Lib.hid (show (64 : Int) ≤ (n : Int) ∧ (n : Int) ≤ 1048576 by omega)
    clear hz
    go_enter Tryz.func22, Tryz.ntmps22
    obtain ⟨x0, x1, x2, x3, x4⟩ := BX.out.cells5
    go_wp2_with fail
    clear x0 x1 x2 x3 x4
    generalize W.alloc (.cells #[.int .i64 (n : Int), .int .i64 ob, .int .i64 cp, .int .u64 (fi : Int), .slice A nd c] 50) = W1 at *
    refine (HN.out _).mono ?_
    rintro e w1 ⟨p, rfl, H1, hp1, hb1⟩
    have L1 : Live W w1 p p.g (HM.new n) := ⟨H1, rfl, ⟨[], HM.new_good h1 h2 (HM.new_fit h1 h2)⟩, HE.out, fun k hk => Nat.le_trans HB0.out.size (hp1 k hk), HB0.out.trans (hb1.mono HB0.out.size)⟩
    have HL1 := Lib.hid L1
    have HB1 := Lib.hid hb1
    have BX1 := Lib.hid (BX.out.below hb1 BX.out.lt)
    have HX1 := Lib.hid (show ∀ k, p.has k → W1.heap.size ≤ k from hp1)
    obtain ⟨x0, x1, x2, x3, x4⟩ := BX1.out.cells5
    clear H1 hp1 hb1 L1
    unfold ptr
    go_wp2_with fail
    clear x0 x1 x2 x3 x4
    refine (HRN.out _).mono ?_
    rintro e w2 ⟨q, rfl, R2, hq2, hb2⟩
    have HT := Lib.hid (show Two W w2 p p.g q q.g (HM.new n) (HM.new n) from ⟨HL1.out.after hb2, R2, rfl, fun j hj => Nat.le_trans HL1.out.below.size (hq2 j hj), fun j hj hh => by have := HL1.out.at_.lt hh; have := hq2 j hj; omega⟩)
    have BX2 := Lib.hid (BX1.out.below hb2 BX1.out.lt)
    have HXP := Lib.hid (show ¬ p.has W.heap.size ∧ ¬ q.has W.heap.size from ⟨fun hh => by have := HX1.out _ hh; have := BX.out.lt; omega, fun hh => by have := hq2 _ hh; have := BX1.out.lt; omega⟩)
    clear R2 hq2 hb2
    unfold ptr
    go_wp2_with fail
    refine (HNU.out _).mono ?_
    rintro e w3 ⟨rfl, rfl⟩
    go_wp2_with fail
    generalize p.g = g at *
    generalize q.g = k at *
    go_loopw [8] (fun iv wr => ∃ (j : Nat) (pj qj : HP), iv = .int .i64 (j : Int) ∧ j ≤ obN ob ∧ Hid (Two W wr pj g qj k (allocs n j) (allocs n j)) ∧ Hid (Blk wr W.heap.size 50 #[.int .i64 (n : Int), .int .i64 ob, .int .i64 cp, .int .u64 (fi : Int), .slice A nd c]) ∧ Hid (¬ pj.has W.heap.size ∧ ¬ qj.has W.heap.size)) (fun iv _ => obN ob - (intOf iv).toNat)
    case atStart => exact ⟨0, p, q, rfl, Nat.zero_le _, HT, BX2, HXP⟩
    case round =>
      clear HT BX2 HXP HL1 HB1 BX1 HX1
      obtain ⟨j, pj, qj, rfl, hj, HTj, BXj, HXj⟩ := hrel
      obtain ⟨x0, x1, x2, x3, x4⟩ := BXj.out.cells5
      by_cases hlt : j < obN ob
      · have d1 : (j : Int) < ob := by unfold obN at hlt; omega
        have d2 : (j : Int) < 1000 := by unfold obN at hlt; omega
        have HA := Lib.hid (HTj.out.live.alloc 0 (by decide) 1 2)
        have hE := (allocs n j).AllocE_lt 0 1 2
        have HFT := Lib.hid HTj.out.live.fit
        have HAH := Lib.hid (show allocs n (j + 1) = (allocs n j).AllocH 0 1 2 from rfl)
        simp only [Int.natCast_zero] at HA
        go_wp2_with fail
        clear x0 x1 x2 x3 x4
        refine HA.out.mono ?_
        intro e w4 hD
        obtain ⟨p4, q4, rfl, T4, s4⟩ := HTj.out.of_done hD
        obtain ⟨BX4, hp4, hq4⟩ := BXj.out.two s4 HXj.out.1 HXj.out.2
        have HRA := Lib.hid (T4.ralloc HFT.out 0 (by decide) 1 2)
        have HBX4 := Lib.hid BX4
        have HX4 := Lib.hid (And.intro hp4 hq4)
        clear hD T4 s4 BX4 hp4 hq4
        simp only [Int.natCast_zero] at HRA
        generalize (allocs n j).AllocO 0 1 2 = O at *
        go_wp2_with fail
        refine HRA.out.mono ?_
        rintro e w5 ⟨p5, q5, rfl, T5, s5⟩
        obtain ⟨BX5, hp5, hq5⟩ := HBX4.out.two s5 HX4.out.1 HX4.out.2
        have HT5 := Lib.hid T5
        have HBX5 := Lib.hid BX5
        have HX5 := Lib.hid (And.intro hp5 hq5)
        clear T5 s5 BX5 hp5 hq5
        go_wp2_with fail
        go_roundw
        case rel => exact ⟨j + 1, p5, q5, by go_num, by omega, by rw [HAH.out]; exact HT5, HBX5, HX5⟩
        case measure => simp [intOf]; omega
      · have hje : j = obN ob := by omega
        have d1 : ¬ ((j : Int) < ob ∧ (j : Int) < 1000) := by unfold obN at hje; omega
        have HF := Lib.hid (HTj.out.live.first)
        have HO := Lib.hid (objM_lt HTj.out.live.fit)
        have HSR := Lib.hid (HTj.out.live.setRoot 1 ((allocs n j).objM 1) HO.out)
        have HFT := Lib.hid HTj.out.live.fit
        have HHP := Lib.hid (show hpsH n (obN ob) = (allocs n j).setRootH 1 ((allocs n j).objM 1) by rw [← hje]; rfl)
        have HTX := Lib.hid (fun (w' : World) (p' q' : HP) (a : HM) (T' : Two W w' p' g q' k a (allocs n j)) => (show Calls Tryz.prog 80 #[.pointer (some ⟨k, 0, none⟩)] w' (Said (.int .u32 ((allocs n j).objM 1 : Nat)) w') from by have hh := rfirst_any T'.doc HFT.out; rw [ptr, T'.hk] at hh; exact hh))
        clear hje hj hlt
        generalize (allocs n j).objM 1 = O at *
        generalize allocs n j = aa at *
        by_cases e1 : (j : Int) < ob
        · have e2 : ¬ (j : Int) < 1000 := fun hh => d1 ⟨e1, hh⟩
          clear d1
          go_wp2_with fail
          refine HF.out.mono ?_
          rintro e w4 ⟨rfl, rfl⟩
          go_wp2_with fail
          refine HSR.out.mono ?_
          intro e w5 hD
          obtain ⟨p5, q5, rfl, T5, s5⟩ := HTj.out.of_done hD
          have HFI := Lib.hid (HTX.out _ _ _ _ T5)
          have HRS := Lib.hid (T5.rsetRoot HFT.out 1 O HO.out)
          clear hD T5 s5
          go_wp2_with fail
          refine HFI.out.mono ?_
          rintro e w6 ⟨rfl, rfl⟩
          go_wp2_with fail
          refine HRS.out.mono ?_
          rintro e w7 ⟨p7, q7, rfl, T7, s7⟩
          have HT7 := Lib.hid T7
          clear T7 s7
          go_wp2_with fail
          go_ret3
          exact .inr ⟨HSZ.out.1, HSZ.out.2, p7, q7, g, k, rfl, by rw [show (n : Int).toNat = n from rfl, HHP.out]; exact HT7.out, HT7.out.live.below⟩
        · clear d1
          go_wp2_with fail
          refine HF.out.mono ?_
          rintro e w4 ⟨rfl, rfl⟩
          go_wp2_with fail
          refine HSR.out.mono ?_
          intro e w5 hD
          obtain ⟨p5, q5, rfl, T5, s5⟩ := HTj.out.of_done hD
          have HFI := Lib.hid (HTX.out _ _ _ _ T5)
          have HRS := Lib.hid (T5.rsetRoot HFT.out 1 O HO.out)
          clear hD T5 s5
          go_wp2_with fail
          refine HFI.out.mono ?_
          rintro e w6 ⟨rfl, rfl⟩
          go_wp2_with fail
          refine HRS.out.mono ?_
          rintro e w7 ⟨p7, q7, rfl, T7, s7⟩
          have HT7 := Lib.hid T7
          clear T7 s7
          go_wp2_with fail
          go_ret3
          exact .inr ⟨HSZ.out.1, HSZ.out.2, p7, q7, g, k, rfl, by rw [show (n : Int).toNat = n from rfl, HHP.out]; exact HT7.out, HT7.out.live.below⟩
end Go.Proofs.YtlkahgagmfhdaaaGreatDoor

namespace Go.Proofs.YtlkahgagmfhdaaaGreatDoor
open Go.RowKit
attribute [local go_sem] Oper.semAt_some

def hwk0 : HM := hpsH 200 3
def hwk1 : HM := nwH hwk0 2
def htk0 : TM := TM.fresh 2 1
def htk1 : TM := issT hwk1 htk0 2 5
def hwk2 : HM := issH hwk1 htk0 2 5
def htk2 : TM := issT hwk2 htk1 12 3
def hwk3 : HM := issH hwk2 htk1 12 3
def htk3 : TM := issT hwk3 htk2 22 9
def hwk4 : HM := issH hwk3 htk2 22 9
def htk4 : TM := tikT hwk4 htk3 3
def hwk5 : HM := tikH hwk4 htk3 3
def htk5 : TM := issT hwk5 htk4 22 9
def hwk6 : HM := issH hwk5 htk4 22 9
theorem hwk_new : nwE hwk0 2 1 = 0 := by decide +kernel
theorem hwk_i1 : issE hwk1 htk0 2 5 = 0 ∧ issV hwk1 htk0 2 5 = 1 := by decide +kernel
theorem hwk_i2 : issE hwk2 htk1 12 3 = 0 ∧ issV hwk2 htk1 12 3 = 2 := by decide +kernel
theorem hwk_i3 : issE hwk3 htk2 22 9 = 161 := by decide +kernel
theorem hwk_t : tikE hwk4 htk3 3 = 0 := by decide +kernel
theorem hwk_l : (htk3.pass 3).ids ((htk3.pass 3).goneK 256) = [2] := by decide +kernel
theorem sortN_one (x : Nat) : sortN [x] = [x] := by simp [sortN]
theorem hwk_tl : tikL hwk4 htk3 3 = [2] := by
  unfold tikL
  rw [if_pos hwk_t, show (3 : Int).toNat = 3 from rfl, hwk_l, sortN_one]
theorem hwk_i4 : issE hwk5 htk4 22 9 = 0 ∧ issV hwk5 htk4 22 9 = 3 := by decide +kernel
theorem hwk_g : fndE hwk6 htk5 2 = 160 := by decide +kernel
/-- Own rows stay under a table's deed. -/
theorem HKeep.row {p : HP} {gt : Nat} {w w' : World} {B s n : Nat} {e : TypeId} {v : Value} {xs : List Value} (K : HKeep p gt w w') (h : w.ownsRow B e s v n xs) (hB : ∀ k, B ≤ k → ¬ p.has k ∧ k ≠ gt) : w'.ownsRow B e s v n xs :=
  own_keep h fun q hq => K.block q (h.lt q hq).2 (hB q (h.lt q hq).1).1 (hB q (h.lt q hq).1).2
theorem HT.above {W w : World} {p : HP} {g gt : Nat} {h : HM} {t : TM} (T : HT W w p g gt h t) : ∀ k, w.heap.size ≤ k → ¬ p.has k ∧ k ≠ gt :=
  fun k hk => ⟨fun hh => by have := T.live.at_.lt hh; omega, fun e => by have := T.tab.lt; omega⟩
set_option maxRecDepth 100000 in
set_option maxHeartbeats 4000000 in
theorem hawake_any (W : World) (E : Env W) : Calls Tryz.prog 21 #[] W (Told (.bool true) W) := by
  have HH := Lib.hid (show Calls Tryz.prog 22 #[.agg #[.int .i64 200, .int .i64 3, .int .i64 0, .int .u64 0, .slice none 0 0]] W (HeapsP W 200 3) from heaps_any W E 200 3 0 0 none 0 0)
  have HNU := Lib.hid (fun E hE w' => hnum_any E hE w')
  clear E
  go_enter Tryz.func21, Tryz.ntmps21
  go_wp2_with fail
  refine HH.out.mono ?_
  rintro e w1 (⟨hz, -, -⟩ | ⟨-, -, p1, q1, g, k, rfl, T1, hb1⟩)
  · omega
  have L1 : Live W w1 p1 g hwk0 := T1.live
  have HNW := Lib.hid (show Calls Tryz.prog 23 #[.pointer (some ⟨g, 0, none⟩), .int .i64 2, .int .u64 1] w1 (NewP W p1 g hwk0 2 1 w1) from tnew_any L1 2 1 (by decide))
  clear T1 hb1 L1 HH
  go_wp2_with fail
  refine HNW.out.mono ?_
  rintro e w2 (⟨hne, -⟩ | ⟨-, p2, gt, rfl, T2, s2, hgt⟩)
  · exact absurd hwk_new hne
  have T2 : HT W w2 p2 g gt hwk1 htk0 := T2
  have H1 := tissue_any T2 2 (by decide) 5
  rw [hwk_i1.1, hwk_i1.2] at H1
  have HI1 := Lib.hid (show Calls Tryz.prog 26 #[.pointer (some ⟨gt, 0, none⟩), .int .u32 2, .int .i64 5] w2 (HDone W p2 g gt hwk2 htk1 (.tuple #[.int .u64 1, .int .i64 0]) w2) from H1)
  clear T2 s2 hgt H1 HNW
  go_wp2_with fail
  refine (HNU.out 0 (by decide) _).mono ?_
  rintro e w3 ⟨rfl, rfl⟩
  go_wp2_with fail
  refine HI1.out.mono ?_
  rintro e w3 ⟨rfl, T3, K3⟩
  have H2 := tissue_any T3 12 (by decide) 3
  rw [hwk_i2.1, hwk_i2.2] at H2
  have HI2 := Lib.hid (show Calls Tryz.prog 26 #[.pointer (some ⟨gt, 0, none⟩), .int .u32 12, .int .i64 3] w3 (HDone W p2 g gt hwk3 htk2 (.tuple #[.int .u64 2, .int .i64 0]) w3) from H2)
  clear T3 K3 H2 HI1
  go_wp2_with fail
  refine HI2.out.mono ?_
  rintro e w4 ⟨rfl, T4, K4⟩
  have H3 := tissue_any T4 22 (by decide) 9
  rw [hwk_i3] at H3
  have HI3 := Lib.hid (show Calls Tryz.prog 26 #[.pointer (some ⟨gt, 0, none⟩), .int .u32 22, .int .i64 9] w4 (HDone W p2 g gt hwk4 htk3 (.tuple #[.int .u64 (issV hwk3 htk2 22 9 : Nat), .int .i64 161]) w4) from H3)
  clear T4 K4 H3 HI2
  generalize issV hwk3 htk2 22 9 = v3 at *
  go_wp2_with fail
  refine HI3.out.mono ?_
  rintro e w5 ⟨rfl, T5, K5⟩
  have HTK := Lib.hid (ttick_any T5 3 (by decide) (by decide))
  have HAB := Lib.hid T5.above
  clear T5 K5 HI3
  go_wp2_with fail
  refine HTK.out.mono ?_
  rintro e w6 ⟨v, rfl, hown, T6, K6⟩
  rw [hwk_tl] at hown
  have hown : w6.ownsRow w5.heap.size 47 1 v 1 [.int .u64 2] := hown
  have HOW := Lib.hid hown
  have HTE := Lib.hid hwk_t
  rw [HTE.out]
  have H4 := tissue_any T6 22 (by decide) 9
  rw [show tikE hwk4 htk3 3 = 0 from hwk_t] at *
  have H4 : Calls Tryz.prog 26 #[.pointer (some ⟨gt, 0, none⟩), .int .u32 22, .int .i64 9] w6 (HDone W p2 g gt hwk6 htk5 (.tuple #[.int .u64 (issV hwk5 htk4 22 9 : Nat), .int .i64 (issE hwk5 htk4 22 9 : Nat)]) w6) := H4
  rw [hwk_i4.1, hwk_i4.2] at H4
  have HI4 := Lib.hid H4
  clear hown T6 K6 H4 HTK HTE
  go_wp2_with fail
  refine HI4.out.mono ?_
  rintro e w7 ⟨rfl, T7, K7⟩
  have HO7 := Lib.hid (K7.row HOW.out HAB.out)
  have H5 := tget_any T7 2 (by decide)
  rw [hwk_g] at H5
  have HG := Lib.hid (show Calls Tryz.prog 30 #[.pointer (some ⟨gt, 0, none⟩), .int .u64 2] w7 (Told (.tuple #[.int .u32 (gotV hwk6 htk5 2 : Nat), .int .i64 160]) w7) from H5)
  have HB7 := Lib.hid T7.live.below
  clear T7 K7 H5 HI4 HOW HAB
  generalize gotV hwk6 htk5 2 = o7 at *
  go_wp2_with fail
  refine HG.out.mono ?_
  rintro e w8 ⟨rfl, hb8⟩
  obtain ⟨gv, cv, rfl, hrow, -, -⟩ := Row.of_any (own_below HO7.out hb8) (by decide)
  have hcell := hrow.cell (i := 0) (u := .int .u64 2) rfl
  have HB8 := Lib.hid (below_top HB7.out hb8)
  clear hb8 hrow HO7 HG
  go_wp2_with fail
  refine (HNU.out 161 (by decide) _).mono ?_
  rintro e w9 ⟨rfl, rfl⟩
  go_wp2_with fail
  refine (HNU.out 160 (by decide) _).mono ?_
  rintro e w9 ⟨rfl, rfl⟩
  go_wp2_with fail
  go_ret
  exact ⟨rfl, HB8.out⟩
end Go.Proofs.YtlkahgagmfhdaaaGreatDoor

namespace Go.Proofs.YtlkahgagmfhdaaaGreatDoor
open Go.RowKit
attribute [local go_sem] Oper.semAt_some

def NoTb (w : World) (v : Value) : Prop := v = .pointer none ∨ ∃ g, v = .pointer (some ⟨g, 0, none⟩) ∧ w.cell? ⟨g, 513, none⟩ = some (.int .i64 0)
theorem NoTb.below {w w' : World} {v : Value} (h : NoTb w v) (hb : Below w.heap.size w w') : NoTb w' v := by
  rcases h with h | ⟨g, h1, h2⟩
  · exact .inl h
  · exact .inr ⟨g, h1, (hb.cell (p := ⟨g, 513, none⟩) (World.block_lt_of_cell? _ _ h2)).trans h2⟩
section
variable {w : World} {v : Value}
theorem nbroken_no (N : NoTb w v) : Calls Tryz.prog 84 #[v] w (Said (.bool true) w) := by
  rcases N with rfl | ⟨g, rfl, c⟩
  · go_enter Tryz.func84, Tryz.ntmps84
    go_wp2_with fail
    go_ret
    exact ⟨rfl, rfl⟩
  · go_enter Tryz.func84, Tryz.ntmps84
    go_wp2_with fail
    go_ret
    exact ⟨rfl, rfl⟩
theorem nmade_no (N : NoTb w v) : Calls Tryz.prog 99 #[v] w (Said (.bool false) w) := by
  rcases N with rfl | ⟨g, rfl, c⟩
  · go_enter Tryz.func99, Tryz.ntmps99
    go_wp2_with fail
    go_ret
    exact ⟨rfl, rfl⟩
  · go_enter Tryz.func99, Tryz.ntmps99
    go_wp2_with fail
    go_ret
    exact ⟨rfl, rfl⟩
theorem nissue_no (N : NoTb w v) (o n : Value) : Calls Tryz.prog 26 #[v, o, n] w (Said (.tuple #[.int .u64 0, .int .i64 164]) w) := by
  have HB := Lib.hid (nbroken_no N)
  clear N
  go_enter Tryz.func26, Tryz.ntmps26
  go_wp2_with fail
  refine HB.out.mono ?_
  rintro e w1 ⟨rfl, rfl⟩
  go_wp2_with fail
  go_ret2
  exact ⟨rfl, rfl⟩
theorem nfind_no (N : NoTb w v) (id : Value) : Calls Tryz.prog 95 #[v, id] w (Said (.tuple #[.int .i64 0, .int .i64 164]) w) := by
  have HB := Lib.hid (nbroken_no N)
  clear N
  go_enter Tryz.func95, Tryz.ntmps95
  go_wp2_with fail
  refine HB.out.mono ?_
  rintro e w1 ⟨rfl, rfl⟩
  go_wp2_with fail
  go_ret2
  exact ⟨rfl, rfl⟩
theorem nget_no (N : NoTb w v) (id : Value) : Calls Tryz.prog 30 #[v, id] w (Said (.tuple #[.int .u32 0, .int .i64 164]) w) := by
  have HB := Lib.hid (nfind_no N id)
  clear N
  go_enter Tryz.func30, Tryz.ntmps30
  go_wp2_with fail
  refine HB.out.mono ?_
  rintro e w1 ⟨rfl, rfl⟩
  go_wp2_with fail
  go_ret2
  exact ⟨rfl, rfl⟩
theorem nrenew_no (N : NoTb w v) (id n : Value) : Calls Tryz.prog 29 #[v, id, n] w (Said (.int .i64 164) w) := by
  have HB := Lib.hid (nfind_no N id)
  clear N
  go_enter Tryz.func29, Tryz.ntmps29
  go_wp2_with fail
  refine HB.out.mono ?_
  rintro e w1 ⟨rfl, rfl⟩
  go_wp2_with fail
  go_ret
  exact ⟨rfl, rfl⟩
theorem nrelease_no (N : NoTb w v) (id : Value) : Calls Tryz.prog 33 #[v, id] w (Said (.int .i64 164) w) := by
  have HB := Lib.hid (nfind_no N id)
  clear N
  go_enter Tryz.func33, Tryz.ntmps33
  go_wp2_with fail
  refine HB.out.mono ?_
  rintro e w1 ⟨rfl, rfl⟩
  go_wp2_with fail
  go_ret
  exact ⟨rfl, rfl⟩
theorem ntick_no (N : NoTb w v) (n : Value) : Calls Tryz.prog 27 #[v, n] w (Said (.tuple #[.slice none 0 0, .int .i64 164]) w) := by
  have HB := Lib.hid (nbroken_no N)
  clear N
  go_enter Tryz.func27, Tryz.ntmps27
  go_wp2_with fail
  refine HB.out.mono ?_
  rintro e w1 ⟨rfl, rfl⟩
  go_wp2_with fail
  go_ret2
  exact ⟨rfl, rfl⟩
theorem nclear_no (N : NoTb w v) : Calls Tryz.prog 40 #[v] w (Said (.int .i64 0) w) := by
  have HB := Lib.hid (nbroken_no N)
  clear N
  go_enter Tryz.func40, Tryz.ntmps40
  go_wp2_with fail
  refine HB.out.mono ?_
  rintro e w1 ⟨rfl, rfl⟩
  go_wp2_with fail
  go_ret
  exact ⟨rfl, rfl⟩
theorem nlive_no (N : NoTb w v) : Calls Tryz.prog 37 #[v] w (Said (.slice none 0 0) w) := by
  have HB := Lib.hid (nbroken_no N)
  clear N
  go_enter Tryz.func37, Tryz.ntmps37
  go_wp2_with fail
  refine HB.out.mono ?_
  rintro e w1 ⟨rfl, rfl⟩
  go_wp2_with fail
  go_ret
  exact ⟨rfl, rfl⟩
theorem nnow_no (N : NoTb w v) : Calls Tryz.prog 34 #[v] w (Said (.int .i64 0) w) := by
  have HB := Lib.hid (nmade_no N)
  clear N
  go_enter Tryz.func34, Tryz.ntmps34
  go_wp2_with fail
  refine HB.out.mono ?_
  rintro e w1 ⟨rfl, rfl⟩
  go_wp2_with fail
  go_ret
  exact ⟨rfl, rfl⟩
theorem nnext_no (N : NoTb w v) : Calls Tryz.prog 36 #[v] w (Said (.int .u64 0) w) := by
  have HB := Lib.hid (nmade_no N)
  clear N
  go_enter Tryz.func36, Tryz.ntmps36
  go_wp2_with fail
  refine HB.out.mono ?_
  rintro e w1 ⟨rfl, rfl⟩
  go_wp2_with fail
  go_ret
  exact ⟨rfl, rfl⟩
theorem ncap_no (N : NoTb w v) : Calls Tryz.prog 41 #[v] w (Said (.int .i64 0) w) := by
  have HB := Lib.hid (nmade_no N)
  clear N
  go_enter Tryz.func41, Tryz.ntmps41
  go_wp2_with fail
  refine HB.out.mono ?_
  rintro e w1 ⟨rfl, rfl⟩
  go_wp2_with fail
  go_ret
  exact ⟨rfl, rfl⟩
end
end Go.Proofs.YtlkahgagmfhdaaaGreatDoor
