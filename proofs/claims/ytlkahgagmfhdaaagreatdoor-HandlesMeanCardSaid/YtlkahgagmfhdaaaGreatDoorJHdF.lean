/- find, Get, Renew, Release, Issue. -/
/- Issue. -/
/- Clear. -/
/- SameWords, SameOops, sameBytes: two lists are the same. -/
/- Like: has the program's heap what the document's has? Of one and the same heap: yes. -/
/- compare: kind, pointers, fits, Digest; the document's Digest, Signed, Count. -/
/- (*graph).meet: gives an object the next number. -/
/- Digest of both sides; the document's Signed and Count. -/
/- counts, reference; the document's Count of one number. -/
import Derived.Test.YtlkahgagmfhdaaaGreatDoorJLive
import Derived.Test.YtlkahgagmfhdaaaGreatDoorJMem
import Derived.Test.YtlkahgagmfhdaaaGreatDoorJOop
import Derived.Test.YtlkahgagmfhdaaaGreatDoorJLook
import Derived.Test.YtlkahgagmfhdaaaGreatDoorJAlloc
import Derived.Test.YtlkahgagmfhdaaaGreatDoorJMapOk
import Derived.Test.YtlkahgagmfhdaaaGreatDoorJText
import Derived.RegionTactic
import Derived.Deep.RegionHeld3
import Derived.Laws.BitsAllLaws
import Derived.Laws.Bits128
set_option linter.unusedVariables false
set_option linter.unusedSimpArgs false
set_option linter.unusedSectionVars false
namespace Go.Proofs.YtlkahgagmfhdaaaGreatDoor
open Go.RowKit
attribute [local go_sem] Oper.semAt_some

theorem fnd_ok {h : HM} {t : TM} (O : t.Ok) {id : Nat} (he : fndE h t id = 0) : fndK h t id = t.find id ∧ t.find id < 256 ∧ t.at (t.find id) ≠ (0, 0) ∧ (t.at (t.find id)).1 = id := by
  have h1 : fndK h t id = t.find id := by unfold fndK; rw [if_pos he]
  unfold fndE at he
  split at he
  · cases he
  · split at he
    · cases he
    · rename_i hz
      have hlt : t.find id < 256 := Classical.byContradiction fun e => hz (.inr e)
      have hf := TM.find_lt O (fun e => hz (.inl e)) hlt
      exact ⟨h1, hlt, hf.2, hf.1⟩
theorem TM.Ok.bump {t : TM} (O : t.Ok) (h0 : t.next ≠ 0) : ({ t with next := if t.next = 18446744073709551615 then 0 else t.next + 1 } : TM).Ok := by
  have hn := O.n64
  refine ⟨O.len, O.lo, O.hi, O.off, O.used, O.id64, O.exp, ?_, O.nw, O.uniq, fun h1 k => ?_⟩
  · show (if t.next = 18446744073709551615 then 0 else t.next + 1) < _
    split <;> omega
  · have h2 := O.rise h0 k
    have h1 : (if t.next = 18446744073709551615 then 0 else t.next + 1) ≠ 0 := h1
    show (t.at k).1 < (if t.next = 18446744073709551615 then 0 else t.next + 1)
    split at h1
    · exact absurd rfl h1
    · rename_i hh
      rw [if_neg hh]
      omega
section
variable {W w : World} {p : HP} {g gt : Nat} {h : HM} {t : TM} (T : HT W w p g gt h t)
include T
theorem tfind_any (id : Nat) (h0 : id < 18446744073709551616) : Calls Tryz.prog 95 #[.pointer (some ⟨gt, 0, none⟩), .int .u64 (id : Int)] w (Told (.tuple #[.int .i64 (fndK h t id : Nat), .int .i64 (fndE h t id : Nat)]) w) := by
  have HBR := tbroken_any T
  have HT0 := Lib.hid T
  clear T
  by_cases hb : brkB h t = true
  · have HF := Lib.hid (show fndE h t id = 164 ∧ fndK h t id = 0 by
      have h1 : fndE h t id = 164 := by unfold fndE; rw [if_pos hb]
      exact ⟨h1, by unfold fndK; rw [h1, if_neg (by decide)]⟩)
    rw [hb] at HBR
    have HBR := Lib.hid HBR
    go_enter Tryz.func95, Tryz.ntmps95
    go_wp2_with fail
    refine HBR.out.mono ?_
    rintro e w1 ⟨rfl, hb1⟩
    have HB1 := Lib.hid hb1
    clear hb1
    go_wp2_with fail
    go_ret2
    exact ⟨by rw [HF.out.1, HF.out.2]; rfl, HB1.out⟩
  · have hb' : brkB h t = false := by simpa using hb
    rw [hb'] at HBR
    have HBR := Lib.hid HBR
    have HPL := Lib.hid (fun w1 (hb1 : Below w.heap.size w w1) => tplace_any (HT0.out.after hb1) id h0)
    have HE := Lib.hid (show fndE h t id = if id = 0 ∨ ¬ t.find id < 256 then 160 else 0 by unfold fndE; rw [if_neg hb])
    clear hb hb'
    by_cases hz : id = 0 ∨ ¬ t.find id < 256
    · have HF := Lib.hid (show fndE h t id = 160 ∧ fndK h t id = 0 by
        have h1 : fndE h t id = 160 := by rw [HE.out, if_pos hz]
        exact ⟨h1, by unfold fndK; rw [h1, if_neg (by decide)]⟩)
      have HV := Lib.hid (show (if id = 0 then -1 else t.findI id) = -1 by
        by_cases h1 : id = 0
        · rw [if_pos h1]
        · rw [if_neg h1]; unfold TM.findI; rw [if_neg (hz.resolve_left h1)])
      rw [HV.out] at HPL
      clear hz HE
      go_enter Tryz.func95, Tryz.ntmps95
      go_wp2_with fail
      refine HBR.out.mono ?_
      rintro e w1 ⟨rfl, hb1⟩
      have HB1 := Lib.hid hb1
      clear hb1
      go_wp2_with fail
      refine (HPL.out _ HB1.out).mono ?_
      rintro e w2 ⟨rfl, hb2⟩
      have HB2 := Lib.hid (below_top HB1.out hb2)
      clear hb2
      go_wp2_with fail
      go_ret2
      exact ⟨by rw [HF.out.1, HF.out.2]; rfl, HB2.out⟩
    · have HF := Lib.hid (show fndE h t id = 0 ∧ fndK h t id = t.find id by
        have h1 : fndE h t id = 0 := by rw [HE.out, if_neg hz]
        exact ⟨h1, by unfold fndK; rw [h1, if_pos rfl]⟩)
      have HV := Lib.hid (show (if id = 0 then -1 else t.findI id) = (t.find id : Int) by
        rw [if_neg (fun e => hz (.inl e))]
        unfold TM.findI
        rw [if_pos (Classical.byContradiction fun e => hz (.inr e))])
      rw [HV.out] at HPL
      generalize t.find id = k at *
      clear hz HE HV
      go_enter Tryz.func95, Tryz.ntmps95
      go_wp2_with fail
      refine HBR.out.mono ?_
      rintro e w1 ⟨rfl, hb1⟩
      have HB1 := Lib.hid hb1
      clear hb1
      go_wp2_with fail
      refine (HPL.out _ HB1.out).mono ?_
      rintro e w2 ⟨rfl, hb2⟩
      have HB2 := Lib.hid (below_top HB1.out hb2)
      clear hb2
      go_wp2_with fail
      go_ret2
      exact ⟨by rw [HF.out.1, HF.out.2]; rfl, HB2.out⟩
theorem tget_any (id : Nat) (h0 : id < 18446744073709551616) : Calls Tryz.prog 30 #[.pointer (some ⟨gt, 0, none⟩), .int .u64 (id : Int)] w (Told (.tuple #[.int .u32 (gotV h t id : Nat), .int .i64 (fndE h t id : Nat)]) w) := by
  have HFD := Lib.hid (tfind_any T id h0)
  have HT0 := Lib.hid T
  clear T
  by_cases he : fndE h t id = 0
  · obtain ⟨h1, h2, h3, h4⟩ := fnd_ok HT0.out.ok he
    have HG := Lib.hid (show gotV h t id = h.objK (t.find id) by unfold gotV; rw [if_pos he])
    have HO := Lib.hid (fun w1 (hb1 : Below w.heap.size w w1) => hobj_any (HT0.out.after hb1) (t.find id) (by omega))
    rw [he, h1] at HFD
    clear h1 h3 h4
    rw [he]
    generalize t.find id = k at *
    simp only [Int.natCast_zero] at HFD ⊢
    go_enter Tryz.func30, Tryz.ntmps30
    go_wp2_with fail
    refine HFD.out.mono ?_
    rintro e w1 ⟨rfl, hb1⟩
    have HB1 := Lib.hid hb1
    clear hb1
    go_wp2_with fail
    refine (HO.out _ HB1.out).mono ?_
    rintro e w2 ⟨rfl, hb2⟩
    have HB2 := Lib.hid (below_top HB1.out hb2)
    clear hb2
    go_wp2_with fail
    go_ret2
    exact ⟨by rw [HG.out]; rfl, HB2.out⟩
  · have HG := Lib.hid (show gotV h t id = 0 by unfold gotV; rw [if_neg he])
    have hne : ((fndE h t id : Int) != 0) = true := by simp; omega
    generalize fndE h t id = E at *
    go_enter Tryz.func30, Tryz.ntmps30
    go_wp2_with fail
    refine HFD.out.mono ?_
    rintro e w1 ⟨rfl, hb1⟩
    have HB1 := Lib.hid hb1
    clear hb1
    go_wp2_with fail
    go_ret2
    exact ⟨by rw [HG.out]; rfl, HB1.out⟩
set_option maxHeartbeats 1000000 in
theorem trenew_any (id : Nat) (h0 : id < 18446744073709551616) (n : Int) : Calls Tryz.prog 29 #[.pointer (some ⟨gt, 0, none⟩), .int .u64 (id : Int), .int .i64 n] w (HDone W p g gt h (rnwT h t id n) (.int .i64 (rnwE h t id n : Nat)) w) := by
  have HFD := Lib.hid (tfind_any T id h0)
  have HT0 := Lib.hid T
  have HLE := Lib.hid (fun w1 => hlease_any n w1)
  clear T
  by_cases he : fndE h t id = 0
  · obtain ⟨h1, h2, h3, h4⟩ := fnd_ok HT0.out.ok he
    rw [he, h1] at HFD
    by_cases hl : leaseB n = true
    · have HV := Lib.hid (show rnwE h t id n = 0 ∧ rnwT h t id n = t.renew (t.find id) n.toNat by
        have e1 : rnwE h t id n = 0 := by unfold rnwE; rw [if_pos he, if_pos hl]
        exact ⟨e1, by unfold rnwT; rw [e1, if_pos rfl]⟩)
      rw [hl] at HLE
      have hn : 1 ≤ n ∧ n ≤ 1000000 := by unfold leaseB at hl; simpa using hl
      obtain ⟨m, rfl⟩ := Int.eq_ofNat_of_zero_le (show 0 ≤ n by omega)
      have hm1 : 1 ≤ m := by omega
      have hm2 : m ≤ 1000000 := by omega
      have O2 := HT0.out.ok.renew h3 hm1 hm2
      have hnw := HT0.out.ok.nw
      generalize t.find id = k at *
      have HST := Lib.hid (show ∀ w1, Below w.heap.size w w1 → HT W (w1.setCell ⟨gt, 1 + k * 2 + 1, none⟩ (.int .i64 ((t.now : Int) + (m : Int)))) p g gt h (t.renew k m) ∧ HKeep p gt w (w1.setCell ⟨gt, 1 + k * 2 + 1, none⟩ (.int .i64 ((t.now : Int) + (m : Int)))) from fun w1 hb1 => by
        have T2 := (HT0.out.after hb1).expiry h2 (t.now + m) O2
        rw [Int.natCast_add] at T2
        exact ⟨T2, (HKeep.of_below hb1).setCell _ _⟩)
      have a1 : IntKind.i64.wrap ((t.now : Int) + (m : Int)) = (t.now : Int) + (m : Int) := IntWalk.i64_in _ (by omega)
      clear h1 h3 h4 he hl O2 hnw hn hm1 hm2
      simp only [Int.natCast_zero] at HFD
      have hk3 : (k : Int) < 256 := by omega
      go_enter Tryz.func29, Tryz.ntmps29
      go_wp2_with fail
      refine HFD.out.mono ?_
      rintro e w1 ⟨rfl, hb1⟩
      have T1 := HT0.out.after hb1
      have c5 := T1.cNow
      have x1 := T1.cExp h2
      have fz := T1.tab.fz
      have HS1 := Lib.hid (HST.out _ hb1)
      clear T1 hb1
      go_wp2_with fail
      refine (HLE.out _).mono ?_
      rintro e w2 ⟨rfl, rfl⟩
      go_wp2_with fail
      go_region
      all_goals go_wp2_with fail
      all_goals go_ret
      all_goals exact ⟨by rw [HV.out.1]; rfl, by rw [HV.out.2]; exact HS1.out.1.drew, HS1.out.2.drew⟩
    · have hl' : leaseB n = false := by simpa using hl
      have HV := Lib.hid (show rnwE h t id n = 162 ∧ rnwT h t id n = t by
        have e1 : rnwE h t id n = 162 := by unfold rnwE; rw [if_pos he, if_neg hl]
        exact ⟨e1, by unfold rnwT; rw [e1, if_neg (by decide)]⟩)
      rw [hl'] at HLE
      generalize t.find id = k at *
      clear h1 h3 h4 he hl
      simp only [Int.natCast_zero] at HFD
      go_enter Tryz.func29, Tryz.ntmps29
      go_wp2_with fail
      refine HFD.out.mono ?_
      rintro e w1 ⟨rfl, hb1⟩
      have HB1 := Lib.hid hb1
      clear hb1
      go_wp2_with fail
      refine (HLE.out _).mono ?_
      rintro e w2 ⟨rfl, rfl⟩
      go_wp2_with fail
      go_ret
      exact ⟨by rw [HV.out.1]; rfl, by rw [HV.out.2]; exact HT0.out.after HB1.out, HKeep.of_below HB1.out⟩
  · have HV := Lib.hid (show rnwE h t id n = fndE h t id ∧ rnwT h t id n = t by
      have e1 : rnwE h t id n = fndE h t id := by unfold rnwE; rw [if_neg he]
      exact ⟨e1, by unfold rnwT; rw [e1, if_neg he]⟩)
    have hne : ((fndE h t id : Int) != 0) = true := by simp; omega
    generalize fndE h t id = E at *
    go_enter Tryz.func29, Tryz.ntmps29
    go_wp2_with fail
    refine HFD.out.mono ?_
    rintro e w1 ⟨rfl, hb1⟩
    have HB1 := Lib.hid hb1
    clear hb1
    go_wp2_with fail
    go_ret
    exact ⟨by rw [HV.out.1]; rfl, by rw [HV.out.2]; exact HT0.out.after HB1.out, HKeep.of_below HB1.out⟩
theorem trelease_any (id : Nat) (h0 : id < 18446744073709551616) : Calls Tryz.prog 33 #[.pointer (some ⟨gt, 0, none⟩), .int .u64 (id : Int)] w (HDone W p g gt (relH h t id) (relT h t id) (.int .i64 (fndE h t id : Nat)) w) := by
  have HFD := Lib.hid (tfind_any T id h0)
  have HT0 := Lib.hid T
  clear T
  by_cases he : fndE h t id = 0
  · obtain ⟨h1, h2, h3, h4⟩ := fnd_ok HT0.out.ok he
    have HV := Lib.hid (show relH h t id = h.clrK (t.find id) ∧ relT h t id = t.clear (t.find id) from ⟨by unfold relH; rw [if_pos he], by unfold relT; rw [if_pos he]⟩)
    rw [he, h1] at HFD
    rw [he]
    generalize t.find id = k at *
    have HC := Lib.hid (fun w1 (hb1 : Below w.heap.size w w1) => tclear_any (HT0.out.after hb1) k h2)
    clear h1 h3 h4 he
    simp only [Int.natCast_zero] at HFD ⊢
    go_enter Tryz.func33, Tryz.ntmps33
    go_wp2_with fail
    refine HFD.out.mono ?_
    rintro e w1 ⟨rfl, hb1⟩
    have HB1 := Lib.hid hb1
    clear hb1
    go_wp2_with fail
    refine (HC.out _ HB1.out).mono ?_
    rintro e w2 ⟨rfl, T2, K2⟩
    have HT2 := Lib.hid T2
    have HK2 := Lib.hid ((HKeep.of_below HB1.out).trans K2)
    clear T2 K2
    go_wp2_with fail
    go_ret
    exact ⟨rfl, by rw [HV.out.1, HV.out.2]; exact HT2.out, HK2.out⟩
  · have HV := Lib.hid (show relH h t id = h ∧ relT h t id = t from ⟨by unfold relH; rw [if_neg he], by unfold relT; rw [if_neg he]⟩)
    have hne : ((fndE h t id : Int) == 0) = false := by simp; omega
    generalize fndE h t id = E at *
    go_enter Tryz.func33, Tryz.ntmps33
    go_wp2_with fail
    refine HFD.out.mono ?_
    rintro e w1 ⟨rfl, hb1⟩
    have HB1 := Lib.hid hb1
    clear hb1
    go_wp2_with fail
    go_ret
    exact ⟨rfl, by rw [HV.out.1, HV.out.2]; exact HT0.out.after HB1.out, HKeep.of_below HB1.out⟩
end
end Go.Proofs.YtlkahgagmfhdaaaGreatDoor

namespace Go.Proofs.YtlkahgagmfhdaaaGreatDoor
open Go.RowKit
attribute [local go_sem] Oper.semAt_some

theorem issE_bad {h : HM} {t : TM} {o : Nat} {n : Int} {E : Nat} (he : issE h t o n = E) (h0 : E ≠ 0) : issT h t o n = t ∧ issH h t o n = h ∧ issV h t o n = 0 := by
  subst he
  exact ⟨by unfold issT; rw [if_neg h0], by unfold issH; rw [if_neg h0], by unfold issV; rw [if_neg h0]⟩
section
variable {W w : World} {p : HP} {g gt : Nat} {h : HM} {t : TM} (T : HT W w p g gt h t)
include T
/-- slices.Index over the slots, with what lies there behind it. -/
theorem HT.idx1 {w0 : World} (hb : Below w0.heap.size w0 w) :
    Calls Tryz.prog 87 #[.slice (some ⟨gt, 1, none⟩) t.cap 256, .agg #[.int .u64 0, .int .i64 0]] w fun e w2 => e = .returned (.int .i64 t.freeI) ∧ Hid (HT W w2 p g gt h t) ∧ Hid (Below w0.heap.size w0 w2) ∧ w2.cell? ⟨gt, 513, none⟩ = some (.int .i64 (t.cap : Int)) :=
  (tindex_any T).mono fun e w2 hh => ⟨hh.1, Lib.hid (T.after hh.2), Lib.hid (below_top hb hh.2), (T.after hh.2).cCap⟩
set_option maxRecDepth 100000 in
set_option maxHeartbeats 4000000 in
theorem tissue_any (o : Nat) (ho : o < 4294967296) (n : Int) : Calls Tryz.prog 26 #[.pointer (some ⟨gt, 0, none⟩), .int .u32 (o : Nat), .int .i64 n] w (HDone W p g gt (issH h t o n) (issT h t o n) (.tuple #[.int .u64 (issV h t o n : Nat), .int .i64 (issE h t o n : Nat)]) w) := by
  have HBR := Lib.hid (tbroken_any T)
  have HT0 := Lib.hid T
  have HLE := Lib.hid (fun w1 => hlease_any n w1)
  have HIS := Lib.hid (fun w1 (hb1 : Below w.heap.size w w1) => (HT0.out.after hb1).live.is o ho)
  have HIE := Lib.hid (show issE h t o n = if brkB h t then 164 else if h.isB o = false then 3 else if leaseB n = false then 162 else if ¬ t.free < t.cap then 161 else if t.next = 0 then 163 else 0 from rfl)
  have hlo := T.ok.lo
  have hhi := T.ok.hi
  clear T
  cases hbr : brkB h t with
  | true =>
    have he : issE h t o n = 164 := by rw [HIE.out, hbr, if_pos rfl]
    obtain ⟨e1, e2, e3⟩ := issE_bad he (by decide)
    have HV := Lib.hid (And.intro e1 (And.intro e2 (And.intro e3 he)))
    rw [hbr] at HBR
    clear he e1 e2 e3
    go_enter Tryz.func26, Tryz.ntmps26
    go_wp2_with fail
    refine HBR.out.mono ?_
    rintro e w1 ⟨rfl, hb1⟩
    have HB1 := Lib.hid hb1
    clear hb1
    go_wp2_with fail
    go_ret2
    exact ⟨by rw [HV.out.2.2.1, HV.out.2.2.2]; rfl, by rw [HV.out.1, HV.out.2.1]; exact HT0.out.after HB1.out, HKeep.of_below HB1.out⟩
  | false =>
    have HIE2 := Lib.hid (HIE.out.trans (by rw [hbr, if_neg (by decide)]))
    rw [hbr] at HBR
    clear HIE
    cases hib : h.isB o with
    | false =>
      have he : issE h t o n = 3 := by rw [HIE2.out, hib, if_pos rfl]
      obtain ⟨e1, e2, e3⟩ := issE_bad he (by decide)
      have HV := Lib.hid (And.intro e1 (And.intro e2 (And.intro e3 he)))
      rw [hib] at HIS
      clear he e1 e2 e3 HIE2
      go_enter Tryz.func26, Tryz.ntmps26
      go_wp2_with fail
      refine HBR.out.mono ?_
      rintro e w1 ⟨rfl, hb1⟩
      have HB1 := Lib.hid hb1
      have c0 := (HT0.out.after hb1).c0
      clear hb1
      go_wp2_with fail
      refine (HIS.out _ HB1.out).mono ?_
      rintro e w2 ⟨rfl, rfl⟩
      go_wp2_with fail
      go_ret2
      exact ⟨by rw [HV.out.2.2.1, HV.out.2.2.2]; rfl, by rw [HV.out.1, HV.out.2.1]; exact HT0.out.after HB1.out, HKeep.of_below HB1.out⟩
    | true =>
      have HIE3 := Lib.hid (HIE2.out.trans (by rw [hib, if_neg (by decide)]))
      rw [hib] at HIS
      clear HIE2
      cases hle : leaseB n with
      | false =>
        have he : issE h t o n = 162 := by rw [HIE3.out, hle, if_pos rfl]
        obtain ⟨e1, e2, e3⟩ := issE_bad he (by decide)
        have HV := Lib.hid (And.intro e1 (And.intro e2 (And.intro e3 he)))
        rw [hle] at HLE
        clear he e1 e2 e3 HIE3
        go_enter Tryz.func26, Tryz.ntmps26
        go_wp2_with fail
        refine HBR.out.mono ?_
        rintro e w1 ⟨rfl, hb1⟩
        have HB1 := Lib.hid hb1
        have c0 := (HT0.out.after hb1).c0
        clear hb1
        go_wp2_with fail
        refine (HIS.out _ HB1.out).mono ?_
        rintro e w2 ⟨rfl, rfl⟩
        go_wp2_with fail
        refine (HLE.out _).mono ?_
        rintro e w2 ⟨rfl, rfl⟩
        go_wp2_with fail
        go_ret2
        exact ⟨by rw [HV.out.2.2.1, HV.out.2.2.2]; rfl, by rw [HV.out.1, HV.out.2.1]; exact HT0.out.after HB1.out, HKeep.of_below HB1.out⟩
      | true =>
        have HIE4 := Lib.hid (HIE3.out.trans (by rw [hle, if_neg (by decide)]))
        rw [hle] at HLE
        have hn : 1 ≤ n ∧ n ≤ 1000000 := by unfold leaseB at hle; simpa using hle
        obtain ⟨m, rfl⟩ := Int.eq_ofNat_of_zero_le (show 0 ≤ n by omega)
        have hm1 : 1 ≤ m := by omega
        have hm2 : m ≤ 1000000 := by omega
        clear HIE3 hle hib hbr hn
        have hcap3 : (0 : Int) ≤ (t.cap : Int) := by omega
        have hcap4 : (t.cap : Int) ≤ 256 := by omega
        go_enter Tryz.func26, Tryz.ntmps26
        go_wp2_with fail
        refine HBR.out.mono ?_
        rintro e w1 ⟨rfl, hb1⟩
        have HB1 := Lib.hid hb1
        have c0 := (HT0.out.after hb1).c0
        have c5 := (HT0.out.after hb1).drew.cCap
        have HIX := Lib.hid ((HT0.out.after hb1).drew.idx1 (w0 := w) (below_drew hb1))
        clear hb1
        go_wp2_with fail
        refine (HIS.out _ HB1.out).mono ?_
        rintro e w2 ⟨rfl, rfl⟩
        go_wp2_with fail
        refine (HLE.out _).mono ?_
        rintro e w2 ⟨rfl, rfl⟩
        go_upto_region 7 with fail
        go_cut [8] from 22 to 31 (fun s8 wx => s8 = .int .i64 t.freeI ∧ Hid (HT W wx p g gt h t) ∧ Hid (Below w.heap.size w wx))
        case first =>
          go_region_held3 (fun w' => w'.cell? ⟨gt, 513, none⟩ = some (.int .i64 (t.cap : Int)))
            (first | with_reducible exact c5 | with_reducible exact c1 | go_keep)
            (first
              | (go_at_call 87; (with_reducible refine HIX.out.mono ?_); rintro e w2 ⟨rfl, HT2, HB2, c1⟩))
          all_goals go_wp2_with fail
          all_goals go_meet
          all_goals exact ⟨rfl, HT2, HB2⟩
        case rest =>
          obtain ⟨rfl, HT2, HB2⟩ := hcut
          clear HIX c5 c0 HB1 HIS HBR HLE
          have c4 := HT2.out.cNext
          by_cases hfr : t.free < t.cap
          · have hfi : t.freeI = (t.free : Int) := by unfold TM.freeI; rw [if_pos hfr]
            have HIE5 := Lib.hid (HIE4.out.trans (by rw [if_neg (not_not_intro hfr)]))
            rw [hfi]
            clear hfi
            by_cases hnx : t.next = 0
            · have he : issE h t o m = 163 := by rw [HIE5.out, if_pos hnx]
              obtain ⟨e1, e2, e3⟩ := issE_bad he (by decide)
              have HV := Lib.hid (And.intro e1 (And.intro e2 (And.intro e3 he)))
              rw [hnx] at c4
              simp only [Int.natCast_zero] at c4
              clear he e1 e2 e3 HIE5 HIE4 hnx
              go_wp2_with fail
              go_ret2
              exact ⟨by rw [HV.out.2.2.1, HV.out.2.2.2]; rfl, by rw [HV.out.1, HV.out.2.1]; exact HT2.out, HKeep.of_below HB2.out⟩
            · have he : issE h t o m = 0 := by rw [HIE5.out, if_neg hnx]
              have HV := Lib.hid (show issT h t o m = t.issue t.free m ∧ issH h t o m = h.putH h.arr t.free o ∧ issV h t o m = t.next ∧ issE h t o m = 0 from
                ⟨by unfold issT; rw [if_pos he]; rfl, by unfold issH; rw [if_pos he], by unfold issV; rw [if_pos he], he⟩)
              have h256 : t.free < 256 := by omega
              have O1 := HT2.out.ok.bump hnx
              have O2 := HT2.out.ok.issue (n := m) hfr (TM.free_lt HT2.out.ok hfr) hnx hm1 hm2
              have T3 := HT2.out.setNext _ O1
              have T4 := (T3.slot h256 (t.next, t.now + m) O2).drew
              have K3 : HKeep p gt w (wc.setCell ⟨gt, 514, none⟩ (.int .u64 ((if t.next = 18446744073709551615 then 0 else t.next + 1 : Nat) : Int))) := (HKeep.of_below HB2.out).setCell _ _
              have K4 := ((K3.setCell (1 + t.free * 2) (.int .u64 (t.next : Int))).setCell (1 + t.free * 2 + 1) (.int .i64 ((t.now + m : Nat) : Int))).drew
              have a1 : IntKind.u64.wrap ((t.next : Int) + 1) = ((if t.next = 18446744073709551615 then 0 else t.next + 1 : Nat) : Int) := by
                have := HT2.out.ok.n64
                have hb : IntKind.u64.bits = 64 := rfl
                unfold IntKind.wrap
                simp [hb, IntKind.signed]
                split <;> omega
              have a2 : IntKind.i64.wrap ((t.now : Int) + (m : Int)) = (t.now : Int) + (m : Int) := IntWalk.i64_in _ (by have := HT2.out.ok.nw; omega)
              have HPT := Lib.hid (htput_any T4 t.free (by omega) o ho)
              have HK4 := Lib.hid K4
              have x0 := HT2.out.cId h256
              have x1 := HT2.out.cExp h256
              have c6 := HT2.out.cNow
              have fz := HT2.out.tab.fz
              have hk3 : (t.free : Int) < 256 := by omega
              have hnx2 : ((t.next : Int) == 0) = false := by simp; omega
              have HV2 := Lib.hid HV.out.1
              clear O1 O2 T3 T4 K3 K4 he hfr HIE5 HIE4 hnx
              unfold TM.issue at HV2
              simp only at HPT HK4
              rw [Int.natCast_add] at HPT HK4
              generalize (if t.next = 18446744073709551615 then 0 else t.next + 1) = N at *
              generalize t.free = k at *
              go_wp2_with fail
              go_region
              all_goals go_wp2_with fail
              all_goals refine HPT.out.mono ?_
              all_goals rintro e w3 ⟨rfl, T5, K5⟩
              all_goals have HT5 := Lib.hid T5
              all_goals have HK5 := Lib.hid (HK4.out.trans K5)
              all_goals clear T5 K5
              all_goals go_wp2_with fail
              all_goals go_ret2
              all_goals exact ⟨by rw [HV.out.2.2.1, HV.out.2.2.2]; rfl, by rw [HV.out.2.1, HV2.out]; exact HT5.out, HK5.out⟩
          · have hfi : t.freeI = -1 := by unfold TM.freeI; rw [if_neg hfr]
            have he : issE h t o m = 161 := by rw [HIE4.out, if_pos hfr]
            obtain ⟨e1, e2, e3⟩ := issE_bad he (by decide)
            have HV := Lib.hid (And.intro e1 (And.intro e2 (And.intro e3 he)))
            rw [hfi]
            clear he e1 e2 e3 HIE4 hfi
            go_wp2_with fail
            go_ret2
            exact ⟨by rw [HV.out.2.2.1, HV.out.2.2.2]; rfl, by rw [HV.out.1, HV.out.2.1]; exact HT2.out, HKeep.of_below HB2.out⟩
end
end Go.Proofs.YtlkahgagmfhdaaaGreatDoor

namespace Go.Proofs.YtlkahgagmfhdaaaGreatDoor
open Go.RowKit
attribute [local go_sem] Oper.semAt_some

section
variable {W w : World} {p : HP} {g gt : Nat} {h : HM} {t : TM} (T : HT W w p g gt h t)
include T
end
end Go.Proofs.YtlkahgagmfhdaaaGreatDoor

namespace Go.Proofs.YtlkahgagmfhdaaaGreatDoor
open Go.RowKit
end Go.Proofs.YtlkahgagmfhdaaaGreatDoor

namespace Go.Proofs.YtlkahgagmfhdaaaGreatDoor
open Go.RowKit
end Go.Proofs.YtlkahgagmfhdaaaGreatDoor

namespace Go.Proofs.YtlkahgagmfhdaaaGreatDoor
open Go.RowKit
attribute [local go_sem] Oper.semAt_some
end Go.Proofs.YtlkahgagmfhdaaaGreatDoor

namespace Go.Proofs.YtlkahgagmfhdaaaGreatDoor
open Go.RowKit Go.Maps
attribute [local go_sem] Oper.semAt_some
theorem own_same {w w' : World} {base : Nat} {e : TypeId} {v : Value} {n : Nat} {xs : List Value} (h : w.ownsRow base e 1 v n xs) (hs : ∀ k, v.ownBlock = some k → w'.heap[k]? = w.heap[k]?) : w'.ownsRow base e 1 v n xs := by
  refine ⟨h.1, ?_⟩
  rcases h.2 with h1 | ⟨g, cap, cur, h1, h2, h3, h4⟩
  · exact .inl h1
  · exact .inr ⟨g, cap, cur, h1, h2, (hs g (by rw [h1]; rfl)).trans h3, h4⟩
theorem own_type {w : World} {base base' : Nat} {e e' : TypeId} {v v' : Value} {n n' : Nat} {xs xs' : List Value} (h : w.ownsRow base e 1 v n xs) (h' : w.ownsRow base' e' 1 v' n' xs') (hne : e ≠ e') : ∀ k, v.ownBlock = some k → v'.ownBlock ≠ some k := by
  intro k hk hk'
  rcases h.2 with h1 | ⟨g, cap, cur, rfl, h2, h3, h4⟩
  · obtain ⟨ha, hb⟩ := h1
    first
      | (rw [ha] at hk; simp [Value.ownBlock] at hk)
      | (rw [hb] at hk; simp [Value.ownBlock] at hk)
  · rcases h'.2 with h1 | ⟨g', cap', cur', rfl, h2', h3', h4'⟩
    · obtain ⟨ha, hb⟩ := h1
      first
        | (rw [ha] at hk'; simp [Value.ownBlock] at hk')
        | (rw [hb] at hk'; simp [Value.ownBlock] at hk')
    · simp [Value.ownBlock] at hk hk'
      subst hk
      subst hk'
      rw [h3] at h3'
      injection h3' with h3'
      injection h3' with _ h5
      exact hne h5
def deepsOf (l : List Nd) : List Nat := l.map (·.deep)
/-- An own row's block is none that holds cells of another type. -/
theorem cown_ne_blk {w : World} {base : Nat} {e t : TypeId} {v : Value} {n g : Nat} {xs : List Value} {cs : Array Value} (h : w.ownsRow base e 1 v n xs) (b : Blk w g t cs) (hne : e ≠ t) : v.ownBlock ≠ some g := by
  intro hk
  rcases h.2 with h1 | ⟨g', cap, cur, rfl, h2, h3, h4⟩
  · obtain ⟨ha, hb⟩ := h1
    first
      | (rw [ha] at hk; simp [Value.ownBlock] at hk)
      | (rw [hb] at hk; simp [Value.ownBlock] at hk)
  · simp [Value.ownBlock] at hk
    subst hk
    unfold Blk at b
    rw [h3] at b
    injection b with b
    injection b with _ h5
    exact hne h5
theorem cown_ne_map {w : World} {base b n' : Nat} {e K : TypeId} {v : Value} {n : Nat} {xs : List Value} {f : Nat → Nat} {hs : Nat → Bool} (h : w.ownsRow base e 1 v n xs) (m : MapOk K w b n' f hs) : v.ownBlock ≠ some b := by
  intro hk
  obtain ⟨D, _, ⟨es, clock, hb, r⟩, _⟩ := m
  rcases h.2 with h1 | ⟨g', cap, cur, rfl, h2, h3, h4⟩
  · obtain ⟨ha, hb⟩ := h1
    first
      | (rw [ha] at hk; simp [Value.ownBlock] at hk)
      | (rw [hb] at hk; simp [Value.ownBlock] at hk)
  · simp [Value.ownBlock] at hk
    subst hk
    rw [h3] at hb
    injection hb with hb
    cases hb
/-- A graph of the program's in memory; B: from where on its blocks lie. -/
structure GAt (w : World) (B gG mB : Nat) (hv vm vd : Value) (l : List Nd) : Prop where
  box : Blk w gG 227 #[hv, vm, .map (some mB), vd]
  met : w.ownsRow B 54 1 vm l.length (u32s (oopsOf l))
  deep : w.ownsRow B 3 1 vd l.length (ints (deepsOf l))
  num : MapOk 54 w mB l.length (numF l) (fun x => decide (x ∈ oopsOf l))
  hg : B ≤ gG
  hm : B ≤ mB
  hB : B ≤ w.heap.size
/-- What a deed with a graph does to memory. -/
structure GStep (w w' : World) (gG mB : Nat) (vm vd vm' vd' : Value) : Prop where
  os : w'.os = w.os
  tape : w'.tape = w.tape
  output : w'.output = w.output
  size : w.heap.size ≤ w'.heap.size
  block : ∀ k, k < w.heap.size → k ≠ gG → k ≠ mB → vm.ownBlock ≠ some k → vd.ownBlock ≠ some k → w'.heap[k]? = w.heap[k]?
  rm : ∀ k, vm'.ownBlock = some k → vm.ownBlock = some k ∨ w.heap.size ≤ k
  rd : ∀ k, vd'.ownBlock = some k → vd.ownBlock = some k ∨ w.heap.size ≤ k
theorem GStep.of_below {w w' : World} {gG mB : Nat} {vm vd : Value} (hb : Below w.heap.size w w') : GStep w w' gG mB vm vd vm vd :=
  ⟨hb.os, hb.tape, hb.output, hb.size, fun k hk _ _ _ _ => hb.block k hk, fun _ h => .inl h, fun _ h => .inl h⟩
theorem GAt.below {w w' : World} {B gG mB : Nat} {hv vm vd : Value} {l : List Nd} (G : GAt w B gG mB hv vm vd l) (hb : Below w.heap.size w w') : GAt w' B gG mB hv vm vd l :=
  ⟨G.box.below hb G.box.lt, own_same G.met (fun k hk => hb.block k (G.met.lt k hk).2), own_same G.deep (fun k hk => hb.block k (G.deep.lt k hk).2), G.num.below hb, G.hg, G.hm, Nat.le_trans G.hB hb.size⟩
end Go.Proofs.YtlkahgagmfhdaaaGreatDoor

namespace Go.Proofs.YtlkahgagmfhdaaaGreatDoor
open Go.RowKit
attribute [local go_sem] Oper.semAt_some
end Go.Proofs.YtlkahgagmfhdaaaGreatDoor

namespace Go.Proofs.YtlkahgagmfhdaaaGreatDoor
open Go.RowKit Go.Maps
attribute [local go_sem] Oper.semAt_some
/-- A row that grew: another block is as it was. -/
structure Grows (w w' : World) (v v' : Value) : Prop where
  g : w.grownBy w' v.ownBlock
  at_ : ∀ k, v'.ownBlock = some k → v.ownBlock = some k ∨ w.heap.size ≤ k
theorem Grows.refl (w : World) (v : Value) : Grows w w v v := ⟨World.grownBy.refl w _, fun _ h => .inl h⟩
theorem Grows.size {w w' : World} {v v' : Value} (h : Grows w w' v v') : w.heap.size ≤ w'.heap.size := h.g.size
theorem Grows.trans {a b c : World} {u v x : Value} (h : Grows a b u v) (h' : Grows b c v x) : Grows a c u x := by
  refine ⟨⟨h'.g.os.trans h.g.os, h'.g.tape.trans h.g.tape, h'.g.output.trans h.g.output, Nat.le_trans h.g.size h'.g.size, fun k hk hn => ?_⟩, fun k hk => ?_⟩
  · refine (h'.g.block k (by have := h.g.size; omega) (fun e => ?_)).trans (h.g.block k hk hn)
    rcases h.at_ k e.symm with e' | e'
    · exact hn e'.symm
    · omega
  · rcases h'.at_ k hk with e | e
    · exact h.at_ k e
    · right; have := h.g.size; omega
theorem Grows.below {a b c : World} {u v : Value} (h : Grows a b u v) (hb : Below b.heap.size b c) : Grows a c u v :=
  h.trans ⟨⟨hb.os, hb.tape, hb.output, hb.size, fun k hk _ => hb.block k hk⟩, fun _ e => .inl e⟩
theorem Grows.of {a b : World} {u v : Value} (hg : a.grownBy b u.ownBlock) (ha : v.ownBlock = u.ownBlock ∨ v.ownBlock = some a.heap.size) : Grows a b u v :=
  ⟨hg, fun k hk => by rcases ha with e | e
                      · exact .inl (e ▸ hk)
                      · rw [e] at hk; injection hk with hk; exact .inr (by omega)⟩
end Go.Proofs.YtlkahgagmfhdaaaGreatDoor
