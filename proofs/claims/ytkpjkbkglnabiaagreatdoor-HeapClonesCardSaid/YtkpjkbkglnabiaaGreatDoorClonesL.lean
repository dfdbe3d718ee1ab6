/- HeapClones, walked: a clone is the Same, and goes on by itself. -/
import Derived.Test.YtkpjkbkglnabiaaGreatDoorJDo
import Derived.Test.YtkpjkbkglnabiaaGreatDoorJLoad
import Derived.Test.YtkpjkbkglnabiaaGreatDoorCloneH
set_option linter.unusedVariables false
namespace Go.Proofs.YtkpjkbkglnabiaaGreatDoor
open Go.RowKit
attribute [local go_sem] Oper.semAt_some

def Apart2 (pa qa pb qb : HP) : Prop := ∀ j, pa.has j ∨ qa.has j → ¬ pb.has j ∧ ¬ qb.has j
theorem Apart2.symm {pa qa pb qb : HP} (h : Apart2 pa qa pb qb) : Apart2 pb qb pa qa := fun j hj => ⟨fun e => hj.elim (h j (.inl e)).1 (h j (.inl e)).2, fun e => hj.elim (h j (.inr e)).1 (h j (.inr e)).2⟩

set_option maxRecDepth 100000 in
set_option maxHeartbeats 4000000 in
theorem clonesL_any (W : World) (E : Env W) (n : Int) (A : Option Addr) (nd c : Nat) (ds : List Dd) (hnd : nd ≤ 9223372036854775807) (hl : ds.length = nd) (hds : DeedsAt W W.heap.size A ds) (hok : ∀ d ∈ ds, d.Ok2)
    (A' : Option Addr) (nd' c' : Nat) (ds' : List Dd) (hnd' : nd' ≤ 9223372036854775807) (hl' : ds'.length = nd') (hds' : DeedsAt W W.heap.size A' ds') (hok' : ∀ d ∈ ds', d.Ok2) :
    Calls Tryz.prog 4 #[.int .i64 n, .slice A nd c, .slice A' nd' c'] W (Told (.bool true) W) := by
  have HE := Lib.hid E
  by_cases hb : n < 64 ∨ 1048576 < n
  · have HB := Lib.hid (both_bad n hb W)
    clear hb E hds hok hds' hok'
    go_enter Tryz.func4, Tryz.ntmps4
    go_wp2_with fail
    refine HB.out.mono ?_
    rintro e w1 ⟨rfl, hb1⟩
    have HA := Lib.hid (awake_any w1 (HE.out.below hb1))
    have HB1 := Lib.hid hb1
    clear hb1
    go_wp2_with fail
    refine HA.out.mono ?_
    rintro e w2 ⟨rfl, hb2⟩
    have HB2 := Lib.hid (below_top HB1.out hb2)
    clear hb2
    go_wp2_with fail
    go_ret
    exact ⟨rfl, HB2.out⟩
  · obtain ⟨s, rfl⟩ := Int.eq_ofNat_of_zero_le (show 0 ≤ n by omega)
    have h1 : 64 ≤ s := by omega
    have h2 : s ≤ 1048576 := by omega
    have HB := Lib.hid (both_any s h1 h2 W)
    have HD := Lib.hid hds
    have HOK := Lib.hid hok
    have HL := Lib.hid hl
    have HD' := Lib.hid hds'
    have HOK' := Lib.hid hok'
    have HL' := Lib.hid hl'
    clear hb E hds hok hl hds' hok' hl'
    go_enter Tryz.func4, Tryz.ntmps4
    go_wp2_with fail
    refine HB.out.mono ?_
    intro e w1 hB
    obtain ⟨p, q, g, k, rfl, T, hb1⟩ := Two.of_both HE.out h1 h2 hB
    have HT0 := Lib.hid T
    clear hB T hb1 HB
    go_wp2_with fail
    go_loopw [10] (fun i wr => ∃ j : Nat, j ≤ nd ∧ i = .int .i64 j ∧ ∃ pj qj, Two W wr pj g qj k ((HM.new s).runH (ds.take j)) ((HM.new s).runH (ds.take j))) (fun i _ => nd - (intOf i).toNat)
    case atStart => exact ⟨0, by omega, rfl, p, q, HT0.out⟩
    case round =>
      clear HT0
      obtain ⟨j, hj, rfl, pj, qj, Tj⟩ := hrel
      by_cases hlt : j < nd
      · have hD1 := HD.out.below Tj.live.below
        obtain ⟨d, hd⟩ : ∃ d, ds[j]? = some d := ⟨ds[j]'(by rw [HL.out]; exact hlt), List.getElem?_eq_getElem _⟩
        obtain ⟨ad, Ab, nb, cb, rfl, had, hnb, hRb, l0, l1, l2, l3, l4, l5, l6, l7⟩ := hD1.load hd
        have HDO := Lib.hid (Tj.do d (HD.out.fit d (List.mem_of_getElem? hd)) (HOK.out d (List.mem_of_getElem? hd)) Ab nb cb hnb hRb)
        have HHS := Lib.hid (HM.runH_snoc (HM.new s) (ds.take j) d)
        rw [← take_snoc hd] at HHS
        rw [← HHS.out] at HDO
        unfold Dd.val at HDO
        clear Tj hD1 hRb hd HD HHS
        go_wp2_with fail
        refine HDO.out.mono ?_
        rintro e w2 ⟨p2, q2, rfl, T2, s2⟩
        have HT2 := Lib.hid T2
        clear T2 s2 HDO l0 l1 l2 l3 l4 l5 l6 l7
        go_wp2_with fail
        go_roundw
        case rel => exact ⟨j + 1, by omega, by go_num, p2, q2, HT2.out⟩
        case measure => simp [intOf]; omega
      · obtain rfl : j = nd := by omega
        generalize (HM.new s).runH (ds.take j) = h at *
        have HTj := Lib.hid Tj
        have HCL := Lib.hid (Clone_any Tj.live.at_ Tj.live.fit)
        rw [Tj.live.hg] at HCL
        unfold ptr at HCL
        clear Tj HD
        go_wp2_with fail
        refine HCL.out.mono ?_
        rintro e w2 ⟨pc, rfl, Hc, hpc, hb2⟩
        have Tj2 := HTj.out.after hb2
        have Lc : Live W w2 pc pc.g h := ⟨Hc, rfl, Tj2.live.good, Tj2.live.env, fun j hj => Nat.le_trans HTj.out.live.below.size (hpc j hj), Tj2.live.below⟩
        have HPC := Lib.hid hpc
        have HB2 := Lib.hid hb2
        have HLc := Lib.hid Lc
        have HT2 := Lib.hid Tj2
        have HSM := Lib.hid (fun w' (hb : Below w2.heap.size w2 w') => (HT2.out.after hb).live.same (Lc.after hb))
        have HSM2 := Lib.hid (fun w' (hb : Below w2.heap.size w2 w') => (Lc.after hb).same (HT2.out.after hb).live)
        rw [sameH_self] at HSM HSM2
        have HLK := Lib.hid (fun w' (hb : Below w2.heap.size w2 w') => by
          have := like_any (Lc.after hb) (HT2.out.after hb).doc
          rw [HT2.out.hk] at this
          exact this)
        clear Hc hpc hb2 Tj2 Lc HCL
        go_wp2_with fail
        refine (HSM.out _ (Below.refl _ _)).mono ?_
        rintro e w3 ⟨rfl, hb3⟩
        have HB3 := Lib.hid hb3
        clear hb3
        go_wp2_with fail
        refine (HSM2.out _ HB3.out).mono ?_
        rintro e w4 ⟨rfl, hb4⟩
        have HB4 := Lib.hid (below_top HB3.out hb4)
        clear hb4
        go_wp2_with fail
        refine (HLK.out _ HB4.out).mono ?_
        rintro e w5 ⟨rfl, hb5⟩
        have HB5 := Lib.hid (below_top HB4.out hb5)
        clear hb5
        have HCP := Lib.hid (copy_any (HT2.out.after HB5.out).doc HT2.out.live.fit)
        rw [HT2.out.hk] at HCP
        unfold ptr at HCP
        go_wp2_with fail
        refine HCP.out.mono ?_
        rintro e w6 ⟨qc, rfl, Rc, hqc, hb6⟩
        have HB6 := Lib.hid (below_top HB5.out hb6)
        have HTA := Lib.hid (HT2.out.after HB6.out)
        have HTB := Lib.hid (show Two W w6 pc pc.g qc qc.g h h from ⟨HLc.out.after HB6.out, Rc, rfl, fun j hj => Nat.le_trans (Nat.le_trans HT2.out.live.below.size HB5.out.size) (hqc j hj),
          fun j hj hp => by have h1 := hqc j hj; have h2 := HLc.out.at_.lt hp; have h3 := HB5.out.size; omega⟩)
        have HAP := Lib.hid (show Apart2 pj qj pc qc from fun j hj => by
          have h1 : j < wr.heap.size := hj.elim (fun e => HTj.out.live.at_.lt e) (fun e => HTj.out.doc.lt e)
          have h3 := HB2.out.size
          have h4 := HB5.out.size
          exact ⟨fun e => by have := HPC.out j e; omega, fun e => by have := hqc j e; omega⟩)
        generalize pc.g = gc at *
        generalize qc.g = kc at *
        clear Rc hqc hb6 HCP HSM HSM2 HLK HLc HT2 HTj HPC HB2
        go_wp2_with fail
        go_loopw [13] (fun i wq => ∃ j : Nat, j ≤ nd' ∧ i = .int .i64 j ∧ ∃ a b pa qa pb qb, Two W wq pa g qa k a a ∧ Two W wq pb gc qb kc b b ∧ Apart2 pa qa pb qb) (fun i _ => nd' - (intOf i).toNat)
        case atStart => exact ⟨0, by omega, rfl, h, h, pj, qj, pc, qc, HTA.out, HTB.out, HAP.out⟩
        case round =>
          clear HTA HTB HAP
          obtain ⟨j2, hj2, rfl, a, b, pa, qa, pb, qb, Ta, Tb, hap⟩ := hrel
          by_cases hlt2 : j2 < nd'
          · have hD1 := HD'.out.below Ta.live.below
            obtain ⟨d, hd⟩ : ∃ d, ds'[j2]? = some d := ⟨ds'[j2]'(by rw [HL'.out]; exact hlt2), List.getElem?_eq_getElem _⟩
            obtain ⟨ad, Ab, nb, cb, rfl, had, hnb, hRb, l0, l1, l2, l3, l4, l5, l6, l7⟩ := hD1.load hd
            have HDA := Lib.hid (Ta.do d (HD'.out.fit d (List.mem_of_getElem? hd)) (HOK'.out d (List.mem_of_getElem? hd)) Ab nb cb hnb hRb)
            have HDB := Lib.hid (Tb.do d (HD'.out.fit d (List.mem_of_getElem? hd)) (HOK'.out d (List.mem_of_getElem? hd)) Ab nb cb hnb hRb)
            unfold Dd.val at HDA HDB
            have HTa := Lib.hid Ta
            have HTb := Lib.hid Tb
            have HAP := Lib.hid hap
            clear Ta Tb hap hD1 hRb hd
            by_cases hev : j2 % 2 = 0
            · have m1 : ((j2 : Int) % 2 == 0) = true := by simp; omega
              have m2 : ((j2 : Int) % 2 == 1) = false := by simp; omega
              have m3 : ((j2 : Int).tmod 2) = 0 := by rw [Int.tmod_eq_emod_of_nonneg (by omega)]; omega
              clear HDA hev
              go_wp2_with fail
              refine HDB.out.mono ?_
              rintro e w7 ⟨p7, q7, rfl, T7, s7⟩
              have HTB7 := Lib.hid T7
              have HTA7 := Lib.hid (HTa.out.beside s7 T7.live.below HAP.out)
              clear T7 s7 HDB l0 l1 l2 l3 l4 l5 l6 l7
              go_wp2_with fail
              go_roundw
              case rel => exact ⟨j2 + 1, by omega, by go_num, _, _, pa, qa, p7, q7, HTA7.out.1, HTB7.out, HTA7.out.2⟩
              case measure => simp [intOf]; omega
            · have m1 : ((j2 : Int) % 2 == 0) = false := by simp; omega
              have m2 : ((j2 : Int) % 2 == 1) = true := by simp; omega
              have m3 : ((j2 : Int).tmod 2) = 1 := by rw [Int.tmod_eq_emod_of_nonneg (by omega)]; omega
              clear HDB hev
              go_wp2_with fail
              refine HDA.out.mono ?_
              rintro e w7 ⟨p7, q7, rfl, T7, s7⟩
              have HTA7 := Lib.hid T7
              have HTB7 := Lib.hid (HTb.out.beside s7 T7.live.below HAP.out.symm)
              clear T7 s7 HDA l0 l1 l2 l3 l4 l5 l6 l7
              go_wp2_with fail
              go_roundw
              case rel => exact ⟨j2 + 1, by omega, by go_num, _, _, p7, q7, pb, qb, HTA7.out, HTB7.out.1, Apart2.symm HTB7.out.2⟩
              case measure => simp [intOf]; omega
          · obtain rfl : j2 = nd' := by omega
            have HTa := Lib.hid Ta
            have HTb := Lib.hid Tb
            have HLA := Lib.hid (like2 Ta)
            have HLB := Lib.hid (fun w' (hb : Below wr.heap.size wr w') => like2 (Tb.after hb))
            have HSM := Lib.hid (fun w' (hb : Below wr.heap.size wr w') => (Ta.after hb).live.same (Tb.after hb).live)
            have HAL := Lib.hid (fun w' (hb : Below wr.heap.size wr w') => by
              have := alike_any (Ta.after hb).doc (Tb.after hb).doc Ta.live.fit Tb.live.fit
              rw [Ta.hk, Tb.hk] at this
              exact this)
            have HBW := Lib.hid Ta.live.below
            clear Ta Tb hap HD' HOK'
            generalize sameH a b = sb at *
            go_wp2_with fail
            refine HLA.out.mono ?_
            rintro e w7 ⟨rfl, hb7⟩
            have HB7 := Lib.hid hb7
            clear hb7
            go_wp2_with fail
            refine (HLB.out _ HB7.out).mono ?_
            rintro e w8 ⟨rfl, hb8⟩
            have HB8 := Lib.hid (below_top HB7.out hb8)
            clear hb8
            go_wp2_with fail
            refine (HSM.out _ HB8.out).mono ?_
            rintro e w9 ⟨rfl, hb9⟩
            have HB9 := Lib.hid (below_top HB8.out hb9)
            clear hb9
            go_wp2_with fail
            refine (HAL.out _ HB9.out).mono ?_
            rintro e w10 ⟨rfl, hb10⟩
            have HB10 := Lib.hid (below_top HB9.out hb10)
            clear hb10
            go_wp2_with fail
            go_ret
            exact ⟨rfl, below_top HBW.out HB10.out⟩
end Go.Proofs.YtkpjkbkglnabiaaGreatDoor
