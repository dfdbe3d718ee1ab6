/- The document's Follow. -/
/- The document's reference: a value's bytes. -/
import Derived.Test.YtpajpdjjpgbklaaDoorJFollow
import Derived.Test.YtpajpdjjpgbklaaDoorJRefE
import Derived.Test.YtpajpdjjpgbklaaDoorJCmpC
import Derived.Test.YtpajpdjjpgbklaaDoorJLive
set_option linter.unusedVariables false
set_option linter.unusedSimpArgs false
set_option linter.unusedSectionVars false
namespace Go.Proofs.YtpajpdjjpgbklaaDoor
open Go.RowKit
attribute [local go_sem] Oper.semAt_some

theorem fld3 : ∀ (a b c d e : Value) (w : World), (Instr.field 55 (.agg #[a, b, c, d, e]) 3).run Tryd.prog w = .ok d w := fun a b c d e w => by kernel_rfl
theorem fits_one (h : HM) (o : Nat) : h.fitsB [o] = !(decide (kindM o = 2) && !h.isB o) := by
  unfold HM.fitsB
  simp [not_valB]
set_option maxRecDepth 100000 in
set_option maxHeartbeats 4000000 in
theorem rfollow_any {w : World} {p : HP} {h : HM} (H : RAt w p h) (f : h.Fit) (hh : h.Heads) (o : Nat) (ho : o < 4294967296) (A : Option Addr) (n c : Nat) (path : List Int) (hn : n ≤ 9223372036854775807) (hr : Reads w w.heap.size 1 A n (intZ path)) (h63 : ∀ x ∈ path, x ≤ 9223372036854775807) :
    Calls Tryd.prog 23 #[ptr p.g, .int .u32 o, .slice A n c] w (Told (.tuple #[.int .u32 ((h.followM o path).1 : Nat), .int .i64 ((h.followM o path).2 : Nat)]) w) := by
  have hl : path.length = n := by have := hr.1; rw [intZ_len] at this; omega
  have HL := Lib.hid hl; have HR := Lib.hid hr; have HH := Lib.hid H; have HX := Lib.hid h63
  have HK := Lib.hid (rkind_any o ho w)
  have HI := Lib.hid (ris_any H f o ho)
  have HB1 := Lib.hid (Below.refl w.heap.size w)
  have hfld := fld3
  clear hl hr H h63
  unfold ptr at HI
  unfold ptr
  cases hfit : h.fitsB [o]
  · have HF := Lib.hid (show h.followM o path = (0, 3) by unfold HM.followM; rw [hfit]; rfl)
    rw [fits_one] at hfit
    have hk : kindM o = 2 ∧ h.isB o = false := by simpa using hfit
    rw [hk.1] at HK
    rw [hk.2] at HI
    clear hfit hk
    go_enter Tryd.func23, Tryd.ntmps23
    go_wp2_with fail
    refine HK.out.mono ?_
    rintro e w1 ⟨rfl, rfl⟩
    go_wp2_with fail
    refine HI.out.mono ?_
    rintro e w1 ⟨rfl, rfl⟩
    go_wp2_with fail
    go_ret2
    exact ⟨by rw [HF.out]; rfl, HB1.out⟩
  · have HF := Lib.hid (show h.followM o path = h.followS o path by unfold HM.followM; rw [hfit]; rfl)
    have HFT := Lib.hid hfit
    clear hfit
    go_enter Tryd.func23, Tryd.ntmps23
    go_upto_region 1 with fail
    go_cut [24] (fun v wx => v = .bool false ∧ wx = w)
    case first =>
      by_cases hk : kindM o = 2
      · have hb := HFT.out
        rw [fits_one, hk] at hb
        have hb2 : h.isB o = true := by simpa using hb
        rw [hk] at HK
        rw [hb2] at HI
        clear hb hb2 hk
        go_wp2_with fail
        refine HK.out.mono ?_
        rintro e w1 ⟨rfl, rfl⟩
        go_wp2_with fail
        refine HI.out.mono ?_
        rintro e w1 ⟨rfl, rfl⟩
        go_wp2_with fail
        go_meet
        exact ⟨rfl, rfl⟩
      · have e2 : ((kindM o : Int) == 2) = false := by simp; omega
        generalize kindM o = kk at *
        clear hk
        go_wp2_with fail
        refine HK.out.mono ?_
        rintro e w1 ⟨rfl, rfl⟩
        go_wp2_with fail
        go_meet
        exact ⟨rfl, rfl⟩
    case rest =>
    obtain ⟨rfl, rfl⟩ := hcut
    clear HK HI
    go_wp2_with fail
    go_loopw [1, 27] (fun v i wr => ∃ (k q : Nat), k ≤ n ∧ i = .int .i64 k ∧ v = .int .u32 (q : Nat) ∧ q < 4294967296 ∧ h.followS q (path.drop k) = h.followS o path ∧ Below wc.heap.size wc wr) (fun _ i _ => n - (intOf i).toNat)
    case atStart => exact ⟨0, o, by omega, rfl, rfl, ho, rfl, HB1.out⟩
    case round =>
      clear HB1
      obtain ⟨k, q, hk, rfl, rfl, hq, hfo, hb⟩ := hrel
      have HFO := Lib.hid hfo
      have HB := Lib.hid hb
      by_cases hlt : k < n
      · obtain ⟨ad, u0, rfl, _, hx, hcell⟩ := (HR.out.below hb).at_ hlt
        have hkl : k < path.length := by rw [HL.out]; exact hlt
        rw [intZ_get hkl] at hx
        injection hx with hx
        subst hx
        have HDR := Lib.hid (drop_at hkl)
        have hx63 : path.getD k 0 ≤ 9223372036854775807 := by
          rw [List.getD_eq_getElem?_getD, List.getElem?_eq_getElem hkl]
          exact HX.out _ (List.getElem_mem _)
        have HIS := Lib.hid (ris_any (HH.out.below hb) f q hq)
        have HGT := Lib.hid (rget_any (HH.out.below hb) f hh q hq (path.getD k 0) hx63)
        have HHD := Lib.hid (fun hd => rheader_any (HH.out.below hb) f q hq hd)
        generalize path.getD k 0 = x at *
        unfold ptr at HIS HHD HGT
        clear hfo hb hkl hx63
        cases hi : h.isB q
        · rw [hi] at HIS
          have HNO := Lib.hid (show h.followS o path = (0, 3) by rw [← HFO.out, HDR.out, followS_no hi])
          clear hi
          go_wp2_with fail
          refine HIS.out.mono ?_
          rintro e w2 ⟨rfl, rfl⟩
          go_wp2_with fail
          go_ret2
          exact ⟨by rw [HF.out, HNO.out]; rfl, HB.out⟩
        · rw [hi] at HIS
          have HHD := Lib.hid (HHD.out (HM.isB_hd hh hi))
          have hcl := (HM.hd_fit f (q / 2)).cls
          unfold Hd.val at HHD
          by_cases h1 : x = -1
          · subst h1
            have HNX := Lib.hid (show h.followS (h.hd (q / 2)).cls (path.drop (k + 1)) = h.followS o path by rw [← HFO.out, HDR.out, followS_cls hi])
            clear hi
            generalize h.hd (q / 2) = X at *
            go_wp2_with fail
            refine HIS.out.mono ?_
            rintro e w2 ⟨rfl, rfl⟩
            go_wp2_with fail
            refine HHD.out.mono ?_
            rintro e w2 ⟨rfl, hb2⟩
            have HB2 := Lib.hid (below_top HB.out hb2)
            go_wp2_with fail
            go_roundw
            case rel => exact ⟨k + 1, X.cls, by omega, by go_num, rfl, hcl, HNX.out, HB2.out⟩
            case measure => simp [intOf]; omega
          · have e1 : (x == -1) = false := by simpa using h1
            by_cases he : h.lookE q x [1, 4] = 0
            · have HNX := Lib.hid (show h.followS (fw h q x.toNat) (path.drop (k + 1)) = h.followS o path by rw [← HFO.out, HDR.out, followS_get hi h1 he])
              have hfw : fw h q x.toNat < 4294967296 := f.w _
              rw [show h.readN q x [1, 4] = fw h q x.toNat by unfold HM.readN; rw [if_pos he], he] at HGT
              clear hi h1 he
              generalize fw h q x.toNat = y at *
              go_wp2_with fail
              refine HIS.out.mono ?_
              rintro e w2 ⟨rfl, rfl⟩
              go_wp2_with fail
              refine HGT.out.mono ?_
              rintro e w3 ⟨rfl, hb3⟩
              have HB3 := Lib.hid (below_top HB.out hb3)
              go_wp2_with fail
              go_roundw
              case rel => exact ⟨k + 1, y, by omega, by go_num, rfl, hfw, HNX.out, HB3.out⟩
              case measure => simp [intOf]; omega
            · have HNX := Lib.hid (show h.followS o path = (0, h.lookE q x [1, 4]) by rw [← HFO.out, HDR.out, followS_err hi h1 he])
              have hel := HM.lookE_lt h q x [1, 4]
              have e2 : ((h.lookE q x [1, 4] : Int) != 0) = true := by simp; omega
              clear hi h1
              generalize h.readN q x [1, 4] = y at *
              generalize h.lookE q x [1, 4] = E at *
              go_wp2_with fail
              refine HIS.out.mono ?_
              rintro e w2 ⟨rfl, rfl⟩
              go_wp2_with fail
              refine HGT.out.mono ?_
              rintro e w3 ⟨rfl, hb3⟩
              have HB3 := Lib.hid (below_top HB.out hb3)
              go_wp2_with fail
              go_ret2
              exact ⟨by rw [HF.out, HNX.out]; rfl, HB3.out⟩
      · obtain rfl : k = n := by omega
        have HEN := Lib.hid (show h.followS o path = (q, 0) by
          rw [← hfo, List.drop_eq_nil_of_le (by rw [HL.out]; exact Nat.le_refl _)]; rfl)
        clear hfo hb
        go_wp2_with fail
        go_ret2
        exact ⟨by rw [HF.out, HEN.out]; rfl, HB.out⟩
end Go.Proofs.YtpajpdjjpgbklaaDoor

namespace Go.Proofs.YtpajpdjjpgbklaaDoor
open Go.RowKit Go.Maps
attribute [local go_sem] Oper.semAt_some

set_option maxRecDepth 100000 in
set_option maxHeartbeats 4000000 in
theorem rreference_any {w : World} {mB n : Nat} {l : List Nd} (M : MapInt 3 w mB n (numF l)) (o : Nat) (ho : o < 4294967296) (hl : l.length ≤ 4000000) :
    Calls Tryd.prog 56 #[.map (some mB), .int .u32 o] w (RCountP (refM l o) w) := by
  have HK := Lib.hid (rkind_any o ho w)
  have hlt := refM_lt l o ho hl
  have HC := Lib.hid (rcount_any (refM l o) (by omega) w)
  by_cases hk0 : kindM o = 0
  · have HF := Lib.hid (show refM l o = 0 by unfold refM; rw [if_pos hk0])
    rw [hk0] at HK
    clear hk0 M HC hlt
    unfold RCountP
    go_enter Tryd.func56, Tryd.ntmps56
    go_wp2_with fail
    refine HK.out.mono ?_
    rintro e w' ⟨rfl, rfl⟩
    go_wp2_with fail
    go_ret
    refine ⟨_, rfl, ?_, (Below.refl _ _).alloc (Nat.le_refl _) _⟩
    rw [HF.out, show cnt7 0 = [0] from cnt7_small (by decide)]
    exact ⟨rfl, .inr ⟨w.heap.size, 1, #[.int .u8 0], rfl, Nat.le_refl _, heap_alloc_new w _, Nat.le_refl _, by simp [maxLen], rfl, rfl⟩⟩
  · by_cases hk2 : kindM o = 2
    · have HF := Lib.hid (show (refM l o : Int) = 2 * (numF l o : Int) by unfold refM; rw [if_neg hk0, if_pos hk2]; omega)
      rw [hk2] at HK
      have hlk := M.look intTyI ho
      have hnl := numF_le l o
      rw [HF.out] at HC
      clear hk0 hk2 M hlt
      generalize numF l o = k at *
      have hw : IntKind.u64.wrap (2 * (k : Int)) = 2 * (k : Int) := by simp only [wrap64_mod]; omega
      go_enter Tryd.func56, Tryd.ntmps56
      go_wp2_with fail
      refine HK.out.mono ?_
      rintro e w' ⟨rfl, rfl⟩
      go_wp2_with fail
      refine HC.out.mono ?_
      rintro e w1 h1
      have H1 := Lib.hid h1
      clear h1 HC
      obtain ⟨v, rfl, h2, h3⟩ := H1.out
      go_wp2_with fail
      go_ret
      exact H1.out
    · have hk1 : kindM o = 1 := by have := (show kindM o = 0 ∨ kindM o = 1 ∨ kindM o = 2 by unfold kindM; split <;> (try split) <;> simp); omega
      have HZ := Lib.hid (show (refM l o : Nat) = zig (smallV o) by unfold refM; rw [if_neg hk0, if_neg hk2])
      rw [hk1] at HK
      have HV := Lib.hid (rvalue_any o ho (by unfold kindM at hk1; split at hk1 <;> (try split at hk1) <;> simp_all) w)
      have h1 := smallV_lo o ho
      have h2 := smallV_hi o ho
      have HS := Lib.hid (signed_any (smallV o) (by omega) (by omega) w)
      rw [HZ.out] at HC
      unfold RCountP at HC ⊢
      rw [HZ.out]
      clear hk0 hk1 hk2 M hlt
      generalize smallV o = n at *
      by_cases hn : 0 ≤ n
      · have HF := Lib.hid (zig_pos hn)
        have HW : IntKind.u64.wrap (IntKind.u64.wrap (2 * (2 * n)) + 1) = (zig n : Int) := by rw [HF.out]; simp only [wrap64_mod]; omega
        rw [if_pos hn] at HS
        clear hn
        go_enter Tryd.func56, Tryd.ntmps56
        go_wp2_with fail
        refine HK.out.mono ?_
        rintro e w' ⟨rfl, rfl⟩
        go_wp2_with fail
        refine HV.out.mono ?_
        rintro e w' ⟨rfl, rfl⟩
        go_wp2_with fail
        refine HS.out.mono ?_
        rintro e w' ⟨rfl, rfl⟩
        go_wp2_with fail
        refine HC.out.mono ?_
        rintro e w1 ⟨v, rfl, h3, h4⟩
        have H3 := Lib.hid (And.intro h3 h4)
        clear h3 h4 HC
        go_wp2_with fail
        go_ret
        exact ⟨_, rfl, H3.out.1, H3.out.2⟩
      · have HF := Lib.hid (zig_neg hn)
        have HW : IntKind.u64.wrap (IntKind.u64.wrap (2 * (-2 * n - 1)) + 1) = (zig n : Int) := by rw [HF.out]; simp only [wrap64_mod]; omega
        rw [if_neg hn] at HS
        clear hn
        go_enter Tryd.func56, Tryd.ntmps56
        go_wp2_with fail
        refine HK.out.mono ?_
        rintro e w' ⟨rfl, rfl⟩
        go_wp2_with fail
        refine HV.out.mono ?_
        rintro e w' ⟨rfl, rfl⟩
        go_wp2_with fail
        refine HS.out.mono ?_
        rintro e w' ⟨rfl, rfl⟩
        go_wp2_with fail
        refine HC.out.mono ?_
        rintro e w1 ⟨v, rfl, h3, h4⟩
        have H3 := Lib.hid (And.intro h3 h4)
        clear h3 h4 HC
        go_wp2_with fail
        go_ret
        exact ⟨_, rfl, H3.out.1, H3.out.2⟩
end Go.Proofs.YtpajpdjjpgbklaaDoor
