/- CollectRefs, walked: it answers true. -/
import Derived.Test.YtblekggklimpeaaDoorJKReachesL
import Derived.Test.YtblekggklimpeaaDoorJKLivesL
import Derived.Deep.RegionHeld3
import Derived.BigQuiet
set_option linter.unusedVariables false
set_option linter.unusedSimpArgs false
namespace Go.Proofs.YtblekggklimpeaaDoor
open Go.RowKit Go.Sort
attribute [local go_sem] Oper.semAt_some
section
set_option maxRecDepth 100000 in
set_option maxHeartbeats 8000000 in
theorem refsL_any (W : World) (E : Env W) (k : Cs) (hk : k.At W W.heap.size) (o : Nat) (ho : o < 4294967296) : Calls Tryd.prog 8 #[k.agg, .int .u32 o] W (Told (.bool true) W) := by
  have hb1 := (Below.refl W.heap.size W).alloc (Nat.le_refl _) (.cells k.cells 26)
  have B1 := Blk.new W 26 k.cells
  have HB1 := Lib.hid hb1
  have HBX := Lib.hid B1
  have HE := Lib.hid (E.below hb1)
  have HK := Lib.hid (hk.below hb1)
  have HBU := Lib.hid (built_any _ (E.below hb1) k (hk.below hb1))
  have HAW := Lib.hid (fun (w : World) (E : Env w) => awake_any w E)
  have HST := Lib.hid (fun (w : World) => store_any k w)
  have hsz := World.size_alloc W (.cells k.cells 26)
  clear hb1 B1 E hk
  unfold Cs.cells at HB1 HBX HE HK HBU hsz
  unfold Cs.agg at HBU HST ⊢
  unfold StV at HST
  go_enter Tryd.func8, Tryd.ntmps8
  obtain ⟨x0, x1, x2, x3⟩ := cells4K HBX.out
  go_wp2_with fail
  clear x0 x1 x2 x3
  generalize W.alloc (.cells #[.int .i64 k.size, .slice k.A k.n k.c, .slice k.A' k.n' k.c', .int .u32 (k.last : Nat)] 26) = W1 at *
  refine HBU.out.mono ?_
  rintro e w1 (⟨hno, ⟨v, rfl⟩, hb⟩ | ⟨hok, p, g, rfl, L, hws, hrs⟩)
  · have HB2 := Lib.hid (below_top HB1.out hb)
    have HE2 := Lib.hid (HE.out.below hb)
    clear hb hno HBU
    go_wp2_with fail
    refine (HAW.out _ HE2.out).mono ?_
    rintro e w2 ⟨rfl, hb2⟩
    have HB3 := Lib.hid (below_top HB2.out hb2)
    clear hb2
    go_wp2_with fail
    go_ret
    exact ⟨rfl, HB3.out⟩
  · have HL := Lib.hid L
    obtain ⟨l, G⟩ := L.good
    have HG := Lib.hid G
    have HEV := Lib.hid L.envw
    have HB2 := Lib.hid (below_top HB1.out L.below)
    have HX2 := Lib.hid (HBX.out.below L.below HBX.out.lt)
    have HK2 := Lib.hid (HK.out.below L.below)
    have HWS := Lib.hid (And.intro hws hrs)
    have HOK := Lib.hid hok
    clear L G hws hrs hok HBU HB1 HBX HE HK
    go_wp2_with fail
    refine (HAW.out _ HEV.out).mono ?_
    rintro e w2 ⟨rfl, hb2⟩
    have HL3 := Lib.hid (HL.out.after hb2)
    have HB3 := Lib.hid (below_top HB2.out hb2)
    have HX3 := Lib.hid (HX2.out.below hb2 HX2.out.lt)
    have HK3 := Lib.hid (HK2.out.below hb2)
    obtain ⟨x0, x1, x2, x3⟩ := cells4K HX3.out
    clear hb2 HB2 HX2 HK2 HL HEV
    go_wp2_with fail
    refine (HST.out _).mono ?_
    rintro e w3 ⟨rfl, hb3⟩
    have HB4 := Lib.hid (below_top HB3.out hb3)
    have HL4 := Lib.hid (HL3.out.after hb3)
    have HX4 := Lib.hid (HX3.out.below hb3 HX3.out.lt)
    have HRD := Lib.hid (fun (w' : World) (hb : Below w3.heap.size w3 w') => show Reads w' w'.heap.size 1 k.A k.n (u32s k.h.words) ∧ Reads w' w'.heap.size 1 k.A' k.n' (u32s k.h.roots) from by
      have h1 := (HK3.out.below hb3).below hb
      rw [HWS.out.1, HWS.out.2]
      exact ⟨h1.hr, h1.hr'⟩)
    have hb4 : Below w3.heap.size w3 (w3.alloc (.cells #[.slice k.A k.n k.c, .slice k.A' k.n' k.c'] 32)) := (Below.refl _ _).alloc (Nat.le_refl _) _
    have HS4 := Lib.hid (Blk.new w3 32 #[.slice k.A k.n k.c, .slice k.A' k.n' k.c'])
    have HX5 := Lib.hid (HX4.out.below hb4 HX4.out.lt)
    have HB5 := Lib.hid hb4
    have HRE := Lib.hid (fun (w' : World) (hb : Below w3.heap.size w3 w') => refs_any (HL4.out.after hb).at_ HG.out (HL4.out.after hb).envw.spares o ho)
    have HIN := Lib.hid (fun (w' : World) (hb : Below w3.heap.size w3 w') => inst_any (HL4.out.after hb).at_ HG.out (HL4.out.after hb).envw.spares o ho)
    rw [HL4.out.hg] at HRE HIN
    generalize hER : (if k.h.isB o = true then 0 else 3 : Nat) = eR at HRE
    have HER := Lib.hid hER
    clear hER
    have HRR := Lib.hid (fun (w' : World) (hb : Below w3.heap.size w3 w') => rrefs_any (A' := k.A') (n' := k.n') (c := k.c) (c' := k.c') HG.out (HRD.out w' hb).1 ho)
    have HRN := Lib.hid (fun (w' : World) (hb : Below w3.heap.size w3 w') => rinst_any (A' := k.A') (n' := k.n') (c := k.c) (c' := k.c') HG.out (HRD.out w' hb).1 ho)
    have HRI := Lib.hid (fun (w' : World) (hb : Below w3.heap.size w3 w') => ris_any (A' := k.A') (n' := k.n') (c := k.c) (c' := k.c') HG.out (HRD.out w' hb).1 ho)
    have hsz1 : k.size = (k.h.size : Int) := by
      have := HOK.out.1
      show k.size = ((k.size.toNat : Nat) : Int)
      omega
    have hn1 := (HK3.out).hn
    have hn2 := (HK3.out).hn'
    have HIS := Lib.hid (fun (w' : World) (hb : Below w3.heap.size w3 w') => is_yes (HL4.out.after hb) k hsz1 rfl k.A k.n k.c hn1 (HRD.out w' hb).1 k.A' k.n' k.c' hn2 (HRD.out w' hb).2)
    clear hb3 hb4 HB3 HX3 HK3 HL3 HX4 HRD HWS HOK hsz1 hn1 hn2 x0 x1 x2 x3 HAW HST
    unfold StV at HRI HRR HRN HIS
    unfold ptr at HRE HIN
    unfold Cs.agg at HIS
    go_upto_region 5 with fail
    generalize w3.alloc (.cells #[.slice k.A k.n k.c, .slice k.A' k.n' k.c'] 32) = w4 at *
    have HC := Lib.hid (show ∀ w', Below w4.heap.size w4 w' → w'.cell? ⟨W.heap.size, 0, none⟩ = some (.int .i64 k.size) ∧ w'.cell? ⟨W.heap.size, 1, none⟩ = some (.slice k.A k.n k.c) ∧ w'.cell? ⟨W.heap.size, 2, none⟩ = some (.slice k.A' k.n' k.c') ∧ w'.cell? ⟨W.heap.size, 3, none⟩ = some (.int .u32 (k.last : Nat)) ∧ w'.cell? ⟨w3.heap.size, 0, none⟩ = some (.slice k.A k.n k.c) ∧ w'.cell? ⟨w3.heap.size, 1, none⟩ = some (.slice k.A' k.n' k.c') ∧ Below w3.heap.size w3 w' from fun w' hb =>
      ⟨(HX5.out.below hb HX5.out.lt).cell 0, (HX5.out.below hb HX5.out.lt).cell 1, (HX5.out.below hb HX5.out.lt).cell 2, (HX5.out.below hb HX5.out.lt).cell 3, (HS4.out.below hb HS4.out.lt).cell 0, (HS4.out.below hb HS4.out.lt).cell 1, below_top HB5.out hb⟩)
    clear HX5 HS4
    go_wp2_with fail
    refine (HRE.out _ HB5.out).mono ?_
    rintro e w5 ⟨v5, rfl, ho5, hb5⟩
    obtain ⟨A5, c5, hv5⟩ := own_val ho5
    subst hv5
    have HO5 := Lib.hid ho5
    have HB6 := Lib.hid hb5
    clear ho5 hb5 HB5 HRE
    go_upto_region 6 with fail
    have HC5 := Lib.hid (fun (w' : World) (hb : Below w5.heap.size w5 w') => HC.out w' (below_top HB6.out hb))
    obtain ⟨c0, c1, c2, c3, c4, c5', -⟩ := HC5.out w5 (Below.refl _ _)
    have HI5 := Lib.hid (fun (w' : World) (hb : Below w5.heap.size w5 w') => HIN.out w' (HC5.out w' hb).2.2.2.2.2.2)
    have HR5 := Lib.hid (fun (w' : World) (hb : Below w5.heap.size w5 w') => HRN.out w' (HC5.out w' hb).2.2.2.2.2.2)
    have HIS5 := Lib.hid (fun (w' : World) (hb : Below w5.heap.size w5 w') => HIS.out w' (HC5.out w' hb).2.2.2.2.2.2)
    have HRI5 := Lib.hid (fun (w' : World) (hb : Below w5.heap.size w5 w') => HRI.out w' (HC5.out w' hb).2.2.2.2.2.2)
    have HRR5 := Lib.hid (fun (w' : World) (hb : Below w5.heap.size w5 w') => HRR.out w' (HC5.out w' hb).2.2.2.2.2.2)
    have HSO := Lib.hid (fun (w7 w8 : World) (hb : Below w7.heap.size w7 w8) (A7 : Option Addr) (c7 : Nat) (A8 : Option Addr) (c8 : Nat) (hn : (selL (instP k.h l o) l l.length).length ≤ 9223372036854775807) (r7 : Reads w7 w7.heap.size 1 A7 (selL (instP k.h l o) l l.length).length (u32s (selL (instP k.h l o) l l.length))) (r8 : Reads w8 w8.heap.size 1 A8 (selL (instP k.h l o) l l.length).length (u32s (selL (instP k.h l o) l l.length))) =>
      oops_any A7 A8 (selL (instP k.h l o) l l.length).length (selL (instP k.h l o) l l.length).length c7 c8 (selL (instP k.h l o) l l.length) (selL (instP k.h l o) l l.length) w8 hn hn ((r7.below hb).more hb.size) r8)
    rw [sameL_self] at HSO
    have hB0 : Below w5.heap.size w5 w5.drew := below_drew (Below.refl _ _)
    clear HIN HRN HIS HRI HRR
    unfold OopsP at HI5 HR5
    generalize selL (instP k.h l o) l l.length = P1 at *
    go_region_held3 (fun w' => w'.cell? ⟨W.heap.size, 0, none⟩ = some (.int .i64 k.size) ∧ w'.cell? ⟨W.heap.size, 1, none⟩ = some (.slice k.A k.n k.c) ∧ w'.cell? ⟨W.heap.size, 2, none⟩ = some (.slice k.A' k.n' k.c') ∧ w'.cell? ⟨W.heap.size, 3, none⟩ = some (.int .u32 (k.last : Nat)) ∧ w'.cell? ⟨w3.heap.size, 0, none⟩ = some (.slice k.A k.n k.c) ∧ w'.cell? ⟨w3.heap.size, 1, none⟩ = some (.slice k.A' k.n' k.c'))
      (first | exact ⟨c0, c1, c2, c3, c4, c5'⟩ | exact (fun h => ⟨h.1, h.2.1, h.2.2.1, h.2.2.2.1, h.2.2.2.2.1, h.2.2.2.2.2.1⟩) (HC5.out _ (by assumption)) | go_keep)
      (first
        | (go_at_call 40; refine (HI5.out _ (by assumption)).mono ?_; rintro e w7 ⟨v7, rfl, ho7, hb7⟩; obtain ⟨A7, c7, rfl, hr7, hn7⟩ := own_readsN ho7; have hB7 := below_top (by assumption) hb7)
        | (go_at_call 41; refine (HR5.out _ (by assumption)).mono ?_; rintro e w8 ⟨v8, rfl, ho8, hb8⟩; obtain ⟨A8, c8, rfl, hr8, hn8⟩ := own_readsN ho8; have hB8 := below_top (by assumption) hb8)
        | (go_at_call 17; refine (HSO.out _ _ hb8 _ _ _ _ hn7 hr7 hr8).mono ?_; rintro e w9 ⟨rfl, hb9⟩; have hB9 := below_top hB8 hb9)
        | (go_at_call 20; refine (HIS5.out _ (by assumption)).mono ?_; rintro e w10 ⟨rfl, hb10⟩; have hB10 := below_top hB9 hb10))
    have HB10 := Lib.hid hB10
    have HO5' := Lib.hid (own_below HO5.out hB10)
    obtain ⟨y0, y1, y2, y3, y4, y5, y6⟩ := HC5.out _ hB10
    have HF := Lib.hid (fun (w' : World) (hb : Below w10.heap.size w10 w') => HB4.out.trans ((HC5.out _ (below_top HB10.out hb)).2.2.2.2.2.2.mono HB4.out.size))
    clear hB0 hB7 hB8 hB9 hB10 hb7 hb8 hb9 hb10 ho7 ho8 hr7 hr8 hn7 hn8 c0 c1 c2 c3 c4 c5' y6 HI5 HR5 HIS5 HSO HB6 HO5
    go_wp2_with fail
    refine (HRI5.out _ HB10.out).mono ?_
    rintro e w11 ⟨rfl, hb11⟩
    have HO11 := Lib.hid (own_below HO5'.out hb11)
    have HB11 := Lib.hid (below_top HB10.out hb11)
    obtain ⟨z0, z1, z2, z3, z4, z5, -⟩ := HC5.out _ HB11.out
    have HFI := Lib.hid (HF.out _ hb11)
    clear hb11 y0 y1 y2 y3 y4 y5 HB10 HO5' HRI5
    by_cases hi : k.h.isB o = true
    · rw [hi]
      have hER0 : eR = 0 := by have := HER.out; rw [if_pos hi] at this; exact this.symm
      have HRL := Lib.hid (show refsL k.h l o = selL (refP k.h l o) l l.length from by unfold refsL; rw [if_pos hi])
      subst hER0
      rw [HRL.out] at HO11 ⊢
      clear hi HRL HER
      unfold OopsP at HRR5
      generalize selL (refP k.h l o) l l.length = P2 at *
      go_wp2_with fail
      refine (HRR5.out _ HB11.out).mono ?_
      rintro e w12 ⟨v12, rfl, ho12, hb12⟩
      obtain ⟨A12, c12, hv12⟩ := own_val ho12
      subst hv12
      have r5 := own_readsV (own_below HO11.out hb12)
      have r12 := own_readsV ho12
      have HS1 := Lib.hid (show Calls Tryd.prog 17 #[.slice A5 P2.length c5, .slice A12 P2.length c12] w12 (Told (.bool true) w12) from by
        have hh := oops_any A5 A12 P2.length P2.length c5 c12 P2 P2 w12 r5.2 r12.2 r5.1 r12.1
        rw [sameL_self] at hh
        exact hh)
      have HF12 := Lib.hid (below_top HFI.out hb12)
      clear ho12 hb12 r5 r12 HO11 HRR5
      go_wp2_with fail
      refine HS1.out.mono ?_
      rintro e w13 ⟨rfl, hb13⟩
      have HF13 := Lib.hid (below_top HF12.out hb13)
      clear hb13
      go_wp2_with fail
      go_ret
      exact ⟨rfl, HF13.out⟩
    · have hi' : k.h.isB o = false := by simpa using hi
      rw [hi']
      have hER0 : eR = 3 := by have := HER.out; rw [if_neg hi] at this; exact this.symm
      have hRL : refsL k.h l o = [] := by unfold refsL; rw [if_neg hi]
      subst hER0
      rw [hRL]
      clear hi hi' hRL HER
      go_wp2_with fail
      go_ret
      exact ⟨rfl, HFI.out⟩
end
end Go.Proofs.YtblekggklimpeaaDoor
