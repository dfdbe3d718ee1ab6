/- CollectAgain, walked: it answers true. -/
/- CollectReaches, walked: it answers true. -/
import Derived.Test.YtblekggklimpeaaDoorJKLivesL
import Derived.Test.YtblekggklimpeaaDoorJLive
import Derived.Test.YtblekggklimpeaaDoorJKRev
set_option linter.unusedVariables false
set_option linter.unusedSimpArgs false
set_option linter.unusedSectionVars false
namespace Go.Proofs.YtblekggklimpeaaDoor
open Go.RowKit Go.Sort
attribute [local go_sem] Oper.semAt_some
/-- A heap beside another one that is worked on. -/
theorem Live.beside {W w w' : World} {p q q' : HP} {g : Nat} {h : HM} (L : Live W w p g h) (s : Step q q' w w') (hd : ∀ j, p.has j → ¬ q.has j) (hq : ∀ j, q.has j → W.heap.size ≤ j) : Live W w' p g h :=
  ⟨L.at_.same (fun j hj => s.block j (L.at_.lt hj) (hd j hj)), L.hg, L.good, L.env, L.new, L.below.trans ⟨s.os, s.tape, s.output, s.size, fun j hj => s.block j (by have := L.below.size; omega) (fun e => by have := hq j e; omega)⟩⟩
set_option maxRecDepth 100000 in
set_option maxHeartbeats 8000000 in
theorem againL_any (W : World) (E : Env W) (k : Cs) (hk : k.At W W.heap.size) : Calls Tryd.prog 7 #[k.agg] W (Told (.bool true) W) := by
  have hb1 := (Below.refl W.heap.size W).alloc (Nat.le_refl _) (.cells k.cells 26)
  have B1 := Blk.new W 26 k.cells
  have HB1 := Lib.hid hb1
  have HBX := Lib.hid B1
  have HE := Lib.hid (E.below hb1)
  have HK := Lib.hid (hk.below hb1)
  have HBU := Lib.hid (built_any _ (E.below hb1) k (hk.below hb1))
  have HAW := Lib.hid (fun (w : World) (E : Env w) => awake_any w E)
  have hsz := World.size_alloc W (.cells k.cells 26)
  clear hb1 B1 E hk
  unfold Cs.cells at HB1 HBX HE HK HBU hsz
  unfold Cs.agg at HBU ⊢
  go_enter Tryd.func7, Tryd.ntmps7
  obtain ⟨x0, x1, x2, x3⟩ := cells4K HBX.out
  go_wp2_with fail
  clear x0 x1 x2 x3
  generalize W.alloc (.cells #[.int .i64 k.size, .slice k.A k.n k.c, .slice k.A' k.n' k.c', .int .u32 (k.last : Nat)] 26) = W1 at *
  refine HBU.out.mono ?_
  rintro e w1 (⟨hno, ⟨v, rfl⟩, hb⟩ | ⟨hok, p, g, rfl, L, hws, hrs⟩)
  · have HB2 := Lib.hid (below_top HB1.out hb)
    have HE2 := Lib.hid (HE.out.below hb)
    clear hb hno HBU
    go_wp2_with fail
    refine (HAW.out _ HE2.out).mono ?_
    rintro e w2 ⟨rfl, hb2⟩
    have HB3 := Lib.hid (below_top HB2.out hb2)
    clear hb2
    go_wp2_with fail
    go_ret
    exact ⟨rfl, HB3.out⟩
  · have HL := Lib.hid L
    obtain ⟨l, G⟩ := L.good
    have HG := Lib.hid G
    have HEV := Lib.hid L.envw
    have HB2 := Lib.hid (below_top HB1.out L.below)
    have HX2 := Lib.hid (HBX.out.below L.below HBX.out.lt)
    have HK2 := Lib.hid (HK.out.below L.below)
    have HWS := Lib.hid (And.intro hws hrs)
    have HOK := Lib.hid hok
    clear L G hws hrs hok HBU HBX HE HK
    go_wp2_with fail
    refine (HAW.out _ HEV.out).mono ?_
    rintro e w2 ⟨rfl, hb2⟩
    have HL3 := Lib.hid (HL.out.after hb2)
    have HB3 := Lib.hid (below_top HB2.out hb2)
    have HX3 := Lib.hid (HX2.out.below hb2 HX2.out.lt)
    obtain ⟨n, hn⟩ := Int.eq_ofNat_of_zero_le (show 0 ≤ k.size by have := HOK.out.1; omega)
    have hn1 : 64 ≤ n := by have := HOK.out.1; omega
    have hn2 : n ≤ 1048576 := by have := HOK.out.2.1; omega
    have HCO := Lib.hid (HL3.out.collect HG.out)
    have HSZ := Lib.hid (show (HM.new n).size = (colH k.h l).size from by
      show n = k.size.toNat
      omega)
    clear hb2 HB2 HX2 HK2 HL HEV HOK HWS
    go_wp2_with fail
    refine HCO.out.mono ?_
    rintro e w3 ⟨p3, rfl, hL3, hst3⟩
    have HX3' := Lib.hid (HX3.out.same (hst3.block _ HX3.out.lt (fun e => by have := HL3.out.new _ e; omega)))
    have HL4 := Lib.hid hL3
    have HP3 := Lib.hid (show ∀ j, p3.has j → W1.heap.size ≤ j ∧ j < w3.heap.size from fun j hj => ⟨hL3.new j hj, hL3.at_.lt hj⟩)
    obtain ⟨x0, x1, x2, x3, x4, hcv⟩ := colV_ints k.h l
    have hx0 : x0 = ((liveO k.h l).length : Nat) := by
      have h1 : colV k.h l = .agg #[.int .i64 ((liveO k.h l).length : Nat), .int .i64 x1, .int .i64 x2, .int .i64 x3, .int .i64 x4] := by
        have h2 := hcv
        unfold colV at h2 ⊢
        injection h2 with h2
        have h3 := congrArg (fun a : Array Value => a.toList) h2
        simp only [List.cons.injEq, Value.int.injEq, true_and, and_true] at h3
        obtain ⟨_, h4, h5, h6, h7⟩ := h3
        rw [h4, h5, h6, h7]
      rw [hcv] at h1
      injection h1 with h1
      have h3 := congrArg (fun a : Array Value => a.toList) h1
      simp only [List.cons.injEq, Value.int.injEq, true_and, and_true] at h3
      exact h3
    rw [hcv]
    have HX0 := Lib.hid hx0
    clear hL3 hst3 HL3 HX3 HCO hx0 hcv
    go_upto_region 5 with fail
    rw [hn] at HX3'
    have hb5 := (Below.refl w3.heap.size w3).alloc (Nat.le_refl _) (.cells #[.int .i64 x0, .int .i64 x1, .int .i64 x2, .int .i64 x3, .int .i64 x4] 46)
    have HY5 := Lib.hid (Blk.new w3 46 #[.int .i64 x0, .int .i64 x1, .int .i64 x2, .int .i64 x3, .int .i64 x4])
    have HX5 := Lib.hid (HX3'.out.below hb5 HX3'.out.lt)
    have HL5 := Lib.hid (HL4.out.after hb5)
    clear hn hb5 HL4 HX3'
    generalize w3.alloc (.cells #[.int .i64 x0, .int .i64 x1, .int .i64 x2, .int .i64 x3, .int .i64 x4] 46) = w5 at *
    generalize w3.heap.size = b5 at *
    have HG1 := Lib.hid (col_good HG.out)
    have HA1 := Lib.hid (live_again HG.out)
    have HH1 := Lib.hid (colH_again HG.out)
    have HV1 := Lib.hid (colV_again HG.out)
    rw [← HX0.out] at HV1
    have HU1 := Lib.hid (u32s_len (colH k.h l).words)
    have HU2 := Lib.hid (u32s_len (colH k.h l).roots)
    generalize colH k.h l = h1 at *
    generalize colL k.h l = l1 at *
    clear HX0
    go_wp2_with fail
    refine HL5.out.words.mono ?_
    rintro e w6 ⟨g6, c6, rfl, hr6, -, hb6⟩
    rw [HU1.out]
    have HR6 := Lib.hid hr6
    have HX6 := Lib.hid (HX5.out.below hb6 HX5.out.lt)
    have HY6 := Lib.hid (HY5.out.below hb6 HY5.out.lt)
    have HL6 := Lib.hid (HL5.out.after hb6)
    clear hr6 hb6 HX5 HY5 HL5
    go_wp2_with fail
    refine HL6.out.roots.mono ?_
    rintro e w7 ⟨g7, c7, rfl, hr7, -, hb7⟩
    rw [HU2.out]
    have HR7 := Lib.hid (And.intro (HR6.out.below hb7) hr7)
    have HX7 := Lib.hid (HX6.out.below hb7 HX6.out.lt)
    have HY7 := Lib.hid (HY6.out.below hb7 HY6.out.lt)
    have HL7 := Lib.hid (HL6.out.after hb7)
    have y0 := HX7.out.cell 0
    clear hr7 hb7 HX6 HY6 HL6 HR6
    go_wp2_with fail
    refine (new_any n hn1 hn2 _).mono ?_
    rintro e w8 hN
    obtain ⟨q, gq, rfl, Lq⟩ := Live.of_new (v := fun g => .tuple #[ptr g, .int .i64 0]) HL7.out.envw hn1 hn2 hN
    have hb8 := Lq.below
    have HR8 := Lib.hid (And.intro (HR7.out.1.below hb8) (HR7.out.2.below hb8))
    have HX8 := Lib.hid (HX7.out.below hb8 HX7.out.lt)
    have HY8 := Lib.hid (HY7.out.below hb8 HY7.out.lt)
    have HL8 := Lib.hid (HL7.out.after hb8)
    have HLA := Lib.hid (HL8.out.last)
    have f1 := HG1.out.fit.room
    have f2 := HG1.out.fit.hi
    have f3 := HG1.out.fit.roots
    have hld := HG1.out.load_self HSZ.out
    have HLD := Lib.hid (Lq.load (some ⟨g6, 0, none⟩) h1.words.length c6 h1.words (by omega) (by have := HR8.out.1.reads HR8.out.1.lt; rw [u32s_len] at this; exact this) HG1.out.fit.w32 (some ⟨g7, 0, none⟩) h1.roots.length c7 h1.roots (by omega) (by have := HR8.out.2.reads HR8.out.2.lt; rw [u32s_len] at this; exact this) HG1.out.fit.r32 h1.last HG1.out.fit.l32)
    rw [hld.1, hld.2] at HLD
    have HQ8 := Lib.hid (show (∀ j, q.has j → w7.heap.size ≤ j) ∧ (∀ j, p3.has j → j < b5) ∧ b5 < w7.heap.size ∧ W.heap.size < b5 from ⟨Lq.new, fun j hj => (HP3.out j hj).2, HY7.out.lt, by have h1 := HL7.out.new _ (show p3.has p3.g from .inl rfl); have h2 := HP3.out p3.g (.inl rfl); omega⟩)
    have HSZ8 := Lib.hid hb8.size
    clear hN hb8 Lq hld y0 HX7 HY7 HL7 HR7 f1 f2 f3
    unfold ptr
    go_wp2_with fail
    refine HLA.out.mono ?_
    rintro e w9 ⟨rfl, rfl⟩
    go_wp2_with fail
    refine HLD.out.mono ?_
    rintro e w9 ⟨q2, rfl, Lq2, stq⟩
    have HQ9 := Lib.hid (show (∀ j, q2.has j → w7.heap.size ≤ j) from fun j hj => by
      rcases stq.rows j hj with h | h
      · exact HQ8.out.1 j h
      · have h2 := HY8.out.lt
        have h3 := HQ8.out.2.2.1
        have h4 := HQ8.out.1
        have h5 := Lq2.below.size
        have h6 := stq.size
        have h7 : w7.heap.size ≤ w8.heap.size := HSZ8.out
        omega)
    have HL9 := Lib.hid (HL8.out.beside stq (fun j hj hq => by have h1 := HQ8.out.2.1 j hj; have h2 := HQ8.out.1 j hq; have h3 := HQ8.out.2.2.1; omega) (fun j hq => by have h1 := HQ8.out.1 j hq; have h2 := HQ8.out.2.2.1; have h3 := HP3.out p3.g (.inl rfl); omega))
    have HX9 := Lib.hid (HX8.out.same (stq.block _ HX8.out.lt (fun e => by have h1 := HQ8.out.1 _ e; have h2 := HQ8.out.2.2; omega)))
    have HY9 := Lib.hid (HY8.out.same (stq.block _ HY8.out.lt (fun e => by have h1 := HQ8.out.1 _ e; have h2 := HQ8.out.2.2.1; omega)))
    have HLQ := Lib.hid Lq2
    have HSM := Lib.hid (HL9.out.same Lq2)
    rw [sameH_self] at HSM
    clear Lq2 stq HLD HLA HR8 HX8 HY8 HL8
    go_wp2_with fail
    refine HSM.out.mono ?_
    rintro e w10 ⟨rfl, hb10⟩
    have HL10 := Lib.hid (HL9.out.after hb10)
    have HQ10 := Lib.hid (HLQ.out.after hb10)
    have HX10 := Lib.hid (HX9.out.below hb10 HX9.out.lt)
    have HY10 := Lib.hid (HY9.out.below hb10 HY9.out.lt)
    have HPL := Lib.hid (plan_any HL10.out.at_ HG1.out HL10.out.envw.spares)
    rw [HL10.out.hg] at HPL
    unfold ptr at HPL
    clear hb10 HSM HL9 HLQ HX9 HY9
    go_wp2_with fail
    refine HPL.out.mono ?_
    rintro e w11 ⟨v11, rfl, hown11, hb11⟩
    obtain ⟨A5, g5, c5, rfl, hg5, ho5⟩ := own_two hown11
    have HO5 := Lib.hid ho5
    have HL11 := Lib.hid (HL10.out.after hb11)
    have HQ11 := Lib.hid (HQ10.out.after hb11)
    have HX11 := Lib.hid (HX10.out.below hb11 HX10.out.lt)
    have HY11 := Lib.hid (HY10.out.below hb11 HY10.out.lt)
    have HPS := Lib.hid (plan_same HA1.out)
    have hpn : (planM h1 l1).length ≤ 9223372036854775807 := by
      have h1' := congrArg List.length (planM_fst h1 l1)
      rw [List.length_map] at h1'
      have h2 : (liveO h1 l1).length ≤ (oopsL l1).length := List.length_filter_le _ _
      have h3 := oopsL_le HG1.out
      omega
    clear hown11 hb11 ho5 hg5 HPL HL10 HQ10 HX10 HY10
    generalize planM h1 l1 = pl at *
    go_wp2_with fail
    go_loopw [61] (fun iv wr => ∃ j : Nat, iv = .int .i64 j ∧ j ≤ pl.length ∧ Below w11.heap.size w11 wr) (fun iv _ => pl.length - (intOf iv).toNat)
    case atStart => exact ⟨0, rfl, Nat.zero_le _, Below.refl _ _⟩
    case round =>
      obtain ⟨j, rfl, hj, hb⟩ := hrel
      have HB := Lib.hid hb
      clear hb
      by_cases hlt : j < pl.length
      · obtain ⟨rfl, hp5⟩ := HO5.out (by omega)
        have hq : pl[j]? = some pl[j] := List.getElem?_eq_getElem hlt
        obtain ⟨d0, d1⟩ := (hp5.same HB.out.size (HB.out.block _ hp5.1)).2 j _ hq
        have he := HPS.out _ (List.getElem_mem hlt)
        rw [← he] at d1
        have HLT := Lib.hid hlt
        clear hp5 hq he
        generalize (pl[j]).1 = x at *
        have hne : ((x : Int) != (x : Int)) = false := by simp
        go_upto_region 12 with fail
        have hba := HB.out.alloc HB.out.size (.cells #[.int .u32 (x : Int), .int .u32 (x : Int)] 43)
        have HBa := Lib.hid hba
        have y0 := (Blk.new wr 43 #[.int .u32 (x : Int), .int .u32 (x : Int)]).cell 0
        have y1 := (Blk.new wr 43 #[.int .u32 (x : Int), .int .u32 (x : Int)]).cell 1
        clear hba d0 d1 HB
        generalize wr.alloc (.cells #[.int .u32 (x : Int), .int .u32 (x : Int)] 43) = w13 at *
        go_wp2_with fail
        go_roundw
        case rel => exact ⟨j + 1, by go_num, HLT.out, HBa.out⟩
        case measure => have := HLT.out; simp [intOf]; omega
      · obtain rfl : j = pl.length := by omega
        have HLr := Lib.hid (HL11.out.after HB.out)
        have HQr := Lib.hid (HQ11.out.after HB.out)
        have HYr := Lib.hid (HY11.out.below HB.out HY11.out.lt)
        have HCO := Lib.hid (HLr.out.collect HG1.out)
        rw [HH1.out, HV1.out] at HCO
        clear hlt hj HB HL11 HQ11 HX11 HY11 HO5
        go_wp2_with fail
        refine HCO.out.mono ?_
        rintro e w12 ⟨p4, rfl, hL12, hst⟩
        have HL12 := Lib.hid hL12
        have HAq := Lib.hid (HQr.out.at_.same (fun j hj => hst.block j (HQr.out.at_.lt hj) (fun e => by have h1 := HQ9.out j hj; have h2 := HQ8.out.2.1 j e; have h3 := HQ8.out.2.2.1; omega)))
        have HYs := Lib.hid (HYr.out.same (hst.block _ HYr.out.lt (fun e => by have h2 := HQ8.out.2.1 _ e; omega)))
        clear hL12 hst HCO
        go_upto_region 16 with fail
        have hba := (Below.refl w12.heap.size w12).alloc (Nat.le_refl _) (.cells #[.int .i64 x0, .int .i64 0, .int .i64 0, .int .i64 0, .int .i64 0] 46)
        have Y2 := Blk.new w12 46 #[.int .i64 x0, .int .i64 0, .int .i64 0, .int .i64 0, .int .i64 0]
        have y0 := Y2.cell 0
        have y1 := Y2.cell 1
        have y2 := Y2.cell 2
        have y3 := Y2.cell 3
        have y4 := Y2.cell 4
        have k0 := (HYs.out.below hba HYs.out.lt).cell 0
        have HLs := Lib.hid (HL12.out.after hba)
        have HSM := Lib.hid (show Calls Tryd.prog 38 #[.pointer (some ⟨g, 0, none⟩), .pointer (some ⟨gq, 0, none⟩)] (w12.alloc (.cells #[.int .i64 x0, .int .i64 0, .int .i64 0, .int .i64 0, .int .i64 0] 46)) (Told (.bool true) (w12.alloc (.cells #[.int .i64 x0, .int .i64 0, .int .i64 0, .int .i64 0, .int .i64 0] 46))) from by
          have hh := Same_any HLs.out.at_ (HAq.out.below hba) HG1.out.fit HG1.out.fit
          rw [HLs.out.hg, HQr.out.hg, sameH_self] at hh
          exact hh.mono fun e w' ⟨he, m, hm⟩ => ⟨he, hm ▸ below_drewN (Below.refl _ _) m⟩)
        clear hba Y2 HYs HYr
        generalize w12.alloc (.cells #[.int .i64 x0, .int .i64 0, .int .i64 0, .int .i64 0, .int .i64 0] 46) = w14 at *
        go_wp2_with fail
        refine HSM.out.mono ?_
        rintro e w15 ⟨rfl, hb15⟩
        have HF := Lib.hid (HB1.out.trans ((HLs.out.below.trans (hb15.mono HLs.out.below.size)).mono (show W.heap.size ≤ W1.heap.size by omega)))
        clear hb15 y0 y1 y2 y3 y4 k0
        go_wp2_with fail
        go_ret
        exact ⟨rfl, HF.out⟩
end Go.Proofs.YtblekggklimpeaaDoor

namespace Go.Proofs.YtblekggklimpeaaDoor
open Go.RowKit Go.Sort
attribute [local go_sem] Oper.semAt_some
theorem own_readsE {w : World} {base n c : Nat} {A : Option Addr} {xs : List Nat} {e : TypeId} (h : w.ownsRow base e 1 (.slice A n c) xs.length (u32s xs)) : n = xs.length := by
  rcases h.2 with ⟨h1, h2⟩ | ⟨g, cap, cur, h1, _⟩
  · injection h1 with _ h3 _
    omega
  · injection h1
section
set_option maxRecDepth 100000 in
set_option maxHeartbeats 8000000 in
theorem reachesL_any (W : World) (E : Env W) (k : Cs) (hk : k.At W W.heap.size) (o : Nat) (ho : o < 4294967296) : Calls Tryd.prog 10 #[k.agg, .int .u32 o] W (Told (.bool true) W) := by
  have hb1 := (Below.refl W.heap.size W).alloc (Nat.le_refl _) (.cells k.cells 26)
  have B1 := Blk.new W 26 k.cells
  have HB1 := Lib.hid hb1
  have HBX := Lib.hid B1
  have HE := Lib.hid (E.below hb1)
  have HK := Lib.hid (hk.below hb1)
  have HBU := Lib.hid (built_any _ (E.below hb1) k (hk.below hb1))
  have HAW := Lib.hid (fun (w : World) (E : Env w) => awake_any w E)
  have HST := Lib.hid (fun (w : World) => store_any k w)
  have hsz := World.size_alloc W (.cells k.cells 26)
  clear hb1 B1 E hk
  unfold Cs.cells at HB1 HBX HE HK HBU hsz
  unfold Cs.agg at HBU HST ⊢
  unfold StV at HST
  go_enter Tryd.func10, Tryd.ntmps10
  obtain ⟨x0, x1, x2, x3⟩ := cells4K HBX.out
  go_wp2_with fail
  clear x0 x1 x2 x3
  generalize W.alloc (.cells #[.int .i64 k.size, .slice k.A k.n k.c, .slice k.A' k.n' k.c', .int .u32 (k.last : Nat)] 26) = W1 at *
  refine HBU.out.mono ?_
  rintro e w1 (⟨hno, ⟨v, rfl⟩, hb⟩ | ⟨hok, p, g, rfl, L, hws, hrs⟩)
  · have HB2 := Lib.hid (below_top HB1.out hb)
    have HE2 := Lib.hid (HE.out.below hb)
    clear hb hno HBU
    go_wp2_with fail
    refine (HAW.out _ HE2.out).mono ?_
    rintro e w2 ⟨rfl, hb2⟩
    have HB3 := Lib.hid (below_top HB2.out hb2)
    clear hb2
    go_wp2_with fail
    go_ret
    exact ⟨rfl, HB3.out⟩
  · have HL := Lib.hid L
    obtain ⟨l, G⟩ := L.good
    have HG := Lib.hid G
    have HEV := Lib.hid L.envw
    have HB2 := Lib.hid (below_top HB1.out L.below)
    have HX2 := Lib.hid (HBX.out.below L.below HBX.out.lt)
    have HK2 := Lib.hid (HK.out.below L.below)
    have HWS := Lib.hid (And.intro hws hrs)
    have HOK := Lib.hid hok
    clear L G hws hrs hok HBU HB1 HBX HE HK
    go_wp2_with fail
    refine (HAW.out _ HEV.out).mono ?_
    rintro e w2 ⟨rfl, hb2⟩
    have HL3 := Lib.hid (HL.out.after hb2)
    have HB3 := Lib.hid (below_top HB2.out hb2)
    have HX3 := Lib.hid (HX2.out.below hb2 HX2.out.lt)
    have HK3 := Lib.hid (HK2.out.below hb2)
    obtain ⟨x0, x1, x2, x3⟩ := cells4K HX3.out
    clear hb2 HB2 HX2 HK2 HL HEV
    go_wp2_with fail
    refine (HST.out _).mono ?_
    rintro e w3 ⟨rfl, hb3⟩
    have HB4 := Lib.hid (below_top HB3.out hb3)
    have HL4 := Lib.hid (HL3.out.after hb3)
    have HX4 := Lib.hid (HX3.out.below hb3 HX3.out.lt)
    have HRD := Lib.hid (fun (w' : World) (hb : Below w3.heap.size w3 w') => show Reads w' w'.heap.size 1 k.A k.n (u32s k.h.words) ∧ Reads w' w'.heap.size 1 k.A' k.n' (u32s k.h.roots) from by
      have h1 := (HK3.out.below hb3).below hb
      rw [HWS.out.1, HWS.out.2]
      exact ⟨h1.hr, h1.hr'⟩)
    have hb4 : Below w3.heap.size w3 (w3.alloc (.cells #[.slice k.A k.n k.c, .slice k.A' k.n' k.c'] 32)) := (Below.refl _ _).alloc (Nat.le_refl _) _
    have HS4 := Lib.hid (Blk.new w3 32 #[.slice k.A k.n k.c, .slice k.A' k.n' k.c'])
    have HX5 := Lib.hid (HX4.out.below hb4 HX4.out.lt)
    have HB5 := Lib.hid hb4
    have HRE := Lib.hid (fun (w' : World) (hb : Below w3.heap.size w3 w') => reach_any (HL4.out.after hb) HG.out ho)
    generalize hER : (if k.h.isB o = true then 0 else 3 : Nat) = eR at HRE
    have HER := Lib.hid hER
    clear hER
    have HPA := Lib.hid (fun (w' : World) (hb : Below w3.heap.size w3 w') => path_any (HL4.out.after hb) HG.out ho)
    have HRI := Lib.hid (fun (w' : World) (hb : Below w3.heap.size w3 w') => ris_any (A' := k.A') (n' := k.n') (c := k.c) (c' := k.c') HG.out (HRD.out w' hb).1 ho)
    have HRP := Lib.hid (fun (w' : World) (hb : Below w3.heap.size w3 w') => rpath_any (c := k.c) (c' := k.c') HG.out (HRD.out w' hb).1 (HRD.out w' hb).2 ho)
    have HRW := Lib.hid (fun (w' : World) (hb : Below w3.heap.size w3 w') (gz : Nat) (hr : Row w' gz 41 1 (u32s [o])) (hi : k.h.isB o = true) => rwalk_any (A' := k.A') (n' := k.n') (c := k.c) (c' := k.c') (cf := 1) HG.out (HRD.out w' hb).1 (fr := [o]) (hr.reads hr.lt) (fun x hx => by rcases List.mem_singleton.1 hx with rfl; unfold HM.valB; rw [hi, Bool.or_true]) (fun x hx => by rcases List.mem_singleton.1 hx with rfl; exact ho) (by simp))
    have hsz1 : k.size = (k.h.size : Int) := by
      have := HOK.out.1
      show k.size = ((k.size.toNat : Nat) : Int)
      omega
    have hn1 := (HK3.out).hn
    have hn2 := (HK3.out).hn'
    have HIS := Lib.hid (fun (w' : World) (hb : Below w3.heap.size w3 w') => is_yes (HL4.out.after hb) k hsz1 rfl k.A k.n k.c hn1 (HRD.out w' hb).1 k.A' k.n' k.c' hn2 (HRD.out w' hb).2)
    clear hb3 hb4 HB3 HX3 HK3 HL3 HX4 HRD HWS HOK hsz1 hn1 hn2 x0 x1 x2 x3 HAW HST
    unfold StV at HRP HRI HRW HIS
    unfold Cs.agg at HIS
    go_upto_region 5 with fail
    generalize w3.alloc (.cells #[.slice k.A k.n k.c, .slice k.A' k.n' k.c'] 32) = w4 at *
    have HC := Lib.hid (show ∀ w', Below w4.heap.size w4 w' → w'.cell? ⟨W.heap.size, 0, none⟩ = some (.int .i64 k.size) ∧ w'.cell? ⟨W.heap.size, 1, none⟩ = some (.slice k.A k.n k.c) ∧ w'.cell? ⟨W.heap.size, 2, none⟩ = some (.slice k.A' k.n' k.c') ∧ w'.cell? ⟨W.heap.size, 3, none⟩ = some (.int .u32 (k.last : Nat)) ∧ w'.cell? ⟨w3.heap.size, 0, none⟩ = some (.slice k.A k.n k.c) ∧ w'.cell? ⟨w3.heap.size, 1, none⟩ = some (.slice k.A' k.n' k.c') ∧ Below w3.heap.size w3 w' from fun w' hb =>
      ⟨(HX5.out.below hb HX5.out.lt).cell 0, (HX5.out.below hb HX5.out.lt).cell 1, (HX5.out.below hb HX5.out.lt).cell 2, (HX5.out.below hb HX5.out.lt).cell 3, (HS4.out.below hb HS4.out.lt).cell 0, (HS4.out.below hb HS4.out.lt).cell 1, below_top HB5.out hb⟩)
    clear HX5 HS4
    go_wp2_with fail
    refine (HRE.out _ HB5.out).mono ?_
    rintro e w5 ⟨v5, rfl, ho5, hb5⟩
    obtain ⟨A5, c5, hv5⟩ := own_val ho5
    subst hv5
    have HO5 := Lib.hid ho5
    have HB6 := Lib.hid hb5
    clear ho5 hb5 HB5 HRE
    go_wp2_with fail
    refine (HPA.out _ (HC.out _ HB6.out).2.2.2.2.2.2).mono ?_
    rintro e w6 ⟨v6, rfl, ho6, hb6⟩
    obtain ⟨A6, c6, hv6⟩ := own_val ho6
    subst hv6
    have HO6 := Lib.hid ho6
    have HO5 := Lib.hid (own_below HO5.out hb6)
    have HB7 := Lib.hid (below_top HB6.out hb6)
    obtain ⟨y0, y1, y2, y3, y4, y5, -⟩ := HC.out _ HB7.out
    clear ho6 hb6 HB6 HPA
    go_wp2_with fail
    refine (HIS.out _ (HC.out _ HB7.out).2.2.2.2.2.2).mono ?_
    rintro e w7 ⟨rfl, hb7⟩
    have HO6 := Lib.hid (own_below HO6.out hb7)
    have HO5 := Lib.hid (own_below HO5.out hb7)
    have HB8 := Lib.hid (below_top HB7.out hb7)
    obtain ⟨z0, z1, z2, z3, z4, z5, -⟩ := HC.out _ HB8.out
    clear hb7 HB7 HIS y0 y1 y2 y3 y4 y5
    go_wp2_with fail
    refine (HRI.out _ (HC.out _ HB8.out).2.2.2.2.2.2).mono ?_
    rintro e w8 ⟨rfl, hb8⟩
    have HO6 := Lib.hid (own_below HO6.out hb8)
    have HO5 := Lib.hid (own_below HO5.out hb8)
    have HB9 := Lib.hid (below_top HB8.out hb8)
    obtain ⟨y0, y1, y2, y3, y4, y5, -⟩ := HC.out _ HB9.out
    clear hb8 HB8 HRI z0 z1 z2 z3 z4 z5
    have HBW := Lib.hid (fun (w' : World) (hb : Below w4.heap.size w4 w') => HB4.out.trans (((HC.out w' hb).2.2.2.2.2.2).mono HB4.out.size))
    by_cases hi : k.h.isB o = true
    · rw [hi]
      have HIB := Lib.hid hi
      have hER0 : eR = 0 := by have := HER.out; rw [if_pos hi] at this; exact this.symm
      have HRL := Lib.hid (show reachL k.h o = metO (walkM (heldM k.h) [o]) from by unfold reachL; rw [if_pos hi])
      have HPO := Lib.hid (show pathO k.h o = pathL (walkM (heldM k.h) k.h.roots) o from by unfold pathO; rw [if_pos hi])
      have HPE := Lib.hid (show pathE k.h o = if o ∈ metO (walkM (heldM k.h) k.h.roots) then 0 else 31 from by unfold pathE; rw [if_pos hi])
      subst hER0
      rw [HRL.out] at HO5
      rw [HPO.out] at HO6
      rw [HRL.out, HPO.out]
      clear hi HRL HPO HER
      unfold RWalkP at HRW
      generalize walkM (heldM k.h) [o] = RW at *
      have HPX := Lib.hid (show (o ∈ metO (walkM (heldM k.h) k.h.roots) ∧ 0 < (pathL (walkM (heldM k.h) k.h.roots) o).length) ∨ (o ∉ metO (walkM (heldM k.h) k.h.roots) ∧ pathL (walkM (heldM k.h) k.h.roots) o = []) from by
        by_cases hm : o ∈ metO (walkM (heldM k.h) k.h.roots)
        · exact .inl ⟨hm, by unfold pathL; rw [if_pos hm, List.length_reverse]; simp⟩
        · exact .inr ⟨hm, pathL_no hm⟩)
      generalize pathL (walkM (heldM k.h) k.h.roots) o = PL at *
      generalize pathE k.h o = pe at *
      go_upto_region 11 with fail
      have hba := HB9.out.alloc HB9.out.size (.cells #[.int .u32 (o : Int)] 41)
      have hbo : Below w8.heap.size w8 (w8.alloc (.cells #[.int .u32 (o : Int)] 41)) := (Below.refl _ _).alloc (Nat.le_refl _) _
      have hrow : Row (w8.alloc (.cells #[.int .u32 (o : Int)] 41)) w8.heap.size 41 1 (u32s [o]) := ⟨_, Blk.new w8 _ _, by simp [u32s], by decide, by simp, rfl⟩
      have HW1 := Lib.hid (HRW.out _ (HC.out _ hba).2.2.2.2.2.2 _ hrow HIB.out)
      have HBa := Lib.hid hba
      have HO5 := Lib.hid (own_below HO5.out hbo)
      have HO6 := Lib.hid (own_below HO6.out hbo)
      clear hba hbo hrow HRW
      go_wp2_with fail
      refine HW1.out.mono ?_
      rintro e w9 ⟨vl, vc, rfl, hol, -, hb9⟩
      obtain ⟨Al, cl, hvl⟩ := own_val hol
      subst hvl
      have HOL := Lib.hid hol
      have HO5 := Lib.hid (own_below HO5.out hb9)
      have HO6 := Lib.hid (own_below HO6.out hb9)
      have HB10 := Lib.hid (below_top HBa.out hb9)
      obtain ⟨z0, z1, z2, z3, z4, z5, -⟩ := HC.out _ HB10.out
      clear hol hb9 HBa HW1 y0 y1 y2 y3 y4 y5
      go_wp2_with fail
      refine (HRP.out _ (HC.out _ HB10.out).2.2.2.2.2.2).mono ?_
      rintro e w10 ⟨vp, rfl, hop, hb10⟩
      obtain ⟨Ap, cp, hvp⟩ := own_val hop
      subst hvp
      have HOP := Lib.hid hop
      have HOL := Lib.hid (own_below HOL.out hb10)
      have HO5 := Lib.hid (own_below HO5.out hb10)
      have HO6 := Lib.hid (own_below HO6.out hb10)
      have HB11 := Lib.hid (below_top HB10.out hb10)
      have hml := metO_len RW
      have hol2 := HOL.out
      rw [← hml] at hol2
      have r5 := own_readsV HO5.out
      have rl := own_readsN hol2
      have HS1 := Lib.hid (show Calls Tryd.prog 17 #[.slice A5 (metO RW).length c5, .slice Al RW.length cl] w10 (Told (.bool true) w10) from by
        obtain ⟨A', c', hv, hr, hn⟩ := rl
        injection hv with e1 e2 e3
        subst e1
        have hh := oops_any A5 Al (metO RW).length RW.length c5 cl (metO RW) (metO RW) w10 r5.2 (by rw [← hml]; exact hn) r5.1 (by rw [← hml]; exact hr)
        rw [sameL_self] at hh
        exact hh)
      clear hop hb10 hol2 r5 rl hml HB10 HRP z0 z1 z2 z3 z4 z5 HOL HO5
      go_wp2_with fail
      refine HS1.out.mono ?_
      rintro e w11 ⟨rfl, hb11⟩
      have r6 := own_readsV (own_below HO6.out hb11)
      have rp := own_readsV (own_below HOP.out hb11)
      have HS2 := Lib.hid (show Calls Tryd.prog 17 #[.slice A6 PL.length c6, .slice Ap PL.length cp] w11 (Told (.bool true) w11) from by
        have hh := oops_any A6 Ap PL.length PL.length c6 cp PL PL w11 r6.2 rp.2 r6.1 rp.1
        rw [sameL_self] at hh
        exact hh)
      have HB12 := Lib.hid (below_top HB11.out hb11)
      clear hb11 r6 rp HB11 HO6 HOP HS1
      go_wp2_with fail
      refine HS2.out.mono ?_
      rintro e w12 ⟨rfl, hb12⟩
      have HB13 := Lib.hid (below_top HB12.out hb12)
      clear hb12 HS2 HB12
      rcases HPX.out with ⟨hm, hp⟩ | ⟨hm, rfl⟩
      · have hpe : pe = 0 := by have := HPE.out; rw [if_pos hm] at this; exact this
        subst hpe
        have hne : ((PL.length : Int) == 0) = false := by simp; intro e; subst e; simp at hp
        clear hm hp
        go_wp2_with fail
        go_ret
        exact ⟨rfl, HBW.out _ HB13.out⟩
      · have hpe : pe = 31 := by have := HPE.out; rw [if_neg hm] at this; exact this
        subst hpe
        clear hm
        go_wp2_with fail
        go_ret
        exact ⟨rfl, HBW.out _ HB13.out⟩
    · have hi' : k.h.isB o = false := by simpa using hi
      rw [hi']
      have hER0 : eR = 3 := by have := HER.out; rw [if_neg hi] at this; exact this.symm
      have hRL : reachL k.h o = [] := by unfold reachL; rw [if_neg hi]
      have hPO : pathO k.h o = [] := by unfold pathO; rw [if_neg hi]
      have hPE : pathE k.h o = 3 := by unfold pathE; rw [if_neg hi]
      subst hER0
      rw [hRL, hPO, hPE]
      clear hi hi' hRL hPO hPE HER
      go_wp2_with fail
      go_ret
      exact ⟨rfl, HBW.out _ HB9.out⟩
end
end Go.Proofs.YtblekggklimpeaaDoor
