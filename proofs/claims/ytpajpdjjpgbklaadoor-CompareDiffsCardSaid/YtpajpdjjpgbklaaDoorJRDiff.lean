/- The document's Diff. -/
import Derived.Test.YtpajpdjjpgbklaaDoorJRDiffK
set_option linter.unusedVariables false
set_option linter.unusedSimpArgs false
namespace Go.Proofs.YtpajpdjjpgbklaaDoor
open Go.RowKit Go.Maps Go.Sort
attribute [local go_sem] Oper.semAt_some

theorem walkE_fits {h : HM} {fr : List Nat} (e : h.walkE fr = 0) : h.fitsB fr = true := by
  unfold HM.walkE at e
  split at e
  · assumption
  · omega
theorem getD_mem {fr : List Nat} {k : Nat} (hk : k < fr.length) : fr.getD k 0 ∈ fr := by
  rw [List.getD_eq_getElem?_getD, List.getElem?_eq_getElem hk]
  exact List.getElem_mem _
set_option maxRecDepth 100000 in
set_option maxHeartbeats 16000000 in
theorem rdiff_any {w : World} {p q : HP} {g h : HM} {lg lh : List Ob} (HA : RAt w p g) (GA : g.Good lg) (HB : RAt w q h) (GB : h.Good lh) (ser : Bool) (A1 A2 : Option Addr) (n1 n2 c1 c2 : Nat) (a b : List Nat) (hn1 : n1 ≤ 9223372036854775807) (hn2 : n2 ≤ 9223372036854775807)
    (hra : Reads w w.heap.size 1 A1 n1 (u32s a)) (hrb : Reads w w.heap.size 1 A2 n2 (u32s b)) (ha32 : ∀ y ∈ a, y < 4294967296) (hb32 : ∀ y ∈ b, y < 4294967296) :
    Calls Tryd.prog 11 #[ptr p.g, ptr q.g, .bool ser, .slice A1 n1 c1, .slice A2 n2 c2] w (DiffP g h ser a b w) := by
  have hla : a.length = n1 := by have := hra.1; rw [u32s_len] at this; omega
  have hlb : b.length = n2 := by have := hrb.1; rw [u32s_len] at this; omega
  have HWA := Lib.hid (fun (w' : World) (hb : Below w.heap.size w w') => rwalk_flat (HA.below hb) GA A1 n1 c1 a hn1 ((hra.below hb).more hb.size) ha32)
  have HWB := Lib.hid (fun (w' : World) (hb : Below w.heap.size w w') => rwalk_flat (HB.below hb) GB A2 n2 c2 b hn2 ((hrb.below hb).more hb.size) hb32)
  have HB0 := Lib.hid ((Below.refl w.heap.size w).alloc (Nat.le_refl _) (.cells #[.int .i64 0, .slice none 0 0, .int .i64 0] 35))
  have BD := Lib.hid (Blk.new w 35 #[.int .i64 0, .slice none 0 0, .int .i64 0])
  have HDN := Lib.hid (fun (w' : World) (hb : Below w.heap.size w w') (hE : diffE g h a b ≠ 0) => diffP_none (ser := ser) hb hE)
  have HX := Lib.hid (And.intro HA (And.intro HB (And.intro hra (And.intro hrb (And.intro ha32 (And.intro hb32 (And.intro hla hlb)))))))
  have HEE := Lib.hid (diffE_of g h a b)
  have hwa := walkE_or g a
  have hwb := walkE_or h b
  unfold ptr at HWA HWB ⊢
  generalize hS1 : g.walkE a = s1 at *
  generalize hS2 : h.walkE b = s2 at *
  have HS12 := Lib.hid (And.intro hS1 hS2)
  clear hS1 hS2 HA HB hra hrb ha32 hb32
  go_enter Tryd.func11, Tryd.ntmps11
  go_wp2_with fail
  refine (HWA.out _ HB0.out).mono ?_
  rintro e w1 ⟨v1, rfl, hb1⟩
  have HB1 := Lib.hid (below_top HB0.out hb1)
  have HBD1 := Lib.hid hb1
  clear hb1
  rw [HS12.out.1]
  go_wp2_with fail
  refine (HWB.out _ HB1.out).mono ?_
  rintro e w2 ⟨v2, rfl, hb2⟩
  have HB2 := Lib.hid (below_top HB1.out hb2)
  have HBD2 := Lib.hid (below_top HBD1.out hb2)
  clear hb2 HWA HWB HB1 HBD1
  rw [HS12.out.2]
  by_cases h3 : s1 = 3 ∨ s2 = 3
  · have HE := Lib.hid (show diffE g h a b = 3 by rw [HEE.out, if_pos h3])
    by_cases h31 : s1 = 3
    · subst h31
      clear h3 hla hlb hwa hwb
      as_aux_lemma =>
        have BDn := BD.out.below HBD2.out BD.out.lt
        have d0 := BDn.cell 0
        have d1 := BDn.cell 1
        have d2 := BDn.cell 2
        have z0 := BDn.frozen 0
        have z1 := BDn.frozen 1
        have z2 := BDn.frozen 2
        have HBS := Lib.hid (BDn.setAll3 (.int .i64 0) (.slice none 0 0) (.int .i64 0))
        have hlS : w.heap.size ≤ w.heap.size := Nat.le_refl _
        clear BDn
        go_wp2_with fail
        have f0 := HBS.out.cell 0
        have f1 := HBS.out.cell 1
        have f2 := HBS.out.cell 2
        refine bodyPost_ret (v := .tuple #[.agg #[.int .i64 0, .slice none 0 0, .int .i64 0], .int .i64 3]) (by simp [results, Tryd.results11, go_sem, f0, f1, f2]) rfl ?_
        have hfin := HDN.out _ (((HB2.out.setCell (p := ⟨w.heap.size, 0, none⟩) (Nat.le_refl _) (.int .i64 0)).setCell (p := ⟨w.heap.size, 1, none⟩) (Nat.le_refl _) (.slice none 0 0)).setCell (p := ⟨w.heap.size, 2, none⟩) (Nat.le_refl _) (.int .i64 0)) (by rw [HE.out]; decide)
        rw [HE.out] at hfin
        exact hfin
    · have h32 : s2 = 3 := by omega
      subst h32
      have e1 : ((s1 : Int) == 3) = false := by simp; omega
      clear h3 h31 hla hlb hwa hwb
      as_aux_lemma =>
        have BDn := BD.out.below HBD2.out BD.out.lt
        have d0 := BDn.cell 0
        have d1 := BDn.cell 1
        have d2 := BDn.cell 2
        have z0 := BDn.frozen 0
        have z1 := BDn.frozen 1
        have z2 := BDn.frozen 2
        have HBS := Lib.hid (BDn.setAll3 (.int .i64 0) (.slice none 0 0) (.int .i64 0))
        have hlS : w.heap.size ≤ w.heap.size := Nat.le_refl _
        clear BDn
        go_wp2_with fail
        have f0 := HBS.out.cell 0
        have f1 := HBS.out.cell 1
        have f2 := HBS.out.cell 2
        refine bodyPost_ret (v := .tuple #[.agg #[.int .i64 0, .slice none 0 0, .int .i64 0], .int .i64 3]) (by simp [results, Tryd.results11, go_sem, f0, f1, f2]) rfl ?_
        have hfin := HDN.out _ (((HB2.out.setCell (p := ⟨w.heap.size, 0, none⟩) (Nat.le_refl _) (.int .i64 0)).setCell (p := ⟨w.heap.size, 1, none⟩) (Nat.le_refl _) (.slice none 0 0)).setCell (p := ⟨w.heap.size, 2, none⟩) (Nat.le_refl _) (.int .i64 0)) (by rw [HE.out]; decide)
        rw [HE.out] at hfin
        exact hfin
  · by_cases hgo : n1 = n2 ∧ s1 = 0 ∧ s2 = 0
    · obtain ⟨rfl, rfl, rfl⟩ := hgo
      have HE := Lib.hid (show diffE g h a b = 0 by rw [HEE.out, if_neg h3, if_pos ⟨by omega, rfl, rfl⟩])
      have en : ((n1 : Int) != (n1 : Int)) = false := by simp
      have hmm := @run_makeMap Tryd.prog
      have HFT := Lib.hid (And.intro (fits_all (walkE_fits HS12.out.1)) (fits_all (walkE_fits HS12.out.2)))
      clear h3 hla hlb hwa hwb
      go_wp2_with fail
      clear hmm en
      obtain ⟨hbw, PW⟩ := RP.made HB2.out
      unfold rpairW at hbw PW
      have HS0 := Lib.hid (show RDS w _ _ _ _ _ g h [] [] from ⟨⟨_, _, PW⟩, HB2.out.trans (hbw.mono HB2.out.size), (BD.out.below HBD2.out BD.out.lt).below hbw (BD.out.below HBD2.out BD.out.lt).lt, fun x hx => by simp [oopsOf] at hx, fun x hx => by simp [oopsOf] at hx, Side.nil⟩)
      clear hbw PW BD HBD2 HDN HB0 HB2
      generalize (((w2.alloc (.map #[] 0)).alloc (.cells #[.slice none 0 0, .map (some w2.heap.size)] 105)).alloc (.map #[] 0)).alloc (.cells #[.slice none 0 0, .map (some (w2.heap.size + 1 + 1))] 105) = w3 at *
      generalize w2.heap.size + 1 + 1 + 1 = gY at *
      generalize w2.heap.size + 1 + 1 = mY at *
      generalize w2.heap.size + 1 = gX at *
      generalize w2.heap.size = mX at *
      have HFC := Lib.hid (fun (W' : World) (hb : Below w.heap.size w W') (k : Nat) (hk : k < n1) => show ∃ ad1 ad2, A1 = some ad1 ∧ A2 = some ad2 ∧ W'.cell? (ad1.add k) = some (.int .u32 ((a.getD k 0 : Nat) : Int)) ∧ W'.cell? (ad2.add k) = some (.int .u32 ((b.getD k 0 : Nat) : Int)) from by
        obtain ⟨ad1, u1, e1, -, hx1, hc1⟩ := (HX.out.2.2.1.below hb).at_ hk
        obtain ⟨ad2, u2, e2, -, hx2, hc2⟩ := (HX.out.2.2.2.1.below hb).at_ hk
        rw [u32s_get (by have := HX.out.2.2.2.2.2.2.1; omega)] at hx1
        rw [u32s_get (by have := HX.out.2.2.2.2.2.2.2; omega)] at hx2
        injection hx1 with hx1
        injection hx2 with hx2
        subst hx1
        subst hx2
        exact ⟨ad1, ad2, e1, e2, hc1, hc2⟩)
      have HPB := Lib.hid (fun (W' : World) (l m : List Nd) (k : Nat) (hk : k < n1) (S : RDS w W' gX mX gY mY g h l m) => S.pair GA.fit GB.fit (a.getD k 0) (b.getD k 0) (HX.out.2.2.2.2.1 _ (getD_mem (by have := HX.out.2.2.2.2.2.2.1; omega))) (HX.out.2.2.2.2.2.1 _ (getD_mem (by have := HX.out.2.2.2.2.2.2.2; omega)))
        (HFT.out.1 _ (getD_mem (by have := HX.out.2.2.2.2.2.2.1; omega))) (HFT.out.2 _ (getD_mem (by have := HX.out.2.2.2.2.2.2.2; omega))) (-1) (k : Int) (by omega))
      generalize hDD : diffD g.nmN g.nmAt h.nmAt (g.odM h ser) a b = D0
      have HDD := Lib.hid hDD
      clear hDD
      go_loopw [73] (fun i wr => ∃ k : Nat, k ≤ n1 ∧ i = .int .i64 k ∧ ∃ l m, beginD a b k = .on l m ∧ RDS w wr gX mX gY mY g h l m) (fun i _ => n1 - (intOf i).toNat)
      case atStart => exact ⟨0, by omega, rfl, [], [], rfl, HS0.out⟩
      case round =>
        clear HS0
        obtain ⟨k, hk, rfl, l, m, hbeg, hS⟩ := hrel
        have HBG := Lib.hid hbeg
        have HS := Lib.hid hS
        clear hbeg hS
        by_cases hlt : k < n1
        · have hlt2 : (k : Int) < (n1 : Int) := by omega
          obtain ⟨ad1, ad2, rfl, rfl, kA, kB⟩ := HFC.out wr HS.out.base k hlt
          have HPR := Lib.hid (fun W' => HPB.out W' l m k hlt)
          have HON := Lib.hid (fun hp => beginD_on (a := a) (b := b) (k := k) HBG.out hp)
          have HOF := Lib.hid (fun hp => beginD_off (beginD_end (a := a) (b := b) (k := k) HBG.out hp) a.length (by have := HX.out.2.2.2.2.2.2.1; omega))
          clear HPB HFC HFT
          generalize a.getD k 0 = v at *
          generalize b.getD k 0 = u at *
          go_upto_region 11 with fail
          replace kA := cell_regrown kA
          replace kB := cell_regrown kB
          refine wp_region_below_tail 11 (by kernel_rfl) (by kernel_rfl) ?_
          simp only [List.take_succ_cons, List.take_zero, List.drop_succ_cons, List.drop_zero]
          repeat (quiet_step (fail))
          refine wpQuiet_nil ?_
          intro wq hwq
          obtain ⟨⟨dq, osq⟩, hw''⟩ := hwq
          subst hw''
          have HS3 := Lib.hid (HS.out.below (below_regrown wr dq osq))
          clear kA kB HS
          generalize Go.Sort.grow (redrawn wr dq) osq = W3 at *
          go_wp2_with fail
          refine (HPR.out _ HS3.out).mono ?_
          rintro e w4 ⟨rfl, -, ⟨hp, hS4⟩ | ⟨hp, hS4⟩⟩
          · have HOD := Lib.hid (show D0 = ⟨pairK l m v u, [(k : Int)], 0⟩ by rw [← HDD.out]; unfold diffD; rw [HOF.out hp])
            have e1 : ((pairK l m v u : Int) != 0) = true := by simp; omega
            have HS4 := Lib.hid hS4
            clear hp hS4 HPR HON HOF HS3
            generalize pairK l m v u = pk at *
            have HFIN := Lib.hid (diff_stored (ser := ser) (A := some ⟨w4.heap.size, 0, none⟩) (c := 1) (HS4.out.base.alloc HS4.out.base.size (.cells #[.int .i64 (k : Int)] 3)) ⟨pk, [(k : Int)], 0⟩ (HDD.out.trans HOD.out) HE.out ⟨rfl, fun _ => ⟨_, rfl, by simp, cell_one_new _ _ _⟩⟩ (fun ad e => by injection e with e; subst e; have := HS4.out.box.lt; show w4.heap.size ≠ w.heap.size; omega) (Nat.le_refl _))
            go_upto_region 13 with fail
            as_aux_lemma =>
              have BDn := HS4.out.box.alloc (.cells #[.int .i64 (k : Int)] 3)
              have d0 := BDn.cell 0
              have d1 := BDn.cell 1
              have d2 := BDn.cell 2
              have z0 := BDn.frozen 0
              have z1 := BDn.frozen 1
              have z2 := BDn.frozen 2
              have HBS := Lib.hid (BDn.setAll3 (.int .i64 pk) (.slice (some ⟨w4.heap.size, 0, none⟩) 1 1) (.int .i64 0))
              clear BDn
              go_wp2_with fail
              have f0 := HBS.out.cell 0
              have f1 := HBS.out.cell 1
              have f2 := HBS.out.cell 2
              refine bodyPost_ret (v := .tuple #[.agg #[.int .i64 pk, .slice (some ⟨w4.heap.size, 0, none⟩) 1 1, .int .i64 0], .int .i64 0]) (by simp [results, Tryd.results11, go_sem, f0, f1, f2]) rfl ?_
              exact HFIN.out
          · have HBG2 := Lib.hid (HON.out hp)
            have HS4 := Lib.hid hS4
            rw [hp]
            clear hp hS4 HPR HON HOF HS3
            go_wp2_with fail
            go_roundw
            case rel => exact ⟨k + 1, by omega, by go_num, _, _, HBG2.out, HS4.out⟩
            case measure => simp [intOf]; omega
        · obtain rfl : k = n1 := by omega
          have HD0 := Lib.hid (show D0 = loopD g.nmN g.nmAt h.nmAt (g.odM h ser) (fuelD - 0) 0 l m by
            rw [← HDD.out]; unfold diffD; rw [HX.out.2.2.2.2.2.2.1, HBG.out]; rfl)
          clear HBG HPB HFC HFT hk hlt
          go_wp2_with fail
          go_loopw [20] (fun i wr => ∃ (i' : Nat) (l m : List Nd), i = .int .i64 i' ∧ i' ≤ l.length ∧ RDS w wr gX mX gY mY g h l m ∧ D0 = loopD g.nmN g.nmAt h.nmAt (g.odM h ser) (fuelD - i') i' l m) (fun i _ => 2097154 - (intOf i).toNat)
          case atStart => exact ⟨0, l, m, rfl, Nat.zero_le _, HS.out, HD0.out⟩
          case round =>
            clear HS HD0
            obtain ⟨i, l, m, rfl, hil, hS, hD⟩ := hrel
            have HS := Lib.hid hS
            have HD := Lib.hid hD
            have HSI := Lib.hid hS.side
            have hll := graph_bound GA.fit hS.side.ndl hS.ia
            have hfu : fuelD - i = (fuelD - (i + 1)) + 1 := by unfold fuelD; omega
            obtain ⟨⟨vl, vm, hP⟩, -⟩ := hS
            obtain ⟨Al, cl, rfl, hml⟩ := own_mets hP.a.row
            obtain ⟨Am, cm, rfl, hmm2⟩ := own_mets hP.b.row
            have x0 := hP.a.box.cell 0
            have y0 := hP.b.box.cell 0
            have hmlen := HS.out.side.len
            by_cases hlt : i < l.length
            · have hlt2 : (i : Int) < (l.length : Int) := by omega
              have hltm : i < m.length := by omega
              have hlt3 : (i : Int) < (m.length : Int) := by omega
              obtain ⟨adl, rfl, -, kA, -⟩ := hml.load hlt
              obtain ⟨adm, rfl, -, kB, -⟩ := hmm2.load hltm
              have HP := Lib.hid hP
              have HIA := Lib.hid (HS.out.ia _ (oopsOf_mem hlt))
              have HIB := Lib.hid (HS.out.ib _ (oopsOf_mem hltm))
              clear hP hml hmm2 hD
              have hmx : m.length ≤ 2097152 := by omega
              generalize hoo : (l.getD i default).o = o at *
              generalize huu : (m.getD i default).o = u at *
              have HOO := Lib.hid (And.intro hoo huu)
              clear hoo huu
              have ho32 : o < 4294967296 := by have h1 := HM.isB_lt HIA.out; have h2 := GA.fit.marks; have h3 := GA.fit.room; have h4 := GA.fit.hi; omega
              have hu32 : u < 4294967296 := by have h1 := HM.isB_lt HIB.out; have h2 := GB.fit.marks; have h3 := GB.fit.room; have h4 := GB.fit.hi; omega
              have HHA := Lib.hid (fun (W' : World) (hb : Below w.heap.size w W') => rheader_any (HX.out.1.below hb) GA.fit o ho32 (HM.isB_hd GA.laid.heads HIA.out))
              have HHB := Lib.hid (fun (W' : World) (hb : Below w.heap.size w W') => rheader_any (HX.out.2.1.below hb) GB.fit u hu32 (HM.isB_hd GB.laid.heads HIB.out))
              unfold Hd.val at HHA HHB
              unfold ptr at HHA HHB
              go_wp2_with fail
              go_quiet (fail)
              have HS3 := Lib.hid (HS.out.below (below_drewN (Below.refl wr.heap.size wr) nq))
              clear kA kB x0 y0 HS
              generalize wr.drewN nq = W3 at *
              go_wp2_with fail
              refine (HHA.out _ HS3.out.base).mono ?_
              rintro e w4 ⟨rfl, hb4⟩
              have HS4 := Lib.hid (HS3.out.below hb4)
              clear hb4
              go_wp2_with fail
              refine (HHB.out _ HS4.out.base).mono ?_
              rintro e w5 ⟨rfl, hb5⟩
              have HS5 := Lib.hid (HS4.out.below hb5)
              clear hb5
              have HTC := Lib.hid (fun K at_ (hod : g.odM h ser o u = some (K, at_)) => show D0 = ⟨K, pathM l i, at_⟩ from by
                rw [HD.out, hfu, loopD_off (d := ⟨K, pathM l i, at_⟩) hlt (by unfold roundD; rw [show oAt l i = o from HOO.out.1, show oAt m i = u from HOO.out.2, hod])])
              have hdX := HM.isB_hd GA.laid.heads HIA.out
              have HFX := Lib.hid (hd_fmt hdX)
              have HZX := Lib.hid (hd_size_le GA.fit hdX)
              clear hdX
              generalize hod : g.odM h ser o u = od at *
              have HOD := Lib.hid hod
              clear hod
              generalize hX : g.hd (o / 2) = X at *
              generalize hY : h.hd (u / 2) = Y at *
              have HXE := Lib.hid hX
              have HYE := Lib.hid hY
              clear hX hY
              go_upto_region 20 with fail
              have BX := (Blk.new w5 55 #[.int .i64 X.size, .int .i64 X.fmt, .int .i64 X.spare, .int .u32 X.cls, .int .u32 X.ser]).alloc (.cells #[.int .i64 Y.size, .int .i64 Y.fmt, .int .i64 Y.spare, .int .u32 Y.cls, .int .u32 Y.ser] 55)
              have BY := Blk.new (w5.alloc (.cells #[.int .i64 X.size, .int .i64 X.fmt, .int .i64 X.spare, .int .u32 X.cls, .int .u32 X.ser] 55)) 55 #[.int .i64 Y.size, .int .i64 Y.fmt, .int .i64 Y.spare, .int .u32 Y.cls, .int .u32 Y.ser]
              rw [World.size_alloc] at BY
              have HS6 := Lib.hid (HS5.out.below (((Below.refl w5.heap.size w5).alloc (Nat.le_refl _) (.cells #[.int .i64 X.size, .int .i64 X.fmt, .int .i64 X.spare, .int .u32 X.cls, .int .u32 X.ser] 55)).alloc (by simp) (.cells #[.int .i64 Y.size, .int .i64 Y.fmt, .int .i64 Y.spare, .int .u32 Y.cls, .int .u32 Y.ser] 55)))
              have HZ5 := Lib.hid (And.intro BX BY)
              have c0 := BX.cell 0
              have c1 := BX.cell 1
              have c2 := BX.cell 2
              have c4 := BX.cell 4
              have d0 := BY.cell 0
              have d1 := BY.cell 1
              have d2 := BY.cell 2
              have d4 := BY.cell 4
              clear BX BY HS5 HS4 HS3 HHA HHB
              generalize w5.heap.size = gHX at *
              generalize (w5.alloc (.cells #[.int .i64 X.size, .int .i64 X.fmt, .int .i64 X.spare, .int .u32 X.cls, .int .u32 X.ser] 55)).alloc (.cells #[.int .i64 Y.size, .int .i64 Y.fmt, .int .i64 Y.spare, .int .u32 Y.cls, .int .u32 Y.ser] 55) = w6 at *
              have HPT := Lib.hid (fun (W' : World) (S : RDS w W' gX mX gY mY g h l m) => S.path GA.fit hlt)
              by_cases hne3 : X.fmt ≠ Y.fmt ∨ X.size ≠ Y.size ∨ X.spare ≠ Y.spare
              · have HOV := Lib.hid (HTC.out 3 0 (by rw [← HOD.out]; unfold HM.odM; rw [HXE.out, HYE.out, if_pos hne3]))
                go_cut [144] (fun v W' => v = .bool true ∧ W' = w6)
                case first =>
                  have hor : X.fmt ≠ Y.fmt ∨ (X.fmt = Y.fmt ∧ X.size ≠ Y.size) ∨ (X.fmt = Y.fmt ∧ X.size = Y.size ∧ X.spare ≠ Y.spare) := by omega
                  clear hne3 HOV HPT HTC
                  rcases hor with h1 | ⟨h1, h2⟩ | ⟨h1, h2, h3⟩
                  · have e1 : ((X.fmt : Int) != (Y.fmt : Int)) = true := by simp; omega
                    clear h1
                    go_wp2_with fail
                    go_meet
                    exact ⟨rfl, rfl⟩
                  · have e1 : ((X.fmt : Int) != (Y.fmt : Int)) = false := by simp; omega
                    have e2 : ((X.size : Int) != (Y.size : Int)) = true := by simp; omega
                    clear h1 h2
                    go_wp2_with fail
                    go_meet
                    exact ⟨rfl, rfl⟩
                  · have e1 : ((X.fmt : Int) != (Y.fmt : Int)) = false := by simp; omega
                    have e2 : ((X.size : Int) != (Y.size : Int)) = false := by simp; omega
                    have e3 : ((X.spare : Int) != (Y.spare : Int)) = true := by simp; omega
                    clear h1 h2 h3
                    go_wp2_with fail
                    go_meet
                    exact ⟨rfl, rfl⟩
                case rest =>
                  obtain ⟨rfl, rfl⟩ := hcut
                  clear hne3 c0 c1 c2 c4 d0 d1 d2 d4
                  obtain ⟨Ap, cp, x0, hpath⟩ := HPT.out _ HS6.out
                  go_wp2_with fail
                  refine hpath.mono ?_
                  rintro e w7 ⟨A7, c7, rfl, hr7, hne7, hc7, -, -, hS7⟩
                  have HS7 := Lib.hid hS7
                  have HFIN := Lib.hid (diff_stored (ser := ser) (A := A7) (c := c7) hS7.base ⟨3, pathM l i, 0⟩ (HDD.out.trans HOV.out) HE.out hr7 hne7 hc7)
                  clear hr7 hne7 hc7 hS7 hpath x0
                  generalize pathM l i = pth at *
                  as_aux_lemma =>
                    have BDn := HS7.out.box
                    have d0 := BDn.cell 0
                    have d1 := BDn.cell 1
                    have d2 := BDn.cell 2
                    have z0 := BDn.frozen 0
                    have z1 := BDn.frozen 1
                    have z2 := BDn.frozen 2
                    have HBS := Lib.hid (BDn.setAll3 (.int .i64 3) (.slice A7 pth.length c7) (.int .i64 0))
                    clear BDn
                    go_wp2_with fail
                    have f0 := HBS.out.cell 0
                    have f1 := HBS.out.cell 1
                    have f2 := HBS.out.cell 2
                    refine bodyPost_ret (v := .tuple #[.agg #[.int .i64 3, .slice A7 pth.length c7, .int .i64 0], .int .i64 0]) (by simp [results, Tryd.results11, go_sem, f0, f1, f2]) rfl ?_
                    exact HFIN.out
              · have HN3 := Lib.hid hne3
                have hq1 : X.fmt = Y.fmt := by omega
                have hq2 : X.size = Y.size := by omega
                have hq3 : X.spare = Y.spare := by omega
                have e1 : ((X.fmt : Int) != (Y.fmt : Int)) = false := by simp; omega
                have e2 : ((X.size : Int) != (Y.size : Int)) = false := by simp; omega
                have e3 : ((X.spare : Int) != (Y.spare : Int)) = false := by simp; omega
                have HQ := Lib.hid (And.intro hq1 (And.intro hq2 hq3))
                clear hne3 hq1 hq2 hq3
                by_cases hs : ser = true ∧ X.ser ≠ Y.ser
                · obtain ⟨rfl, hs⟩ := hs
                  have e4 : ((X.ser : Int) != (Y.ser : Int)) = true := by simp; omega
                  have HOV := Lib.hid (HTC.out 4 0 (by rw [← HOD.out]; unfold HM.odM; rw [HXE.out, HYE.out, if_neg HN3.out, if_pos ⟨rfl, hs⟩]))
                  clear hs HTC
                  as_aux_lemma =>
                    obtain ⟨Ap, cp, x0, hpath⟩ := HPT.out _ HS6.out
                    go_wp2_with fail
                    refine hpath.mono ?_
                    rintro e w7 ⟨A7, c7, rfl, hr7, hne7, hc7, -, -, hS7⟩
                    have HS7 := Lib.hid hS7
                    have HFIN := Lib.hid (diff_stored (ser := true) (A := A7) (c := c7) hS7.base ⟨4, pathM l i, 0⟩ (HDD.out.trans HOV.out) HE.out hr7 hne7 hc7)
                    clear hr7 hne7 hc7 hS7 hpath x0
                    generalize pathM l i = pth at *
                    have BDn := HS7.out.box
                    have d0 := BDn.cell 0
                    have d1 := BDn.cell 1
                    have d2 := BDn.cell 2
                    have z0 := BDn.frozen 0
                    have z1 := BDn.frozen 1
                    have z2 := BDn.frozen 2
                    have HBS := Lib.hid (BDn.setAll3 (.int .i64 4) (.slice A7 pth.length c7) (.int .i64 0))
                    clear BDn
                    go_wp2_with fail
                    have f0 := HBS.out.cell 0
                    have f1 := HBS.out.cell 1
                    have f2 := HBS.out.cell 2
                    refine bodyPost_ret (v := .tuple #[.agg #[.int .i64 4, .slice A7 pth.length c7, .int .i64 0], .int .i64 0]) (by simp [results, Tryd.results11, go_sem, f0, f1, f2]) rfl ?_
                    exact HFIN.out
                · have HN4 := Lib.hid hs
                  have hs2 : ser = false ∨ (ser = true ∧ ((X.ser : Int) != (Y.ser : Int)) = false) := by
                    cases ser
                    · exact .inl rfl
                    · refine .inr ⟨rfl, ?_⟩
                      have : X.ser = Y.ser := Decidable.byContradiction fun e => hs ⟨rfl, e⟩
                      simp [this]
                  clear hs
                  go_upto_region 22 with fail
                  go_cut [159] (fun v W' => v = .bool false ∧ W' = w6)
                  case first =>
                    clear HTC HOD HD HDD HN4
                    rcases hs2 with rfl | ⟨rfl, e4⟩
                    · go_wp2_with fail
                      go_meet
                      exact ⟨rfl, rfl⟩
                    · go_wp2_with fail
                      go_meet
                      exact ⟨rfl, rfl⟩
                  case rest =>
                  obtain ⟨rfl, rfl⟩ := hcut
                  clear hs2 e1 e2 e3 c2 c4 d0 d1 d2 d4
                  have hfx := HFX.out
                  cases hp : X.ptrB
                  case true =>
                    have HNO := Lib.hid (show od = none by rw [← HOD.out]; unfold HM.odM; rw [HXE.out, HYE.out, if_neg HN3.out, if_neg HN4.out, if_pos hp])
                    have hfm : X.fmt = 1 ∨ X.fmt = 4 := by unfold Hd.ptrB at hp; simpa using hp
                    clear hp
                    go_upto_region 24 with fail
                    go_cut [174] (fun v W' => v = .bool false ∧ W' = wc)
                    case first =>
                      have f2 : ((X.fmt : Int) == 2) = false := by simp; omega
                      have f3 : ((X.fmt : Int) == 3) = false := by simp; omega
                      clear hfm hfx
                      go_wp2_with fail
                      go_meet
                      exact ⟨rfl, rfl⟩
                    case rest =>
                    obtain ⟨rfl, rfl⟩ := hcut
                    clear hfm hfx c0 c1 HPT
                    as_aux_lemma =>
                      have HTN := Lib.hid (fun l' m' (hn : namesD g.nmAt h.nmAt l m i (g.nmN o) = .on l' m') => show D0 = loopD g.nmN g.nmAt h.nmAt (g.odM h ser) (fuelD - (i + 1)) (i + 1) l' m' from by
                        rw [HD.out, hfu, loopD_on (l' := l') (m' := m') hlt (by unfold roundD; rw [show oAt l i = o from HOO.out.1, show oAt m i = u from HOO.out.2, HOD.out, HNO.out]; exact hn)])
                      have HTO := Lib.hid (fun d (hn : namesD g.nmAt h.nmAt l m i (g.nmN o) = .off d) => show D0 = d from by
                        rw [HD.out, hfu, loopD_off (d := d) hlt (by unfold roundD; rw [show oAt l i = o from HOO.out.1, show oAt m i = u from HOO.out.2, HOD.out, HNO.out]; exact hn)])
                      have HNM := Lib.hid (show h.nmN u = g.nmN o from odM_nm (ser := ser) o u (HOD.out.trans HNO.out))
                      have HNA := Lib.hid (fun (W' : World) (hb : Below w.heap.size w W') => rnames_any (HX.out.1.below hb) GA.fit GA.laid.heads o ho32 HIA.out)
                      have HNB := Lib.hid (fun (W' : World) (hb : Below w.heap.size w W') => rnames_any (HX.out.2.1.below hb) GB.fit GB.laid.heads u hu32 HIB.out)
                      have hNle := nmN_le GA.fit o (HM.isB_hd GA.laid.heads HIA.out)
                      unfold NamesP at HNA HNB
                      unfold ptr at HNA HNB
                      rw [HNM.out] at HNB
                      have HSD := Lib.hid (fun k l' m' (hn : namesD g.nmAt h.nmAt l m i k = .on l' m') => namesD_side HSI.out hlt hn)
                      clear HTC
                      go_wp2_with fail
                      refine (HNA.out _ HS6.out.base).mono ?_
                      rintro e w8 ⟨v8, rfl, hown8, hb8⟩
                      obtain ⟨AN, cN, rfl, -⟩ := own_slice hown8
                      have HS8 := Lib.hid (HS6.out.below hb8)
                      have HO8 := Lib.hid hown8
                      clear hb8 hown8
                      go_wp2_with fail
                      refine (HNB.out _ HS8.out.base).mono ?_
                      rintro e w9 ⟨v9, rfl, hown9, hb9⟩
                      obtain ⟨AM, cM, rfl, -⟩ := own_slice hown9
                      have HS9 := Lib.hid (HS8.out.below hb9)
                      have HO89 := Lib.hid (own_same HO8.out (fun k hk => hb9.block k (HO8.out.lt k hk).2))
                      have HO9 := Lib.hid hown9
                      clear hb9 HO8 hown9 HS8 HNA HNB
                      go_wp2_with fail
                      go_loopw [212] (fun j wr2 => ∃ k : Nat, k ≤ g.nmN o ∧ j = .int .i64 k ∧ ∃ l' m', namesD g.nmAt h.nmAt l m i k = .on l' m' ∧ RDS w wr2 gX mX gY mY g h l' m' ∧ (∃ b1, wr2.ownsRow b1 50 1 (.slice AN (g.nmN o) cN) (g.nmN o) (u32s (namesL g o (g.nmN o)))) ∧ (∃ b2, wr2.ownsRow b2 50 1 (.slice AM (g.nmN o) cM) (g.nmN o) (u32s (namesL h u (g.nmN o))))) (fun j _ => g.nmN o - (intOf j).toNat)
                      case atStart => exact ⟨0, by omega, rfl, l, m, rfl, HS9.out, ⟨_, HO89.out⟩, ⟨_, HO9.out⟩⟩
                      case round =>
                        clear HS9 HO89 HO9
                        obtain ⟨k2, hk2, rfl, l2, m2, hnd, hS2, ⟨b1, ho1⟩, ⟨b2, ho2⟩⟩ := hrel
                        have HND := Lib.hid hnd
                        have HSX := Lib.hid hS2
                        have HOA := Lib.hid ho1
                        have HOB := Lib.hid ho2
                        obtain ⟨hsd2, hpre2, hpre3⟩ := HSD.out k2 l2 m2 hnd
                        have hi2 : i < l2.length := Nat.lt_of_lt_of_le hlt hpre2.length_le
                        have hpm : pathM l2 i = pathM l i := pathM_pre hpre2 HSI.out.up hlt
                        clear hnd hS2 hsd2 hpre3 HSD
                        by_cases hkl : k2 < g.nmN o
                        · have hkl2 : (k2 : Int) < (g.nmN o : Int) := by omega
                          have hil2 : (i : Int) < (l2.length : Int) := by omega
                          have hnk : ((k2 : Int) < 1000000000000) := by omega
                          have HPR := Lib.hid (fun (W' : World) (S : RDS w W' gX mX gY mY g h l2 m2) => S.pair GA.fit GB.fit (g.nmAt o k2) (h.nmAt u k2) (HM.nmAt_lt GA.fit o k2) (HM.nmAt_lt GB.fit u k2) (fun e => names_isB GA HIA.out hkl e) (fun e => names_isB GB HIB.out (by rw [HNM.out]; exact hkl) e) (i : Int) ((k2 : Int) - 1) hil2)
                          have HON := Lib.hid (fun hp => namesD_on HND.out (by rw [show oAt l i = o from HOO.out.1, show oAt m i = u from HOO.out.2]; exact hp))
                          rw [show oAt l i = o from HOO.out.1, show oAt m i = u from HOO.out.2] at HON
                          have HOF := Lib.hid (fun hp => HTO.out _ (namesD_off (namesD_end HND.out (by rw [show oAt l i = o from HOO.out.1, show oAt m i = u from HOO.out.2]; exact hp)) (g.nmN o) hkl))
                          rw [show oAt l i = o from HOO.out.1, show oAt m i = u from HOO.out.2] at HOF
                          have HPL := Lib.hid (fun (W' : World) (S : RDS w W' gX mX gY mY g h l2 m2) => S.path GA.fit hi2)
                          rw [hpm] at HPL
                          have hpl := pathM_len l i
                          obtain ⟨A4, c4, e4, hrd1⟩ := own_slice ho1
                          injection e4 with e4 _ e5
                          subst e4
                          subst e5
                          obtain ⟨A5, c5, e5, hrd2⟩ := own_slice ho2
                          injection e5 with e5 _ e6
                          subst e5
                          subst e6
                          obtain ⟨adN, uN, rfl, hbN, hxN, kA⟩ := hrd1.at_ hkl
                          obtain ⟨adM, uM, rfl, hbM, hxM, kB⟩ := hrd2.at_ hkl
                          rw [u32s_get (by rw [namesL_len]; exact hkl), namesL_get hkl] at hxN hxM
                          injection hxN with hxN
                          injection hxM with hxM
                          subst hxN
                          subst hxM
                          clear hrd1 hrd2 ho1 ho2 hpre2 hbN hbM HTN HTO hpm
                          generalize g.nmAt o k2 = v at *
                          generalize h.nmAt u k2 = y at *
                          go_upto_region 36 with fail
                          replace kA := cell_regrown kA
                          replace kB := cell_regrown kB
                          refine wp_region_below_tail 13 (by kernel_rfl) (by kernel_rfl) ?_
                          simp only [List.take_succ_cons, List.take_zero, List.drop_succ_cons, List.drop_zero]
                          repeat (quiet_step (fail))
                          refine wpQuiet_nil ?_
                          intro wq hwq
                          obtain ⟨⟨dq, osq⟩, hw''⟩ := hwq
                          subst hw''
                          have hbq := below_regrown wr dq osq
                          have HSQ := Lib.hid (HSX.out.below hbq)
                          have HOA2 := Lib.hid (own_same HOA.out (fun k hk => hbq.block k (HOA.out.lt k hk).2))
                          have HOB2 := Lib.hid (own_same HOB.out (fun k hk => hbq.block k (HOB.out.lt k hk).2))
                          clear kA kB HSX HOA HOB hbq
                          generalize Go.Sort.grow (redrawn wr dq) osq = wq2 at *
                          go_wp2_with fail
                          refine (HPR.out _ HSQ.out).mono ?_
                          rintro e w10 ⟨rfl, hkeep, ⟨hp, hS4⟩ | ⟨hp, hS4⟩⟩
                          ·
                            as_aux_lemma =>
                              have HOV := Lib.hid (HOF.out hp)
                              have e1 : ((pairK l2 m2 v y : Int) != 0) = true := by simp; omega
                              have HS10 := Lib.hid hS4
                              clear hp hS4 hkeep HPR HON HOF HSQ HOA2 HOB2
                              generalize pairK l2 m2 v y = pk at *
                              obtain ⟨Ap, cp, x0, hpath⟩ := HPL.out _ HS10.out
                              obtain ⟨i0, hi0, hz0, hz1, hz2⟩ := info_parts info_int
                              go_wp2_with fail
                              refine hpath.mono ?_
                              rintro e w11 ⟨A7, c7, rfl, -, -, -, hown7, hs11, hS7⟩
                              have HS7 := Lib.hid hS7
                              have HOW7 := Lib.hid hown7
                              have HBL7 := Lib.hid hS7.box.lt
                              have hr10 := Lib.hid HS10.out.box.lt
                              clear hpath x0 hown7 hS7
                              generalize pathM l i = pth at *
                              go_wp2_with (at_builtin; refine wpList_append_any _ rfl (.tmp 237) (.tmp 240) _ rfl w10.heap.size 3 i0 _ 1 8 Tryd.underlying33 hi0 hz0 hz1 hz2 rfl (by omega) (.slice A7 pth.length c7) pth.length (intZ pth) rfl (HOW7.out.alloc _) (w11.heap.size + 1) (some ⟨w11.heap.size, 0, none⟩) 1 1 [.int .i64 ((k2 : Int) - 1)] rfl ⟨rfl, fun _ => ⟨_, rfl, by simp, cell_one_new _ _ _⟩⟩ (by simp [Value.oneCell']) (by simp only [maxLen]; omega) (by omega) (by simp; omega) ?_; intro v12 w12 hown12 hgrow12 hat12; rw [show pth.length + 1 = (pth ++ [(k2 : Int) - 1]).length by simp, show intZ pth ++ [.int .i64 ((k2 : Int) - 1)] = intZ (pth ++ [(k2 : Int) - 1]) by simp [intZ]] at hown12; generalize hp2 : pth ++ [(k2 : Int) - 1] = p2 at hown12; have HP2 := Lib.hid hp2; clear hp2; obtain ⟨A12, c12, rfl, hr12⟩ := own_slice hown12; have HR12 := Lib.hid hr12; have HOW12 := Lib.hid hown12; have HG12 := Lib.hid hgrow12; have BDn := own_box HS7.out HOW7.out hgrow12; have d0 := BDn.cell 0; have d1 := BDn.cell 1; have d2 := BDn.cell 2; have z0 := BDn.frozen 0; have z1 := BDn.frozen 1; have z2 := BDn.frozen 2; have HBS := Lib.hid (BDn.setAll3 (.int .i64 pk) (.slice A12 p2.length c12) (.int .i64 0)); clear BDn hown12 hgrow12 hat12 hr12)
                              have f0 := HBS.out.cell 0
                              have f1 := HBS.out.cell 1
                              have f2 := HBS.out.cell 2
                              refine bodyPost_ret (v := .tuple #[.agg #[.int .i64 pk, .slice A12 p2.length c12, .int .i64 0], .int .i64 0]) (by simp [results, Tryd.results11, go_sem, f0, f1, f2]) rfl ?_
                              exact diff_stored (below_grown (Nat.le_refl _) (HS7.out.base.alloc HS7.out.base.size _) HG12.out (fun q hq => by have h1 := (HOW7.out.lt q hq).1; have h2 := HS10.out.base.size; clear hi2 hlt hltm; omega)) ⟨pk, p2, 0⟩ (by rw [← HP2.out]; exact HDD.out.trans HOV.out) HE.out HR12.out
                                (fun ad e => by have h1 := (HOW12.out.lt ad.block (by rw [e]; rfl)).1; have h2 := HS10.out.box.lt; clear hi2 hlt hltm; omega) (own_cap HOW12.out)
                          · have HND2 := Lib.hid (HON.out hp)
                            have HS10 := Lib.hid hS4
                            have HOA3 := Lib.hid (hkeep.own HOA2.out (by decide) (by decide))
                            have HOB3 := Lib.hid (hkeep.own HOB2.out (by decide) (by decide))
                            rw [hp]
                            clear hp hS4 hkeep HPR HON HOF HSQ HOA2 HOB2 HPL
                            go_wp2_with fail
                            go_roundw
                            case rel => exact ⟨k2 + 1, hkl, by go_num, _, _, HND2.out, HS10.out, ⟨_, HOA3.out⟩, ⟨_, HOB3.out⟩⟩
                            case measure => simp [intOf]; omega
                        · obtain rfl : k2 = g.nmN o := by omega
                          have HD2 := Lib.hid (HTN.out l2 m2 HND.out)
                          clear HOA HOB HND HTN HTO hpm hkl hk2
                          go_wp2_with fail
                          go_roundw
                          case rel => exact ⟨i + 1, l2, m2, by go_num, hi2, HSX.out, HD2.out⟩
                          case measure => simp [intOf]; omega
                  case false =>
                    have HF := Lib.hid (show od = (firstD X.size (fw g o) (fw h u)).map fun k => (5, k) by rw [← HOD.out]; unfold HM.odM; rw [HXE.out, HYE.out, if_neg HN3.out, if_neg HN4.out, if_neg (by simp [hp])])
                    have hfm : X.fmt = 2 ∨ X.fmt = 3 := by unfold Hd.ptrB at hp; simp at hp; omega
                    clear hp
                    go_upto_region 24 with fail
                    go_cut [174] (fun v W' => v = .bool true ∧ W' = wc)
                    case first =>
                      rcases hfm with hf | hf
                      · rw [hf] at c1
                        go_wp2_with fail
                        go_meet
                        exact ⟨rfl, rfl⟩
                      · rw [hf] at c1
                        go_wp2_with fail
                        go_meet
                        exact ⟨rfl, rfl⟩
                    case rest =>
                    obtain ⟨rfl, rfl⟩ := hcut
                    clear hfm hfx c0 c1
                    have HWA := Lib.hid (fun (W' : World) (hb : Below w.heap.size w W') => rwords_any (HX.out.1.below hb) GA.fit o ho32 (HM.isB_hd GA.laid.heads HIA.out))
                    have HWB := Lib.hid (fun (W' : World) (hb : Below w.heap.size w W') => rwords_any (HX.out.2.1.below hb) GB.fit u hu32 (HM.isB_hd GB.laid.heads HIB.out))
                    unfold WordsP at HWA HWB
                    unfold ptr at HWA HWB
                    rw [HXE.out] at HWA
                    rw [HYE.out, ← HQ.out.2.1] at HWB
                    have HRW := Lib.hid (fun (W' : World) (hb : Below w.heap.size w W') (t : Nat) (ht : t < X.size) => show ∃ ad1 ad2, wordsA p o = some ad1 ∧ wordsA q u = some ad2 ∧ W'.cell? (ad1.add t) = some (.int .u32 (fw g o t : Nat)) ∧ W'.cell? (ad2.add t) = some (.int .u32 (fw h u t : Nat)) from by
                      have r1 := (words_reads (HX.out.1.below hb) o (HM.isB_hd GA.laid.heads HIA.out)).2
                      have r2 := (words_reads (HX.out.2.1.below hb) u (HM.isB_hd GB.laid.heads HIB.out)).2
                      rw [HXE.out] at r1
                      rw [HYE.out, ← HQ.out.2.1] at r2
                      obtain ⟨ad1, u1, e1, -, hx1, hc1⟩ := r1.at_ ht
                      obtain ⟨ad2, u2, e2, -, hx2, hc2⟩ := r2.at_ ht
                      rw [u32s_get (by rw [fieldsW_len]; exact ht), fieldsW_get ht] at hx1 hx2
                      injection hx1 with hx1
                      injection hx2 with hx2
                      subst hx1
                      subst hx2
                      exact ⟨ad1, ad2, e1, e2, hc1, hc2⟩)
                    generalize wordsA p o = WA at *
                    generalize wordsA q u = WB at *
                    have hszx := HZX.out
                    go_wp2_with fail
                    refine (HWA.out _ HS6.out.base).mono ?_
                    rintro e w7 ⟨rfl, hb7⟩
                    have HS7 := Lib.hid (HS6.out.below hb7)
                    clear hb7
                    go_wp2_with fail
                    refine (HWB.out _ HS7.out.base).mono ?_
                    rintro e w8 ⟨rfl, hb8⟩
                    have HS8 := Lib.hid (HS7.out.below hb8)
                    clear hb8 HS7 HS6 HWA HWB HZ5
                    go_wp2_with fail
                    go_loopw [183] (fun j wr2 => ∃ t : Nat, t ≤ X.size ∧ j = .int .i64 t ∧ RDS w wr2 gX mX gY mY g h l m ∧ ∀ r, r < t → fw g o r = fw h u r) (fun j _ => X.size - (intOf j).toNat)
                    case atStart => exact ⟨0, by omega, rfl, HS8.out, fun r hr => by omega⟩
                    case round =>
                      clear HS8
                      obtain ⟨t, ht, rfl, hS3, heq⟩ := hrel
                      have HS3 := Lib.hid hS3
                      have HEQ := Lib.hid heq
                      clear hS3 heq
                      by_cases htl : t < X.size
                      · have htl2 : (t : Int) < (X.size : Int) := by omega
                        obtain ⟨ad1, ad2, rfl, rfl, kA, kB⟩ := HRW.out wr HS3.out.base t htl
                        by_cases hfe : fw g o t = fw h u t
                        · have HEQ2 := Lib.hid (show ∀ r, r < t + 1 → fw g o r = fw h u r from fun r hr => by
                            rcases Nat.lt_or_ge r t with h1 | h1
                            · exact HEQ.out r h1
                            · obtain rfl : r = t := by omega
                              exact hfe)
                          have e1 : ((fw g o t : Int) != (fw h u t : Int)) = false := by simp; omega
                          clear hfe HPT HTC
                          generalize fw g o t = y1 at *
                          generalize fw h u t = y2 at *
                          go_upto_region 29 with fail
                          go_quiet (fail)
                          have HS4 := Lib.hid (HS3.out.below (below_drewN (Below.refl wr.heap.size wr) nq))
                          clear kA kB HS3
                          generalize wr.drewN nq = w9 at *
                          go_wp2_with fail
                          go_roundw
                          case rel => exact ⟨t + 1, by omega, by go_num, HS4.out, HEQ2.out⟩
                          case measure => simp [intOf]; omega
                        · have HOV := Lib.hid (HTC.out 5 t (by rw [HF.out, firstD_first htl hfe HEQ.out]; rfl))
                          have e1 : ((fw g o t : Int) != (fw h u t : Int)) = true := by simp; omega
                          clear hfe HTC
                          generalize fw g o t = y1 at *
                          generalize fw h u t = y2 at *
                          go_upto_region 29 with fail
                          go_quiet (fail)
                          have HS4 := Lib.hid (HS3.out.below (below_drewN (Below.refl wr.heap.size wr) nq))
                          clear kA kB HS3
                          generalize wr.drewN nq = w9 at *
                          as_aux_lemma =>
                            obtain ⟨Ap, cp, x0, hpath⟩ := HPT.out _ HS4.out
                            go_wp2_with fail
                            refine hpath.mono ?_
                            rintro e w7 ⟨A7, c7, rfl, hr7, hne7, hc7, -, -, hS7⟩
                            have HS7 := Lib.hid hS7
                            have HFIN := Lib.hid (diff_stored (ser := ser) (A := A7) (c := c7) hS7.base ⟨5, pathM l i, t⟩ (HDD.out.trans HOV.out) HE.out hr7 hne7 hc7)
                            clear hr7 hne7 hc7 hS7 hpath x0
                            generalize pathM l i = pth at *
                            have BDn := HS7.out.box
                            have d0 := BDn.cell 0
                            have d1 := BDn.cell 1
                            have d2 := BDn.cell 2
                            have z0 := BDn.frozen 0
                            have z1 := BDn.frozen 1
                            have z2 := BDn.frozen 2
                            have HBS := Lib.hid (BDn.setAll3 (.int .i64 5) (.slice A7 pth.length c7) (.int .i64 (t : Nat)))
                            clear BDn
                            go_wp2_with fail
                            have f0 := HBS.out.cell 0
                            have f1 := HBS.out.cell 1
                            have f2 := HBS.out.cell 2
                            refine bodyPost_ret (v := .tuple #[.agg #[.int .i64 5, .slice A7 pth.length c7, .int .i64 (t : Nat)], .int .i64 0]) (by simp [results, Tryd.results11, go_sem, f0, f1, f2]) rfl ?_
                            exact HFIN.out
                      · obtain rfl : t = X.size := by omega
                        have HNO := Lib.hid (show od = none by rw [HF.out, firstD_none.2 HEQ.out]; rfl)
                        clear htl ht HPT HRW HEQ
                        as_aux_lemma =>
                          have HTN := Lib.hid (fun l' m' (hn : namesD g.nmAt h.nmAt l m i (g.nmN o) = .on l' m') => show D0 = loopD g.nmN g.nmAt h.nmAt (g.odM h ser) (fuelD - (i + 1)) (i + 1) l' m' from by
                            rw [HD.out, hfu, loopD_on (l' := l') (m' := m') hlt (by unfold roundD; rw [show oAt l i = o from HOO.out.1, show oAt m i = u from HOO.out.2, HOD.out, HNO.out]; exact hn)])
                          have HTO := Lib.hid (fun d (hn : namesD g.nmAt h.nmAt l m i (g.nmN o) = .off d) => show D0 = d from by
                            rw [HD.out, hfu, loopD_off (d := d) hlt (by unfold roundD; rw [show oAt l i = o from HOO.out.1, show oAt m i = u from HOO.out.2, HOD.out, HNO.out]; exact hn)])
                          have HNM := Lib.hid (show h.nmN u = g.nmN o from odM_nm (ser := ser) o u (HOD.out.trans HNO.out))
                          have HNA := Lib.hid (fun (W' : World) (hb : Below w.heap.size w W') => rnames_any (HX.out.1.below hb) GA.fit GA.laid.heads o ho32 HIA.out)
                          have HNB := Lib.hid (fun (W' : World) (hb : Below w.heap.size w W') => rnames_any (HX.out.2.1.below hb) GB.fit GB.laid.heads u hu32 HIB.out)
                          have hNle := nmN_le GA.fit o (HM.isB_hd GA.laid.heads HIA.out)
                          unfold NamesP at HNA HNB
                          unfold ptr at HNA HNB
                          rw [HNM.out] at HNB
                          have HSD := Lib.hid (fun k l' m' (hn : namesD g.nmAt h.nmAt l m i k = .on l' m') => namesD_side HSI.out hlt hn)
                          clear HTC
                          go_wp2_with fail
                          refine (HNA.out _ HS3.out.base).mono ?_
                          rintro e w8 ⟨v8, rfl, hown8, hb8⟩
                          obtain ⟨AN, cN, rfl, -⟩ := own_slice hown8
                          have HS8 := Lib.hid (HS3.out.below hb8)
                          have HO8 := Lib.hid hown8
                          clear hb8 hown8
                          go_wp2_with fail
                          refine (HNB.out _ HS8.out.base).mono ?_
                          rintro e w9 ⟨v9, rfl, hown9, hb9⟩
                          obtain ⟨AM, cM, rfl, -⟩ := own_slice hown9
                          have HS9 := Lib.hid (HS8.out.below hb9)
                          have HO89 := Lib.hid (own_same HO8.out (fun k hk => hb9.block k (HO8.out.lt k hk).2))
                          have HO9 := Lib.hid hown9
                          clear hb9 HO8 hown9 HS8 HNA HNB
                          go_wp2_with fail
                          go_loopw [212] (fun j wr2 => ∃ k : Nat, k ≤ g.nmN o ∧ j = .int .i64 k ∧ ∃ l' m', namesD g.nmAt h.nmAt l m i k = .on l' m' ∧ RDS w wr2 gX mX gY mY g h l' m' ∧ (∃ b1, wr2.ownsRow b1 50 1 (.slice AN (g.nmN o) cN) (g.nmN o) (u32s (namesL g o (g.nmN o)))) ∧ (∃ b2, wr2.ownsRow b2 50 1 (.slice AM (g.nmN o) cM) (g.nmN o) (u32s (namesL h u (g.nmN o))))) (fun j _ => g.nmN o - (intOf j).toNat)
                          case atStart => exact ⟨0, by omega, rfl, l, m, rfl, HS9.out, ⟨_, HO89.out⟩, ⟨_, HO9.out⟩⟩
                          case round =>
                            clear HS9 HO89 HO9
                            obtain ⟨k2, hk2, rfl, l2, m2, hnd, hS2, ⟨b1, ho1⟩, ⟨b2, ho2⟩⟩ := hrel
                            have HND := Lib.hid hnd
                            have HSX := Lib.hid hS2
                            have HOA := Lib.hid ho1
                            have HOB := Lib.hid ho2
                            obtain ⟨hsd2, hpre2, hpre3⟩ := HSD.out k2 l2 m2 hnd
                            have hi2 : i < l2.length := Nat.lt_of_lt_of_le hlt hpre2.length_le
                            have hpm : pathM l2 i = pathM l i := pathM_pre hpre2 HSI.out.up hlt
                            clear hnd hS2 hsd2 hpre3 HSD
                            by_cases hkl : k2 < g.nmN o
                            · have hkl2 : (k2 : Int) < (g.nmN o : Int) := by omega
                              have hil2 : (i : Int) < (l2.length : Int) := by omega
                              have hnk : ((k2 : Int) < 1000000000000) := by omega
                              have HPR := Lib.hid (fun (W' : World) (S : RDS w W' gX mX gY mY g h l2 m2) => S.pair GA.fit GB.fit (g.nmAt o k2) (h.nmAt u k2) (HM.nmAt_lt GA.fit o k2) (HM.nmAt_lt GB.fit u k2) (fun e => names_isB GA HIA.out hkl e) (fun e => names_isB GB HIB.out (by rw [HNM.out]; exact hkl) e) (i : Int) ((k2 : Int) - 1) hil2)
                              have HON := Lib.hid (fun hp => namesD_on HND.out (by rw [show oAt l i = o from HOO.out.1, show oAt m i = u from HOO.out.2]; exact hp))
                              rw [show oAt l i = o from HOO.out.1, show oAt m i = u from HOO.out.2] at HON
                              have HOF := Lib.hid (fun hp => HTO.out _ (namesD_off (namesD_end HND.out (by rw [show oAt l i = o from HOO.out.1, show oAt m i = u from HOO.out.2]; exact hp)) (g.nmN o) hkl))
                              rw [show oAt l i = o from HOO.out.1, show oAt m i = u from HOO.out.2] at HOF
                              have HPL := Lib.hid (fun (W' : World) (S : RDS w W' gX mX gY mY g h l2 m2) => S.path GA.fit hi2)
                              rw [hpm] at HPL
                              have hpl := pathM_len l i
                              obtain ⟨A4, c4, e4, hrd1⟩ := own_slice ho1
                              injection e4 with e4 _ e5
                              subst e4
                              subst e5
                              obtain ⟨A5, c5, e5, hrd2⟩ := own_slice ho2
                              injection e5 with e5 _ e6
                              subst e5
                              subst e6
                              obtain ⟨adN, uN, rfl, hbN, hxN, kA⟩ := hrd1.at_ hkl
                              obtain ⟨adM, uM, rfl, hbM, hxM, kB⟩ := hrd2.at_ hkl
                              rw [u32s_get (by rw [namesL_len]; exact hkl), namesL_get hkl] at hxN hxM
                              injection hxN with hxN
                              injection hxM with hxM
                              subst hxN
                              subst hxM
                              clear hrd1 hrd2 ho1 ho2 hpre2 hbN hbM HTN HTO hpm
                              generalize g.nmAt o k2 = v at *
                              generalize h.nmAt u k2 = y at *
                              go_upto_region 36 with fail
                              replace kA := cell_regrown kA
                              replace kB := cell_regrown kB
                              refine wp_region_below_tail 13 (by kernel_rfl) (by kernel_rfl) ?_
                              simp only [List.take_succ_cons, List.take_zero, List.drop_succ_cons, List.drop_zero]
                              repeat (quiet_step (fail))
                              refine wpQuiet_nil ?_
                              intro wq hwq
                              obtain ⟨⟨dq, osq⟩, hw''⟩ := hwq
                              subst hw''
                              have hbq := below_regrown wr dq osq
                              have HSQ := Lib.hid (HSX.out.below hbq)
                              have HOA2 := Lib.hid (own_same HOA.out (fun k hk => hbq.block k (HOA.out.lt k hk).2))
                              have HOB2 := Lib.hid (own_same HOB.out (fun k hk => hbq.block k (HOB.out.lt k hk).2))
                              clear kA kB HSX HOA HOB hbq
                              generalize Go.Sort.grow (redrawn wr dq) osq = wq2 at *
                              go_wp2_with fail
                              refine (HPR.out _ HSQ.out).mono ?_
                              rintro e w10 ⟨rfl, hkeep, ⟨hp, hS4⟩ | ⟨hp, hS4⟩⟩
                              ·
                                as_aux_lemma =>
                                  have HOV := Lib.hid (HOF.out hp)
                                  have e1 : ((pairK l2 m2 v y : Int) != 0) = true := by simp; omega
                                  have HS10 := Lib.hid hS4
                                  clear hp hS4 hkeep HPR HON HOF HSQ HOA2 HOB2
                                  generalize pairK l2 m2 v y = pk at *
                                  obtain ⟨Ap, cp, x0, hpath⟩ := HPL.out _ HS10.out
                                  obtain ⟨i0, hi0, hz0, hz1, hz2⟩ := info_parts info_int
                                  go_wp2_with fail
                                  refine hpath.mono ?_
                                  rintro e w11 ⟨A7, c7, rfl, -, -, -, hown7, hs11, hS7⟩
                                  have HS7 := Lib.hid hS7
                                  have HOW7 := Lib.hid hown7
                                  have HBL7 := Lib.hid hS7.box.lt
                                  have hr10 := Lib.hid HS10.out.box.lt
                                  clear hpath x0 hown7 hS7
                                  generalize pathM l i = pth at *
                                  go_wp2_with (at_builtin; refine wpList_append_any _ rfl (.tmp 237) (.tmp 240) _ rfl w10.heap.size 3 i0 _ 1 8 Tryd.underlying33 hi0 hz0 hz1 hz2 rfl (by omega) (.slice A7 pth.length c7) pth.length (intZ pth) rfl (HOW7.out.alloc _) (w11.heap.size + 1) (some ⟨w11.heap.size, 0, none⟩) 1 1 [.int .i64 ((k2 : Int) - 1)] rfl ⟨rfl, fun _ => ⟨_, rfl, by simp, cell_one_new _ _ _⟩⟩ (by simp [Value.oneCell']) (by simp only [maxLen]; omega) (by omega) (by simp; omega) ?_; intro v12 w12 hown12 hgrow12 hat12; rw [show pth.length + 1 = (pth ++ [(k2 : Int) - 1]).length by simp, show intZ pth ++ [.int .i64 ((k2 : Int) - 1)] = intZ (pth ++ [(k2 : Int) - 1]) by simp [intZ]] at hown12; generalize hp2 : pth ++ [(k2 : Int) - 1] = p2 at hown12; have HP2 := Lib.hid hp2; clear hp2; obtain ⟨A12, c12, rfl, hr12⟩ := own_slice hown12; have HR12 := Lib.hid hr12; have HOW12 := Lib.hid hown12; have HG12 := Lib.hid hgrow12; have BDn := own_box HS7.out HOW7.out hgrow12; have d0 := BDn.cell 0; have d1 := BDn.cell 1; have d2 := BDn.cell 2; have z0 := BDn.frozen 0; have z1 := BDn.frozen 1; have z2 := BDn.frozen 2; have HBS := Lib.hid (BDn.setAll3 (.int .i64 pk) (.slice A12 p2.length c12) (.int .i64 0)); clear BDn hown12 hgrow12 hat12 hr12)
                                  have f0 := HBS.out.cell 0
                                  have f1 := HBS.out.cell 1
                                  have f2 := HBS.out.cell 2
                                  refine bodyPost_ret (v := .tuple #[.agg #[.int .i64 pk, .slice A12 p2.length c12, .int .i64 0], .int .i64 0]) (by simp [results, Tryd.results11, go_sem, f0, f1, f2]) rfl ?_
                                  exact diff_stored (below_grown (Nat.le_refl _) (HS7.out.base.alloc HS7.out.base.size _) HG12.out (fun q hq => by have h1 := (HOW7.out.lt q hq).1; have h2 := HS10.out.base.size; clear hi2 hlt hltm; omega)) ⟨pk, p2, 0⟩ (by rw [← HP2.out]; exact HDD.out.trans HOV.out) HE.out HR12.out
                                    (fun ad e => by have h1 := (HOW12.out.lt ad.block (by rw [e]; rfl)).1; have h2 := HS10.out.box.lt; clear hi2 hlt hltm; omega) (own_cap HOW12.out)
                              · have HND2 := Lib.hid (HON.out hp)
                                have HS10 := Lib.hid hS4
                                have HOA3 := Lib.hid (hkeep.own HOA2.out (by decide) (by decide))
                                have HOB3 := Lib.hid (hkeep.own HOB2.out (by decide) (by decide))
                                rw [hp]
                                clear hp hS4 hkeep HPR HON HOF HSQ HOA2 HOB2 HPL
                                go_wp2_with fail
                                go_roundw
                                case rel => exact ⟨k2 + 1, hkl, by go_num, _, _, HND2.out, HS10.out, ⟨_, HOA3.out⟩, ⟨_, HOB3.out⟩⟩
                                case measure => simp [intOf]; omega
                            · obtain rfl : k2 = g.nmN o := by omega
                              have HD2 := Lib.hid (HTN.out l2 m2 HND.out)
                              clear HOA HOB HND HTN HTO hpm hkl hk2
                              go_wp2_with fail
                              go_roundw
                              case rel => exact ⟨i + 1, l2, m2, by go_num, hi2, HSX.out, HD2.out⟩
                              case measure => simp [intOf]; omega
            · have HEND := Lib.hid (show D0 = ⟨0, [], 0⟩ by rw [HD.out]; exact loopD_end hlt)
              have hlt2 : ¬ (i : Int) < (l.length : Int) := by omega
              have HFIN := Lib.hid (diff_stored (ser := ser) (A := none) (c := 0) HS.out.base ⟨0, [], 0⟩ (HDD.out.trans HEND.out) HE.out ⟨rfl, fun h => (Nat.lt_irrefl _ h).elim⟩ (fun ad e => by cases e) (Nat.le_refl _))
              clear hP hml hmm2 hD hlt hil hll hfu
              as_aux_lemma =>
                have BDn := HS.out.box
                have d0 := BDn.cell 0
                have d1 := BDn.cell 1
                have d2 := BDn.cell 2
                have z0 := BDn.frozen 0
                have z1 := BDn.frozen 1
                have z2 := BDn.frozen 2
                have HBS := Lib.hid (BDn.setAll3 (.int .i64 0) (.slice none 0 0) (.int .i64 0))
                clear BDn
                go_wp2_with fail
                have f0 := HBS.out.cell 0
                have f1 := HBS.out.cell 1
                have f2 := HBS.out.cell 2
                refine bodyPost_ret (v := .tuple #[.agg #[.int .i64 0, .slice none 0 0, .int .i64 0], .int .i64 0]) (by simp [results, Tryd.results11, go_sem, f0, f1, f2]) rfl ?_
                exact HFIN.out
    · have HE := Lib.hid (show diffE g h a b = 2 by rw [HEE.out, if_neg h3, if_neg (by rw [HX.out.2.2.2.2.2.2.1, HX.out.2.2.2.2.2.2.2]; exact hgo)])
      have e13 : ((s1 : Int) == 3) = false := by simp; omega
      have e23 : ((s2 : Int) == 3) = false := by simp; omega
      by_cases hnn : n1 = n2
      · subst hnn
        have en : ((n1 : Int) != (n1 : Int)) = false := by simp
        by_cases h1 : s1 = 0
        · subst h1
          have e2 : ((s2 : Int) != 0) = true := by simp; omega
          clear hgo hla hlb hwa hwb h3
          as_aux_lemma =>
            have BDn := BD.out.below HBD2.out BD.out.lt
            have d0 := BDn.cell 0
            have d1 := BDn.cell 1
            have d2 := BDn.cell 2
            have z0 := BDn.frozen 0
            have z1 := BDn.frozen 1
            have z2 := BDn.frozen 2
            have HBS := Lib.hid (BDn.setAll3 (.int .i64 0) (.slice none 0 0) (.int .i64 0))
            have hlS : w.heap.size ≤ w.heap.size := Nat.le_refl _
            clear BDn
            go_wp2_with fail
            have f0 := HBS.out.cell 0
            have f1 := HBS.out.cell 1
            have f2 := HBS.out.cell 2
            refine bodyPost_ret (v := .tuple #[.agg #[.int .i64 0, .slice none 0 0, .int .i64 0], .int .i64 2]) (by simp [results, Tryd.results11, go_sem, f0, f1, f2]) rfl ?_
            have hfin := HDN.out _ (((HB2.out.setCell (p := ⟨w.heap.size, 0, none⟩) (Nat.le_refl _) (.int .i64 0)).setCell (p := ⟨w.heap.size, 1, none⟩) (Nat.le_refl _) (.slice none 0 0)).setCell (p := ⟨w.heap.size, 2, none⟩) (Nat.le_refl _) (.int .i64 0)) (by rw [HE.out]; decide)
            rw [HE.out] at hfin
            exact hfin
        · have e2 : ((s1 : Int) != 0) = true := by simp; omega
          clear hgo hla hlb hwa hwb h3 h1
          as_aux_lemma =>
            have BDn := BD.out.below HBD2.out BD.out.lt
            have d0 := BDn.cell 0
            have d1 := BDn.cell 1
            have d2 := BDn.cell 2
            have z0 := BDn.frozen 0
            have z1 := BDn.frozen 1
            have z2 := BDn.frozen 2
            have HBS := Lib.hid (BDn.setAll3 (.int .i64 0) (.slice none 0 0) (.int .i64 0))
            have hlS : w.heap.size ≤ w.heap.size := Nat.le_refl _
            clear BDn
            go_wp2_with fail
            have f0 := HBS.out.cell 0
            have f1 := HBS.out.cell 1
            have f2 := HBS.out.cell 2
            refine bodyPost_ret (v := .tuple #[.agg #[.int .i64 0, .slice none 0 0, .int .i64 0], .int .i64 2]) (by simp [results, Tryd.results11, go_sem, f0, f1, f2]) rfl ?_
            have hfin := HDN.out _ (((HB2.out.setCell (p := ⟨w.heap.size, 0, none⟩) (Nat.le_refl _) (.int .i64 0)).setCell (p := ⟨w.heap.size, 1, none⟩) (Nat.le_refl _) (.slice none 0 0)).setCell (p := ⟨w.heap.size, 2, none⟩) (Nat.le_refl _) (.int .i64 0)) (by rw [HE.out]; decide)
            rw [HE.out] at hfin
            exact hfin
      · have en : ((n1 : Int) != (n2 : Int)) = true := by simp; omega
        clear hgo hla hlb hwa hwb h3 hnn
        as_aux_lemma =>
          have BDn := BD.out.below HBD2.out BD.out.lt
          have d0 := BDn.cell 0
          have d1 := BDn.cell 1
          have d2 := BDn.cell 2
          have z0 := BDn.frozen 0
          have z1 := BDn.frozen 1
          have z2 := BDn.frozen 2
          have HBS := Lib.hid (BDn.setAll3 (.int .i64 0) (.slice none 0 0) (.int .i64 0))
          have hlS : w.heap.size ≤ w.heap.size := Nat.le_refl _
          clear BDn
          go_wp2_with fail
          have f0 := HBS.out.cell 0
          have f1 := HBS.out.cell 1
          have f2 := HBS.out.cell 2
          refine bodyPost_ret (v := .tuple #[.agg #[.int .i64 0, .slice none 0 0, .int .i64 0], .int .i64 2]) (by simp [results, Tryd.results11, go_sem, f0, f1, f2]) rfl ?_
          have hfin := HDN.out _ (((HB2.out.setCell (p := ⟨w.heap.size, 0, none⟩) (Nat.le_refl _) (.int .i64 0)).setCell (p := ⟨w.heap.size, 1, none⟩) (Nat.le_refl _) (.slice none 0 0)).setCell (p := ⟨w.heap.size, 2, none⟩) (Nat.le_refl _) (.int .i64 0)) (by rw [HE.out]; decide)
          rw [HE.out] at hfin
          exact hfin
end Go.Proofs.YtpajpdjjpgbklaaDoor
