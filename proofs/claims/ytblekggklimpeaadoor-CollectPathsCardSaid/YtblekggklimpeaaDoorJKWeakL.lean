/- CollectWeak, walked: it answers true. -/
/- The law's holds: what an object holds is found. -/
/- CollectPaths, walked: it answers true. -/
import Derived.Test.YtblekggklimpeaaDoorJKLivesL
import Derived.Test.YtblekggklimpeaaDoorJKPathM
import Derived.Test.YtblekggklimpeaaDoorJKPathP
import Derived.Test.YtblekggklimpeaaDoorJAll
set_option linter.unusedVariables false
set_option linter.unusedSimpArgs false
set_option linter.unusedSectionVars false
namespace Go.Proofs.YtblekggklimpeaaDoor
open Go.RowKit Go.Sort
attribute [local go_sem] Oper.semAt_some
theorem Live.rebase {W w1 w : World} {p : HP} {g : Nat} {h : HM} (L : Live w1 w p g h) (hb : Below W.heap.size W w1) (E : Env W) : Live W w p g h :=
  ⟨L.at_, L.hg, L.good, E, fun j hj => Nat.le_trans hb.size (L.new j hj), hb.trans (L.below.mono hb.size)⟩
theorem fld_to {pl : List (Nat × Nat)} {void x : Nat} : fldM pl void x = if kindM x = 2 then toK pl void x else x := by
  unfold fldM toK whereM
  by_cases hk : kindM x = 2
  · by_cases hm : x ∈ pl.map (·.1)
    · rw [if_neg (fun e => e.2 hm), if_pos hk, if_pos hk, if_pos hm]
    · rw [if_pos ⟨hk, hm⟩, if_pos hk, if_neg hm]
  · rw [if_neg (fun e => hk e.1), if_neg hk, if_neg hk]
theorem isB_obj {h : HM} {l : List Ob} (G : h.Good l) {j : Nat} (hj : j < l.length) : h.isB (2 * posOf (l.take j)) = true := (G.laid.isB_iff _).2 ⟨l.take j, l[j], l.drop (j + 1), split_at l j hj, rfl⟩
theorem get_obj {W w : World} {p : HP} {g : Nat} {h : HM} {l : List Ob} (L : Live W w p g h) (G : h.Good l) {j : Nat} (hj : j < l.length) (hp : (l[j]).x.ptrB = true) {i : Nat} (hi : i < (l[j]).fs.length) :
    Calls Tryd.prog 26 #[.pointer (some ⟨g, 0, none⟩), .int .u32 (2 * posOf (l.take j) : Nat), .int .i64 i] w (Told (.tuple #[.int .u32 ((l[j]).fs.getD i 0 : Nat), .int .i64 0]) w) := by
  have L' := G.laid
  rw [split_at l j hj] at L'
  have hf : h.fields (2 * posOf (l.take j)) = (l[j]).fs := L'.fields_at
  have hh : h.hd (2 * posOf (l.take j) / 2) = (l[j]).x := by rw [half_pos]; exact L'.hd_at
  have := kget_any L.at_ G L.envw.spares (isB_obj G hj) (by rw [hh]; exact hp) i (by rw [hf]; exact hi)
  rw [hf, L.hg] at this
  exact this
theorem head_obj {W w : World} {p : HP} {g : Nat} {h : HM} {l : List Ob} (L : Live W w p g h) (G : h.Good l) {j : Nat} (hj : j < l.length) :
    Calls Tryd.prog 25 #[.pointer (some ⟨g, 0, none⟩), .int .u32 (2 * posOf (l.take j) : Nat)] w (Told (.tuple #[(l[j]).x.val, .int .i64 0]) w) := by
  have hi := isB_obj G hj
  have L' := G.laid
  rw [split_at l j hj] at L'
  have hh : h.hd (2 * posOf (l.take j) / 2) = (l[j]).x := by rw [half_pos]; exact L'.hd_at
  have := L.header (2 * posOf (l.take j)) (isB_u32 G hi)
  have e1 : h.hdO (2 * posOf (l.take j)) = (l[j]).x := by unfold HM.hdO; rw [if_pos hi]; exact hh
  have e2 : h.isE (2 * posOf (l.take j)) = 0 := by unfold HM.isE; simp [hi]
  rw [e1, e2] at this
  exact this
set_option maxRecDepth 100000 in
set_option maxHeartbeats 8000000 in
theorem weakL_any (W : World) (E : Env W) (k : Cs) (hk : k.At W W.heap.size) : Calls Tryd.prog 5 #[k.agg] W (Told (.bool true) W) := by
  have hb1 := (Below.refl W.heap.size W).alloc (Nat.le_refl _) (.cells k.cells 26)
  have B1 := Blk.new W 26 k.cells
  have HB1 := Lib.hid hb1
  have HBX := Lib.hid B1
  have HE := Lib.hid (E.below hb1)
  have HK := Lib.hid (hk.below hb1)
  have HBU := Lib.hid (fun (w : World) (E : Env w) (hk : k.At w w.heap.size) => built_any w E k hk)
  have HAW := Lib.hid (fun (w : World) (E : Env w) => awake_any w E)
  have hsz := World.size_alloc W (.cells k.cells 26)
  clear hb1 B1 E hk
  unfold Cs.cells at HB1 HBX HE HK HBU hsz
  unfold Cs.agg at HBU ⊢
  go_enter Tryd.func5, Tryd.ntmps5
  obtain ⟨x0, x1, x2, x3⟩ := cells4K HBX.out
  go_wp2_with fail
  clear x0 x1 x2 x3
  generalize W.alloc (.cells #[.int .i64 k.size, .slice k.A k.n k.c, .slice k.A' k.n' k.c', .int .u32 (k.last : Nat)] 26) = W1 at *
  refine (HBU.out W1 HE.out HK.out).mono ?_
  rintro e w1 (⟨hno, ⟨v, rfl⟩, hb⟩ | ⟨hok, p, g, rfl, L, hws, hrs⟩)
  · have HB2 := Lib.hid (below_top HB1.out hb)
    have HE2 := Lib.hid (HE.out.below hb)
    have HK2 := Lib.hid (HK.out.below hb)
    have HX2 := Lib.hid (HBX.out.below hb HBX.out.lt)
    obtain ⟨x0, x1, x2, x3⟩ := cells4K HX2.out
    clear hb hno
    go_wp2_with fail
    refine (HBU.out w1 HE2.out HK2.out).mono ?_
    rintro e w2 hbu
    obtain ⟨v2, bv, rfl, hb2⟩ : ∃ v2 bv, e = .returned (.tuple #[v2, .bool bv]) ∧ Below w1.heap.size w1 w2 := by
      rcases hbu with ⟨_, ⟨v, rfl⟩, hb⟩ | ⟨_, p, g, rfl, L, _⟩
      · exact ⟨_, _, rfl, hb⟩
      · exact ⟨_, _, rfl, L.below⟩
    have HB3 := Lib.hid (below_top HB2.out hb2)
    have HE3 := Lib.hid (HE2.out.below hb2)
    clear hbu hb2 x0 x1 x2 x3 HBU
    go_wp2_with fail
    refine (HAW.out _ HE3.out).mono ?_
    rintro e w3 ⟨rfl, hb3⟩
    have HB4 := Lib.hid (below_top HB3.out hb3)
    clear hb3
    go_wp2_with fail
    go_ret
    exact ⟨rfl, HB4.out⟩
  · have HL := Lib.hid L
    obtain ⟨l, G⟩ := L.good
    have HG := Lib.hid G
    have HB2 := Lib.hid (below_top HB1.out L.below)
    have HX2 := Lib.hid (HBX.out.below L.below HBX.out.lt)
    have HK2 := Lib.hid (HK.out.below L.below)
    have HOK := Lib.hid hok
    have HBB := Lib.hid (HBU.out w1 L.envw (HK.out.below L.below))
    obtain ⟨x0, x1, x2, x3⟩ := cells4K HX2.out
    clear L G hws hrs hok HBU HBX HK
    go_wp2_with fail
    refine HBB.out.mono ?_
    rintro e w2 (⟨hno, _⟩ | ⟨_, q, gq, rfl, Lq, _, _⟩)
    · exact absurd HOK.out hno
    have HQ2 := Lib.hid (Lq.rebase HL.out.below HE.out)
    have HD := Lib.hid (show ∀ j, p.has j → j < w1.heap.size from fun j hj => HL.out.at_.lt hj)
    have HDq := Lib.hid (show ∀ j, q.has j → w1.heap.size ≤ j from fun j hj => Lq.new j hj)
    have HL2 := Lib.hid (HL.out.after Lq.below)
    have HB3 := Lib.hid (below_top HB2.out Lq.below)
    have HEV := Lib.hid HL2.out.envw
    clear Lq HBB x0 x1 x2 x3 HX2 HK2 HL HOK
    go_wp2_with fail
    refine (HAW.out _ HEV.out).mono ?_
    rintro e w3 ⟨rfl, hb3⟩
    have HL3 := Lib.hid (HL2.out.after hb3)
    have HQ3 := Lib.hid (HQ2.out.after hb3)
    have HPL := Lib.hid (plan_any HQ3.out.at_ HG.out HQ3.out.envw.spares)
    rw [HQ3.out.hg] at HPL
    unfold ptr at HPL
    clear hb3 HL2 HQ2 HEV HAW
    go_wp2_with fail
    refine HPL.out.mono ?_
    rintro e w4 ⟨v4, rfl, hown4, hb4⟩
    obtain ⟨Ap, gp, cp, rfl, hgp, hop⟩ := own_two hown4
    have HOP := Lib.hid hop
    have HGP := Lib.hid hgp
    have hb5 := hb4.alloc hb4.size (.cells #[.slice Ap (planM k.h l).length cp] 34)
    have HP5 := Lib.hid (Blk.new w4 34 #[.slice Ap (planM k.h l).length cp])
    have HL5 := Lib.hid (HL3.out.after hb5)
    have HQ5 := Lib.hid (HQ3.out.after hb5)
    have HO5 := Lib.hid (fun h0 => And.intro (HOP.out h0).1 ((HOP.out h0).2.same (w' := w4.alloc (.cells #[.slice Ap (planM k.h l).length cp] 34)) (by simp) (Below.heap_alloc _ _ _ (HOP.out h0).2.1)))
    have hbz4 := hb4.size
    have HZ3 := Lib.hid (show w1.heap.size ≤ w3.heap.size from by have h1 := HQ3.out.at_.lt (show q.has q.g from .inl rfl); have h2 := HDq.out q.g (.inl rfl); omega)
    clear hown4 hb4 hop hgp HPL HL3 HQ3 HOP hb5
    go_upto_region 6 with fail
    generalize w4.alloc (.cells #[.slice Ap (planM k.h l).length cp] 34) = w5 at *
    generalize w4.heap.size = b7 at *
    have HCO := Lib.hid (HL5.out.collect HG.out)
    go_wp2_with fail
    refine HCO.out.mono ?_
    rintro e w6 ⟨p', rfl, hL6, hst⟩
    have HL6 := Lib.hid hL6
    have HQ6 := Lib.hid (HQ5.out.beside hst (fun j hj hp => by have h1 := HD.out j hp; have h2 := HDq.out j hj; omega) (fun j hp => HL5.out.new j hp))
    have HP6 := Lib.hid (HP5.out.same (hst.block _ HP5.out.lt (fun e => by have h1 := HD.out _ e; have h2 := HZ3.out; omega)))
    have HO6 := Lib.hid (fun h0 => And.intro (HO5.out h0).1 ((HO5.out h0).2.same hst.size (hst.block _ (HO5.out h0).2.1 (fun e => by have h1 := HD.out _ e; have h2 := HZ3.out; have h3 := HGP.out; omega))))
    have HRT := Lib.hid (hL6.root 0)
    have hvd : (colH k.h l).rootN 0 = voidM k.h l ∧ rootE 0 = 0 := by
      have h64 := HG.out.fit.roots
      constructor
      · have e : (colH k.h l).roots.getD 0 0 = voidM k.h l := by
          show (colR k.h l).getD 0 0 = _
          unfold colR voidM
          rw [List.getD_eq_getElem?_getD, List.getElem?_map, List.getElem?_eq_getElem (by omega), List.getD_eq_getElem?_getD, List.getElem?_eq_getElem (by omega)]
          rfl
        unfold HM.rootN
        rw [if_pos (by decide)]
        exact e
      · rfl
    rw [hvd.1, hvd.2] at HRT
    clear hL6 hst hvd HCO HL5 HQ5 HP5 HO5
    go_wp2_with fail
    refine HRT.out.mono ?_
    rintro e w7 ⟨rfl, rfl⟩
    go_upto_region 9 with fail
    have hb8 : Below w6.heap.size w6 (w6.alloc (.cells #[.int .u32 (voidM k.h l : Int)] 41)) := (Below.refl _ _).alloc (Nat.le_refl _) _
    have HV8 := Lib.hid (Blk.new w6 41 #[.int .u32 (voidM k.h l : Int)])
    have HL8 := Lib.hid (HL6.out.after hb8)
    have HQ8 := Lib.hid (HQ6.out.after hb8)
    have HP8 := Lib.hid (HP6.out.below hb8 HP6.out.lt)
    have HO8 := Lib.hid (fun h0 => And.intro (HO6.out h0).1 ((HO6.out h0).2.same hb8.size (hb8.block _ (HO6.out h0).2.1)))
    clear hb8 HL6 HQ6 HP6 HO6 HRT
    generalize w6.alloc (.cells #[.int .u32 (voidM k.h l : Int)] 41) = w8 at *
    generalize w6.heap.size = b8 at *
    have HPK := Lib.hid (show (planM k.h l).length = (keepZ k.h l).length from planF_len 1 (keepZ k.h l))
    have hpn : (planM k.h l).length ≤ 1048576 := by
      have h1' := congrArg List.length (planM_fst k.h l)
      rw [List.length_map] at h1'
      have h2 : (liveO k.h l).length ≤ (oopsL l).length := List.length_filter_le _ _
      have h3 := oopsL_le HG.out
      omega
    have HWK := Lib.hid (fun (w' : World) (hb : Below w8.heap.size w8 w') (x : Nat) (hx : x < 4294967296) => weak1_any (pl := planM k.h l) (HP8.out.below hb HP8.out.lt) (HV8.out.below hb HV8.out.lt) (fun h0 => ⟨(HO8.out h0).1, (HO8.out h0).2.same hb.size (hb.block _ (HO8.out h0).2.1)⟩) (by omega) x hx)
    have p0 := HP8.out.cell 0
    go_wp2_with fail
    clear p0
    go_loopw [53] (fun iv wr => ∃ j : Nat, iv = .int .i64 j ∧ j ≤ (planM k.h l).length ∧ Below w8.heap.size w8 wr) (fun iv _ => (planM k.h l).length - (intOf iv).toNat)
    case atStart => exact ⟨0, rfl, Nat.zero_le _, Below.refl _ _⟩
    case round =>
      obtain ⟨j, rfl, hj, hb⟩ := hrel
      have HB := Lib.hid hb
      clear hb
      by_cases hlt : j < (planM k.h l).length
      · have hkz : j < (keepZ k.h l).length := by rw [← HPK.out]; exact hlt
        obtain ⟨jj, hjj, hp1, hp2, hp3⟩ := keepZ_mem (List.getElem_mem hkz)
        obtain ⟨rfl, hpa⟩ := HO8.out (by omega)
        obtain ⟨d0, d1⟩ := (hpa.same HB.out.size (HB.out.block _ hpa.1)).2 j _ (plan_get k.h l hkz)
        dsimp only at d0 d1
        rw [hp1] at d0
        have hcl : j < (colL k.h l).length := by rw [colL_len]; exact hkz
        have hcb := colL_get hkz
        rw [hp2] at hcb
        have HHD := Lib.hid (fun (w' : World) (hb : Below w8.heap.size w8 w') => head_obj (HQ8.out.after hb) HG.out hjj)
        have HGO := Lib.hid (fun (w' : World) (hb : Below w8.heap.size w8 w') (hp : (l[jj]).x.ptrB = true) (i : Nat) (hi : i < (l[jj]).fs.length) => get_obj (HQ8.out.after hb) HG.out hjj hp hi)
        have HGN := Lib.hid (fun (w' : World) (hb : Below w8.heap.size w8 w') (hp : (l[jj]).x.ptrB = true) (i : Nat) (hi : i < (l[jj]).fs.length) => show Calls Tryd.prog 26 #[.pointer (some ⟨g, 0, none⟩), .int .u32 (2 * posOf ((colL k.h l).take j) : Nat), .int .i64 i] w' (Told (.tuple #[.int .u32 (fldM (planM k.h l) (voidM k.h l) ((l[jj]).fs.getD i 0) : Nat), .int .i64 0]) w') from by
          have hx : ((colL k.h l)[j]).x.ptrB = true := by rw [hcb]; unfold relob Hd.ptrB; unfold Hd.ptrB at hp; exact hp
          have hl : ((colL k.h l)[j]).fs.length = (l[jj]).fs.length := by rw [hcb, relob_len]
          have := get_obj (HL8.out.after hb) (col_good HG.out) hcl hx (i := i) (by rw [hl]; exact hi)
          have hv : ((colL k.h l)[j]).fs.getD i 0 = fldM (planM k.h l) (voidM k.h l) ((l[jj]).fs.getD i 0) := by
            rw [hcb]
            unfold relob
            simp only [hp, if_true]
            rw [List.getD_eq_getElem?_getD, List.getElem?_map, List.getElem?_eq_getElem hi, List.getD_eq_getElem?_getD, List.getElem?_eq_getElem hi]
            rfl
          rw [hv] at this
          exact this)
        have K := HG.out.laid.ok _ (List.getElem_mem hjj)
        have H32 := Lib.hid K.f32
        have hsz2 := K.size
        have hln : (l[jj]).fs.length ≤ 65535 := by
          have h1 := K.may
          unfold Hd.may at h1
          simp at h1
          omega
        have HLT := Lib.hid hlt
        clear hpa hp1 hp2 hp3 hkz hcl hcb K hj
        generalize 2 * posOf (l.take jj) = o at *
        generalize 2 * posOf ((colL k.h l).take j) = o2 at *
        generalize l[jj] = b at *
        obtain ⟨⟨n, t, sp, cc, r⟩, fs⟩ := b
        simp only at hsz2 hln
        subst hsz2
        unfold Hd.val at HHD
        go_upto_region 12 with fail
        have hba := HB.out.alloc HB.out.size (.cells #[.int .u32 (o : Int), .int .u32 (o2 : Int)] 43)
        have HBa := Lib.hid hba
        have HM := Lib.hid (Blk.new wr 43 #[.int .u32 (o : Int), .int .u32 (o2 : Int)])
        clear hba d0 d1 HB
        generalize wr.alloc (.cells #[.int .u32 (o : Int), .int .u32 (o2 : Int)] 43) = w11 at *
        generalize wr.heap.size = b12 at *
        have m0 := HM.out.cell 0
        have HHD11 := Lib.hid (HHD.out w11 HBa.out)
        clear HHD
        go_wp2_with fail
        refine HHD11.out.mono ?_
        rintro e w12 ⟨rfl, hb12⟩
        go_upto_region 13 with fail
        have hbh := hb12.alloc hb12.size (.cells #[.int .i64 (fs.length : Int), .int .i64 (t : Int), .int .i64 (sp : Int), .int .u32 (cc : Int), .int .u32 (r : Int)] 56)
        have HB13 := Lib.hid (below_top HBa.out hbh)
        have HM13 := Lib.hid (HM.out.below hbh HM.out.lt)
        have HX13 := Lib.hid (Blk.new w12 56 #[.int .i64 (fs.length : Int), .int .i64 (t : Int), .int .i64 (sp : Int), .int .u32 (cc : Int), .int .u32 (r : Int)])
        clear hbh hb12 m0 HM HBa HHD11
        generalize w12.alloc (.cells #[.int .i64 (fs.length : Int), .int .i64 (t : Int), .int .i64 (sp : Int), .int .u32 (cc : Int), .int .u32 (r : Int)] 56) = w13 at *
        generalize w12.heap.size = b13 at *
        have h0 := HX13.out.cell 0
        have h1 := HX13.out.cell 1
        by_cases ht : t = 4
        · have HPT := Lib.hid (show Hd.ptrB ⟨fs.length, t, sp, cc, r⟩ = true from by unfold Hd.ptrB; simp [ht])
          have hne4 : ((t : Int) != 4) = false := by simp; omega
          clear ht
          go_wp2_with fail
          go_loopw [15] (fun iv wr => ∃ i : Nat, iv = .int .i64 i ∧ i ≤ fs.length ∧ Below w13.heap.size w13 wr) (fun iv _ => fs.length - (intOf iv).toNat)
          case atStart => exact ⟨0, rfl, Nat.zero_le _, Below.refl _ _⟩
          case round =>
            clear h0 h1
            obtain ⟨i, rfl, hi, hbi⟩ := hrel
            have HBi := Lib.hid hbi
            have HBw := Lib.hid (below_top HB13.out hbi)
            clear hbi
            have h0 := (HX13.out.below HBi.out HX13.out.lt).cell 0
            by_cases hli : i < fs.length
            · have HGa := Lib.hid (HGO.out wr HBw.out HPT.out i hli)
              have HGb := Lib.hid (fun w' hb => HGN.out w' hb HPT.out i hli)
              have hx32 : fs.getD i 0 < 4294967296 := getD_u32 H32.out i
              have HKD := Lib.hid (fun w' => rkind_any _ hx32 w')
              have HWx := Lib.hid (fun w' hb => HWK.out w' hb _ hx32)
              have HFT := Lib.hid (fld_to (pl := planM k.h l) (void := voidM k.h l) (x := fs.getD i 0))
              have HLTi := Lib.hid hli
              try dsimp only at HGa HGb
              generalize fs.getD i 0 = x at *
              have m0 := (HM13.out.below HBi.out HM13.out.lt).cell 0
              generalize toK (planM k.h l) (voidM k.h l) x = z at *
              generalize fldM (planM k.h l) (voidM k.h l) x = fv at *
              go_wp2_with fail
              refine HGa.out.mono ?_
              rintro e wa ⟨rfl, hba⟩
              have HBa := Lib.hid (below_top HBi.out hba)
              have HBwa := Lib.hid (below_top HBw.out hba)
              have m1 := (HM13.out.below HBa.out HM13.out.lt).cell 1
              clear hba m0 h0 HGa
              go_wp2_with fail
              refine (HGb.out wa HBwa.out).mono ?_
              rintro e wb ⟨rfl, hbb⟩
              have HBb := Lib.hid (below_top HBa.out hbb)
              have HBwb := Lib.hid (below_top HBwa.out hbb)
              clear hbb m1 HGb HBi HBw HBwa
              go_wp2_with fail
              refine (HKD.out _).mono ?_
              rintro e wk ⟨rfl, rfl⟩
              by_cases hk : kindM x = 2
              · rw [hk]
                have hfe := HFT.out
                rw [if_pos hk] at hfe
                subst hfe
                clear hk HKD
                go_wp2_with fail
                refine (HWx.out wb HBwb.out).mono ?_
                rintro e wc ⟨rfl, hbc⟩
                have HBc := Lib.hid (below_top HBb.out hbc)
                have hne : ((fv : Int) != (fv : Int)) = false := by simp
                clear hbc HWx
                go_wp2_with fail
                go_roundw
                case rel => exact ⟨i + 1, by go_num, HLTi.out, HBc.out⟩
                case measure => have := HLTi.out; simp [intOf]; omega
              · have hk0 : ((kindM x : Int) == 2) = false := by simp; omega
                have hfe := HFT.out
                rw [if_neg hk] at hfe
                subst hfe
                have hne : ((fv : Int) != (fv : Int)) = false := by simp
                clear hk HKD
                generalize kindM fv = kd at *
                go_wp2_with fail
                go_roundw
                case rel => exact ⟨i + 1, by go_num, HLTi.out, HBb.out⟩
                case measure => have := HLTi.out; simp [intOf]; omega
            · obtain rfl : i = fs.length := by omega
              clear hli hi
              go_wp2_with fail
              go_roundw
              case rel => exact ⟨j + 1, by go_num, HLT.out, HBw.out⟩
              case measure => have := HLT.out; simp [intOf]; omega
        · have hne : ((t : Int) != 4) = true := by simp; omega
          go_wp2_with fail
          go_roundw
          case rel => exact ⟨j + 1, by go_num, HLT.out, HB13.out⟩
          case measure => have := HLT.out; simp [intOf]; omega
      · obtain rfl : j = (planM k.h l).length := by omega
        have HF := Lib.hid (HB1.out.trans ((HL8.out.after HB.out).below.mono (show W.heap.size ≤ W1.heap.size by omega)))
        clear hlt hj
        go_wp2_with fail
        go_ret
        exact ⟨rfl, HF.out⟩
end Go.Proofs.YtblekggklimpeaaDoor

namespace Go.Proofs.YtblekggklimpeaaDoor
open Go.RowKit Go.Sort
attribute [local go_sem] Oper.semAt_some
theorem held_obj {h : HM} {l : List Ob} (G : h.Good l) {j : Nat} (hj : j < l.length) : heldM h (2 * posOf (l.take j)) = (l[j]).x.cls :: (if (l[j]).x.fmt = 1 then (l[j]).fs else []) := by
  have L := G.laid
  rw [split_at l j hj] at L
  unfold heldM
  rw [half_pos, L.hd_at, L.fields_at]
set_option maxRecDepth 100000 in
set_option maxHeartbeats 4000000 in
theorem holds_any {W w : World} {p : HP} {g : Nat} {h : HM} {l : List Ob} (L : Live W w p g h) (G : h.Good l) {j : Nat} (hj : j < l.length) {y : Nat} (hy : y ∈ heldM h (2 * posOf (l.take j))) :
    Calls Tryd.prog 45 #[.pointer (some ⟨g, 0, none⟩), .int .u32 (2 * posOf (l.take j) : Nat), .int .u32 y] w (Told (.bool true) w) := by
  have HHD := Lib.hid (head_obj L G hj)
  have HGO := Lib.hid (fun (w' : World) (hb : Below w.heap.size w w') (hp : (l[j]).x.ptrB = true) (i : Nat) (hi : i < (l[j]).fs.length) => get_obj (L.after hb) G hj hp hi)
  rw [held_obj G hj] at hy
  have K := G.laid.ok _ (List.getElem_mem hj)
  have hsz2 := K.size
  have hln : (l[j]).fs.length ≤ 65535 := by
    have h1 := K.may
    unfold Hd.may at h1
    simp at h1
    omega
  clear K L
  generalize 2 * posOf (l.take j) = o at *
  generalize l[j] = b at *
  obtain ⟨⟨n, t, sp, cc, r⟩, fs⟩ := b
  simp only at hsz2 hln hy
  subst hsz2
  unfold Hd.val at HHD
  have HY := Lib.hid hy
  clear hy
  go_enter Tryd.func45, Tryd.ntmps45
  go_wp2_with fail
  refine HHD.out.mono ?_
  rintro e w1 ⟨rfl, hb1⟩
  go_upto_region 2 with fail
  have hbh := hb1.alloc hb1.size (.cells #[.int .i64 (fs.length : Int), .int .i64 (t : Int), .int .i64 (sp : Int), .int .u32 (cc : Int), .int .u32 (r : Int)] 56)
  have HB2 := Lib.hid hbh
  have HX2 := Lib.hid (Blk.new w1 56 #[.int .i64 (fs.length : Int), .int .i64 (t : Int), .int .i64 (sp : Int), .int .u32 (cc : Int), .int .u32 (r : Int)])
  clear hbh hb1 HHD
  generalize w1.alloc (.cells #[.int .i64 (fs.length : Int), .int .i64 (t : Int), .int .i64 (sp : Int), .int .u32 (cc : Int), .int .u32 (r : Int)] 56) = w2 at *
  generalize w1.heap.size = b7 at *
  have h3 := HX2.out.cell 3
  by_cases hc : cc = y
  · have hne : ((cc : Int) == (y : Int)) = true := by simp; omega
    clear hc
    go_wp2_with fail
    go_ret
    exact ⟨rfl, HB2.out⟩
  · have hne : ((cc : Int) == (y : Int)) = false := by simp; omega
    have hin : t = 1 ∧ y ∈ fs := by
      rcases List.mem_cons.1 HY.out with h | h
      · exact absurd h.symm hc
      · split at h
        · rename_i h1; exact ⟨h1, h⟩
        · cases h
    obtain ⟨ht, hm⟩ := hin
    have HPT := Lib.hid (show Hd.ptrB ⟨fs.length, t, sp, cc, r⟩ = true from by unfold Hd.ptrB; simp [ht])
    have ht1 : ((t : Int) == 1) = true := by simp; omega
    have HM := Lib.hid hm
    clear hc ht hm HY
    go_wp2_with fail
    clear h3 hne
    go_loopw [9] (fun iv wr => ∃ i : Nat, iv = .int .i64 i ∧ i < fs.length ∧ (∀ q, q < i → fs.getD q 0 ≠ y) ∧ Below w2.heap.size w2 wr) (fun iv _ => fs.length - (intOf iv).toNat)
    case atStart => exact ⟨0, rfl, List.length_pos_of_mem HM.out, fun q hq => absurd hq (Nat.not_lt_zero _), Below.refl _ _⟩
    case round =>
      obtain ⟨i, rfl, hi, hno, hb⟩ := hrel
      have HNO := Lib.hid hno
      have HB := Lib.hid hb
      clear hno hb
      have h0 := (HX2.out.below HB.out HX2.out.lt).cell 0
      have h1 := (HX2.out.below HB.out HX2.out.lt).cell 1
      have HG1 := Lib.hid (HGO.out wr (HB2.out.trans (HB.out.mono HB2.out.size)) HPT.out i hi)
      have HI := Lib.hid hi
      have HNX := Lib.hid (fun (e : fs.getD i 0 ≠ y) => show ∀ q, q < i + 1 → fs.getD q 0 ≠ y from fun q hq => by
        by_cases h : q = i
        · rw [h]; exact e
        · exact HNO.out q (by omega))
      have HLS := Lib.hid (fun (e : fs.getD i 0 ≠ y) => show i + 1 < fs.length from by
        obtain ⟨q, hq, he⟩ := List.getElem_of_mem HM.out
        have h2 : fs.getD q 0 = y := by rw [List.getD_eq_getElem?_getD, List.getElem?_eq_getElem hq]; exact he
        have h3 : ¬ q < i + 1 := fun h => HNX.out e q h h2
        omega)
      try dsimp only at HG1
      generalize fs.getD i 0 = x at *
      go_wp2_with fail
      refine HG1.out.mono ?_
      rintro e w5 ⟨rfl, hb5⟩
      have HB5 := Lib.hid (below_top HB.out hb5)
      clear hb5 HG1 h0 h1
      by_cases hx : x = y
      · have hne : ((x : Int) == (y : Int)) = true := by simp; omega
        clear hx HNX HLS
        go_wp2_with fail
        go_ret
        exact ⟨rfl, HB2.out.trans (HB5.out.mono HB2.out.size)⟩
      · have hne : ((x : Int) == (y : Int)) = false := by simp; omega
        have HN := Lib.hid (HNX.out hx)
        have HL := Lib.hid (HLS.out hx)
        clear hx HNX HLS
        go_wp2_with fail
        go_roundw
        case rel => exact ⟨i + 1, by go_num, HL.out, HN.out, HB5.out⟩
        case measure => have := HI.out; simp [intOf]; omega
end Go.Proofs.YtblekggklimpeaaDoor

namespace Go.Proofs.YtblekggklimpeaaDoor
open Go.RowKit Go.Sort
attribute [local go_sem] Oper.semAt_some
theorem posOf_ge1 (L : List Ob) : 1 ≤ posOf L := by unfold posOf; omega
def meaO (x : Nat) : Nat := if x = 0 then 0 else 4294967296 - x
set_option maxRecDepth 100000 in
set_option maxHeartbeats 8000000 in
theorem pathsL_any (W : World) (E : Env W) (k : Cs) (hk : k.At W W.heap.size) : Calls Tryd.prog 9 #[k.agg] W (Told (.bool true) W) := by
  have hb1 := (Below.refl W.heap.size W).alloc (Nat.le_refl _) (.cells k.cells 26)
  have B1 := Blk.new W 26 k.cells
  have HB1 := Lib.hid hb1
  have HBX := Lib.hid B1
  have HE := Lib.hid (E.below hb1)
  have HK := Lib.hid (hk.below hb1)
  have HBU := Lib.hid (built_any _ (E.below hb1) k (hk.below hb1))
  have HAW := Lib.hid (fun (w : World) (E : Env w) => awake_any w E)
  have hsz := World.size_alloc W (.cells k.cells 26)
  clear hb1 B1 E hk
  unfold Cs.cells at HB1 HBX HE HK HBU hsz
  unfold Cs.agg at HBU ⊢
  go_enter Tryd.func9, Tryd.ntmps9
  obtain ⟨x0, x1, x2, x3⟩ := cells4K HBX.out
  go_wp2_with fail
  clear x0 x1 x2 x3
  generalize W.alloc (.cells #[.int .i64 k.size, .slice k.A k.n k.c, .slice k.A' k.n' k.c', .int .u32 (k.last : Nat)] 26) = W1 at *
  refine HBU.out.mono ?_
  rintro e w1 (⟨hno, ⟨v, rfl⟩, hb⟩ | ⟨hok, p, g, rfl, L, hws, hrs⟩)
  · have HB2 := Lib.hid (below_top HB1.out hb)
    have HE2 := Lib.hid (HE.out.below hb)
    clear hb hno HBU
    go_wp2_with fail
    refine (HAW.out _ HE2.out).mono ?_
    rintro e w2 ⟨rfl, hb2⟩
    have HB3 := Lib.hid (below_top HB2.out hb2)
    clear hb2
    go_wp2_with fail
    go_ret
    exact ⟨rfl, HB3.out⟩
  · have HL := Lib.hid L
    obtain ⟨l, G⟩ := L.good
    have HG := Lib.hid G
    have HEV := Lib.hid L.envw
    have HB2 := Lib.hid (below_top HB1.out L.below)
    have HX2 := Lib.hid (HBX.out.below L.below HBX.out.lt)
    have HK2 := Lib.hid (HK.out.below L.below)
    have HWS := Lib.hid (And.intro hws hrs)
    have HOK := Lib.hid hok
    clear L G hws hrs hok HBU HBX HE HK
    go_wp2_with fail
    refine (HAW.out _ HEV.out).mono ?_
    rintro e w2 ⟨rfl, hb2⟩
    have HL3 := Lib.hid (HL.out.after hb2)
    have HB3 := Lib.hid (below_top HB2.out hb2)
    have HX3 := Lib.hid (HX2.out.below hb2 HX2.out.lt)
    have HLV := Lib.hid (live_any HL3.out.at_ HG.out HL3.out.envw.spares)
    rw [HL3.out.hg] at HLV
    unfold ptr at HLV
    clear hb2 HB2 HX2 HK2 HL HEV HOK HWS
    go_wp2_with fail
    refine HLV.out.mono ?_
    rintro e w4 ⟨v4, rfl, ho4, hb4⟩
    obtain ⟨A4, c4, hv4⟩ := own_val ho4
    subst hv4
    have HO4 := Lib.hid ho4
    have HL4 := Lib.hid (HL3.out.after hb4)
    have HFI := Lib.hid (HL4.out.first)
    rw [first_oopI HG.out] at HFI
    clear ho4 hb4 HLV HL3 HX3
    go_wp2_with fail
    refine HFI.out.mono ?_
    rintro e w5 ⟨rfl, rfl⟩
    have hl2 : l.length ≤ 1048576 := by have h1 := oopsL_le HG.out; rw [oopsL_len] at h1; exact h1
    have hlv : (liveO k.h l).length ≤ 1048576 := by
      have h2 : (liveO k.h l).length ≤ (oopsL l).length := List.length_filter_le _ _
      rw [oopsL_len] at h2
      omega
    have h64 := HG.out.fit.roots
    have H64 := Lib.hid h64
    clear h64
    go_wp2_with fail
    go_loopw [6, 7] (fun av ov wr => ∃ j : Nat, av = .int .i64 (cntK k.h l j : Nat) ∧ ov = .int .u32 (oopI l j : Nat) ∧ j ≤ l.length ∧ Below w4.heap.size w4 wr) (fun _ ov _ => meaO (intOf ov).toNat)
    case atStart => exact ⟨0, rfl, rfl, Nat.zero_le _, Below.refl _ _⟩
    case round =>
      obtain ⟨j, rfl, rfl, hj, hb⟩ := hrel
      have HB := Lib.hid hb
      have HLr := Lib.hid (HL4.out.after hb)
      clear hb
      by_cases hlt : j < l.length
      · have hoi : oopI l j = 2 * posOf (l.take j) := by unfold oopI; rw [if_pos hlt]
        rw [hoi]
        have hib := isB_obj HG.out hlt
        have ho32 := isB_u32 HG.out hib
        have hpos := posOf_ge1 (l.take j)
        have HPT := Lib.hid (path_any HLr.out HG.out ho32)
        have HPO := Lib.hid (show pathO k.h (2 * posOf (l.take j)) = pathL (walkM (heldM k.h) k.h.roots) (2 * posOf (l.take j)) from by unfold pathO; rw [if_pos hib])
        have HPE := Lib.hid (show pathE k.h (2 * posOf (l.take j)) = if 2 * posOf (l.take j) ∈ metO (walkM (heldM k.h) k.h.roots) then 0 else 31 from by unfold pathE; rw [if_pos hib])
        have HNX := Lib.hid (fun (w' : World) (hb : Below w4.heap.size w4 w') => (HL4.out.after hb).next _ ho32)
        have hnx : k.h.nextN (2 * posOf (l.take j)) = oopI l (j + 1) ∧ k.h.isE (2 * posOf (l.take j)) = 0 := by
          constructor
          · unfold HM.nextN
            rw [if_pos hib]
            exact next_oopI HG.out j hlt
          · unfold HM.isE
            simp [hib]
        rw [hnx.1, hnx.2] at HNX
        have HME := Lib.hid (show meaO (oopI l (j + 1)) < meaO (2 * posOf (l.take j)) from by
          unfold meaO
          rw [if_neg (show ¬ 2 * posOf (l.take j) = 0 by omega)]
          split
          · omega
          · rename_i h0
            have h1 : j + 1 < l.length := Classical.byContradiction fun h => h0 (by unfold oopI; rw [if_neg h])
            have h2 : oopI l (j + 1) = 2 * posOf (l.take (j + 1)) := by unfold oopI; rw [if_pos h1]
            have h3 := posOf_take_mono (l := l) (j := j) (k := j + 1) (by omega) (by omega)
            have h4 := isB_u32 HG.out (isB_obj HG.out h1)
            omega)
        have HCY := Lib.hid (fun hm => cnt_yes (h := k.h) hlt hm)
        have HCN := Lib.hid (fun hm => cnt_no (h := k.h) hlt hm)
        have hcl := cnt_le (h := k.h) (l := l) j
        have HLT := Lib.hid hlt
        have hon : ((2 * posOf (l.take j) : Nat) : Int) ≠ 0 := by omega
        have HFA := Lib.hid (fun hm => path_facts (nm := heldM k.h) (fr := k.h.roots) (o := 2 * posOf (l.take j)) hm)
        have hwl := walk_len HG.out HG.out.sound.roots
        have HWB := Lib.hid (walk_isB HG.out HG.out.sound.roots)
        generalize cntK k.h l j = at_ at *
        generalize 2 * posOf (l.take j) = o at *
        clear hoi hib hnx hlt hj hpos
        have hb0 : ((o : Int) != 0) = true := by simp; omega
        go_wp2_with fail
        refine HPT.out.mono ?_
        rintro e w6 ⟨v6, rfl, ho6, hb6⟩
        rw [HPO.out] at ho6
        obtain ⟨A6, c6, hv6⟩ := own_val ho6
        subst hv6
        have HO6 := Lib.hid ho6
        have HB6 := Lib.hid (below_top HB.out hb6)
        have HO4r := Lib.hid (own_below HO4.out HB6.out)
        clear ho6 hb6 HPT HB HLr hb0
        by_cases hm : o ∈ metO (walkM (heldM k.h) k.h.roots)
        · obtain ⟨hc1, hc2, hc3⟩ := HCY.out hm
          obtain ⟨hf1, hf2, hf3, hf4, hf5, hf6⟩ := HFA.out hm
          have hpe := HPE.out
          rw [if_pos hm] at hpe
          rw [hpe]
          obtain ⟨gv, cv, hvv, hrv, _, _⟩ := Row.of_any HO4r.out (by omega)
          cases hvv
          have hla := hrv.cell (u32s_get (l := liveO k.h l) (i := at_) hc2)
          rw [hc3] at hla
          generalize pathL (walkM (heldM k.h) k.h.roots) o = P at *
          obtain ⟨gp, cp, hvp, hrp, _, _⟩ := Row.of_any HO6.out hf1
          cases hvp
          have hpl := hrp.cell (u32s_get (l := P) (i := P.length - 1) (by omega))
          rw [hf3] at hpl
          have hpi : (P.length : Int) - 1 = ((P.length - 1 : Nat) : Int) := by omega
          have hpj : P.length - 1 < P.length := by omega
          have hp63 : P.length ≤ 1048576 := Nat.le_trans hf5 hwl
          have hoo : ((o : Int) != (o : Int)) = false := by simp
          have HC1 := Lib.hid hc1
          have HF2 := Lib.hid hf2
          have HF4 := Lib.hid hf4
          have HF6 := Lib.hid hf6
          have HRP := Lib.hid hrp
          have HL6 := Lib.hid (HL4.out.after HB6.out)
          have HRT := Lib.hid HL6.out.roots
          have hlen0 : ((P.length : Int) == 0) = false := by simp; intro e; subst e; simp at hf1
          clear hc1 hc3 hf2 hf3 hf4 hf5 hf6 hrp hrv hm hpe
          go_wp2_with fail
          refine HRT.out.mono ?_
          rintro e w7 ⟨g7, c7, rfl, hr7, -, hb7⟩
          rw [u32s_len]
          have HR7 := Lib.hid hr7
          have HB7 := Lib.hid (below_top HB6.out hb7)
          have HRP7 := Lib.hid (HRP.out.below hb7)
          clear hr7 hb7 HRT HL6 HRP hla hpl hpi hpj hoo
          go_wp2_with fail
          go_loopw [10, 85] (fun bv iv wr => ∃ (q : Nat) (b : Bool), bv = .bool b ∧ iv = .int .i64 q ∧ q ≤ k.h.roots.length ∧ (b = true ↔ P.getD 0 0 ∈ k.h.roots.take q) ∧ Below w7.heap.size w7 wr) (fun _ iv _ => k.h.roots.length - (intOf iv).toNat)
          case atStart => exact ⟨0, false, rfl, rfl, Nat.zero_le _, by simp, Below.refl _ _⟩
          case round =>
            obtain ⟨q, b, rfl, rfl, hq, hbm, hb⟩ := hrel
            have HBM := Lib.hid hbm
            have HBq := Lib.hid hb
            clear hbm hb
            by_cases hlq : q < k.h.roots.length
            · have hcr := (HR7.out.below HBq.out).cell (u32s_get (l := k.h.roots) (i := q) hlq)
              have hcp := (HRP7.out.below HBq.out).cell (u32s_get (l := P) (i := 0) hf1)
              have HLQ := Lib.hid hlq
              have HTK := Lib.hid (show (P.getD 0 0 ∈ k.h.roots.take (q + 1)) ↔ (P.getD 0 0 ∈ k.h.roots.take q ∨ k.h.roots.getD q 0 = P.getD 0 0) from by
                rw [List.take_add_one, List.getElem?_eq_getElem hlq, List.mem_append, List.getD_eq_getElem?_getD (l := k.h.roots), List.getElem?_eq_getElem hlq]
                simp [eq_comm])
              generalize hp00 : P.getD 0 0 = p0 at *
              generalize k.h.roots.getD q 0 = r0 at *
              have hqn : q ≤ 64 := by have := H64.out; omega
              cases b
              · by_cases hrp : r0 = p0
                · have hne : ((r0 : Int) == (p0 : Int)) = true := by simp; omega
                  have HE := Lib.hid (show (true = true ↔ p0 ∈ k.h.roots.take (q + 1)) from ⟨fun _ => HTK.out.2 (.inr hrp), fun _ => rfl⟩)
                  clear hrp
                  go_wp2_with fail
                  go_roundw
                  case rel => exact ⟨q + 1, true, rfl, by go_num, HLQ.out, HE.out, HBq.out⟩
                  case measure => have := HLQ.out; simp [intOf]; omega
                · have hne : ((r0 : Int) == (p0 : Int)) = false := by simp; omega
                  have HE := Lib.hid (show (false = true ↔ p0 ∈ k.h.roots.take (q + 1)) from ⟨fun h => (by cases h), fun h => (HTK.out.1 h).elim HBM.out.2 (fun h2 => absurd h2 hrp)⟩)
                  clear hrp
                  go_wp2_with fail
                  go_roundw
                  case rel => exact ⟨q + 1, false, rfl, by go_num, HLQ.out, HE.out, HBq.out⟩
                  case measure => have := HLQ.out; simp [intOf]; omega
              · have HE := Lib.hid (show (true = true ↔ p0 ∈ k.h.roots.take (q + 1)) from ⟨fun _ => HTK.out.2 (.inl (HBM.out.1 rfl)), fun _ => rfl⟩)
                go_wp2_with fail
                go_roundw
                case rel => exact ⟨q + 1, true, rfl, by go_num, HLQ.out, HE.out, HBq.out⟩
                case measure => have := HLQ.out; simp [intOf]; omega
            · obtain rfl : q = k.h.roots.length := by omega
              have hbt : b = true := HBM.out.2 (by rw [List.take_length]; exact HF2.out)
              subst hbt
              have HB8 := Lib.hid (below_top HB7.out HBq.out)
              have HRP8 := Lib.hid (HRP7.out.below HBq.out)
              have HL8 := Lib.hid (HL4.out.after HB8.out)
              clear hlq hq HBM
              obtain ⟨w8, hw8⟩ : ∃ w8, w8 = wr := ⟨wr, rfl⟩
              subst hw8
              go_wp2_with fail
              clear HR7 HBq HRP7
              go_loopw [13] (fun iv wr => ∃ i : Nat, iv = .int .i64 i ∧ 1 ≤ i ∧ i ≤ P.length ∧ Below w8.heap.size w8 wr) (fun iv _ => P.length - (intOf iv).toNat)
              case atStart => exact ⟨1, rfl, Nat.le_refl _, hf1, Below.refl _ _⟩
              case round =>
                obtain ⟨i, rfl, hi1, hi2, hb⟩ := hrel
                have HBi := Lib.hid hb
                clear hb
                by_cases hli : i < P.length
                · have hmem : P.getD (i - 1) 0 ∈ P := getD_mem' (by omega)
                  obtain ⟨t, ht, hte⟩ := isB_k HG.out (HWB.out _ (HF6.out _ hmem))
                  have hheld := HF4.out i hi1 hli
                  rw [hte] at hheld
                  have HHO := Lib.hid (fun (w' : World) (hb : Below w8.heap.size w8 w') => holds_any (HL8.out.after hb) HG.out ht hheld)
                  rw [← hte] at HHO
                  have HCc := Lib.hid (show ∀ w', Below w8.heap.size w8 w' → w'.cell? ⟨gp, i - 1, none⟩ = some (.int .u32 (P.getD (i - 1) 0 : Nat)) ∧ w'.cell? ⟨gp, i, none⟩ = some (.int .u32 (P.getD i 0 : Nat)) from fun w' hb =>
                    ⟨(HRP8.out.below hb).cell (u32s_get (by omega)), (HRP8.out.below hb).cell (u32s_get hli)⟩)
                  have hi3 : (i : Int) - 1 = ((i - 1 : Nat) : Int) := by omega
                  have hi4 : i - 1 < P.length := by omega
                  have hi63 : i ≤ 1048576 := by omega
                  have hwi : IntKind.i64.wrap ((i : Int) - 1) = ((i - 1 : Nat) : Int) := by rw [hi3]; exact IntWalk.i64_in _ (by omega)
                  have hwi2 : IntKind.i64.wrap ((i - 1 : Nat) : Int) = ((i - 1 : Nat) : Int) := IntWalk.i64_in _ (by omega)
                  have hb1' : (0 : Int) ≤ ((i - 1 : Nat) : Int) := by omega
                  have hb2' : ((i - 1 : Nat) : Int) < (P.length : Int) := by omega
                  have hb3' : (0 : Int) ≤ (i : Int) := by omega
                  have hb4' : (i : Int) < (P.length : Int) := by omega
                  have HLI := Lib.hid hli
                  clear hmem hte hheld
                  generalize P.getD (i - 1) 0 = pa at *
                  generalize P.getD i 0 = pb at *
                  generalize i - 1 = im at *
                  go_upto_region 27 with fail
                  have hbd : Below wr.heap.size wr wr.drew := below_drew (Below.refl _ _)
                  have hB0 := below_top HBi.out hbd
                  obtain ⟨c0, c1⟩ := HCc.out _ hB0
                  obtain ⟨e0, e1⟩ := HCc.out _ HBi.out
                  have hB00 := HBi.out
                  clear hbd
                  go_region_held3 (fun w' => w'.cell? ⟨gp, im, none⟩ = some (.int .u32 (pa : Int)) ∧ w'.cell? ⟨gp, i, none⟩ = some (.int .u32 (pb : Int)))
                    (first | exact ⟨c0, c1⟩ | exact ⟨e0, e1⟩ | exact HCc.out _ (by assumption) | go_keep)
                    (first
                      | (go_at_call 45; refine (HHO.out _ (by assumption)).mono ?_; rintro e w9 ⟨rfl, hb9⟩; have hB9 := below_top hB0 hb9))
                  have HB9 := Lib.hid hB9
                  clear hB9 hb9 hB0 hB00 c0 c1 e0 e1
                  go_wp2_with fail
                  go_roundw
                  case rel => exact ⟨i + 1, by go_num, by omega, HLI.out, HB9.out⟩
                  case measure => have := HLI.out; simp [intOf]; omega
                · have HB9 := Lib.hid (below_top HB8.out HBi.out)
                  clear hi1 HBi
                  go_wp2_with fail
                  refine (HNX.out _ HB9.out).mono ?_
                  rintro e w9 ⟨rfl, hb9⟩
                  have HB10 := Lib.hid (below_top HB9.out hb9)
                  clear hb9
                  go_wp2_with fail
                  go_roundw
                  case rel => exact ⟨j + 1, by rw [HC1.out]; first | rfl | (congr 1; push_cast; rfl), rfl, HLT.out, HB10.out⟩
                  case measure => exact HME.out
        · obtain ⟨hc1, hc2⟩ := HCN.out hm
          have hpe := HPE.out
          rw [if_neg hm] at hpe
          rw [hpe]
          have hpl : pathL (walkM (heldM k.h) k.h.roots) o = [] := pathL_no hm
          rw [hpl] at HO6 ⊢
          by_cases hge : at_ < (liveO k.h l).length
          · obtain ⟨gv, cv, hvv, hrv, _, _⟩ := Row.of_any HO4r.out (by omega)
            cases hvv
            have hla := hrv.cell (u32s_get (l := liveO k.h l) (i := at_) hge)
            have hz := hc2 at_ hge
            generalize (liveO k.h l).getD at_ 0 = z at *
            have hne : ((z : Int) != (o : Int)) = true := by simp; omega
            have HC1 := Lib.hid hc1
            clear hm hc1 hc2 hrv hpl hz hpe
            go_wp2_with fail
            refine (HNX.out _ HB6.out).mono ?_
            rintro e w7 ⟨rfl, hb7⟩
            have HB7 := Lib.hid (below_top HB6.out hb7)
            clear hb7 hla
            go_wp2_with fail
            go_roundw
            case rel => exact ⟨j + 1, by rw [HC1.out], rfl, HLT.out, HB7.out⟩
            case measure => exact HME.out
          · have HC1 := Lib.hid hc1
            have hge2 : (liveO k.h l).length ≤ at_ := by omega
            have hd2 : decide ((liveO k.h l).length ≤ at_) = true := decide_eq_true hge2
            clear hm hc1 hc2 hpl hpe
            go_wp2_with fail
            refine (HNX.out _ HB6.out).mono ?_
            rintro e w7 ⟨rfl, hb7⟩
            have HB7 := Lib.hid (below_top HB6.out hb7)
            clear hb7
            go_wp2_with fail
            go_roundw
            case rel => exact ⟨j + 1, by rw [HC1.out], rfl, HLT.out, HB7.out⟩
            case measure => exact HME.out
      · obtain rfl : j = l.length := by omega
        have hoi : oopI l l.length = 0 := by unfold oopI; rw [if_neg (by omega)]
        rw [hoi, cntK_all]
        have HF := Lib.hid (HB1.out.trans (HLr.out.below.mono (show W.heap.size ≤ W1.heap.size by omega)))
        clear hlt hj hoi
        go_wp2_with fail
        go_ret
        exact ⟨rfl, HF.out⟩
end Go.Proofs.YtblekggklimpeaaDoor
