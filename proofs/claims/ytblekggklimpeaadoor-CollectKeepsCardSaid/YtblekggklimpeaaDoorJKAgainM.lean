/- Right behind a collection another one finds nothing to do. Plain data. -/
/- CollectAgain, walked: it answers true. -/
/- CollectWeak, walked: it answers true. -/
/- Behind a collection the graph is the same: plain data. -/
import Derived.Test.YtblekggklimpeaaDoorJKBuilt
import Derived.Test.YtblekggklimpeaaDoorJKLivesL
import Derived.Test.YtblekggklimpeaaDoorJLive
set_option linter.unusedVariables false
set_option linter.unusedSimpArgs false
set_option linter.unusedSectionVars false
namespace Go.Proofs.YtblekggklimpeaaDoor
open Go.RowKit
section
variable {h : HM} {l : List Ob}
theorem colL_get {k : Nat} (hk : k < (keepZ h l).length) : (colL h l)[k]'(by rw [colL_len]; exact hk) = relob (planM h l) (voidM h l) ((keepZ h l)[k]).2 := by
  unfold colL
  rw [List.getElem_map]
theorem held_new (G : h.Good l) {k : Nat} (hk : k < (colL h l).length) : heldM (colH h l) (2 * posOf ((colL h l).take k)) = ((colL h l)[k]).x.cls :: (if ((colL h l)[k]).x.fmt = 1 then ((colL h l)[k]).fs else []) := by
  have L := col_laid G
  rw [split_at (colL h l) k hk] at L
  unfold heldM
  rw [half_pos]
  have e1 := L.hd_at
  have e2 := L.fields_at
  rw [e1, e2]
theorem live_kz {o : Nat} (ho : o ∈ liveO h l) : ∃ k, ∃ hk : k < (keepZ h l).length, ((keepZ h l)[k]).1 = o ∧ goesM (planM h l) o = 2 * posOf ((colL h l).take k) := by
  rw [← keepZ_fst] at ho
  obtain ⟨p, hp, rfl⟩ := List.mem_map.1 ho
  obtain ⟨k, hk, rfl⟩ := List.getElem_of_mem hp
  exact ⟨k, hk, rfl, goesM_at (by rw [planM_fst, ← keepZ_fst]; exact keepZ_nodup h l) (plan_get h l hk)⟩
theorem again_met (G : h.Good l) : ∀ o ∈ metO (walkM (heldM h) h.roots), o ∈ liveO h l ∧ goesM (planM h l) o ∈ metO (walkM (heldM (colH h l)) (colH h l).roots) := by
  have G' := col_good G
  refine walkM_all (P := fun o => o ∈ liveO h l ∧ goesM (planM h l) o ∈ metO (walkM (heldM (colH h l)) (colH h l).roots)) (fun x hx hk => ?_) (fun o ho x hx hk => ?_)
  · have hl := live_of_root G hx hk
    refine ⟨hl, walk_root ?_ (isB_kind (col_isB G hl))⟩
    show goesM (planM h l) x ∈ colR h l
    unfold colR
    refine List.mem_map.2 ⟨x, hx, ?_⟩
    unfold whereM
    rw [if_pos hk]
  · obtain ⟨k, hkz, he, hg⟩ := live_kz ho.1
    have hp := List.getElem_mem hkz
    rw [← he] at hx
    have hxl := live_of_held G hp hx hk
    have hkl : k < (colL h l).length := by rw [colL_len]; exact hkz
    have hw : whereM (planM h l) x = goesM (planM h l) x := by unfold whereM; rw [if_pos hk]
    have hfl : fldM (planM h l) (voidM h l) x = goesM (planM h l) x := by
      rw [← hw]
      refine fld_live ?_
      unfold deadB
      exact decide_eq_false (fun hd => hd.2 (by rw [planM_fst]; exact hxl))
    refine ⟨hxl, walk_shut G' G'.sound.roots ho.2 ?_ (isB_kind (col_isB G hxl))⟩
    rw [hg, held_new G hkl, colL_get hkz]
    rw [keepZ_held G hp] at hx
    generalize ((keepZ h l)[k]).2 = b at *
    rcases List.mem_cons.1 hx with rfl | hx
    · refine List.mem_cons.2 (.inl ?_)
      exact hw.symm
    · refine List.mem_cons.2 (.inr ?_)
      by_cases h1 : b.x.fmt = 1
      · rw [if_pos h1] at hx
        have hp1 : b.x.ptrB = true := by unfold Hd.ptrB; simp [h1]
        unfold relob
        simp only [hp1, if_true, h1]
        exact List.mem_map.2 ⟨x, hx, hfl⟩
      · rw [if_neg h1] at hx
        cases hx
theorem live_again (G : h.Good l) : liveO (colH h l) (colL h l) = oopsL (colL h l) := by
  unfold liveO
  rw [List.filter_eq_self]
  intro o ho
  unfold oopsL at ho
  obtain ⟨k, hk, rfl⟩ := List.mem_map.1 ho
  have hk := List.mem_range.1 hk
  have hkz : k < (keepZ h l).length := by rw [← colL_len]; exact hk
  have hl : ((keepZ h l)[k]).1 ∈ liveO h l := by rw [← keepZ_fst]; exact List.mem_map.2 ⟨_, List.getElem_mem hkz, rfl⟩
  have hg := goesM_at (by rw [planM_fst, ← keepZ_fst]; exact keepZ_nodup h l) (plan_get h l hkz)
  have := (again_met G _ ((mem_liveO G).1 hl)).2
  rw [hg] at this
  simpa using this
/-- A heap in which all is live. -/
theorem kz_all (ha : liveO h l = oopsL l) : keepZ h l = (oopsL l).zip l := by
  unfold keepZ
  rw [List.filter_eq_self]
  rintro ⟨o, b⟩ hp
  have h1 : o ∈ oopsL l := (List.of_mem_zip hp).1
  rw [← ha] at h1
  unfold liveO at h1
  exact (List.mem_filter.1 h1).2
theorem kz_snd (ha : liveO h l = oopsL l) : (keepZ h l).map (·.2) = l := by
  rw [kz_all ha]
  exact List.map_snd_zip (by rw [oopsL_len]; exact Nat.le_refl _)
theorem plan_same (ha : liveO h l = oopsL l) : ∀ p ∈ planM h l, p.1 = p.2 := by
  intro p hp
  obtain ⟨k, hk, rfl⟩ := List.getElem_of_mem hp
  have hkz : k < (keepZ h l).length := by have := planF_len 1 (keepZ h l); unfold planM at hk; omega
  have hg := plan_get h l hkz
  rw [List.getElem?_eq_getElem hk] at hg
  injection hg with hg
  rw [hg]
  dsimp only
  have hkl : k < l.length := by have := congrArg List.length (kz_snd ha); rw [List.length_map] at this; omega
  have h1 : ((keepZ h l)[k]).1 = 2 * posOf (l.take k) := by
    have h2 := keepZ_fst h l
    rw [ha] at h2
    have h3 := oopsL_get hkl
    rw [← h2, List.getElem?_map, List.getElem?_eq_getElem hkz] at h3
    injection h3
  rw [h1]
  congr 1
  unfold posOf
  rw [colL_eq, kz_snd ha, ← List.map_take, wsOf_same (relob_len _ _)]
theorem goes_same (ha : liveO h l = oopsL l) {x : Nat} (hx : x ∈ oopsL l) : goesM (planM h l) x = x := by
  rw [← ha] at hx
  obtain ⟨k, hk, he, _⟩ := live_kz hx
  have hg := plan_get h l hk
  have h1 := plan_same ha _ (List.mem_of_getElem? hg)
  have h2 := goesM_at (by rw [planM_fst, ← keepZ_fst]; exact keepZ_nodup h l) hg
  dsimp only at h1 h2
  rw [he] at h1 h2
  rw [h2, ← h1]
theorem where_same (G : h.Good l) (ha : liveO h l = oopsL l) {x : Nat} (hx : kindM x = 2 → h.isB x = true) : whereM (planM h l) x = x := by
  unfold whereM
  split
  · rename_i hk
    exact goes_same ha (isB_mem G (hx hk))
  · rfl
theorem dead_none (G : h.Good l) (ha : liveO h l = oopsL l) {x : Nat} (hx : kindM x = 2 → h.isB x = true) : deadB (planM h l) x = false := by
  unfold deadB
  refine decide_eq_false (fun hd => hd.2 ?_)
  rw [planM_fst, ha]
  exact isB_mem G (hx hd.1)
theorem valB_B {x : Nat} (hv : h.valB x = true) : kindM x = 2 → h.isB x = true := by
  intro hk
  unfold HM.valB objB at hv
  simpa [hk] using hv
theorem clsB_B {x : Nat} (hv : h.clsB x = true) : kindM x = 2 → h.isB x = true := by
  intro hk
  unfold HM.clsB at hv
  rw [Bool.or_eq_true] at hv
  rcases hv with hv | hv
  · have : x = 0 := by simpa using hv
    subst this
    simp [kindM] at hk
  · exact hv
theorem relob_same (G : h.Good l) (ha : liveO h l = oopsL l) {b : Ob} (hb : b ∈ l) : relob (planM h l) (voidM h l) b = b := by
  unfold relob
  have h1 := where_same G ha (clsB_B (G.sound.cls b hb))
  by_cases hp : b.x.ptrB = true
  · rw [if_pos hp, h1]
    have h2 : b.fs.map (fldM (planM h l) (voidM h l)) = b.fs := by
      conv => rhs; rw [← List.map_id b.fs]
      apply List.map_congr_left
      intro x hx
      have hv := valB_B (G.sound.flds b hb hp x hx)
      rw [fld_live (dead_none G ha hv), where_same G ha hv]
      rfl
    rw [h2]
  · rw [if_neg hp, h1]
theorem colL_same (G : h.Good l) (ha : liveO h l = oopsL l) : colL h l = l := by
  rw [colL_eq, kz_snd ha]
  conv => rhs; rw [← List.map_id l]
  apply List.map_congr_left
  intro b hb
  exact relob_same G ha hb
theorem colR_same (G : h.Good l) (ha : liveO h l = oopsL l) : colR h l = h.roots := by
  unfold colR
  conv => rhs; rw [← List.map_id h.roots]
  apply List.map_congr_left
  intro x hx
  exact where_same G ha (valB_B (G.sound.roots x hx))
theorem colH_again (G : h.Good l) : colH (colH h l) (colL h l) = colH h l := by
  have G' := col_good G
  have ha := live_again G
  unfold colH
  rw [show colL (HM.ofWords h.size (0 :: wsOf (colL h l)) (colR h l) h.last) (colL h l) = colL h l from colL_same G' ha, show colR (HM.ofWords h.size (0 :: wsOf (colL h l)) (colR h l) h.last) (colL h l) = colR h l from colR_same G' ha]
  rfl
theorem colV_again (G : h.Good l) : colV (colH h l) (colL h l) = .agg #[.int .i64 ((liveO h l).length : Nat), .int .i64 0, .int .i64 0, .int .i64 0, .int .i64 0] := by
  have G' := col_good G
  have ha := live_again G
  have hm : movedN (colH h l) (colL h l) = 0 := by
    unfold movedN
    rw [List.length_eq_zero_iff, List.filter_eq_nil_iff]
    intro p hp
    have := plan_same ha p hp
    simpa using this
  have hc : clearedN (colH h l) (colL h l) = 0 := by
    unfold clearedN
    have : ∀ z : List (Nat × Ob), (∀ p ∈ z, p.2 ∈ colL h l) → (z.map (fun p => clearedB (planM (colH h l) (colL h l)) p.2)).sum = 0 := by
      intro z
      induction z with
      | nil => intro _; rfl
      | cons p z ih =>
        intro hz
        rw [List.map_cons, List.sum_cons, ih (fun q hq => hz q (List.mem_cons_of_mem _ hq)), Nat.add_zero]
        unfold clearedB
        split
        · rename_i hpb
          rw [List.length_eq_zero_iff, List.filter_eq_nil_iff]
          intro x hx
          rw [dead_none G' ha (valB_B (G'.sound.flds p.2 (hz p (List.mem_cons_self ..)) hpb x hx))]
          decide
        · rfl
    refine this _ (fun p hp => ?_)
    obtain ⟨j, hj, _, h2, _⟩ := keepZ_mem hp
    rw [h2]
    exact List.getElem_mem hj
  have hl1 : (liveO (colH h l) (colL h l)).length = (liveO h l).length := by
    rw [ha, oopsL_len, colL_len, keepZ_len]
  have hl2 : (colL h l).length = (liveO h l).length := by rw [colL_len, keepZ_len]
  have hw : (colH h l).words.length - (1 + (wsOf (colL (colH h l) (colL h l))).length) = 0 := by
    rw [colL_same G' ha]
    show (0 :: wsOf (colL h l)).length - _ = 0
    rw [List.length_cons]
    omega
  unfold colV
  rw [hm, hc, hl1, hl2, hw, Nat.sub_self]
  rfl
end
end Go.Proofs.YtblekggklimpeaaDoor

namespace Go.Proofs.YtblekggklimpeaaDoor
open Go.RowKit Go.Sort
attribute [local go_sem] Oper.semAt_some
/-- A heap beside another one that is worked on. -/
theorem Live.beside {W w w' : World} {p q q' : HP} {g : Nat} {h : HM} (L : Live W w p g h) (s : Step q q' w w') (hd : ∀ j, p.has j → ¬ q.has j) (hq : ∀ j, q.has j → W.heap.size ≤ j) : Live W w' p g h :=
  ⟨L.at_.same (fun j hj => s.block j (L.at_.lt hj) (hd j hj)), L.hg, L.good, L.env, L.new, L.below.trans ⟨s.os, s.tape, s.output, s.size, fun j hj => s.block j (by have := L.below.size; omega) (fun e => by have := hq j e; omega)⟩⟩
set_option maxRecDepth 100000 in
set_option maxHeartbeats 8000000 in
theorem againL_any (W : World) (E : Env W) (k : Cs) (hk : k.At W W.heap.size) : Calls Tryd.prog 7 #[k.agg] W (Told (.bool true) W) := by
  have hb1 := (Below.refl W.heap.size W).alloc (Nat.le_refl _) (.cells k.cells 26)
  have B1 := Blk.new W 26 k.cells
  have HB1 := Lib.hid hb1
  have HBX := Lib.hid B1
  have HE := Lib.hid (E.below hb1)
  have HK := Lib.hid (hk.below hb1)
  have HBU := Lib.hid (built_any _ (E.below hb1) k (hk.below hb1))
  have HAW := Lib.hid (fun (w : World) (E : Env w) => awake_any w E)
  have hsz := World.size_alloc W (.cells k.cells 26)
  clear hb1 B1 E hk
  unfold Cs.cells at HB1 HBX HE HK HBU hsz
  unfold Cs.agg at HBU ⊢
  go_enter Tryd.func7, Tryd.ntmps7
  obtain ⟨x0, x1, x2, x3⟩ := cells4K HBX.out
  go_wp2_with fail
  clear x0 x1 x2 x3
  generalize W.alloc (.cells #[.int .i64 k.size, .slice k.A k.n k.c, .slice k.A' k.n' k.c', .int .u32 (k.last : Nat)] 26) = W1 at *
  refine HBU.out.mono ?_
  rintro e w1 (⟨hno, ⟨v, rfl⟩, hb⟩ | ⟨hok, p, g, rfl, L, hws, hrs⟩)
  · have HB2 := Lib.hid (below_top HB1.out hb)
    have HE2 := Lib.hid (HE.out.below hb)
    clear hb hno HBU
    go_wp2_with fail
    refine (HAW.out _ HE2.out).mono ?_
    rintro e w2 ⟨rfl, hb2⟩
    have HB3 := Lib.hid (below_top HB2.out hb2)
    clear hb2
    go_wp2_with fail
    go_ret
    exact ⟨rfl, HB3.out⟩
  · have HL := Lib.hid L
    obtain ⟨l, G⟩ := L.good
    have HG := Lib.hid G
    have HEV := Lib.hid L.envw
    have HB2 := Lib.hid (below_top HB1.out L.below)
    have HX2 := Lib.hid (HBX.out.below L.below HBX.out.lt)
    have HK2 := Lib.hid (HK.out.below L.below)
    have HWS := Lib.hid (And.intro hws hrs)
    have HOK := Lib.hid hok
    clear L G hws hrs hok HBU HBX HE HK
    go_wp2_with fail
    refine (HAW.out _ HEV.out).mono ?_
    rintro e w2 ⟨rfl, hb2⟩
    have HL3 := Lib.hid (HL.out.after hb2)
    have HB3 := Lib.hid (below_top HB2.out hb2)
    have HX3 := Lib.hid (HX2.out.below hb2 HX2.out.lt)
    obtain ⟨n, hn⟩ := Int.eq_ofNat_of_zero_le (show 0 ≤ k.size by have := HOK.out.1; omega)
    have hn1 : 64 ≤ n := by have := HOK.out.1; omega
    have hn2 : n ≤ 1048576 := by have := HOK.out.2.1; omega
    have HCO := Lib.hid (HL3.out.collect HG.out)
    have HSZ := Lib.hid (show (HM.new n).size = (colH k.h l).size from by
      show n = k.size.toNat
      omega)
    clear hb2 HB2 HX2 HK2 HL HEV HOK HWS
    go_wp2_with fail
    refine HCO.out.mono ?_
    rintro e w3 ⟨p3, rfl, hL3, hst3⟩
    have HX3' := Lib.hid (HX3.out.same (hst3.block _ HX3.out.lt (fun e => by have := HL3.out.new _ e; omega)))
    have HL4 := Lib.hid hL3
    have HP3 := Lib.hid (show ∀ j, p3.has j → W1.heap.size ≤ j ∧ j < w3.heap.size from fun j hj => ⟨hL3.new j hj, hL3.at_.lt hj⟩)
    obtain ⟨x0, x1, x2, x3, x4, hcv⟩ := colV_ints k.h l
    have hx0 : x0 = ((liveO k.h l).length : Nat) := by
      have h1 : colV k.h l = .agg #[.int .i64 ((liveO k.h l).length : Nat), .int .i64 x1, .int .i64 x2, .int .i64 x3, .int .i64 x4] := by
        have h2 := hcv
        unfold colV at h2 ⊢
        injection h2 with h2
        have h3 := congrArg (fun a : Array Value => a.toList) h2
        simp only [List.cons.injEq, Value.int.injEq, true_and, and_true] at h3
        obtain ⟨_, h4, h5, h6, h7⟩ := h3
        rw [h4, h5, h6, h7]
      rw [hcv] at h1
      injection h1 with h1
      have h3 := congrArg (fun a : Array Value => a.toList) h1
      simp only [List.cons.injEq, Value.int.injEq, true_and, and_true] at h3
      exact h3
    rw [hcv]
    have HX0 := Lib.hid hx0
    clear hL3 hst3 HL3 HX3 HCO hx0 hcv
    go_upto_region 5 with fail
    rw [hn] at HX3'
    have hb5 := (Below.refl w3.heap.size w3).alloc (Nat.le_refl _) (.cells #[.int .i64 x0, .int .i64 x1, .int .i64 x2, .int .i64 x3, .int .i64 x4] 46)
    have HY5 := Lib.hid (Blk.new w3 46 #[.int .i64 x0, .int .i64 x1, .int .i64 x2, .int .i64 x3, .int .i64 x4])
    have HX5 := Lib.hid (HX3'.out.below hb5 HX3'.out.lt)
    have HL5 := Lib.hid (HL4.out.after hb5)
    clear hn hb5 HL4 HX3'
    generalize w3.alloc (.cells #[.int .i64 x0, .int .i64 x1, .int .i64 x2, .int .i64 x3, .int .i64 x4] 46) = w5 at *
    generalize w3.heap.size = b5 at *
    have HG1 := Lib.hid (col_good HG.out)
    have HA1 := Lib.hid (live_again HG.out)
    have HH1 := Lib.hid (colH_again HG.out)
    have HV1 := Lib.hid (colV_again HG.out)
    rw [← HX0.out] at HV1
    have HU1 := Lib.hid (u32s_len (colH k.h l).words)
    have HU2 := Lib.hid (u32s_len (colH k.h l).roots)
    generalize colH k.h l = h1 at *
    generalize colL k.h l = l1 at *
    clear HX0
    go_wp2_with fail
    refine HL5.out.words.mono ?_
    rintro e w6 ⟨g6, c6, rfl, hr6, -, hb6⟩
    rw [HU1.out]
    have HR6 := Lib.hid hr6
    have HX6 := Lib.hid (HX5.out.below hb6 HX5.out.lt)
    have HY6 := Lib.hid (HY5.out.below hb6 HY5.out.lt)
    have HL6 := Lib.hid (HL5.out.after hb6)
    clear hr6 hb6 HX5 HY5 HL5
    go_wp2_with fail
    refine HL6.out.roots.mono ?_
    rintro e w7 ⟨g7, c7, rfl, hr7, -, hb7⟩
    rw [HU2.out]
    have HR7 := Lib.hid (And.intro (HR6.out.below hb7) hr7)
    have HX7 := Lib.hid (HX6.out.below hb7 HX6.out.lt)
    have HY7 := Lib.hid (HY6.out.below hb7 HY6.out.lt)
    have HL7 := Lib.hid (HL6.out.after hb7)
    have y0 := HX7.out.cell 0
    clear hr7 hb7 HX6 HY6 HL6 HR6
    go_wp2_with fail
    refine (new_any n hn1 hn2 _).mono ?_
    rintro e w8 hN
    obtain ⟨q, gq, rfl, Lq⟩ := Live.of_new (v := fun g => .tuple #[ptr g, .int .i64 0]) HL7.out.envw hn1 hn2 hN
    have hb8 := Lq.below
    have HR8 := Lib.hid (And.intro (HR7.out.1.below hb8) (HR7.out.2.below hb8))
    have HX8 := Lib.hid (HX7.out.below hb8 HX7.out.lt)
    have HY8 := Lib.hid (HY7.out.below hb8 HY7.out.lt)
    have HL8 := Lib.hid (HL7.out.after hb8)
    have HLA := Lib.hid (HL8.out.last)
    have f1 := HG1.out.fit.room
    have f2 := HG1.out.fit.hi
    have f3 := HG1.out.fit.roots
    have hld := HG1.out.load_self HSZ.out
    have HLD := Lib.hid (Lq.load (some ⟨g6, 0, none⟩) h1.words.length c6 h1.words (by omega) (by have := HR8.out.1.reads HR8.out.1.lt; rw [u32s_len] at this; exact this) HG1.out.fit.w32 (some ⟨g7, 0, none⟩) h1.roots.length c7 h1.roots (by omega) (by have := HR8.out.2.reads HR8.out.2.lt; rw [u32s_len] at this; exact this) HG1.out.fit.r32 h1.last HG1.out.fit.l32)
    rw [hld.1, hld.2] at HLD
    have HQ8 := Lib.hid (show (∀ j, q.has j → w7.heap.size ≤ j) ∧ (∀ j, p3.has j → j < b5) ∧ b5 < w7.heap.size ∧ W.heap.size < b5 from ⟨Lq.new, fun j hj => (HP3.out j hj).2, HY7.out.lt, by have h1 := HL7.out.new _ (show p3.has p3.g from .inl rfl); have h2 := HP3.out p3.g (.inl rfl); omega⟩)
    have HSZ8 := Lib.hid hb8.size
    clear hN hb8 Lq hld y0 HX7 HY7 HL7 HR7 f1 f2 f3
    unfold ptr
    go_wp2_with fail
    refine HLA.out.mono ?_
    rintro e w9 ⟨rfl, rfl⟩
    go_wp2_with fail
    refine HLD.out.mono ?_
    rintro e w9 ⟨q2, rfl, Lq2, stq⟩
    have HQ9 := Lib.hid (show (∀ j, q2.has j → w7.heap.size ≤ j) from fun j hj => by
      rcases stq.rows j hj with h | h
      · exact HQ8.out.1 j h
      · have h2 := HY8.out.lt
        have h3 := HQ8.out.2.2.1
        have h4 := HQ8.out.1
        have h5 := Lq2.below.size
        have h6 := stq.size
        have h7 : w7.heap.size ≤ w8.heap.size := HSZ8.out
        omega)
    have HL9 := Lib.hid (HL8.out.beside stq (fun j hj hq => by have h1 := HQ8.out.2.1 j hj; have h2 := HQ8.out.1 j hq; have h3 := HQ8.out.2.2.1; omega) (fun j hq => by have h1 := HQ8.out.1 j hq; have h2 := HQ8.out.2.2.1; have h3 := HP3.out p3.g (.inl rfl); omega))
    have HX9 := Lib.hid (HX8.out.same (stq.block _ HX8.out.lt (fun e => by have h1 := HQ8.out.1 _ e; have h2 := HQ8.out.2.2; omega)))
    have HY9 := Lib.hid (HY8.out.same (stq.block _ HY8.out.lt (fun e => by have h1 := HQ8.out.1 _ e; have h2 := HQ8.out.2.2.1; omega)))
    have HLQ := Lib.hid Lq2
    have HSM := Lib.hid (HL9.out.same Lq2)
    rw [sameH_self] at HSM
    clear Lq2 stq HLD HLA HR8 HX8 HY8 HL8
    go_wp2_with fail
    refine HSM.out.mono ?_
    rintro e w10 ⟨rfl, hb10⟩
    have HL10 := Lib.hid (HL9.out.after hb10)
    have HQ10 := Lib.hid (HLQ.out.after hb10)
    have HX10 := Lib.hid (HX9.out.below hb10 HX9.out.lt)
    have HY10 := Lib.hid (HY9.out.below hb10 HY9.out.lt)
    have HPL := Lib.hid (plan_any HL10.out.at_ HG1.out HL10.out.envw.spares)
    rw [HL10.out.hg] at HPL
    unfold ptr at HPL
    clear hb10 HSM HL9 HLQ HX9 HY9
    go_wp2_with fail
    refine HPL.out.mono ?_
    rintro e w11 ⟨v11, rfl, hown11, hb11⟩
    obtain ⟨A5, g5, c5, rfl, hg5, ho5⟩ := own_two hown11
    have HO5 := Lib.hid ho5
    have HL11 := Lib.hid (HL10.out.after hb11)
    have HQ11 := Lib.hid (HQ10.out.after hb11)
    have HX11 := Lib.hid (HX10.out.below hb11 HX10.out.lt)
    have HY11 := Lib.hid (HY10.out.below hb11 HY10.out.lt)
    have HPS := Lib.hid (plan_same HA1.out)
    have hpn : (planM h1 l1).length ≤ 9223372036854775807 := by
      have h1' := congrArg List.length (planM_fst h1 l1)
      rw [List.length_map] at h1'
      have h2 : (liveO h1 l1).length ≤ (oopsL l1).length := List.length_filter_le _ _
      have h3 := oopsL_le HG1.out
      omega
    clear hown11 hb11 ho5 hg5 HPL HL10 HQ10 HX10 HY10
    generalize planM h1 l1 = pl at *
    go_wp2_with fail
    go_loopw [61] (fun iv wr => ∃ j : Nat, iv = .int .i64 j ∧ j ≤ pl.length ∧ Below w11.heap.size w11 wr) (fun iv _ => pl.length - (intOf iv).toNat)
    case atStart => exact ⟨0, rfl, Nat.zero_le _, Below.refl _ _⟩
    case round =>
      obtain ⟨j, rfl, hj, hb⟩ := hrel
      have HB := Lib.hid hb
      clear hb
      by_cases hlt : j < pl.length
      · obtain ⟨rfl, hp5⟩ := HO5.out (by omega)
        have hq : pl[j]? = some pl[j] := List.getElem?_eq_getElem hlt
        obtain ⟨d0, d1⟩ := (hp5.same HB.out.size (HB.out.block _ hp5.1)).2 j _ hq
        have he := HPS.out _ (List.getElem_mem hlt)
        rw [← he] at d1
        have HLT := Lib.hid hlt
        clear hp5 hq he
        generalize (pl[j]).1 = x at *
        have hne : ((x : Int) != (x : Int)) = false := by simp
        go_upto_region 12 with fail
        have hba := HB.out.alloc HB.out.size (.cells #[.int .u32 (x : Int), .int .u32 (x : Int)] 43)
        have HBa := Lib.hid hba
        have y0 := (Blk.new wr 43 #[.int .u32 (x : Int), .int .u32 (x : Int)]).cell 0
        have y1 := (Blk.new wr 43 #[.int .u32 (x : Int), .int .u32 (x : Int)]).cell 1
        clear hba d0 d1 HB
        generalize wr.alloc (.cells #[.int .u32 (x : Int), .int .u32 (x : Int)] 43) = w13 at *
        go_wp2_with fail
        go_roundw
        case rel => exact ⟨j + 1, by go_num, HLT.out, HBa.out⟩
        case measure => have := HLT.out; simp [intOf]; omega
      · obtain rfl : j = pl.length := by omega
        have HLr := Lib.hid (HL11.out.after HB.out)
        have HQr := Lib.hid (HQ11.out.after HB.out)
        have HYr := Lib.hid (HY11.out.below HB.out HY11.out.lt)
        have HCO := Lib.hid (HLr.out.collect HG1.out)
        rw [HH1.out, HV1.out] at HCO
        clear hlt hj HB HL11 HQ11 HX11 HY11 HO5
        go_wp2_with fail
        refine HCO.out.mono ?_
        rintro e w12 ⟨p4, rfl, hL12, hst⟩
        have HL12 := Lib.hid hL12
        have HAq := Lib.hid (HQr.out.at_.same (fun j hj => hst.block j (HQr.out.at_.lt hj) (fun e => by have h1 := HQ9.out j hj; have h2 := HQ8.out.2.1 j e; have h3 := HQ8.out.2.2.1; omega)))
        have HYs := Lib.hid (HYr.out.same (hst.block _ HYr.out.lt (fun e => by have h2 := HQ8.out.2.1 _ e; omega)))
        clear hL12 hst HCO
        go_upto_region 16 with fail
        have hba := (Below.refl w12.heap.size w12).alloc (Nat.le_refl _) (.cells #[.int .i64 x0, .int .i64 0, .int .i64 0, .int .i64 0, .int .i64 0] 46)
        have Y2 := Blk.new w12 46 #[.int .i64 x0, .int .i64 0, .int .i64 0, .int .i64 0, .int .i64 0]
        have y0 := Y2.cell 0
        have y1 := Y2.cell 1
        have y2 := Y2.cell 2
        have y3 := Y2.cell 3
        have y4 := Y2.cell 4
        have k0 := (HYs.out.below hba HYs.out.lt).cell 0
        have HLs := Lib.hid (HL12.out.after hba)
        have HSM := Lib.hid (show Calls Tryd.prog 38 #[.pointer (some ⟨g, 0, none⟩), .pointer (some ⟨gq, 0, none⟩)] (w12.alloc (.cells #[.int .i64 x0, .int .i64 0, .int .i64 0, .int .i64 0, .int .i64 0] 46)) (Told (.bool true) (w12.alloc (.cells #[.int .i64 x0, .int .i64 0, .int .i64 0, .int .i64 0, .int .i64 0] 46))) from by
          have hh := Same_any HLs.out.at_ (HAq.out.below hba) HG1.out.fit HG1.out.fit
          rw [HLs.out.hg, HQr.out.hg, sameH_self] at hh
          exact hh.mono fun e w' ⟨he, m, hm⟩ => ⟨he, hm ▸ below_drewN (Below.refl _ _) m⟩)
        clear hba Y2 HYs HYr
        generalize w12.alloc (.cells #[.int .i64 x0, .int .i64 0, .int .i64 0, .int .i64 0, .int .i64 0] 46) = w14 at *
        go_wp2_with fail
        refine HSM.out.mono ?_
        rintro e w15 ⟨rfl, hb15⟩
        have HF := Lib.hid (HB1.out.trans ((HLs.out.below.trans (hb15.mono HLs.out.below.size)).mono (show W.heap.size ≤ W1.heap.size by omega)))
        clear hb15 y0 y1 y2 y3 y4 k0
        go_wp2_with fail
        go_ret
        exact ⟨rfl, HF.out⟩
end Go.Proofs.YtblekggklimpeaaDoor

namespace Go.Proofs.YtblekggklimpeaaDoor
open Go.RowKit Go.Sort
attribute [local go_sem] Oper.semAt_some
theorem Live.rebase {W w1 w : World} {p : HP} {g : Nat} {h : HM} (L : Live w1 w p g h) (hb : Below W.heap.size W w1) (E : Env W) : Live W w p g h :=
  ⟨L.at_, L.hg, L.good, E, fun j hj => Nat.le_trans hb.size (L.new j hj), hb.trans (L.below.mono hb.size)⟩
theorem fld_to {pl : List (Nat × Nat)} {void x : Nat} : fldM pl void x = if kindM x = 2 then toK pl void x else x := by
  unfold fldM toK whereM
  by_cases hk : kindM x = 2
  · by_cases hm : x ∈ pl.map (·.1)
    · rw [if_neg (fun e => e.2 hm), if_pos hk, if_pos hk, if_pos hm]
    · rw [if_pos ⟨hk, hm⟩, if_pos hk, if_neg hm]
  · rw [if_neg (fun e => hk e.1), if_neg hk, if_neg hk]
theorem isB_obj {h : HM} {l : List Ob} (G : h.Good l) {j : Nat} (hj : j < l.length) : h.isB (2 * posOf (l.take j)) = true := (G.laid.isB_iff _).2 ⟨l.take j, l[j], l.drop (j + 1), split_at l j hj, rfl⟩
theorem get_obj {W w : World} {p : HP} {g : Nat} {h : HM} {l : List Ob} (L : Live W w p g h) (G : h.Good l) {j : Nat} (hj : j < l.length) (hp : (l[j]).x.ptrB = true) {i : Nat} (hi : i < (l[j]).fs.length) :
    Calls Tryd.prog 26 #[.pointer (some ⟨g, 0, none⟩), .int .u32 (2 * posOf (l.take j) : Nat), .int .i64 i] w (Told (.tuple #[.int .u32 ((l[j]).fs.getD i 0 : Nat), .int .i64 0]) w) := by
  have L' := G.laid
  rw [split_at l j hj] at L'
  have hf : h.fields (2 * posOf (l.take j)) = (l[j]).fs := L'.fields_at
  have hh : h.hd (2 * posOf (l.take j) / 2) = (l[j]).x := by rw [half_pos]; exact L'.hd_at
  have := kget_any L.at_ G L.envw.spares (isB_obj G hj) (by rw [hh]; exact hp) i (by rw [hf]; exact hi)
  rw [hf, L.hg] at this
  exact this
theorem head_obj {W w : World} {p : HP} {g : Nat} {h : HM} {l : List Ob} (L : Live W w p g h) (G : h.Good l) {j : Nat} (hj : j < l.length) :
    Calls Tryd.prog 25 #[.pointer (some ⟨g, 0, none⟩), .int .u32 (2 * posOf (l.take j) : Nat)] w (Told (.tuple #[(l[j]).x.val, .int .i64 0]) w) := by
  have hi := isB_obj G hj
  have L' := G.laid
  rw [split_at l j hj] at L'
  have hh : h.hd (2 * posOf (l.take j) / 2) = (l[j]).x := by rw [half_pos]; exact L'.hd_at
  have := L.header (2 * posOf (l.take j)) (isB_u32 G hi)
  have e1 : h.hdO (2 * posOf (l.take j)) = (l[j]).x := by unfold HM.hdO; rw [if_pos hi]; exact hh
  have e2 : h.isE (2 * posOf (l.take j)) = 0 := by unfold HM.isE; simp [hi]
  rw [e1, e2] at this
  exact this
set_option maxRecDepth 100000 in
set_option maxHeartbeats 8000000 in
theorem weakL_any (W : World) (E : Env W) (k : Cs) (hk : k.At W W.heap.size) : Calls Tryd.prog 5 #[k.agg] W (Told (.bool true) W) := by
  have hb1 := (Below.refl W.heap.size W).alloc (Nat.le_refl _) (.cells k.cells 26)
  have B1 := Blk.new W 26 k.cells
  have HB1 := Lib.hid hb1
  have HBX := Lib.hid B1
  have HE := Lib.hid (E.below hb1)
  have HK := Lib.hid (hk.below hb1)
  have HBU := Lib.hid (fun (w : World) (E : Env w) (hk : k.At w w.heap.size) => built_any w E k hk)
  have HAW := Lib.hid (fun (w : World) (E : Env w) => awake_any w E)
  have hsz := World.size_alloc W (.cells k.cells 26)
  clear hb1 B1 E hk
  unfold Cs.cells at HB1 HBX HE HK HBU hsz
  unfold Cs.agg at HBU ⊢
  go_enter Tryd.func5, Tryd.ntmps5
  obtain ⟨x0, x1, x2, x3⟩ := cells4K HBX.out
  go_wp2_with fail
  clear x0 x1 x2 x3
  generalize W.alloc (.cells #[.int .i64 k.size, .slice k.A k.n k.c, .slice k.A' k.n' k.c', .int .u32 (k.last : Nat)] 26) = W1 at *
  refine (HBU.out W1 HE.out HK.out).mono ?_
  rintro e w1 (⟨hno, ⟨v, rfl⟩, hb⟩ | ⟨hok, p, g, rfl, L, hws, hrs⟩)
  · have HB2 := Lib.hid (below_top HB1.out hb)
    have HE2 := Lib.hid (HE.out.below hb)
    have HK2 := Lib.hid (HK.out.below hb)
    have HX2 := Lib.hid (HBX.out.below hb HBX.out.lt)
    obtain ⟨x0, x1, x2, x3⟩ := cells4K HX2.out
    clear hb hno
    go_wp2_with fail
    refine (HBU.out w1 HE2.out HK2.out).mono ?_
    rintro e w2 hbu
    obtain ⟨v2, bv, rfl, hb2⟩ : ∃ v2 bv, e = .returned (.tuple #[v2, .bool bv]) ∧ Below w1.heap.size w1 w2 := by
      rcases hbu with ⟨_, ⟨v, rfl⟩, hb⟩ | ⟨_, p, g, rfl, L, _⟩
      · exact ⟨_, _, rfl, hb⟩
      · exact ⟨_, _, rfl, L.below⟩
    have HB3 := Lib.hid (below_top HB2.out hb2)
    have HE3 := Lib.hid (HE2.out.below hb2)
    clear hbu hb2 x0 x1 x2 x3 HBU
    go_wp2_with fail
    refine (HAW.out _ HE3.out).mono ?_
    rintro e w3 ⟨rfl, hb3⟩
    have HB4 := Lib.hid (below_top HB3.out hb3)
    clear hb3
    go_wp2_with fail
    go_ret
    exact ⟨rfl, HB4.out⟩
  · have HL := Lib.hid L
    obtain ⟨l, G⟩ := L.good
    have HG := Lib.hid G
    have HB2 := Lib.hid (below_top HB1.out L.below)
    have HX2 := Lib.hid (HBX.out.below L.below HBX.out.lt)
    have HK2 := Lib.hid (HK.out.below L.below)
    have HOK := Lib.hid hok
    have HBB := Lib.hid (HBU.out w1 L.envw (HK.out.below L.below))
    obtain ⟨x0, x1, x2, x3⟩ := cells4K HX2.out
    clear L G hws hrs hok HBU HBX HK
    go_wp2_with fail
    refine HBB.out.mono ?_
    rintro e w2 (⟨hno, _⟩ | ⟨_, q, gq, rfl, Lq, _, _⟩)
    · exact absurd HOK.out hno
    have HQ2 := Lib.hid (Lq.rebase HL.out.below HE.out)
    have HD := Lib.hid (show ∀ j, p.has j → j < w1.heap.size from fun j hj => HL.out.at_.lt hj)
    have HDq := Lib.hid (show ∀ j, q.has j → w1.heap.size ≤ j from fun j hj => Lq.new j hj)
    have HL2 := Lib.hid (HL.out.after Lq.below)
    have HB3 := Lib.hid (below_top HB2.out Lq.below)
    have HEV := Lib.hid HL2.out.envw
    clear Lq HBB x0 x1 x2 x3 HX2 HK2 HL HOK
    go_wp2_with fail
    refine (HAW.out _ HEV.out).mono ?_
    rintro e w3 ⟨rfl, hb3⟩
    have HL3 := Lib.hid (HL2.out.after hb3)
    have HQ3 := Lib.hid (HQ2.out.after hb3)
    have HPL := Lib.hid (plan_any HQ3.out.at_ HG.out HQ3.out.envw.spares)
    rw [HQ3.out.hg] at HPL
    unfold ptr at HPL
    clear hb3 HL2 HQ2 HEV HAW
    go_wp2_with fail
    refine HPL.out.mono ?_
    rintro e w4 ⟨v4, rfl, hown4, hb4⟩
    obtain ⟨Ap, gp, cp, rfl, hgp, hop⟩ := own_two hown4
    have HOP := Lib.hid hop
    have HGP := Lib.hid hgp
    have hb5 := hb4.alloc hb4.size (.cells #[.slice Ap (planM k.h l).length cp] 34)
    have HP5 := Lib.hid (Blk.new w4 34 #[.slice Ap (planM k.h l).length cp])
    have HL5 := Lib.hid (HL3.out.after hb5)
    have HQ5 := Lib.hid (HQ3.out.after hb5)
    have HO5 := Lib.hid (fun h0 => And.intro (HOP.out h0).1 ((HOP.out h0).2.same (w' := w4.alloc (.cells #[.slice Ap (planM k.h l).length cp] 34)) (by simp) (Below.heap_alloc _ _ _ (HOP.out h0).2.1)))
    have hbz4 := hb4.size
    have HZ3 := Lib.hid (show w1.heap.size ≤ w3.heap.size from by have h1 := HQ3.out.at_.lt (show q.has q.g from .inl rfl); have h2 := HDq.out q.g (.inl rfl); omega)
    clear hown4 hb4 hop hgp HPL HL3 HQ3 HOP hb5
    go_upto_region 6 with fail
    generalize w4.alloc (.cells #[.slice Ap (planM k.h l).length cp] 34) = w5 at *
    generalize w4.heap.size = b7 at *
    have HCO := Lib.hid (HL5.out.collect HG.out)
    go_wp2_with fail
    refine HCO.out.mono ?_
    rintro e w6 ⟨p', rfl, hL6, hst⟩
    have HL6 := Lib.hid hL6
    have HQ6 := Lib.hid (HQ5.out.beside hst (fun j hj hp => by have h1 := HD.out j hp; have h2 := HDq.out j hj; omega) (fun j hp => HL5.out.new j hp))
    have HP6 := Lib.hid (HP5.out.same (hst.block _ HP5.out.lt (fun e => by have h1 := HD.out _ e; have h2 := HZ3.out; omega)))
    have HO6 := Lib.hid (fun h0 => And.intro (HO5.out h0).1 ((HO5.out h0).2.same hst.size (hst.block _ (HO5.out h0).2.1 (fun e => by have h1 := HD.out _ e; have h2 := HZ3.out; have h3 := HGP.out; omega))))
    have HRT := Lib.hid (hL6.root 0)
    have hvd : (colH k.h l).rootN 0 = voidM k.h l ∧ rootE 0 = 0 := by
      have h64 := HG.out.fit.roots
      constructor
      · have e : (colH k.h l).roots.getD 0 0 = voidM k.h l := by
          show (colR k.h l).getD 0 0 = _
          unfold colR voidM
          rw [List.getD_eq_getElem?_getD, List.getElem?_map, List.getElem?_eq_getElem (by omega), List.getD_eq_getElem?_getD, List.getElem?_eq_getElem (by omega)]
          rfl
        unfold HM.rootN
        rw [if_pos (by decide)]
        exact e
      · rfl
    rw [hvd.1, hvd.2] at HRT
    clear hL6 hst hvd HCO HL5 HQ5 HP5 HO5
    go_wp2_with fail
    refine HRT.out.mono ?_
    rintro e w7 ⟨rfl, rfl⟩
    go_upto_region 9 with fail
    have hb8 : Below w6.heap.size w6 (w6.alloc (.cells #[.int .u32 (voidM k.h l : Int)] 41)) := (Below.refl _ _).alloc (Nat.le_refl _) _
    have HV8 := Lib.hid (Blk.new w6 41 #[.int .u32 (voidM k.h l : Int)])
    have HL8 := Lib.hid (HL6.out.after hb8)
    have HQ8 := Lib.hid (HQ6.out.after hb8)
    have HP8 := Lib.hid (HP6.out.below hb8 HP6.out.lt)
    have HO8 := Lib.hid (fun h0 => And.intro (HO6.out h0).1 ((HO6.out h0).2.same hb8.size (hb8.block _ (HO6.out h0).2.1)))
    clear hb8 HL6 HQ6 HP6 HO6 HRT
    generalize w6.alloc (.cells #[.int .u32 (voidM k.h l : Int)] 41) = w8 at *
    generalize w6.heap.size = b8 at *
    have HPK := Lib.hid (show (planM k.h l).length = (keepZ k.h l).length from planF_len 1 (keepZ k.h l))
    have hpn : (planM k.h l).length ≤ 1048576 := by
      have h1' := congrArg List.length (planM_fst k.h l)
      rw [List.length_map] at h1'
      have h2 : (liveO k.h l).length ≤ (oopsL l).length := List.length_filter_le _ _
      have h3 := oopsL_le HG.out
      omega
    have HWK := Lib.hid (fun (w' : World) (hb : Below w8.heap.size w8 w') (x : Nat) (hx : x < 4294967296) => weak1_any (pl := planM k.h l) (HP8.out.below hb HP8.out.lt) (HV8.out.below hb HV8.out.lt) (fun h0 => ⟨(HO8.out h0).1, (HO8.out h0).2.same hb.size (hb.block _ (HO8.out h0).2.1)⟩) (by omega) x hx)
    have p0 := HP8.out.cell 0
    go_wp2_with fail
    clear p0
    go_loopw [53] (fun iv wr => ∃ j : Nat, iv = .int .i64 j ∧ j ≤ (planM k.h l).length ∧ Below w8.heap.size w8 wr) (fun iv _ => (planM k.h l).length - (intOf iv).toNat)
    case atStart => exact ⟨0, rfl, Nat.zero_le _, Below.refl _ _⟩
    case round =>
      obtain ⟨j, rfl, hj, hb⟩ := hrel
      have HB := Lib.hid hb
      clear hb
      by_cases hlt : j < (planM k.h l).length
      · have hkz : j < (keepZ k.h l).length := by rw [← HPK.out]; exact hlt
        obtain ⟨jj, hjj, hp1, hp2, hp3⟩ := keepZ_mem (List.getElem_mem hkz)
        obtain ⟨rfl, hpa⟩ := HO8.out (by omega)
        obtain ⟨d0, d1⟩ := (hpa.same HB.out.size (HB.out.block _ hpa.1)).2 j _ (plan_get k.h l hkz)
        dsimp only at d0 d1
        rw [hp1] at d0
        have hcl : j < (colL k.h l).length := by rw [colL_len]; exact hkz
        have hcb := colL_get hkz
        rw [hp2] at hcb
        have HHD := Lib.hid (fun (w' : World) (hb : Below w8.heap.size w8 w') => head_obj (HQ8.out.after hb) HG.out hjj)
        have HGO := Lib.hid (fun (w' : World) (hb : Below w8.heap.size w8 w') (hp : (l[jj]).x.ptrB = true) (i : Nat) (hi : i < (l[jj]).fs.length) => get_obj (HQ8.out.after hb) HG.out hjj hp hi)
        have HGN := Lib.hid (fun (w' : World) (hb : Below w8.heap.size w8 w') (hp : (l[jj]).x.ptrB = true) (i : Nat) (hi : i < (l[jj]).fs.length) => show Calls Tryd.prog 26 #[.pointer (some ⟨g, 0, none⟩), .int .u32 (2 * posOf ((colL k.h l).take j) : Nat), .int .i64 i] w' (Told (.tuple #[.int .u32 (fldM (planM k.h l) (voidM k.h l) ((l[jj]).fs.getD i 0) : Nat), .int .i64 0]) w') from by
          have hx : ((colL k.h l)[j]).x.ptrB = true := by rw [hcb]; unfold relob Hd.ptrB; unfold Hd.ptrB at hp; exact hp
          have hl : ((colL k.h l)[j]).fs.length = (l[jj]).fs.length := by rw [hcb, relob_len]
          have := get_obj (HL8.out.after hb) (col_good HG.out) hcl hx (i := i) (by rw [hl]; exact hi)
          have hv : ((colL k.h l)[j]).fs.getD i 0 = fldM (planM k.h l) (voidM k.h l) ((l[jj]).fs.getD i 0) := by
            rw [hcb]
            unfold relob
            simp only [hp, if_true]
            rw [List.getD_eq_getElem?_getD, List.getElem?_map, List.getElem?_eq_getElem hi, List.getD_eq_getElem?_getD, List.getElem?_eq_getElem hi]
            rfl
          rw [hv] at this
          exact this)
        have K := HG.out.laid.ok _ (List.getElem_mem hjj)
        have H32 := Lib.hid K.f32
        have hsz2 := K.size
        have hln : (l[jj]).fs.length ≤ 65535 := by
          have h1 := K.may
          unfold Hd.may at h1
          simp at h1
          omega
        have HLT := Lib.hid hlt
        clear hpa hp1 hp2 hp3 hkz hcl hcb K hj
        generalize 2 * posOf (l.take jj) = o at *
        generalize 2 * posOf ((colL k.h l).take j) = o2 at *
        generalize l[jj] = b at *
        obtain ⟨⟨n, t, sp, cc, r⟩, fs⟩ := b
        simp only at hsz2 hln
        subst hsz2
        unfold Hd.val at HHD
        go_upto_region 12 with fail
        have hba := HB.out.alloc HB.out.size (.cells #[.int .u32 (o : Int), .int .u32 (o2 : Int)] 43)
        have HBa := Lib.hid hba
        have HM := Lib.hid (Blk.new wr 43 #[.int .u32 (o : Int), .int .u32 (o2 : Int)])
        clear hba d0 d1 HB
        generalize wr.alloc (.cells #[.int .u32 (o : Int), .int .u32 (o2 : Int)] 43) = w11 at *
        generalize wr.heap.size = b12 at *
        have m0 := HM.out.cell 0
        have HHD11 := Lib.hid (HHD.out w11 HBa.out)
        clear HHD
        go_wp2_with fail
        refine HHD11.out.mono ?_
        rintro e w12 ⟨rfl, hb12⟩
        go_upto_region 13 with fail
        have hbh := hb12.alloc hb12.size (.cells #[.int .i64 (fs.length : Int), .int .i64 (t : Int), .int .i64 (sp : Int), .int .u32 (cc : Int), .int .u32 (r : Int)] 56)
        have HB13 := Lib.hid (below_top HBa.out hbh)
        have HM13 := Lib.hid (HM.out.below hbh HM.out.lt)
        have HX13 := Lib.hid (Blk.new w12 56 #[.int .i64 (fs.length : Int), .int .i64 (t : Int), .int .i64 (sp : Int), .int .u32 (cc : Int), .int .u32 (r : Int)])
        clear hbh hb12 m0 HM HBa HHD11
        generalize w12.alloc (.cells #[.int .i64 (fs.length : Int), .int .i64 (t : Int), .int .i64 (sp : Int), .int .u32 (cc : Int), .int .u32 (r : Int)] 56) = w13 at *
        generalize w12.heap.size = b13 at *
        have h0 := HX13.out.cell 0
        have h1 := HX13.out.cell 1
        by_cases ht : t = 4
        · have HPT := Lib.hid (show Hd.ptrB ⟨fs.length, t, sp, cc, r⟩ = true from by unfold Hd.ptrB; simp [ht])
          have hne4 : ((t : Int) != 4) = false := by simp; omega
          clear ht
          go_wp2_with fail
          go_loopw [15] (fun iv wr => ∃ i : Nat, iv = .int .i64 i ∧ i ≤ fs.length ∧ Below w13.heap.size w13 wr) (fun iv _ => fs.length - (intOf iv).toNat)
          case atStart => exact ⟨0, rfl, Nat.zero_le _, Below.refl _ _⟩
          case round =>
            clear h0 h1
            obtain ⟨i, rfl, hi, hbi⟩ := hrel
            have HBi := Lib.hid hbi
            have HBw := Lib.hid (below_top HB13.out hbi)
            clear hbi
            have h0 := (HX13.out.below HBi.out HX13.out.lt).cell 0
            by_cases hli : i < fs.length
            · have HGa := Lib.hid (HGO.out wr HBw.out HPT.out i hli)
              have HGb := Lib.hid (fun w' hb => HGN.out w' hb HPT.out i hli)
              have hx32 : fs.getD i 0 < 4294967296 := getD_u32 H32.out i
              have HKD := Lib.hid (fun w' => rkind_any _ hx32 w')
              have HWx := Lib.hid (fun w' hb => HWK.out w' hb _ hx32)
              have HFT := Lib.hid (fld_to (pl := planM k.h l) (void := voidM k.h l) (x := fs.getD i 0))
              have HLTi := Lib.hid hli
              try dsimp only at HGa HGb
              generalize fs.getD i 0 = x at *
              have m0 := (HM13.out.below HBi.out HM13.out.lt).cell 0
              generalize toK (planM k.h l) (voidM k.h l) x = z at *
              generalize fldM (planM k.h l) (voidM k.h l) x = fv at *
              go_wp2_with fail
              refine HGa.out.mono ?_
              rintro e wa ⟨rfl, hba⟩
              have HBa := Lib.hid (below_top HBi.out hba)
              have HBwa := Lib.hid (below_top HBw.out hba)
              have m1 := (HM13.out.below HBa.out HM13.out.lt).cell 1
              clear hba m0 h0 HGa
              go_wp2_with fail
              refine (HGb.out wa HBwa.out).mono ?_
              rintro e wb ⟨rfl, hbb⟩
              have HBb := Lib.hid (below_top HBa.out hbb)
              have HBwb := Lib.hid (below_top HBwa.out hbb)
              clear hbb m1 HGb HBi HBw HBwa
              go_wp2_with fail
              refine (HKD.out _).mono ?_
              rintro e wk ⟨rfl, rfl⟩
              by_cases hk : kindM x = 2
              · rw [hk]
                have hfe := HFT.out
                rw [if_pos hk] at hfe
                subst hfe
                clear hk HKD
                go_wp2_with fail
                refine (HWx.out wb HBwb.out).mono ?_
                rintro e wc ⟨rfl, hbc⟩
                have HBc := Lib.hid (below_top HBb.out hbc)
                have hne : ((fv : Int) != (fv : Int)) = false := by simp
                clear hbc HWx
                go_wp2_with fail
                go_roundw
                case rel => exact ⟨i + 1, by go_num, HLTi.out, HBc.out⟩
                case measure => have := HLTi.out; simp [intOf]; omega
              · have hk0 : ((kindM x : Int) == 2) = false := by simp; omega
                have hfe := HFT.out
                rw [if_neg hk] at hfe
                subst hfe
                have hne : ((fv : Int) != (fv : Int)) = false := by simp
                clear hk HKD
                generalize kindM fv = kd at *
                go_wp2_with fail
                go_roundw
                case rel => exact ⟨i + 1, by go_num, HLTi.out, HBb.out⟩
                case measure => have := HLTi.out; simp [intOf]; omega
            · obtain rfl : i = fs.length := by omega
              clear hli hi
              go_wp2_with fail
              go_roundw
              case rel => exact ⟨j + 1, by go_num, HLT.out, HBw.out⟩
              case measure => have := HLT.out; simp [intOf]; omega
        · have hne : ((t : Int) != 4) = true := by simp; omega
          go_wp2_with fail
          go_roundw
          case rel => exact ⟨j + 1, by go_num, HLT.out, HB13.out⟩
          case measure => have := HLT.out; simp [intOf]; omega
      · obtain rfl : j = (planM k.h l).length := by omega
        have HF := Lib.hid (HB1.out.trans ((HL8.out.after HB.out).below.mono (show W.heap.size ≤ W1.heap.size by omega)))
        clear hlt hj
        go_wp2_with fail
        go_ret
        exact ⟨rfl, HF.out⟩
end Go.Proofs.YtblekggklimpeaaDoor

namespace Go.Proofs.YtblekggklimpeaaDoor
open Go.RowKit
section
variable {h : HM} {l : List Ob}
theorem goes_inj {x y : Nat} (hx : x ∈ liveO h l) (hy : y ∈ liveO h l) (he : goesM (planM h l) x = goesM (planM h l) y) : x = y := by
  obtain ⟨k, hk, e1, g1⟩ := live_kz hx
  obtain ⟨m, hm, e2, g2⟩ := live_kz hy
  have hk' : k < (colL h l).length := by rw [colL_len]; exact hk
  have hm' : m < (colL h l).length := by rw [colL_len]; exact hm
  have h1 : (oopsL (colL h l))[k]'(by rw [oopsL_len]; exact hk') = (oopsL (colL h l))[m]'(by rw [oopsL_len]; exact hm') := by
    have a1 := oopsL_get hk'
    have a2 := oopsL_get hm'
    rw [List.getElem?_eq_getElem (by rw [oopsL_len]; exact hk')] at a1
    rw [List.getElem?_eq_getElem (by rw [oopsL_len]; exact hm')] at a2
    rw [Option.some.inj a1, Option.some.inj a2, ← g1, ← g2, he]
  have h2 := (List.getElem_inj (oopsL_nodup (colL h l))).1 h1
  subst h2
  rw [← e1, ← e2]
/-- The lists of those that are met: none twice, all live. -/
structure OkX (h : HM) (l : List Ob) (X : List Nat) : Prop where
  nd : X.Nodup
  live : ∀ x ∈ X, x ∈ liveO h l
theorem OkX.nil : OkX h l [] := ⟨List.nodup_nil, fun x hx => by cases hx⟩
theorem OkX.add {X : List Nat} (o : OkX h l X) {p : Nat} (hp : kindM p = 2 → p ∈ liveO h l) : OkX h l (addX X p) := by
  unfold addX
  split
  · rename_i hc
    refine ⟨List.nodup_append.2 ⟨o.nd, by simp, fun a ha b hb e => ?_⟩, fun x hx => ?_⟩
    · rcases List.mem_singleton.1 hb with rfl
      exact hc.2 (e ▸ ha)
    · rcases List.mem_append.1 hx with hx | hx
      · exact o.live x hx
      · rcases List.mem_singleton.1 hx with rfl
        exact hp hc.1
  · exact o
theorem OkX.len {X : List Nat} (o : OkX h l X) (G : h.Good l) : X.length ≤ 1048576 := by
  have h1 := len_of_sub X (oopsL l) o.nd (fun x hx => (List.mem_filter.1 (o.live x hx)).1)
  have h2 := oopsL_le G
  omega
theorem addX_get {X : List Nat} {p i : Nat} {x : Nat} (hx : X[i]? = some x) : (addX X p)[i]? = some x := by
  unfold addX
  split
  · rw [List.getElem?_append_left (by have := (List.getElem?_eq_some_iff.1 hx).1; exact this)]
    exact hx
  · exact hx
theorem addX_len (X : List Nat) (p : Nat) : X.length ≤ (addX X p).length := by
  unfold addX
  split <;> simp
/-- What a pair wants. -/
theorem pair_ok (G : h.Good l) {X : List Nat} (o : OkX h l X) {p : Nat} (hp : kindM p = 2 → p ∈ liveO h l) :
    kindM p = 2 → p / 2 < h.words.length + 1 ∧ kindM (goesM (planM h l) p) = 2 ∧ goesM (planM h l) p / 2 < (colH h l).words.length + 1 ∧ (p ∉ X → goesM (planM h l) p ∉ X.map (goesM (planM h l))) ∧ goesM (planM h l) p < 4294967296 := by
  intro hk
  have hl := hp hk
  have hl0 := hl
  obtain ⟨k, hkz, e1, g1⟩ := live_kz hl
  obtain ⟨j, hj, e2, e3, _⟩ := keepZ_mem (List.getElem_mem hkz)
  rw [e1] at e2
  have hk' : k < (colL h l).length := by rw [colL_len]; exact hkz
  have w1 := (w0_parts G hj).2.2.2
  have w2 := (w0_parts (col_good G) hk').2.2.2
  refine ⟨by rw [e2]; omega, isB_kind (col_isB G hl0), by rw [g1]; omega, fun hn hm => ?_, goes_lt G p⟩
  obtain ⟨y, hy, e⟩ := List.mem_map.1 hm
  exact hn (goes_inj (o.live y hy) hl0 e ▸ hy)
/-- A live object ahead and behind. -/
theorem live_obj (G : h.Good l) {x : Nat} (hx : x ∈ liveO h l) : ∃ j, ∃ hj : j < l.length, ∃ k, ∃ hk : k < (colL h l).length, x = 2 * posOf (l.take j) ∧ goesM (planM h l) x = 2 * posOf ((colL h l).take k) ∧ (colL h l)[k] = relob (planM h l) (voidM h l) l[j] ∧
    (∀ y ∈ (l[j]).x.cls :: (if (l[j]).x.fmt = 1 then (l[j]).fs else []), kindM y = 2 → y ∈ liveO h l) := by
  obtain ⟨k, hkz, e1, g1⟩ := live_kz hx
  obtain ⟨j, hj, e2, e3, _⟩ := keepZ_mem (List.getElem_mem hkz)
  rw [e1] at e2
  have hk' : k < (colL h l).length := by rw [colL_len]; exact hkz
  refine ⟨j, hj, k, hk', e2, g1, by rw [colL_get hkz, e3], fun y hy hk2 => ?_⟩
  refine live_of_held G (List.getElem_mem hkz) ?_ hk2
  rw [keepZ_held G (List.getElem_mem hkz), e3]
  exact hy
theorem look_ob {g : HM} {L : List Ob} (G : g.Good L) {j : Nat} (hj : j < L.length) (i : Int) (fs : List Nat) :
    g.lookE (2 * posOf (L.take j)) i fs = if fs.contains (L[j]).x.fmt = false then 21 else if i < 0 ∨ ((L[j]).x.len : Int) ≤ i then 1 else 0 := by
  have L' := G.laid
  rw [split_at L j hj] at L'
  unfold HM.lookE
  rw [isB_obj G hj, half_pos, L'.hd_at]
  simp
theorem fw_ob {g : HM} {L : List Ob} (G : g.Good L) {j : Nat} (hj : j < L.length) {i : Nat} (hi : i < (L[j]).fs.length) : fw g (2 * posOf (L.take j)) i = (L[j]).fs.getD i 0 := by
  have L' := G.laid
  rw [split_at L j hj] at L'
  exact L'.f_at i hi
theorem relob_fs {pl : List (Nat × Nat)} {void : Nat} {b : Ob} (hp : b.x.ptrB = false) : (relob pl void b).fs = b.fs := by
  unfold relob
  rw [hp]
  rfl
theorem relob_fsP {pl : List (Nat × Nat)} {void : Nat} {b : Ob} (hp : b.x.ptrB = true) : (relob pl void b).fs = b.fs.map (fldM pl void) := by
  unfold relob
  rw [hp]
  rfl
/-- Words and bytes of a live object are what they were. -/
theorem keep_word (G : h.Good l) {x : Nat} (hx : x ∈ liveO h l) {j : Nat} (hj : j < l.length) {k : Nat} (hk : k < (colL h l).length) (e1 : x = 2 * posOf (l.take j)) (e2 : goesM (planM h l) x = 2 * posOf ((colL h l).take k)) (e3 : (colL h l)[k] = relob (planM h l) (voidM h l) l[j])
    (hf : (l[j]).x.fmt = 3) {i : Nat} (hi : i < (l[j]).fs.length) : (colH h l).readN (goesM (planM h l) x) i [3] = h.readN x i [3] := by
  have G' := col_good G
  have hp : (l[j]).x.ptrB = false := by unfold Hd.ptrB; simp [hf]
  unfold HM.readN
  rw [e2, e1, look_ob G hj, look_ob G' hk, e3, Int.toNat_natCast, fw_ob G hj hi, fw_ob G' hk (by rw [e3, relob_len]; exact hi)]
  have ef : ((colL h l)[k]).fs = (l[j]).fs := by rw [e3, relob_fs hp]
  rw [ef]
  rfl
theorem keep_byte (G : h.Good l) {x : Nat} (hx : x ∈ liveO h l) {j : Nat} (hj : j < l.length) {k : Nat} (hk : k < (colL h l).length) (e1 : x = 2 * posOf (l.take j)) (e2 : goesM (planM h l) x = 2 * posOf ((colL h l).take k)) (e3 : (colL h l)[k] = relob (planM h l) (voidM h l) l[j])
    (hf : (l[j]).x.fmt = 2) {i : Nat} (hi : i < 4 * (l[j]).fs.length) : (colH h l).byteN (goesM (planM h l) x) i = h.byteN x i ∧ (colH h l).lookE (goesM (planM h l) x) i [2] = h.lookE x i [2] := by
  have G' := col_good G
  have hp : (l[j]).x.ptrB = false := by unfold Hd.ptrB; simp [hf]
  have ef : ((colL h l)[k]).fs = (l[j]).fs := by rw [e3, relob_fs hp]
  have hl : (colH h l).lookE (goesM (planM h l) x) i [2] = h.lookE x i [2] := by
    rw [e2, e1, look_ob G hj, look_ob G' hk, e3]
    rfl
  refine ⟨?_, hl⟩
  unfold HM.byteN
  rw [hl]
  have hfb : fb (colH h l) (goesM (planM h l) x) i = fb h x i := by
    unfold fb
    rw [e2, e1, fw_ob G hj (by omega), fw_ob G' hk (by rw [ef]; omega), ef]
  rw [Int.toNat_natCast, hfb]
end
end Go.Proofs.YtblekggklimpeaaDoor
