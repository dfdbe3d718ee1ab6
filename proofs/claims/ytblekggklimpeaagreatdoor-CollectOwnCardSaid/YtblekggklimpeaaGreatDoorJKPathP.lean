/- Path: the way from a root; the program's. -/
import Derived.Test.YtblekggklimpeaaGreatDoorJKRenM
import Derived.Test.YtblekggklimpeaaGreatDoorJKLay
import Derived.Test.YtblekggklimpeaaGreatDoorJUntil
import Derived.BigQuiet
set_option linter.unusedVariables false
set_option linter.unusedSimpArgs false
namespace Go.Proofs.YtblekggklimpeaaGreatDoor
open Go.RowKit Go.Sort
attribute [local go_sem] Oper.semAt_some
section
variable {w : World} {p : HP} {h : HM} {l : List Ob} {W : World} {g : Nat}
def pathE (h : HM) (o : Nat) : Nat := if h.isB o = true then (if o ∈ metO (walkM (heldM h) h.roots) then 0 else 31) else 3
def pathO (h : HM) (o : Nat) : List Nat := if h.isB o = true then pathL (walkM (heldM h) h.roots) o else []
set_option maxRecDepth 100000 in
set_option maxHeartbeats 8000000 in
theorem path_any (L : Live W w p g h) (G : h.Good l) {o : Nat} (ho : o < 4294967296) : Calls Tryz.prog 15 #[.pointer (some ⟨g, 0, none⟩), .int .u32 o] w (OopsE (pathO h o) (pathE h o) w) := by
  have HI := Lib.hid (L.is o ho)
  have HL := Lib.hid L
  have HG := Lib.hid G
  have HRT := Lib.hid L.roots
  have HRL := Lib.hid G.fit.roots
  have HR32 := Lib.hid G.fit.r32
  clear L G
  by_cases hi : h.isB o = true
  · rw [hi] at HI
    have HIB := Lib.hid hi
    have HPO := Lib.hid (show pathO h o = pathL (walkM (heldM h) h.roots) o by unfold pathO; rw [if_pos hi])
    have HPE := Lib.hid (show pathE h o = if o ∈ metO (walkM (heldM h) h.roots) then 0 else 31 by unfold pathE; rw [if_pos hi])
    clear hi
    go_enter Tryz.func15, Tryz.ntmps15
    go_wp2_with fail
    refine HI.out.mono ?_
    rintro e w0 ⟨rfl, rfl⟩
    go_wp2_with fail
    refine HRT.out.mono ?_
    rintro e w1 ⟨g1, c1, rfl, h11, h12, h13⟩
    rw [u32s_len]
    have HO := Lib.hid (only_any g1 c1 h.roots h11 (by rw [HRL.out]; omega) HR32.out)
    have HB1 := Lib.hid h13
    have HG1 := Lib.hid h12
    clear h11 h12 h13 HRT HI
    go_wp2_with fail
    refine HO.out.mono ?_
    rintro e w2 ⟨rfl, h21, h22⟩
    have HB2 := Lib.hid (HB1.out.trans (h22.below HG1.out HB1.out.size))
    have HWK := Lib.hid (walk_any (HL.out.after HB2.out).at_ HG.out (HL.out.after HB2.out).envw.spares h21 (only_isB HG.out HG.out.sound.roots) (by have := List.length_filter_le k2 h.roots; rw [HRL.out] at this; omega))
    rw [HL.out.hg] at HWK
    clear h21 h22 HO HB1 HG1
    unfold ptr at HWK
    go_wp2_with fail
    refine HWK.out.mono ?_
    rintro e w3 ⟨gt, bm, v, rfl, T, hb3⟩
    rw [walkM_only] at T
    have hln := walk_len HG.out HG.out.sound.roots
    have HBY := Lib.hid (walkM_by (heldM h) h.roots)
    have HND := Lib.hid (walkM_nodup (heldM h) h.roots)
    have HB3 := Lib.hid (below_top HB2.out hb3)
    have HT := Lib.hid T
    have HBZ := Lib.hid HB2.out.size
    have c1 := T.box.cell 1
    have c0 := T.box.cell 0
    have hlook := T.map.look_ok tyOI ho
    clear T hb3 HWK HB2
    generalize walkM (heldM h) h.roots = M at *
    by_cases hm : o ∈ metO M
    · have hdec : decide (o ∈ metO M) = true := by simpa using hm
      rw [hdec] at hlook
      obtain ⟨i, hi, hie⟩ := metO_get hm
      rw [getD_W hi] at hie
      have HPA := Lib.hid (pathL_at HBY.out HND.out hi)
      have HUS := Lib.hid (upK_step HBY.out hi)
      have hby : byOf M o = (M[i]).2 := by rw [← hie]; exact byOf_at HND.out hi
      rw [hby] at hlook
      rw [hie] at HPA HUS
      have hb0 := HBY.out i hi
      have HPE' := Lib.hid (show pathE h o = 0 by rw [HPE.out, if_pos hm])
      have HIL := Lib.hid hi
      clear hdec hm hie hby
      generalize (M[i]).2 = k0 at *
      go_upto_region 8 with fail
      have hba : Below w3.heap.size w3 (w3.alloc (.cells #[.int .u32 (o : Int)] 43)) := (Below.refl _ _).alloc (Nat.le_refl _) _
      have HBa := Lib.hid hba
      have HOW := Lib.hid (show (w3.alloc (.cells #[.int .u32 (o : Int)] 43)).ownsRow w3.heap.size 43 1 (.slice (some ⟨w3.heap.size, 0, none⟩) 1 1) [o].length (u32s [o]) from own_newO w3 [o] 1 rfl (by decide))
      clear hba c0 c1 hlook
      generalize w3.alloc (.cells #[.int .u32 (o : Int)] 43) = w4 at *
      obtain ⟨i0, hi0, hz0, hz1, hz2⟩ := info_parts info_oop
      go_loopw [7, 9] (fun kv ov wr => ∃ (k : Int) (out : List Nat), kv = .int .i64 k ∧ -1 ≤ k ∧ k < (M.length : Int) ∧ wr.ownsRow w3.heap.size 43 1 ov out.length (u32s out) ∧ 0 < out.length ∧ out ++ upK M k = upK M (i : Int) ∧ Below w3.heap.size w3 wr) (fun kv _ _ => (intOf kv + 1).toNat)
      case atStart => exact ⟨k0, [o], rfl, hb0.1, by have := HIL.out; omega, HOW.out, by simp, by rw [HUS.out]; rfl, HBa.out⟩
      case round =>
        clear HOW HBa hb0
        obtain ⟨k, out, rfl, hk1, hk2, how, hol, hup, hb⟩ := hrel
        have HOW := Lib.hid how
        have HB := Lib.hid hb
        have HUP := Lib.hid hup
        clear how hb hup
        by_cases hk0 : 0 ≤ k
        · obtain ⟨j, rfl⟩ := Int.eq_ofNat_of_zero_le hk0
          have hj : j < M.length := by omega
          have HTr := Lib.hid (HT.out.below HB.out)
          obtain ⟨gv, cv, hvv, hrv, _, hgv⟩ := Row.of_any HTr.out.own (by omega)
          subst hvv
          have hmx : (metO M).getD j 0 = (M[j]).1 := by rw [metO_getD, getD_W hj]
          have HST := Lib.hid (upK_step HBY.out hj)
          have hbj := HBY.out j hj
          have hby : byOf M (M[j]).1 = (M[j]).2 := byOf_at HND.out hj
          have HF := Lib.hid (show ∀ w', Below w3.heap.size w3 w' → w'.cell? ⟨gt, 0, none⟩ = some (.slice (some ⟨gv, 0, none⟩) M.length cv) ∧ w'.cell? ⟨gt, 1, none⟩ = some (.map (some bm)) ∧ w'.cell? ⟨gv, j, none⟩ = some (.int .u32 ((M[j]).1 : Nat)) ∧ (Instr.lookup 81 (.map (some bm)) (.int .u32 ((M[j]).1 : Nat)) false).run Tryz.prog w' = .ok (.int .i64 (M[j]).2) w' from fun w' hb => by
            have T' := HT.out.below hb
            have hr' : w'.cell? ⟨gv, j, none⟩ = some (.int .u32 ((M[j]).1 : Nat)) := by
              obtain ⟨gv', cv', hvv', hrv', _⟩ := Row.of_any T'.own (by omega)
              injection hvv' with e1 e2 e3
              injection e1 with e1
              injection e1 with e1
              subst e1
              have := hrv'.cell (u32s_get (l := metO M) (i := j) (by rw [metO_len]; exact hj))
              rw [hmx] at this
              exact this
            have hl' := T'.map.look tyOI (x := (M[j]).1) (T'.m32 _ (List.mem_map.2 ⟨M[j], List.getElem_mem hj, rfl⟩))
            rw [hby] at hl'
            exact ⟨T'.box.cell 0, T'.box.cell 1, hr', hl'⟩)
          obtain ⟨c0, -, hcl, -⟩ := HF.out wr HB.out
          have hgl := hrv.lt
          have hbz := HB.out.size
          have hupl : out.length ≤ 1048576 := by
            have h1 := congrArg List.length HUP.out
            rw [List.length_append] at h1
            have h2 := upK_len HBY.out (i + 1) (i : Int) (by omega) (by have := HIL.out; omega)
            have h3 := HIL.out
            omega
          have HK := Lib.hid hbj
          clear hrv hmx hbj hby HTr
          generalize (M[j]).1 = x at *
          generalize (M[j]).2 = kn at *
          have HJ := Lib.hid hj
          go_upto_region 10 with (at_builtin; refine wpList_append_any _ rfl (.tmp 34) (.tmp 42) _ rfl w3.heap.size 43 i0 _ 1 4 Tryz.underlying23 hi0 hz0 hz1 hz2 rfl (by omega) u9 out.length _ rfl (HOW.out.alloc _) (wr.heap.size + 1) (some ⟨wr.heap.size, 0, none⟩) 1 1 (u32s [x]) rfl ⟨rfl, fun _ => ⟨_, rfl, by simp, cell_one_new _ _ _⟩⟩ (one_u32 _) (by simp only [maxLen]; omega) (by omega) (by first | omega | (simp; omega)) ?_; intro v1 w6 hown6 hgrow hat6; have hb6 := below_grown (Nat.le_refl _) (HB.out.alloc HB.out.size _) hgrow (fun q hq => (HOW.out.lt q hq).1); have HB6 := Lib.hid hb6; have HO6 := Lib.hid hown6; clear hown6 hgrow hat6 hb6)
          refine wp_region_U 12 (fun w' => w'.cell? ⟨gt, 0, none⟩ = some (.slice (some ⟨gv, 0, none⟩) M.length cv) ∧ w'.cell? ⟨gt, 1, none⟩ = some (.map (some bm)) ∧ w'.cell? ⟨gv, j, none⟩ = some (.int .u32 (x : Int)) ∧ (Instr.lookup 81 (.map (some bm)) (.int .u32 (x : Int)) false).run Tryz.prog w' = .ok (.int .i64 kn) w') (by kernel_rfl) ?_
          have hbq : Below w6.heap.size w6 w6.drew := below_drew (Below.refl _ _)
          have hS := HF.out w6.drew (below_top HB6.out hbq)
          have HBq := Lib.hid (below_top HB6.out hbq)
          have HOq := Lib.hid (own_below HO6.out hbq)
          clear hbq c0 hcl HF HB6 HO6
          generalize w6.drew = wq at *
          refine U_read 0 (v := (.pointer (some ⟨gt, 0, none⟩))) rfl (by kernel_rfl) (fun _ _ _ h => h) hS (by rfl) (fun w' hw' => by obtain ⟨h0, h1, h2, h3⟩ := hw'; go_simp) ?_
          try simp only [Act.put, List.setIfInBounds_toArray, List.set_cons_zero, List.set_cons_succ]
          refine U_read 1 (v := (.pointer (some ⟨gt, 0, none⟩))) rfl (by kernel_rfl) (fun _ _ _ h => h) hS (by rfl) (fun w' hw' => by obtain ⟨h0, h1, h2, h3⟩ := hw'; go_simp) ?_
          try simp only [Act.put, List.setIfInBounds_toArray, List.set_cons_zero, List.set_cons_succ]
          refine U_read 2 (v := (.pointer (some ⟨gt, 1, none⟩))) rfl (by kernel_rfl) (fun _ _ _ h => h) hS (by rfl) (fun w' hw' => by obtain ⟨h0, h1, h2, h3⟩ := hw'; go_simp) ?_
          try simp only [Act.put, List.setIfInBounds_toArray, List.set_cons_zero, List.set_cons_succ]
          refine U_read 3 (v := (.map (some bm))) rfl (by kernel_rfl) (fun _ _ _ h => h) hS (by rfl) (fun w' hw' => by obtain ⟨h0, h1, h2, h3⟩ := hw'; go_simp) ?_
          try simp only [Act.put, List.setIfInBounds_toArray, List.set_cons_zero, List.set_cons_succ]
          refine U_read 4 (v := (.pointer (some ⟨gt, 0, none⟩))) rfl (by kernel_rfl) (fun _ _ _ h => h) hS (by rfl) (fun w' hw' => by obtain ⟨h0, h1, h2, h3⟩ := hw'; go_simp) ?_
          try simp only [Act.put, List.setIfInBounds_toArray, List.set_cons_zero, List.set_cons_succ]
          refine U_read 5 (v := (.pointer (some ⟨gt, 0, none⟩))) rfl (by kernel_rfl) (fun _ _ _ h => h) hS (by rfl) (fun w' hw' => by obtain ⟨h0, h1, h2, h3⟩ := hw'; go_simp) ?_
          try simp only [Act.put, List.setIfInBounds_toArray, List.set_cons_zero, List.set_cons_succ]
          refine U_read 6 (v := (.pointer (some ⟨gt, 0, none⟩))) rfl (by kernel_rfl) (fun _ _ _ h => h) hS (by rfl) (fun w' hw' => by obtain ⟨h0, h1, h2, h3⟩ := hw'; go_simp) ?_
          try simp only [Act.put, List.setIfInBounds_toArray, List.set_cons_zero, List.set_cons_succ]
          refine U_read 7 (v := (.slice (some ⟨gv, 0, none⟩) M.length cv)) rfl (by kernel_rfl) (fun _ _ _ h => h) hS (by rfl) (fun w' hw' => by obtain ⟨h0, h1, h2, h3⟩ := hw'; go_simp) ?_
          try simp only [Act.put, List.setIfInBounds_toArray, List.set_cons_zero, List.set_cons_succ]
          refine U_read 8 (v := (.int .i64 (j : Int))) rfl (by kernel_rfl) (fun _ _ _ h => h) hS (by rfl) (fun w' hw' => by obtain ⟨h0, h1, h2, h3⟩ := hw'; go_simp) ?_
          try simp only [Act.put, List.setIfInBounds_toArray, List.set_cons_zero, List.set_cons_succ]
          refine U_read 9 (v := (.pointer (some ⟨gv, j, none⟩))) rfl (by kernel_rfl) (fun _ _ _ h => h) hS (by rfl) (fun w' hw' => by obtain ⟨h0, h1, h2, h3⟩ := hw'; go_simp) ?_
          try simp only [Act.put, List.setIfInBounds_toArray, List.set_cons_zero, List.set_cons_succ]
          refine U_read 10 (v := (.int .u32 (x : Int))) rfl (by kernel_rfl) (fun _ _ _ h => h) hS (by rfl) (fun w' hw' => by obtain ⟨h0, h1, h2, h3⟩ := hw'; go_simp) ?_
          try simp only [Act.put, List.setIfInBounds_toArray, List.set_cons_zero, List.set_cons_succ]
          refine U_read 11 (v := (.int .i64 kn)) rfl (by kernel_rfl) (fun _ _ _ h => h) hS (by rfl) (fun w' hw' => by obtain ⟨h0, h1, h2, h3⟩ := hw'; go_simp) ?_
          try simp only [Act.put, List.setIfInBounds_toArray, List.set_cons_zero, List.set_cons_succ]
          refine U_one 12 (by kernel_rfl) rfl rfl (fun K hK => ?_)
          go_simp
          refine hK _ _ (fun h => absurd h (by decide)) ?_
          clear hK K
          try simp only [Act.put, List.setIfInBounds_toArray, List.set_cons_zero, List.set_cons_succ]
          refine U_done (by kernel_rfl) ?_ _
          simp only [Calm, Exit.then]
          clear hS
          go_wp2_with fail
          go_roundw
          case rel => exact ⟨kn, out ++ [x], rfl, HK.out.1, by have := HK.out.2; have := HJ.out; omega, by rw [u32s_app, List.length_append]; exact HOq.out, by simp, by rw [List.append_assoc]; show out ++ (x :: upK M kn) = _; rw [← HST.out]; exact HUP.out, HBq.out⟩
          case measure => have := HK.out; simp [intOf]; omega
        · have HNEG := Lib.hid (show upK M k = [] from upK_neg (by omega))
          have hd0 : decide ((0 : Int) ≤ k) = false := decide_eq_false hk0
          have HOUT := Lib.hid (show out = upK M (i : Int) from by
            have := HUP.out
            rw [HNEG.out, List.append_nil] at this
            exact this)
          obtain ⟨go, co, hvo, hro, _, hgo⟩ := Row.of_any HOW.out hol
          subst hvo
          have HRV := Lib.hid (rev_any (xs := out) (B := w3.heap.size) hro hgo (by
            rw [HOUT.out]
            have h2 := upK_len HBY.out (i + 1) (i : Int) (by omega) (by have := HIL.out; omega)
            have h3 := HIL.out
            omega))
          unfold RevP at HRV
          clear hro
          go_wp2_with fail
          refine HRV.out.mono ?_
          rintro e w9 ⟨rfl, hr9, hb9⟩
          have HR9 := Lib.hid (row_own hr9 (B := w.heap.size) (by have h1 := HB3.out.size; omega))
          have HB9 := Lib.hid (HB3.out.trans ((HB.out.trans hb9).mono HB3.out.size))
          clear hr9 hb9 HRV
          go_wp2_with fail
          go_ret2
          refine ⟨_, by rw [HPE'.out]; rfl, ?_, HB9.out⟩
          rw [HPO.out, HPA.out, ← HOUT.out]
          have := HR9.out
          rw [List.length_reverse] at this
          rw [List.length_reverse]
          exact this
    · have hdec : decide (o ∈ metO M) = false := by simpa using hm
      rw [hdec] at hlook
      have HPE' := Lib.hid (show pathE h o = 31 by rw [HPE.out, if_neg hm])
      have HPO' := Lib.hid (show pathO h o = [] by rw [HPO.out, pathL_no hm])
      clear hdec hm
      go_wp2_with fail
      go_ret2
      exact ⟨_, by rw [HPE'.out]; rfl, by rw [HPO'.out]; exact ⟨rfl, .inl ⟨rfl, rfl⟩⟩, HB3.out⟩
  · have HR := Lib.hid (show pathO h o = [] by unfold pathO; rw [if_neg hi])
    have HE := Lib.hid (show pathE h o = 3 by unfold pathE; rw [if_neg hi])
    have hi' : h.isB o = false := by simpa using hi
    rw [hi'] at HI
    clear hi hi'
    go_enter Tryz.func15, Tryz.ntmps15
    go_wp2_with fail
    refine HI.out.mono ?_
    rintro e w1 ⟨rfl, rfl⟩
    go_wp2_with fail
    go_ret2
    exact ⟨_, by rw [HE.out]; rfl, by rw [HR.out]; exact ⟨rfl, .inl ⟨rfl, rfl⟩⟩, Below.refl _ _⟩
end
end Go.Proofs.YtblekggklimpeaaGreatDoor
