/- The document's Walk. -/
/- The document's Live. -/
/- The document's Plan. -/
/- The document's moved. -/
import Derived.Test.YtblekggklimpeaaDoorJKRNames
import Derived.Test.YtblekggklimpeaaDoorJUntil
import Derived.Test.YtblekggklimpeaaDoorJSoAll
import Derived.Test.YtblekggklimpeaaDoorJKBuilt
set_option linter.unusedVariables false
set_option linter.unusedSimpArgs false
set_option linter.unusedSectionVars false
namespace Go.Proofs.YtblekggklimpeaaDoor
open Go.RowKit Go.Sort
attribute [local go_sem] Oper.semAt_some
theorem make_bool1 (n : Nat) (hn : n ≤ 1048576) (w : World) :
    (Instr.makeSlice 95 (.int .i64 ((n : Int) + 1)) (.int .i64 ((n : Int) + 1))).run Tryd.prog w = .ok (.slice (some ⟨w.heap.size, 0, none⟩) (n + 1) (n + 1)) (w.alloc (.cells (zcells (.bool false) (n + 1)) 4)) := by
  obtain ⟨i0, hi0, hz0, hz1, hz2⟩ := info_parts info_bool
  have := run_make_rowN (P := Tryd.prog) 95 4 i0 _ Tryd.underlying95 hi0 hz0 .i64 .i64 (n + 1) (n + 1) (Nat.le_refl _) (by rw [hz2]; omega) (by omega) w
  have e : madeCells (Value.bool false).cells ((n + 1) * 1) = zcells (.bool false) (n + 1) := by
    apply Array.ext
    · simp [madeCells, zcells, Value.cells]
    · intro i h1 h2
      simp [madeCells, zcells, Value.cells, Nat.mod_one]
  rw [hz1, e] at this
  rw [show ((n : Int) + 1) = ((n + 1 : Nat) : Int) by omega]
  exact this
/-- What Walk answers. -/
def RWalkP (h : HM) (fr : List Nat) (w : World) (e : Ending) (w' : World) : Prop :=
  ∃ vl vc, e = .returned (.tuple #[vl, vc]) ∧ w'.ownsRow w.heap.size 41 1 vl (walkM (heldM h) fr).length (u32s (metO (walkM (heldM h) fr))) ∧ w'.ownsRow w.heap.size 3 1 vc (walkM (heldM h) fr).length (zsK ((walkM (heldM h) fr).map (·.2))) ∧ Below w.heap.size w w'
theorem wrU {q : Nat} (h : q ≤ 1048576) : IntKind.u32.wrap (q : Int) = (q : Int) := IntWalk.u32_in _ (by omega)
theorem wrI {q : Nat} (h : q ≤ 1048576) : IntKind.i64.wrap (q : Int) = (q : Int) := IntWalk.i64_in _ (by omega)
theorem tdiv2q (q : Nat) : ((2 * q : Nat) : Int).tdiv 2 = (q : Int) := by rw [Int.tdiv_eq_ediv_of_nonneg (by omega)]; omega
theorem div2q (q : Nat) : ((2 * q : Nat) : Int) / 2 = (q : Int) := by omega
theorem putsW_len (l : Wk) (os : List Nat) (b : Int) : (putsW l os b).length ≤ l.length + os.length := by
  induction os generalizing l with
  | nil => simp [putsW]
  | cons a q ih =>
    rw [putsW_cons]
    have h1 := ih (l := putW l a b)
    have h2 : (putW l a b).length ≤ l.length + 1 := by unfold putW; split <;> simp
    simp only [List.length_cons]
    omega
theorem putsW_take (l : Wk) (os : List Nat) (b : Int) {k : Nat} (hk : k < os.length) : putsW l (os.take (k + 1)) b = putW (putsW l (os.take k) b) (os.getD k 0) b := by
  rw [List.take_add_one, List.getElem?_eq_getElem hk, List.getD_eq_getElem?_getD, List.getElem?_eq_getElem hk]
  exact putsW_snoc _ _ _ _
section
variable {h : HM} {l : List Ob}
theorem isB_half (G : h.Good l) {o : Nat} (hi : h.isB o = true) : o / 2 < h.words.length + 1 := by
  obtain ⟨a, b, c, rfl, rfl⟩ := (G.laid.isB_iff o).1 hi
  have := G.laid.words_len
  omega
theorem isB_k (G : h.Good l) {o : Nat} (hi : h.isB o = true) : ∃ k, ∃ hk : k < l.length, o = 2 * posOf (l.take k) := by
  have hm := isB_mem G hi
  unfold oopsL at hm
  obtain ⟨k, hk, rfl⟩ := List.mem_map.1 hm
  exact ⟨k, List.mem_range.1 hk, rfl⟩
theorem valB_isB {o : Nat} (hv : h.valB o = true) (hk : kindM o = 2) : h.isB o = true := by
  unfold HM.valB objB at hv
  simpa [hk] using hv
end
section
variable {h : HM} {l : List Ob}
theorem held_len (G : h.Good l) {k : Nat} (hk : k < l.length) : (heldM h (2 * posOf (l.take k))).length = holdN (posOf (l.take k)) l[k] := by
  rw [← num_held G hk, List.length_map, List.length_take]
  exact Nat.min_eq_left (holdN_le _ _)
theorem held_at (G : h.Good l) {k : Nat} (hk : k < l.length) {j : Nat} (hj : j < (heldM h (2 * posOf (l.take k))).length) :
    ∃ x, (nmsK (posOf (l.take k)) l[k])[j]? = some x ∧ x < h.words.length ∧ h.words.getD x 0 = (heldM h (2 * posOf (l.take k))).getD j 0 := by
  have hl := held_len G hk
  have hle := holdN_le (posOf (l.take k)) l[k]
  have hjn : j < (nmsK (posOf (l.take k)) l[k]).length := by omega
  refine ⟨(nmsK (posOf (l.take k)) l[k])[j], List.getElem?_eq_getElem hjn, ?_, ?_⟩
  · have h1 := (nmsK_get (List.getElem?_eq_getElem hjn)).2.1
    have h2 := (w0_parts G hk).2.2.2
    omega
  · have h0 := num_held G hk
    rw [List.getD_eq_getElem?_getD (l := heldM h (2 * posOf (l.take k))), ← h0, List.getElem?_map, List.getElem?_take_of_lt (by omega), List.getElem?_eq_getElem hjn]
    rfl
theorem held_isB (G : h.Good l) {k : Nat} (hk : k < l.length) {x : Nat} (hx : x ∈ heldM h (2 * posOf (l.take k))) : x < 4294967296 ∧ (kindM x = 2 → h.isB x = true) := by
  have hi : h.isB (2 * posOf (l.take k)) = true := (G.laid.isB_iff _).2 ⟨l.take k, l[k], l.drop (k + 1), split_at l k hk, rfl⟩
  exact ⟨names_32 G hi x (held_names hx), fun h2 => names_isB G hi (held_names hx) h2⟩
theorem getD_mem' {xs : List Nat} {j : Nat} (hj : j < xs.length) : xs.getD j 0 ∈ xs := by
  rw [List.getD_eq_getElem?_getD, List.getElem?_eq_getElem hj]; exact List.getElem_mem _
theorem ints_atK {xs : List Nat} {j x : Nat} (h : xs[j]? = some x) : (ints xs)[j]? = some (.int .i64 (x : Int)) := by
  unfold ints; rw [List.getElem?_map, h]; rfl
end
section
variable {w : World} {h : HM} {l : List Ob} {A A' Af : Option Addr} {n c n' c' nf cf : Nat}
set_option maxRecDepth 100000 in
set_option maxHeartbeats 8000000 in
theorem rwalk_any (G : h.Good l) (hr : Reads w w.heap.size 1 A n (u32s h.words)) {fr : List Nat} (hf : Reads w w.heap.size 1 Af fr.length (u32s fr)) (hv : ∀ x ∈ fr, h.valB x = true) (h32 : ∀ x ∈ fr, x < 4294967296) (hfl : fr.length ≤ 1048576) :
    Calls Tryd.prog 47 #[StV A n c A' n' c', .slice Af fr.length cf] w (RWalkP h fr w) := by
  have hln : n = h.words.length := by have := hr.1; rw [u32s_len] at this; omega
  subst hln
  have hwl : h.words.length ≤ 1048576 := by have := G.fit.room; have := G.fit.hi; omega
  have HG := Lib.hid G
  have HV := Lib.hid (fun x hx => And.intro (hv x hx) (h32 x hx))
  have HRW := Lib.hid (fun (w' : World) (hb : Below w.heap.size w w') => (hr.below hb).more hb.size)
  have HRF := Lib.hid (fun (w' : World) (hb : Below w.heap.size w w') => hf.below hb)
  have hb1 : Below w.heap.size w (((w.alloc (.cells #[.slice A h.words.length c, .slice A' n' c'] 32)).alloc (.cells (zcells (.bool false) (h.words.length + 1)) 4)).alloc (.cells #[.slice none 0 0, .slice none 0 0, .slice (some ⟨w.heap.size + 1, 0, none⟩) (h.words.length + 1) (h.words.length + 1)] 130)) :=
    (((Below.refl w.heap.size w).alloc (Nat.le_refl _) _).alloc (by simp) _).alloc (by simp; omega) _
  have S0 := ((Blk.new w 32 #[.slice A h.words.length c, .slice A' n' c']).alloc (.cells (zcells (.bool false) (h.words.length + 1)) 4)).alloc (.cells #[.slice none 0 0, .slice none 0 0, .slice (some ⟨w.heap.size + 1, 0, none⟩) (h.words.length + 1) (h.words.length + 1)] 130)
  have K0 : WkAt (((w.alloc (.cells #[.slice A h.words.length c, .slice A' n' c'] 32)).alloc (.cells (zcells (.bool false) (h.words.length + 1)) 4)).alloc (.cells #[.slice none 0 0, .slice none 0 0, .slice (some ⟨w.heap.size + 1, 0, none⟩) (h.words.length + 1) (h.words.length + 1)] 130)) w.heap.size (w.heap.size + 1 + 1) (w.heap.size + 1) (h.words.length + 1) (.slice none 0 0) (.slice none 0 0) [] := by
    refine ⟨?_, ⟨rfl, .inl ⟨rfl, rfl⟩⟩, ⟨rfl, .inl ⟨rfl, rfl⟩⟩, ?_, by omega, by omega⟩
    · have := Blk.new ((w.alloc (.cells #[.slice A h.words.length c, .slice A' n' c'] 32)).alloc (.cells (zcells (.bool false) (h.words.length + 1)) 4)) 130 #[.slice none 0 0, .slice none 0 0, .slice (some ⟨w.heap.size + 1, 0, none⟩) (h.words.length + 1) (h.words.length + 1)]
      simpa using this
    · have := (falses_row (w.alloc (.cells #[.slice A h.words.length c, .slice A' n' c'] 32)) (h.words.length + 1) (by simp only [maxLen]; omega)).alloc (.cells #[.slice none 0 0, .slice none 0 0, .slice (some ⟨w.heap.size + 1, 0, none⟩) (h.words.length + 1) (h.words.length + 1)] 130)
      rw [show metO ([] : Wk) = [] from rfl, markL_nil]
      simpa using this
  have hmk := make_bool1 h.words.length hwl
  have HB1 := Lib.hid hb1
  have HS1 := Lib.hid S0
  have HK1 := Lib.hid K0
  clear hb1 S0 K0 hr hf hv h32 G
  unfold StV
  go_enter Tryd.func47, Tryd.ntmps47
  have x0 := (Blk.new w 32 #[.slice A h.words.length c, .slice A' n' c']).cell 0
  go_wp2_with fail
  clear hmk x0
  generalize (((w.alloc (.cells #[.slice A h.words.length c, .slice A' n' c'] 32)).alloc (.cells (zcells (.bool false) (h.words.length + 1)) 4)).alloc (.cells #[.slice none 0 0, .slice none 0 0, .slice (some ⟨w.heap.size + 1, 0, none⟩) (h.words.length + 1) (h.words.length + 1)] 130)) = W1 at *
  go_loopw [23] (fun iv wr => ∃ (k : Nat) (vl vc : Value), iv = .int .i64 k ∧ k ≤ fr.length ∧ WkAt wr w.heap.size (w.heap.size + 1 + 1) (w.heap.size + 1) (h.words.length + 1) vl vc (putsW [] (fr.take k) (-1)) ∧ Blk wr w.heap.size 32 #[.slice A h.words.length c, .slice A' n' c'] ∧ Below w.heap.size w wr) (fun iv _ => fr.length - (intOf iv).toNat)
  case atStart => exact ⟨0, _, _, rfl, by omega, HK1.out, HS1.out, HB1.out⟩
  case round =>
    clear HK1 HS1 HB1
    obtain ⟨k, vl, vc, rfl, hk, hkk, hs, hb⟩ := hrel
    have HK := Lib.hid hkk
    have HS := Lib.hid hs
    have HB := Lib.hid hb
    clear hkk hs hb
    by_cases hlt : k < fr.length
    · obtain ⟨ad, u, rfl, _, hu, hc⟩ := (HRF.out wr HB.out).at_ hlt
      rw [u32s_get hlt] at hu
      injection hu with hu
      subst hu
      have hmem : fr.getD k 0 ∈ fr := by rw [List.getD_eq_getElem?_getD, List.getElem?_eq_getElem hlt]; exact List.getElem_mem _
      have hvx := HV.out _ hmem
      have HPT := Lib.hid (rput_any HK.out HB.out.size hvx.2 (fun hk2 => isB_half HG.out (valB_isB hvx.1 hk2)) (-1) (by have := putsW_len [] (fr.take k) (-1); rw [List.length_take] at this; simp at this; omega))
      rw [← putsW_take _ _ _ hlt] at HPT
      have HLT := Lib.hid hlt
      clear hvx hmem
      generalize fr.getD k 0 = x at *
      go_wp2_with fail
      refine HPT.out.mono ?_
      rintro e w5 ⟨rfl, vl', vc', hk5, hf5⟩
      have HK5 := Lib.hid hk5
      have HB5 := Lib.hid (HB.out.trans (hf5.below HK.out HB.out.size))
      have HS5 := Lib.hid (HS.out.same (hf5.same _ HS.out.lt (by omega) (by omega) (own_ne_blk HK.out.list HS.out (by decide)) (own_ne_blk HK.out.came HS.out (by decide))))
      clear hk5 hf5 HPT HK HS HB hc
      go_wp2_with fail
      go_roundw
      case rel => exact ⟨k + 1, vl', vc', by go_num, HLT.out, HK5.out, HS5.out, HB5.out⟩
      case measure => have := HLT.out; simp [intOf]; omega
    · obtain rfl : k = fr.length := by omega
      rw [List.take_length] at HK
      clear hlt hk
      go_wp2_with fail
      have HGO := Lib.hid (GoW.start (heldM h) fr)
      have HIS := Lib.hid (show ∀ o ∈ metO (putsW [] fr (-1)), h.isB o = true from putsW_isB (fun o ho => by simp [metO] at ho) (fun x hx hk => valB_isB (HV.out x hx).1 hk))
      generalize putsW [] fr (-1) = L0 at *
      go_loopw [9] (fun iv wr => ∃ (i : Nat) (L : Wk) (vl vc : Value), iv = .int .i64 i ∧ GoW (heldM h) fr i L ∧ (∀ o ∈ metO L, h.isB o = true) ∧ WkAt wr w.heap.size (w.heap.size + 1 + 1) (w.heap.size + 1) (h.words.length + 1) vl vc L ∧ Blk wr w.heap.size 32 #[.slice A h.words.length c, .slice A' n' c'] ∧ Below w.heap.size w wr) (fun iv _ => 4194304 - (intOf iv).toNat)
      case atStart => exact ⟨0, L0, vl, vc, rfl, HGO.out, HIS.out, HK.out, HS.out, HB.out⟩
      case round =>
        clear HK HS HB HGO HIS HV HRF
        obtain ⟨i, L, vl, vc, rfl, hgo, his, hkk, hs, hb⟩ := hrel
        have HK := Lib.hid hkk
        have HS := Lib.hid hs
        have HB := Lib.hid hb
        have HGO := Lib.hid hgo
        have HIS := Lib.hid his
        clear hkk hs hb hgo his
        have HLN := Lib.hid (wk_len HG.out HGO.out.nodup HIS.out)
        have c0 := HK.out.box.cell 0
        by_cases hi : i < L.length
        · obtain ⟨gv, cv, hvv, hrv, _, hgv⟩ := Row.of_any HK.out.list (by omega)
          subst hvv
          have hcl := hrv.cell (u32s_get (l := metO L) (i := i) (by rw [metO_len]; exact hi))
          have HNX := Lib.hid (HGO.out.next hi HLN.out)
          rw [← metO_getD] at HNX
          obtain ⟨k, hk, ho⟩ := isB_k HG.out (HIS.out _ (metO_mem hi))
          rw [ho] at hcl HNX
          have HNM := Lib.hid (fun (w' : World) (hb : Below w.heap.size w w') => rnames_any (A' := A') (n' := n') (c' := c') (c := c) HG.out (HRW.out w' hb) hk)
          have HHL := Lib.hid (held_len HG.out hk)
          have HHA := Lib.hid (fun j hj => held_at HG.out hk (j := j) hj)
          have HHB := Lib.hid (fun x hx => held_isB HG.out hk (x := x) hx)
          have hp1 := posOf_take_le l k
          have hp2 : posOf (l.take k) ≤ 1048576 := by
            have := (w0_parts HG.out hk).2.2.2
            omega
          have hNL : (nmsK (posOf (l.take k)) l[k]).length ≤ 1048576 := by
            have h1 := nmsK_len (posOf (l.take k)) l[k]
            have h2 := (w0_parts HG.out hk).2.2.2
            omega
          have hN0 := nmsK_pos (posOf (l.take k)) l[k]
          have hHN := holdN_le (posOf (l.take k)) l[k]
          generalize posOf (l.take k) = q at *
          generalize l[k] = b at *
          have hq := tdiv2q q
          have hq2 := div2q q
          have hwq := wrK hp2
          have hwu := wrU hp2
          have hwi := wrI hp2
          generalize hoo : 2 * q = o at *
          unfold RNamP StV at HNM
          generalize heldM h o = hl at *
          generalize nmsK q b = nl at *
          generalize holdN q b = hn at *
          have HIN := Lib.hid hi
          have s0 := HS.out.cell 0
          have s1 := HS.out.cell 1
          clear ho hk hp1 hp2 hrv
          go_upto_region 10 with fail
          refine wp_region_U 15 (fun w' => w'.cell? ⟨w.heap.size, 0, none⟩ = some (.slice A h.words.length c) ∧ w'.cell? ⟨w.heap.size, 1, none⟩ = some (.slice A' n' c') ∧ w'.cell? ⟨w.heap.size + 1 + 1, 0, none⟩ = some (.slice (some ⟨gv, 0, none⟩) L.length cv) ∧ w'.cell? ⟨gv, i, none⟩ = some (.int .u32 (o : Int))) (by kernel_rfl) ?_
          have hbd : Below wr.heap.size wr wr.drew := below_drew (Below.refl _ _)
          have hS : wr.drew.cell? ⟨w.heap.size, 0, none⟩ = some (.slice A h.words.length c) ∧ wr.drew.cell? ⟨w.heap.size, 1, none⟩ = some (.slice A' n' c') ∧ wr.drew.cell? ⟨w.heap.size + 1 + 1, 0, none⟩ = some (.slice (some ⟨gv, 0, none⟩) L.length cv) ∧ wr.drew.cell? ⟨gv, i, none⟩ = some (.int .u32 (o : Int)) := ⟨s0, s1, c0, hcl⟩
          have HKd := Lib.hid (HK.out.below hbd)
          have HSd := Lib.hid (HS.out.below hbd HS.out.lt)
          have HBd := Lib.hid (below_top HB.out hbd)
          have HNd := Lib.hid (HNM.out wr.drew HBd.out)
          clear hbd HK HS HB HNM s0 s1 c0 hcl
          generalize wr.drew = Wq at *
          refine U_read 0 (v := (.agg #[.slice A h.words.length c, .slice A' n' c'])) rfl (by kernel_rfl) (fun _ _ _ h => h) hS (by rfl) (fun w' hw' => by obtain ⟨h0, h1, h2, h3⟩ := hw'; go_simp) ?_
          try simp only [Act.put, List.setIfInBounds_toArray, List.set_cons_zero, List.set_cons_succ]
          refine U_read 1 (v := (.pointer (some ⟨w.heap.size + 1 + 1, 0, none⟩))) rfl (by kernel_rfl) (fun _ _ _ h => h) hS (by rfl) (fun w' hw' => by obtain ⟨h0, h1, h2, h3⟩ := hw'; go_simp) ?_
          try simp only [Act.put, List.setIfInBounds_toArray, List.set_cons_zero, List.set_cons_succ]
          refine U_read 2 (v := (.pointer (some ⟨w.heap.size + 1 + 1, 0, none⟩))) rfl (by kernel_rfl) (fun _ _ _ h => h) hS (by rfl) (fun w' hw' => by obtain ⟨h0, h1, h2, h3⟩ := hw'; go_simp) ?_
          try simp only [Act.put, List.setIfInBounds_toArray, List.set_cons_zero, List.set_cons_succ]
          refine U_read 3 (v := (.pointer (some ⟨w.heap.size + 1 + 1, 0, none⟩))) rfl (by kernel_rfl) (fun _ _ _ h => h) hS (by rfl) (fun w' hw' => by obtain ⟨h0, h1, h2, h3⟩ := hw'; go_simp) ?_
          try simp only [Act.put, List.setIfInBounds_toArray, List.set_cons_zero, List.set_cons_succ]
          refine U_read 4 (v := (.slice (some ⟨gv, 0, none⟩) L.length cv)) rfl (by kernel_rfl) (fun _ _ _ h => h) hS (by rfl) (fun w' hw' => by obtain ⟨h0, h1, h2, h3⟩ := hw'; go_simp) ?_
          try simp only [Act.put, List.setIfInBounds_toArray, List.set_cons_zero, List.set_cons_succ]
          refine U_read 5 (v := (.int .i64 (i : Int))) rfl (by kernel_rfl) (fun _ _ _ h => h) hS (by rfl) (fun w' hw' => by obtain ⟨h0, h1, h2, h3⟩ := hw'; go_simp) ?_
          try simp only [Act.put, List.setIfInBounds_toArray, List.set_cons_zero, List.set_cons_succ]
          refine U_read 6 (v := (.pointer (some ⟨gv, i, none⟩))) rfl (by kernel_rfl) (fun _ _ _ h => h) hS (by rfl) (fun w' hw' => by obtain ⟨h0, h1, h2, h3⟩ := hw'; go_simp) ?_
          try simp only [Act.put, List.setIfInBounds_toArray, List.set_cons_zero, List.set_cons_succ]
          refine U_read 7 (v := (.int .u32 (o : Int))) rfl (by kernel_rfl) (fun _ _ _ h => h) hS (by rfl) (fun w' hw' => by obtain ⟨h0, h1, h2, h3⟩ := hw'; go_simp) ?_
          try simp only [Act.put, List.setIfInBounds_toArray, List.set_cons_zero, List.set_cons_succ]
          refine U_read 8 (v := (.int .u32 (q : Int))) rfl (by kernel_rfl) (fun _ _ _ h => h) hS (by rfl) (fun w' hw' => by obtain ⟨h0, h1, h2, h3⟩ := hw'; go_simp) ?_
          try simp only [Act.put, List.setIfInBounds_toArray, List.set_cons_zero, List.set_cons_succ]
          refine U_read 9 (v := (.int .i64 (q : Int))) rfl (by kernel_rfl) (fun _ _ _ h => h) hS (by rfl) (fun w' hw' => by obtain ⟨h0, h1, h2, h3⟩ := hw'; go_simp) ?_
          try simp only [Act.put, List.setIfInBounds_toArray, List.set_cons_zero, List.set_cons_succ]
          refine U_one 10 (by kernel_rfl) rfl rfl (fun K hK => ?_)
          go_simp
          refine HNd.out.mono ?_
          rintro e W5 ⟨v5, rfl, hown5, hb5⟩
          obtain ⟨g5, c5, rfl, hr5, _, hg5⟩ := Row.of_any hown5 hN0
          have HR5 := Lib.hid hr5
          have HK5 := Lib.hid (HKd.out.below hb5)
          have HS5 := Lib.hid (HSd.out.below hb5 HSd.out.lt)
          have HB5 := Lib.hid (below_top HBd.out hb5)
          have HN5 := Lib.hid (show (Value.slice (some ⟨gv, 0, none⟩) L.length cv).ownBlock ≠ some g5 ∧ vc.ownBlock ≠ some g5 from ⟨fun e => by have := (HKd.out.list.lt g5 e).2; omega, fun e => by have := (HKd.out.came.lt g5 e).2; omega⟩)
          have hS5 : W5.cell? ⟨w.heap.size, 0, none⟩ = some (.slice A h.words.length c) ∧ W5.cell? ⟨w.heap.size, 1, none⟩ = some (.slice A' n' c') ∧ W5.cell? ⟨w.heap.size + 1 + 1, 0, none⟩ = some (.slice (some ⟨gv, 0, none⟩) L.length cv) ∧ W5.cell? ⟨gv, i, none⟩ = some (.int .u32 (o : Int)) := ⟨HS5.out.cell 0, HS5.out.cell 1, HK5.out.box.cell 0, (hb5.cell (p := ⟨gv, i, none⟩) (HKd.out.list.lt gv rfl).2).trans hS.2.2.2⟩
          clear hown5 hb5 hr5 HNd HKd HSd HBd hS hg5
          refine hK _ _ (fun _ => hS5) ?_
          clear hK K
          try simp only [Act.put, List.setIfInBounds_toArray, List.set_cons_zero, List.set_cons_succ]
          have hS := hS5
          refine U_read 11 (v := (.tuple #[.slice (some ⟨g5, 0, none⟩) nl.length c5, .int .i64 (hn : Int)])) rfl (by kernel_rfl) (fun _ _ _ h => h) hS (by rfl) (fun w' hw' => by obtain ⟨h0, h1, h2, h3⟩ := hw'; go_simp) ?_
          try simp only [Act.put, List.setIfInBounds_toArray, List.set_cons_zero, List.set_cons_succ]
          refine U_read 12 (v := (.slice (some ⟨g5, 0, none⟩) nl.length c5)) rfl (by kernel_rfl) (fun _ _ _ h => h) hS (by rfl) (fun w' hw' => by obtain ⟨h0, h1, h2, h3⟩ := hw'; go_simp) ?_
          try simp only [Act.put, List.setIfInBounds_toArray, List.set_cons_zero, List.set_cons_succ]
          refine U_read 13 (v := (.int .i64 (hn : Int))) rfl (by kernel_rfl) (fun _ _ _ h => h) hS (by rfl) (fun w' hw' => by obtain ⟨h0, h1, h2, h3⟩ := hw'; go_simp) ?_
          try simp only [Act.put, List.setIfInBounds_toArray, List.set_cons_zero, List.set_cons_succ]
          refine U_read 14 (v := (.slice (some ⟨g5, 0, none⟩) nl.length c5)) rfl (by kernel_rfl) (fun _ _ _ h => h) hS (by rfl) (fun w' hw' => by obtain ⟨h0, h1, h2, h3⟩ := hw'; go_simp) ?_
          try simp only [Act.put, List.setIfInBounds_toArray, List.set_cons_zero, List.set_cons_succ]
          refine U_one 15 (by kernel_rfl) rfl rfl (fun K hK => ?_)
          go_simp
          refine hK _ _ (fun h => absurd h (by decide)) ?_
          clear hK K
          try simp only [Act.put, List.setIfInBounds_toArray, List.set_cons_zero, List.set_cons_succ]
          refine U_done (by kernel_rfl) ?_ _
          simp only [Calm, Exit.then]
          have hcap : nl.length ≤ c5 := by have := HR5.out.len_le; unfold ints at this; rw [List.length_map] at this; exact this
          have hcap2 : hn ≤ c5 := Nat.le_trans hHN hcap
          have hcap3 : c5 ≤ 9223372036854775807 := by obtain ⟨_, _, _, hm, _⟩ := HR5.out; simp only [maxLen] at hm; omega
          have hn63 : hn ≤ 1048576 := Nat.le_trans hHN hNL
          have HHN := Lib.hid hHN
          clear hS hS5 hcap hq hq2 hwq hwu hwi hHN
          go_wp2_with fail
          go_loopw [58] (fun jv wr2 => ∃ (j : Nat) (vl' vc' : Value), jv = .int .i64 j ∧ j ≤ hn ∧ WkAt wr2 w.heap.size (w.heap.size + 1 + 1) (w.heap.size + 1) (h.words.length + 1) vl' vc' (putsW L (hl.take j) (i : Int)) ∧ Blk wr2 w.heap.size 32 #[.slice A h.words.length c, .slice A' n' c'] ∧ Row wr2 g5 3 c5 (ints nl) ∧ (vl'.ownBlock ≠ some g5 ∧ vc'.ownBlock ≠ some g5) ∧ Below w.heap.size w wr2) (fun jv _ => hn - (intOf jv).toNat)
          case atStart => exact ⟨0, _, _, rfl, Nat.zero_le _, HK5.out, HS5.out, HR5.out, HN5.out, HB5.out⟩
          case round =>
            clear HK5 HS5 HR5 HN5 HB5
            obtain ⟨j, vl', vc', rfl, hj, hkk, hs, hrr, hnn, hb⟩ := hrel
            have HK := Lib.hid hkk
            have HS := Lib.hid hs
            have HR := Lib.hid hrr
            have HN := Lib.hid hnn
            have HB := Lib.hid hb
            clear hkk hs hrr hnn hb
            by_cases hlt : j < hn
            · obtain ⟨x, hx1, hx2, hx3⟩ := HHA.out j (by rw [HHL.out]; exact hlt)
              have hjl : j < hl.length := by rw [HHL.out]; exact hlt
              have hnc := HR.out.cell (ints_atK hx1)
              obtain ⟨ad, u, had, _, hu, hc⟩ := (HRW.out wr HB.out).at_ hx2
              rw [u32s_get hx2, hx3] at hu
              injection hu with hu
              subst hu
              have hvx := HHB.out _ (getD_mem' hjl)
              have HPT := Lib.hid (rput_any HK.out HB.out.size hvx.1 (fun hk2 => isB_half HG.out (hvx.2 hk2)) (i : Int) (by
                have h1 := putsW_len L (hl.take j) (i : Int)
                rw [List.length_take] at h1
                have h2 := HLN.out
                omega))
              rw [← putsW_take _ _ _ hjl] at HPT
              have x0 := HS.out.cell 0
              have HLT := Lib.hid hlt
              have hx20 : x ≤ 1048576 := by omega
              clear hvx hx1 hx3 hjl
              generalize hl.getD j 0 = y at *
              subst had
              go_wp2_with fail
              refine HPT.out.mono ?_
              rintro e w7 ⟨rfl, vl7, vc7, hk7, hf7⟩
              have HK7 := Lib.hid hk7
              have HB7 := Lib.hid (HB.out.trans (hf7.below HK.out HB.out.size))
              have HS7 := Lib.hid (HS.out.same (hf7.same _ HS.out.lt (by omega) (by omega) (own_ne_blk HK.out.list HS.out (by decide)) (own_ne_blk HK.out.came HS.out (by decide))))
              have HR7 := Lib.hid (HR.out.same (hf7.same _ HR.out.lt (HR.out.ne_blk HK.out.box (by decide)) (HR.out.ne_ HK.out.seen (by decide)) HN.out.1 HN.out.2))
              have HN7 := Lib.hid (hf7.blk _ HR.out.lt HN.out.1 HN.out.2)
              clear hk7 hf7 HPT HK HS HB HR HN hc hnc x0
              go_wp2_with fail
              go_roundw
              case rel => exact ⟨j + 1, vl7, vc7, by go_num, HLT.out, HK7.out, HS7.out, HR7.out, HN7.out, HB7.out⟩
              case measure => have := HLT.out; simp [intOf]; omega
            · obtain rfl : j = hn := by omega
              rw [List.take_of_length_le (by rw [HHL.out]; exact Nat.le_refl _)] at HK
              have HIS7 := Lib.hid (putsW_isB (b := (i : Int)) HIS.out (fun x hx hk => (HHB.out x hx).2 hk))
              have hLi := HLN.out
              have HIL := Lib.hid HIN.out
              clear hlt hj
              go_wp2_with fail
              go_roundw
              case rel => exact ⟨i + 1, _, _, _, by go_num, HNX.out, HIS7.out, HK.out, HS.out, HB.out⟩
              case measure => have := HIL.out; simp [intOf]; omega
        · have HD := Lib.hid (HGO.out.done hi HLN.out)
          have c1 := HK.out.box.cell 1
          obtain ⟨Al, cl, hvl⟩ := own_val HK.out.list
          subst hvl
          obtain ⟨Ac, cc, hvc⟩ := own_val HK.out.came
          subst hvc
          go_upto_region 16 with fail
          go_quiet (fail)
          have hbq := below_drewN (Below.refl wr.heap.size wr) nq
          have HKq := Lib.hid (HK.out.below hbq)
          have HBq := Lib.hid (below_top HB.out hbq)
          clear hbq c0 c1 HK HB HS
          go_wp2_with fail
          go_ret2
          exact ⟨_, _, rfl, by rw [HD.out]; exact HKq.out.list, by rw [HD.out]; exact HKq.out.came, HBq.out⟩
end
end Go.Proofs.YtblekggklimpeaaDoor

namespace Go.Proofs.YtblekggklimpeaaDoor
open Go.RowKit Go.Sort
attribute [local go_sem] Oper.semAt_some
/-- The live ones among the first k. -/
def livK (W : List Nat) (l : List Ob) (k : Nat) : List Nat := (((idxL l).take k).filter (fun i => decide (2 * i ∈ W))).map (2 * ·)
theorem livK_zero (W : List Nat) (l : List Ob) : livK W l 0 = [] := rfl
theorem livK_yes {W : List Nat} {l : List Ob} {k : Nat} (hk : k < l.length) (h : 2 * posOf (l.take k) ∈ W) : livK W l (k + 1) = livK W l k ++ [2 * posOf (l.take k)] := by
  unfold livK
  rw [idxL_take l hk, List.filter_append, List.map_append, List.filter_cons, if_pos (by simpa using h)]
  rfl
theorem livK_no {W : List Nat} {l : List Ob} {k : Nat} (hk : k < l.length) (h : ¬ 2 * posOf (l.take k) ∈ W) : livK W l (k + 1) = livK W l k := by
  unfold livK
  rw [idxL_take l hk, List.filter_append, List.map_append, List.filter_cons, if_neg (by simpa using h)]
  simp
theorem livK_len (W : List Nat) (l : List Ob) (k : Nat) : (livK W l k).length ≤ k := by
  unfold livK
  rw [List.length_map]
  have h1 := List.length_filter_le (fun i => decide (2 * i ∈ W)) ((idxL l).take k)
  have h2 := List.length_take_le k (idxL l)
  omega
theorem livK_all (h : HM) (l : List Ob) : livK (metO (walkM (heldM h) h.roots)) l l.length = liveO h l := by
  unfold livK liveO
  rw [List.take_of_length_le (by rw [idxL_len]; exact Nat.le_refl _)]
  have e : oopsL l = (idxL l).map (2 * ·) := by unfold oopsL idxL; rw [List.map_map]; rfl
  rw [e, List.filter_map]
  rfl
theorem idxL_get {l : List Ob} {k : Nat} (hk : k < l.length) : (idxL l)[k]? = some (posOf (l.take k)) := by
  unfold idxL
  rw [List.getElem?_map, List.getElem?_range hk]
  rfl
theorem wrM2 {q : Nat} (h : q ≤ 1048576) : wrap64 (2 * (q : Int)) = 2 * (q : Int) := IntWalk.wrap64_in _ (by omega)
theorem wrU2 {q : Nat} (h : q ≤ 1048576) : IntKind.u32.wrap (2 * (q : Int)) = 2 * (q : Int) := IntWalk.u32_in _ (by omega)
section
variable {w : World} {h : HM} {l : List Ob} {A A' : Option Addr} {n c n' c' : Nat}
set_option maxRecDepth 100000 in
set_option maxHeartbeats 8000000 in
theorem rlive_any (G : h.Good l) (hr : Reads w w.heap.size 1 A n (u32s h.words)) (hq : Reads w w.heap.size 1 A' n' (u32s h.roots)) :
    Calls Tryd.prog 19 #[StV A n c A' n' c'] w (OopsP (liveO h l) w) := by
  have hln : n = h.words.length := by have := hr.1; rw [u32s_len] at this; omega
  have hln' : n' = h.roots.length := by have := hq.1; rw [u32s_len] at this; omega
  subst hln hln'
  have hwl : h.words.length ≤ 1048576 := by have := G.fit.room; have := G.fit.hi; omega
  have hl2 : l.length ≤ 1048576 := by have h1 := oopsL_le G; rw [oopsL_len] at h1; exact h1
  have HG := Lib.hid G
  have hX := Blk.new w 32 #[.slice A h.words.length c, .slice A' h.roots.length c']
  have hB := (Below.refl w.heap.size w).alloc (Nat.le_refl _) (.cells #[.slice A h.words.length c, .slice A' h.roots.length c'] 32)
  have HRW := Lib.hid (fun (w' : World) (hb : Below w.heap.size w w') => (hr.below hb).more hb.size)
  have HWK := Lib.hid (rwalk_any (A' := A') (n' := h.roots.length) (c' := c') (c := c) (cf := c') G ((hr.below hB).more hB.size) ((hq.below hB).more hB.size) G.sound.roots G.fit.r32 (by have := G.fit.roots; omega))
  have hMl := walk_len G G.sound.roots
  have HMB := Lib.hid (walk_isB G G.sound.roots)
  have HLA := Lib.hid (livK_all h l)
  have hmk := make_bool1 h.words.length hwl
  have x0 := hX.cell 0
  have x1 := hX.cell 1
  have HX := Lib.hid hX
  have HB := Lib.hid hB
  have hsz := World.size_alloc w (.cells #[.slice A h.words.length c, .slice A' h.roots.length c'] 32)
  clear hX hB hr hq G
  unfold StV at HWK ⊢
  unfold RWalkP at HWK
  generalize walkM (heldM h) h.roots = M at *
  go_enter Tryd.func19, Tryd.ntmps19
  go_wp2_with fail
  generalize w.alloc (.cells #[.slice A h.words.length c, .slice A' h.roots.length c'] 32) = W1 at *
  refine HWK.out.mono ?_
  rintro e w2 ⟨vl, vc, rfl, hown, _, hb2⟩
  have HOW := Lib.hid (own_base hown (show w.heap.size ≤ W1.heap.size from HB.out.size))
  have HB2 := Lib.hid (below_top HB.out hb2)
  have HX2 := Lib.hid (HX.out.below hb2 HX.out.lt)
  have y0 := HX2.out.cell 0
  clear hown hb2 HWK x0 x1 HX
  obtain ⟨Al, cl, hvl⟩ := own_val HOW.out
  subst hvl
  go_upto_region 3 with fail
  have hb3 := HB2.out.alloc HB2.out.size (.cells (zcells (.bool false) (h.words.length + 1)) 4)
  have hbt := (Below.refl w2.heap.size w2).alloc (Nat.le_refl _) (.cells (zcells (.bool false) (h.words.length + 1)) 4)
  have HMK := Lib.hid (show Row (w2.alloc (.cells (zcells (.bool false) (h.words.length + 1)) 4)) w2.heap.size 4 (h.words.length + 1) (bools (markL ((metO M).take 0) (h.words.length + 1))) by
    rw [List.take_zero, markL_nil]
    exact falses_row w2 (h.words.length + 1) (by simp only [maxLen]; omega))
  have HX3 := Lib.hid (HX2.out.below hbt HX2.out.lt)
  have HOW3 := Lib.hid (own_below HOW.out hbt)
  have HB3 := Lib.hid hb3
  have hgs : w.heap.size ≤ w2.heap.size := HB2.out.size
  clear hb3 hbt HOW HB2 HX2 y0 hmk
  generalize (w2.alloc (.cells (zcells (.bool false) (h.words.length + 1)) 4)) = w3 at *
  generalize w2.heap.size = gs at *
  go_wp2_with fail
  go_loopw [25] (fun iv wr => ∃ k : Nat, iv = .int .i64 k ∧ k ≤ M.length ∧ Row wr gs 4 (h.words.length + 1) (bools (markL ((metO M).take k) (h.words.length + 1))) ∧ wr.ownsRow w.heap.size 41 1 (.slice Al M.length cl) M.length (u32s (metO M)) ∧ Blk wr w.heap.size 32 #[.slice A h.words.length c, .slice A' h.roots.length c'] ∧ Below w.heap.size w wr) (fun iv _ => M.length - (intOf iv).toNat)
  case atStart => exact ⟨0, rfl, Nat.zero_le _, HMK.out, HOW3.out, HX3.out, HB3.out⟩
  case round =>
    clear HMK HOW3 HX3 HB3
    obtain ⟨k, rfl, hk, hmk, how, hx, hb⟩ := hrel
    have HMK := Lib.hid hmk
    have HOW := Lib.hid how
    have HX := Lib.hid hx
    have HB := Lib.hid hb
    clear hmk how hx hb
    by_cases hlt : k < M.length
    · obtain ⟨gv, cv, hvv, hrv, _, hgv⟩ := Row.of_any HOW.out (by omega)
      have hml : k < (metO M).length := by rw [metO_len]; exact hlt
      have hcl := hrv.cell (u32s_get (l := metO M) (i := k) hml)
      have HTK := Lib.hid (show (metO M).take (k + 1) = (metO M).take k ++ [(metO M).getD k 0] by rw [List.take_add_one, List.getElem?_eq_getElem hml, List.getD_eq_getElem?_getD, List.getElem?_eq_getElem hml]; rfl)
      obtain ⟨j, hj, ho⟩ := isB_k HG.out (HMB.out _ (metO_mem hlt))
      rw [ho] at hcl HTK
      have hq1 : posOf (l.take j) < h.words.length + 1 := by have := (w0_parts HG.out hj).2.2.2; omega
      have hq0 : posOf (l.take j) ≤ 1048576 := by have := (w0_parts HG.out hj).2.2.2; omega
      generalize posOf (l.take j) = q at *
      have hq := tdiv2q q
      have hq2 := div2q q
      have hwq := wrK hq0
      have hwu := wrU hq0
      have hwi := wrI hq0
      generalize hoo : 2 * q = o at *
      have HOO := Lib.hid hoo
      clear hoo
      generalize h.words.length + 1 = N at *
      have z0 := HMK.out.frozen q
      have y0 := HMK.out.cell (markL_get ((metO M).take k) hq1)
      have HLT := Lib.hid hlt
      cases hvv
      clear hj ho hml hrv hq0
      go_wp2_with fail
      have hset : ∀ i, i ≠ gs → (wr.setCell ⟨gs, q, none⟩ (.bool true)).heap[i]? = wr.heap[i]? := fun i hi => Below.heap_setCell wr ⟨gs, q, none⟩ _ i hi
      have hsb := HMK.out.set q (.bool true)
      rw [markL_set, HOO.out, ← HTK.out] at hsb
      have hx6 := HX.out.same (hset _ (HMK.out.ne_blk HX.out (by decide)).symm)
      have how6 := own_keep HOW.out (fun i hi => hset i (fun e => by obtain ⟨cur, hcb, _⟩ := HMK.out; exact own_ne_blk HOW.out hcb (by decide) (e ▸ hi)))
      have hb6 : Below w.heap.size w (wr.setCell ⟨gs, q, none⟩ (.bool true)) := HB.out.setCell (p := ⟨gs, q, none⟩) hgs _
      have HE := Lib.hid (And.intro hsb (And.intro how6 (And.intro hx6 hb6)))
      clear hset hsb hx6 how6 hb6
      go_roundw
      case rel => exact ⟨k + 1, by go_num, HLT.out, HE.out.1, HE.out.2.1, HE.out.2.2.1, HE.out.2.2.2⟩
      case measure => have := HLT.out; simp [intOf]; omega
    · obtain rfl : k = M.length := by omega
      rw [List.take_of_length_le (by rw [metO_len]; exact Nat.le_refl _)] at HMK
      have x0 := HX.out.cell 0
      have x1 := HX.out.cell 1
      have HOB := Lib.hid (robjects_any (A' := A') (n' := h.roots.length) (c' := c') (c := c) HG.out (HRW.out wr HB.out))
      unfold StV at HOB
      clear hlt hk HOW
      go_wp2_with fail
      refine HOB.out.mono ?_
      rintro e w6 ⟨v6, rfl, hown6, hb6⟩
      have HIX := Lib.hid (own_base hown6 HB.out.size)
      rw [idxL_len] at HIX
      have HMK6 := Lib.hid (HMK.out.below hb6)
      have HB6 := Lib.hid (below_top HB.out hb6)
      obtain ⟨Ai, ci, hvi⟩ := own_val HIX.out
      subst hvi
      clear hown6 hb6 HOB HMK HB HX x0 x1
      go_wp2_with fail
      go_loopw [8, 38] (fun lv iv wr => ∃ k : Nat, iv = .int .i64 k ∧ k ≤ l.length ∧ wr.ownsRow w.heap.size 41 1 lv (livK (metO M) l k).length (u32s (livK (metO M) l k)) ∧ wr.ownsRow w.heap.size 3 1 (.slice Ai l.length ci) l.length (ints (idxL l)) ∧ Row wr gs 4 (h.words.length + 1) (bools (markL (metO M) (h.words.length + 1))) ∧ Below w.heap.size w wr) (fun _ iv _ => l.length - (intOf iv).toNat)
      case atStart => exact ⟨0, rfl, Nat.zero_le _, ⟨rfl, .inl ⟨rfl, rfl⟩⟩, HIX.out, HMK6.out, HB6.out⟩
      case round =>
        clear HMK6 HIX HB6
        obtain ⟨k, rfl, hk, how, hix, hmk, hb⟩ := hrel
        have HMK := Lib.hid hmk
        have HOW := Lib.hid how
        have HIX := Lib.hid hix
        have HB := Lib.hid hb
        clear hmk how hix hb
        by_cases hlt : k < l.length
        · obtain ⟨gv, cv, hvv, hrv, _, hgv⟩ := Row.of_any HIX.out (by omega)
          have hcl := hrv.cell (ints_atK (idxL_get hlt))
          have hq1 : posOf (l.take k) < h.words.length + 1 := by have := (w0_parts HG.out hlt).2.2.2; omega
          have hq0 : posOf (l.take k) ≤ 1048576 := by have := (w0_parts HG.out hlt).2.2.2; omega
          have y0 := HMK.out.cell (markL_get (metO M) hq1)
          have HLT := Lib.hid hlt
          have HYES := Lib.hid (fun hm => livK_yes (W := metO M) hlt hm)
          have HNO := Lib.hid (fun hm => livK_no (W := metO M) hlt hm)
          have hvl := livK_len (metO M) l k
          generalize posOf (l.take k) = q at *
          cases hvv
          by_cases hm : 2 * q ∈ metO M
          · rw [decide_eq_true hm] at y0
            have HS := Lib.hid (HYES.out hm)
            have hw2 := wrM2 hq0
            have hu2 := wrU2 hq0
            clear hm HYES HNO hrv
            generalize livK (metO M) l k = xs at *
            obtain ⟨i0, hi0, hz0, hz1, hz2⟩ := info_parts info_oop
            have hs5 := HB.out.size
            go_wp2_with (at_builtin; refine wpList_append_any _ rfl (.tmp 46) (.tmp 50) _ rfl w.heap.size 41 i0 _ 1 4 Tryd.underlying23 hi0 hz0 hz1 hz2 rfl (by omega) u8 xs.length _ rfl (HOW.out.alloc _) (wr.heap.size + 1) (some ⟨wr.heap.size, 0, none⟩) 1 1 [.int .u32 (2 * (q : Int))] rfl ⟨rfl, fun _ => ⟨_, rfl, by first | exact Nat.zero_lt_one | decide | simp, cell_one_new _ _ _⟩⟩ (fun u hu => by rcases List.mem_singleton.1 hu with rfl; rfl) (by simp only [maxLen]; omega) (by omega) (by first | omega | (simp; omega)) ?_; intro v1 w7 hown7 hgrow hat7)
            have hb7 := below_grown (Nat.le_refl _) (HB.out.alloc hs5 _) hgrow (fun i hi => (HOW.out.lt i hi).1)
            have hsm : ∀ i, i < wr.heap.size → u8.ownBlock ≠ some i → w7.heap[i]? = wr.heap[i]? := fun i h1 h2 => (hgrow.block i (by simp; omega) (fun e => h2 (by first | exact e | exact e.symm))).trans (Below.heap_alloc wr _ i h1)
            have hmk7 := HMK.out.same (hsm gs HMK.out.lt (by obtain ⟨cur, hcb, _⟩ := HMK.out; exact own_ne_blk HOW.out hcb (by decide)))
            have hix7 := own_keep HIX.out (fun i hi => hsm i (HIX.out.lt i hi).2 (fun e => own_ne_own HOW.out HIX.out (by decide) i e hi))
            have HE := Lib.hid (And.intro hmk7 (And.intro hix7 (And.intro hb7 hown7)))
            clear hmk7 hix7 hb7 hown7 hsm hgrow hat7
            go_roundw
            case rel => exact ⟨k + 1, by go_num, HLT.out, by rw [HS.out, u32s_app, List.length_append]; exact HE.out.2.2.2, HE.out.2.1, HE.out.1, HE.out.2.2.1⟩
            case measure => have := HLT.out; simp [intOf]; omega
          · rw [decide_eq_false hm] at y0
            have HS := Lib.hid (HNO.out hm)
            clear hm HYES HNO hrv
            go_wp2_with fail
            go_roundw
            case rel => exact ⟨k + 1, by go_num, HLT.out, by rw [HS.out]; exact HOW.out, HIX.out, HMK.out, HB.out⟩
            case measure => have := HLT.out; simp [intOf]; omega
        · obtain rfl : k = l.length := by omega
          rw [HLA.out] at HOW
          clear hlt hk
          go_wp2_with fail
          go_ret
          exact ⟨_, rfl, HOW.out, HB.out⟩
end
end Go.Proofs.YtblekggklimpeaaDoor

namespace Go.Proofs.YtblekggklimpeaaDoor
open Go.RowKit Go.Sort
attribute [local go_sem] Oper.semAt_some
theorem wrA3 {a f : Nat} (h : a + (3 + f) ≤ 1048576) : wrap64 (3 + (f : Int)) = 3 + (f : Int) ∧ wrap64 ((a : Int) + (3 + (f : Int))) = (a : Int) + (3 + (f : Int)) := ⟨IntWalk.wrap64_in _ (by omega), IntWalk.wrap64_in _ (by omega)⟩
section
variable {w : World} {h : HM} {l : List Ob} {A A' : Option Addr} {n c n' c' : Nat}
set_option maxRecDepth 100000 in
set_option maxHeartbeats 8000000 in
theorem rplan_any (G : h.Good l) (hr : Reads w w.heap.size 1 A n (u32s h.words)) (hq : Reads w w.heap.size 1 A' n' (u32s h.roots)) :
    Calls Tryd.prog 16 #[StV A n c A' n' c'] w (PlanP (planM h l) w) := by
  have HG := Lib.hid G
  have hX := Blk.new w 32 #[.slice A n c, .slice A' n' c']
  have hB := (Below.refl w.heap.size w).alloc (Nat.le_refl _) (.cells #[.slice A n c, .slice A' n' c'] 32)
  have HLV := Lib.hid (rlive_any (A := A) (A' := A') (n := n) (n' := n') (c := c) (c' := c') G ((hr.below hB).more hB.size) ((hq.below hB).more hB.size))
  have HRW := Lib.hid (fun (w' : World) (hb : Below w.heap.size w w') => (hr.below hb).more hb.size)
  obtain ⟨i0, hi0, hz0, hz1, hz2⟩ := info_parts info_mv
  have HLZ := Lib.hid (keepZ_len h l)
  have HLF := Lib.hid (keepZ_fst h l)
  have hLN : (keepZ h l).length ≤ 1048576 := by
    have h1 := (keepZ_snd h l).length_le
    rw [List.length_map] at h1
    have h2 := oopsL_le G
    rw [oopsL_len] at h2
    omega
  have HW := Lib.hid (show ∀ k, k ≤ (keepZ h l).length → 1 + (wsOf (((keepZ h l).take k).map (·.2))).length ≤ 1048576 from fun k _ => by
    have h1 : (wsOf (((keepZ h l).take k).map (·.2))).length ≤ (wsOf l).length := wsOf_sub (((List.take_sublist k _).map _).trans (keepZ_snd h l))
    have h2 := G.fit.room
    have h3 := G.fit.hi
    rw [G.laid.words, List.length_cons] at h2
    omega)
  have x0 := hX.cell 0
  have x1 := hX.cell 1
  have HX := Lib.hid hX
  have HB := Lib.hid hB
  clear hX hB hr hq G
  unfold StV at HLV ⊢
  go_enter Tryd.func16, Tryd.ntmps16
  go_wp2_with fail
  generalize w.alloc (.cells #[.slice A n c, .slice A' n' c'] 32) = W1 at *
  refine HLV.out.mono ?_
  rintro e w1 ⟨v, rfl, hown, hb⟩
  have HOL := Lib.hid hown
  have HB1 := Lib.hid (below_top HB.out hb)
  have HX1 := Lib.hid (HX.out.below hb HX.out.lt)
  obtain ⟨Al, cl, hv⟩ := own_val hown
  subst hv
  rw [← HLZ.out]
  clear hown hb HLV x0 x1 HX
  go_wp2_with fail
  go_loopw [3, 4, 10] (fun lv av iv wr => ∃ k : Nat, iv = .int .i64 k ∧ k ≤ (keepZ h l).length ∧ av = .int .i64 ((1 + (wsOf (((keepZ h l).take k).map (·.2))).length : Nat) : Int) ∧ wr.ownsRow w1.heap.size 43 2 lv k (mvs (planF 1 ((keepZ h l).take k))) ∧ Below w1.heap.size w1 wr) (fun _ _ iv _ => (keepZ h l).length - (intOf iv).toNat)
  case atStart => exact ⟨0, rfl, Nat.zero_le _, rfl, ⟨rfl, .inl ⟨rfl, rfl⟩⟩, Below.refl _ _⟩
  case round =>
    obtain ⟨k, rfl, hk, rfl, hown, hb⟩ := hrel
    have HOW := Lib.hid hown
    have HBr := Lib.hid hb
    clear hown hb
    by_cases hlt : k < (keepZ h l).length
    · have hL0 : 0 < (liveO h l).length := by rw [← HLZ.out]; omega
      obtain ⟨gv, cv, hvv, hrv, _, hgv⟩ := Row.of_any HOL.out hL0
      rw [← HLZ.out] at hvv
      cases hvv
      have hcl := (hrv.below HBr.out).cell (u32s_get (l := liveO h l) (i := k) (by rw [← HLZ.out]; exact hlt))
      have hpz : (liveO h l).getD k 0 = ((keepZ h l)[k]).1 := by
        rw [← HLF.out, List.getD_eq_getElem?_getD, List.getElem?_map, List.getElem?_eq_getElem hlt]; rfl
      rw [hpz] at hcl
      obtain ⟨j, hj, hp1, hp2, hp3⟩ := keepZ_mem (List.getElem_mem hlt)
      have HSZ := Lib.hid (fun (w' : World) (hb : Below w.heap.size w w') => rsize_any (A' := A') (n' := n') (c' := c') (c := c) HG.out (HRW.out w' hb) hj)
      rw [← hp2] at HSZ
      have hq0 : posOf (l.take j) ≤ 1048576 := by
        have h1 := (w0_parts HG.out hj).2.2.2
        have h2 := HG.out.fit.room
        have h3 := HG.out.fit.hi
        omega
      have htk : (keepZ h l).take (k + 1) = (keepZ h l).take k ++ [(keepZ h l)[k]] := by rw [List.take_add_one, List.getElem?_eq_getElem hlt]; rfl
      have HP := Lib.hid (show planF 1 ((keepZ h l).take (k + 1)) = planF 1 ((keepZ h l).take k) ++ [(((keepZ h l)[k]).1, 2 * (1 + (wsOf (((keepZ h l).take k).map (·.2))).length))] by rw [htk, planF_snoc])
      have HA := Lib.hid (show 1 + (wsOf (((keepZ h l).take (k + 1)).map (·.2))).length = 1 + (wsOf (((keepZ h l).take k).map (·.2))).length + (3 + ((keepZ h l)[k]).2.fs.length) by
        rw [htk, List.map_append, wsOf_app, List.length_append, List.map_cons, List.map_nil, wsOf_cons, wsOf_nil, List.length_append, Ob.ws_len]; simp; omega)
      have hw1 := HW.out (k + 1) (by omega)
      rw [HA.out] at hw1
      rw [hp1] at hcl HP
      unfold StV at HSZ
      clear hpz hp1 hp2 hp3 htk hj hrv hL0
      generalize posOf (l.take j) = q at *
      have hq := tdiv2q q
      have hq2 := div2q q
      have hwq := wrK hq0
      have hwu := wrU hq0
      have hwi := wrI hq0
      generalize hoo : 2 * q = o at *
      generalize ((keepZ h l)[k]).2.fs.length = fl at *
      generalize planF 1 ((keepZ h l).take k) = P0 at *
      generalize 1 + (wsOf (((keepZ h l).take k).map (·.2))).length = at_ at *
      have hat0 : at_ ≤ 1048576 := Nat.le_trans (Nat.le_add_right _ _) hw1
      have hm2 := wrM2 hat0
      have hu2 := wrU2 hat0
      obtain ⟨hw3, hw5⟩ := wrA3 hw1
      have HLT := Lib.hid hlt
      have hk2 : k ≤ 1048576 := Nat.le_trans hk hLN
      have hbl : w1.heap.size ≤ wr.heap.size := HBr.out.size
      have HQQ := Lib.hid (And.intro hq (And.intro hq2 (And.intro hwq (And.intro hwu (And.intro hwi (And.intro hw3 hw5))))))
      clear hoo hk hw1 hq hq2 hwq hwu hwi hw3 hw5
      go_wp2_with (at_builtin; refine wpList_append_any _ rfl (.tmp 14) (.tmp 20) _ rfl w1.heap.size 43 i0 _ 2 8 Tryd.underlying34 hi0 hz0 hz1 hz2 rfl (by omega) u3 k _ rfl (own_keep HOW.out (fun q hq => Below.heap_alloc wr (.cells #[.int .u32 (o : Int), .int .u32 (2 * (at_ : Int))] 43) q (HOW.out.lt q hq).2)) (wr.heap.size + 1) (some ⟨wr.heap.size, 0, none⟩) 1 1 [.int .u32 (o : Int), .int .u32 (2 * (at_ : Int))] rfl (reads_two wr _ _ _) (fun u hu => by simp at hu; rcases hu with rfl | rfl <;> rfl) (by simp only [maxLen]; omega) (by omega) (by simp; omega) ?_; intro v3 w3 hown3 hgrow3 hat3; have HB3 := Lib.hid (below_grown (Nat.le_refl _) (HBr.out.alloc HBr.out.size (.cells #[.int .u32 (o : Int), .int .u32 (2 * (at_ : Int))] 43)) hgrow3 (fun q hq => (HOW.out.lt q hq).1)); have HO3 := Lib.hid hown3; have HX3 := Lib.hid (HX1.out.below HB3.out HX1.out.lt); have x0 := HX3.out.cell 0; have x1 := HX3.out.cell 1; clear hown3 hgrow3 hat3; obtain ⟨hq, hq2, hwq, hwu, hwi, hw3, hw5⟩ := HQQ.out)
      refine (HSZ.out _ (HB1.out.trans (HB3.out.mono HB1.out.size))).mono ?_
      rintro e w4 ⟨rfl, hb4⟩
      have HO4 := Lib.hid (own_below HO3.out hb4)
      have HB4 := Lib.hid (below_top HB3.out hb4)
      clear hb4 HO3 HB3 x0 x1
      go_wp2_with fail
      go_roundw
      case rel => exact ⟨k + 1, by go_num, HLT.out, by rw [hw5]; exact congrArg (Value.int .i64) (posK HA.out), by rw [HP.out, mvs_snoc]; exact HO4.out, HB4.out⟩
      case measure => have := HLT.out; simp [intOf]; omega
    · obtain rfl : k = (keepZ h l).length := by omega
      have HE := Lib.hid HOW.out
      rw [List.take_length] at HE
      clear HOW
      go_wp2_with fail
      go_ret
      refine ⟨_, rfl, ?_, HB1.out.trans (HBr.out.mono HB1.out.size)⟩
      unfold planM
      rw [planF_len]
      exact own_base HE.out HB1.out.size
end
end Go.Proofs.YtblekggklimpeaaDoor

namespace Go.Proofs.YtblekggklimpeaaDoor
open Go.RowKit Go.Sort
attribute [local go_sem] Oper.semAt_some
theorem make_oop1 (n : Nat) (hn : n ≤ 1048576) (w : World) :
    (Instr.makeSlice 23 (.int .i64 ((n : Int) + 1)) (.int .i64 ((n : Int) + 1))).run Tryd.prog w = .ok (.slice (some ⟨w.heap.size, 0, none⟩) (n + 1) (n + 1)) (w.alloc (.cells (zcells (.int .u32 0) (n + 1)) 41)) := by
  obtain ⟨i0, hi0, hz0, hz1, hz2⟩ := info_parts info_oop
  have := run_make_rowN (P := Tryd.prog) 23 41 i0 _ Tryd.underlying23 hi0 hz0 .i64 .i64 (n + 1) (n + 1) (Nat.le_refl _) (by rw [hz2]; omega) (by omega) w
  have e : madeCells (Value.int .u32 0).cells ((n + 1) * 1) = zcells (.int .u32 0) (n + 1) := by
    apply Array.ext
    · simp [madeCells, zcells, Value.cells]
    · intro i h1 h2
      simp [madeCells, zcells, Value.cells, Nat.mod_one]
  rw [hz1, e] at this
  rw [show ((n : Int) + 1) = ((n + 1 : Nat) : Int) by omega]
  exact this
theorem tozeros_row (w : World) (F : Nat) (hF : F ≤ maxLen) : Row (w.alloc (.cells (zcells (.int .u32 0) F) 41)) w.heap.size 41 F (u32s (toL [] F)) := by
  rw [toL_nil]
  exact ⟨zcells (.int .u32 0) F, Blk.new w _ _, by simp [u32s], hF, by simp [zcells], by simp [zcells, u32s]⟩
set_option maxRecDepth 100000 in
set_option maxHeartbeats 2000000 in
theorem rmoved_any {w : World} {gt N : Nat} {pl : List (Nat × Nat)} (R : Row w gt 41 N (u32s (toL pl N))) {o : Nat} (ho : o < 4294967296) (hk : kindM o = 2 → o / 2 < N) :
    Calls Tryd.prog 61 #[.slice (some ⟨gt, 0, none⟩) N N, .int .u32 o] w (Said (.int .u32 (whereM pl o : Nat)) w) := by
  have HK := Lib.hid (rkind_any o ho w)
  by_cases hk2 : kindM o = 2
  case neg =>
    have e2 : ((kindM o : Int) != 2) = true := by simp; omega
    have HF := Lib.hid (show whereM pl o = o by unfold whereM; rw [if_neg hk2])
    clear hk2 hk R
    generalize kindM o = k at *
    go_enter Tryd.func61, Tryd.ntmps61
    go_wp2_with fail
    refine HK.out.mono ?_
    rintro e w' ⟨rfl, rfl⟩
    go_wp2_with fail
    go_ret
    exact ⟨by rw [HF.out]; rfl, rfl⟩
  case pos =>
    rw [hk2] at HK
    have hi := hk hk2
    have hN : N ≤ 9223372036854775807 := by
      have h1 := R.len_le
      obtain ⟨cur, _, _, hm, _⟩ := R
      simp only [maxLen] at hm
      omega
    have HF := Lib.hid (show whereM pl o = goesM pl o by unfold whereM; rw [if_pos hk2])
    have hcl := R.cell (toL_get pl hi)
    rw [← (kind2 hk2).1] at hcl
    have hq : ((o : Int)).tdiv 2 = ((o / 2 : Nat) : Int) := by rw [Int.tdiv_eq_ediv_of_nonneg (by omega)]; omega
    have hq2 : ((o : Int)) / 2 = ((o / 2 : Nat) : Int) := by omega
    have hw64 : wrap64 ((o / 2 : Nat) : Int) = ((o / 2 : Nat) : Int) := IntWalk.wrap64_in _ (by omega)
    clear hk hk2 R
    generalize o / 2 = i at *
    generalize goesM pl o = y at *
    go_enter Tryd.func61, Tryd.ntmps61
    go_wp2_with fail
    refine HK.out.mono ?_
    rintro e w' ⟨rfl, rfl⟩
    go_wp2_with fail
    go_ret
    exact ⟨by rw [HF.out]; rfl, rfl⟩
end Go.Proofs.YtblekggklimpeaaDoor
