/- What the document's Collect goes through. Plain data. -/
/- Right behind a collection another one finds nothing to do. Plain data. -/
import Derived.Test.YtlkahgagmfhdaaaGreatDoorJKCol
import Derived.Test.YtlkahgagmfhdaaaGreatDoorJKLay
set_option linter.unusedVariables false
set_option linter.unusedSimpArgs false
set_option linter.unusedSectionVars false
namespace Go.Proofs.YtlkahgagmfhdaaaGreatDoor
open Go.RowKit
theorem goesM_snoc {pl : List (Nat × Nat)} {p : Nat × Nat} (hn : p.1 ∉ pl.map (·.1)) (x : Nat) : goesM (pl ++ [p]) x = if x = p.1 then p.2 else goesM pl x := by
  by_cases h : x = p.1
  · subst h
    have h0 : pl.find? (fun q => q.1 == p.1) = none := by
      rw [List.find?_eq_none]
      intro q hq he
      exact hn (List.mem_map.2 ⟨q, hq, by simpa using he⟩)
    unfold goesM
    rw [List.find?_append, h0, if_pos rfl]
    simp
  · rw [if_neg h]
    unfold goesM
    rw [List.find?_append]
    have h1 : ([p] : List (Nat × Nat)).find? (fun q => q.1 == x) = none := by simp; exact fun e => h e.symm
    rw [h1, Option.or_none]
/-- The table of where each goes. -/
def toL (pl : List (Nat × Nat)) (N : Nat) : List Nat := (List.range N).map (fun i => goesM pl (2 * i))
theorem toL_len (pl : List (Nat × Nat)) (N : Nat) : (toL pl N).length = N := by simp [toL]
theorem toL_get (pl : List (Nat × Nat)) {N i : Nat} (hi : i < N) : (u32s (toL pl N))[i]? = some (.int .u32 (goesM pl (2 * i) : Nat)) := by
  unfold u32s toL
  rw [List.getElem?_map, List.getElem?_map, List.getElem?_range hi]
  rfl
theorem toL_nil (N : Nat) : toL [] N = List.replicate N 0 := by
  unfold toL
  apply List.ext_getElem
  · simp
  · intro i h1 h2
    simp [goesM]
theorem toL_set {pl : List (Nat × Nat)} {p : Nat × Nat} (hn : p.1 ∉ pl.map (·.1)) {i : Nat} (hi : p.1 = 2 * i) (N : Nat) : (u32s (toL pl N)).set i (.int .u32 (p.2 : Nat)) = u32s (toL (pl ++ [p]) N) := by
  unfold u32s toL
  apply List.ext_getElem
  · simp
  · intro j h1 h2
    rw [List.getElem_set]
    simp only [List.getElem_map, List.getElem_range]
    rw [goesM_snoc hn]
    by_cases h : i = j
    · subst h
      rw [if_pos rfl, if_pos hi.symm]
    · rw [if_neg h, if_neg (by omega)]
/-- An object's words, its first j names moved. -/
def stepO (pl : List (Nat × Nat)) (void : Nat) (b : Ob) (j : Nat) : List Nat := b.x.w0 :: (if 0 < j then whereM pl b.x.cls else b.x.cls) :: b.x.ser :: ((b.fs.take (j - 1)).map (fldM pl void) ++ b.fs.drop (j - 1))
def clrJ (pl : List (Nat × Nat)) (b : Ob) (j : Nat) : Nat := ((b.fs.take (j - 1)).filter (deadB pl)).length
def nameV (b : Ob) (j : Nat) : Nat := if j = 0 then b.x.cls else b.fs.getD (j - 1) 0
def newV (pl : List (Nat × Nat)) (void : Nat) (b : Ob) (j : Nat) : Nat := if j = 0 then whereM pl b.x.cls else fldM pl void (b.fs.getD (j - 1) 0)
section
variable {pl : List (Nat × Nat)} {void : Nat} {b : Ob}
theorem stepO_zero : stepO pl void b 0 = b.ws := by unfold stepO Ob.ws; simp
theorem stepO_len (j : Nat) : (stepO pl void b j).length = 3 + b.fs.length := by
  unfold stepO
  simp
  omega
theorem stepO_set {j : Nat} (hj : j ≤ b.fs.length) : (stepO pl void b j).set (if j = 0 then 1 else 2 + j) (newV pl void b j) = stepO pl void b (j + 1) := by
  cases j with
  | zero => unfold stepO newV; simp
  | succ j =>
    have hj' : j < b.fs.length := by omega
    rw [if_neg (by omega), show 2 + (j + 1) = j + 3 by omega]
    unfold stepO newV
    rw [if_pos (Nat.succ_pos _), if_pos (Nat.succ_pos _), if_neg (by omega)]
    simp only [Nat.add_sub_cancel, List.set_cons_succ]
    congr 3
    rw [List.set_append_right _ _ (by simp; omega), List.drop_eq_getElem_cons hj', List.length_map, List.length_take, show j - min j b.fs.length = 0 by omega, List.set_cons_zero, List.take_add_one, List.getElem?_eq_getElem hj', List.getD_eq_getElem?_getD, List.getElem?_eq_getElem hj']
    simp
    rw [List.take_add_one, List.getElem?_map, List.getElem?_eq_getElem hj']
    simp
theorem stepO_end (p : Nat) (b : Ob) : stepO pl void b (nmsK p b).length = (relob pl void b).ws := by
  unfold nmsK
  rw [fldL_len]
  unfold stepO relob Ob.ws
  by_cases hp : b.x.ptrB = true
  · simp [hp]
    rfl
  · simp [hp]
    rfl
theorem clrJ_zero : clrJ pl b 0 = 0 := by simp [clrJ]
theorem clrJ_end (p : Nat) (b : Ob) : clrJ pl b (nmsK p b).length = clearedB pl b := by
  unfold nmsK
  rw [fldL_len]
  unfold clrJ clearedB
  by_cases hp : b.x.ptrB = true
  · simp [hp]
  · simp [hp]
theorem clrJ_le (j : Nat) : clrJ pl b j ≤ b.fs.length := by
  unfold clrJ
  have h1 := List.length_filter_le (deadB pl) (b.fs.take (j - 1))
  rw [List.length_take] at h1
  omega
theorem clrJ_step {j : Nat} (hj : j ≤ b.fs.length) : clrJ pl b (j + 1) = clrJ pl b j + (if j ≠ 0 ∧ deadB pl (b.fs.getD (j - 1) 0) = true then 1 else 0) := by
  cases j with
  | zero => simp [clrJ]
  | succ j =>
    have hj' : j < b.fs.length := by omega
    unfold clrJ
    simp only [Nat.add_sub_cancel]
    rw [List.take_add_one, List.getElem?_eq_getElem hj', List.filter_append, List.length_append, List.getD_eq_getElem?_getD, List.getElem?_eq_getElem hj']
    by_cases hd : deadB pl b.fs[j] = true
    · simp [hd]
    · simp [hd]
end
section
variable {h : HM} {l : List Ob}
theorem nmsK_gets {p : Nat} {b : Ob} {j : Nat} (hj : j < (nmsK p b).length) : (nmsK p b)[j]? = some (nmsK p b)[j] ∧ (nmsK p b)[j] = p + (if j = 0 then 1 else 2 + j) := by
  refine ⟨List.getElem?_eq_getElem hj, ?_⟩
  have := (nmsK_get (List.getElem?_eq_getElem hj)).2.2
  rw [this]
  split <;> omega
theorem nms_at (G : h.Good l) {k : Nat} (hk : k < l.length) {j : Nat} (hj : j < (nmsK (posOf (l.take k)) l[k]).length) :
    ∃ x, (nmsK (posOf (l.take k)) l[k])[j]? = some x ∧ x < h.words.length ∧ h.words.getD x 0 = nameV l[k] j ∧ x = posOf (l.take k) + (if j = 0 then 1 else 2 + j) ∧ j ≤ (l[k]).fs.length := by
  have hg := nmsK_gets hj
  obtain ⟨h1, h2⟩ := hg
  have h3 := (w0_parts G hk).2.2.2
  have hjl : j ≤ (l[k]).fs.length := by have := nmsK_len (posOf (l.take k)) l[k]; omega
  refine ⟨_, h1, ?_, ?_, h2, hjl⟩
  · rw [h2]; split <;> omega
  · rw [h2]
    unfold nameV
    by_cases h0 : j = 0
    · rw [if_pos h0, if_pos h0]; exact cls_words G hk
    · rw [if_neg h0, if_neg h0, show posOf (l.take k) + (2 + j) = posOf (l.take k) + 3 + (j - 1) by omega]
      exact fld_words G hk (by omega)
theorem keep_dead (G : h.Good l) {p : Nat × Ob} (hp : p ∈ keepZ h l) (h1 : p.2.x.fmt = 1) {x : Nat} (hx : x ∈ p.2.fs) : deadB (planM h l) x = false := by
  unfold deadB
  refine decide_eq_false (fun hd => hd.2 ?_)
  rw [planM_fst]
  refine live_of_held G hp ?_ hd.1
  rw [keepZ_held G hp, if_pos h1]
  exact List.mem_cons.2 (.inr hx)
theorem goes_zero {x : Nat} : goesM (planM h l) x = 0 ↔ x ∉ (planM h l).map (·.1) := by
  constructor
  · intro h0 hm
    rw [planM_fst] at hm
    obtain ⟨k, hk, e⟩ := goes_live h l hm
    rw [e] at h0
    unfold posOf at h0
    omega
  · exact goesM_no
theorem fld_live {pl : List (Nat × Nat)} {void x : Nat} (hd : deadB pl x = false) : fldM pl void x = whereM pl x := by
  unfold deadB at hd
  unfold fldM
  rw [if_neg (of_decide_eq_false hd)]
theorem fld_dead {pl : List (Nat × Nat)} {void x : Nat} (hd : deadB pl x = true) : fldM pl void x = void := by
  unfold deadB at hd
  unfold fldM
  rw [if_pos (of_decide_eq_true hd)]
theorem new_cases (G : h.Good l) {p : Nat × Ob} (hp : p ∈ keepZ h l) {q j : Nat} (hj : j < (nmsK q p.2).length) (hjl : j ≤ p.2.fs.length) (void : Nat) :
    (¬ (holdN q p.2 ≤ j ∧ kindM (nameV p.2 j) = 2 ∧ whereM (planM h l) (nameV p.2 j) = 0) → newV (planM h l) void p.2 j = whereM (planM h l) (nameV p.2 j) ∧ clrJ (planM h l) p.2 (j + 1) = clrJ (planM h l) p.2 j) ∧
      (holdN q p.2 ≤ j ∧ kindM (nameV p.2 j) = 2 ∧ whereM (planM h l) (nameV p.2 j) = 0 → newV (planM h l) void p.2 j = void ∧ clrJ (planM h l) p.2 (j + 1) = clrJ (planM h l) p.2 j + 1) := by
  rw [clrJ_step hjl]
  by_cases h0 : j = 0
  · subst h0
    have h1 : 1 ≤ holdN q p.2 := by
      unfold holdN
      have := nmsK_pos q p.2
      split <;> omega
    refine ⟨fun _ => ⟨by simp [newV, nameV], by simp⟩, fun hh => absurd hh.1 (by omega)⟩
  · have hx : p.2.fs.getD (j - 1) 0 ∈ p.2.fs := by
      rw [List.getD_eq_getElem?_getD, List.getElem?_eq_getElem (by omega)]
      exact List.getElem_mem _
    unfold newV nameV
    rw [if_neg h0, if_neg h0]
    generalize p.2.fs.getD (j - 1) 0 = x at *
    have hb : p.2.x.fmt = 1 ∨ p.2.x.fmt = 4 := Classical.byContradiction fun hn => by
      rw [nmsK_no (fun e => hn (.inl e)) (fun e => hn (.inr e))] at hj
      simp at hj
      omega
    rcases hb with hb | hb
    · have hd := keep_dead G hp hb hx
      refine ⟨fun _ => ⟨fld_live hd, by simp [hd]⟩, fun hh => ?_⟩
      have h1 := hh.1
      unfold holdN at h1
      rw [if_neg (by omega)] at h1
      omega
    · have hh1 : holdN q p.2 ≤ j := by unfold holdN; rw [if_pos hb]; omega
      constructor
      · intro hn
        have hd : deadB (planM h l) x = false := by
          unfold deadB
          refine decide_eq_false (fun hd => hn ⟨hh1, hd.1, ?_⟩)
          unfold whereM
          rw [if_pos hd.1]
          exact goes_zero.2 hd.2
        exact ⟨fld_live hd, by simp [hd]⟩
      · rintro ⟨_, hk, hw⟩
        have hd : deadB (planM h l) x = true := by
          unfold whereM at hw
          rw [if_pos hk] at hw
          unfold deadB
          exact decide_eq_true ⟨hk, goes_zero.1 hw⟩
        exact ⟨fld_dead hd, by simp [hd, h0]⟩
theorem name_32 (G : h.Good l) {p : Nat × Ob} (hp : p ∈ keepZ h l) {j : Nat} (hj : j ≤ p.2.fs.length) : nameV p.2 j < 4294967296 := by
  have K := keepZ_ok G hp
  unfold nameV
  split
  · exact K.fit.cls
  · rw [List.getD_eq_getElem?_getD, List.getElem?_eq_getElem (by omega)]
    exact K.f32 _ (List.getElem_mem _)
/-- What is named is no object, or lies within the words. -/
theorem name_isB (G : h.Good l) {k : Nat} (hk : k < l.length) {j : Nat} (hj : j < (nmsK (posOf (l.take k)) l[k]).length) (h2 : kindM (nameV l[k] j) = 2) : h.isB (nameV l[k] j) = true := by
  obtain ⟨x, h1, _, h3, _⟩ := nms_at G hk hj
  have hi : h.isB (2 * posOf (l.take k)) = true := (G.laid.isB_iff _).2 ⟨l.take k, l[k], l.drop (k + 1), split_at l k hk, rfl⟩
  refine names_isB G hi ?_ h2
  rw [← num_names G hk, ← h3]
  exact List.mem_map.2 ⟨x, List.mem_of_getElem? h1, rfl⟩
end
end Go.Proofs.YtlkahgagmfhdaaaGreatDoor

namespace Go.Proofs.YtlkahgagmfhdaaaGreatDoor
open Go.RowKit
section
variable {h : HM} {l : List Ob}
theorem colL_get {k : Nat} (hk : k < (keepZ h l).length) : (colL h l)[k]'(by rw [colL_len]; exact hk) = relob (planM h l) (voidM h l) ((keepZ h l)[k]).2 := by
  unfold colL
  rw [List.getElem_map]
theorem held_new (G : h.Good l) {k : Nat} (hk : k < (colL h l).length) : heldM (colH h l) (2 * posOf ((colL h l).take k)) = ((colL h l)[k]).x.cls :: (if ((colL h l)[k]).x.fmt = 1 then ((colL h l)[k]).fs else []) := by
  have L := col_laid G
  rw [split_at (colL h l) k hk] at L
  unfold heldM
  rw [half_pos]
  have e1 := L.hd_at
  have e2 := L.fields_at
  rw [e1, e2]
theorem live_kz {o : Nat} (ho : o ∈ liveO h l) : ∃ k, ∃ hk : k < (keepZ h l).length, ((keepZ h l)[k]).1 = o ∧ goesM (planM h l) o = 2 * posOf ((colL h l).take k) := by
  rw [← keepZ_fst] at ho
  obtain ⟨p, hp, rfl⟩ := List.mem_map.1 ho
  obtain ⟨k, hk, rfl⟩ := List.getElem_of_mem hp
  exact ⟨k, hk, rfl, goesM_at (by rw [planM_fst, ← keepZ_fst]; exact keepZ_nodup h l) (plan_get h l hk)⟩
theorem again_met (G : h.Good l) : ∀ o ∈ metO (walkM (heldM h) h.roots), o ∈ liveO h l ∧ goesM (planM h l) o ∈ metO (walkM (heldM (colH h l)) (colH h l).roots) := by
  have G' := col_good G
  refine walkM_all (P := fun o => o ∈ liveO h l ∧ goesM (planM h l) o ∈ metO (walkM (heldM (colH h l)) (colH h l).roots)) (fun x hx hk => ?_) (fun o ho x hx hk => ?_)
  · have hl := live_of_root G hx hk
    refine ⟨hl, walk_root ?_ (isB_kind (col_isB G hl))⟩
    show goesM (planM h l) x ∈ colR h l
    unfold colR
    refine List.mem_map.2 ⟨x, hx, ?_⟩
    unfold whereM
    rw [if_pos hk]
  · obtain ⟨k, hkz, he, hg⟩ := live_kz ho.1
    have hp := List.getElem_mem hkz
    rw [← he] at hx
    have hxl := live_of_held G hp hx hk
    have hkl : k < (colL h l).length := by rw [colL_len]; exact hkz
    have hw : whereM (planM h l) x = goesM (planM h l) x := by unfold whereM; rw [if_pos hk]
    have hfl : fldM (planM h l) (voidM h l) x = goesM (planM h l) x := by
      rw [← hw]
      refine fld_live ?_
      unfold deadB
      exact decide_eq_false (fun hd => hd.2 (by rw [planM_fst]; exact hxl))
    refine ⟨hxl, walk_shut G' G'.sound.roots ho.2 ?_ (isB_kind (col_isB G hxl))⟩
    rw [hg, held_new G hkl, colL_get hkz]
    rw [keepZ_held G hp] at hx
    generalize ((keepZ h l)[k]).2 = b at *
    rcases List.mem_cons.1 hx with rfl | hx
    · refine List.mem_cons.2 (.inl ?_)
      exact hw.symm
    · refine List.mem_cons.2 (.inr ?_)
      by_cases h1 : b.x.fmt = 1
      · rw [if_pos h1] at hx
        have hp1 : b.x.ptrB = true := by unfold Hd.ptrB; simp [h1]
        unfold relob
        simp only [hp1, if_true, h1]
        exact List.mem_map.2 ⟨x, hx, hfl⟩
      · rw [if_neg h1] at hx
        cases hx
theorem live_again (G : h.Good l) : liveO (colH h l) (colL h l) = oopsL (colL h l) := by
  unfold liveO
  rw [List.filter_eq_self]
  intro o ho
  unfold oopsL at ho
  obtain ⟨k, hk, rfl⟩ := List.mem_map.1 ho
  have hk := List.mem_range.1 hk
  have hkz : k < (keepZ h l).length := by rw [← colL_len]; exact hk
  have hl : ((keepZ h l)[k]).1 ∈ liveO h l := by rw [← keepZ_fst]; exact List.mem_map.2 ⟨_, List.getElem_mem hkz, rfl⟩
  have hg := goesM_at (by rw [planM_fst, ← keepZ_fst]; exact keepZ_nodup h l) (plan_get h l hkz)
  have := (again_met G _ ((mem_liveO G).1 hl)).2
  rw [hg] at this
  simpa using this
/-- A heap in which all is live. -/
theorem kz_all (ha : liveO h l = oopsL l) : keepZ h l = (oopsL l).zip l := by
  unfold keepZ
  rw [List.filter_eq_self]
  rintro ⟨o, b⟩ hp
  have h1 : o ∈ oopsL l := (List.of_mem_zip hp).1
  rw [← ha] at h1
  unfold liveO at h1
  exact (List.mem_filter.1 h1).2
theorem kz_snd (ha : liveO h l = oopsL l) : (keepZ h l).map (·.2) = l := by
  rw [kz_all ha]
  exact List.map_snd_zip (by rw [oopsL_len]; exact Nat.le_refl _)
theorem plan_same (ha : liveO h l = oopsL l) : ∀ p ∈ planM h l, p.1 = p.2 := by
  intro p hp
  obtain ⟨k, hk, rfl⟩ := List.getElem_of_mem hp
  have hkz : k < (keepZ h l).length := by have := planF_len 1 (keepZ h l); unfold planM at hk; omega
  have hg := plan_get h l hkz
  rw [List.getElem?_eq_getElem hk] at hg
  injection hg with hg
  rw [hg]
  dsimp only
  have hkl : k < l.length := by have := congrArg List.length (kz_snd ha); rw [List.length_map] at this; omega
  have h1 : ((keepZ h l)[k]).1 = 2 * posOf (l.take k) := by
    have h2 := keepZ_fst h l
    rw [ha] at h2
    have h3 := oopsL_get hkl
    rw [← h2, List.getElem?_map, List.getElem?_eq_getElem hkz] at h3
    injection h3
  rw [h1]
  congr 1
  unfold posOf
  rw [colL_eq, kz_snd ha, ← List.map_take, wsOf_same (relob_len _ _)]
theorem goes_same (ha : liveO h l = oopsL l) {x : Nat} (hx : x ∈ oopsL l) : goesM (planM h l) x = x := by
  rw [← ha] at hx
  obtain ⟨k, hk, he, _⟩ := live_kz hx
  have hg := plan_get h l hk
  have h1 := plan_same ha _ (List.mem_of_getElem? hg)
  have h2 := goesM_at (by rw [planM_fst, ← keepZ_fst]; exact keepZ_nodup h l) hg
  dsimp only at h1 h2
  rw [he] at h1 h2
  rw [h2, ← h1]
theorem where_same (G : h.Good l) (ha : liveO h l = oopsL l) {x : Nat} (hx : kindM x = 2 → h.isB x = true) : whereM (planM h l) x = x := by
  unfold whereM
  split
  · rename_i hk
    exact goes_same ha (isB_mem G (hx hk))
  · rfl
theorem dead_none (G : h.Good l) (ha : liveO h l = oopsL l) {x : Nat} (hx : kindM x = 2 → h.isB x = true) : deadB (planM h l) x = false := by
  unfold deadB
  refine decide_eq_false (fun hd => hd.2 ?_)
  rw [planM_fst, ha]
  exact isB_mem G (hx hd.1)
theorem valB_B {x : Nat} (hv : h.valB x = true) : kindM x = 2 → h.isB x = true := by
  intro hk
  unfold HM.valB objB at hv
  simpa [hk] using hv
theorem clsB_B {x : Nat} (hv : h.clsB x = true) : kindM x = 2 → h.isB x = true := by
  intro hk
  unfold HM.clsB at hv
  rw [Bool.or_eq_true] at hv
  rcases hv with hv | hv
  · have : x = 0 := by simpa using hv
    subst this
    simp [kindM] at hk
  · exact hv
theorem relob_same (G : h.Good l) (ha : liveO h l = oopsL l) {b : Ob} (hb : b ∈ l) : relob (planM h l) (voidM h l) b = b := by
  unfold relob
  have h1 := where_same G ha (clsB_B (G.sound.cls b hb))
  by_cases hp : b.x.ptrB = true
  · rw [if_pos hp, h1]
    have h2 : b.fs.map (fldM (planM h l) (voidM h l)) = b.fs := by
      conv => rhs; rw [← List.map_id b.fs]
      apply List.map_congr_left
      intro x hx
      have hv := valB_B (G.sound.flds b hb hp x hx)
      rw [fld_live (dead_none G ha hv), where_same G ha hv]
      rfl
    rw [h2]
  · rw [if_neg hp, h1]
theorem colL_same (G : h.Good l) (ha : liveO h l = oopsL l) : colL h l = l := by
  rw [colL_eq, kz_snd ha]
  conv => rhs; rw [← List.map_id l]
  apply List.map_congr_left
  intro b hb
  exact relob_same G ha hb
theorem colR_same (G : h.Good l) (ha : liveO h l = oopsL l) : colR h l = h.roots := by
  unfold colR
  conv => rhs; rw [← List.map_id h.roots]
  apply List.map_congr_left
  intro x hx
  exact where_same G ha (valB_B (G.sound.roots x hx))
theorem colH_again (G : h.Good l) : colH (colH h l) (colL h l) = colH h l := by
  have G' := col_good G
  have ha := live_again G
  unfold colH
  rw [show colL (HM.ofWords h.size (0 :: wsOf (colL h l)) (colR h l) h.last) (colL h l) = colL h l from colL_same G' ha, show colR (HM.ofWords h.size (0 :: wsOf (colL h l)) (colR h l) h.last) (colL h l) = colR h l from colR_same G' ha]
  rfl
theorem colV_again (G : h.Good l) : colV (colH h l) (colL h l) = .agg #[.int .i64 ((liveO h l).length : Nat), .int .i64 0, .int .i64 0, .int .i64 0, .int .i64 0] := by
  have G' := col_good G
  have ha := live_again G
  have hm : movedN (colH h l) (colL h l) = 0 := by
    unfold movedN
    rw [List.length_eq_zero_iff, List.filter_eq_nil_iff]
    intro p hp
    have := plan_same ha p hp
    simpa using this
  have hc : clearedN (colH h l) (colL h l) = 0 := by
    unfold clearedN
    have : ∀ z : List (Nat × Ob), (∀ p ∈ z, p.2 ∈ colL h l) → (z.map (fun p => clearedB (planM (colH h l) (colL h l)) p.2)).sum = 0 := by
      intro z
      induction z with
      | nil => intro _; rfl
      | cons p z ih =>
        intro hz
        rw [List.map_cons, List.sum_cons, ih (fun q hq => hz q (List.mem_cons_of_mem _ hq)), Nat.add_zero]
        unfold clearedB
        split
        · rename_i hpb
          rw [List.length_eq_zero_iff, List.filter_eq_nil_iff]
          intro x hx
          rw [dead_none G' ha (valB_B (G'.sound.flds p.2 (hz p (List.mem_cons_self ..)) hpb x hx))]
          decide
        · rfl
    refine this _ (fun p hp => ?_)
    obtain ⟨j, hj, _, h2, _⟩ := keepZ_mem hp
    rw [h2]
    exact List.getElem_mem hj
  have hl1 : (liveO (colH h l) (colL h l)).length = (liveO h l).length := by
    rw [ha, oopsL_len, colL_len, keepZ_len]
  have hl2 : (colL h l).length = (liveO h l).length := by rw [colL_len, keepZ_len]
  have hw : (colH h l).words.length - (1 + (wsOf (colL (colH h l) (colL h l))).length) = 0 := by
    rw [colL_same G' ha]
    show (0 :: wsOf (colL h l)).length - _ = 0
    rw [List.length_cons]
    omega
  unfold colV
  rw [hm, hc, hl1, hl2, hw, Nat.sub_self]
  rfl
end
end Go.Proofs.YtlkahgagmfhdaaaGreatDoor
