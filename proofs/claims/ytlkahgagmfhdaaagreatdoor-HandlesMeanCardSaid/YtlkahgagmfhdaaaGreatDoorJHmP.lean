/- A collection under a table of handles: the array and the objects of its handles stay. Plain data. -/
import Derived.Test.YtlkahgagmfhdaaaGreatDoorJHdO
import Derived.Test.YtlkahgagmfhdaaaGreatDoorJKRCol
set_option linter.unusedVariables false
set_option linter.unusedSimpArgs false
namespace Go.Proofs.YtlkahgagmfhdaaaGreatDoor
open Go.RowKit
section
variable {t : TM} {h : HM} {l : List Ob}
theorem mem_getD {xs : List Nat} {k : Nat} (hk : k < xs.length) : xs.getD k 0 ∈ xs := by
  rw [List.getD_eq_getElem?_getD, List.getElem?_eq_getElem hk]
  exact List.getElem_mem hk
/-- The array behind a collection. -/
theorem col_arr (G : h.Good l) (hb : h.isB h.arr = true) : h.arr ∈ liveO h l ∧ (colH h l).arr = goesM (planM h l) h.arr := by
  have hr : 40 < h.roots.length := by rw [G.fit.roots]; decide
  have hk : kindM h.arr = 2 := isB_kind hb
  refine ⟨live_of_root G (mem_getD hr) hk, ?_⟩
  show ((colR h l).getD 40 0) = _
  unfold colR
  rw [getD_map0 hr]
  exact where_goes hk
/-- What a slot's field names behind a collection. -/
theorem col_obj (G : h.Good l) (hb : h.isB h.arr = true) (hf : (h.hd (h.arr / 2)).fmt = 1) {k : Nat} (hk : k < (h.hd (h.arr / 2)).size) (ho : h.isB (h.objK k) = true) :
    h.objK k ∈ liveO h l ∧ (colH h l).objK k = goesM (planM h l) (h.objK k) := by
  have G' := col_good G
  obtain ⟨ha, eA⟩ := col_arr G hb
  obtain ⟨j, hj, k2, hk2, e1, e2, e3, hn⟩ := live_obj G ha
  have hx : h.hd (h.arr / 2) = (l[j]).x := by rw [e1]; exact hd_ob G hj
  have hx' : (colH h l).hd ((colH h l).arr / 2) = ((colL h l)[k2]).x := by rw [eA, e2]; exact hd_ob G' hk2
  have hb' : (colH h l).isB (colH h l).arr = true := by rw [eA]; exact col_isB G ha
  rw [hx] at hf hk
  have hsz : (l[j]).x.size = (l[j]).fs.length := (G.laid.ok _ (List.getElem_mem hj)).size
  have hkf : k < (l[j]).fs.length := by omega
  have hp : (l[j]).x.ptrB = true := by unfold Hd.ptrB; simp [hf]
  have eo : h.objK k = (l[j]).fs.getD k 0 := by
    rw [obj_look hb (by rw [hx]; exact hf) (by rw [hx]; exact hk), e1, fw_ob G hj hkf]
  have hlv : h.objK k ∈ liveO h l := by
    refine hn _ ?_ (isB_kind ho)
    rw [if_pos hf, eo]
    exact List.mem_cons_of_mem _ (mem_getD hkf)
  refine ⟨hlv, ?_⟩
  rw [obj_look hb' (by rw [hx', e3]; exact hf) (by rw [hx', e3]; exact hk), eA, e2, fw_ob G' hk2 (by rw [e3, relob_len]; exact hkf), e3, relob_fsP hp, getD_map0 hkf, ← eo, fld_goes G _ (fun _ => hlv), where_goes (isB_kind ho)]
theorem col_ser (G : h.Good l) {x : Nat} (hx : x ∈ liveO h l) : ((colH h l).hd (goesM (planM h l) x / 2)).ser = (h.hd (x / 2)).ser := by
  have G' := col_good G
  obtain ⟨j, hj, k2, hk2, e1, e2, e3, -⟩ := live_obj G hx
  rw [e2, hd_ob G' hk2, e3, e1, hd_ob G hj]
  rfl
/-- A collection breaks no table, and each handle's object stays what it was. -/
theorem col_tab (G : h.Good l) (O : t.Ok) (hb : brkB h t = false) : brkB (colH h l) t = false ∧
    ∀ k, usedB (t.at k) = true → (colH h l).isB ((colH h l).objK k) = true ∧ ((colH h l).hd ((colH h l).objK k / 2)).ser = (h.hd (h.objK k / 2)).ser := by
  obtain ⟨⟨a1, a2, a3⟩, a4⟩ := brk_parts.1 hb
  have G' := col_good G
  obtain ⟨ha, eA⟩ := col_arr G a1
  obtain ⟨j, hj, k2, hk2, e1, e2, e3, hn⟩ := live_obj G ha
  have hx : h.hd (h.arr / 2) = (l[j]).x := by rw [e1]; exact hd_ob G hj
  have hx' : (colH h l).hd ((colH h l).arr / 2) = ((colL h l)[k2]).x := by rw [eA, e2]; exact hd_ob G' hk2
  have key : ∀ k, usedB (t.at k) = true → (colH h l).isB ((colH h l).objK k) = true ∧ ((colH h l).hd ((colH h l).objK k / 2)).ser = (h.hd (h.objK k / 2)).ser := fun k hu => by
    have hkc : k < t.cap := by
      rcases Nat.lt_or_ge k t.cap with h1 | h1
      · exact h1
      · rw [O.off k h1] at hu
        exact absurd hu (by decide)
    have hhi := O.hi
    obtain ⟨hl, e⟩ := col_obj G a1 a2 (k := k) (by omega) (a4 k (by omega) hu)
    rw [e]
    exact ⟨col_isB G hl, col_ser G hl⟩
  refine ⟨brk_parts.2 ⟨⟨by rw [eA]; exact col_isB G ha, ?_, ?_⟩, fun k _ hu => (key k hu).1⟩, key⟩
  · rw [hx', e3]; rw [hx] at a2; exact a2
  · rw [hx', e3]; rw [hx] at a3; exact a3
end
end Go.Proofs.YtlkahgagmfhdaaaGreatDoor
