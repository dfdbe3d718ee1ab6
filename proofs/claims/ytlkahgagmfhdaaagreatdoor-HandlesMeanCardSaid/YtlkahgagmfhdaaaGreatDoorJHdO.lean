/- slices.SortFunc of handles: a row of handles is sorted by their numbers. -/
/- Live: the handles that there are, by their numbers. -/
/- A table of handles: what an issue does to the handles that there are. Plain data. -/
/- The document's table of handles: the model that it follows. Plain data. -/
import Derived.Test.YtlkahgagmfhdaaaGreatDoorJSoAll
import Derived.Test.YtlkahgagmfhdaaaGreatDoorHdL
import Derived.Test.YtlkahgagmfhdaaaGreatDoorTail
import Derived.Test.YtlkahgagmfhdaaaGreatDoorJUntil
import Derived.Shelf.SlSortCmp.NoneTotal
import Derived.Lib.QuietBelow
set_option linter.unusedVariables false
set_option linter.unusedSimpArgs false
set_option linter.unusedSectionVars false
namespace Go.Proofs.YtlkahgagmfhdaaaGreatDoor
open Go.RowKit Go.Sort
attribute [local go_sem] Oper.semAt_some

abbrev H3 := Nat × Nat × Nat
end Go.Proofs.YtlkahgagmfhdaaaGreatDoor

namespace Go.Proofs.YtlkahgagmfhdaaaGreatDoor
open Go.RowKit Go.Sort
attribute [local go_sem] Oper.semAt_some
section
variable {W w : World} {p : HP} {g gt : Nat} {h : HM} {t : TM} (T : HT W w p g gt h t)
include T
end
end Go.Proofs.YtlkahgagmfhdaaaGreatDoor

namespace Go.Proofs.YtlkahgagmfhdaaaGreatDoor
open Go.RowKit
section
variable {t : TM} {h : HM}
theorem issue_at (O : t.Ok) {k n : Nat} (hk : k < 256) (j : Nat) : (t.issue k n).at j = if j = k then (t.next, t.now + n) else t.at j := at_set _ _ _ (by rw [O.len]; exact hk) j
theorem brk_parts : brkB h t = false ↔ (h.isB h.arr = true ∧ (h.hd (h.arr / 2)).fmt = 1 ∧ t.cap ≤ (h.hd (h.arr / 2)).size) ∧ ∀ k, k < 256 → usedB (t.at k) = true → h.isB (h.objK k) = true := by
  unfold brkB HM.badA
  rw [Bool.or_eq_false_iff]
  refine and_congr ?_ ?_
  · simp only [Bool.not_eq_false', Bool.and_eq_true, decide_eq_true_eq]
    exact ⟨fun hh => ⟨hh.1.1, hh.1.2, hh.2⟩, fun hh => ⟨⟨hh.1, hh.2.1⟩, hh.2.2⟩⟩
  · rw [List.any_eq_false]
    refine ⟨fun hh k hk hu => ?_, fun hh k hk => ?_⟩
    · have := hh k (List.mem_range.2 hk)
      unfold lostK at this
      rw [hu] at this
      simpa using this
    · have := hh k (List.mem_range.1 hk)
      unfold lostK
      intro hc
      simp only [Bool.and_eq_true, Bool.not_eq_true'] at hc
      rw [this hc.1] at hc
      exact absurd hc.2 (by decide)
/-- A field of the array that no error guards. -/
theorem look_arr (hb : h.isB h.arr = true) (hf : (h.hd (h.arr / 2)).fmt = 1) {k : Nat} (hk : k < (h.hd (h.arr / 2)).size) : h.lookE h.arr k [1, 4] = 0 := by
  unfold HM.lookE
  have hl : (h.hd (h.arr / 2)).len = (h.hd (h.arr / 2)).size := by unfold Hd.len; rw [if_neg (by omega)]
  rw [hb, hf, if_neg (by decide), if_neg (by decide), hl, if_neg (by omega)]
theorem obj_look (hb : h.isB h.arr = true) (hf : (h.hd (h.arr / 2)).fmt = 1) {k : Nat} (hk : k < (h.hd (h.arr / 2)).size) : h.objK k = fw h h.arr k := by
  unfold HM.objK HM.readN
  rw [if_pos (look_arr hb hf hk)]
  rfl
theorem put_ok (hb : h.isB h.arr = true) (hf : (h.hd (h.arr / 2)).fmt = 1) {k : Nat} (hk : k < (h.hd (h.arr / 2)).size) {o : Nat} (ho : h.isB o = true) : h.putH h.arr k o = h.setF h.arr k o := by
  unfold HM.putH HM.putE
  rw [if_pos (look_arr hb hf hk), show h.valB o = true by unfold HM.valB; rw [ho]; simp]
  rfl
theorem iss_parts {o : Nat} {n : Int} (he : issE h t o n = 0) : brkB h t = false ∧ h.isB o = true ∧ leaseB n = true ∧ t.free < t.cap ∧ t.next ≠ 0 := by
  unfold issE at he
  split at he
  · omega
  rename_i h1
  split at he
  · omega
  rename_i h2
  split at he
  · omega
  rename_i h3
  split at he
  · omega
  rename_i h4
  split at he
  · omega
  rename_i h5
  exact ⟨by simpa using h1, by simpa using h2, by simpa using h3, by omega, h5⟩
/-- Behind an issue the table is not broken. -/
theorem brk_issue (O : t.Ok) (hh : h.Heads) (hl : h.starts.length = h.words.length) {o : Nat} {n : Int} (he : issE h t o n = 0) : brkB (issH h t o n) (issT h t o n) = false := by
  obtain ⟨hb, ho, hle, hfr, hnx⟩ := iss_parts he
  obtain ⟨⟨a1, a2, a3⟩, a4⟩ := brk_parts.1 hb
  have hk : t.free < (h.hd (h.arr / 2)).size := by omega
  have hhi := O.hi
  have eH : issH h t o n = h.setF h.arr t.free o := by unfold issH; rw [if_pos he]; exact put_ok a1 a2 hk ho
  have eT : issT h t o n = t.issue t.free n.toNat := by unfold issT; rw [if_pos he]
  have eA : (h.setF h.arr t.free o).arr = h.arr := rfl
  have eB : ∀ x, (h.setF h.arr t.free o).isB x = h.isB x := fun x => rfl
  have eD : (h.setF h.arr t.free o).hd (h.arr / 2) = h.hd (h.arr / 2) := setF_hd ..
  rw [eH, eT, brk_parts, eA, eB, eD]
  refine ⟨⟨a1, a2, a3⟩, fun k hk2 hu => ?_⟩
  have hkc : k < t.cap := by
    rcases Nat.lt_or_ge k t.cap with h1 | h1
    · exact h1
    · rw [issue_at O (by omega), if_neg (by omega), O.off k h1] at hu
      exact absurd hu (by decide)
  rw [obj_look (h := h.setF h.arr t.free o) (by rw [eA, eB]; exact a1) (by rw [eA, eD]; exact a2) (by rw [eA, eD]; omega), eA, eB]
  by_cases h1 : k = t.free
  · subst h1
    have hlen := (HM.isB_hd hh a1).1
    have : fw (h.setF h.arr t.free o) h.arr t.free = o := by
      unfold fw HM.w HM.setF
      simp only
      rw [List.getD_eq_getElem?_getD, List.getElem?_set, if_pos rfl, if_pos (by omega)]
      rfl
    rw [this]
    exact ho
  · have : fw (h.setF h.arr t.free o) h.arr k = fw h h.arr k := by
      unfold fw
      exact setF_w _ _ _ _ _ (by omega)
    rw [this, ← obj_look a1 a2 (by omega)]
    rw [issue_at O (by omega), if_neg h1] at hu
    exact a4 k hk2 hu
theorem iss_no {o : Nat} {n : Int} (he : issE h t o n ≠ 0) : issH h t o n = h ∧ issT h t o n = t := ⟨by unfold issH; rw [if_neg he], by unfold issT; rw [if_neg he]⟩
theorem iss_cap (o : Nat) (n : Int) : (issT h t o n).cap = t.cap := by unfold issT; split <;> rfl
end
end Go.Proofs.YtlkahgagmfhdaaaGreatDoor

namespace Go.Proofs.YtlkahgagmfhdaaaGreatDoor
open Go.RowKit
section
variable {t : TM} {h : HM}
theorem used_lt (O : t.Ok) {k : Nat} (hu : usedB (t.at k) = true) : k < t.cap := by
  rcases Nat.lt_or_ge k t.cap with h1 | h1
  · exact h1
  · rw [O.off k h1] at hu
    exact absurd hu (by decide)
end
end Go.Proofs.YtlkahgagmfhdaaaGreatDoor
