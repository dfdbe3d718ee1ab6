/- How many words a deed changes. Plain data. -/
import Derived.Test.YtkpjkbkglnabiaaDoorScript
set_option linter.unusedVariables false
namespace Go.Proofs.YtkpjkbkglnabiaaDoor
open Go.RowKit


def diffN (xs ys : List Nat) (k : Nat) : Nat := ((List.range k).filter fun i => xs.getD i 0 != ys.getD i 0).length
theorem diffN_zero (xs ys : List Nat) : diffN xs ys 0 = 0 := rfl
theorem diffN_le (xs ys : List Nat) (k : Nat) : diffN xs ys k ≤ k := by
  unfold diffN
  exact Nat.le_trans (List.length_filter_le _ _) (by simp)
theorem diffN_eq {xs ys : List Nat} {k : Nat} (h : xs.getD k 0 = ys.getD k 0) : diffN xs ys (k + 1) = diffN xs ys k := by
  unfold diffN
  rw [List.range_succ, List.filter_append, List.filter_cons, h, bne_self_eq_false, if_neg (by decide)]
  simp
theorem diffN_ne {xs ys : List Nat} {k : Nat} (h : xs.getD k 0 ≠ ys.getD k 0) : diffN xs ys (k + 1) = diffN xs ys k + 1 := by
  unfold diffN
  rw [List.range_succ, List.filter_append, List.filter_cons, if_pos (by rw [bne_iff_ne]; exact h)]
  simp
theorem diffN_same {xs ys : List Nat} {k : Nat} (h : ∀ i, i < k → xs.getD i 0 = ys.getD i 0) : diffN xs ys k = 0 := by
  induction k with
  | zero => rfl
  | succ k ih => rw [diffN_eq (h k (by omega))]; exact ih fun i hi => h i (by omega)
theorem diffN_one {xs ys : List Nat} {k j : Nat} (h : ∀ i, i < k → i ≠ j → xs.getD i 0 = ys.getD i 0) : diffN xs ys k ≤ 1 := by
  induction k with
  | zero => exact Nat.zero_le _
  | succ k ih =>
    by_cases hk : k = j
    · subst hk
      have h0 : diffN xs ys k = 0 := diffN_same fun i hi => h i (by omega) (by omega)
      by_cases he : xs.getD k 0 = ys.getD k 0
      · rw [diffN_eq he, h0]; omega
      · rw [diffN_ne he, h0]; exact Nat.le_refl _
    · rw [diffN_eq (h k (by omega) hk)]
      exact ih fun i hi hj => h i (by omega) hj
theorem diffN_self (xs : List Nat) (k : Nat) : diffN xs xs k = 0 := diffN_same fun _ _ => rfl
theorem diffN_set (xs : List Nat) (j v k : Nat) : diffN xs (xs.set j v) k ≤ 1 :=
  diffN_one (j := j) fun i _ hj => by rw [List.getD_eq_getElem?_getD, List.getD_eq_getElem?_getD, List.getElem?_set_ne (Ne.symm hj)]
theorem diffN_app (xs ys : List Nat) : diffN xs (xs ++ ys) xs.length = 0 :=
  diffN_same fun i hi => by rw [getD_app_left _ _ _ _ hi]

theorem HM.actH_none {h : HM} {d : Dd} (h0 : d.what < 2) (h1 : h.actO d = 0) (hw : 1 ≤ h.words.length) : h.actH d = h := by
  unfold HM.actO at h1
  unfold HM.actH
  by_cases e0 : d.what = 0
  · rw [if_pos e0] at h1 ⊢
    rw [HM.AllocH_eq]
    split at h1
    · omega
    · rename_i hne; rw [if_neg hne]
  rw [if_neg e0] at h1 ⊢
  by_cases e1 : d.what = 1
  · rw [if_pos e1] at h1 ⊢
    unfold HM.makeH
    split at h1
    · omega
    · rename_i hne; rw [if_neg hne]
  rw [if_neg e1, if_neg (by omega), if_neg (by omega), if_neg (by omega), if_neg (by omega), if_neg (by omega)]

theorem HM.actH_roots_len (h : HM) (d : Dd) : (h.actH d).roots.length = h.roots.length := by
  unfold HM.actH
  split
  · rw [HM.AllocH_eq]; split <;> rfl
  split
  · unfold HM.makeH; split <;> rfl
  split
  · unfold HM.putH; split <;> rfl
  split
  · unfold HM.setWordH; split <;> rfl
  split
  · unfold HM.setByteH; split <;> rfl
  split
  · unfold HM.setClassH; split <;> rfl
  split
  · unfold HM.setRootH
    split
    · simp
    · rfl
  · rfl

theorem HM.actH_diff {h : HM} {d : Dd} (h2 : ¬ d.what < 2) : diffN h.words (h.actH d).words h.words.length + diffN h.roots (h.actH d).roots h.roots.length ≤ 1 := by
  have setF : ∀ o k v, diffN h.words (h.setF o k v).words h.words.length + diffN h.roots (h.setF o k v).roots h.roots.length ≤ 1 := by
    intro o k v
    have h1 := diffN_set h.words (o / 2 + 3 + k) v h.words.length
    have h2 := diffN_self h.roots h.roots.length
    show diffN h.words (h.words.set _ _) _ + diffN h.roots h.roots _ ≤ 1
    omega
  have self : diffN h.words h.words h.words.length + diffN h.roots h.roots h.roots.length ≤ 1 := by
    rw [diffN_self, diffN_self]; omega
  unfold HM.actH
  rw [if_neg (by omega), if_neg (by omega)]
  split
  · unfold HM.putH; split
    · exact setF _ _ _
    · exact self
  split
  · unfold HM.setWordH; split
    · exact setF _ _ _
    · exact self
  split
  · unfold HM.setByteH; split
    · exact setF _ _ _
    · exact self
  split
  · unfold HM.setClassH; split
    · have h1 := diffN_set h.words (d.o / 2 + 1) d.v h.words.length
      have h2 := diffN_self h.roots h.roots.length
      show diffN h.words (h.words.set _ _) _ + diffN h.roots h.roots _ ≤ 1
      omega
    · exact self
  split
  · unfold HM.setRootH; split
    · have h1 := diffN_set h.roots d.i.toNat d.v h.roots.length
      have h2 := diffN_self h.words h.words.length
      show diffN h.words h.words _ + diffN h.roots (h.roots.set _ _) _ ≤ 1
      omega
    · exact self
  · exact self

/-- What a deed changes: of what was there at most one, and of a refused one or an allocation nothing. -/
theorem HM.Scr.diff {h : HM} {l : List Ob} (s : h.Scr l) (d : Dd) (fd : d.Fit) :
    h.words.length ≤ (h.actH d).words.length ∧ (h.actH d).roots.length = h.roots.length ∧
    (d.what < 2 → diffN h.words (h.actH d).words h.words.length = 0 ∧ diffN h.roots (h.actH d).roots h.roots.length = 0 ∧
      ((h.actO d = 0 ∧ (h.actH d).words.length = h.words.length ∧ (h.actH d).last = h.last) ∨
       (h.actO d = 2 * h.words.length ∧ (h.actH d).isB (h.actO d) = true ∧ (h.actH d).last = h.last + 1 ∧ ((h.actH d).hd (h.actO d / 2)).ser = h.last + 1 ∧ (h.actH d).words.length = h.words.length + 3 + ((h.actH d).hd (h.actO d / 2)).size))) ∧
    (¬ d.what < 2 → diffN h.words (h.actH d).words h.words.length + diffN h.roots (h.actH d).roots h.roots.length ≤ 1 ∧ (h.actH d).words.length = h.words.length ∧ (h.actH d).last = h.last) := by
  obtain ⟨l', s', _, _, hd⟩ := s.act d fd
  have hone := s.good.fit.one
  refine ⟨?_, h.actH_roots_len d, ?_, ?_⟩
  · rcases hd with ⟨_, e, _⟩ | ⟨_, b, _, _, e, _⟩
    · omega
    · rw [e, List.length_append]; omega
  · intro hlt
    rcases hd with ⟨e0, e1, e2, _⟩ | ⟨e0, b, rfl, e1, e2, e3, e4⟩
    · rw [HM.actH_none hlt e0 hone]
      exact ⟨diffN_self _ _, diffN_self _ _, .inl ⟨e0, rfl, rfl⟩⟩
    · have hp : 2 * h.words.length = 2 * posOf l := by rw [s.good.laid.words]; simp [posOf]; omega
      refine ⟨by rw [e2]; exact diffN_app _ _, by rw [e3]; exact diffN_self _ _, .inr ⟨e0, ?_, e4, ?_, ?_⟩⟩
      · rw [e0, hp]
        exact (s'.good.laid.isB_iff _).2 ⟨l, b, [], rfl, rfl⟩
      · rw [e0, hp, half_pos, s'.good.laid.hd_at]; exact e1
      · rw [e0, hp, half_pos, s'.good.laid.hd_at, e2, List.length_append, b.ws_len, s'.good.laid.ok_at.size]; omega
  · intro hge
    refine ⟨HM.actH_diff hge, ?_⟩
    rcases hd with ⟨e0, e1, e2, _⟩ | ⟨e0, b, rfl, e1, e2, e3, e4⟩
    · exact ⟨e1, e2⟩
    · exfalso
      unfold HM.actO at e0
      rw [if_neg (by omega), if_neg (by omega)] at e0
      omega
end Go.Proofs.YtkpjkbkglnabiaaDoor
