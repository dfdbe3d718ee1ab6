/- A list within the second form's bulk is short. -/
import Derived.Test.YtblekggklimpeaaGreatDoorJKBecomesL
import Derived.Test.YtblekggklimpeaaGreatDoorCards
set_option linter.unusedVariables false
namespace Go.Proofs.YtblekggklimpeaaGreatDoor
open Go.RowKit
theorem bulk_len1 {H : Type} : ∀ (l : List (DataW H)), l.length ≤ Rows.uptoBulkAll l
  | [] => Nat.zero_le _
  | x :: r => by
    have h1 := bulk_len1 r
    have h2 : 1 ≤ Rows.uptoBulk x := by
      cases x with
      | lit y => cases y <;> simp [Rows.uptoBulk]
      | _ => simp [Rows.uptoBulk]
    simp only [Rows.uptoBulkAll, List.length_cons]; omega
theorem bulk_part {H : Type} {d : DataW H} : ∀ {l : List (DataW H)} {j : Nat}, l[j]? = some d → Rows.uptoBulk d ≤ Rows.uptoBulkAll l
  | [], j, h => by simp at h
  | x :: r, 0, h => by
    simp at h; subst h
    simp only [Rows.uptoBulkAll]; omega
  | x :: r, j + 1, h => by
    have := bulk_part (l := r) (j := j) (by simpa using h)
    simp only [Rows.uptoBulkAll]; omega
theorem bulk_len {H : Type} {ds : List (DataW H)} (hk : Rows.uptoSmall H ds = true) (j : Nat) {d : DataW H} {n : Nat} (hd : ds[j]? = some d) (hn : n = 0 ∨ ∃ el sp, d = .slice el sp ∧ el.length = n) : n ≤ 1048576 := by
  have h := of_decide_eq_true hk
  rcases hn with rfl | ⟨el, sp, rfl, rfl⟩
  · exact Nat.zero_le _
  · have h1 := bulk_part hd
    have h2 := bulk_len1 el
    simp only [Rows.uptoBulk] at h1
    exact Nat.le_trans (by omega) (Nat.le_trans h1 h)
end Go.Proofs.YtblekggklimpeaaGreatDoor
