/- CompareTells over what is small; what the bound gives. -/
import Derived.Test.YtpajpdjjpgbklaaDoorJTellsL
import Derived.Test.YtpajpdjjpgbklaaDoorRows
set_option linter.unusedVariables false
namespace Go.Proofs.YtpajpdjjpgbklaaDoor
open Go.RowKit

theorem bulk_len1 {H : Type} : ∀ (l : List (DataW H)), l.length ≤ Rows.uptoBulkAll l
  | [] => Nat.zero_le _
  | x :: r => by
    have h1 := bulk_len1 r
    have h2 : 1 ≤ Rows.uptoBulk x := by
      cases x with
      | lit y => cases y <;> simp [Rows.uptoBulk]
      | _ => simp [Rows.uptoBulk]
    simp only [Rows.uptoBulkAll, List.length_cons]; omega
theorem bulk_part {H : Type} {d : DataW H} : ∀ {l : List (DataW H)} {j : Nat}, l[j]? = some d → Rows.uptoBulk d ≤ Rows.uptoBulkAll l
  | [], j, h => by simp at h
  | x :: r, 0, h => by
    simp at h; subst h
    simp only [Rows.uptoBulkAll]; omega
  | x :: r, j + 1, h => by
    have := bulk_part (l := r) (j := j) (by simpa using h)
    simp only [Rows.uptoBulkAll]; omega
theorem bulk_len {H : Type} {ds : List (DataW H)} (hk : Rows.uptoSmall H ds = true) (j : Nat) {d : DataW H} {n : Nat} (hd : ds[j]? = some d) (hn : n = 0 ∨ ∃ el sp, d = .slice el sp ∧ el.length = n) : n ≤ 1048576 := by
  have h := of_decide_eq_true hk
  rcases hn with rfl | ⟨el, sp, rfl, rfl⟩
  · exact Nat.zero_le _
  · have h1 := bulk_part hd
    have h2 := bulk_len1 el
    simp only [Rows.uptoBulk] at h1
    exact Nat.le_trans (by omega) (Nat.le_trans h1 h)
theorem tellsC_any (W : World) (E : Env W) (k0 : Cs) (hk0 : k0.At W W.heap.size) (k1 : Cs) (hk1 : k1.At W W.heap.size) (b2 : Bool) (A3 : Option Addr) (nd3 c3 : Nat) (l3 : List Nat) (hnd3 : nd3 ≤ 9223372036854775807) (hr3 : Reads W W.heap.size 1 A3 nd3 (u32s l3)) (hb3 : ∀ y ∈ l3, y < 4294967296) (hlen3 : nd3 ≤ 1048576)
    (A4 : Option Addr) (nd4 c4 : Nat) (l4 : List Nat) (hnd4 : nd4 ≤ 9223372036854775807) (hr4 : Reads W W.heap.size 1 A4 nd4 (u32s l4)) (hb4 : ∀ y ∈ l4, y < 4294967296) (hlen4 : nd4 ≤ 1048576) :
    Calls Tryd.prog 5 #[k0.agg, k1.agg, .bool b2, .slice A3 nd3 c3, .slice A4 nd4 c4] W (Told (.bool true) W) :=
  tellsL_any W E k0 k1 hk0 hk1 b2 A3 A4 nd3 nd4 c3 c4 l3 l4 (Nat.le_trans hlen3 (by decide)) (Nat.le_trans hlen4 (by decide)) hr3 hr4 hb3 hb4
end Go.Proofs.YtpajpdjjpgbklaaDoor
