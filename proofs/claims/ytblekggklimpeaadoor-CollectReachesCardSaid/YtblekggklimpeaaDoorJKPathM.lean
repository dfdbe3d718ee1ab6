/- The way from a beginning. Plain data. -/
import Derived.Test.YtblekggklimpeaaDoorJKPlan
set_option linter.unusedVariables false
set_option linter.unusedSimpArgs false
namespace Go.Proofs.YtblekggklimpeaaDoor
open Go.RowKit
/-- Each was come to from one ahead of it, or from none. -/
def ByLt (W : Wk) : Prop := ∀ k, ∀ hk : k < W.length, -1 ≤ (W[k]).2 ∧ (W[k]).2 < (k : Int)
theorem putW_by {W : Wk} {o : Nat} {b : Int} (h : ByLt W) (h1 : -1 ≤ b) (h2 : b < (W.length : Int)) : ByLt (putW W o b) := by
  unfold putW
  split
  · intro k hk
    by_cases hlt : k < W.length
    · rw [List.getElem_append_left hlt]
      exact h k hlt
    · rw [List.length_append] at hk
      simp at hk
      obtain rfl : k = W.length := by omega
      simp
      exact ⟨h1, h2⟩
  · exact h
theorem putsW_by {W : Wk} {os : List Nat} {b : Int} (h : ByLt W) (h1 : -1 ≤ b) (h2 : b < (W.length : Int)) : ByLt (putsW W os b) := by
  induction os generalizing W with
  | nil => exact h
  | cons o os ih =>
    rw [putsW_cons]
    refine ih (putW_by h h1 h2) ?_
    have := (putW_pre W o b).length_le
    omega
theorem walkF_by (nm : Nat → List Nat) : ∀ (f i : Nat) (W : Wk), ByLt W → ByLt (walkF nm f i W)
  | 0, _, _, h => h
  | f + 1, i, W, h => by
    unfold walkF
    split
    · rename_i hi
      exact walkF_by nm f (i + 1) _ (putsW_by h (by omega) (by omega))
    · exact h
theorem walkM_by (nm : Nat → List Nat) (fr : List Nat) : ByLt (walkM nm fr) := by
  unfold walkM
  refine walkF_by nm _ _ _ ?_
  have : ∀ (os : List Nat) (W : Wk), ByLt W → ByLt (putsW W os (-1)) := by
    intro os
    induction os with
    | nil => intro W h; exact h
    | cons o os ih =>
      intro W h
      rw [putsW_cons]
      exact ih _ (putW_by h (by omega) (by omega))
  exact this fr [] (fun k hk => by simp at hk)
/-- From one on, back to a beginning. -/
def upL (W : Wk) : Nat → Int → List Nat
  | 0, _ => []
  | f + 1, k => if 0 ≤ k then (W.getD k.toNat (0, 0)).1 :: upL W f (W.getD k.toNat (0, 0)).2 else []
def upK (W : Wk) (k : Int) : List Nat := upL W (k + 1).toNat k
theorem getD_W {W : Wk} {k : Nat} (hk : k < W.length) : W.getD k (0, 0) = W[k] := by rw [List.getD_eq_getElem?_getD, List.getElem?_eq_getElem hk]; rfl
theorem upL_more {W : Wk} (hb : ByLt W) : ∀ (f f' : Nat) (k : Int), k < (W.length : Int) → (k + 1).toNat ≤ f → (k + 1).toNat ≤ f' → upL W f k = upL W f' k
  | 0, 0, _, _, _, _ => rfl
  | 0, f' + 1, k, _, h1, _ => by
    unfold upL
    rw [if_neg (by omega)]
  | f + 1, 0, k, _, _, h2 => by
    unfold upL
    rw [if_neg (by omega)]
  | f + 1, f' + 1, k, hk, h1, h2 => by
    unfold upL
    by_cases h0 : 0 ≤ k
    · rw [if_pos h0, if_pos h0]
      have hl : k.toNat < W.length := by omega
      rw [getD_W hl]
      have hb' := hb k.toNat hl
      rw [upL_more hb f f' (W[k.toNat]).2 (by omega) (by omega) (by omega)]
    · rw [if_neg h0, if_neg h0]
theorem upK_neg {W : Wk} {k : Int} (hk : k < 0) : upK W k = [] := by
  unfold upK
  rw [show (k + 1).toNat = 0 by omega]
  rfl
theorem upK_step {W : Wk} (hb : ByLt W) {k : Nat} (hk : k < W.length) : upK W (k : Int) = (W[k]).1 :: upK W (W[k]).2 := by
  unfold upK
  rw [show ((k : Int) + 1).toNat = k + 1 by omega]
  conv => lhs; unfold upL
  rw [if_pos (by omega), Int.toNat_natCast, getD_W hk]
  have hb' := hb k hk
  rw [upL_more hb k ((W[k]).2 + 1).toNat (W[k]).2 (by omega) (by omega) (Nat.le_refl _)]
theorem upK_len {W : Wk} (hb : ByLt W) : ∀ (n : Nat) (k : Int), (k + 1).toNat ≤ n → k < (W.length : Int) → (upK W k).length ≤ n
  | n, k, h1, h2 => by
    by_cases h0 : 0 ≤ k
    · obtain ⟨j, rfl⟩ := Int.eq_ofNat_of_zero_le h0
      have hj : j < W.length := by omega
      rw [upK_step hb hj, List.length_cons]
      have hb' := hb j hj
      have := upK_len hb (n - 1) (W[j]).2 (by omega) (by omega)
      omega
    · rw [upK_neg (by omega)]
      exact Nat.zero_le _
  termination_by n k => (k + 1).toNat
  decreasing_by omega
/-- The way from a beginning to one. -/
def pathL (W : Wk) (o : Nat) : List Nat := if o ∈ metO W then (o :: upK W (byOf W o)).reverse else []
theorem pathL_at {W : Wk} (hb : ByLt W) (hd : (metO W).Nodup) {i : Nat} (hi : i < W.length) : pathL W (W[i]).1 = (upK W (i : Int)).reverse := by
  unfold pathL
  have hm : (W[i]).1 ∈ metO W := List.mem_map.2 ⟨W[i], List.getElem_mem hi, rfl⟩
  rw [if_pos hm, byOf_at hd hi, upK_step hb hi]
theorem pathL_no {W : Wk} {o : Nat} (h : o ∉ metO W) : pathL W o = [] := by unfold pathL; rw [if_neg h]
end Go.Proofs.YtblekggklimpeaaDoor
