/- The way from a beginning. Plain data. -/
/- What the way from a root is: each held by the one ahead. Plain data. -/
import Derived.Test.YtblekggklimpeaaDoorJKNamed
set_option linter.unusedVariables false
set_option linter.unusedSimpArgs false
set_option linter.unusedSectionVars false
namespace Go.Proofs.YtblekggklimpeaaDoor
open Go.RowKit
/-- Each was come to from one ahead of it, or from none. -/
def ByLt (W : Wk) : Prop := ∀ k, ∀ hk : k < W.length, -1 ≤ (W[k]).2 ∧ (W[k]).2 < (k : Int)
theorem putW_by {W : Wk} {o : Nat} {b : Int} (h : ByLt W) (h1 : -1 ≤ b) (h2 : b < (W.length : Int)) : ByLt (putW W o b) := by
  unfold putW
  split
  · intro k hk
    by_cases hlt : k < W.length
    · rw [List.getElem_append_left hlt]
      exact h k hlt
    · rw [List.length_append] at hk
      simp at hk
      obtain rfl : k = W.length := by omega
      simp
      exact ⟨h1, h2⟩
  · exact h
theorem putsW_by {W : Wk} {os : List Nat} {b : Int} (h : ByLt W) (h1 : -1 ≤ b) (h2 : b < (W.length : Int)) : ByLt (putsW W os b) := by
  induction os generalizing W with
  | nil => exact h
  | cons o os ih =>
    rw [putsW_cons]
    refine ih (putW_by h h1 h2) ?_
    have := (putW_pre W o b).length_le
    omega
theorem walkF_by (nm : Nat → List Nat) : ∀ (f i : Nat) (W : Wk), ByLt W → ByLt (walkF nm f i W)
  | 0, _, _, h => h
  | f + 1, i, W, h => by
    unfold walkF
    split
    · rename_i hi
      exact walkF_by nm f (i + 1) _ (putsW_by h (by omega) (by omega))
    · exact h
theorem walkM_by (nm : Nat → List Nat) (fr : List Nat) : ByLt (walkM nm fr) := by
  unfold walkM
  refine walkF_by nm _ _ _ ?_
  have : ∀ (os : List Nat) (W : Wk), ByLt W → ByLt (putsW W os (-1)) := by
    intro os
    induction os with
    | nil => intro W h; exact h
    | cons o os ih =>
      intro W h
      rw [putsW_cons]
      exact ih _ (putW_by h (by omega) (by omega))
  exact this fr [] (fun k hk => by simp at hk)
/-- From one on, back to a beginning. -/
def upL (W : Wk) : Nat → Int → List Nat
  | 0, _ => []
  | f + 1, k => if 0 ≤ k then (W.getD k.toNat (0, 0)).1 :: upL W f (W.getD k.toNat (0, 0)).2 else []
def upK (W : Wk) (k : Int) : List Nat := upL W (k + 1).toNat k
theorem getD_W {W : Wk} {k : Nat} (hk : k < W.length) : W.getD k (0, 0) = W[k] := by rw [List.getD_eq_getElem?_getD, List.getElem?_eq_getElem hk]; rfl
theorem upL_more {W : Wk} (hb : ByLt W) : ∀ (f f' : Nat) (k : Int), k < (W.length : Int) → (k + 1).toNat ≤ f → (k + 1).toNat ≤ f' → upL W f k = upL W f' k
  | 0, 0, _, _, _, _ => rfl
  | 0, f' + 1, k, _, h1, _ => by
    unfold upL
    rw [if_neg (by omega)]
  | f + 1, 0, k, _, _, h2 => by
    unfold upL
    rw [if_neg (by omega)]
  | f + 1, f' + 1, k, hk, h1, h2 => by
    unfold upL
    by_cases h0 : 0 ≤ k
    · rw [if_pos h0, if_pos h0]
      have hl : k.toNat < W.length := by omega
      rw [getD_W hl]
      have hb' := hb k.toNat hl
      rw [upL_more hb f f' (W[k.toNat]).2 (by omega) (by omega) (by omega)]
    · rw [if_neg h0, if_neg h0]
theorem upK_neg {W : Wk} {k : Int} (hk : k < 0) : upK W k = [] := by
  unfold upK
  rw [show (k + 1).toNat = 0 by omega]
  rfl
theorem upK_step {W : Wk} (hb : ByLt W) {k : Nat} (hk : k < W.length) : upK W (k : Int) = (W[k]).1 :: upK W (W[k]).2 := by
  unfold upK
  rw [show ((k : Int) + 1).toNat = k + 1 by omega]
  conv => lhs; unfold upL
  rw [if_pos (by omega), Int.toNat_natCast, getD_W hk]
  have hb' := hb k hk
  rw [upL_more hb k ((W[k]).2 + 1).toNat (W[k]).2 (by omega) (by omega) (Nat.le_refl _)]
theorem upK_len {W : Wk} (hb : ByLt W) : ∀ (n : Nat) (k : Int), (k + 1).toNat ≤ n → k < (W.length : Int) → (upK W k).length ≤ n
  | n, k, h1, h2 => by
    by_cases h0 : 0 ≤ k
    · obtain ⟨j, rfl⟩ := Int.eq_ofNat_of_zero_le h0
      have hj : j < W.length := by omega
      rw [upK_step hb hj, List.length_cons]
      have hb' := hb j hj
      have := upK_len hb (n - 1) (W[j]).2 (by omega) (by omega)
      omega
    · rw [upK_neg (by omega)]
      exact Nat.zero_le _
  termination_by n k => (k + 1).toNat
  decreasing_by omega
/-- The way from a beginning to one. -/
def pathL (W : Wk) (o : Nat) : List Nat := if o ∈ metO W then (o :: upK W (byOf W o)).reverse else []
theorem pathL_at {W : Wk} (hb : ByLt W) (hd : (metO W).Nodup) {i : Nat} (hi : i < W.length) : pathL W (W[i]).1 = (upK W (i : Int)).reverse := by
  unfold pathL
  have hm : (W[i]).1 ∈ metO W := List.mem_map.2 ⟨W[i], List.getElem_mem hi, rfl⟩
  rw [if_pos hm, byOf_at hd hi, upK_step hb hi]
theorem pathL_no {W : Wk} {o : Nat} (h : o ∉ metO W) : pathL W o = [] := by unfold pathL; rw [if_neg h]
end Go.Proofs.YtblekggklimpeaaDoor

namespace Go.Proofs.YtblekggklimpeaaDoor
open Go.RowKit
/-- Each was named by a beginning, or is held by the one that it was come to from. -/
def HldW (nm : Nat → List Nat) (fr : List Nat) (W : Wk) : Prop := ∀ k, ∀ hk : k < W.length, ((W[k]).2 = -1 ∧ (W[k]).1 ∈ fr) ∨ ∃ j, ∃ hj : j < W.length, j < k ∧ (W[k]).2 = (j : Int) ∧ (W[k]).1 ∈ nm (W[j]).1
theorem hld_snoc {nm : Nat → List Nat} {fr : List Nat} {W : Wk} {o : Nat} {b : Int} (h : HldW nm fr W) (hn : (b = -1 ∧ o ∈ fr) ∨ ∃ j, ∃ hj : j < W.length, b = (j : Int) ∧ o ∈ nm (W[j]).1) : HldW nm fr (W ++ [(o, b)]) := by
  intro k hk
  by_cases hlt : k < W.length
  · rw [List.getElem_append_left hlt]
    rcases h k hlt with h1 | ⟨j, hj, h1, h2, h3⟩
    · exact .inl h1
    · refine .inr ⟨j, by rw [List.length_append]; omega, h1, h2, ?_⟩
      rw [List.getElem_append_left hj]
      exact h3
  · have hk2 : k = W.length := by rw [List.length_append] at hk; simp at hk; omega
    subst hk2
    simp only [List.getElem_concat_length]
    rcases hn with h1 | ⟨j, hj, h2, h3⟩
    · exact .inl h1
    · refine .inr ⟨j, by rw [List.length_append]; omega, hj, h2, ?_⟩
      rw [List.getElem_append_left hj]
      exact h3
theorem hld_put {nm : Nat → List Nat} {fr : List Nat} {W : Wk} {o : Nat} {b : Int} (h : HldW nm fr W) (hn : (b = -1 ∧ o ∈ fr) ∨ ∃ j, ∃ hj : j < W.length, b = (j : Int) ∧ o ∈ nm (W[j]).1) : HldW nm fr (putW W o b) := by
  unfold putW
  split
  · exact hld_snoc h hn
  · exact h
theorem hld_puts_root {nm : Nat → List Nat} {fr : List Nat} : ∀ (os : List Nat) (W : Wk), HldW nm fr W → (∀ x ∈ os, x ∈ fr) → HldW nm fr (putsW W os (-1))
  | [], W, h, _ => h
  | o :: os, W, h, hs => by
    rw [putsW_cons]
    exact hld_puts_root os _ (hld_put h (.inl ⟨rfl, hs o (by simp)⟩)) (fun x hx => hs x (by simp [hx]))
theorem hld_puts {nm : Nat → List Nat} {fr : List Nat} {j : Nat} {y : Nat} : ∀ (os : List Nat) (W : Wk) (hj : j < W.length), (W[j]).1 = y → HldW nm fr W → (∀ x ∈ os, x ∈ nm y) → HldW nm fr (putsW W os (j : Int))
  | [], W, _, _, h, _ => h
  | o :: os, W, hj, hy, h, hs => by
    rw [putsW_cons]
    obtain ⟨t, ht⟩ := putW_pre W o (j : Int)
    have hj' : j < (putW W o (j : Int)).length := by rw [← ht, List.length_append]; omega
    refine hld_puts os _ hj' ?_ (hld_put h (.inr ⟨j, hj, rfl, by rw [hy]; exact hs o (by simp)⟩)) (fun x hx => hs x (by simp [hx]))
    have : (putW W o (j : Int))[j]? = W[j]? := by rw [← ht, List.getElem?_append_left hj]
    rw [List.getElem?_eq_getElem hj', List.getElem?_eq_getElem hj] at this
    injection this with this
    rw [this, hy]
theorem hld_walkF (nm : Nat → List Nat) (fr : List Nat) : ∀ (f i : Nat) (W : Wk), HldW nm fr W → HldW nm fr (walkF nm f i W)
  | 0, _, _, h => h
  | f + 1, i, W, h => by
    unfold walkF
    split
    · rename_i hi
      refine hld_walkF nm fr f (i + 1) _ (hld_puts _ W hi rfl h (fun x hx => ?_))
      rw [getD_W hi] at hx
      exact hx
    · exact h
theorem hld_walk (nm : Nat → List Nat) (fr : List Nat) : HldW nm fr (walkM nm fr) := by
  unfold walkM
  exact hld_walkF nm fr _ _ _ (hld_puts_root fr [] (fun k hk => by simp at hk) (fun x hx => hx))
/-- From one back to a beginning, step by step. -/
def ChainL (nm : Nat → List Nat) (fr : List Nat) : List Nat → Prop
  | [] => True
  | [x] => x ∈ fr
  | x :: y :: r => x ∈ nm y ∧ ChainL nm fr (y :: r)
theorem chain_up {nm : Nat → List Nat} {fr : List Nat} {W : Wk} (hb : ByLt W) (hh : HldW nm fr W) : ∀ (n k : Nat), k < n → ∀ hk : k < W.length, ChainL nm fr (upK W (k : Int))
  | 0, k, h, _ => absurd h (Nat.not_lt_zero _)
  | n + 1, k, h, hk => by
    rw [upK_step hb hk]
    rcases hh k hk with ⟨h1, h2⟩ | ⟨j, hj, h1, h2, h3⟩
    · rw [h1, upK_neg (by omega)]
      exact h2
    · rw [h2]
      have ih := chain_up hb hh n j (by omega) hj
      rw [upK_step hb hj] at ih ⊢
      exact ⟨h3, ih⟩
theorem chain_last {nm : Nat → List Nat} {fr : List Nat} : ∀ (U : List Nat), ChainL nm fr U → 0 < U.length → U.getD (U.length - 1) 0 ∈ fr
  | [], _, h => absurd h (Nat.not_lt_zero _)
  | [x], h, _ => h
  | x :: y :: r, h, _ => by
    have := chain_last (y :: r) h.2 (by simp)
    simpa using this
theorem chain_next {nm : Nat → List Nat} {fr : List Nat} : ∀ (U : List Nat), ChainL nm fr U → ∀ t, t + 1 < U.length → U.getD t 0 ∈ nm (U.getD (t + 1) 0)
  | [], _, t, h => by simp at h
  | [x], _, t, h => by simp at h
  | x :: y :: r, h, 0, _ => by simpa using h.1
  | x :: y :: r, h, t + 1, ht => by
    have := chain_next (y :: r) h.2 t (by simpa using ht)
    simpa using this
theorem rev_getD {U : List Nat} {i : Nat} (hi : i < U.length) : U.reverse.getD i 0 = U.getD (U.length - 1 - i) 0 := by
  rw [List.getD_eq_getElem?_getD, List.getElem?_reverse hi, List.getD_eq_getElem?_getD]
/-- The way to one that was met. -/
theorem path_facts {nm : Nat → List Nat} {fr : List Nat} {o : Nat} (ho : o ∈ metO (walkM nm fr)) :
    0 < (pathL (walkM nm fr) o).length ∧ (pathL (walkM nm fr) o).getD 0 0 ∈ fr ∧ (pathL (walkM nm fr) o).getD ((pathL (walkM nm fr) o).length - 1) 0 = o ∧
      (∀ i, 1 ≤ i → i < (pathL (walkM nm fr) o).length → (pathL (walkM nm fr) o).getD i 0 ∈ nm ((pathL (walkM nm fr) o).getD (i - 1) 0)) ∧ (pathL (walkM nm fr) o).length ≤ (walkM nm fr).length ∧ (∀ x ∈ pathL (walkM nm fr) o, x ∈ metO (walkM nm fr)) := by
  have hb := walkM_by nm fr
  have hd := walkM_nodup nm fr
  have hh := hld_walk nm fr
  obtain ⟨i, hi, he⟩ := metO_get ho
  rw [getD_W hi] at he
  have hp := pathL_at hb hd hi
  rw [he] at hp
  have hc := chain_up hb hh (i + 1) i (by omega) hi
  have hs := upK_step hb hi
  have hl := upK_len hb (i + 1) (i : Int) (by omega) (by omega)
  have hmem : ∀ (n : Nat) (k : Int), (k + 1).toNat ≤ n → k < ((walkM nm fr).length : Int) → ∀ x ∈ upK (walkM nm fr) k, x ∈ metO (walkM nm fr) := by
    intro n
    induction n with
    | zero =>
      intro k h1 h2 x hx
      rw [upK_neg (by omega)] at hx
      cases hx
    | succ n ih =>
      intro k h1 h2 x hx
      by_cases h0 : 0 ≤ k
      · obtain ⟨j, rfl⟩ := Int.eq_ofNat_of_zero_le h0
        have hj : j < (walkM nm fr).length := by omega
        rw [upK_step hb hj] at hx
        rcases List.mem_cons.1 hx with rfl | hx
        · exact List.mem_map.2 ⟨_, List.getElem_mem hj, rfl⟩
        · have := hb j hj
          exact ih _ (by omega) (by omega) x hx
      · rw [upK_neg (by omega)] at hx
        cases hx
  have hme := hmem (i + 1) (i : Int) (by omega) (by omega)
  rw [hp]
  generalize hU : upK (walkM nm fr) (i : Int) = U at *
  have hU0 : 0 < U.length := by rw [hs]; simp
  refine ⟨by rw [List.length_reverse]; exact hU0, ?_, ?_, fun t h1 h2 => ?_, by rw [List.length_reverse]; omega, fun x hx => hme x (List.mem_reverse.1 hx)⟩
  · rw [rev_getD hU0]
    exact chain_last U hc hU0
  · rw [List.length_reverse, rev_getD (by omega), show U.length - 1 - (U.length - 1) = 0 by omega, hs, List.getD_cons_zero, he]
  · rw [List.length_reverse] at h2
    rw [rev_getD h2, rev_getD (by omega)]
    have := chain_next U hc (U.length - 1 - t) (by omega)
    rw [show U.length - 1 - t + 1 = U.length - 1 - (t - 1) by omega] at this
    exact this
section
variable {h : HM} {l : List Ob}
def cntK (h : HM) (l : List Ob) (k : Nat) : Nat := (((oopsL l).take k).filter (fun o => decide (o ∈ metO (walkM (heldM h) h.roots)))).length
theorem cntK_all (h : HM) (l : List Ob) : cntK h l l.length = (liveO h l).length := by
  unfold cntK liveO
  rw [List.take_of_length_le (by rw [oopsL_len]; exact Nat.le_refl _)]
theorem oops_take {k : Nat} (hk : k < l.length) : (oopsL l).take (k + 1) = (oopsL l).take k ++ [2 * posOf (l.take k)] := by
  rw [List.take_add_one, oopsL_get hk]
  rfl
theorem cnt_yes {k : Nat} (hk : k < l.length) (hm : 2 * posOf (l.take k) ∈ metO (walkM (heldM h) h.roots)) : cntK h l (k + 1) = cntK h l k + 1 ∧ cntK h l k < (liveO h l).length ∧ (liveO h l).getD (cntK h l k) 0 = 2 * posOf (l.take k) := by
  have h1 : cntK h l (k + 1) = cntK h l k + 1 := by
    unfold cntK
    rw [oops_take hk, List.filter_append, List.length_append]
    simp [hm]
  have e : liveO h l = ((oopsL l).take k).filter (fun o => decide (o ∈ metO (walkM (heldM h) h.roots))) ++ 2 * posOf (l.take k) :: ((oopsL l).drop (k + 1)).filter (fun o => decide (o ∈ metO (walkM (heldM h) h.roots))) := by
    unfold liveO
    conv => lhs; rw [← List.take_append_drop (k + 1) (oopsL l), oops_take hk]
    rw [List.filter_append, List.filter_append, List.append_assoc]
    congr 1
    simp [hm]
  refine ⟨h1, ?_, ?_⟩
  · rw [e, List.length_append, List.length_cons]
    unfold cntK
    omega
  · rw [e, List.getD_eq_getElem?_getD]
    unfold cntK
    rw [List.getElem?_append_right (Nat.le_refl _), Nat.sub_self]
    rfl
theorem cnt_no {k : Nat} (hk : k < l.length) (hm : ¬ 2 * posOf (l.take k) ∈ metO (walkM (heldM h) h.roots)) : cntK h l (k + 1) = cntK h l k ∧ ∀ i, i < (liveO h l).length → (liveO h l).getD i 0 ≠ 2 * posOf (l.take k) := by
  refine ⟨?_, fun i hi he => ?_⟩
  · unfold cntK
    rw [oops_take hk, List.filter_append, List.length_append]
    simp [hm]
  · have : 2 * posOf (l.take k) ∈ liveO h l := by
      rw [← he, List.getD_eq_getElem?_getD, List.getElem?_eq_getElem hi]
      exact List.getElem_mem _
    unfold liveO at this
    have := (List.mem_filter.1 this).2
    exact hm (by simpa using this)
theorem cnt_le (k : Nat) : cntK h l k ≤ (liveO h l).length := by
  unfold cntK liveO
  exact ((List.take_sublist k (oopsL l)).filter _).length_le
end
end Go.Proofs.YtblekggklimpeaaDoor
