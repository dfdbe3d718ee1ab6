/- Names exchanged twice, plain: they are as they were; what names one named the other. -/
import Derived.Test.YtblekggklimpeaaDoorJKRenP
import Derived.Test.YtblekggklimpeaaDoorJKRRefs
set_option linter.unusedVariables false
namespace Go.Proofs.YtblekggklimpeaaDoor
open Go.RowKit
/-- A list of pairs whose first ones differ is a function. -/
theorem renO_of {pl : List (Nat × Nat)} (hnd : (pl.map (·.1)).Nodup) {q : Nat × Nat} (h : q ∈ pl) : renO pl q.1 = q.2 := by
  unfold renO
  cases hf : pl.find? (fun p => p.1 == q.1) with
  | none => rw [List.find?_eq_none] at hf; exact absurd (by simp) (hf q h)
  | some p =>
    have h1 := List.mem_of_find?_eq_some hf
    have h2 : p.1 = q.1 := by simpa using List.find?_some hf
    obtain ⟨i, hi, rfl⟩ := List.mem_iff_getElem.1 h1
    obtain ⟨j, hj, rfl⟩ := List.mem_iff_getElem.1 h
    have h3 : (pl.map (·.1))[i]'(by simpa using hi) = (pl.map (·.1))[j]'(by simpa using hj) := by simpa using h2
    have := (List.getElem_inj hnd).1 h3
    subst this
    rfl
theorem renO_out {pl : List (Nat × Nat)} {o : Nat} (h : o ∉ pl.map (·.1)) : renO pl o = o := by
  unfold renO
  have hf : pl.find? (fun p => p.1 == o) = none := by
    rw [List.find?_eq_none]
    intro q hq he
    exact h (List.mem_map.2 ⟨q, hq, by simpa using he⟩)
  rw [hf]
theorem pairsB_swap : ∀ (a b : List Nat) (q : Nat × Nat), q ∈ pairsB a b ↔ (q.2, q.1) ∈ pairsB a b
  | [], _, _ => by simp [pairsB]
  | _ :: _, [], _ => by simp [pairsB]
  | x :: a, y :: b, q => by
    have ih := pairsB_swap a b q
    unfold pairsB at ih ⊢
    simp only [List.zip_cons_cons, List.flatMap_cons, List.mem_append, List.mem_cons, List.not_mem_nil, or_false]
    rw [ih]
    constructor
    · rintro ((h | h) | h)
      · subst h; exact .inl (.inr rfl)
      · subst h; exact .inl (.inl rfl)
      · exact .inr h
    · rintro ((h | h) | h)
      · exact .inl (.inr (by obtain ⟨u, v⟩ := q; simp at h ⊢; omega))
      · exact .inl (.inl (by obtain ⟨u, v⟩ := q; simp at h ⊢; omega))
      · exact .inr h
theorem pairsB_turn : ∀ (a b : List Nat) (q : Nat × Nat), q ∈ pairsB b a ↔ q ∈ pairsB a b
  | [], [], _ => by simp [pairsB]
  | [], _ :: _, _ => by simp [pairsB]
  | _ :: _, [], _ => by simp [pairsB]
  | x :: a, y :: b, q => by
    have ih := pairsB_turn a b q
    unfold pairsB at ih ⊢
    simp only [List.zip_cons_cons, List.flatMap_cons, List.mem_append, List.mem_cons, List.not_mem_nil, or_false]
    rw [ih]
    constructor
    · rintro ((h | h) | h)
      · exact .inl (.inr h)
      · exact .inl (.inl h)
      · exact .inr h
    · rintro ((h | h) | h)
      · exact .inl (.inr h)
      · exact .inl (.inl h)
      · exact .inr h
theorem pairsB_nodup : ∀ {a b : List Nat}, (a ++ b).Nodup → ((pairsB a b).map (·.1)).Nodup
  | [], _, _ => by simp [pairsB]
  | _ :: _, [], _ => by simp [pairsB]
  | x :: a, y :: b, h => by
    obtain ⟨na, nb, hd⟩ := List.nodup_append.1 h
    rw [List.nodup_cons] at na nb
    have ih := pairsB_nodup (a := a) (b := b) (List.nodup_append.2 ⟨na.2, nb.2, fun u hu v hv => hd u (List.mem_cons_of_mem _ hu) v (List.mem_cons_of_mem _ hv)⟩)
    have hk : ∀ u, u ∈ (pairsB a b).map (·.1) → u ∈ a ∨ u ∈ b := fun u hu => by
      obtain ⟨q, hq, rfl⟩ := List.mem_map.1 hu
      exact (pairsB_mem hq).imp (fun e => e.1) (fun e => e.1)
    unfold pairsB at ih hk ⊢
    rw [List.zip_cons_cons, List.flatMap_cons]
    rw [List.map_append]
    show (x :: y :: (List.map (fun x => x.fst) (List.flatMap (fun q => [(q.fst, q.snd), (q.snd, q.fst)]) (a.zip b)))).Nodup
    have hxy : x ≠ y := hd x (by simp) y (by simp)
    refine List.nodup_cons.2 ⟨fun hx => ?_, List.nodup_cons.2 ⟨fun hy => ?_, ih⟩⟩
    · rcases List.mem_cons.1 hx with hx | hx
      · exact hxy hx
      · rcases hk x hx with h1 | h1
        · exact na.1 h1
        · exact hd x (by simp) x (List.mem_cons_of_mem _ h1) rfl
    · rcases hk y hy with h1 | h1
      · exact hd y (List.mem_cons_of_mem _ h1) y (by simp) rfl
      · exact nb.1 h1
theorem pairsB_at {a b : List Nat} (hl : a.length = b.length) {i : Nat} (hi : i < a.length) : (a[i], b[i]) ∈ pairsB a b := by
  unfold pairsB
  refine List.mem_flatMap.2 ⟨(a[i], b[i]), ?_, by simp⟩
  refine List.mem_iff_getElem.2 ⟨i, by simp; omega, by simp⟩
section
variable {a b : List Nat} (hnd : (a ++ b).Nodup)
include hnd
theorem bec_inv (o : Nat) : renO (pairsB a b) (renO (pairsB a b) o) = o := by
  have hN := pairsB_nodup hnd
  by_cases hm : o ∈ (pairsB a b).map (·.1)
  · obtain ⟨q, hq, rfl⟩ := List.mem_map.1 hm
    rw [renO_of hN hq, renO_of hN ((pairsB_swap a b q).1 hq)]
  · rw [renO_out hm, renO_out hm]
theorem bec_turn : renO (pairsB b a) = renO (pairsB a b) := by
  have hN := pairsB_nodup hnd
  have hnd' : (b ++ a).Nodup := by
    obtain ⟨na, nb, hd⟩ := List.nodup_append.1 hnd
    exact List.nodup_append.2 ⟨nb, na, fun u hu v hv e => hd v hv u hu e.symm⟩
  have hN' := pairsB_nodup hnd'
  funext o
  by_cases hm : o ∈ (pairsB a b).map (·.1)
  · obtain ⟨q, hq, rfl⟩ := List.mem_map.1 hm
    rw [renO_of hN hq, renO_of hN' ((pairsB_turn a b q).2 hq)]
  · rw [renO_out hm, renO_out (fun h => hm (by
      obtain ⟨q, hq, rfl⟩ := List.mem_map.1 h
      exact List.mem_map.2 ⟨q, (pairsB_turn a b q).1 hq, rfl⟩))]
theorem bec_at (hl : a.length = b.length) {i : Nat} (hi : i < a.length) : renO (pairsB a b) a[i] = b[i] :=
  renO_of (pairsB_nodup hnd) (pairsB_at hl hi)
theorem bec_back (hl : a.length = b.length) {i : Nat} (hi : i < a.length) : renO (pairsB a b) b[i] = a[i] := by
  rw [← bec_at hnd hl hi, bec_inv hnd]
end

theorem ren_ptrB (r : Nat → Nat) (b : Ob) : (ren r b).x.ptrB = b.x.ptrB := rfl
theorem map_inv {r : Nat → Nat} (hr : ∀ o, r (r o) = o) (l : List Nat) : (l.map r).map r = l := by
  rw [List.map_map]
  conv => rhs; rw [← List.map_id l]
  exact List.map_congr_left fun o _ => hr o
theorem ren_inv {r : Nat → Nat} (hr : ∀ o, r (r o) = o) (b : Ob) : ren r (ren r b) = b := by
  obtain ⟨⟨n, t, s, c, e⟩, fs⟩ := b
  unfold ren
  have h1 : ({ size := n, fmt := t, spare := s, cls := r c, ser := e : Hd }).ptrB = ({ size := n, fmt := t, spare := s, cls := c, ser := e : Hd }).ptrB := rfl
  simp only [h1, hr]
  by_cases hp : ({ size := n, fmt := t, spare := s, cls := c, ser := e : Hd }).ptrB = true
  · simp only [hp, if_true]
    rw [map_inv hr]
  · simp only [hp, if_false, Bool.false_eq_true]
theorem renH_back {r : Nat → Nat} (hr : ∀ o, r (r o) = o) {h : HM} {l : List Ob} (G : h.Good l) : renH r (renH r h l) (l.map (ren r)) = h := by
  have hw := G.laid.words
  cases h
  unfold renH
  simp only at hw ⊢
  rw [map_inv hr, List.map_map]
  have : l.map (ren r ∘ ren r) = l := by
    conv => rhs; rw [← List.map_id l]
    exact List.map_congr_left fun o _ => ren_inv hr o
  rw [this, hw]
theorem shp_ren (r : Nat → Nat) (l : List Ob) : (l.map (ren r)).map shp = l.map shp := by
  rw [List.map_map]
  refine List.map_congr_left fun b _ => ?_
  show shp (ren r b) = shp b
  unfold shp ren
  simp only [Prod.mk.injEq, true_and]
  split <;> simp
theorem names_ob {h : HM} {l : List Ob} (G : h.Good l) {k : Nat} (hk : k < l.length) : namesM h (2 * posOf (l.take k)) = (l[k]).x.cls :: (if (l[k]).x.ptrB = true then (l[k]).fs else []) := by
  have L := G.laid
  rw [split_at l k hk] at L
  unfold namesM
  rw [show 2 * posOf (l.take k) / 2 = posOf (l.take k) by omega, L.hd_at, L.fields_at]
theorem names_ren {r : Nat → Nat} {h : HM} {l : List Ob} (G : h.Good l) (G' : (renH r h l).Good (l.map (ren r))) {k : Nat} (hk : k < l.length) : namesM (renH r h l) (2 * posOf ((l.map (ren r)).take k)) = (namesM h (2 * posOf (l.take k))).map r := by
  rw [names_ob G' (by simpa using hk), names_ob G hk]
  simp only [List.getElem_map, ren_ptrB]
  unfold ren
  by_cases hp : (l[k]).x.ptrB = true
  · simp only [hp, if_true, List.map_cons]
  · simp only [hp, if_false, Bool.false_eq_true, List.map_cons, List.map_nil]
theorem mem_map_inv {r : Nat → Nat} (hr : ∀ o, r (r o) = o) {l : List Nat} {x y : Nat} (hx : r y = x) : y ∈ l.map r ↔ x ∈ l := by
  constructor
  · intro h
    obtain ⟨z, hz, rfl⟩ := List.mem_map.1 h
    rw [hr] at hx
    rwa [← hx]
  · intro h
    exact List.mem_map.2 ⟨x, h, by rw [← hx, hr]⟩
theorem selL_congr {P Q : Nat → Bool} {l L : List Ob} {n : Nat} (h1 : ∀ k, k < n → P k = Q k) (h2 : ∀ k, posOf (L.take k) = posOf (l.take k)) : selL P L n = selL Q l n := by
  unfold selL
  have e : (List.range n).filter P = (List.range n).filter Q := List.filter_congr fun k hk => h1 k (List.mem_range.1 hk)
  rw [e]
  exact List.map_congr_left fun k _ => by rw [h2]
/-- What names one of a pair behind the exchange named the other one ahead of it. -/
theorem refs_ren {r : Nat → Nat} (hr : ∀ o, r (r o) = o) {h : HM} {l : List Ob} (G : h.Good l) (G' : (renH r h l).Good (l.map (ren r))) {x y : Nat} (hx : r y = x) (hix : h.isB x = true) (hiy : h.isB y = true) :
    refsL (renH r h l) (l.map (ren r)) y = refsL h l x := by
  unfold refsL
  rw [HM.isB_same (h := h) (h' := renH r h l) rfl, hix, hiy, if_pos rfl, if_pos rfl, List.length_map]
  refine selL_congr (fun k hk => ?_) (posOf_shp (shp_ren r l))
  unfold refP
  rw [names_ren G G' hk]
  exact decide_eq_decide.2 (mem_map_inv hr hx)
theorem fits_ren {r : Nat → Nat} {h : HM} {l : List Ob} {a b : List Nat} : fitsE (renH r h l) a b = fitsE h a b := by
  unfold fitsE
  rw [show (fun o => (renH r h l).isB o) = fun o => h.isB o from funext fun o => HM.isB_same (h := h) (h' := renH r h l) rfl o]
theorem fits_turn {h : HM} {a b : List Nat} : fitsE h b a = fitsE h a b := by
  unfold fitsE
  by_cases hl : a.length = b.length
  · rw [if_pos hl, if_pos hl.symm, Bool.and_comm]
  · rw [if_neg hl, if_neg (fun e => hl e.symm)]
theorem nodup_turn {a b : List Nat} (h : (a ++ b).Nodup) : (b ++ a).Nodup := by
  obtain ⟨na, nb, hd⟩ := List.nodup_append.1 h
  exact List.nodup_append.2 ⟨nb, na, fun u hu v hv e => hd v hv u hu e.symm⟩
/-- The whole of it. -/
theorem bec_twice {h : HM} {l : List Ob} {a b : List Nat} (G : h.Good l) (he : becE h a b = 0) : becE (becH h l a b) b a = 0 ∧ becH (becH h l a b) (becL h l a b) b a = h := by
  have hf : fitsE h a b = 0 ∧ (a ++ b).Nodup := by
    unfold becE at he
    split at he
    · rename_i hf
      split at he
      · rename_i hn; exact ⟨hf, hn⟩
      · cases he
    · rename_i hf; exact absurd he hf
  have h1 : becH h l a b = renH (renO (pairsB a b)) h l := by unfold becH; rw [if_pos he]
  have h2 : becL h l a b = l.map (ren (renO (pairsB a b))) := by unfold becL; rw [if_pos he]
  have h3 : becE (becH h l a b) b a = 0 := by
    rw [h1]
    unfold becE
    rw [fits_ren, fits_turn, hf.1, if_pos rfl, if_pos (nodup_turn hf.2)]
  refine ⟨h3, ?_⟩
  unfold becH at h3 ⊢
  rw [if_pos h3]
  have h4 : becH h l a b = renH (renO (pairsB a b)) h l := h1
  unfold becH at h4
  rw [h4, h2, bec_turn hf.2]
  exact renH_back (bec_inv hf.2) G
end Go.Proofs.YtblekggklimpeaaDoor
