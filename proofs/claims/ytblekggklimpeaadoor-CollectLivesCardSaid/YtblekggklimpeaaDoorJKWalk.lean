/- What is held from beginnings on, the nearest ahead; the live objects, as they lie. Plain data. -/
/- Those oops that name objects: only, by slices.DeleteFunc. -/
import Derived.Test.YtblekggklimpeaaDoorJAll
import Derived.Test.YtblekggklimpeaaDoorJLook
import Derived.Lib.SliceRun
set_option linter.unusedVariables false
set_option linter.unusedSimpArgs false
set_option linter.unusedSectionVars false
namespace Go.Proofs.YtblekggklimpeaaDoor
open Go.RowKit

/-- What was met, and the number of what each was met from. -/
abbrev Wk := List (Nat × Int)
def metO (l : Wk) : List Nat := l.map (·.1)
def putW (l : Wk) (o : Nat) (by_ : Int) : Wk := if kindM o = 2 ∧ o ∉ metO l then l ++ [(o, by_)] else l
def putsW (l : Wk) (os : List Nat) (by_ : Int) : Wk := os.foldl (fun l o => putW l o by_) l
def walkF (nm : Nat → List Nat) : Nat → Nat → Wk → Wk
  | 0, _, l => l
  | f + 1, i, l => if i < l.length then walkF nm f (i + 1) (putsW l (nm (l.getD i (0, 0)).1) (i : Int)) else l
def walkM (nm : Nat → List Nat) (fr : List Nat) : Wk := walkF nm 2097152 0 (putsW [] fr (-1))
/-- From what one was met; 0: it was not. -/
def byOf (l : Wk) (x : Nat) : Int := ((l.find? (fun p => p.1 == x)).map (·.2)).getD 0
theorem metO_len (l : Wk) : (metO l).length = l.length := by simp [metO]
theorem metO_snoc (l : Wk) (o : Nat) (b : Int) : metO (l ++ [(o, b)]) = metO l ++ [o] := by simp [metO]
theorem putW_new {l : Wk} {o : Nat} {b : Int} (h1 : kindM o = 2) (h2 : o ∉ metO l) : putW l o b = l ++ [(o, b)] := by unfold putW; rw [if_pos ⟨h1, h2⟩]
theorem putW_old {l : Wk} {o : Nat} {b : Int} (h : ¬ (kindM o = 2 ∧ o ∉ metO l)) : putW l o b = l := by unfold putW; rw [if_neg h]
theorem putW_pre (l : Wk) (o : Nat) (b : Int) : l <+: putW l o b := by
  unfold putW; split
  · exact List.prefix_append _ _
  · exact List.prefix_refl _
theorem putsW_nil (l : Wk) (b : Int) : putsW l [] b = l := rfl
theorem putsW_cons (l : Wk) (o : Nat) (os : List Nat) (b : Int) : putsW l (o :: os) b = putsW (putW l o b) os b := rfl
theorem putsW_snoc (l : Wk) (o : Nat) (os : List Nat) (b : Int) : putsW l (os ++ [o]) b = putW (putsW l os b) o b := by unfold putsW; rw [List.foldl_append]; rfl
theorem putsW_pre (l : Wk) (os : List Nat) (b : Int) : l <+: putsW l os b := by
  induction os generalizing l with
  | nil => exact List.prefix_refl _
  | cons o os ih => exact (putW_pre l o b).trans (ih _)
/-- Those that name no object may be left out. -/
theorem putsW_only (l : Wk) (os : List Nat) (b : Int) : putsW l (os.filter (fun o => decide (kindM o = 2))) b = putsW l os b := by
  induction os generalizing l with
  | nil => rfl
  | cons o os ih =>
    rw [List.filter_cons]
    by_cases h : kindM o = 2
    · rw [if_pos (by simpa using h), putsW_cons, putsW_cons, ih]
    · rw [if_neg (by simpa using h), putsW_cons, ih, putW_old (fun k => h k.1)]
theorem putW_nodup {l : Wk} (h : (metO l).Nodup) (o : Nat) (b : Int) : (metO (putW l o b)).Nodup := by
  unfold putW; split
  · rename_i hc
    rw [metO_snoc, List.nodup_append]
    exact ⟨h, by simp, fun a ha c hc' => by rintro rfl; simp at hc'; subst hc'; exact hc.2 ha⟩
  · exact h
theorem putsW_nodup {l : Wk} (h : (metO l).Nodup) (os : List Nat) (b : Int) : (metO (putsW l os b)).Nodup := by
  induction os generalizing l with
  | nil => exact h
  | cons o os ih => exact ih (putW_nodup h o b)
theorem putW_mem {l : Wk} {o x : Nat} {b : Int} : x ∈ metO (putW l o b) ↔ x ∈ metO l ∨ (x = o ∧ kindM o = 2) := by
  unfold putW; split
  · rename_i hc
    rw [metO_snoc, List.mem_append, List.mem_singleton]
    exact ⟨fun h => h.imp_right fun e => ⟨e, hc.1⟩, fun h => h.imp_right fun e => e.1⟩
  · rename_i hc
    refine ⟨.inl, fun h => h.elim id fun e => ?_⟩
    obtain ⟨rfl, hk⟩ := e
    exact Classical.byContradiction fun hn => hc ⟨hk, hn⟩
theorem putsW_mem {l : Wk} {os : List Nat} {x : Nat} {b : Int} : x ∈ metO (putsW l os b) ↔ x ∈ metO l ∨ (x ∈ os ∧ kindM x = 2) := by
  induction os generalizing l with
  | nil => simp [putsW_nil]
  | cons o os ih =>
    rw [putsW_cons, ih, putW_mem, List.mem_cons]
    constructor
    · rintro ((h | ⟨rfl, h⟩) | ⟨h1, h2⟩)
      · exact .inl h
      · exact .inr ⟨.inl rfl, h⟩
      · exact .inr ⟨.inr h1, h2⟩
    · rintro (h | ⟨rfl | h1, h2⟩)
      · exact .inl (.inl h)
      · exact .inl (.inr ⟨rfl, h2⟩)
      · exact .inr ⟨h1, h2⟩
theorem byOf_nil (x : Nat) : byOf [] x = 0 := rfl
theorem byOf_snoc {l : Wk} {o : Nat} (b : Int) (hn : o ∉ metO l) (x : Nat) : byOf (l ++ [(o, b)]) x = if x = o then b else byOf l x := by
  unfold byOf
  rw [List.find?_append]
  by_cases hx : x = o
  · subst hx
    have h0 : l.find? (fun p => p.1 == x) = none := by
      rw [List.find?_eq_none]
      intro p hp he
      exact hn (List.mem_map.2 ⟨p, hp, by simpa using he⟩)
    rw [if_pos rfl, h0]
    simp
  · rw [if_neg hx]
    have h1 : ([(o, b)] : Wk).find? (fun p => p.1 == x) = none := by simp; omega
    rw [h1, Option.or_none]
/-- The k-th's. -/
theorem byOf_at {l : Wk} (hd : (metO l).Nodup) {k : Nat} (hk : k < l.length) : byOf l (l[k]).1 = (l[k]).2 := by
  induction l generalizing k with
  | nil => simp at hk
  | cons p l ih =>
    have hd2 : p.1 ∉ metO l ∧ (metO l).Nodup := by simpa [metO] using hd
    cases k with
    | zero => simp [byOf]
    | succ k =>
      have hk' : k < l.length := by simpa using hk
      have hne : (p.1 == (l[k]).1) = false := by
        simp
        intro e
        exact hd2.1 (e ▸ List.mem_map.2 ⟨l[k], List.getElem_mem hk', rfl⟩)
      have := ih hd2.2 hk'
      unfold byOf at this ⊢
      simp only [List.getElem_cons_succ, List.find?_cons, hne]
      exact this
theorem len_of_sub : ∀ (a b : List Nat), a.Nodup → (∀ x ∈ a, x ∈ b) → a.length ≤ b.length
  | [], _, _, _ => Nat.zero_le _
  | x :: a, b, hd, hs => by
    rw [List.nodup_cons] at hd
    have hx := hs x (by simp)
    have := len_of_sub a (b.erase x) hd.2 (fun y hy => (List.mem_erase_of_ne (show y ≠ x by rintro rfl; exact hd.1 hy)).2 (hs y (by simp [hy])))
    rw [List.length_erase_of_mem hx] at this
    have := List.length_pos_of_mem hx
    simp
    omega
section
variable (nm : Nat → List Nat)
/-- Going through what was met. -/
structure GoW (fr : List Nat) (i : Nat) (l : Wk) : Prop where
  nodup : (metO l).Nodup
  le : i ≤ l.length
  rest : walkM nm fr = walkF nm (2097152 - i) i l
theorem GoW.start (fr : List Nat) : GoW nm fr 0 (putsW [] fr (-1)) := ⟨putsW_nodup (by simp [metO]) _ _, Nat.zero_le _, rfl⟩
variable {nm} {fr : List Nat} {i : Nat} {l : Wk}
theorem GoW.next (G : GoW nm fr i l) (hi : i < l.length) (hl : l.length ≤ 1048576) : GoW nm fr (i + 1) (putsW l (nm (l.getD i (0, 0)).1) (i : Int)) := by
  refine ⟨putsW_nodup G.nodup _ _, by have := (putsW_pre l (nm (l.getD i (0, 0)).1) (i : Int)).length_le; omega, ?_⟩
  rw [G.rest, show 2097152 - i = (2097152 - (i + 1)) + 1 by omega]
  conv => lhs; unfold walkF
  rw [if_pos hi]
theorem GoW.done (G : GoW nm fr i l) (hi : ¬ i < l.length) (hl : l.length ≤ 1048576) : walkM nm fr = l := by
  have := G.le
  rw [G.rest, show 2097152 - i = (2097152 - (i + 1)) + 1 by omega]
  unfold walkF
  rw [if_neg hi]
end
/-- What is kept for all that is met. -/
theorem walkF_all {P : Nat → Prop} (nm : Nat → List Nat) (hn : ∀ o, P o → ∀ x ∈ nm o, kindM x = 2 → P x) : ∀ (f i : Nat) (l : Wk), (∀ o ∈ metO l, P o) → ∀ o ∈ metO (walkF nm f i l), P o
  | 0, _, l, h => h
  | f + 1, i, l, h => by
    unfold walkF
    split
    · rename_i hi
      refine walkF_all nm hn f (i + 1) _ (fun o ho => ?_)
      rcases putsW_mem.1 ho with ho | ⟨h1, h2⟩
      · exact h o ho
      · refine hn _ (h _ ?_) o h1 h2
        rw [List.getD_eq_getElem?_getD, List.getElem?_eq_getElem hi]
        exact List.mem_map.2 ⟨l[i], List.getElem_mem hi, rfl⟩
    · exact h
theorem walkM_all {P : Nat → Prop} {nm : Nat → List Nat} {fr : List Nat} (hf : ∀ x ∈ fr, kindM x = 2 → P x) (hn : ∀ o, P o → ∀ x ∈ nm o, kindM x = 2 → P x) : ∀ o ∈ metO (walkM nm fr), P o :=
  walkF_all nm hn _ _ _ (fun o ho => by
    rcases putsW_mem.1 ho with ho | ⟨h1, h2⟩
    · simp [metO] at ho
    · exact hf o h1 h2)
theorem walkF_nodup (nm : Nat → List Nat) : ∀ (f i : Nat) (l : Wk), (metO l).Nodup → (metO (walkF nm f i l)).Nodup
  | 0, _, l, h => h
  | f + 1, i, l, h => by
    unfold walkF
    split
    · exact walkF_nodup nm f (i + 1) _ (putsW_nodup h _ _)
    · exact h
theorem walkM_nodup (nm : Nat → List Nat) (fr : List Nat) : (metO (walkM nm fr)).Nodup := walkF_nodup nm _ _ _ (putsW_nodup (by simp [metO]) _ _)
theorem walkF_pre (nm : Nat → List Nat) : ∀ (f i : Nat) (l : Wk), l <+: walkF nm f i l
  | 0, _, l => List.prefix_refl _
  | f + 1, i, l => by
    unfold walkF
    split
    · exact (putsW_pre l _ _).trans (walkF_pre nm f (i + 1) _)
    · exact List.prefix_refl _
/-- What an object names that holds; weak fields don't. -/
def heldM (h : HM) (o : Nat) : List Nat := (h.hd (o / 2)).cls :: (if (h.hd (o / 2)).fmt = 1 then h.fields o else [])
/-- What it names, weak fields too. -/
def namesM (h : HM) (o : Nat) : List Nat := (h.hd (o / 2)).cls :: (if (h.hd (o / 2)).ptrB = true then h.fields o else [])
section
variable {h : HM} {l : List Ob}
theorem isB_mem (G : h.Good l) {o : Nat} (hi : h.isB o = true) : o ∈ oopsL l := by
  obtain ⟨a, b, c, rfl, rfl⟩ := (G.laid.isB_iff o).1 hi
  have hk : a.length < (a ++ b :: c).length := by simp
  have := oopsL_get hk
  rw [List.take_left] at this
  exact List.mem_of_getElem? this
theorem mem_isB (G : h.Good l) {o : Nat} (ho : o ∈ oopsL l) : h.isB o = true := by
  unfold oopsL at ho
  obtain ⟨j, hj, rfl⟩ := List.mem_map.1 ho
  exact isB_at G j (by simpa using hj)
theorem isB_kind {o : Nat} (hi : h.isB o = true) : kindM o = 2 := by
  unfold HM.isB at hi
  simp only [Bool.and_eq_true] at hi
  unfold objB at hi
  simpa using hi.1
theorem names_isB (G : h.Good l) {o : Nat} (hi : h.isB o = true) {x : Nat} (hx : x ∈ namesM h o) (hk : kindM x = 2) : h.isB x = true := by
  obtain ⟨a, b, c, rfl, rfl⟩ := (G.laid.isB_iff o).1 hi
  unfold namesM at hx
  rw [half_pos, G.laid.hd_at, G.laid.fields_at] at hx
  have ho : objB x = true := by unfold objB; simpa using hk
  rcases List.mem_cons.1 hx with rfl | hx
  · have := G.sound.cls b (by simp)
    unfold HM.clsB at this
    rw [Bool.or_eq_true] at this
    rcases this with h0 | h1
    · have h0 : b.x.cls = 0 := by simpa using h0
      rw [h0] at hk
      simp [kindM] at hk
    · exact h1
  · split at hx
    · rename_i hp
      have := G.sound.flds b (by simp) hp x hx
      unfold HM.valB at this
      rw [ho] at this
      simpa using this
    · cases hx
theorem held_names {o x : Nat} (hx : x ∈ heldM h o) : x ∈ namesM h o := by
  unfold heldM at hx
  unfold namesM
  rcases List.mem_cons.1 hx with h1 | h1
  · exact List.mem_cons.2 (.inl h1)
  · split at h1
    · rename_i h2
      refine List.mem_cons.2 (.inr ?_)
      rw [if_pos (by unfold Hd.ptrB; simp [h2])]
      exact h1
    · cases h1
theorem walk_isB (G : h.Good l) {fr : List Nat} (hf : ∀ x ∈ fr, h.valB x = true) : ∀ o ∈ metO (walkM (heldM h) fr), h.isB o = true :=
  walkM_all (P := fun o => h.isB o = true) (fun x hx hk => by
    have := hf x hx
    unfold HM.valB objB at this
    simpa [hk] using this) (fun o ho x hx hk => names_isB G ho (held_names hx) hk)
theorem wk_len (G : h.Good l) {w : Wk} (hd : (metO w).Nodup) (hi : ∀ o ∈ metO w, h.isB o = true) : w.length ≤ 1048576 := by
  have := len_of_sub (metO w) (oopsL l) hd (fun o ho => isB_mem G (hi o ho))
  have := oopsL_le G
  rw [metO_len] at *
  omega
/-- The live objects, as they lie. -/
def liveO (h : HM) (l : List Ob) : List Nat := (oopsL l).filter (fun o => decide (o ∈ metO (walkM (heldM h) h.roots)))
theorem oopsL_lt (l : List Ob) : (oopsL l).Pairwise (· < ·) := by
  unfold oopsL
  rw [List.pairwise_map]
  refine List.Pairwise.imp_of_mem ?_ (List.pairwise_lt_range (n := l.length))
  intro a b ha hb hlt
  have := posOf_take_mono (l := l) (j := a) (k := b) hlt (by have := List.mem_range.1 hb; omega)
  omega
theorem liveO_lt (h : HM) (l : List Ob) : (liveO h l).Pairwise (· < ·) := (oopsL_lt l).filter _
theorem mem_liveO (G : h.Good l) {o : Nat} : o ∈ liveO h l ↔ o ∈ metO (walkM (heldM h) h.roots) := by
  unfold liveO
  rw [List.mem_filter]
  refine ⟨fun hh => by simpa using hh.2, fun hh => ⟨isB_mem G (walk_isB G G.sound.roots o hh), by simpa using hh⟩⟩
theorem lt_unique : ∀ (a b : List Nat), a.Pairwise (· < ·) → b.Pairwise (· < ·) → (∀ x, x ∈ a ↔ x ∈ b) → a = b
  | [], [], _, _, _ => rfl
  | [], y :: b, _, _, h => by have := (h y).2 (by simp); cases this
  | x :: a, [], _, _, h => by have := (h x).1 (by simp); cases this
  | x :: a, y :: b, ha, hb, h => by
    rw [List.pairwise_cons] at ha hb
    have hxy : x = y := by
      rcases List.mem_cons.1 ((h x).1 (by simp)) with h1 | h1
      · exact h1
      · rcases List.mem_cons.1 ((h y).2 (by simp)) with h2 | h2
        · exact h2.symm
        · have := hb.1 x h1; have := ha.1 y h2; omega
    subst hxy
    rw [lt_unique a b ha.2 hb.2 (fun z => ?_)]
    have hz := h z
    rw [List.mem_cons, List.mem_cons] at hz
    constructor
    · intro h1
      rcases hz.1 (.inr h1) with rfl | h2
      · have := ha.1 z h1; omega
      · exact h2
    · intro h1
      rcases hz.2 (.inr h1) with rfl | h2
      · have := hb.1 z h1; omega
      · exact h2
/-- What was met, sorted, is what is live. -/
theorem sorted_live (G : h.Good l) {s : List Nat} (hp : s.Perm (metO (walkM (heldM h) h.roots))) (hs : s.Pairwise (· ≤ ·)) : s = liveO h l := by
  refine lt_unique s (liveO h l) ?_ (liveO_lt h l) (fun x => by rw [hp.mem_iff, mem_liveO G])
  have hd : s.Nodup := hp.nodup_iff.2 (walkM_nodup _ _)
  rw [List.nodup_iff_pairwise_ne] at hd
  exact (hs.and hd).imp (fun h => by omega)
end
end Go.Proofs.YtblekggklimpeaaDoor

namespace Go.Proofs.YtblekggklimpeaaDoor
open Go.RowKit
attribute [local go_sem] Oper.semAt_some
/-- Only one block is another. -/
structure Frb (rg : Nat) (w w' : World) : Prop where
  os : w'.os = w.os
  tape : w'.tape = w.tape
  output : w'.output = w.output
  size : w.heap.size ≤ w'.heap.size
  same : ∀ k, k < w.heap.size → k ≠ rg → w'.heap[k]? = w.heap[k]?
theorem Frb.refl (rg : Nat) (w : World) : Frb rg w w := ⟨rfl, rfl, rfl, Nat.le_refl _, fun _ _ _ => rfl⟩
theorem Frb.trans {rg : Nat} {w w' w'' : World} (h : Frb rg w w') (k : Frb rg w' w'') : Frb rg w w'' :=
  ⟨k.os.trans h.os, k.tape.trans h.tape, k.output.trans h.output, Nat.le_trans h.size k.size, fun i hi hne => (k.same i (Nat.lt_of_lt_of_le hi h.size) hne).trans (h.same i hi hne)⟩
theorem Frb.set (rg i : Nat) (w : World) (v : Value) : Frb rg w (w.setCell ⟨rg, i, none⟩ v) :=
  ⟨rfl, rfl, rfl, by simp [World.setCell], fun k _ hne => Below.heap_setCell w ⟨rg, i, none⟩ v k hne⟩
theorem Frb.of_below {rg : Nat} {w w' : World} (h : Below w.heap.size w w') : Frb rg w w' := ⟨h.os, h.tape, h.output, h.size, fun k hk _ => h.block k hk⟩
theorem Frb.below {rg B : Nat} {w w' : World} (h : Frb rg w w') (hB : B ≤ rg) (hw : B ≤ w.heap.size) : Below B w w' := ⟨h.os, h.tape, h.output, h.size, fun k hk => h.same k (by omega) (by omega)⟩
theorem Frb.setCells (rg : Nat) : ∀ (vs : List Value) (o : Nat) (w : World), Frb rg w (w.setCells rg o vs)
  | [], _, w => Frb.refl _ _
  | v :: vs, o, w => (Frb.set rg o w v).trans (Frb.setCells rg vs (o + 1) _)
theorem Row.setCells {g c : Nat} {e : TypeId} {xs : List Value} : ∀ (vs : List Value) (o : Nat) (w : World), Row w g e c xs → xs.length ≤ o → Row (w.setCells g o vs) g e c xs
  | [], _, w, h, _ => h
  | v :: vs, o, w, h, ho => Row.setCells vs (o + 1) _ (by have := h.set o v; rwa [List.set_eq_of_length_le ho] at this) (by omega)
theorem Row.short {w : World} {g c : Nat} {e : TypeId} {xs : List Value} (h : Row w g e c xs) (i : Nat) : Row w g e c (xs.take i) := by
  obtain ⟨cur, hb, hl, hm, hc, hx⟩ := h
  refine ⟨cur, hb, by rw [List.length_take]; omega, hm, hc, ?_⟩
  rw [← hx, List.take_take, List.length_take]
  congr 1
  have : cur.toList.length = c := by simpa using hc
  have := congrArg List.length hx
  simp only [List.length_take] at this ⊢
  omega
theorem Row.len_le {w : World} {g c : Nat} {e : TypeId} {xs : List Value} (h : Row w g e c xs) : xs.length ≤ c := by obtain ⟨_, _, h1, _⟩ := h; exact h1
def k2 (o : Nat) : Bool := decide (kindM o = 2)
theorem cobject_any (o : Nat) (ho : o < 4294967296) (w : World) :
    Calls Tryd.prog 93 #[.int .u32 o] w fun e w' => e = .returned (.bool (k2 o)) ∧ w = w' := by
  have HK := Lib.hid (kind_any o ho w)
  have HD := Lib.hid (show ((kindM o : Int) == 2) = k2 o by unfold k2; rw [Bool.eq_iff_iff]; simp; omega)
  generalize kindM o = kk at *
  generalize k2 o = b at *
  go_enter Tryd.func93, Tryd.ntmps93
  go_wp2_with fail
  refine HK.out.mono ?_
  rintro e w' ⟨rfl, rfl⟩
  go_wp2_with fail
  go_ret
  exact ⟨by rw [← HD.out]; rfl, rfl⟩
theorem onlyF_any (o : Nat) (ho : o < 4294967296) (w : World) :
    Calls Tryd.prog 92 #[.int .u32 o] w fun e w' => e = .returned (.bool (!k2 o)) ∧ w = w' := by
  have HK := Lib.hid (cobject_any o ho w)
  generalize k2 o = b at *
  go_enter Tryd.func92, Tryd.ntmps92
  go_wp2_with fail
  refine HK.out.mono ?_
  rintro e w' ⟨rfl, rfl⟩
  go_wp2_with fail
  go_ret
  exact ⟨rfl, rfl⟩
/-- The literal's value. -/
def onlyFn : Value := .func (.func 92) #[] #[]
/-- The first oop that names none, or -1. -/
def IdxOP (xs : List Nat) (w : World) (e : Ending) (w' : World) : Prop :=
  w = w' ∧ ((e = .returned (.int .i64 (-1)) ∧ ∀ x ∈ xs, k2 x = true) ∨ ∃ j, e = .returned (.int .i64 (j : Nat)) ∧ j < xs.length ∧ k2 (xs.getD j 0) = false ∧ ∀ i, i < j → k2 (xs.getD i 0) = true)
theorem getD_u32 {xs : List Nat} (h : ∀ x ∈ xs, x < 4294967296) (k : Nat) : xs.getD k 0 < 4294967296 := by
  rw [List.getD_eq_getElem?_getD]
  cases hh : xs[k]? with
  | none => simp
  | some v => simp; exact h v (List.mem_of_getElem? hh)
set_option maxHeartbeats 1000000 in
theorem indexO_any {w : World} (A : Option Addr) (n c B : Nat) (xs : List Nat) (hn : n ≤ 9223372036854775807) (hr : Reads w B 1 A n (u32s xs)) (h32 : ∀ x ∈ xs, x < 4294967296) :
    Calls Tryd.prog 112 #[.slice A n c, onlyFn] w (IdxOP xs w) := by
  have hl : xs.length = n := by have := hr.1; rw [u32s_len] at this; omega
  have HL := Lib.hid hl; have HR := Lib.hid hr; have HX := Lib.hid h32
  clear hl hr h32
  unfold onlyFn
  go_enter Tryd.func112, Tryd.ntmps112
  go_wp2_with fail
  go_loop [8] (fun i => ∃ k : Nat, k ≤ n ∧ i = .int .i64 k ∧ ∀ i, i < k → k2 (xs.getD i 0) = true) (fun i => n - (intOf i).toNat)
  case atStart => exact ⟨0, by omega, rfl, fun i hi => by omega⟩
  case round =>
    obtain ⟨k, hk, rfl, hno⟩ := hrel
    have HNO := Lib.hid hno; clear hno
    by_cases hlt : k < n
    · obtain ⟨ad, u0, rfl, _, hx, hcell⟩ := HR.out.at_ hlt
      rw [u32s_get (by rw [HL.out]; exact hlt)] at hx
      injection hx with hx
      subst hx
      have HC := Lib.hid (fun w => onlyF_any (xs.getD k 0) (getD_u32 HX.out k) w)
      cases hv : k2 (xs.getD k 0)
      · have HA := Lib.hid hv
        rw [hv] at HC
        clear hv
        generalize hy : xs.getD k 0 = y at *
        have HY := Lib.hid hy
        clear hy
        go_wp2_with fail
        refine (HC.out _).mono ?_
        rintro e w' ⟨rfl, rfl⟩
        go_wp2_with fail
        go_ret
        exact ⟨rfl, .inr ⟨k, rfl, by rw [HL.out]; exact hlt, by rw [HY.out]; exact HA.out, HNO.out⟩⟩
      · have HA := Lib.hid (show ∀ i, i < k + 1 → k2 (xs.getD i 0) = true from fun i hi => by
          rcases Nat.lt_or_ge i k with h | h
          · exact HNO.out i h
          · obtain rfl : i = k := by omega
            exact hv)
        rw [hv] at HC
        clear hv
        generalize xs.getD k 0 = y at hcell HC
        go_wp2_with fail
        refine (HC.out _).mono ?_
        rintro e w' ⟨rfl, rfl⟩
        go_wp2_with fail
        go_round
        case rel => exact ⟨k + 1, by omega, by go_num, HA.out⟩
        case measure => simp [intOf]; omega
    · obtain rfl : k = n := by omega
      go_wp2_with fail
      go_ret
      refine ⟨rfl, .inl ⟨rfl, fun x hx => ?_⟩⟩
      obtain ⟨i, hi, rfl⟩ := List.getElem_of_mem hx
      have := HNO.out i (by rw [← HL.out]; exact hi)
      rw [List.getD_eq_getElem?_getD, List.getElem?_eq_getElem hi] at this
      exact this
/-- What deleting leaves: the slice is shorter, its block holds those that name objects. -/
def OnlyP (g c : Nat) (xs : List Nat) (w : World) (e : Ending) (w' : World) : Prop :=
  e = .returned (.slice (some ⟨g, 0, none⟩) (xs.filter k2).length c) ∧ Row w' g 41 c (u32s (xs.filter k2)) ∧ Frb g w w'
/-- On the way: the first j are looked at. -/
structure DelS (xs ys : List Nat) (i j : Nat) : Prop where
  len : ys.length = xs.length
  fst : ys.take i = (xs.take j).filter k2
  rest : ys.drop j = xs.drop j
  ij : i < j
  jl : j ≤ xs.length
theorem DelS.il {xs ys : List Nat} {i j : Nat} (D : DelS xs ys i j) : ((xs.take j).filter k2).length = i := by
  have := D.ij; have := D.jl; have := D.len
  rw [← D.fst, List.length_take]; omega
theorem DelS.start {xs : List Nat} {j : Nat} (hj : j < xs.length) (h0 : k2 (xs.getD j 0) = false) (h : ∀ i, i < j → k2 (xs.getD i 0) = true) : DelS xs xs j (j + 1) := by
  refine ⟨rfl, ?_, rfl, by omega, by omega⟩
  rw [List.take_add_one, List.getElem?_eq_getElem hj, List.filter_append]
  have e1 : (xs.take j).filter k2 = xs.take j := by
    rw [List.filter_eq_self]
    intro x hx
    obtain ⟨i, hi, rfl⟩ := List.getElem_of_mem hx
    rw [List.length_take] at hi
    have := h i (by omega)
    rw [List.getD_eq_getElem?_getD, List.getElem?_eq_getElem (by omega)] at this
    simpa using this
  rw [List.getD_eq_getElem?_getD, List.getElem?_eq_getElem hj] at h0
  have h0 : k2 xs[j] = false := by simpa using h0
  rw [e1]
  simp [h0]
theorem DelS.get {xs ys : List Nat} {i j : Nat} (D : DelS xs ys i j) (hj : j < xs.length) : ys.getD j 0 = xs.getD j 0 := by
  have h : (ys.drop j).getD 0 0 = (xs.drop j).getD 0 0 := by rw [D.rest]
  simpa [List.getD_eq_getElem?_getD] using h
theorem DelS.skip {xs ys : List Nat} {i j : Nat} (D : DelS xs ys i j) (hj : j < xs.length) (h : k2 (xs.getD j 0) = false) : DelS xs ys i (j + 1) := by
  have hij := D.ij
  refine ⟨D.len, ?_, ?_, by omega, by omega⟩
  · rw [D.fst, List.take_add_one, List.getElem?_eq_getElem hj, List.filter_append]
    rw [List.getD_eq_getElem?_getD, List.getElem?_eq_getElem hj] at h
    have h : k2 xs[j] = false := by simpa using h
    simp [h]
  · rw [← List.drop_drop, D.rest, List.drop_drop]
theorem DelS.keep {xs ys : List Nat} {i j : Nat} (D : DelS xs ys i j) (hj : j < xs.length) (h : k2 (xs.getD j 0) = true) : DelS xs (ys.set i (xs.getD j 0)) (i + 1) (j + 1) := by
  have hij := D.ij
  have hl := D.len
  refine ⟨by rw [List.length_set]; exact hl, ?_, ?_, by omega, by omega⟩
  · rw [List.take_add_one, List.getElem?_set_self (by omega), List.take_set_of_le (Nat.le_refl _), D.fst]
    rw [List.take_add_one, List.getElem?_eq_getElem hj, List.filter_append]
    rw [List.getD_eq_getElem?_getD, List.getElem?_eq_getElem hj] at h ⊢
    have h : k2 xs[j] = true := by simpa using h
    simp [h]
  · rw [List.drop_set, if_pos (by omega), ← List.drop_drop, D.rest, List.drop_drop]
theorem u32s_take (xs : List Nat) (i : Nat) : (u32s xs).take i = u32s (xs.take i) := by unfold u32s; rw [List.map_take]
theorem u32s_set (xs : List Nat) (i v : Nat) : u32s (xs.set i v) = (u32s xs).set i (.int .u32 (v : Nat)) := by unfold u32s; rw [List.map_set]
set_option maxRecDepth 100000 in
set_option maxHeartbeats 2000000 in
theorem deleteO_any {w : World} (g c : Nat) (xs : List Nat) (hR : Row w g 41 c (u32s xs)) (hn : xs.length ≤ 9223372036854775807) (h32 : ∀ x ∈ xs, x < 4294967296) :
    Calls Tryd.prog 91 #[.slice (some ⟨g, 0, none⟩) xs.length c, onlyFn] w (OnlyP g c xs w) := by
  have hrr := hR.reads (B := w.heap.size) hR.lt
  rw [u32s_len] at hrr
  have HI := Lib.hid (indexO_any (c := c) _ xs.length w.heap.size xs hn hrr h32)
  have HR := Lib.hid hR
  have HX := Lib.hid h32
  have hlc := hR.len_le
  rw [u32s_len] at hlc
  clear hR hrr h32
  unfold onlyFn at HI ⊢
  go_enter Tryd.func91, Tryd.ntmps91
  go_wp2_with fail
  refine HI.out.mono ?_
  rintro e w' ⟨rfl, ⟨rfl, hall⟩ | ⟨j, rfl, hj, hj0, hji⟩⟩
  · have HF := Lib.hid (show xs.filter k2 = xs from List.filter_eq_self.2 hall)
    clear hall HI
    go_wp2_with fail
    go_ret
    exact ⟨by rw [HF.out]; rfl, by rw [HF.out]; exact HR.out, Frb.refl _ _⟩
  · have HD0 := Lib.hid (DelS.start hj hj0 hji)
    have hm1 : ((j : Int) == -1) = false := by first | (simp; done) | (simp; omega)
    have hjn : j < xs.length := hj
    clear hj0 hji HI hj
    go_wp2_with fail
    go_loopw [5, 6] (fun vi vj wr => ∃ (i j' : Nat) (ys : List Nat), vi = .int .i64 i ∧ vj = .int .i64 j' ∧ DelS xs ys i j' ∧ Row wr g 41 c (u32s ys) ∧ Frb g w wr) (fun _ vj _ => xs.length - (intOf vj).toNat)
    case atStart => exact ⟨j, j + 1, xs, rfl, by go_num, HD0.out, HR.out, Frb.refl _ _⟩
    case round =>
      clear HD0 HR hm1 hjn
      obtain ⟨i, j', ys, rfl, rfl, hd, hrow, hfr⟩ := hrel
      have HD := Lib.hid hd
      have HW := Lib.hid hrow
      have HFR := Lib.hid hfr
      have hij := hd.ij
      have hjl := hd.jl
      have hyl := hd.len
      have hyl2 := Lib.hid hyl
      clear hd hrow hfr hyl
      by_cases hlt : j' < xs.length
      · have hc1 := HW.out.cell (u32s_get (l := ys) (i := j') (by rw [hyl2.out]; exact hlt))
        rw [HD.out.get hlt] at hc1
        have hfz := HW.out.frozen i
        have hold := HW.out.cell (u32s_get (l := ys) (i := i) (by rw [hyl2.out]; omega))
        have HC := Lib.hid (fun w => onlyF_any (xs.getD j' 0) (getD_u32 HX.out j') w)
        cases hv : k2 (xs.getD j' 0)
        · have HN := Lib.hid (HD.out.skip hlt hv)
          rw [hv] at HC
          clear hv
          generalize xs.getD j' 0 = y at hc1 HC
          go_wp2_with fail
          refine (HC.out _).mono ?_
          rintro e w' ⟨rfl, rfl⟩
          go_wp2_with fail
          go_roundw
          case rel => exact ⟨i, j' + 1, ys, rfl, by go_num, HN.out, HW.out, HFR.out⟩
          case measure => simp [intOf]; omega
        · have HN := Lib.hid (HD.out.keep hlt hv)
          rw [hv] at HC
          have HS := Lib.hid (HW.out.set i (.int .u32 (xs.getD j' 0 : Nat)))
          have HF2 := Lib.hid (HFR.out.trans (Frb.set g i wr (.int .u32 (xs.getD j' 0 : Nat))))
          rw [← u32s_set] at HS
          clear hv
          generalize xs.getD j' 0 = y at hc1 HC HS HF2 HN
          go_wp2_with fail
          refine (HC.out _).mono ?_
          rintro e w' ⟨rfl, rfl⟩
          go_wp2_with fail
          go_roundw
          case rel => exact ⟨i + 1, j' + 1, ys.set i y, by go_num, by go_num, HN.out, HS.out, HF2.out⟩
          case measure => simp [intOf]; omega
      · obtain rfl : j' = xs.length := by omega
        have HE := Lib.hid (show OnlyP g c xs w (.returned (.slice (some ⟨g, 0, none⟩) i c)) (wr.setCells g i (List.replicate (xs.length - i) (.int .u32 0))) from by
          have h1 := HD.out.fst
          have h2 := HD.out.il
          rw [List.take_length] at h1 h2
          refine ⟨by rw [h2], ?_, HFR.out.trans (Frb.setCells g _ i wr)⟩
          have h3 := HW.out.short i
          rw [u32s_take, h1] at h3
          exact h3.setCells _ i wr (by rw [u32s_len, h2]; exact Nat.le_refl _))
        have hcl : ∀ ty, (Builtin.clear_ #[23] ty #[.slice (some ⟨g, i, none⟩) (xs.length - i) (c - i)]).run Tryd.prog wr = .ok (.tuple #[]) (wr.setCells g i (List.replicate (xs.length - i) (.int .u32 0))) :=
          fun ty => Lib.run_clear_slice wr _ _ ty _ Tryd.underlying23 Tryd.zeroValue41 rfl rfl g i _ _ (by omega) (fun t ht => by
            rw [HW.out.cell (u32s_get (l := ys) (i := i + t) (by rw [hyl2.out]; omega))]; rfl) (fun t ht => HW.out.frozen _)
        have hne : ¬ c = i := by omega
        have hne2 : ¬ i = c := by omega
        clear HD HW HFR
        go_wp2_with fail
        go_ret
        exact HE.out
/-- Those that name objects. -/
theorem only_any {w : World} (g c : Nat) (xs : List Nat) (hR : Row w g 41 c (u32s xs)) (hn : xs.length ≤ 9223372036854775807) (h32 : ∀ x ∈ xs, x < 4294967296) :
    Calls Tryd.prog 57 #[.slice (some ⟨g, 0, none⟩) xs.length c] w (OnlyP g c xs w) := by
  have HD := Lib.hid (deleteO_any g c xs hR hn h32)
  clear hR h32
  unfold onlyFn at HD
  go_enter Tryd.func57, Tryd.ntmps57
  go_wp2_with fail
  refine HD.out.mono ?_
  rintro e w' ⟨rfl, h1, h2⟩
  have H1 := Lib.hid h1
  have H2 := Lib.hid h2
  clear h1 h2
  go_wp2_with fail
  go_ret
  exact ⟨rfl, H1.out, H2.out⟩
end Go.Proofs.YtblekggklimpeaaDoor
