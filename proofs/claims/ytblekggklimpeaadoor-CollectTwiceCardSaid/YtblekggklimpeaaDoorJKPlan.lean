/- A collection: where the live objects lie and would lie, and what is left. Plain data. -/
/- The walk by holding: put, walk. -/
/- The walk by holding: walk. -/
/- All and Find of the program's heap. -/
/- Names exchanged and given away, plain: what every word names then. -/
/- Renaming, step by step: what each deed on the heap does. -/
/- rename's function: what an oop becomes. -/
/- All of the program's heap, for a body that keeps what the caller says is safe; the relation of a body that grows a row of its own behind a box. -/
import Derived.Test.YtblekggklimpeaaDoorJAll
import Derived.Test.YtblekggklimpeaaDoorJMake
import Derived.Test.YtblekggklimpeaaDoorJMapOk
import Derived.Lib.QuietBelow
import Derived.ScopeJumps
set_option linter.unusedVariables false
set_option linter.unusedSimpArgs false
set_option linter.unusedSectionVars false
namespace Go.Proofs.YtblekggklimpeaaDoor
open Go.RowKit

theorem getD_pre {α : Type} {l l' : List α} {d : α} (hp : l <+: l') {j : Nat} (hj : j < l.length) : l'.getD j d = l.getD j d := by
  obtain ⟨t, rfl⟩ := hp
  exact getD_app_left _ _ _ _ hj
/-- What is met holds nothing but what is met. -/
theorem walkF_shut (nm : Nat → List Nat) : ∀ (f i : Nat) (l : Wk), (walkF nm f i l).length < f + i → (∀ j, j < i → j < l.length → ∀ x ∈ nm (l.getD j (0, 0)).1, kindM x = 2 → x ∈ metO l) →
    ∀ j, j < (walkF nm f i l).length → ∀ x ∈ nm ((walkF nm f i l).getD j (0, 0)).1, kindM x = 2 → x ∈ metO (walkF nm f i l)
  | 0, i, l, hf, h => by
    intro j hj x hx hk
    unfold walkF at hf hj hx ⊢
    exact h j (by omega) hj x hx hk
  | f + 1, i, l, hf, h => by
    by_cases hi : i < l.length
    · have e : walkF nm (f + 1) i l = walkF nm f (i + 1) (putsW l (nm (l.getD i (0, 0)).1) (i : Int)) := by
        conv => lhs; unfold walkF
        rw [if_pos hi]
      rw [e] at hf ⊢
      refine walkF_shut nm f (i + 1) _ (by omega) (fun j hj hjl x hx hk => ?_)
      have hp := putsW_pre l (nm (l.getD i (0, 0)).1) (i : Int)
      rcases Nat.lt_or_ge j i with h1 | h1
      · rw [getD_pre hp (by omega)] at hx
        exact putsW_mem.2 (.inl (h j h1 (by omega) x hx hk))
      · obtain rfl : j = i := by omega
        rw [getD_pre hp hi] at hx
        exact putsW_mem.2 (.inr ⟨hx, hk⟩)
    · have e : walkF nm (f + 1) i l = l := by unfold walkF; rw [if_neg hi]
      rw [e] at hf ⊢
      intro j hj x hx hk
      exact h j (by omega) hj x hx hk
theorem metO_get {l : Wk} {o : Nat} (h : o ∈ metO l) : ∃ j, j < l.length ∧ (l.getD j (0, 0)).1 = o := by
  unfold metO at h
  obtain ⟨p, hp, rfl⟩ := List.mem_map.1 h
  obtain ⟨j, hj, rfl⟩ := List.getElem_of_mem hp
  exact ⟨j, hj, by rw [List.getD_eq_getElem?_getD, List.getElem?_eq_getElem hj]; rfl⟩
section
variable {h : HM} {l : List Ob}
theorem walk_len (G : h.Good l) {fr : List Nat} (hf : ∀ x ∈ fr, h.valB x = true) : (walkM (heldM h) fr).length ≤ 1048576 := wk_len G (walkM_nodup _ _) (walk_isB G hf)
theorem walk_shut (G : h.Good l) {fr : List Nat} (hf : ∀ x ∈ fr, h.valB x = true) {o x : Nat} (ho : o ∈ metO (walkM (heldM h) fr)) (hx : x ∈ heldM h o) (hk : kindM x = 2) : x ∈ metO (walkM (heldM h) fr) := by
  obtain ⟨j, hj, rfl⟩ := metO_get ho
  have hl := walk_len G hf
  exact walkF_shut (heldM h) 2097152 0 _ (by unfold walkM at hl; omega) (fun j hj => by omega) j hj x hx hk
theorem walk_root {nm : Nat → List Nat} {fr : List Nat} {x : Nat} (hx : x ∈ fr) (hk : kindM x = 2) : x ∈ metO (walkM nm fr) := by
  obtain ⟨t, ht⟩ := walkF_pre nm 2097152 0 (putsW [] fr (-1))
  unfold walkM
  rw [← ht]
  unfold metO
  rw [List.map_append]
  exact List.mem_append_left _ (putsW_mem.2 (.inr ⟨hx, hk⟩))
/-- The live objects, with what they are. -/
def keepZ (h : HM) (l : List Ob) : List (Nat × Ob) := ((oopsL l).zip l).filter (fun p => decide (p.1 ∈ metO (walkM (heldM h) h.roots)))
theorem keepZ_fst (h : HM) (l : List Ob) : (keepZ h l).map (·.1) = liveO h l := by
  unfold liveO
  have e : oopsL l = ((oopsL l).zip l).map (·.1) := (List.map_fst_zip (by rw [oopsL_len]; exact Nat.le_refl _)).symm
  conv => rhs; rw [e]
  rw [List.filter_map]
  rfl
theorem keepZ_len (h : HM) (l : List Ob) : (keepZ h l).length = (liveO h l).length := by rw [← keepZ_fst, List.length_map]
theorem keepZ_snd (h : HM) (l : List Ob) : ((keepZ h l).map (·.2)).Sublist l := by
  have e : l = ((oopsL l).zip l).map (·.2) := (List.map_snd_zip (by rw [oopsL_len]; exact Nat.le_refl _)).symm
  conv => rhs; rw [e]
  exact List.Sublist.map _ List.filter_sublist
theorem keepZ_mem {p : Nat × Ob} (hp : p ∈ keepZ h l) : ∃ j, ∃ hj : j < l.length, p.1 = 2 * posOf (l.take j) ∧ p.2 = l[j] ∧ p.1 ∈ metO (walkM (heldM h) h.roots) := by
  unfold keepZ at hp
  rw [List.mem_filter] at hp
  obtain ⟨hz, hd⟩ := hp
  obtain ⟨j, hj, rfl⟩ := List.getElem_of_mem hz
  rw [List.length_zip, oopsL_len] at hj
  have hj' : j < l.length := by omega
  refine ⟨j, hj', ?_, ?_, by simpa using hd⟩
  · rw [List.getElem_zip]
    have := oopsL_get hj'
    rw [List.getElem?_eq_getElem (by rw [oopsL_len]; exact hj')] at this
    injection this
  · rw [List.getElem_zip]
theorem keepZ_nodup (h : HM) (l : List Ob) : ((keepZ h l).map (·.1)).Nodup := by
  rw [keepZ_fst, List.nodup_iff_pairwise_ne]
  exact (liveO_lt h l).imp (fun h => by omega)
/-- A live object's class and fields. -/
theorem keepZ_held (G : h.Good l) {p : Nat × Ob} (hp : p ∈ keepZ h l) : heldM h p.1 = p.2.x.cls :: (if p.2.x.fmt = 1 then p.2.fs else []) := by
  obtain ⟨j, hj, h1, h2, _⟩ := keepZ_mem hp
  have L := G.laid
  rw [split_at l j hj] at L
  unfold heldM
  rw [h1, half_pos, L.hd_at, L.fields_at, h2]
/-- Where they lie and would lie, from a word on. -/
def planF : Nat → List (Nat × Ob) → List (Nat × Nat)
  | _, [] => []
  | a, p :: r => (p.1, 2 * a) :: planF (a + 3 + p.2.fs.length) r
def planM (h : HM) (l : List Ob) : List (Nat × Nat) := planF 1 (keepZ h l)
theorem planF_len : ∀ (a : Nat) (z : List (Nat × Ob)), (planF a z).length = z.length
  | _, [] => rfl
  | a, p :: r => by simp [planF, planF_len]
theorem planF_fst : ∀ (a : Nat) (z : List (Nat × Ob)), (planF a z).map (·.1) = z.map (·.1)
  | _, [] => rfl
  | a, p :: r => by simp [planF, planF_fst]
theorem planF_get : ∀ (a : Nat) (z : List (Nat × Ob)) (k : Nat) (hk : k < z.length), (planF a z)[k]? = some ((z[k]).1, 2 * (a + (wsOf ((z.take k).map (·.2))).length))
  | a, p :: r, 0, _ => by simp [planF, wsOf_nil]
  | a, p :: r, k + 1, hk => by
    have := planF_get (a + 3 + p.2.fs.length) r k (by simpa using hk)
    simp only [planF, List.getElem?_cons_succ, List.getElem_cons_succ, List.take_succ_cons, List.map_cons, wsOf_cons, List.length_append, Ob.ws_len]
    rw [this]
    congr 3
    omega
theorem planM_fst (h : HM) (l : List Ob) : (planM h l).map (·.1) = liveO h l := by unfold planM; rw [planF_fst, keepZ_fst]
/-- Where an object goes; 0: it is not live. -/
def goesM (pl : List (Nat × Nat)) (x : Nat) : Nat := ((pl.find? (fun p => p.1 == x)).map (·.2)).getD 0
def whereM (pl : List (Nat × Nat)) (x : Nat) : Nat := if kindM x = 2 then goesM pl x else x
theorem goesM_no {pl : List (Nat × Nat)} {x : Nat} (h : x ∉ pl.map (·.1)) : goesM pl x = 0 := by
  unfold goesM
  have h0 : pl.find? (fun p => p.1 == x) = none := by
    rw [List.find?_eq_none]
    intro p hp he
    exact h (List.mem_map.2 ⟨p, hp, by simpa using he⟩)
  rw [h0]; rfl
theorem goesM_at {pl : List (Nat × Nat)} (hd : (pl.map (·.1)).Nodup) {k : Nat} {p : Nat × Nat} (hk : pl[k]? = some p) : goesM pl p.1 = p.2 := by
  induction pl generalizing k with
  | nil => cases hk
  | cons q pl ih =>
    rw [List.map_cons, List.nodup_cons] at hd
    cases k with
    | zero =>
      rw [List.getElem?_cons_zero] at hk
      injection hk with hk
      subst hk
      simp [goesM]
    | succ k =>
      rw [List.getElem?_cons_succ] at hk
      have hne : (q.1 == p.1) = false := by
        rw [beq_eq_false_iff_ne]
        intro e
        exact hd.1 (e ▸ List.mem_map.2 ⟨p, List.mem_of_getElem? hk, rfl⟩)
      have := ih hd.2 hk
      unfold goesM at this ⊢
      rw [List.find?_cons, hne]
      exact this
/-- What a field becomes. -/
def fldM (pl : List (Nat × Nat)) (void x : Nat) : Nat := if kindM x = 2 ∧ x ∉ pl.map (·.1) then void else whereM pl x
def relob (pl : List (Nat × Nat)) (void : Nat) (b : Ob) : Ob := ⟨{ b.x with cls := whereM pl b.x.cls }, if b.x.ptrB then b.fs.map (fldM pl void) else b.fs⟩
def voidM (h : HM) (l : List Ob) : Nat := whereM (planM h l) (h.roots.getD 0 0)
/-- What a collection leaves. -/
def colL (h : HM) (l : List Ob) : List Ob := (keepZ h l).map (fun p => relob (planM h l) (voidM h l) p.2)
def colR (h : HM) (l : List Ob) : List Nat := h.roots.map (whereM (planM h l))
def colH (h : HM) (l : List Ob) : HM := HM.ofWords h.size (0 :: wsOf (colL h l)) (colR h l) h.last
theorem relob_len (pl : List (Nat × Nat)) (void : Nat) (b : Ob) : (relob pl void b).fs.length = b.fs.length := by unfold relob; simp only; split <;> simp
theorem wsOf_same {g : Ob → Ob} (hg : ∀ b, (g b).fs.length = b.fs.length) (L : List Ob) : (wsOf (L.map g)).length = (wsOf L).length := by
  induction L with
  | nil => rfl
  | cons b L ih => rw [List.map_cons, wsOf_cons, wsOf_cons, List.length_append, List.length_append, ih, Ob.ws_len, Ob.ws_len, hg]
theorem wsOf_sub {a b : List Ob} (h : a.Sublist b) : (wsOf a).length ≤ (wsOf b).length := by
  induction h with
  | slnil => exact Nat.le_refl _
  | cons x _ ih => rw [wsOf_cons, List.length_append]; omega
  | cons_cons x _ ih => rw [wsOf_cons, wsOf_cons, List.length_append, List.length_append]; omega
theorem colL_eq (h : HM) (l : List Ob) : colL h l = ((keepZ h l).map (·.2)).map (relob (planM h l) (voidM h l)) := by unfold colL; rw [List.map_map]; rfl
theorem colL_len (h : HM) (l : List Ob) : (colL h l).length = (keepZ h l).length := by unfold colL; rw [List.length_map]
theorem colL_words (h : HM) (l : List Ob) : (wsOf (colL h l)).length ≤ (wsOf l).length := by
  rw [colL_eq, wsOf_same (relob_len _ _)]
  exact wsOf_sub (keepZ_snd h l)
theorem plan_get (h : HM) (l : List Ob) {k : Nat} (hk : k < (keepZ h l).length) : (planM h l)[k]? = some (((keepZ h l)[k]).1, 2 * posOf ((colL h l).take k)) := by
  unfold planM
  rw [planF_get 1 _ k hk]
  congr 3
  unfold posOf
  rw [colL_eq, ← List.map_take, wsOf_same (relob_len _ _), List.map_take]
theorem goes_live (h : HM) (l : List Ob) {o : Nat} (ho : o ∈ liveO h l) : ∃ k, k < (colL h l).length ∧ goesM (planM h l) o = 2 * posOf ((colL h l).take k) := by
  rw [← keepZ_fst] at ho
  obtain ⟨p, hp, rfl⟩ := List.mem_map.1 ho
  obtain ⟨k, hk, rfl⟩ := List.getElem_of_mem hp
  refine ⟨k, by rw [colL_len]; exact hk, ?_⟩
  exact goesM_at (by rw [planM_fst, ← keepZ_fst]; exact keepZ_nodup h l) (plan_get h l hk)
theorem posOf_take_le (L : List Ob) (k : Nat) : posOf (L.take k) ≤ 1 + (wsOf L).length := by
  unfold posOf
  have := wsOf_sub (List.take_sublist k L)
  omega
theorem goes_lt (G : h.Good l) (o : Nat) : goesM (planM h l) o < 4294967296 := by
  by_cases ho : o ∈ liveO h l
  · obtain ⟨k, hk, e⟩ := goes_live h l ho
    rw [e]
    have h1 := posOf_take_le (colL h l) k
    have h2 := colL_words h l
    have h3 := G.fit.room
    have h4 := G.fit.hi
    rw [G.laid.words, List.length_cons] at h3
    omega
  · rw [goesM_no (by rw [planM_fst]; exact ho)]; decide
theorem where_lt (G : h.Good l) {o : Nat} (ho : o < 4294967296) : whereM (planM h l) o < 4294967296 := by
  unfold whereM
  split
  · exact goes_lt G o
  · exact ho
theorem roots_lt (G : h.Good l) (i : Nat) : h.roots.getD i 0 < 4294967296 := by
  rw [List.getD_eq_getElem?_getD]
  cases hh : h.roots[i]? with
  | none => simp
  | some v => simp; exact G.fit.r32 v (List.mem_of_getElem? hh)
theorem void_lt (G : h.Good l) : voidM h l < 4294967296 := where_lt G (roots_lt G 0)
theorem fld_lt (G : h.Good l) {o : Nat} (ho : o < 4294967296) : fldM (planM h l) (voidM h l) o < 4294967296 := by
  unfold fldM
  split
  · exact void_lt G
  · exact where_lt G ho
theorem relob_ok (G : h.Good l) {b : Ob} (k : b.Ok) : (relob (planM h l) (voidM h l) b).Ok := by
  refine ⟨⟨k.fit.size, k.fit.fmt, k.fit.spare, where_lt G k.fit.cls, k.fit.ser⟩, k.may, by rw [relob_len]; exact k.size, fun f hf => ?_⟩
  unfold relob at hf
  simp only at hf
  split at hf
  · obtain ⟨g, hg, rfl⟩ := List.mem_map.1 hf
    exact fld_lt G (k.f32 g hg)
  · exact k.f32 f hf
theorem keepZ_ok (G : h.Good l) {p : Nat × Ob} (hp : p ∈ keepZ h l) : p.2.Ok := by
  obtain ⟨j, hj, _, h2, _⟩ := keepZ_mem hp
  rw [h2]
  exact G.laid.ok _ (List.getElem_mem hj)
theorem colL_ok (G : h.Good l) : ∀ b ∈ colL h l, b.Ok := by
  intro b hb
  unfold colL at hb
  obtain ⟨p, hp, rfl⟩ := List.mem_map.1 hb
  exact relob_ok G (keepZ_ok G hp)
theorem col_parse (G : h.Good l) : parseW (0 :: wsOf (colL h l)) = some (colL h l) := parseW_obs (colL_ok G)
theorem col_laid (G : h.Good l) : (colH h l).Laid (colL h l) :=
  ⟨rfl, by show false :: msOf ((parseW (0 :: wsOf (colL h l))).getD []) = _; rw [col_parse G]; rfl, colL_ok G⟩
theorem col_isB (G : h.Good l) {o : Nat} (ho : o ∈ liveO h l) : (colH h l).isB (goesM (planM h l) o) = true := by
  obtain ⟨k, hk, e⟩ := goes_live h l ho
  rw [e]
  exact ((col_laid G).isB_iff _).2 ⟨_, _, _, split_at _ k hk, rfl⟩
theorem live_of_held (G : h.Good l) {p : Nat × Ob} (hp : p ∈ keepZ h l) {x : Nat} (hx : x ∈ heldM h p.1) (hk : kindM x = 2) : x ∈ liveO h l := by
  obtain ⟨j, hj, h1, h2, h3⟩ := keepZ_mem hp
  exact (mem_liveO G).2 (walk_shut G G.sound.roots h3 hx hk)
theorem live_of_root (G : h.Good l) {x : Nat} (hx : x ∈ h.roots) (hk : kindM x = 2) : x ∈ liveO h l := (mem_liveO G).2 (walk_root hx hk)
theorem val_where (G : h.Good l) {x : Nat} (hx : kindM x = 2 → x ∈ liveO h l) : (colH h l).valB (whereM (planM h l) x) = true := by
  unfold HM.valB
  rw [Bool.or_eq_true]
  unfold whereM
  by_cases hk : kindM x = 2
  · rw [if_pos hk]; exact .inr (col_isB G (hx hk))
  · rw [if_neg hk]; exact .inl (by unfold objB; simpa using hk)
theorem void_val (G : h.Good l) : (colH h l).valB (voidM h l) = true :=
  val_where G (fun hk => by
    refine live_of_root G ?_ hk
    rw [List.getD_eq_getElem?_getD, List.getElem?_eq_getElem (by rw [G.fit.roots]; omega)]
    exact List.getElem_mem _)
theorem fld_val (G : h.Good l) (x : Nat) : (colH h l).valB (fldM (planM h l) (voidM h l) x) = true := by
  unfold fldM
  split
  · exact void_val G
  · rename_i hn
    exact val_where G (fun hk => Classical.byContradiction fun hc => hn ⟨hk, by rw [planM_fst]; exact hc⟩)
theorem col_sound (G : h.Good l) : (colH h l).Sound (colL h l) := by
  have hsub := keepZ_snd h l
  have hmem : ∀ p ∈ keepZ h l, p.2 ∈ l := fun p hp => hsub.subset (List.mem_map.2 ⟨p, hp, rfl⟩)
  refine ⟨fun b hb => ?_, fun b hb hpb f hf => ?_, fun b hb hf => ?_, fun b hb => ?_, ?_, fun r hr => ?_⟩
  · unfold colL at hb
    obtain ⟨p, hp, rfl⟩ := List.mem_map.1 hb
    show (colH h l).clsB (whereM (planM h l) p.2.x.cls) = true
    have hc := G.sound.cls p.2 (hmem p hp)
    unfold HM.clsB at hc ⊢
    rw [Bool.or_eq_true] at hc ⊢
    rcases hc with hc | hc
    · have hc : p.2.x.cls = 0 := by simpa using hc
      rw [hc]
      exact .inl (by simp [whereM, kindM])
    · have hk := isB_kind hc
      unfold whereM
      rw [if_pos hk]
      exact .inr (col_isB G (live_of_held G hp (by rw [keepZ_held G hp]; simp) hk))
  · unfold colL at hb
    obtain ⟨p, hp, rfl⟩ := List.mem_map.1 hb
    unfold relob at hf
    simp only at hf
    split at hf
    · obtain ⟨g, hg, rfl⟩ := List.mem_map.1 hf
      exact fld_val G g
    · rename_i hno
      exact absurd hpb hno
  · unfold colL at hb
    obtain ⟨p, hp, rfl⟩ := List.mem_map.1 hb
    have hf2 : p.2.x.fmt = 2 := hf
    have hnp : p.2.x.ptrB = false := by unfold Hd.ptrB; simp [hf2]
    unfold relob
    simp only [hnp, Bool.false_eq_true, if_false]
    exact G.sound.spare p.2 (hmem p hp) hf2
  · unfold colL at hb
    obtain ⟨p, hp, rfl⟩ := List.mem_map.1 hb
    exact G.sound.sers p.2 (hmem p hp)
  · have e : (colL h l).map (fun o => o.x.ser) = ((keepZ h l).map (·.2)).map (fun o => o.x.ser) := by
      rw [colL_eq, List.map_map]
      rfl
    rw [e]
    exact (hsub.map _).nodup G.sound.nodup
  · unfold colH HM.ofWords colR at hr
    obtain ⟨x, hx, rfl⟩ := List.mem_map.1 hr
    exact val_where G (fun hk => live_of_root G hx hk)
theorem col_w32 (G : h.Good l) : ∀ x ∈ 0 :: wsOf (colL h l), x < 4294967296 := by
  intro x hx
  rcases List.mem_cons.1 hx with rfl | hx
  · decide
  · unfold wsOf at hx
    obtain ⟨b, hb, hx⟩ := List.mem_flatMap.1 hx
    have k := colL_ok G b hb
    have := w0_lt k.fit
    unfold Ob.ws at hx
    simp only [List.mem_cons] at hx
    rcases hx with rfl | rfl | rfl | hx
    · omega
    · exact k.fit.cls
    · exact k.fit.ser
    · exact k.f32 x hx
theorem col_r32 (G : h.Good l) : ∀ x ∈ colR h l, x < 4294967296 := by
  intro x hx
  unfold colR at hx
  obtain ⟨y, hy, rfl⟩ := List.mem_map.1 hx
  exact where_lt G (G.fit.r32 y hy)
theorem col_room (G : h.Good l) : (0 :: wsOf (colL h l)).length ≤ h.words.length := by
  rw [G.laid.words, List.length_cons, List.length_cons]
  have := colL_words h l
  omega
/-- What a collection leaves is a heap. -/
theorem col_good (G : h.Good l) : (colH h l).Good (colL h l) :=
  HM.ofWords_good G.fit.lo G.fit.hi (col_w32 G) (col_r32 G) (by unfold colR; rw [List.length_map]; exact G.fit.roots) G.fit.l32 (Nat.le_trans (col_room G) G.fit.room) (col_parse G) (col_sound G)
theorem col_loadOk (G : h.Good l) : LoadOk h.size (0 :: wsOf (colL h l)) (colR h l) h.last := ⟨colL h l, col_parse G, col_sound G⟩
/-- What a collection came to. -/
def movedN (h : HM) (l : List Ob) : Nat := ((planM h l).filter (fun p => decide (p.1 ≠ p.2))).length
def deadB (pl : List (Nat × Nat)) (x : Nat) : Bool := decide (kindM x = 2 ∧ x ∉ pl.map (·.1))
def clearedB (pl : List (Nat × Nat)) (b : Ob) : Nat := if b.x.ptrB then (b.fs.filter (deadB pl)).length else 0
def clearedN (h : HM) (l : List Ob) : Nat := ((keepZ h l).map (fun p => clearedB (planM h l) p.2)).sum
end
end Go.Proofs.YtblekggklimpeaaDoor

namespace Go.Proofs.YtblekggklimpeaaDoor
open Go.RowKit
attribute [local go_sem] Oper.semAt_some
/-- A trail in memory, all of it from B on. -/
structure TrailAt (w : World) (B gt bm : Nat) (v : Value) (l : Wk) : Prop where
  box : Blk w gt 90 #[v, .map (some bm)]
  own : w.ownsRow B 41 1 v l.length (u32s (metO l))
  map : MapE 41 3 .i64 w bm l.length (byOf l) (fun x => decide (x ∈ metO l))
  hg : B ≤ gt
  hm : B ≤ bm
  m32 : ∀ x ∈ metO l, x < 4294967296
section
variable {w w' : World} {B gt bm : Nat} {v v' : Value} {l : Wk}
theorem TrailAt.below (T : TrailAt w B gt bm v l) (h : Below w.heap.size w w') : TrailAt w' B gt bm v l :=
  ⟨T.box.below h T.box.lt, own_below T.own h, T.map.below h, T.hg, T.hm, T.m32⟩
theorem byOf_put {l : Wk} {o : Nat} {b : Int} (h : o ∉ metO l) : byOf (l ++ [(o, b)]) = fun y => if y = o then b else byOf l y := by funext y; exact byOf_snoc b h y
theorem metB_put {l : Wk} {o : Nat} {b : Int} : (fun x => decide (x ∈ metO (l ++ [(o, b)]))) = fun y => if y = o then true else decide (y ∈ metO l) := by
  funext y
  rw [metO_snoc]
  by_cases h : y = o
  · rw [if_pos h]; simp [h]
  · rw [if_neg h]; simp [h]
end
theorem own_ne_blk {w : World} {B s n g : Nat} {e t : TypeId} {v : Value} {xs : List Value} {cs : Array Value} (h : w.ownsRow B e s v n xs) (k : Blk w g t cs) (hne : e ≠ t) : v.ownBlock ≠ some g := by
  rcases h.2 with ⟨rfl, _⟩ | ⟨g', cap, cur, rfl, _, h3, _⟩
  · intro e; cases e
  · intro e
    injection e with e
    subst e
    unfold Blk at k
    rw [h3] at k
    injection k with k
    injection k with _ k
    exact hne k
theorem own_val {w : World} {B s n : Nat} {e : TypeId} {v : Value} {xs : List Value} (h : w.ownsRow B e s v n xs) : ∃ A c, v = .slice A n c := by
  rcases h.2 with ⟨rfl, h0⟩ | ⟨g, cap, cur, rfl, _⟩
  · have : n = 0 := by first | exact h0 | (have := h.1; simp_all) | omega
    subst this
    exact ⟨none, 0, rfl⟩
  · exact ⟨_, _, rfl⟩
theorem own_keep {w w' : World} {B s n : Nat} {e : TypeId} {v : Value} {xs : List Value} (h : w.ownsRow B e s v n xs) (hs : ∀ k, v.ownBlock = some k → w'.heap[k]? = w.heap[k]?) : w'.ownsRow B e s v n xs := by
  refine ⟨h.1, ?_⟩
  rcases h.2 with h1 | ⟨g, cap, cur, h1, h2, h3, h4⟩
  · exact .inl h1
  · exact .inr ⟨g, cap, cur, h1, h2, (hs g (by rw [h1]; rfl)).trans h3, h4⟩
theorem own_ne_map {w : World} {B s n b m : Nat} {e K E : TypeId} {kd : IntKind} {v : Value} {xs : List Value} {f : Nat → Int} {hs : Nat → Bool} (h : w.ownsRow B e s v n xs) (k : MapE K E kd w b m f hs) : v.ownBlock ≠ some b := by
  rcases h.2 with ⟨rfl, _⟩ | ⟨g', cap, cur, rfl, _, h3, _⟩
  · intro e; cases e
  · intro e
    injection e with e
    subst e
    obtain ⟨es, c, hb⟩ := k.obj
    rw [hb] at h3
    cases h3
/-- What put answers. -/
def TputP (B gt bm : Nat) (l : Wk) (go co : Nat) (os : List Nat) (w : World) (e : Ending) (w' : World) : Prop :=
  e = .returned (.tuple #[]) ∧ ∃ v', TrailAt w' B gt bm v' l ∧ Below B w w'
set_option maxRecDepth 100000 in
set_option maxHeartbeats 4000000 in
theorem tput_any {w : World} {B gt bm go co : Nat} {v : Value} {l : Wk} {os : List Nat} (T : TrailAt w B gt bm v l) (hO : Row w go 41 co (u32s os)) (hne : v.ownBlock ≠ some go) (hB : B ≤ w.heap.size)
    (h32 : ∀ x ∈ os, x < 4294967296) (hk : ∀ x ∈ os, kindM x = 2) (by_ : Int) (hby : (Lit.int .i64 by_).wf = true) (hlen : l.length + os.length ≤ 1000000000) :
    Calls Tryd.prog 90 #[.pointer (some ⟨gt, 0, none⟩), .int .i64 by_, .slice (some ⟨go, 0, none⟩) os.length co] w (TputP B gt bm (putsW l os by_) go co os w) := by
  have HT := Lib.hid T
  have HO := Lib.hid hO
  have HNE := Lib.hid hne
  have H32 := Lib.hid h32
  have HK := Lib.hid hk
  have HBY := Lib.hid hby
  obtain ⟨i0, hi0, hz0, hz1, hz2⟩ := info_parts info_oop
  clear T hO hne h32 hk hby
  go_enter Tryd.func90, Tryd.ntmps90
  go_wp2_with fail
  go_loopw [7, 8, 9, 12] (fun _ _ _ iv wr => ∃ (k : Nat) (v' : Value), iv = .int .i64 k ∧ k ≤ os.length ∧ TrailAt wr B gt bm v' (putsW l (os.take k) by_) ∧ Row wr go 41 co (u32s os) ∧ v'.ownBlock ≠ some go ∧ Below B w wr) (fun _ _ _ iv _ => os.length - (intOf iv).toNat)
  case atStart => exact ⟨0, v, rfl, by omega, HT.out, HO.out, HNE.out, Below.refl _ _⟩
  case round =>
    clear HT HO HNE
    obtain ⟨k, v', rfl, hk, ht, ho, hne, hb⟩ := hrel
    have HT := Lib.hid ht
    have HO := Lib.hid ho
    have HNE := Lib.hid hne
    have HB := Lib.hid hb
    clear ht ho hne hb
    by_cases hlt : k < os.length
    · have hcl := HO.out.cell (u32s_get (l := os) (i := k) hlt)
      have hx32 : os.getD k 0 < 4294967296 := getD_u32 H32.out k
      have HS := Lib.hid (show putsW l (os.take (k + 1)) by_ = putW (putsW l (os.take k) by_) (os.getD k 0) by_ by
        rw [List.take_add_one, List.getElem?_eq_getElem hlt, List.getD_eq_getElem?_getD, List.getElem?_eq_getElem hlt]
        exact putsW_snoc _ _ _ _)
      have HKX := Lib.hid (show kindM (os.getD k 0) = 2 from HK.out _ (by rw [List.getD_eq_getElem?_getD, List.getElem?_eq_getElem hlt]; exact List.getElem_mem _))
      have HL := Lib.hid (show (putsW l (os.take k) by_).length ≤ 1000000000 - 1 from by
        have h1 : (putsW l (os.take k) by_).length ≤ l.length + (os.take k).length := by
          generalize os.take k = q
          clear HT HO HNE HB HS HKX hcl hx32 hlt hk H32 HK HBY hi0 hz0 hz1 hz2 hlen
          induction q generalizing l with
          | nil => simp [putsW]
          | cons a q ih =>
            rw [putsW_cons]
            have := ih (l := putW l a by_)
            have : (putW l a by_).length ≤ l.length + 1 := by unfold putW; split <;> simp
            simp only [List.length_cons]
            omega
        rw [List.length_take] at h1
        omega)
      generalize os.getD k 0 = x at *
      generalize putsW l (os.take k) by_ = L at *
      have c0 := HT.out.box.cell 0
      have c1 := HT.out.box.cell 1
      have z0 := HT.out.box.frozen 0
      have hlook := HT.out.map.look_ok tyOI hx32
      by_cases hin : x ∈ metO L
      · have hdec : decide (x ∈ metO L) = true := by simpa using hin
        rw [hdec] at hlook
        have HN := Lib.hid (show putW L x by_ = L from putW_old (fun h => h.2 hin))
        generalize byOf L x = bx at hlook
        clear hdec hin
        go_wp2_with fail
        go_roundw
        case rel => exact ⟨k + 1, v', by go_num, by omega, by rw [HS.out, HN.out]; exact HT.out, HO.out, HNE.out, HB.out⟩
        case measure => simp [intOf]; omega
      · have hdec : decide (x ∈ metO L) = false := by simpa using hin
        rw [hdec] at hlook
        have HN := Lib.hid (show putW L x by_ = L ++ [(x, by_)] from putW_new HKX.out hin)
        have HIN := Lib.hid hin
        obtain ⟨w2, hrun, hmp, hg2⟩ := HT.out.map.put tyOI hx32 HBY.out (by have := HL.out; omega)
        have HMP := Lib.hid hmp
        have HG2 := Lib.hid hg2
        have HW2 := Lib.hid (show ∀ q, q < wr.heap.size → q ≠ bm → w2.heap[q]? = wr.heap[q]? from fun q hq hn => hg2.block q hq (fun e => by cases e; exact hn rfl))
        have n1 := HT.out.map.ne_blk HT.out.box
        have n2 := HT.out.map.ne_row HO.out
        have n3 := (HO.out.ne_blk HT.out.box (by decide))
        have hsz2 : wr.heap.size ≤ w2.heap.size := hg2.size
        have HBX := Lib.hid (HT.out.box.same (HW2.out gt HT.out.box.lt (fun e => n1 e.symm)))
        have HO2 := Lib.hid (HO.out.same (HW2.out go HO.out.lt (fun e => n2 e.symm)))
        have HOW := Lib.hid (show w2.ownsRow B 41 1 v' L.length (u32s (metO L)) from by
          have h0 := HT.out.own
          refine ⟨h0.1, ?_⟩
          rcases h0.2 with h1 | ⟨g, cap, cur, h1, h2, h3, h4⟩
          · exact .inl h1
          · exact .inr ⟨g, cap, cur, h1, h2, (HW2.out g (lt_of_get h3) (fun e => by subst e; obtain ⟨es, cc, hb⟩ := HT.out.map.obj; rw [hb] at h3; cases h3)).trans h3, h4⟩)
        have HB2 := Lib.hid (show Below B w w2 from HB.out.trans ⟨hg2.os, hg2.tape, hg2.output, hg2.size, fun q hq => HW2.out q (by have := HB.out.size; omega) (by have := HT.out.hm; omega)⟩)
        have HMB := Lib.hid (HT.out.m32)
        have HGM := Lib.hid (And.intro HT.out.hg HT.out.hm)
        generalize byOf L x = bx at hlook
        clear hdec hin hmp hg2 n1 n2
        go_upto_region 6 with fail
        have c0' := HBX.out.cell 0
        have hOWne : v'.ownBlock ≠ some gt := own_ne_blk HOW.out HBX.out (by decide)
        have hOWnm : v'.ownBlock ≠ some bm := own_ne_map HOW.out HMP.out
        have HNS := Lib.hid (And.intro hOWne hOWnm)
        have hb2s : B ≤ w2.heap.size := by have := HB2.out.size; omega
        clear c0 c1 z0 hlook hOWne hOWnm n3
        have hLl := HL.out
        go_wp2_with (at_builtin; refine wpList_append_any _ rfl (.tmp 37) (.tmp 39) _ rfl B 41 i0 _ 1 4 Tryd.underlying23 hi0 hz0 hz1 hz2 rfl (by omega) v' L.length _ rfl (own_keep HOW.out (fun q hq => Below.heap_alloc w2 (.cells #[.int .u32 (x : Int)] 41) q (HOW.out.lt q hq).2)) (w2.heap.size + 1) (some ⟨w2.heap.size, 0, none⟩) 1 1 (u32s [x]) rfl ⟨rfl, fun _ => ⟨_, rfl, by simp, cell_one_new _ _ _⟩⟩ (one_u32 _) (by simp only [maxLen]; omega) (by omega) (by simp; omega) ?_; intro v1 w3 hown3 hgrow3 hat3; obtain ⟨A3, c3, rfl⟩ := own_val hown3; have HG3 := Lib.hid (fun q (hq : q < w2.heap.size) (hn : v'.ownBlock ≠ some q) => (hgrow3.block q (by simp; omega) (fun e => hn (by first | exact e | exact e.symm))).trans (Below.heap_alloc w2 (.cells #[.int .u32 (x : Int)] 41) q hq)); have HBX3 := Lib.hid (HBX.out.same (HG3.out gt HBX.out.lt HNS.out.1)); have hz3 := HBX3.out.frozen 0; have hc3 := HBX3.out.cell 0)
        have HE := Lib.hid (show TrailAt (w3.setCell ⟨gt, 0, none⟩ (.slice A3 (L.length + 1) c3)) B gt bm (.slice A3 (L.length + 1) c3) (putW L x by_) ∧ Row (w3.setCell ⟨gt, 0, none⟩ (.slice A3 (L.length + 1) c3)) go 41 co (u32s os) ∧ (Value.slice A3 (L.length + 1) c3).ownBlock ≠ some go ∧ Below B w (w3.setCell ⟨gt, 0, none⟩ (.slice A3 (L.length + 1) c3)) from by
          have hsz3 : w2.heap.size ≤ w3.heap.size := Nat.le_trans (by simp) hgrow3.size
          have hset : ∀ q, q ≠ gt → (w3.setCell ⟨gt, 0, none⟩ (.slice A3 (L.length + 1) c3)).heap[q]? = w3.heap[q]? := fun q hq => Below.heap_setCell w3 ⟨gt, 0, none⟩ (.slice A3 (L.length + 1) c3) q hq
          have hmg : bm ≠ gt := HMP.out.ne_blk HBX.out
          have hown3' : w3.ownsRow B 41 1 (.slice A3 (L.length + 1) c3) (L ++ [(x, by_)]).length (u32s (metO (L ++ [(x, by_)]))) := by
            rw [metO_snoc, u32s_app, List.length_append]
            exact hown3
          rw [HN.out]
          refine ⟨⟨HBX3.out.set_ 0 (.slice A3 (L.length + 1) c3), own_keep hown3' (fun q hq => hset q (fun e => own_ne_blk hown3' HBX3.out (by decide) (e ▸ hq))), ?_, HGM.out.1, HGM.out.2, fun y hy => ?_⟩, ?_, ?_, ?_⟩
          · rw [byOf_put HIN.out, metB_put, List.length_append]
            exact HMP.out.same ((hset bm hmg).trans (HG3.out bm HMP.out.lt HNS.out.2))
          · rw [metO_snoc] at hy
            rcases List.mem_append.1 hy with hy | hy
            · exact HMB.out y hy
            · rcases List.mem_singleton.1 hy with rfl
              exact hx32
          · exact HO2.out.same ((hset go (HO2.out.ne_blk HBX.out (by decide))).trans (HG3.out go HO2.out.lt HNE.out))
          · intro e
            rcases hat3 with h | h
            · exact HNE.out (h ▸ e)
            · rw [h] at e
              injection e with e
              have := HO2.out.lt
              simp at e
              omega
          · refine HB2.out.trans ⟨hgrow3.os, hgrow3.tape, hgrow3.output, ?_, fun q hq => ?_⟩
            · simp [World.setCell]; exact hsz3
            · exact (hset q (by have := HGM.out.1; omega)).trans (HG3.out q (by omega) (fun e => by have := (HOW.out.lt q e).1; omega)))
        clear hown3 hgrow3 hat3 HG3 HBX3
        go_wp2_with fail
        go_roundw
        case rel => exact ⟨k + 1, (.slice A3 (L.length + 1) c3), by go_num, by omega, by rw [HS.out]; exact HE.out.1, HE.out.2.1, HE.out.2.2.1, HE.out.2.2.2⟩
        case measure => simp [intOf]; omega
    · obtain rfl : k = os.length := by omega
      have HE := Lib.hid HT.out
      rw [List.take_length] at HE
      clear HT
      go_wp2_with fail
      refine bodyPost_end (v := .tuple #[]) (by simp [results, Tryd.results90, go_sem]) rfl ?_
      exact ⟨rfl, v', HE.out, HB.out⟩
end Go.Proofs.YtblekggklimpeaaDoor

namespace Go.Proofs.YtblekggklimpeaaDoor
open Go.RowKit
attribute [local go_sem] Oper.semAt_some
/-- What walk answers: all that is held, in memory. -/
def WalkP (h : HM) (fr : List Nat) (w : World) (e : Ending) (w' : World) : Prop :=
  ∃ gt bm v, e = .returned (.pointer (some ⟨gt, 0, none⟩)) ∧ TrailAt w' w.heap.size gt bm v (walkM (heldM h) fr) ∧ Below w.heap.size w w'
theorem metO_getD (L : Wk) (i : Nat) : (metO L).getD i 0 = (L.getD i (0, 0)).1 := by
  unfold metO
  rw [List.getD_eq_getElem?_getD, List.getD_eq_getElem?_getD, List.getElem?_map]
  cases L[i]? <;> rfl
theorem metO_mem {L : Wk} {i : Nat} (hi : i < L.length) : (metO L).getD i 0 ∈ metO L := by
  rw [List.getD_eq_getElem?_getD, List.getElem?_eq_getElem (by rw [metO_len]; exact hi)]
  exact List.getElem_mem _
theorem putsW_isB {h : HM} {L : Wk} {os : List Nat} {b : Int} (hL : ∀ o ∈ metO L, h.isB o = true) (ho : ∀ x ∈ os, kindM x = 2 → h.isB x = true) : ∀ o ∈ metO (putsW L os b), h.isB o = true := by
  intro o hm
  rcases putsW_mem.1 hm with h1 | ⟨h1, h2⟩
  · exact hL o h1
  · exact ho o h1 h2
theorem nam_len {h : HM} {l : List Ob} (G : h.Good l) {o : Nat} (hi : h.isB o = true) (held : Bool) : (namM h o held).length ≤ 65536 := by
  have h1 := fields_len G hi
  have h2 := hd_size G hi
  unfold namM heldM namesM
  cases held <;> simp only [List.length_cons, if_true, Bool.false_eq_true, if_false] <;> split <;> (try simp only [List.length_nil]) <;> omega
theorem putsW_filter (L : Wk) (os : List Nat) (b : Int) : putsW L (os.filter k2) b = putsW L os b := putsW_only L os b
section
variable {w : World} {p : HP} {h : HM} {l : List Ob}
set_option maxRecDepth 100000 in
set_option maxHeartbeats 4000000 in
theorem walk_any (H : HAt w p h) (G : h.Good l) (hs : Spares w) {go co : Nat} {os : List Nat} (hO : Row w go 41 co (u32s os)) (hv : ∀ x ∈ os, h.isB x = true) (hol : os.length ≤ 1048576) :
    Calls Tryd.prog 56 #[ptr p.g, .slice (some ⟨go, 0, none⟩) os.length co] w (WalkP h os w) := by
  have HH := Lib.hid (fun (w' : World) (hb : Below w.heap.size w w') => H.below hb)
  have HS := Lib.hid (fun (w' : World) (hb : Below w.heap.size w w') => hs.below hb)
  have HG := Lib.hid G
  have HV := Lib.hid hv
  have hb1 : Below w.heap.size w ((w.alloc (.map #[] 0)).alloc (.cells #[.slice none 0 0, .map (some w.heap.size)] 90)) := ((Below.refl _ w).alloc (Nat.le_refl _) _).alloc (by simp) _
  have hbx := Blk.new (w.alloc (.map #[] 0)) 90 #[.slice none 0 0, .map (some w.heap.size)]
  rw [World.size_alloc] at hbx
  have T0 : TrailAt ((w.alloc (.map #[] 0)).alloc (.cells #[.slice none 0 0, .map (some w.heap.size)] 90)) w.heap.size (w.heap.size + 1) w.heap.size (.slice none 0 0) [] :=
    ⟨hbx, ⟨rfl, .inl ⟨rfl, rfl⟩⟩, (MapE.made w 41 3 .i64).same (Below.heap_alloc _ _ _ (by simp)), by omega, Nat.le_refl _, fun x hx => by simp [metO] at hx⟩
  have HP1 := Lib.hid (tput_any T0 (hO.below hb1) (fun e => by cases e) hb1.size (fun x hx => isB_u32 G (hv x hx)) (fun x hx => isB_kind (hv x hx)) (-1) (by decide) (by simp; omega))
  have HB1 := Lib.hid hb1
  clear hb1 hbx T0 H G hs hv hO
  unfold ptr at HH ⊢
  have hmm := @run_makeMap Tryd.prog
  go_enter Tryd.func56, Tryd.ntmps56
  go_wp2_with fail
  refine wp_scope_jumps 0 (fun a' w' => ∃ (i : Nat) (L : Wk) (v : Value), GoW (heldM h) os i L ∧ TrailAt w' w.heap.size (w.heap.size + 1) w.heap.size v L ∧ (∀ o ∈ metO L, h.isB o = true) ∧ Below w.heap.size w w' ∧ ∃ u7 u8 u9 u10 u11 u12 u13 u14 u15 u16 u17 u18 u19 u20 u21 u22 u23 u24 u25 u26 u27 u28 u29 u30 u31 u32 u33 u34, a' = { tmps := #[.pointer (some ⟨p.g, 0, none⟩), .slice (some ⟨go, 0, none⟩) os.length co, undef, undef, .pointer none, .pointer (some ⟨w.heap.size + 1, 0, none⟩), .int .i64 (i : Int), u7, u8, u9, u10, u11, u12, u13, u14, u15, u16, u17, u18, u19, u20, u21, u22, u23, u24, u25, u26, u27, u28, u29, u30, u31, u32, u33, u34], defers := [] }) (fun a' _ => 4194304 - (intOf (a'.tmps.getD 6 undef)).toNat) rfl ?_ ?_
  · go_wp2_with fail
    refine HP1.out.mono ?_
    rintro e w2 ⟨rfl, v2, h21, h22⟩
    have HT := Lib.hid h21
    have HB := Lib.hid (HB1.out.trans h22)
    have HGO := Lib.hid (GoW.start (heldM h) os)
    have HIS := Lib.hid (show ∀ x ∈ metO (putsW [] os (-1)), h.isB x = true from putsW_isB (fun o ho => by simp [metO] at ho) (fun x hx _ => HV.out x hx))
    clear h21 h22 HP1 HB1
    generalize putsW [] os (-1) = L at *
    generalize v2 = v at *
    go_wp2_with fail
    go_step3
    have HLN := Lib.hid (wk_len HG.out HGO.out.nodup HIS.out)
    by_cases hi : 0 < L.length
    · obtain ⟨gv, cv, hvv, hrv, _, hgv⟩ := Row.of_any HT.out.own (by omega)
      subst hvv
      have hcl := hrv.cell (u32s_get (l := metO L) (i := 0) (by rw [metO_len]; exact hi))
      have hgl := hrv.lt
      have c0 := HT.out.box.cell 0
      have HOI := Lib.hid (HIS.out _ (metO_mem hi))
      have HNX := Lib.hid (HGO.out.next hi HLN.out)
      rw [← metO_getD] at HNX
      have HIN := Lib.hid hi
      have hLl := HLN.out
      generalize (metO L).getD 0 0 = o at *
      have HNM := Lib.hid (named_any (HH.out w2 HB.out) HG.out (HS.out w2 HB.out) HOI.out true)
      have hnl := nam_len HG.out HOI.out true
      have hsz := HB.out.size
      unfold ptr at HNM
      clear hrv hi
      go_wp2_with fail
      refine HNM.out.mono ?_
      rintro e w5 ⟨g5, c5, rfl, h51, h52, h53⟩
      have h32 := nam_32 HG.out HOI.out true
      have HPT := Lib.hid (tput_any (HT.out.below h53) h52 (fun e => by have : gv = g5 := Option.some.inj e; omega) (Nat.le_trans hsz h53.size) (fun x hx => h32 x (List.mem_filter.1 hx).1) (fun x hx => by have := (List.mem_filter.1 hx).2; unfold k2 at this; simpa using this) 0 (by decide) (by have := List.length_filter_le k2 (namM h o true); omega))
      rw [putsW_filter] at HPT
      have HB5 := Lib.hid (HB.out.trans (h53.mono hsz))
      clear h51 h52 h53 h32 HNM hcl c0 HT HB
      go_wp2_with fail
      refine HPT.out.mono ?_
      rintro e w6 ⟨rfl, v6, h61, h62⟩
      have H61 := Lib.hid (show TrailAt w6 w.heap.size (w.heap.size + 1) w.heap.size v6 (putsW L (heldM h o) 0) from h61)
      have HB6 := Lib.hid (HB5.out.trans h62)
      have HIS6 := Lib.hid (show ∀ x ∈ metO (putsW L (heldM h o) 0), h.isB x = true from putsW_isB HIS.out (fun x hx hk => names_isB HG.out HOI.out (held_names hx) hk))
      clear h61 h62 HPT HB5 HIS hgl hgv
      go_wp2_with fail
      go_step3
      refine ⟨rfl, 1, _, v6, HNX.out, H61.out, HIS6.out, HB6.out, _, _, _, _, _, _, _, _, _, _, _, _, _, _, _, _, _, _, _, _, _, _, _, _, _, _, _, _, rfl⟩
    · have HD := Lib.hid (HGO.out.done hi HLN.out)
      obtain ⟨Av, cv, hvv⟩ := own_val HT.out.own
      subst hvv
      have c0 := HT.out.box.cell 0
      go_wp2_with fail
      try simp only [Exit.jump]
      go_ret
      exact ⟨_, _, _, rfl, by rw [HD.out]; exact HT.out, HB.out⟩
  · rintro a' wr ⟨i, L, v, hgo, ht, his, hb, u7, u8, u9, u10, u11, u12, u13, u14, u15, u16, u17, u18, u19, u20, u21, u22, u23, u24, u25, u26, u27, u28, u29, u30, u31, u32, u33, u34, rfl⟩
    have HT := Lib.hid ht
    have HB := Lib.hid hb
    have HGO := Lib.hid hgo
    have HIS := Lib.hid his
    clear hgo ht his hb HP1 HB1 HV
    have HLN := Lib.hid (wk_len HG.out HGO.out.nodup HIS.out)
    by_cases hi : i < L.length
    · obtain ⟨gv, cv, hvv, hrv, _, hgv⟩ := Row.of_any HT.out.own (by omega)
      subst hvv
      have hcl := hrv.cell (u32s_get (l := metO L) (i := i) (by rw [metO_len]; exact hi))
      have hgl := hrv.lt
      have c0 := HT.out.box.cell 0
      have HOI := Lib.hid (HIS.out _ (metO_mem hi))
      have HNX := Lib.hid (HGO.out.next hi HLN.out)
      rw [← metO_getD] at HNX
      have HIN := Lib.hid hi
      have hLl := HLN.out
      generalize (metO L).getD i 0 = o at *
      have HNM := Lib.hid (named_any (HH.out wr HB.out) HG.out (HS.out wr HB.out) HOI.out true)
      have hnl := nam_len HG.out HOI.out true
      have hsz := HB.out.size
      unfold ptr at HNM
      clear hrv hi
      go_wp2_with fail
      refine HNM.out.mono ?_
      rintro e w5 ⟨g5, c5, rfl, h51, h52, h53⟩
      have h32 := nam_32 HG.out HOI.out true
      have HPT := Lib.hid (tput_any (HT.out.below h53) h52 (fun e => by have : gv = g5 := Option.some.inj e; omega) (Nat.le_trans hsz h53.size) (fun x hx => h32 x (List.mem_filter.1 hx).1) (fun x hx => by have := (List.mem_filter.1 hx).2; unfold k2 at this; simpa using this) (i : Int) (wf_i64 (by omega)) (by have := List.length_filter_le k2 (namM h o true); omega))
      rw [putsW_filter] at HPT
      have HB5 := Lib.hid (HB.out.trans (h53.mono hsz))
      clear h51 h52 h53 h32 HNM hcl c0 HT HB
      go_wp2_with fail
      refine HPT.out.mono ?_
      rintro e w6 ⟨rfl, v6, h61, h62⟩
      have H61 := Lib.hid (show TrailAt w6 w.heap.size (w.heap.size + 1) w.heap.size v6 (putsW L (heldM h o) (i : Int)) from h61)
      have HB6 := Lib.hid (HB5.out.trans h62)
      have HIS6 := Lib.hid (show ∀ x ∈ metO (putsW L (heldM h o) (i : Int)), h.isB x = true from putsW_isB HIS.out (fun x hx hk => names_isB HG.out HOI.out (held_names hx) hk))
      clear h61 h62 HPT HB5 HIS hgl hgv
      go_wp2_with fail
      go_step3
      refine ⟨rfl, ⟨i + 1, _, v6, HNX.out, H61.out, HIS6.out, HB6.out, _, _, _, _, _, _, _, _, _, _, _, _, _, _, _, _, _, _, _, _, _, _, _, _, _, _, _, _, rfl⟩, ?_⟩
      have h1 := HIN.out
      have h2 := HLN.out
      show 4194304 - (((i + 1 : Nat) : Int)).toNat < 4194304 - ((i : Nat) : Int).toNat
      omega
    · have HD := Lib.hid (HGO.out.done hi HLN.out)
      obtain ⟨Av, cv, hvv⟩ := own_val HT.out.own
      subst hvv
      have c0 := HT.out.box.cell 0
      go_wp2_with fail
      try simp only [Exit.jump]
      go_ret
      exact ⟨_, _, _, rfl, by rw [HD.out]; exact HT.out, HB.out⟩
end
end Go.Proofs.YtblekggklimpeaaDoor

namespace Go.Proofs.YtblekggklimpeaaDoor
open Go.RowKit
attribute [local go_sem] Oper.semAt_some

theorem all_any (g : Nat) (w : World) : Calls Tryd.prog 63 #[ptr g] w fun e w' => e = .returned (.func (.func 97) #[] #[.pointer (some ⟨w.heap.size, 0, none⟩)]) ∧ w' = w.alloc (.cells #[ptr g] 27) := by
  unfold ptr
  go_enter Tryd.func63, Tryd.ntmps63
  go_wp2_with fail
  go_ret
  exact ⟨rfl, rfl⟩

/-- The first object with a serial; 0: there is none. -/
def findN (l : List Ob) (s : Nat) : Nat := oopI l (l.findIdx (fun b => b.x.ser == s))
theorem find_done {l : List Ob} {s : Nat} (h : ∀ y : Fin l.length, (l[y.1]'y.2).x.ser ≠ s) : findN l s = 0 := by
  unfold findN oopI
  have : l.findIdx (fun b => b.x.ser == s) = l.length := by
    rw [List.findIdx_eq_length]
    intro b hb
    obtain ⟨i, hi, rfl⟩ := List.getElem_of_mem hb
    simpa using h ⟨i, hi⟩
  rw [this, if_neg (by omega)]
theorem find_stop {l : List Ob} {s : Nat} {q : List (Fin l.length)} {y : Fin l.length} (hp : q ++ [y] <+: List.finRange l.length) (hq : ∀ z ∈ q, (l[z.1]'z.2).x.ser ≠ s) (hy : (l[y.1]'y.2).x.ser = s) : findN l s = 2 * posOf (l.take y.1) := by
  obtain ⟨r, hr⟩ := hp
  have hlen : q.length < l.length := by have := congrArg List.length hr; simp at this; omega
  have hyq : y = ⟨q.length, hlen⟩ := by
    have h1 : (q ++ [y] ++ r)[q.length]? = some y := by simp
    rw [hr, List.getElem?_eq_getElem (by simpa using hlen)] at h1
    simp at h1
    exact h1.symm
  have hz : ∀ j (hj : j < q.length), (l[j]'(by omega)).x.ser ≠ s := by
    intro j hj
    have h1 : (q ++ [y] ++ r)[j]? = some q[j] := by simp [List.getElem?_append, hj]
    rw [hr, List.getElem?_eq_getElem (by simp; omega)] at h1
    simp at h1
    have := hq q[j] (List.getElem_mem hj)
    rw [← h1] at this
    exact this
  subst hyq
  unfold findN oopI
  have : l.findIdx (fun b => b.x.ser == s) = q.length := by
    rw [List.findIdx_eq hlen]
    exact ⟨by simpa using hy, fun j hj => by simpa using hz j hj⟩
  rw [this, if_pos hlen]

end Go.Proofs.YtblekggklimpeaaDoor

namespace Go.Proofs.YtblekggklimpeaaDoor
open Go.RowKit
/-- What a list of pairs makes of an oop. -/
def renO (pl : List (Nat × Nat)) (o : Nat) : Nat := match pl.find? (fun p => p.1 == o) with | some p => p.2 | none => o
def ren (r : Nat → Nat) (b : Ob) : Ob := ⟨{ b.x with cls := r b.x.cls }, if b.x.ptrB then b.fs.map r else b.fs⟩
def renH (r : Nat → Nat) (h : HM) (l : List Ob) : HM := { h with words := 0 :: wsOf (l.map (ren r)), roots := h.roots.map r }
/-- One object's turn: its class from what was told of it, its fields from what lies there. -/
def stepB (r : Nat → Nat) (c : Nat) (b : Ob) : Ob := ⟨{ b.x with cls := r c }, if b.x.ptrB then b.fs.map r else b.fs⟩
def stepL (r : Nat → Nat) (l : List Ob) (L : List Ob) (x : Fin l.length) : List Ob := L.set x.1 (stepB r (l[x.1]'x.2).x.cls (L.getD x.1 (l[x.1]'x.2)))
def rensL (r : Nat → Nat) (l : List Ob) (pre : List (Fin l.length)) : List Ob := pre.foldl (stepL r l) l
theorem rensL_snoc (r : Nat → Nat) (l : List Ob) (pre : List (Fin l.length)) (x : Fin l.length) : rensL r l (pre ++ [x]) = stepL r l (rensL r l pre) x := by
  unfold rensL
  rw [List.foldl_append]
  rfl
def shp (b : Ob) : Hd × Nat := ({ b.x with cls := 0 }, b.fs.length)
theorem shp_step (r : Nat → Nat) (c : Nat) (b : Ob) : shp (stepB r c b) = shp b := by
  unfold shp stepB
  simp only [Prod.mk.injEq, true_and]
  split <;> simp
theorem map_set_same {α β : Type} (g : α → β) (L : List α) (i : Nat) (v : α) (h : ∀ b, L[i]? = some b → g v = g b) : (L.set i v).map g = L.map g := by
  apply List.ext_getElem?
  intro j
  rw [List.getElem?_map, List.getElem?_map, List.getElem?_set]
  by_cases hj : i = j
  · subst hj
    rw [if_pos rfl]
    by_cases hl : i < L.length
    · rw [if_pos hl]
      rw [List.getElem?_eq_getElem hl]
      show some (g v) = some (g L[i])
      rw [h _ (List.getElem?_eq_getElem hl)]
    · rw [if_neg hl, List.getElem?_eq_none (by omega)]
  · rw [if_neg hj]
theorem stepL_shp (r : Nat → Nat) (l L : List Ob) (x : Fin l.length) : (stepL r l L x).map shp = L.map shp := by
  unfold stepL
  refine map_set_same shp L _ _ fun b hb => ?_
  rw [List.getD_eq_getElem?_getD, hb, Option.getD_some, shp_step]
theorem rensL_shp (r : Nat → Nat) (l : List Ob) (pre : List (Fin l.length)) : (rensL r l pre).map shp = l.map shp := by
  unfold rensL
  suffices ∀ L, L.map shp = l.map shp → (pre.foldl (stepL r l) L).map shp = l.map shp from this l rfl
  induction pre with
  | nil => exact fun L h => h
  | cons x pre ih => exact fun L h => ih _ ((stepL_shp r l L x).trans h)
theorem wsOf_shp : ∀ {L l : List Ob}, L.map shp = l.map shp → (wsOf L).length = (wsOf l).length
  | [], [], _ => rfl
  | [], _ :: _, h => by simp at h
  | _ :: _, [], h => by simp at h
  | b :: L, c :: l, h => by
    rw [List.map_cons, List.map_cons, List.cons.injEq] at h
    rw [wsOf_cons, wsOf_cons, List.length_append, List.length_append, b.ws_len, c.ws_len, wsOf_shp h.2]
    have := congrArg Prod.snd h.1
    unfold shp at this
    simp only at this
    omega
theorem posOf_shp {L l : List Ob} (h : L.map shp = l.map shp) (i : Nat) : posOf (L.take i) = posOf (l.take i) := by
  unfold posOf
  rw [wsOf_shp (L := L.take i) (l := l.take i) (by rw [List.map_take, List.map_take, h])]
theorem len_shp {L l : List Ob} (h : L.map shp = l.map shp) : L.length = l.length := by
  have := congrArg List.length h
  rwa [List.length_map, List.length_map] at this
theorem at_shp {L l : List Ob} (h : L.map shp = l.map shp) {i : Nat} (hi : i < L.length) (hj : i < l.length) : shp L[i] = shp l[i] := by
  have h1 : (L.map shp)[i]? = (l.map shp)[i]? := by rw [h]
  rw [List.getElem?_map, List.getElem?_map, List.getElem?_eq_getElem hi, List.getElem?_eq_getElem hj] at h1
  exact Option.some.inj h1
theorem set_mid' {L : List Ob} {i : Nat} (hi : i < L.length) (v : Ob) : L.set i v = L.take i ++ v :: L.drop (i + 1) := by
  apply List.ext_getElem?
  intro j
  rw [List.getElem?_set, List.getElem?_append]
  have hl : (L.take i).length = i := by rw [List.length_take]; omega
  rw [hl]
  by_cases h1 : i = j
  · subst h1
    rw [if_pos rfl, if_pos hi, if_neg (by omega), Nat.sub_self]
    rfl
  · rw [if_neg h1]
    by_cases h2 : j < i
    · rw [if_pos h2, List.getElem?_take, if_pos h2]
    · rw [if_neg h2]
      obtain ⟨m, rfl⟩ : ∃ m, j = i + 1 + m := ⟨j - (i + 1), by omega⟩
      rw [show i + 1 + m - i = m + 1 by omega, List.getElem?_cons_succ, List.getElem?_drop]
theorem rens_take (r : Nat → Nat) (l : List Ob) : ∀ k, k ≤ l.length → rensL r l ((List.finRange l.length).take k) = (l.take k).map (ren r) ++ l.drop k
  | 0, _ => by simp [rensL]
  | k + 1, hk => by
    have hk' : k < l.length := by omega
    have hf : (List.finRange l.length).take (k + 1) = (List.finRange l.length).take k ++ [⟨k, hk'⟩] := by
      rw [List.take_add_one, List.getElem?_eq_getElem (by simpa using hk')]
      simp
    rw [hf, rensL_snoc, rens_take r l k (by omega)]
    have hlen : ((l.take k).map (ren r)).length = k := by rw [List.length_map, List.length_take]; omega
    have hd : l.drop k = l[k] :: l.drop (k + 1) := by rw [List.getElem_cons_drop]
    unfold stepL
    simp only
    have hg : ((l.take k).map (ren r) ++ l.drop k).getD k l[k] = l[k] := by
      rw [List.getD_eq_getElem?_getD, List.getElem?_append_right (by omega), hlen, Nat.sub_self, hd]
      rfl
    rw [hg]
    have hs : ((l.take k).map (ren r) ++ l.drop k).set k (stepB r l[k].x.cls l[k]) = (l.take k).map (ren r) ++ (stepB r l[k].x.cls l[k] :: l.drop (k + 1)) := by
      rw [List.set_append_right _ _ (by omega), hlen, Nat.sub_self, hd]
      rfl
    rw [hs, List.take_add_one, List.getElem?_eq_getElem hk', List.map_append, List.append_assoc]
    rfl
theorem rens_all (r : Nat → Nat) (l : List Ob) : rensL r l (List.finRange l.length) = l.map (ren r) := by
  have h := rens_take r l l.length (Nat.le_refl _)
  rw [List.take_of_length_le (by simp), List.take_of_length_le (Nat.le_refl _), List.drop_of_length_le (Nat.le_refl _), List.append_nil] at h
  exact h
/-- What renaming may do to a heap's names. -/
structure RenOk (h : HM) (r : Nat → Nat) : Prop where
  lt : ∀ o, o < 4294967296 → r o < 4294967296
  cls : ∀ o, h.clsB o = true → h.clsB (r o) = true
  val : ∀ o, h.valB o = true → h.valB (r o) = true
theorem RenOk.same {h h' : HM} {r : Nat → Nat} (R : RenOk h r) (hs : h'.starts = h.starts) : RenOk h' r :=
  ⟨R.lt, fun o => by rw [HM.clsB_same hs, HM.clsB_same hs]; exact R.cls o, fun o => by rw [HM.valB_same hs, HM.valB_same hs]; exact R.val o⟩
/-- The heap under way. -/
structure RenSt (r : Nat → Nat) (h : HM) (l : List Ob) (L : List Ob) (hk : HM) : Prop where
  good : hk.Good L
  same_ : L.map shp = l.map shp
  size : hk.size = h.size
  last : hk.last = h.last
  starts : hk.starts = h.starts
theorem RenSt.start {r : Nat → Nat} {h : HM} {l : List Ob} (G : h.Good l) : RenSt r h l l h := ⟨G, rfl, rfl, rfl, rfl⟩
theorem RenSt.fin {r : Nat → Nat} {h hk : HM} {l : List Ob} (R : RenSt r h l (l.map (ren r)) hk) (hr : hk.roots = h.roots.map r) : hk = renH r h l := by
  have hw := R.good.laid.words
  have h1 := R.size
  have h2 := R.last
  have h3 := R.starts
  cases hk
  unfold renH
  simp only at hw hr h1 h2 h3
  subst hw hr h1 h2 h3
  rfl
end Go.Proofs.YtblekggklimpeaaDoor

namespace Go.Proofs.YtblekggklimpeaaDoor
open Go.RowKit
section
variable {r : Nat → Nat} {h hk : HM} {l L : List Ob}
theorem good_at (G : h.Good l) {x : Nat} (hx : x < l.length) : h.Good (l.take x ++ l[x] :: l.drop (x + 1)) := by rw [← split_at l x hx]; exact G
theorem RenSt.isB (S : RenSt r h l L hk) {x : Nat} (hx : x < L.length) : hk.isB (2 * posOf (l.take x)) = true := by
  rw [← posOf_shp S.same_ x]; exact isB_at S.good x hx
theorem RenSt.hd (S : RenSt r h l L hk) {x : Nat} (hx : x < L.length) : hk.hd (posOf (l.take x)) = (L[x]).x := by
  rw [← posOf_shp S.same_ x]; exact hd_at' S.good x hx
theorem RenSt.flds (S : RenSt r h l L hk) {x : Nat} (hx : x < L.length) : hk.fields (2 * posOf (l.take x)) = (L[x]).fs := by
  rw [← posOf_shp S.same_ x]
  exact (good_at S.good hx).laid.fields_at
theorem RenSt.setCls (S : RenSt r h l L hk) {x : Nat} (hx : x < L.length) {c : Nat} (h32 : c < 4294967296) (hc : hk.clsB c = true) :
    hk.setClassE (2 * posOf (l.take x)) c = 0 ∧ RenSt r h l (L.set x ⟨{ (L[x]).x with cls := c }, (L[x]).fs⟩) (hk.setClassH (2 * posOf (l.take x)) c) ∧ (hk.setClassH (2 * posOf (l.take x)) c).roots = hk.roots := by
  have hE : hk.setClassE (2 * posOf (l.take x)) c = 0 := by
    unfold HM.setClassE
    rw [S.isB hx, hc]
    rfl
  have hH : hk.setClassH (2 * posOf (l.take x)) c = { hk with words := hk.words.set (posOf (l.take x) + 1) c } := by
    unfold HM.setClassH
    rw [if_pos hE, half_pos]
  rw [hH]
  refine ⟨hE, ⟨?_, ?_, S.size, S.last, S.starts⟩, rfl⟩
  · have G := (good_at S.good hx).setCls c h32 hc
    rw [posOf_shp S.same_ x] at G
    rw [set_mid' hx]
    exact G
  · refine (map_set_same shp L x _ fun b hb => ?_).trans S.same_
    rw [List.getElem?_eq_getElem hx] at hb
    injection hb with hb
    subst hb
    rfl
theorem RenSt.field (S : RenSt r h l L hk) {x : Nat} (hx : x < L.length) (hp : (L[x]).x.ptrB = true) {j : Nat} (hj : j < (L[x]).fs.length) : (L[x]).fs[j] < 4294967296 ∧ hk.valB (L[x]).fs[j] = true :=
  ⟨(S.good.laid.ok _ (List.getElem_mem hx)).f32 _ (List.getElem_mem hj), S.good.sound.flds _ (List.getElem_mem hx) hp _ (List.getElem_mem hj)⟩
theorem RenSt.put (S : RenSt r h l L hk) {x : Nat} (hx : x < L.length) (hp : (L[x]).x.ptrB = true) {j : Nat} (hj : j < (L[x]).fs.length) {v : Nat} (h32 : v < 4294967296) (hv : hk.valB v = true) :
    hk.putE (2 * posOf (l.take x)) (j : Int) v = 0 ∧ RenSt r h l (L.set x ⟨(L[x]).x, (L[x]).fs.set j v⟩) (hk.putH (2 * posOf (l.take x)) (j : Int) v) ∧ (hk.putH (2 * posOf (l.take x)) (j : Int) v).roots = hk.roots := by
  have hok := S.good.laid.ok _ (List.getElem_mem hx)
  have hf : (L[x]).x.fmt = 1 ∨ (L[x]).x.fmt = 4 := by
    unfold Hd.ptrB at hp
    simpa using hp
  have hlen : (L[x]).x.len = (L[x]).x.size := by unfold Hd.len; rw [if_neg (by omega)]
  have hE : hk.putE (2 * posOf (l.take x)) (j : Int) v = 0 := by
    have h2 : [1, 4].contains (L[x]).x.fmt = true := by rcases hf with e | e <;> rw [e] <;> decide
    have hlk : hk.lookE (2 * posOf (l.take x)) (j : Int) [1, 4] = 0 := by
      unfold HM.lookE
      rw [S.isB hx, half_pos, S.hd hx, if_neg (by simp), h2, if_neg (by simp), hlen, if_neg (by have := hok.size; omega)]
    unfold HM.putE
    rw [if_pos hlk, if_pos hv]
  have hH : hk.putH (2 * posOf (l.take x)) (j : Int) v = hk.setF (2 * posOf (l.take x)) j v := by
    unfold HM.putH
    rw [if_pos hE, Int.toNat_natCast]
  rw [hH]
  refine ⟨hE, ⟨?_, ?_, S.size, S.last, S.starts⟩, rfl⟩
  · have G := (good_at S.good hx).setF j v hj h32 (fun _ => hv) (fun e => by omega)
    rw [posOf_shp S.same_ x] at G
    rw [set_mid' hx]
    exact G
  · refine (map_set_same shp L x _ fun b hb => ?_).trans S.same_
    rw [List.getElem?_eq_getElem hx] at hb
    injection hb with hb
    subst hb
    simp [shp]
theorem take_map_set (r : Nat → Nat) (fs : List Nat) {j : Nat} (hj : j < fs.length) : ((fs.take j).map r ++ fs.drop j).set j (r fs[j]) = (fs.take (j + 1)).map r ++ fs.drop (j + 1) := by
  have hlen : ((fs.take j).map r).length = j := by rw [List.length_map, List.length_take]; omega
  rw [List.set_append_right _ _ (by omega), hlen, Nat.sub_self, ← List.getElem_cons_drop (h := hj), List.take_add_one, List.getElem?_eq_getElem hj, List.map_append, List.append_assoc]
  rfl
theorem take_map_get (r : Nat → Nat) (fs : List Nat) {j : Nat} (hj : j < fs.length) : ∃ h : j < ((fs.take j).map r ++ fs.drop j).length, ((fs.take j).map r ++ fs.drop j)[j] = fs[j] := by
  have hlen : ((fs.take j).map r).length = j := by rw [List.length_map, List.length_take]; omega
  refine ⟨by rw [List.length_append, hlen, List.length_drop]; omega, ?_⟩
  rw [List.getElem_append_right (by omega)]
  simp only [hlen, Nat.sub_self, List.getElem_drop]
  rfl
/-- One field's turn. -/
theorem RenSt.step {X : Hd} {fs : List Nat} {x j : Nat} (hx : x < L.length) (S : RenSt r h l (L.set x ⟨X, (fs.take j).map r ++ fs.drop j⟩) hk) (hp : X.ptrB = true) (hj : j < fs.length) (R : RenOk h r) :
    hk.isB (2 * posOf (l.take x)) = true ∧ (hk.hd (2 * posOf (l.take x) / 2)).ptrB = true ∧ j < (hk.fields (2 * posOf (l.take x))).length ∧ (hk.fields (2 * posOf (l.take x))).getD j 0 = fs[j] ∧ fs[j] < 4294967296 ∧ r fs[j] < 4294967296 ∧
    hk.putE (2 * posOf (l.take x)) (j : Int) (r fs[j]) = 0 ∧ RenSt r h l (L.set x ⟨X, (fs.take (j + 1)).map r ++ fs.drop (j + 1)⟩) (hk.putH (2 * posOf (l.take x)) (j : Int) (r fs[j])) ∧ (hk.putH (2 * posOf (l.take x)) (j : Int) (r fs[j])).roots = hk.roots := by
  have hx' : x < (L.set x ⟨X, (fs.take j).map r ++ fs.drop j⟩).length := by rw [List.length_set]; exact hx
  have he : (L.set x ⟨X, (fs.take j).map r ++ fs.drop j⟩)[x] = ⟨X, (fs.take j).map r ++ fs.drop j⟩ := List.getElem_set_self (by rw [List.length_set]; exact hx)
  obtain ⟨hl, hg⟩ := take_map_get r fs hj
  have hpx : ((L.set x ⟨X, (fs.take j).map r ++ fs.drop j⟩)[x]).x.ptrB = true := by rw [he]; exact hp
  have hjx : j < ((L.set x ⟨X, (fs.take j).map r ++ fs.drop j⟩)[x]).fs.length := by rw [he]; exact hl
  have hF := S.field hx' hpx hjx
  have hfe : ((L.set x ⟨X, (fs.take j).map r ++ fs.drop j⟩)[x]).fs[j] = fs[j] := by
    simp only [he]
    exact hg
  rw [hfe] at hF
  have R' := R.same S.starts
  obtain ⟨e1, e2, e3⟩ := S.put hx' hpx hjx (R'.lt _ hF.1) (R'.val _ hF.2)
  refine ⟨S.isB hx', by rw [half_pos, S.hd hx']; exact hpx, by rw [S.flds hx']; exact hjx, ?_, hF.1, R'.lt _ hF.1, e1, ?_, e3⟩
  · rw [S.flds hx', List.getD_eq_getElem?_getD, List.getElem?_eq_getElem hjx]
    exact hfe
  · simp only [he, List.set_set, take_map_set r fs hj] at e2
    exact e2
theorem RenSt.root (S : RenSt r h l L hk) {i v : Nat} (hi : i < 64) (h32 : v < 4294967296) (hv : hk.valB v = true) :
    hk.setRootE (i : Int) v = 0 ∧ RenSt r h l L (hk.setRootH (i : Int) v) ∧ (hk.setRootH (i : Int) v).roots = hk.roots.set i v := by
  have hE : hk.setRootE (i : Int) v = 0 := by
    unfold HM.setRootE rootOk
    rw [if_pos (by simp; omega), if_pos hv]
  have hH : hk.setRootH (i : Int) v = { hk with roots := hk.roots.set i v } := by
    unfold HM.setRootH
    rw [if_pos hE, Int.toNat_natCast]
  rw [hH]
  exact ⟨hE, ⟨S.good.setRoot i v h32 hv, S.same_, S.size, S.last, S.starts⟩, rfl⟩
end
end Go.Proofs.YtblekggklimpeaaDoor

namespace Go.Proofs.YtblekggklimpeaaDoor
open Go.RowKit
attribute [local go_sem] Oper.semAt_some
def MapR (w : World) (mb n : Nat) (pl : List (Nat × Nat)) : Prop := MapE 41 41 .u32 w mb n (fun x => (goesM pl x : Nat)) (fun x => decide (x ∈ pl.map (·.1)))
theorem renO_yes {pl : List (Nat × Nat)} {o : Nat} (h : o ∈ pl.map (·.1)) : renO pl o = goesM pl o := by
  unfold renO goesM
  cases hf : pl.find? (fun p => p.1 == o) with
  | some p => rfl
  | none =>
    rw [List.find?_eq_none] at hf
    obtain ⟨q, hq, rfl⟩ := List.mem_map.1 h
    exact absurd (by simp) (hf q hq)
theorem renO_no {pl : List (Nat × Nat)} {o : Nat} (h : o ∉ pl.map (·.1)) : renO pl o = o := by
  unfold renO
  have hf : pl.find? (fun p => p.1 == o) = none := by
    rw [List.find?_eq_none]
    intro q hq he
    exact h (List.mem_map.2 ⟨q, hq, by simpa using he⟩)
  rw [hf]
theorem ren1_any {w : World} {bx mb n : Nat} {pl : List (Nat × Nat)} (hb : Blk w bx 101 #[.map (some mb)]) (M : MapR w mb n pl) {o : Nat} (ho : o < 4294967296) :
    Calls Tryd.prog 109 #[.int .u32 o, .pointer (some ⟨bx, 0, none⟩)] w (fun e w' => e = .returned (.int .u32 (renO pl o : Nat)) ∧ w = w') := by
  have c0 := hb.cell 0
  have hlk := M.look_ok tyOO ho
  by_cases hm : o ∈ pl.map (·.1)
  · have HR := Lib.hid (renO_yes hm)
    rw [decide_eq_true hm] at hlk
    clear M hm
    generalize goesM pl o = y at *
    go_enter Tryd.func109, Tryd.ntmps109
    go_wp2_with fail
    go_ret
    exact ⟨by rw [HR.out]; rfl, rfl⟩
  · have HR := Lib.hid (renO_no hm)
    rw [decide_eq_false hm] at hlk
    clear M hm
    generalize (goesM pl o : Int) = y at *
    go_enter Tryd.func109, Tryd.ntmps109
    go_wp2_with fail
    go_ret
    exact ⟨by rw [HR.out]; rfl, rfl⟩
end Go.Proofs.YtblekggklimpeaaDoor

namespace Go.Proofs.YtblekggklimpeaaDoor
open Go.RowKit
attribute [local go_sem] Oper.semAt_some
theorem HAt.safe {w w' : World} {p : HP} {h : HM} (H : HAt w p h) (hk : ∀ j cs t fr, p.has j → w.heap[j]? = some (.cells cs t fr) → w'.heap[j]? = some (.cells cs t fr)) : HAt w' p h := by
  obtain ⟨h0, ⟨c1, h1, r1⟩, ⟨c2, h2, r2⟩, ⟨c3, h3, r3⟩⟩ := H
  exact ⟨hk _ _ _ _ (.inl rfl) h0, ⟨c1, hk _ _ _ _ (.inr (.inl rfl)) h1, r1⟩, ⟨c2, hk _ _ _ _ (.inr (.inr (.inl rfl))) h2, r2⟩, ⟨c3, hk _ _ _ _ (.inr (.inr (.inr rfl))) h3, r3⟩⟩
theorem Spares.safe {w w' : World} (hs : Spares w) (hk : ∀ cs t fr, w.heap[0]? = some (.cells cs t fr) → w'.heap[0]? = some (.cells cs t fr)) : Spares w' := fun i hi => by
  have hc := hs i hi
  cases ho : w.heap[0]? with
  | none => simp [World.cell?, ho] at hc
  | some ob =>
    cases ob with
    | cells cs t fr => exact (World.cell?_of_block (a := ⟨0, i, none⟩) ((hk cs t fr ho).trans ho.symm)).trans hc
    | _ => simp [World.cell?, ho] at hc
theorem hat_safe {w w' : World} {p : HP} {h : HM} {X : Prop} {Safe : Nat → Prop} (H : HAt w p h) (hs : Spares w) (hk : ∀ j cs t fr, (p.has j ∨ j = 0) → w.heap[j]? = some (.cells cs t fr) → w'.heap[j]? = some (.cells cs t fr) ∧ Safe j) (hx : X) :
    HAt w' p h ∧ Spares w' ∧ X ∧ ∀ j, (p.has j ∨ j = 0) → Safe j := by
  refine ⟨H.safe fun j cs t fr hj hh => (hk j cs t fr (.inl hj) hh).1, hs.safe fun cs t fr hh => (hk _ cs t fr (.inr rfl) hh).1, hx, fun j hj => ?_⟩
  have hcell : ∃ cs t fr, w.heap[j]? = some (.cells cs t fr) := by
    obtain ⟨h0, ⟨c1, h1, r1⟩, ⟨c2, h2, r2⟩, ⟨c3, h3, r3⟩⟩ := H
    rcases hj with (rfl | rfl | rfl | rfl) | rfl
    · exact ⟨_, _, _, h0⟩
    · exact ⟨_, _, _, h1⟩
    · exact ⟨_, _, _, h2⟩
    · exact ⟨_, _, _, h3⟩
    · have hc := hs 0 (by omega)
      cases ho : w.heap[0]? with
      | none => simp [World.cell?, ho] at hc
      | some ob =>
        cases ob with
        | cells cs t fr => exact ⟨_, _, _, rfl⟩
        | _ => simp [World.cell?, ho] at hc
  obtain ⟨cs, t, fr, hh⟩ := hcell
  exact (hk j cs t fr hj hh).2

set_option maxRecDepth 100000 in
set_option maxHeartbeats 4000000 in
/-- All hands out the objects as they lie, whatever the body does that keeps the blocks that are safe. -/
theorem all_stopsG {w : World} {p : HP} {h : HM} {l : List Ob} (H : HAt w p h) (G : h.Good l) (hs : Spares w) (n Bh : Nat) (hbox : w.cell? ⟨Bh, 0, none⟩ = some (ptr p.g)) (Kp : World → World → Prop) (Safe : World → Nat → Prop)
    (hsafe : ∀ A B k cs t fr, Kp A B → Safe A k → A.heap[k]? = some (.cells cs t fr) → B.heap[k]? = some (.cells cs t fr) ∧ Safe B k)
    (hbel : ∀ A B k, Below A.heap.size A B → Safe A k → Safe B k)
    (hnw : ∀ W W1 k, Below w.heap.size w W → Below W.heap.size W W1 → W.heap.size ≤ k → Safe W1 k) (hsp : ∀ W, Below w.heap.size w W → Safe W 0) :
    SeqStopsK Fence.wide n Tryd.prog 97 #[.pointer (some ⟨Bh, 0, none⟩)] (allV l) Kp (fun xs => xs = List.finRange l.length) (fun pre => pre <+: List.finRange l.length) l.length w :=
  fun lp J Jx W hW hJ hJx hY h0 => by
  have hBh := World.block_lt_of_cell? _ _ hbox
  have HW := H.below hW
  have hbW : W.cell? ⟨Bh, 0, none⟩ = some (ptr p.g) := (hW.cell (p := ⟨Bh, 0, none⟩) hBh).trans hbox
  have HC := Lib.hid (Clone_any HW G.fit)
  have HsW := hs.below hW
  refine callsIn_of_wp Tryd.func97 rfl trivial ?_ rfl
  simp only [Tryd.ntmps97, List.size_toArray, List.length_cons, List.length_nil, Nat.reduceAdd, Nat.reduceSub, Array.replicate_succ, Array.replicate_zero, List.push_toArray, List.append_toArray, List.nil_append, List.cons_append]
  unfold ptr at hbW HC
  have HY := Lib.hid hY
  have HJ := Lib.hid (show ∀ s A B, J s A → Below A.heap.size A B → J s B from fun s A B hs hb => hJ s A B none hs ⟨hb.os, hb.tape, hb.output, hb.size, fun k hk _ => hb.block k hk⟩ (fun r e => by cases e))
  have HJ0 := Lib.hid h0
  have HWD := Lib.hid hW
  clear hY hJ hJx h0 hW
  gi_wp2_with fail
  refine ⟨trivial, fun hh => (by cases hh), (callsIn_wide.2 HC.out).mono ?_⟩
  rintro e W1 ⟨pc, rfl, Hc, hnew, hb1⟩
  have HJ1 := HJ.out _ _ _ HJ0.out hb1
  have Hs1 := HsW.below hb1
  have HSF := Lib.hid (show ∀ j, (pc.has j ∨ j = 0) → Safe W1 j from fun j hj => hj.elim (fun h1 => hnw W W1 j HWD.out hb1 (hnew j h1)) (fun h1 => by rw [h1]; exact hbel W W1 _ hb1 (hsp W HWD.out)))
  have HBL := Lib.hid hbel
  have HSA := Lib.hid hsafe
  clear hbel hsafe hnw hsp
  have HF := Lib.hid (first_any Hc G.fit)
  rw [first_oopI G] at HF
  unfold ptr at HF
  clear hbW hnew
  gi_wp2_with fail
  refine ⟨trivial, fun hh => (by cases hh), (callsIn_wide.2 HF.out).mono ?_⟩
  rintro e W2 ⟨rfl, rfl⟩
  have HH := Lib.hid (show HAt W1 pc h ∧ Spares W1 ∧ J ((List.finRange l.length).take 0) W1 ∧ ∀ j, (pc.has j ∨ j = 0) → Safe W1 j from ⟨Hc, Hs1, HJ1, HSF.out⟩)
  clear Hc Hs1 HJ1 hb1
  gi_wp2_with fail
  gi_loopw [4] (fun o wr => ∃ k : Nat, k ≤ l.length ∧ o = .int .u32 ((oopI l k : Nat) : Int) ∧ HAt wr pc h ∧ Spares wr ∧ J ((List.finRange l.length).take k) wr ∧ ∀ j, (pc.has j ∨ j = 0) → Safe wr j) (fun o wr => mesO o)
  case atStart => exact ⟨0, by omega, rfl, HH.out.1, HH.out.2.1, HH.out.2.2⟩
  case round =>
    obtain ⟨k, hk, rfl, Hk, hsk, hjk, hsfk⟩ := hrel
    by_cases hlt : k < l.length
    · have hroom := G.fit.room
      have hhi := G.fit.hi
      have hpl := posOf_take_lt G k hlt
      have hpp := posOf_pos (l.take k)
      have hO := Lib.hid (show oopI l k = 2 * posOf (l.take k) by unfold oopI; rw [if_pos hlt])
      have hN := Lib.hid (next_oopI G k hlt)
      have hB := isB_at G k hlt
      have HX := Lib.hid (hd_at' G k hlt)
      have HAT := Lib.hid (fun w => at_any pc.g (2 * posOf (l.take k)) (by omega) (objB_pos _) w)
      have HHD := Lib.hid (fun w' (H : HAt w' pc h) (hs : Spares w') => header_any H G.fit hs (posOf (l.take k)) (G.laid.heads _ (by unfold HM.isB at hB; simp only [Bool.and_eq_true, half_pos] at hB; exact hB.2)))
      have HNX := Lib.hid (fun w' (H : HAt w' pc h) (hs : Spares w') => next_any H G.fit G.laid.heads hs (2 * posOf (l.take k)) (by omega))
      have HNV := Lib.hid (show h.nextV (2 * posOf (l.take k)) = .tuple #[.int .u32 (oopI l (k + 1) : Nat), .int .i64 0] by unfold HM.nextV; rw [if_pos hB, hN.out])
      have HME := Lib.hid (show oopI l (k + 1) = 0 ∨ 2 * posOf (l.take k) < oopI l (k + 1) by
        unfold oopI
        split
        · have := posOf_take_succ k hlt; right; omega
        · exact .inl rfl)
      have HMX := Lib.hid (show oopI l (k + 1) < 4294967296 by
        unfold oopI
        split
        · rename_i h1; have := posOf_take_lt G (k + 1) h1; omega
        · omega)
      have HTK := Lib.hid (show (List.finRange l.length).take k ++ [⟨k, hlt⟩] = (List.finRange l.length).take (k + 1) by
        rw [List.take_add_one, List.getElem?_eq_getElem (by simpa using hlt)]; simp)
      have HPL := Lib.hid (show ((List.finRange l.length).take k).length < l.length by simp; omega)
      have HAV := Lib.hid (show allV l ⟨k, hlt⟩ = #[.int .u32 ((2 * posOf (l.take k) : Nat) : Int), .agg #[.int .i64 (l[k].x.size : Nat), .int .i64 (l[k].x.fmt : Nat), .int .i64 (l[k].x.spare : Nat), .int .u32 (l[k].x.cls : Nat), .int .u32 (l[k].x.ser : Nat)]] from rfl)
      have HXV := Lib.hid (show (h.hd (posOf (l.take k))).val = .agg #[.int .i64 (l[k].x.size : Nat), .int .i64 (l[k].x.fmt : Nat), .int .i64 (l[k].x.spare : Nat), .int .u32 (l[k].x.cls : Nat), .int .u32 (l[k].x.ser : Nat)] by rw [HX.out]; rfl)
      have HK := Lib.hid (show HAt wr pc h ∧ Spares wr ∧ J ((List.finRange l.length).take k) wr ∧ ∀ j, (pc.has j ∨ j = 0) → Safe wr j from ⟨Hk, hsk, hjk, hsfk⟩)
      have HYk := Lib.hid (fun W1 hj => HY.out ((List.finRange l.length).take k) ⟨k, hlt⟩ W1 hj HPL.out)
      rw [HAV.out] at HYk
      rw [hO.out]
      rw [HXV.out] at HHD
      rw [HNV.out] at HNX
      rw [half_pos] at HAT
      clear Hk hsk hjk hsfk hB hO HX hN HXV HNV HAV HPL HH
      generalize (⟨k, hlt⟩ : Fin l.length) = xk at *
      generalize l[k].x = X at *
      have ho : (((2 * posOf (l.take k) : Nat) : Int) != 0) = true := by simp; omega
      have HO32 := Lib.hid (show 2 * posOf (l.take k) < 4294967296 ∧ 0 < 2 * posOf (l.take k) by omega)
      generalize hq : 2 * posOf (l.take k) = o at *
      clear hq
      generalize posOf (l.take k) = q at *
      unfold ptr at HAT HHD HNX
      gi_wp2_with fail
      refine ⟨trivial, fun hh => (by cases hh), (callsIn_wide.2 (HAT.out _)).mono ?_⟩
      rintro e W3 ⟨rfl, rfl⟩
      gi_wp2_with fail
      refine ⟨trivial, fun hh => (by cases hh), (callsIn_wide.2 (HHD.out _ HK.out.1 HK.out.2.1)).mono ?_⟩
      rintro e W4 ⟨rfl, hb4⟩
      have HK4 := Lib.hid (show HAt W4 pc h ∧ Spares W4 ∧ J ((List.finRange l.length).take k) W4 ∧ ∀ j, (pc.has j ∨ j = 0) → Safe W4 j from ⟨HK.out.1.below hb4, HK.out.2.1.below hb4, HJ.out _ _ _ HK.out.2.2.1 hb4, fun j hj => HBL.out _ _ _ hb4 (HK.out.2.2.2 j hj)⟩)
      clear hb4 HK
      obtain ⟨fn, tmps, assign, body, hy, hR⟩ := HYk.out W4 HK4.out.2.2.1
      gi_wp2_with fail
      refine ⟨fun hh => (by cases hh), hR.mono ?_⟩
      rintro e W5 (⟨rfl, hJ5, hk5⟩ | ⟨rfl, hx5⟩)
      · have HK5 := Lib.hid (show HAt W5 pc h ∧ Spares W5 ∧ J ((List.finRange l.length).take (k + 1)) W5 ∧ ∀ j, (pc.has j ∨ j = 0) → Safe W5 j from
          hat_safe HK4.out.1 HK4.out.2.1 (fun j cs t fr hj hh => HSA.out W4 W5 j cs t fr hk5 (HK4.out.2.2.2 j hj) hh) (by rw [← HTK.out]; exact hJ5))
        clear hJ5 hk5 hy hR HK4
        gi_wp2_with fail
        refine ⟨trivial, fun hh => (by cases hh), (callsIn_wide.2 (HNX.out _ HK5.out.1 HK5.out.2.1)).mono ?_⟩
        rintro e W6 ⟨rfl, hb6⟩
        have HK6 := Lib.hid (show HAt W6 pc h ∧ Spares W6 ∧ J ((List.finRange l.length).take (k + 1)) W6 ∧ ∀ j, (pc.has j ∨ j = 0) → Safe W6 j from ⟨HK5.out.1.below hb6, HK5.out.2.1.below hb6, HJ.out _ _ _ HK5.out.2.2.1 hb6, fun j hj => HBL.out _ _ _ hb6 (HK5.out.2.2.2 j hj)⟩)
        clear hb6 HK5
        generalize hno : oopI l (k + 1) = no at *
        have HNO := Lib.hid hno
        clear hno
        gi_wp2_with fail
        go_roundw
        case rel => exact ⟨k + 1, by omega, by rw [HNO.out], HK6.out.1, HK6.out.2.1, HK6.out.2.2⟩
        case measure => exact mesO_lt HME.out HO32.out.2 HO32.out.1 HMX.out
      · clear hy HK4
        gi_wp2_with fail
        refine bodyPost_ret (results_none rfl _ _ _) rfl ?_
        exact ⟨⟨_, rfl⟩, .inr ⟨_, ⟨(List.finRange l.length).drop (k + 1), by rw [HTK.out, List.take_append_drop]⟩, hx5⟩⟩
    · obtain rfl : k = l.length := by omega
      have hO := Lib.hid (show oopI l l.length = 0 by unfold oopI; rw [if_neg hlt])
      have HFin := Lib.hid (show J (List.finRange l.length) wr by have := hjk; rw [List.take_of_length_le (by simp)] at this; exact this)
      rw [hO.out]
      clear Hk hsk hjk hsfk hlt hk
      gi_wp2_with fail
      go_end0
      exact ⟨⟨_, rfl⟩, .inl ⟨_, rfl, HFin.out⟩⟩
end Go.Proofs.YtblekggklimpeaaDoor
