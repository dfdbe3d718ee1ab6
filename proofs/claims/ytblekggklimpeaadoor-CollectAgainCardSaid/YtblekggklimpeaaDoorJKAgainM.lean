/- Right behind a collection another one finds nothing to do. Plain data. -/
/- The document's walk in memory: its rows. -/
/- The numbers of Format. -/
/- The document's Format. -/
/- The document's Names. -/
import Derived.Test.YtblekggklimpeaaDoorJKBuilt
import Derived.Test.YtblekggklimpeaaDoorJKPlan
set_option linter.unusedVariables false
set_option linter.unusedSimpArgs false
set_option linter.unusedSectionVars false
namespace Go.Proofs.YtblekggklimpeaaDoor
open Go.RowKit
section
variable {h : HM} {l : List Ob}
theorem colL_get {k : Nat} (hk : k < (keepZ h l).length) : (colL h l)[k]'(by rw [colL_len]; exact hk) = relob (planM h l) (voidM h l) ((keepZ h l)[k]).2 := by
  unfold colL
  rw [List.getElem_map]
theorem held_new (G : h.Good l) {k : Nat} (hk : k < (colL h l).length) : heldM (colH h l) (2 * posOf ((colL h l).take k)) = ((colL h l)[k]).x.cls :: (if ((colL h l)[k]).x.fmt = 1 then ((colL h l)[k]).fs else []) := by
  have L := col_laid G
  rw [split_at (colL h l) k hk] at L
  unfold heldM
  rw [half_pos]
  have e1 := L.hd_at
  have e2 := L.fields_at
  rw [e1, e2]
theorem live_kz {o : Nat} (ho : o ∈ liveO h l) : ∃ k, ∃ hk : k < (keepZ h l).length, ((keepZ h l)[k]).1 = o ∧ goesM (planM h l) o = 2 * posOf ((colL h l).take k) := by
  rw [← keepZ_fst] at ho
  obtain ⟨p, hp, rfl⟩ := List.mem_map.1 ho
  obtain ⟨k, hk, rfl⟩ := List.getElem_of_mem hp
  exact ⟨k, hk, rfl, goesM_at (by rw [planM_fst, ← keepZ_fst]; exact keepZ_nodup h l) (plan_get h l hk)⟩
theorem again_met (G : h.Good l) : ∀ o ∈ metO (walkM (heldM h) h.roots), o ∈ liveO h l ∧ goesM (planM h l) o ∈ metO (walkM (heldM (colH h l)) (colH h l).roots) := by
  have G' := col_good G
  refine walkM_all (P := fun o => o ∈ liveO h l ∧ goesM (planM h l) o ∈ metO (walkM (heldM (colH h l)) (colH h l).roots)) (fun x hx hk => ?_) (fun o ho x hx hk => ?_)
  · have hl := live_of_root G hx hk
    refine ⟨hl, walk_root ?_ (isB_kind (col_isB G hl))⟩
    show goesM (planM h l) x ∈ colR h l
    unfold colR
    refine List.mem_map.2 ⟨x, hx, ?_⟩
    unfold whereM
    rw [if_pos hk]
  · obtain ⟨k, hkz, he, hg⟩ := live_kz ho.1
    have hp := List.getElem_mem hkz
    rw [← he] at hx
    have hxl := live_of_held G hp hx hk
    have hkl : k < (colL h l).length := by rw [colL_len]; exact hkz
    have hw : whereM (planM h l) x = goesM (planM h l) x := by unfold whereM; rw [if_pos hk]
    have hfl : fldM (planM h l) (voidM h l) x = goesM (planM h l) x := by
      rw [← hw]
      refine fld_live ?_
      unfold deadB
      exact decide_eq_false (fun hd => hd.2 (by rw [planM_fst]; exact hxl))
    refine ⟨hxl, walk_shut G' G'.sound.roots ho.2 ?_ (isB_kind (col_isB G hxl))⟩
    rw [hg, held_new G hkl, colL_get hkz]
    rw [keepZ_held G hp] at hx
    generalize ((keepZ h l)[k]).2 = b at *
    rcases List.mem_cons.1 hx with rfl | hx
    · refine List.mem_cons.2 (.inl ?_)
      exact hw.symm
    · refine List.mem_cons.2 (.inr ?_)
      by_cases h1 : b.x.fmt = 1
      · rw [if_pos h1] at hx
        have hp1 : b.x.ptrB = true := by unfold Hd.ptrB; simp [h1]
        unfold relob
        simp only [hp1, if_true, h1]
        exact List.mem_map.2 ⟨x, hx, hfl⟩
      · rw [if_neg h1] at hx
        cases hx
theorem live_again (G : h.Good l) : liveO (colH h l) (colL h l) = oopsL (colL h l) := by
  unfold liveO
  rw [List.filter_eq_self]
  intro o ho
  unfold oopsL at ho
  obtain ⟨k, hk, rfl⟩ := List.mem_map.1 ho
  have hk := List.mem_range.1 hk
  have hkz : k < (keepZ h l).length := by rw [← colL_len]; exact hk
  have hl : ((keepZ h l)[k]).1 ∈ liveO h l := by rw [← keepZ_fst]; exact List.mem_map.2 ⟨_, List.getElem_mem hkz, rfl⟩
  have hg := goesM_at (by rw [planM_fst, ← keepZ_fst]; exact keepZ_nodup h l) (plan_get h l hkz)
  have := (again_met G _ ((mem_liveO G).1 hl)).2
  rw [hg] at this
  simpa using this
/-- A heap in which all is live. -/
theorem kz_all (ha : liveO h l = oopsL l) : keepZ h l = (oopsL l).zip l := by
  unfold keepZ
  rw [List.filter_eq_self]
  rintro ⟨o, b⟩ hp
  have h1 : o ∈ oopsL l := (List.of_mem_zip hp).1
  rw [← ha] at h1
  unfold liveO at h1
  exact (List.mem_filter.1 h1).2
theorem kz_snd (ha : liveO h l = oopsL l) : (keepZ h l).map (·.2) = l := by
  rw [kz_all ha]
  exact List.map_snd_zip (by rw [oopsL_len]; exact Nat.le_refl _)
theorem plan_same (ha : liveO h l = oopsL l) : ∀ p ∈ planM h l, p.1 = p.2 := by
  intro p hp
  obtain ⟨k, hk, rfl⟩ := List.getElem_of_mem hp
  have hkz : k < (keepZ h l).length := by have := planF_len 1 (keepZ h l); unfold planM at hk; omega
  have hg := plan_get h l hkz
  rw [List.getElem?_eq_getElem hk] at hg
  injection hg with hg
  rw [hg]
  dsimp only
  have hkl : k < l.length := by have := congrArg List.length (kz_snd ha); rw [List.length_map] at this; omega
  have h1 : ((keepZ h l)[k]).1 = 2 * posOf (l.take k) := by
    have h2 := keepZ_fst h l
    rw [ha] at h2
    have h3 := oopsL_get hkl
    rw [← h2, List.getElem?_map, List.getElem?_eq_getElem hkz] at h3
    injection h3
  rw [h1]
  congr 1
  unfold posOf
  rw [colL_eq, kz_snd ha, ← List.map_take, wsOf_same (relob_len _ _)]
theorem goes_same (ha : liveO h l = oopsL l) {x : Nat} (hx : x ∈ oopsL l) : goesM (planM h l) x = x := by
  rw [← ha] at hx
  obtain ⟨k, hk, he, _⟩ := live_kz hx
  have hg := plan_get h l hk
  have h1 := plan_same ha _ (List.mem_of_getElem? hg)
  have h2 := goesM_at (by rw [planM_fst, ← keepZ_fst]; exact keepZ_nodup h l) hg
  dsimp only at h1 h2
  rw [he] at h1 h2
  rw [h2, ← h1]
theorem where_same (G : h.Good l) (ha : liveO h l = oopsL l) {x : Nat} (hx : kindM x = 2 → h.isB x = true) : whereM (planM h l) x = x := by
  unfold whereM
  split
  · rename_i hk
    exact goes_same ha (isB_mem G (hx hk))
  · rfl
theorem dead_none (G : h.Good l) (ha : liveO h l = oopsL l) {x : Nat} (hx : kindM x = 2 → h.isB x = true) : deadB (planM h l) x = false := by
  unfold deadB
  refine decide_eq_false (fun hd => hd.2 ?_)
  rw [planM_fst, ha]
  exact isB_mem G (hx hd.1)
theorem valB_B {x : Nat} (hv : h.valB x = true) : kindM x = 2 → h.isB x = true := by
  intro hk
  unfold HM.valB objB at hv
  simpa [hk] using hv
theorem clsB_B {x : Nat} (hv : h.clsB x = true) : kindM x = 2 → h.isB x = true := by
  intro hk
  unfold HM.clsB at hv
  rw [Bool.or_eq_true] at hv
  rcases hv with hv | hv
  · have : x = 0 := by simpa using hv
    subst this
    simp [kindM] at hk
  · exact hv
theorem relob_same (G : h.Good l) (ha : liveO h l = oopsL l) {b : Ob} (hb : b ∈ l) : relob (planM h l) (voidM h l) b = b := by
  unfold relob
  have h1 := where_same G ha (clsB_B (G.sound.cls b hb))
  by_cases hp : b.x.ptrB = true
  · rw [if_pos hp, h1]
    have h2 : b.fs.map (fldM (planM h l) (voidM h l)) = b.fs := by
      conv => rhs; rw [← List.map_id b.fs]
      apply List.map_congr_left
      intro x hx
      have hv := valB_B (G.sound.flds b hb hp x hx)
      rw [fld_live (dead_none G ha hv), where_same G ha hv]
      rfl
    rw [h2]
  · rw [if_neg hp, h1]
theorem colL_same (G : h.Good l) (ha : liveO h l = oopsL l) : colL h l = l := by
  rw [colL_eq, kz_snd ha]
  conv => rhs; rw [← List.map_id l]
  apply List.map_congr_left
  intro b hb
  exact relob_same G ha hb
theorem colR_same (G : h.Good l) (ha : liveO h l = oopsL l) : colR h l = h.roots := by
  unfold colR
  conv => rhs; rw [← List.map_id h.roots]
  apply List.map_congr_left
  intro x hx
  exact where_same G ha (valB_B (G.sound.roots x hx))
theorem colH_again (G : h.Good l) : colH (colH h l) (colL h l) = colH h l := by
  have G' := col_good G
  have ha := live_again G
  unfold colH
  rw [show colL (HM.ofWords h.size (0 :: wsOf (colL h l)) (colR h l) h.last) (colL h l) = colL h l from colL_same G' ha, show colR (HM.ofWords h.size (0 :: wsOf (colL h l)) (colR h l) h.last) (colL h l) = colR h l from colR_same G' ha]
  rfl
theorem colV_again (G : h.Good l) : colV (colH h l) (colL h l) = .agg #[.int .i64 ((liveO h l).length : Nat), .int .i64 0, .int .i64 0, .int .i64 0, .int .i64 0] := by
  have G' := col_good G
  have ha := live_again G
  have hm : movedN (colH h l) (colL h l) = 0 := by
    unfold movedN
    rw [List.length_eq_zero_iff, List.filter_eq_nil_iff]
    intro p hp
    have := plan_same ha p hp
    simpa using this
  have hc : clearedN (colH h l) (colL h l) = 0 := by
    unfold clearedN
    have : ∀ z : List (Nat × Ob), (∀ p ∈ z, p.2 ∈ colL h l) → (z.map (fun p => clearedB (planM (colH h l) (colL h l)) p.2)).sum = 0 := by
      intro z
      induction z with
      | nil => intro _; rfl
      | cons p z ih =>
        intro hz
        rw [List.map_cons, List.sum_cons, ih (fun q hq => hz q (List.mem_cons_of_mem _ hq)), Nat.add_zero]
        unfold clearedB
        split
        · rename_i hpb
          rw [List.length_eq_zero_iff, List.filter_eq_nil_iff]
          intro x hx
          rw [dead_none G' ha (valB_B (G'.sound.flds p.2 (hz p (List.mem_cons_self ..)) hpb x hx))]
          decide
        · rfl
    refine this _ (fun p hp => ?_)
    obtain ⟨j, hj, _, h2, _⟩ := keepZ_mem hp
    rw [h2]
    exact List.getElem_mem hj
  have hl1 : (liveO (colH h l) (colL h l)).length = (liveO h l).length := by
    rw [ha, oopsL_len, colL_len, keepZ_len]
  have hl2 : (colL h l).length = (liveO h l).length := by rw [colL_len, keepZ_len]
  have hw : (colH h l).words.length - (1 + (wsOf (colL (colH h l) (colL h l))).length) = 0 := by
    rw [colL_same G' ha]
    show (0 :: wsOf (colL h l)).length - _ = 0
    rw [List.length_cons]
    omega
  unfold colV
  rw [hm, hc, hl1, hl2, hw, Nat.sub_self]
  rfl
end
end Go.Proofs.YtblekggklimpeaaDoor

namespace Go.Proofs.YtblekggklimpeaaDoor
open Go.RowKit
def zsK (l : List Int) : List Value := l.map (fun i => Value.int .i64 i)
theorem zsK_app (a b : List Int) : zsK (a ++ b) = zsK a ++ zsK b := List.map_append
theorem zsK_len (a : List Int) : (zsK a).length = a.length := by simp [zsK]
theorem zsK_get {a : List Int} {i : Nat} (hi : i < a.length) : (zsK a)[i]? = some (.int .i64 (a.getD i 0)) := by
  unfold zsK
  rw [List.getElem?_map, List.getElem?_eq_getElem hi, List.getD_eq_getElem?_getD, List.getElem?_eq_getElem hi]
  rfl
theorem one_zsK (l : List Int) : ∀ u ∈ zsK l, u.oneCell' = true := by
  intro u hu; unfold zsK at hu; obtain ⟨x, _, rfl⟩ := List.mem_map.1 hu; rfl
/-- Which of the words are marked. -/
def markL (R : List Nat) (N : Nat) : List Bool := (List.range N).map (fun i => decide (2 * i ∈ R))
theorem markL_len (R : List Nat) (N : Nat) : (markL R N).length = N := by simp [markL]
theorem markL_get (R : List Nat) {N i : Nat} (hi : i < N) : (bools (markL R N))[i]? = some (.bool (decide (2 * i ∈ R))) := by
  unfold bools markL
  rw [List.getElem?_map, List.getElem?_map, List.getElem?_range hi]
  rfl
theorem markL_nil (N : Nat) : markL [] N = List.replicate N false := by
  unfold markL
  apply List.ext_getElem
  · simp
  · intro i h1 h2
    simp
theorem markL_set (R : List Nat) (N i : Nat) : (bools (markL R N)).set i (.bool true) = bools (markL (R ++ [2 * i]) N) := by
  unfold bools markL
  apply List.ext_getElem
  · simp
  · intro j h1 h2
    simp only [List.length_set, List.length_map, List.length_range] at h1
    rw [List.getElem_set]
    simp only [List.getElem_map, List.getElem_range]
    by_cases h : i = j
    · subst h
      rw [if_pos rfl]; simp
    · rw [if_neg h]
      have : ¬ j = i := fun e => h e.symm
      simp [List.mem_append, this]
      intro e; omega
/-- A walk in memory, all of it from B on. -/
structure WkAt (w : World) (B gx gs N : Nat) (vl vc : Value) (L : Wk) : Prop where
  box : Blk w gx 130 #[vl, vc, .slice (some ⟨gs, 0, none⟩) N N]
  list : w.ownsRow B 41 1 vl L.length (u32s (metO L))
  came : w.ownsRow B 3 1 vc L.length (zsK (L.map (·.2)))
  seen : Row w gs 4 N (bools (markL (metO L) N))
  hg : B ≤ gx
  hs : B ≤ gs
/-- What a put does to memory. -/
structure WFr (gx gs : Nat) (vl vc vl' vc' : Value) (w w' : World) : Prop where
  os : w'.os = w.os
  tape : w'.tape = w.tape
  output : w'.output = w.output
  size : w.heap.size ≤ w'.heap.size
  same : ∀ k, k < w.heap.size → k ≠ gx → k ≠ gs → vl.ownBlock ≠ some k → vc.ownBlock ≠ some k → w'.heap[k]? = w.heap[k]?
  blk : ∀ k, k < w.heap.size → vl.ownBlock ≠ some k → vc.ownBlock ≠ some k → vl'.ownBlock ≠ some k ∧ vc'.ownBlock ≠ some k
section
variable {w w' w1 : World} {B gx gs N : Nat} {vl vc vl1 vc1 vl' vc' : Value} {L : Wk}
theorem WFr.refl (gx gs : Nat) (vl vc : Value) (w : World) : WFr gx gs vl vc vl vc w w := ⟨rfl, rfl, rfl, Nat.le_refl _, fun _ _ _ _ _ _ => rfl, fun _ _ h1 h2 => ⟨h1, h2⟩⟩
theorem WFr.of_below (h : Below w.heap.size w w') : WFr gx gs vl vc vl vc w w' := ⟨h.os, h.tape, h.output, h.size, fun k hk _ _ _ _ => h.block k hk, fun _ _ h1 h2 => ⟨h1, h2⟩⟩
theorem WFr.trans (h : WFr gx gs vl vc vl1 vc1 w w1) (k : WFr gx gs vl1 vc1 vl' vc' w1 w') : WFr gx gs vl vc vl' vc' w w' :=
  ⟨k.os.trans h.os, k.tape.trans h.tape, k.output.trans h.output, Nat.le_trans h.size k.size, fun q hq h1 h2 h3 h4 => by
    have hb := h.blk q hq h3 h4
    exact (k.same q (Nat.lt_of_lt_of_le hq h.size) h1 h2 hb.1 hb.2).trans (h.same q hq h1 h2 h3 h4), fun q hq h3 h4 => by
    have hb := h.blk q hq h3 h4
    exact k.blk q (Nat.lt_of_lt_of_le hq h.size) hb.1 hb.2⟩
theorem WFr.below (h : WFr gx gs vl vc vl' vc' w w') (K : WkAt w B gx gs N vl vc L) (hw : B ≤ w.heap.size) : Below B w w' :=
  ⟨h.os, h.tape, h.output, h.size, fun k hk => h.same k (by omega) (by have := K.hg; omega) (by have := K.hs; omega) (fun e => by have := (K.list.lt k e).1; omega) (fun e => by have := (K.came.lt k e).1; omega)⟩
theorem WkAt.below (K : WkAt w B gx gs N vl vc L) (h : Below w.heap.size w w') : WkAt w' B gx gs N vl vc L :=
  ⟨K.box.below h K.box.lt, own_below K.list h, own_below K.came h, K.seen.below h, K.hg, K.hs⟩
end
/-- What put answers. -/
def RputP (B gx gs N : Nat) (vl vc : Value) (L : Wk) (w : World) (e : Ending) (w' : World) : Prop :=
  e = .returned (.tuple #[]) ∧ ∃ vl' vc', WkAt w' B gx gs N vl' vc' L ∧ WFr gx gs vl vc vl' vc' w w'
end Go.Proofs.YtblekggklimpeaaDoor

namespace Go.Proofs.YtblekggklimpeaaDoor
open Go.RowKit
theorem fmt_nums {w0 f : Nat} (h : w0 < 536870912) (h1 : w0 / 16777216 % 8 = f) : ∃ w1 : Nat, ((w0 : Int)).tdiv 16777216 = (w1 : Int) ∧ w1 < 32 ∧ ((w1 : Int)).tmod 8 = (f : Int) ∧ f < 8 := by
  refine ⟨w0 / 16777216, (Int.ofNat_tdiv _ _).symm, Nat.div_lt_of_lt_mul (Nat.lt_of_lt_of_eq h (by decide)), ?_, ?_⟩
  · rw [← h1]; exact (Int.ofNat_tmod _ _).symm
  · have := Nat.mod_lt (w0 / 16777216) (show 8 > 0 by decide)
    exact Nat.lt_of_le_of_lt (Nat.le_of_eq h1.symm) this
theorem wr_u32 {n : Nat} (h : n < 32) : IntKind.u32.wrap (n : Int) = (n : Int) := IntWalk.u32_in _ (by omega)
theorem wr_64 {n : Nat} (h : n < 8) : wrap64 (n : Int) = (n : Int) := IntWalk.wrap64_in _ (by omega)
end Go.Proofs.YtblekggklimpeaaDoor

namespace Go.Proofs.YtblekggklimpeaaDoor
open Go.RowKit
attribute [local go_sem] Oper.semAt_some
section
variable {w : World} {h : HM} {l : List Ob} {A A' : Option Addr} {n c n' c' : Nat}
set_option maxHeartbeats 1000000 in
theorem rformat_any (G : h.Good l) (hr : Reads w w.heap.size 1 A n (u32s h.words)) {k : Nat} (hk : k < l.length) :
    Calls Tryd.prog 96 #[StV A n c A' n' c', .int .i64 (posOf (l.take k) : Nat)] w (Told (.int .i64 ((l[k]).x.fmt : Nat)) w) := by
  obtain ⟨h0, _, h1, h3⟩ := w0_parts G hk
  have hln : n = h.words.length := by have := hr.1; rw [u32s_len] at this; omega
  subst hln
  have hlt : posOf (l.take k) < h.words.length := by omega
  have hBX := (Below.refl w.heap.size w).alloc (Nat.le_refl _) (.cells #[.slice A h.words.length c, .slice A' n' c'] 32)
  obtain ⟨ad, u, rfl, hbl, hu, hc⟩ := (hr.below hBX).at_ hlt
  rw [u32s_get (by omega), h0] at hu
  injection hu with hu
  subst hu
  have hw0 : (l[k]).x.w0 < 536870912 := w0_lt (G.laid.ok _ (List.getElem_mem hk)).fit
  have HB := Lib.hid hBX
  clear h0 h3 hr G hBX
  unfold StV
  generalize posOf (l.take k) = at_ at *
  generalize (l[k]).x.w0 = w0 at *
  generalize (l[k]).x.fmt = f at *
  obtain ⟨w1, hm1, hq, hm2, hf8⟩ := fmt_nums hw0 h1
  have hw64 := wr_64 hf8
  have hwr := wr_u32 hq
  have hwf := wr_u32 (Nat.lt_trans hf8 (by decide))
  clear h1 hw0 hq hf8
  go_enter Tryd.func96, Tryd.ntmps96
  go_wp2_with fail
  go_ret
  exact ⟨by simp only [hw64]; rfl, HB.out⟩
end
end Go.Proofs.YtblekggklimpeaaDoor

namespace Go.Proofs.YtblekggklimpeaaDoor
open Go.RowKit
attribute [local go_sem] Oper.semAt_some
theorem one_intsK (l : List Nat) : ∀ u ∈ ints l, u.oneCell' = true := by
  intro u hu; unfold ints at hu; obtain ⟨x, _, rfl⟩ := List.mem_map.1 hu; rfl
theorem ints_appK (a b : List Nat) : ints (a ++ b) = ints a ++ ints b := List.map_append
theorem info_intK : (Tryd.prog.info? 3).map (fun i => (i.zero, i.size, i.bytes)) = some (some (.int .i64 0), 1, 8) := by kernel_rfl
theorem ownI_new (w : World) (x : Int) : (w.alloc (.cells #[.int .i64 x] 3)).ownsRow w.heap.size 3 1 (.slice (some ⟨w.heap.size, 0, none⟩) 1 1) 1 [.int .i64 x] :=
  ⟨rfl, .inr ⟨w.heap.size, 1, #[.int .i64 x], rfl, Nat.le_refl _, heap_alloc_new w _, Nat.le_refl _, by decide, by simp, rfl⟩⟩
theorem wrS3 {a f : Nat} (h : a + 3 + f ≤ 1048576) : wrap64 ((a : Int) + 3) = (a : Int) + 3 := IntWalk.wrap64_in _ (by omega)
theorem wrS4 {a f : Nat} (h : a + 3 + f ≤ 1048576) : wrap64 ((a : Int) + 3 + (f : Int)) = (a : Int) + 3 + (f : Int) := IntWalk.wrap64_in _ (by omega)
section
variable {w : World} {h : HM} {l : List Ob} {A A' : Option Addr} {n c n' c' : Nat}
/-- What Names answers. -/
def RNamP (p : Nat) (b : Ob) (w : World) (e : Ending) (w' : World) : Prop :=
  ∃ v, e = .returned (.tuple #[v, .int .i64 (holdN p b : Nat)]) ∧ w'.ownsRow w.heap.size 3 1 v (nmsK p b).length (ints (nmsK p b)) ∧ Below w.heap.size w w'
set_option maxRecDepth 100000 in
set_option maxHeartbeats 4000000 in
theorem rnames_any (G : h.Good l) (hr : Reads w w.heap.size 1 A n (u32s h.words)) {k : Nat} (hk : k < l.length) :
    Calls Tryd.prog 62 #[StV A n c A' n' c', .int .i64 (posOf (l.take k) : Nat)] w (RNamP (posOf (l.take k)) (l[k]) w) := by
  obtain ⟨-, -, h1, h3⟩ := w0_parts G hk
  have HF := Lib.hid (fun (w' : World) (hb : Below w.heap.size w w') => rformat_any (A' := A') (n' := n') (c' := c') (c := c) G ((hr.below hb).more hb.size) hk)
  have HZ := Lib.hid (fun (w' : World) (hb : Below w.heap.size w w') => rsize_any (A' := A') (n' := n') (c' := c') (c := c) G ((hr.below hb).more hb.size) hk)
  have hwl : h.words.length ≤ 1048576 := by have := G.fit.room; have := G.fit.hi; omega
  have h3' : posOf (l.take k) + 3 + (l[k]).fs.length ≤ 1048576 := by omega
  have hB1 := (Below.refl w.heap.size w).alloc (Nat.le_refl _) (.cells #[.slice A n c, .slice A' n' c'] 32)
  have X1 := Blk.new w 32 #[.slice A n c, .slice A' n' c']
  have HB1 := Lib.hid hB1
  have HX1 := Lib.hid X1
  have HS1 := Lib.hid (World.size_alloc w (.cells #[.slice A n c, .slice A' n' c'] 32))
  obtain ⟨i0, hi0, hz0, hz1, hz2⟩ := info_parts info_intK
  generalize posOf (l.take k) = at_ at *
  have HN1 := Lib.hid (fun (hp : (l[k]).x.fmt ≠ 1) (hq : (l[k]).x.fmt ≠ 4) => nmsK_no (p := at_) (b := l[k]) hp hq)
  have HN2 := Lib.hid (fun (hp : (l[k]).x.fmt = 1 ∨ (l[k]).x.fmt = 4) => nmsK_yes (p := at_) (b := l[k]) hp)
  have hHO : holdN at_ (l[k]) = if (l[k]).x.fmt = 4 then 1 else (nmsK at_ (l[k])).length := rfl
  have HHO := Lib.hid hHO
  generalize hnl : nmsK at_ (l[k]) = nl at *
  generalize hhn : holdN at_ (l[k]) = hn at *
  have HPP : RNamP at_ (l[k]) w = fun e w' => ∃ v, e = .returned (.tuple #[v, .int .i64 (hn : Nat)]) ∧ w'.ownsRow w.heap.size 3 1 v nl.length (ints nl) ∧ Below w.heap.size w w' := by
    unfold RNamP; rw [hnl, hhn]
  rw [HPP]
  clear HPP hnl hhn hHO h1 h3 hB1 X1 hr
  generalize (l[k]).x.fmt = f at *
  generalize (l[k]).fs.length = fl at *
  clear hk G
  have hw1 : wrap64 ((at_ : Int) + 1) = (at_ : Int) + 1 := by first | exact IntWalk.wrap64_in _ (by omega) | (unfold wrap64; omega)
  unfold StV at HF HZ ⊢
  have hcase : ¬ (f = 1 ∨ f = 4) ∨ f = 1 ∨ f = 4 := by omega
  rcases hcase with hfp | rfl | rfl
  · have hn1 := HN1.out (fun e => hfp (.inl e)) (fun e => hfp (.inr e))
    have hd1 : ((f : Int) == 1) = false := by simp; omega
    have hd4 : ((f : Int) == 4) = false := by simp; omega
    have hho := HHO.out
    rw [if_neg (fun e => hfp (.inr e)), hn1] at hho
    subst hho
    subst hn1
    clear hfp HN1 HN2 HHO HZ
    go_enter Tryd.func62, Tryd.ntmps62
    go_upto_region 2 with fail
    have hb2 := HB1.out.alloc HB1.out.size (.cells #[.int .i64 ((at_ : Int) + 1)] 3)
    have HX2 := Lib.hid (HX1.out.alloc (.cells #[.int .i64 ((at_ : Int) + 1)] 3))
    have hown := ownI_new (w.alloc (.cells #[.slice A n c, .slice A' n' c'] 32)) ((at_ : Int) + 1)
    rw [World.size_alloc] at hown
    have HOW2 := Lib.hid (show ((w.alloc (.cells #[.slice A n c, .slice A' n' c'] 32)).alloc (.cells #[.int .i64 ((at_ : Int) + 1)] 3)).ownsRow w.heap.size 3 1 (.slice (some ⟨w.heap.size + 1, 0, none⟩) 1 1) 1 (ints [at_ + 1]) from own_base hown (by omega))
    have x0 := HX2.out.cell 0
    have x1 := HX2.out.cell 1
    have HFC := Lib.hid (HF.out _ hb2)
    have HB2 := Lib.hid hb2
    have hs2 : w.heap.size < ((w.alloc (.cells #[.slice A n c, .slice A' n' c'] 32)).alloc (.cells #[.int .i64 ((at_ : Int) + 1)] 3)).heap.size := by simp; omega
    clear hb2 hown HB1 HX1 HF
    generalize ((w.alloc (.cells #[.slice A n c, .slice A' n' c'] 32)).alloc (.cells #[.int .i64 ((at_ : Int) + 1)] 3)) = W2 at *
    go_wp2_with fail
    refine HFC.out.mono ?_
    rintro e W3 ⟨rfl, hb3⟩
    have HB3 := Lib.hid (below_top HB2.out hb3)
    have HOW3 := Lib.hid (own_below HOW2.out hb3)
    have HX3 := Lib.hid (HX2.out.below hb3 HX2.out.lt)
    clear hb3 HFC HB2 HOW2 HX2 x0 x1 hs2
    go_wp2_with fail
    go_ret2
    exact ⟨_, rfl, HOW3.out, HB3.out⟩
  · have hn1 := HN2.out (.inl rfl)
    have hho := HHO.out
    rw [if_neg (by decide), hn1] at hho
    subst hho
    subst hn1
    clear HN1 HN2 HHO
    go_enter Tryd.func62, Tryd.ntmps62
    go_upto_region 2 with fail
    have hb2 := HB1.out.alloc HB1.out.size (.cells #[.int .i64 ((at_ : Int) + 1)] 3)
    have HX2 := Lib.hid (HX1.out.alloc (.cells #[.int .i64 ((at_ : Int) + 1)] 3))
    have hown := ownI_new (w.alloc (.cells #[.slice A n c, .slice A' n' c'] 32)) ((at_ : Int) + 1)
    rw [World.size_alloc] at hown
    have HOW2 := Lib.hid (show ((w.alloc (.cells #[.slice A n c, .slice A' n' c'] 32)).alloc (.cells #[.int .i64 ((at_ : Int) + 1)] 3)).ownsRow w.heap.size 3 1 (.slice (some ⟨w.heap.size + 1, 0, none⟩) 1 1) 1 (ints [at_ + 1]) from own_base hown (by omega))
    have x0 := HX2.out.cell 0
    have x1 := HX2.out.cell 1
    have HFC := Lib.hid (HF.out _ hb2)
    have HB2 := Lib.hid hb2
    have hs2 : w.heap.size < ((w.alloc (.cells #[.slice A n c, .slice A' n' c'] 32)).alloc (.cells #[.int .i64 ((at_ : Int) + 1)] 3)).heap.size := by simp; omega
    clear hb2 hown HB1 HX1 HF
    generalize ((w.alloc (.cells #[.slice A n c, .slice A' n' c'] 32)).alloc (.cells #[.int .i64 ((at_ : Int) + 1)] 3)) = W2 at *
    go_wp2_with fail
    refine HFC.out.mono ?_
    rintro e W3 ⟨rfl, hb3⟩
    have HB3 := Lib.hid (below_top HB2.out hb3)
    have HOW3 := Lib.hid (own_below HOW2.out hb3)
    have HX3 := Lib.hid (HX2.out.below hb3 HX2.out.lt)
    clear hb3 HFC HB2 HOW2 HX2 x0 x1 hs2
    go_wp2_with fail
    go_loopw [6, 8] (fun lv iv wr => ∃ i : Nat, iv = .int .i64 i ∧ i ≤ fl ∧ wr.ownsRow w.heap.size 3 1 lv (i + 1) (ints (fldL at_ i)) ∧ Blk wr w.heap.size 32 #[.slice A n c, .slice A' n' c'] ∧ Below w.heap.size w wr) (fun _ iv _ => fl - (intOf iv).toNat)
    case atStart => exact ⟨0, rfl, Nat.zero_le _, HOW3.out, HX3.out, HB3.out⟩
    case round =>
      clear HB3 HOW3 HX3
      obtain ⟨i, rfl, hi, hown, hx, hb⟩ := hrel
      have HOW := Lib.hid hown
      have HX := Lib.hid hx
      have HB := Lib.hid hb
      have x0 := hx.cell 0
      have x1 := hx.cell 1
      have HSZ := Lib.hid (HZ.out wr hb)
      clear hown hx hb
      have hww := Nat.le_trans (Nat.add_le_add_left hi (at_ + 3)) h3'
      by_cases hlt : i < fl
      · have hw3 : wrap64 ((at_ : Int) + 3) = (at_ : Int) + 3 := wrS3 h3'
        have hw4 : wrap64 ((at_ : Int) + 3 + (i : Int)) = (at_ : Int) + 3 + (i : Int) := wrS4 hww
        have HSN := Lib.hid (fldL_snoc at_ i)
        have HLT := Lib.hid hlt
        have hi2 : i ≤ 1048576 := Nat.le_trans (Nat.le_add_left _ _) hww
        go_wp2_with fail
        refine HSZ.out.mono ?_
        rintro e w5 ⟨rfl, hb5⟩
        have HOW5 := Lib.hid (own_below HOW.out hb5)
        have HX5 := Lib.hid (HX.out.below hb5 HX.out.lt)
        have HB5 := Lib.hid (below_top HB.out hb5)
        clear hb5 HSZ HOW HX HB x0 x1
        have hs5 := HB5.out.size
        go_wp2_with (at_builtin; refine wpList_append_any _ rfl (.tmp 28) (.tmp 33) _ rfl w.heap.size 3 i0 _ 1 8 Tryd.underlying78 hi0 hz0 hz1 hz2 rfl (by omega) u6 (i + 1) _ rfl (HOW5.out.alloc _) (w5.heap.size + 1) (some ⟨w5.heap.size, 0, none⟩) 1 1 [.int .i64 ((at_ : Int) + 3 + (i : Int))] rfl ⟨rfl, fun _ => ⟨_, rfl, by first | exact Nat.zero_lt_one | decide | simp, cell_one_new _ _ _⟩⟩ (fun u hu => by rcases List.mem_singleton.1 hu with rfl; rfl) (by simp only [maxLen]; omega) (by omega) (by first | omega | (simp; omega)) ?_; intro v1 w6 hown6 hgrow hat6)
        have hb6 := below_grown (Nat.le_refl _) (HB5.out.alloc hs5 _) hgrow (fun q hq => (HOW5.out.lt q hq).1)
        have hx6 := HX5.out
        go_roundw
        case rel => exact ⟨i + 1, by go_num, HLT.out, by rw [HSN.out, ints_appK]; exact hown6, (HX5.out.alloc _).same (hgrow.block _ (by have := HX5.out.lt; simp; omega) (fun e => own_ne_blk HOW5.out HX5.out (by decide) (by first | exact e | exact e.symm))), hb6⟩
        case measure => have := HLT.out; simp [intOf]; omega
      · obtain rfl : i = fl := by omega
        have hlt' : decide ((i : Int) < (i : Int)) = false := by simp
        have HE := Lib.hid (And.intro HOW.out HB.out)
        clear HOW HB HX hi hlt hww
        go_wp2_with fail
        refine HSZ.out.mono ?_
        rintro e w5 ⟨rfl, hb5⟩
        have HOW5 := Lib.hid (own_below HE.out.1 hb5)
        have HB5 := Lib.hid (below_top HE.out.2 hb5)
        obtain ⟨A5, c5, hv5⟩ := own_val HOW5.out
        subst hv5
        clear hb5 HSZ HE x0 x1
        go_wp2_with fail
        go_ret2
        exact ⟨_, by rw [fldL_len]; rfl, by rw [fldL_len]; exact HOW5.out, HB5.out⟩
  · have hn1 := HN2.out (.inr rfl)
    have hho := HHO.out
    rw [if_pos rfl] at hho
    subst hho
    subst hn1
    clear HN1 HN2 HHO
    go_enter Tryd.func62, Tryd.ntmps62
    go_upto_region 2 with fail
    have hb2 := HB1.out.alloc HB1.out.size (.cells #[.int .i64 ((at_ : Int) + 1)] 3)
    have HX2 := Lib.hid (HX1.out.alloc (.cells #[.int .i64 ((at_ : Int) + 1)] 3))
    have hown := ownI_new (w.alloc (.cells #[.slice A n c, .slice A' n' c'] 32)) ((at_ : Int) + 1)
    rw [World.size_alloc] at hown
    have HOW2 := Lib.hid (show ((w.alloc (.cells #[.slice A n c, .slice A' n' c'] 32)).alloc (.cells #[.int .i64 ((at_ : Int) + 1)] 3)).ownsRow w.heap.size 3 1 (.slice (some ⟨w.heap.size + 1, 0, none⟩) 1 1) 1 (ints [at_ + 1]) from own_base hown (by omega))
    have x0 := HX2.out.cell 0
    have x1 := HX2.out.cell 1
    have HFC := Lib.hid (HF.out _ hb2)
    have HB2 := Lib.hid hb2
    have hs2 : w.heap.size < ((w.alloc (.cells #[.slice A n c, .slice A' n' c'] 32)).alloc (.cells #[.int .i64 ((at_ : Int) + 1)] 3)).heap.size := by simp; omega
    clear hb2 hown HB1 HX1 HF
    generalize ((w.alloc (.cells #[.slice A n c, .slice A' n' c'] 32)).alloc (.cells #[.int .i64 ((at_ : Int) + 1)] 3)) = W2 at *
    go_wp2_with fail
    refine HFC.out.mono ?_
    rintro e W3 ⟨rfl, hb3⟩
    have HB3 := Lib.hid (below_top HB2.out hb3)
    have HOW3 := Lib.hid (own_below HOW2.out hb3)
    have HX3 := Lib.hid (HX2.out.below hb3 HX2.out.lt)
    clear hb3 HFC HB2 HOW2 HX2 x0 x1 hs2
    go_wp2_with fail
    go_loopw [6, 8] (fun lv iv wr => ∃ i : Nat, iv = .int .i64 i ∧ i ≤ fl ∧ wr.ownsRow w.heap.size 3 1 lv (i + 1) (ints (fldL at_ i)) ∧ Blk wr w.heap.size 32 #[.slice A n c, .slice A' n' c'] ∧ Below w.heap.size w wr) (fun _ iv _ => fl - (intOf iv).toNat)
    case atStart => exact ⟨0, rfl, Nat.zero_le _, HOW3.out, HX3.out, HB3.out⟩
    case round =>
      clear HB3 HOW3 HX3
      obtain ⟨i, rfl, hi, hown, hx, hb⟩ := hrel
      have HOW := Lib.hid hown
      have HX := Lib.hid hx
      have HB := Lib.hid hb
      have x0 := hx.cell 0
      have x1 := hx.cell 1
      have HSZ := Lib.hid (HZ.out wr hb)
      clear hown hx hb
      have hww := Nat.le_trans (Nat.add_le_add_left hi (at_ + 3)) h3'
      by_cases hlt : i < fl
      · have hw3 : wrap64 ((at_ : Int) + 3) = (at_ : Int) + 3 := wrS3 h3'
        have hw4 : wrap64 ((at_ : Int) + 3 + (i : Int)) = (at_ : Int) + 3 + (i : Int) := wrS4 hww
        have HSN := Lib.hid (fldL_snoc at_ i)
        have HLT := Lib.hid hlt
        have hi2 : i ≤ 1048576 := Nat.le_trans (Nat.le_add_left _ _) hww
        go_wp2_with fail
        refine HSZ.out.mono ?_
        rintro e w5 ⟨rfl, hb5⟩
        have HOW5 := Lib.hid (own_below HOW.out hb5)
        have HX5 := Lib.hid (HX.out.below hb5 HX.out.lt)
        have HB5 := Lib.hid (below_top HB.out hb5)
        clear hb5 HSZ HOW HX HB x0 x1
        have hs5 := HB5.out.size
        go_wp2_with (at_builtin; refine wpList_append_any _ rfl (.tmp 28) (.tmp 33) _ rfl w.heap.size 3 i0 _ 1 8 Tryd.underlying78 hi0 hz0 hz1 hz2 rfl (by omega) u6 (i + 1) _ rfl (HOW5.out.alloc _) (w5.heap.size + 1) (some ⟨w5.heap.size, 0, none⟩) 1 1 [.int .i64 ((at_ : Int) + 3 + (i : Int))] rfl ⟨rfl, fun _ => ⟨_, rfl, by first | exact Nat.zero_lt_one | decide | simp, cell_one_new _ _ _⟩⟩ (fun u hu => by rcases List.mem_singleton.1 hu with rfl; rfl) (by simp only [maxLen]; omega) (by omega) (by first | omega | (simp; omega)) ?_; intro v1 w6 hown6 hgrow hat6)
        have hb6 := below_grown (Nat.le_refl _) (HB5.out.alloc hs5 _) hgrow (fun q hq => (HOW5.out.lt q hq).1)
        have hx6 := HX5.out
        go_roundw
        case rel => exact ⟨i + 1, by go_num, HLT.out, by rw [HSN.out, ints_appK]; exact hown6, (HX5.out.alloc _).same (hgrow.block _ (by have := HX5.out.lt; simp; omega) (fun e => own_ne_blk HOW5.out HX5.out (by decide) (by first | exact e | exact e.symm))), hb6⟩
        case measure => have := HLT.out; simp [intOf]; omega
      · obtain rfl : i = fl := by omega
        have hlt' : decide ((i : Int) < (i : Int)) = false := by simp
        have HE := Lib.hid (And.intro HOW.out HB.out)
        clear HOW HB HX hi hlt hww
        go_wp2_with fail
        refine HSZ.out.mono ?_
        rintro e w5 ⟨rfl, hb5⟩
        have HOW5 := Lib.hid (own_below HE.out.1 hb5)
        have HB5 := Lib.hid (below_top HE.out.2 hb5)
        obtain ⟨A5, c5, hv5⟩ := own_val HOW5.out
        subst hv5
        clear hb5 HSZ HE x0 x1
        go_wp2_with fail
        go_ret2
        exact ⟨_, rfl, by rw [fldL_len]; exact HOW5.out, HB5.out⟩
end
end Go.Proofs.YtblekggklimpeaaDoor
