/- The document's Is. -/
/- What the document's Collect goes through. Plain data. -/
/- The document's Plan. -/
/- The document's moved. -/
import Derived.Test.YtblekggklimpeaaDoorJKRPut
import Derived.Test.YtblekggklimpeaaDoorJKBuilt
import Derived.Test.YtblekggklimpeaaDoorJKLay
import Derived.Test.YtblekggklimpeaaDoorJSoAll
set_option linter.unusedVariables false
set_option linter.unusedSimpArgs false
set_option linter.unusedSectionVars false
namespace Go.Proofs.YtblekggklimpeaaDoor
open Go.RowKit Go.Sort
attribute [local go_sem] Oper.semAt_some
theorem isB_kindK {h : HM} {l : List Ob} (G : h.Good l) {o : Nat} (hi : h.isB o = true) : kindM o = 2 := isB_kind hi
section
variable {w : World} {h : HM} {l : List Ob} {A A' : Option Addr} {n c n' c' : Nat}
set_option maxRecDepth 100000 in
set_option maxHeartbeats 4000000 in
theorem ris_any (G : h.Good l) (hr : Reads w w.heap.size 1 A n (u32s h.words)) {o : Nat} (ho : o < 4294967296) :
    Calls Tryd.prog 42 #[StV A n c A' n' c', .int .u32 o] w (Told (.bool (h.isB o)) w) := by
  have hX := Blk.new w 32 #[.slice A n c, .slice A' n' c']
  have hB := (Below.refl w.heap.size w).alloc (Nat.le_refl _) (.cells #[.slice A n c, .slice A' n' c'] 32)
  have HOB := Lib.hid (robjects_any (A' := A') (n' := n') (c' := c') (c := c) G ((hr.below hB).more hB.size))
  have HKD := Lib.hid (fun w' => rkind_any o ho w')
  have x0 := hX.cell 0
  have x1 := hX.cell 1
  have HB := Lib.hid hB
  have hl2 : l.length ≤ 1048576 := by have h1 := oopsL_le G; rw [oopsL_len] at h1; exact h1
  have HG := Lib.hid G
  clear hX hB hr G
  unfold StV at HOB ⊢
  by_cases hk : kindM o = 2
  · have HK2 := Lib.hid hk
    rw [hk] at HKD
    have hq : ((o : Int)).tdiv 2 = ((o / 2 : Nat) : Int) := by rw [Int.tdiv_eq_ediv_of_nonneg (by omega)]; omega
    have hq2 : ((o : Int)) / 2 = ((o / 2 : Nat) : Int) := by omega
    have hwi : IntKind.i64.wrap ((o / 2 : Nat) : Int) = ((o / 2 : Nat) : Int) := IntWalk.i64_in _ (by omega)
    have HO2 := Lib.hid (kind2 hk).1
    have HQQ := Lib.hid (And.intro hq (And.intro hq2 hwi))
    clear hk hq hq2 hwi
    generalize o / 2 = i at *
    go_enter Tryd.func42, Tryd.ntmps42
    go_wp2_with fail
    generalize w.alloc (.cells #[.slice A n c, .slice A' n' c'] 32) = w1 at *
    refine (HKD.out _).mono ?_
    rintro e w1' ⟨rfl, rfl⟩
    go_wp2_with fail
    refine HOB.out.mono ?_
    rintro e w2 ⟨v2, rfl, hown, hb2⟩
    have HOW := Lib.hid hown
    have HB2 := Lib.hid (below_top HB.out hb2)
    obtain ⟨Ai, ci, hvi⟩ := own_val hown
    subst hvi
    rw [idxL_len] at *
    clear hown hb2 HOB x0 x1 HKD
    go_wp2_with fail
    go_loopw [13] (fun jv wr => ∃ j : Nat, jv = .int .i64 j ∧ j ≤ l.length ∧ (∀ q, q < j → posOf (l.take q) ≠ i) ∧ wr = w2) (fun jv _ => l.length - (intOf jv).toNat)
    case atStart => exact ⟨0, rfl, Nat.zero_le _, fun q hq => absurd hq (Nat.not_lt_zero _), rfl⟩
    case round =>
      obtain ⟨j, rfl, hj, hno, hww⟩ := hrel
      have HNO := Lib.hid hno
      have HWW := Lib.hid hww
      clear hno hww
      by_cases hlt : j < l.length
      · obtain ⟨gv, cv, hvv, hrv, _, hgv⟩ := Row.of_any HOW.out (by omega)
        have hcl := hrv.cell (ints_atK (idxL_get hlt))
        rw [← HWW.out] at hcl
        have HLT := Lib.hid hlt
        have HYES := Lib.hid (fun (e : posOf (l.take j) = i) => show h.isB o = true from by
          have := (HG.out.laid.isB_iff (2 * posOf (l.take j))).2 ⟨l.take j, l[j], l.drop (j + 1), split_at l j hlt, rfl⟩
          rw [e, ← HO2.out] at this
          exact this)
        have HNX := Lib.hid (fun (e : posOf (l.take j) ≠ i) => show ∀ q, q < j + 1 → posOf (l.take q) ≠ i from fun q hq => by
          by_cases h : q = j
          · rw [h]; exact e
          · exact HNO.out q (by omega))
        cases hvv
        clear hrv
        generalize posOf (l.take j) = x at *
        obtain ⟨hq, hq2, hwi⟩ := HQQ.out
        by_cases hx : x = i
        · have hy := HYES.out hx
          rw [hy]
          subst hx
          clear hy
          go_wp2_with fail
          go_ret
          exact ⟨rfl, by rw [HWW.out]; exact HB2.out⟩
        · have hne : ((x : Int) == (i : Int)) = false := by simp; omega
          have HN := Lib.hid (HNX.out hx)
          clear hx
          go_wp2_with fail
          go_roundw
          case rel => exact ⟨j + 1, by go_num, HLT.out, HN.out, HWW.out⟩
          case measure => have := HLT.out; simp [intOf]; omega
      · obtain rfl : j = l.length := by omega
        have hf : h.isB o = false := by
          cases hi : h.isB o
          · rfl
          · obtain ⟨k, hk, he⟩ := isB_k HG.out hi
            have h1 := HNO.out k hk
            have h2 := HO2.out
            omega
        have HFF := Lib.hid hf
        clear hf hlt hj
        go_wp2_with fail
        go_ret
        exact ⟨by rw [HFF.out]; rfl, by rw [HWW.out]; exact HB2.out⟩
  · have hf : h.isB o = false := by
      cases hi : h.isB o
      · rfl
      · exact absurd (isB_kind hi) hk
    rw [hf]
    have e2 : ((kindM o : Int) != 2) = true := by simp; omega
    clear hk hf
    generalize kindM o = k at *
    go_enter Tryd.func42, Tryd.ntmps42
    go_wp2_with fail
    generalize w.alloc (.cells #[.slice A n c, .slice A' n' c'] 32) = w1 at *
    refine (HKD.out _).mono ?_
    rintro e w1' ⟨rfl, rfl⟩
    go_wp2_with fail
    go_ret
    exact ⟨rfl, HB.out⟩
end
end Go.Proofs.YtblekggklimpeaaDoor

namespace Go.Proofs.YtblekggklimpeaaDoor
open Go.RowKit
theorem goesM_snoc {pl : List (Nat × Nat)} {p : Nat × Nat} (hn : p.1 ∉ pl.map (·.1)) (x : Nat) : goesM (pl ++ [p]) x = if x = p.1 then p.2 else goesM pl x := by
  by_cases h : x = p.1
  · subst h
    have h0 : pl.find? (fun q => q.1 == p.1) = none := by
      rw [List.find?_eq_none]
      intro q hq he
      exact hn (List.mem_map.2 ⟨q, hq, by simpa using he⟩)
    unfold goesM
    rw [List.find?_append, h0, if_pos rfl]
    simp
  · rw [if_neg h]
    unfold goesM
    rw [List.find?_append]
    have h1 : ([p] : List (Nat × Nat)).find? (fun q => q.1 == x) = none := by simp; exact fun e => h e.symm
    rw [h1, Option.or_none]
/-- The table of where each goes. -/
def toL (pl : List (Nat × Nat)) (N : Nat) : List Nat := (List.range N).map (fun i => goesM pl (2 * i))
theorem toL_len (pl : List (Nat × Nat)) (N : Nat) : (toL pl N).length = N := by simp [toL]
theorem toL_get (pl : List (Nat × Nat)) {N i : Nat} (hi : i < N) : (u32s (toL pl N))[i]? = some (.int .u32 (goesM pl (2 * i) : Nat)) := by
  unfold u32s toL
  rw [List.getElem?_map, List.getElem?_map, List.getElem?_range hi]
  rfl
theorem toL_nil (N : Nat) : toL [] N = List.replicate N 0 := by
  unfold toL
  apply List.ext_getElem
  · simp
  · intro i h1 h2
    simp [goesM]
theorem toL_set {pl : List (Nat × Nat)} {p : Nat × Nat} (hn : p.1 ∉ pl.map (·.1)) {i : Nat} (hi : p.1 = 2 * i) (N : Nat) : (u32s (toL pl N)).set i (.int .u32 (p.2 : Nat)) = u32s (toL (pl ++ [p]) N) := by
  unfold u32s toL
  apply List.ext_getElem
  · simp
  · intro j h1 h2
    rw [List.getElem_set]
    simp only [List.getElem_map, List.getElem_range]
    rw [goesM_snoc hn]
    by_cases h : i = j
    · subst h
      rw [if_pos rfl, if_pos hi.symm]
    · rw [if_neg h, if_neg (by omega)]
/-- An object's words, its first j names moved. -/
def stepO (pl : List (Nat × Nat)) (void : Nat) (b : Ob) (j : Nat) : List Nat := b.x.w0 :: (if 0 < j then whereM pl b.x.cls else b.x.cls) :: b.x.ser :: ((b.fs.take (j - 1)).map (fldM pl void) ++ b.fs.drop (j - 1))
def clrJ (pl : List (Nat × Nat)) (b : Ob) (j : Nat) : Nat := ((b.fs.take (j - 1)).filter (deadB pl)).length
def nameV (b : Ob) (j : Nat) : Nat := if j = 0 then b.x.cls else b.fs.getD (j - 1) 0
def newV (pl : List (Nat × Nat)) (void : Nat) (b : Ob) (j : Nat) : Nat := if j = 0 then whereM pl b.x.cls else fldM pl void (b.fs.getD (j - 1) 0)
section
variable {pl : List (Nat × Nat)} {void : Nat} {b : Ob}
theorem stepO_zero : stepO pl void b 0 = b.ws := by unfold stepO Ob.ws; simp
theorem stepO_len (j : Nat) : (stepO pl void b j).length = 3 + b.fs.length := by
  unfold stepO
  simp
  omega
theorem stepO_set {j : Nat} (hj : j ≤ b.fs.length) : (stepO pl void b j).set (if j = 0 then 1 else 2 + j) (newV pl void b j) = stepO pl void b (j + 1) := by
  cases j with
  | zero => unfold stepO newV; simp
  | succ j =>
    have hj' : j < b.fs.length := by omega
    rw [if_neg (by omega), show 2 + (j + 1) = j + 3 by omega]
    unfold stepO newV
    rw [if_pos (Nat.succ_pos _), if_pos (Nat.succ_pos _), if_neg (by omega)]
    simp only [Nat.add_sub_cancel, List.set_cons_succ]
    congr 3
    rw [List.set_append_right _ _ (by simp; omega), List.drop_eq_getElem_cons hj', List.length_map, List.length_take, show j - min j b.fs.length = 0 by omega, List.set_cons_zero, List.take_add_one, List.getElem?_eq_getElem hj', List.getD_eq_getElem?_getD, List.getElem?_eq_getElem hj']
    simp
    rw [List.take_add_one, List.getElem?_map, List.getElem?_eq_getElem hj']
    simp
theorem stepO_end (p : Nat) (b : Ob) : stepO pl void b (nmsK p b).length = (relob pl void b).ws := by
  unfold nmsK
  rw [fldL_len]
  unfold stepO relob Ob.ws
  by_cases hp : b.x.ptrB = true
  · simp [hp]
    rfl
  · simp [hp]
    rfl
theorem clrJ_zero : clrJ pl b 0 = 0 := by simp [clrJ]
theorem clrJ_end (p : Nat) (b : Ob) : clrJ pl b (nmsK p b).length = clearedB pl b := by
  unfold nmsK
  rw [fldL_len]
  unfold clrJ clearedB
  by_cases hp : b.x.ptrB = true
  · simp [hp]
  · simp [hp]
theorem clrJ_le (j : Nat) : clrJ pl b j ≤ b.fs.length := by
  unfold clrJ
  have h1 := List.length_filter_le (deadB pl) (b.fs.take (j - 1))
  rw [List.length_take] at h1
  omega
theorem clrJ_step {j : Nat} (hj : j ≤ b.fs.length) : clrJ pl b (j + 1) = clrJ pl b j + (if j ≠ 0 ∧ deadB pl (b.fs.getD (j - 1) 0) = true then 1 else 0) := by
  cases j with
  | zero => simp [clrJ]
  | succ j =>
    have hj' : j < b.fs.length := by omega
    unfold clrJ
    simp only [Nat.add_sub_cancel]
    rw [List.take_add_one, List.getElem?_eq_getElem hj', List.filter_append, List.length_append, List.getD_eq_getElem?_getD, List.getElem?_eq_getElem hj']
    by_cases hd : deadB pl b.fs[j] = true
    · simp [hd]
    · simp [hd]
end
section
variable {h : HM} {l : List Ob}
theorem nmsK_gets {p : Nat} {b : Ob} {j : Nat} (hj : j < (nmsK p b).length) : (nmsK p b)[j]? = some (nmsK p b)[j] ∧ (nmsK p b)[j] = p + (if j = 0 then 1 else 2 + j) := by
  refine ⟨List.getElem?_eq_getElem hj, ?_⟩
  have := (nmsK_get (List.getElem?_eq_getElem hj)).2.2
  rw [this]
  split <;> omega
theorem nms_at (G : h.Good l) {k : Nat} (hk : k < l.length) {j : Nat} (hj : j < (nmsK (posOf (l.take k)) l[k]).length) :
    ∃ x, (nmsK (posOf (l.take k)) l[k])[j]? = some x ∧ x < h.words.length ∧ h.words.getD x 0 = nameV l[k] j ∧ x = posOf (l.take k) + (if j = 0 then 1 else 2 + j) ∧ j ≤ (l[k]).fs.length := by
  have hg := nmsK_gets hj
  obtain ⟨h1, h2⟩ := hg
  have h3 := (w0_parts G hk).2.2.2
  have hjl : j ≤ (l[k]).fs.length := by have := nmsK_len (posOf (l.take k)) l[k]; omega
  refine ⟨_, h1, ?_, ?_, h2, hjl⟩
  · rw [h2]; split <;> omega
  · rw [h2]
    unfold nameV
    by_cases h0 : j = 0
    · rw [if_pos h0, if_pos h0]; exact cls_words G hk
    · rw [if_neg h0, if_neg h0, show posOf (l.take k) + (2 + j) = posOf (l.take k) + 3 + (j - 1) by omega]
      exact fld_words G hk (by omega)
theorem keep_dead (G : h.Good l) {p : Nat × Ob} (hp : p ∈ keepZ h l) (h1 : p.2.x.fmt = 1) {x : Nat} (hx : x ∈ p.2.fs) : deadB (planM h l) x = false := by
  unfold deadB
  refine decide_eq_false (fun hd => hd.2 ?_)
  rw [planM_fst]
  refine live_of_held G hp ?_ hd.1
  rw [keepZ_held G hp, if_pos h1]
  exact List.mem_cons.2 (.inr hx)
theorem goes_zero {x : Nat} : goesM (planM h l) x = 0 ↔ x ∉ (planM h l).map (·.1) := by
  constructor
  · intro h0 hm
    rw [planM_fst] at hm
    obtain ⟨k, hk, e⟩ := goes_live h l hm
    rw [e] at h0
    unfold posOf at h0
    omega
  · exact goesM_no
theorem fld_live {pl : List (Nat × Nat)} {void x : Nat} (hd : deadB pl x = false) : fldM pl void x = whereM pl x := by
  unfold deadB at hd
  unfold fldM
  rw [if_neg (of_decide_eq_false hd)]
theorem fld_dead {pl : List (Nat × Nat)} {void x : Nat} (hd : deadB pl x = true) : fldM pl void x = void := by
  unfold deadB at hd
  unfold fldM
  rw [if_pos (of_decide_eq_true hd)]
theorem new_cases (G : h.Good l) {p : Nat × Ob} (hp : p ∈ keepZ h l) {q j : Nat} (hj : j < (nmsK q p.2).length) (hjl : j ≤ p.2.fs.length) (void : Nat) :
    (¬ (holdN q p.2 ≤ j ∧ kindM (nameV p.2 j) = 2 ∧ whereM (planM h l) (nameV p.2 j) = 0) → newV (planM h l) void p.2 j = whereM (planM h l) (nameV p.2 j) ∧ clrJ (planM h l) p.2 (j + 1) = clrJ (planM h l) p.2 j) ∧
      (holdN q p.2 ≤ j ∧ kindM (nameV p.2 j) = 2 ∧ whereM (planM h l) (nameV p.2 j) = 0 → newV (planM h l) void p.2 j = void ∧ clrJ (planM h l) p.2 (j + 1) = clrJ (planM h l) p.2 j + 1) := by
  rw [clrJ_step hjl]
  by_cases h0 : j = 0
  · subst h0
    have h1 : 1 ≤ holdN q p.2 := by
      unfold holdN
      have := nmsK_pos q p.2
      split <;> omega
    refine ⟨fun _ => ⟨by simp [newV, nameV], by simp⟩, fun hh => absurd hh.1 (by omega)⟩
  · have hx : p.2.fs.getD (j - 1) 0 ∈ p.2.fs := by
      rw [List.getD_eq_getElem?_getD, List.getElem?_eq_getElem (by omega)]
      exact List.getElem_mem _
    unfold newV nameV
    rw [if_neg h0, if_neg h0]
    generalize p.2.fs.getD (j - 1) 0 = x at *
    have hb : p.2.x.fmt = 1 ∨ p.2.x.fmt = 4 := Classical.byContradiction fun hn => by
      rw [nmsK_no (fun e => hn (.inl e)) (fun e => hn (.inr e))] at hj
      simp at hj
      omega
    rcases hb with hb | hb
    · have hd := keep_dead G hp hb hx
      refine ⟨fun _ => ⟨fld_live hd, by simp [hd]⟩, fun hh => ?_⟩
      have h1 := hh.1
      unfold holdN at h1
      rw [if_neg (by omega)] at h1
      omega
    · have hh1 : holdN q p.2 ≤ j := by unfold holdN; rw [if_pos hb]; omega
      constructor
      · intro hn
        have hd : deadB (planM h l) x = false := by
          unfold deadB
          refine decide_eq_false (fun hd => hn ⟨hh1, hd.1, ?_⟩)
          unfold whereM
          rw [if_pos hd.1]
          exact goes_zero.2 hd.2
        exact ⟨fld_live hd, by simp [hd]⟩
      · rintro ⟨_, hk, hw⟩
        have hd : deadB (planM h l) x = true := by
          unfold whereM at hw
          rw [if_pos hk] at hw
          unfold deadB
          exact decide_eq_true ⟨hk, goes_zero.1 hw⟩
        exact ⟨fld_dead hd, by simp [hd, h0]⟩
theorem name_32 (G : h.Good l) {p : Nat × Ob} (hp : p ∈ keepZ h l) {j : Nat} (hj : j ≤ p.2.fs.length) : nameV p.2 j < 4294967296 := by
  have K := keepZ_ok G hp
  unfold nameV
  split
  · exact K.fit.cls
  · rw [List.getD_eq_getElem?_getD, List.getElem?_eq_getElem (by omega)]
    exact K.f32 _ (List.getElem_mem _)
/-- What is named is no object, or lies within the words. -/
theorem name_isB (G : h.Good l) {k : Nat} (hk : k < l.length) {j : Nat} (hj : j < (nmsK (posOf (l.take k)) l[k]).length) (h2 : kindM (nameV l[k] j) = 2) : h.isB (nameV l[k] j) = true := by
  obtain ⟨x, h1, _, h3, _⟩ := nms_at G hk hj
  have hi : h.isB (2 * posOf (l.take k)) = true := (G.laid.isB_iff _).2 ⟨l.take k, l[k], l.drop (k + 1), split_at l k hk, rfl⟩
  refine names_isB G hi ?_ h2
  rw [← num_names G hk, ← h3]
  exact List.mem_map.2 ⟨x, List.mem_of_getElem? h1, rfl⟩
end
end Go.Proofs.YtblekggklimpeaaDoor

namespace Go.Proofs.YtblekggklimpeaaDoor
open Go.RowKit Go.Sort
attribute [local go_sem] Oper.semAt_some
theorem wrA3 {a f : Nat} (h : a + (3 + f) ≤ 1048576) : wrap64 (3 + (f : Int)) = 3 + (f : Int) ∧ wrap64 ((a : Int) + (3 + (f : Int))) = (a : Int) + (3 + (f : Int)) := ⟨IntWalk.wrap64_in _ (by omega), IntWalk.wrap64_in _ (by omega)⟩
section
variable {w : World} {h : HM} {l : List Ob} {A A' : Option Addr} {n c n' c' : Nat}
set_option maxRecDepth 100000 in
set_option maxHeartbeats 8000000 in
theorem rplan_any (G : h.Good l) (hr : Reads w w.heap.size 1 A n (u32s h.words)) (hq : Reads w w.heap.size 1 A' n' (u32s h.roots)) :
    Calls Tryd.prog 16 #[StV A n c A' n' c'] w (PlanP (planM h l) w) := by
  have HG := Lib.hid G
  have hX := Blk.new w 32 #[.slice A n c, .slice A' n' c']
  have hB := (Below.refl w.heap.size w).alloc (Nat.le_refl _) (.cells #[.slice A n c, .slice A' n' c'] 32)
  have HLV := Lib.hid (rlive_any (A := A) (A' := A') (n := n) (n' := n') (c := c) (c' := c') G ((hr.below hB).more hB.size) ((hq.below hB).more hB.size))
  have HRW := Lib.hid (fun (w' : World) (hb : Below w.heap.size w w') => (hr.below hb).more hb.size)
  obtain ⟨i0, hi0, hz0, hz1, hz2⟩ := info_parts info_mv
  have HLZ := Lib.hid (keepZ_len h l)
  have HLF := Lib.hid (keepZ_fst h l)
  have hLN : (keepZ h l).length ≤ 1048576 := by
    have h1 := (keepZ_snd h l).length_le
    rw [List.length_map] at h1
    have h2 := oopsL_le G
    rw [oopsL_len] at h2
    omega
  have HW := Lib.hid (show ∀ k, k ≤ (keepZ h l).length → 1 + (wsOf (((keepZ h l).take k).map (·.2))).length ≤ 1048576 from fun k _ => by
    have h1 : (wsOf (((keepZ h l).take k).map (·.2))).length ≤ (wsOf l).length := wsOf_sub (((List.take_sublist k _).map _).trans (keepZ_snd h l))
    have h2 := G.fit.room
    have h3 := G.fit.hi
    rw [G.laid.words, List.length_cons] at h2
    omega)
  have x0 := hX.cell 0
  have x1 := hX.cell 1
  have HX := Lib.hid hX
  have HB := Lib.hid hB
  clear hX hB hr hq G
  unfold StV at HLV ⊢
  go_enter Tryd.func16, Tryd.ntmps16
  go_wp2_with fail
  generalize w.alloc (.cells #[.slice A n c, .slice A' n' c'] 32) = W1 at *
  refine HLV.out.mono ?_
  rintro e w1 ⟨v, rfl, hown, hb⟩
  have HOL := Lib.hid hown
  have HB1 := Lib.hid (below_top HB.out hb)
  have HX1 := Lib.hid (HX.out.below hb HX.out.lt)
  obtain ⟨Al, cl, hv⟩ := own_val hown
  subst hv
  rw [← HLZ.out]
  clear hown hb HLV x0 x1 HX
  go_wp2_with fail
  go_loopw [3, 4, 10] (fun lv av iv wr => ∃ k : Nat, iv = .int .i64 k ∧ k ≤ (keepZ h l).length ∧ av = .int .i64 ((1 + (wsOf (((keepZ h l).take k).map (·.2))).length : Nat) : Int) ∧ wr.ownsRow w1.heap.size 43 2 lv k (mvs (planF 1 ((keepZ h l).take k))) ∧ Below w1.heap.size w1 wr) (fun _ _ iv _ => (keepZ h l).length - (intOf iv).toNat)
  case atStart => exact ⟨0, rfl, Nat.zero_le _, rfl, ⟨rfl, .inl ⟨rfl, rfl⟩⟩, Below.refl _ _⟩
  case round =>
    obtain ⟨k, rfl, hk, rfl, hown, hb⟩ := hrel
    have HOW := Lib.hid hown
    have HBr := Lib.hid hb
    clear hown hb
    by_cases hlt : k < (keepZ h l).length
    · have hL0 : 0 < (liveO h l).length := by rw [← HLZ.out]; omega
      obtain ⟨gv, cv, hvv, hrv, _, hgv⟩ := Row.of_any HOL.out hL0
      rw [← HLZ.out] at hvv
      cases hvv
      have hcl := (hrv.below HBr.out).cell (u32s_get (l := liveO h l) (i := k) (by rw [← HLZ.out]; exact hlt))
      have hpz : (liveO h l).getD k 0 = ((keepZ h l)[k]).1 := by
        rw [← HLF.out, List.getD_eq_getElem?_getD, List.getElem?_map, List.getElem?_eq_getElem hlt]; rfl
      rw [hpz] at hcl
      obtain ⟨j, hj, hp1, hp2, hp3⟩ := keepZ_mem (List.getElem_mem hlt)
      have HSZ := Lib.hid (fun (w' : World) (hb : Below w.heap.size w w') => rsize_any (A' := A') (n' := n') (c' := c') (c := c) HG.out (HRW.out w' hb) hj)
      rw [← hp2] at HSZ
      have hq0 : posOf (l.take j) ≤ 1048576 := by
        have h1 := (w0_parts HG.out hj).2.2.2
        have h2 := HG.out.fit.room
        have h3 := HG.out.fit.hi
        omega
      have htk : (keepZ h l).take (k + 1) = (keepZ h l).take k ++ [(keepZ h l)[k]] := by rw [List.take_add_one, List.getElem?_eq_getElem hlt]; rfl
      have HP := Lib.hid (show planF 1 ((keepZ h l).take (k + 1)) = planF 1 ((keepZ h l).take k) ++ [(((keepZ h l)[k]).1, 2 * (1 + (wsOf (((keepZ h l).take k).map (·.2))).length))] by rw [htk, planF_snoc])
      have HA := Lib.hid (show 1 + (wsOf (((keepZ h l).take (k + 1)).map (·.2))).length = 1 + (wsOf (((keepZ h l).take k).map (·.2))).length + (3 + ((keepZ h l)[k]).2.fs.length) by
        rw [htk, List.map_append, wsOf_app, List.length_append, List.map_cons, List.map_nil, wsOf_cons, wsOf_nil, List.length_append, Ob.ws_len]; simp; omega)
      have hw1 := HW.out (k + 1) (by omega)
      rw [HA.out] at hw1
      rw [hp1] at hcl HP
      unfold StV at HSZ
      clear hpz hp1 hp2 hp3 htk hj hrv hL0
      generalize posOf (l.take j) = q at *
      have hq := tdiv2q q
      have hq2 := div2q q
      have hwq := wrK hq0
      have hwu := wrU hq0
      have hwi := wrI hq0
      generalize hoo : 2 * q = o at *
      generalize ((keepZ h l)[k]).2.fs.length = fl at *
      generalize planF 1 ((keepZ h l).take k) = P0 at *
      generalize 1 + (wsOf (((keepZ h l).take k).map (·.2))).length = at_ at *
      have hat0 : at_ ≤ 1048576 := Nat.le_trans (Nat.le_add_right _ _) hw1
      have hm2 := wrM2 hat0
      have hu2 := wrU2 hat0
      obtain ⟨hw3, hw5⟩ := wrA3 hw1
      have HLT := Lib.hid hlt
      have hk2 : k ≤ 1048576 := Nat.le_trans hk hLN
      have hbl : w1.heap.size ≤ wr.heap.size := HBr.out.size
      have HQQ := Lib.hid (And.intro hq (And.intro hq2 (And.intro hwq (And.intro hwu (And.intro hwi (And.intro hw3 hw5))))))
      clear hoo hk hw1 hq hq2 hwq hwu hwi hw3 hw5
      go_wp2_with (at_builtin; refine wpList_append_any _ rfl (.tmp 14) (.tmp 20) _ rfl w1.heap.size 43 i0 _ 2 8 Tryd.underlying34 hi0 hz0 hz1 hz2 rfl (by omega) u3 k _ rfl (own_keep HOW.out (fun q hq => Below.heap_alloc wr (.cells #[.int .u32 (o : Int), .int .u32 (2 * (at_ : Int))] 43) q (HOW.out.lt q hq).2)) (wr.heap.size + 1) (some ⟨wr.heap.size, 0, none⟩) 1 1 [.int .u32 (o : Int), .int .u32 (2 * (at_ : Int))] rfl (reads_two wr _ _ _) (fun u hu => by simp at hu; rcases hu with rfl | rfl <;> rfl) (by simp only [maxLen]; omega) (by omega) (by simp; omega) ?_; intro v3 w3 hown3 hgrow3 hat3; have HB3 := Lib.hid (below_grown (Nat.le_refl _) (HBr.out.alloc HBr.out.size (.cells #[.int .u32 (o : Int), .int .u32 (2 * (at_ : Int))] 43)) hgrow3 (fun q hq => (HOW.out.lt q hq).1)); have HO3 := Lib.hid hown3; have HX3 := Lib.hid (HX1.out.below HB3.out HX1.out.lt); have x0 := HX3.out.cell 0; have x1 := HX3.out.cell 1; clear hown3 hgrow3 hat3; obtain ⟨hq, hq2, hwq, hwu, hwi, hw3, hw5⟩ := HQQ.out)
      refine (HSZ.out _ (HB1.out.trans (HB3.out.mono HB1.out.size))).mono ?_
      rintro e w4 ⟨rfl, hb4⟩
      have HO4 := Lib.hid (own_below HO3.out hb4)
      have HB4 := Lib.hid (below_top HB3.out hb4)
      clear hb4 HO3 HB3 x0 x1
      go_wp2_with fail
      go_roundw
      case rel => exact ⟨k + 1, by go_num, HLT.out, by rw [hw5]; exact congrArg (Value.int .i64) (posK HA.out), by rw [HP.out, mvs_snoc]; exact HO4.out, HB4.out⟩
      case measure => have := HLT.out; simp [intOf]; omega
    · obtain rfl : k = (keepZ h l).length := by omega
      have HE := Lib.hid HOW.out
      rw [List.take_length] at HE
      clear HOW
      go_wp2_with fail
      go_ret
      refine ⟨_, rfl, ?_, HB1.out.trans (HBr.out.mono HB1.out.size)⟩
      unfold planM
      rw [planF_len]
      exact own_base HE.out HB1.out.size
end
end Go.Proofs.YtblekggklimpeaaDoor

namespace Go.Proofs.YtblekggklimpeaaDoor
open Go.RowKit Go.Sort
attribute [local go_sem] Oper.semAt_some
theorem make_oop1 (n : Nat) (hn : n ≤ 1048576) (w : World) :
    (Instr.makeSlice 23 (.int .i64 ((n : Int) + 1)) (.int .i64 ((n : Int) + 1))).run Tryd.prog w = .ok (.slice (some ⟨w.heap.size, 0, none⟩) (n + 1) (n + 1)) (w.alloc (.cells (zcells (.int .u32 0) (n + 1)) 41)) := by
  obtain ⟨i0, hi0, hz0, hz1, hz2⟩ := info_parts info_oop
  have := run_make_rowN (P := Tryd.prog) 23 41 i0 _ Tryd.underlying23 hi0 hz0 .i64 .i64 (n + 1) (n + 1) (Nat.le_refl _) (by rw [hz2]; omega) (by omega) w
  have e : madeCells (Value.int .u32 0).cells ((n + 1) * 1) = zcells (.int .u32 0) (n + 1) := by
    apply Array.ext
    · simp [madeCells, zcells, Value.cells]
    · intro i h1 h2
      simp [madeCells, zcells, Value.cells, Nat.mod_one]
  rw [hz1, e] at this
  rw [show ((n : Int) + 1) = ((n + 1 : Nat) : Int) by omega]
  exact this
theorem tozeros_row (w : World) (F : Nat) (hF : F ≤ maxLen) : Row (w.alloc (.cells (zcells (.int .u32 0) F) 41)) w.heap.size 41 F (u32s (toL [] F)) := by
  rw [toL_nil]
  exact ⟨zcells (.int .u32 0) F, Blk.new w _ _, by simp [u32s], hF, by simp [zcells], by simp [zcells, u32s]⟩
set_option maxRecDepth 100000 in
set_option maxHeartbeats 2000000 in
theorem rmoved_any {w : World} {gt N : Nat} {pl : List (Nat × Nat)} (R : Row w gt 41 N (u32s (toL pl N))) {o : Nat} (ho : o < 4294967296) (hk : kindM o = 2 → o / 2 < N) :
    Calls Tryd.prog 61 #[.slice (some ⟨gt, 0, none⟩) N N, .int .u32 o] w (Said (.int .u32 (whereM pl o : Nat)) w) := by
  have HK := Lib.hid (rkind_any o ho w)
  by_cases hk2 : kindM o = 2
  case neg =>
    have e2 : ((kindM o : Int) != 2) = true := by simp; omega
    have HF := Lib.hid (show whereM pl o = o by unfold whereM; rw [if_neg hk2])
    clear hk2 hk R
    generalize kindM o = k at *
    go_enter Tryd.func61, Tryd.ntmps61
    go_wp2_with fail
    refine HK.out.mono ?_
    rintro e w' ⟨rfl, rfl⟩
    go_wp2_with fail
    go_ret
    exact ⟨by rw [HF.out]; rfl, rfl⟩
  case pos =>
    rw [hk2] at HK
    have hi := hk hk2
    have hN : N ≤ 9223372036854775807 := by
      have h1 := R.len_le
      obtain ⟨cur, _, _, hm, _⟩ := R
      simp only [maxLen] at hm
      omega
    have HF := Lib.hid (show whereM pl o = goesM pl o by unfold whereM; rw [if_pos hk2])
    have hcl := R.cell (toL_get pl hi)
    rw [← (kind2 hk2).1] at hcl
    have hq : ((o : Int)).tdiv 2 = ((o / 2 : Nat) : Int) := by rw [Int.tdiv_eq_ediv_of_nonneg (by omega)]; omega
    have hq2 : ((o : Int)) / 2 = ((o / 2 : Nat) : Int) := by omega
    have hw64 : wrap64 ((o / 2 : Nat) : Int) = ((o / 2 : Nat) : Int) := IntWalk.wrap64_in _ (by omega)
    clear hk hk2 R
    generalize o / 2 = i at *
    generalize goesM pl o = y at *
    go_enter Tryd.func61, Tryd.ntmps61
    go_wp2_with fail
    refine HK.out.mono ?_
    rintro e w' ⟨rfl, rfl⟩
    go_wp2_with fail
    go_ret
    exact ⟨by rw [HF.out]; rfl, rfl⟩
end Go.Proofs.YtblekggklimpeaaDoor
