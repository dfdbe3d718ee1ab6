/- The document's Live. -/
/- The document's Plan. -/
/- CollectLives, walked: it answers true. -/
import Derived.Test.YtblekggklimpeaaDoorJKRWalk
import Derived.Test.YtblekggklimpeaaDoorJKRPut
import Derived.Test.YtblekggklimpeaaDoorJSoAll
import Derived.Test.YtblekggklimpeaaDoorJKBuilt
import Derived.Deep.RegionHeld3
import Derived.BigQuiet
set_option linter.unusedVariables false
set_option linter.unusedSimpArgs false
set_option linter.unusedSectionVars false
namespace Go.Proofs.YtblekggklimpeaaDoor
open Go.RowKit Go.Sort
attribute [local go_sem] Oper.semAt_some
/-- The live ones among the first k. -/
def livK (W : List Nat) (l : List Ob) (k : Nat) : List Nat := (((idxL l).take k).filter (fun i => decide (2 * i ∈ W))).map (2 * ·)
theorem livK_zero (W : List Nat) (l : List Ob) : livK W l 0 = [] := rfl
theorem livK_yes {W : List Nat} {l : List Ob} {k : Nat} (hk : k < l.length) (h : 2 * posOf (l.take k) ∈ W) : livK W l (k + 1) = livK W l k ++ [2 * posOf (l.take k)] := by
  unfold livK
  rw [idxL_take l hk, List.filter_append, List.map_append, List.filter_cons, if_pos (by simpa using h)]
  rfl
theorem livK_no {W : List Nat} {l : List Ob} {k : Nat} (hk : k < l.length) (h : ¬ 2 * posOf (l.take k) ∈ W) : livK W l (k + 1) = livK W l k := by
  unfold livK
  rw [idxL_take l hk, List.filter_append, List.map_append, List.filter_cons, if_neg (by simpa using h)]
  simp
theorem livK_len (W : List Nat) (l : List Ob) (k : Nat) : (livK W l k).length ≤ k := by
  unfold livK
  rw [List.length_map]
  have h1 := List.length_filter_le (fun i => decide (2 * i ∈ W)) ((idxL l).take k)
  have h2 := List.length_take_le k (idxL l)
  omega
theorem livK_all (h : HM) (l : List Ob) : livK (metO (walkM (heldM h) h.roots)) l l.length = liveO h l := by
  unfold livK liveO
  rw [List.take_of_length_le (by rw [idxL_len]; exact Nat.le_refl _)]
  have e : oopsL l = (idxL l).map (2 * ·) := by unfold oopsL idxL; rw [List.map_map]; rfl
  rw [e, List.filter_map]
  rfl
theorem idxL_get {l : List Ob} {k : Nat} (hk : k < l.length) : (idxL l)[k]? = some (posOf (l.take k)) := by
  unfold idxL
  rw [List.getElem?_map, List.getElem?_range hk]
  rfl
theorem wrM2 {q : Nat} (h : q ≤ 1048576) : wrap64 (2 * (q : Int)) = 2 * (q : Int) := IntWalk.wrap64_in _ (by omega)
theorem wrU2 {q : Nat} (h : q ≤ 1048576) : IntKind.u32.wrap (2 * (q : Int)) = 2 * (q : Int) := IntWalk.u32_in _ (by omega)
section
variable {w : World} {h : HM} {l : List Ob} {A A' : Option Addr} {n c n' c' : Nat}
set_option maxRecDepth 100000 in
set_option maxHeartbeats 8000000 in
theorem rlive_any (G : h.Good l) (hr : Reads w w.heap.size 1 A n (u32s h.words)) (hq : Reads w w.heap.size 1 A' n' (u32s h.roots)) :
    Calls Tryd.prog 19 #[StV A n c A' n' c'] w (OopsP (liveO h l) w) := by
  have hln : n = h.words.length := by have := hr.1; rw [u32s_len] at this; omega
  have hln' : n' = h.roots.length := by have := hq.1; rw [u32s_len] at this; omega
  subst hln hln'
  have hwl : h.words.length ≤ 1048576 := by have := G.fit.room; have := G.fit.hi; omega
  have hl2 : l.length ≤ 1048576 := by have h1 := oopsL_le G; rw [oopsL_len] at h1; exact h1
  have HG := Lib.hid G
  have hX := Blk.new w 32 #[.slice A h.words.length c, .slice A' h.roots.length c']
  have hB := (Below.refl w.heap.size w).alloc (Nat.le_refl _) (.cells #[.slice A h.words.length c, .slice A' h.roots.length c'] 32)
  have HRW := Lib.hid (fun (w' : World) (hb : Below w.heap.size w w') => (hr.below hb).more hb.size)
  have HWK := Lib.hid (rwalk_any (A' := A') (n' := h.roots.length) (c' := c') (c := c) (cf := c') G ((hr.below hB).more hB.size) ((hq.below hB).more hB.size) G.sound.roots G.fit.r32 (by have := G.fit.roots; omega))
  have hMl := walk_len G G.sound.roots
  have HMB := Lib.hid (walk_isB G G.sound.roots)
  have HLA := Lib.hid (livK_all h l)
  have hmk := make_bool1 h.words.length hwl
  have x0 := hX.cell 0
  have x1 := hX.cell 1
  have HX := Lib.hid hX
  have HB := Lib.hid hB
  have hsz := World.size_alloc w (.cells #[.slice A h.words.length c, .slice A' h.roots.length c'] 32)
  clear hX hB hr hq G
  unfold StV at HWK ⊢
  unfold RWalkP at HWK
  generalize walkM (heldM h) h.roots = M at *
  go_enter Tryd.func19, Tryd.ntmps19
  go_wp2_with fail
  generalize w.alloc (.cells #[.slice A h.words.length c, .slice A' h.roots.length c'] 32) = W1 at *
  refine HWK.out.mono ?_
  rintro e w2 ⟨vl, vc, rfl, hown, _, hb2⟩
  have HOW := Lib.hid (own_base hown (show w.heap.size ≤ W1.heap.size from HB.out.size))
  have HB2 := Lib.hid (below_top HB.out hb2)
  have HX2 := Lib.hid (HX.out.below hb2 HX.out.lt)
  have y0 := HX2.out.cell 0
  clear hown hb2 HWK x0 x1 HX
  obtain ⟨Al, cl, hvl⟩ := own_val HOW.out
  subst hvl
  go_upto_region 3 with fail
  have hb3 := HB2.out.alloc HB2.out.size (.cells (zcells (.bool false) (h.words.length + 1)) 4)
  have hbt := (Below.refl w2.heap.size w2).alloc (Nat.le_refl _) (.cells (zcells (.bool false) (h.words.length + 1)) 4)
  have HMK := Lib.hid (show Row (w2.alloc (.cells (zcells (.bool false) (h.words.length + 1)) 4)) w2.heap.size 4 (h.words.length + 1) (bools (markL ((metO M).take 0) (h.words.length + 1))) by
    rw [List.take_zero, markL_nil]
    exact falses_row w2 (h.words.length + 1) (by simp only [maxLen]; omega))
  have HX3 := Lib.hid (HX2.out.below hbt HX2.out.lt)
  have HOW3 := Lib.hid (own_below HOW.out hbt)
  have HB3 := Lib.hid hb3
  have hgs : w.heap.size ≤ w2.heap.size := HB2.out.size
  clear hb3 hbt HOW HB2 HX2 y0 hmk
  generalize (w2.alloc (.cells (zcells (.bool false) (h.words.length + 1)) 4)) = w3 at *
  generalize w2.heap.size = gs at *
  go_wp2_with fail
  go_loopw [25] (fun iv wr => ∃ k : Nat, iv = .int .i64 k ∧ k ≤ M.length ∧ Row wr gs 4 (h.words.length + 1) (bools (markL ((metO M).take k) (h.words.length + 1))) ∧ wr.ownsRow w.heap.size 41 1 (.slice Al M.length cl) M.length (u32s (metO M)) ∧ Blk wr w.heap.size 32 #[.slice A h.words.length c, .slice A' h.roots.length c'] ∧ Below w.heap.size w wr) (fun iv _ => M.length - (intOf iv).toNat)
  case atStart => exact ⟨0, rfl, Nat.zero_le _, HMK.out, HOW3.out, HX3.out, HB3.out⟩
  case round =>
    clear HMK HOW3 HX3 HB3
    obtain ⟨k, rfl, hk, hmk, how, hx, hb⟩ := hrel
    have HMK := Lib.hid hmk
    have HOW := Lib.hid how
    have HX := Lib.hid hx
    have HB := Lib.hid hb
    clear hmk how hx hb
    by_cases hlt : k < M.length
    · obtain ⟨gv, cv, hvv, hrv, _, hgv⟩ := Row.of_any HOW.out (by omega)
      have hml : k < (metO M).length := by rw [metO_len]; exact hlt
      have hcl := hrv.cell (u32s_get (l := metO M) (i := k) hml)
      have HTK := Lib.hid (show (metO M).take (k + 1) = (metO M).take k ++ [(metO M).getD k 0] by rw [List.take_add_one, List.getElem?_eq_getElem hml, List.getD_eq_getElem?_getD, List.getElem?_eq_getElem hml]; rfl)
      obtain ⟨j, hj, ho⟩ := isB_k HG.out (HMB.out _ (metO_mem hlt))
      rw [ho] at hcl HTK
      have hq1 : posOf (l.take j) < h.words.length + 1 := by have := (w0_parts HG.out hj).2.2.2; omega
      have hq0 : posOf (l.take j) ≤ 1048576 := by have := (w0_parts HG.out hj).2.2.2; omega
      generalize posOf (l.take j) = q at *
      have hq := tdiv2q q
      have hq2 := div2q q
      have hwq := wrK hq0
      have hwu := wrU hq0
      have hwi := wrI hq0
      generalize hoo : 2 * q = o at *
      have HOO := Lib.hid hoo
      clear hoo
      generalize h.words.length + 1 = N at *
      have z0 := HMK.out.frozen q
      have y0 := HMK.out.cell (markL_get ((metO M).take k) hq1)
      have HLT := Lib.hid hlt
      cases hvv
      clear hj ho hml hrv hq0
      go_wp2_with fail
      have hset : ∀ i, i ≠ gs → (wr.setCell ⟨gs, q, none⟩ (.bool true)).heap[i]? = wr.heap[i]? := fun i hi => Below.heap_setCell wr ⟨gs, q, none⟩ _ i hi
      have hsb := HMK.out.set q (.bool true)
      rw [markL_set, HOO.out, ← HTK.out] at hsb
      have hx6 := HX.out.same (hset _ (HMK.out.ne_blk HX.out (by decide)).symm)
      have how6 := own_keep HOW.out (fun i hi => hset i (fun e => by obtain ⟨cur, hcb, _⟩ := HMK.out; exact own_ne_blk HOW.out hcb (by decide) (e ▸ hi)))
      have hb6 : Below w.heap.size w (wr.setCell ⟨gs, q, none⟩ (.bool true)) := HB.out.setCell (p := ⟨gs, q, none⟩) hgs _
      have HE := Lib.hid (And.intro hsb (And.intro how6 (And.intro hx6 hb6)))
      clear hset hsb hx6 how6 hb6
      go_roundw
      case rel => exact ⟨k + 1, by go_num, HLT.out, HE.out.1, HE.out.2.1, HE.out.2.2.1, HE.out.2.2.2⟩
      case measure => have := HLT.out; simp [intOf]; omega
    · obtain rfl : k = M.length := by omega
      rw [List.take_of_length_le (by rw [metO_len]; exact Nat.le_refl _)] at HMK
      have x0 := HX.out.cell 0
      have x1 := HX.out.cell 1
      have HOB := Lib.hid (robjects_any (A' := A') (n' := h.roots.length) (c' := c') (c := c) HG.out (HRW.out wr HB.out))
      unfold StV at HOB
      clear hlt hk HOW
      go_wp2_with fail
      refine HOB.out.mono ?_
      rintro e w6 ⟨v6, rfl, hown6, hb6⟩
      have HIX := Lib.hid (own_base hown6 HB.out.size)
      rw [idxL_len] at HIX
      have HMK6 := Lib.hid (HMK.out.below hb6)
      have HB6 := Lib.hid (below_top HB.out hb6)
      obtain ⟨Ai, ci, hvi⟩ := own_val HIX.out
      subst hvi
      clear hown6 hb6 HOB HMK HB HX x0 x1
      go_wp2_with fail
      go_loopw [8, 38] (fun lv iv wr => ∃ k : Nat, iv = .int .i64 k ∧ k ≤ l.length ∧ wr.ownsRow w.heap.size 41 1 lv (livK (metO M) l k).length (u32s (livK (metO M) l k)) ∧ wr.ownsRow w.heap.size 3 1 (.slice Ai l.length ci) l.length (ints (idxL l)) ∧ Row wr gs 4 (h.words.length + 1) (bools (markL (metO M) (h.words.length + 1))) ∧ Below w.heap.size w wr) (fun _ iv _ => l.length - (intOf iv).toNat)
      case atStart => exact ⟨0, rfl, Nat.zero_le _, ⟨rfl, .inl ⟨rfl, rfl⟩⟩, HIX.out, HMK6.out, HB6.out⟩
      case round =>
        clear HMK6 HIX HB6
        obtain ⟨k, rfl, hk, how, hix, hmk, hb⟩ := hrel
        have HMK := Lib.hid hmk
        have HOW := Lib.hid how
        have HIX := Lib.hid hix
        have HB := Lib.hid hb
        clear hmk how hix hb
        by_cases hlt : k < l.length
        · obtain ⟨gv, cv, hvv, hrv, _, hgv⟩ := Row.of_any HIX.out (by omega)
          have hcl := hrv.cell (ints_atK (idxL_get hlt))
          have hq1 : posOf (l.take k) < h.words.length + 1 := by have := (w0_parts HG.out hlt).2.2.2; omega
          have hq0 : posOf (l.take k) ≤ 1048576 := by have := (w0_parts HG.out hlt).2.2.2; omega
          have y0 := HMK.out.cell (markL_get (metO M) hq1)
          have HLT := Lib.hid hlt
          have HYES := Lib.hid (fun hm => livK_yes (W := metO M) hlt hm)
          have HNO := Lib.hid (fun hm => livK_no (W := metO M) hlt hm)
          have hvl := livK_len (metO M) l k
          generalize posOf (l.take k) = q at *
          cases hvv
          by_cases hm : 2 * q ∈ metO M
          · rw [decide_eq_true hm] at y0
            have HS := Lib.hid (HYES.out hm)
            have hw2 := wrM2 hq0
            have hu2 := wrU2 hq0
            clear hm HYES HNO hrv
            generalize livK (metO M) l k = xs at *
            obtain ⟨i0, hi0, hz0, hz1, hz2⟩ := info_parts info_oop
            have hs5 := HB.out.size
            go_wp2_with (at_builtin; refine wpList_append_any _ rfl (.tmp 46) (.tmp 50) _ rfl w.heap.size 41 i0 _ 1 4 Tryd.underlying23 hi0 hz0 hz1 hz2 rfl (by omega) u8 xs.length _ rfl (HOW.out.alloc _) (wr.heap.size + 1) (some ⟨wr.heap.size, 0, none⟩) 1 1 [.int .u32 (2 * (q : Int))] rfl ⟨rfl, fun _ => ⟨_, rfl, by first | exact Nat.zero_lt_one | decide | simp, cell_one_new _ _ _⟩⟩ (fun u hu => by rcases List.mem_singleton.1 hu with rfl; rfl) (by simp only [maxLen]; omega) (by omega) (by first | omega | (simp; omega)) ?_; intro v1 w7 hown7 hgrow hat7)
            have hb7 := below_grown (Nat.le_refl _) (HB.out.alloc hs5 _) hgrow (fun i hi => (HOW.out.lt i hi).1)
            have hsm : ∀ i, i < wr.heap.size → u8.ownBlock ≠ some i → w7.heap[i]? = wr.heap[i]? := fun i h1 h2 => (hgrow.block i (by simp; omega) (fun e => h2 (by first | exact e | exact e.symm))).trans (Below.heap_alloc wr _ i h1)
            have hmk7 := HMK.out.same (hsm gs HMK.out.lt (by obtain ⟨cur, hcb, _⟩ := HMK.out; exact own_ne_blk HOW.out hcb (by decide)))
            have hix7 := own_keep HIX.out (fun i hi => hsm i (HIX.out.lt i hi).2 (fun e => own_ne_own HOW.out HIX.out (by decide) i e hi))
            have HE := Lib.hid (And.intro hmk7 (And.intro hix7 (And.intro hb7 hown7)))
            clear hmk7 hix7 hb7 hown7 hsm hgrow hat7
            go_roundw
            case rel => exact ⟨k + 1, by go_num, HLT.out, by rw [HS.out, u32s_app, List.length_append]; exact HE.out.2.2.2, HE.out.2.1, HE.out.1, HE.out.2.2.1⟩
            case measure => have := HLT.out; simp [intOf]; omega
          · rw [decide_eq_false hm] at y0
            have HS := Lib.hid (HNO.out hm)
            clear hm HYES HNO hrv
            go_wp2_with fail
            go_roundw
            case rel => exact ⟨k + 1, by go_num, HLT.out, by rw [HS.out]; exact HOW.out, HIX.out, HMK.out, HB.out⟩
            case measure => have := HLT.out; simp [intOf]; omega
        · obtain rfl : k = l.length := by omega
          rw [HLA.out] at HOW
          clear hlt hk
          go_wp2_with fail
          go_ret
          exact ⟨_, rfl, HOW.out, HB.out⟩
end
end Go.Proofs.YtblekggklimpeaaDoor

namespace Go.Proofs.YtblekggklimpeaaDoor
open Go.RowKit Go.Sort
attribute [local go_sem] Oper.semAt_some
theorem wrA3 {a f : Nat} (h : a + (3 + f) ≤ 1048576) : wrap64 (3 + (f : Int)) = 3 + (f : Int) ∧ wrap64 ((a : Int) + (3 + (f : Int))) = (a : Int) + (3 + (f : Int)) := ⟨IntWalk.wrap64_in _ (by omega), IntWalk.wrap64_in _ (by omega)⟩
section
variable {w : World} {h : HM} {l : List Ob} {A A' : Option Addr} {n c n' c' : Nat}
set_option maxRecDepth 100000 in
set_option maxHeartbeats 8000000 in
theorem rplan_any (G : h.Good l) (hr : Reads w w.heap.size 1 A n (u32s h.words)) (hq : Reads w w.heap.size 1 A' n' (u32s h.roots)) :
    Calls Tryd.prog 16 #[StV A n c A' n' c'] w (PlanP (planM h l) w) := by
  have HG := Lib.hid G
  have hX := Blk.new w 32 #[.slice A n c, .slice A' n' c']
  have hB := (Below.refl w.heap.size w).alloc (Nat.le_refl _) (.cells #[.slice A n c, .slice A' n' c'] 32)
  have HLV := Lib.hid (rlive_any (A := A) (A' := A') (n := n) (n' := n') (c := c) (c' := c') G ((hr.below hB).more hB.size) ((hq.below hB).more hB.size))
  have HRW := Lib.hid (fun (w' : World) (hb : Below w.heap.size w w') => (hr.below hb).more hb.size)
  obtain ⟨i0, hi0, hz0, hz1, hz2⟩ := info_parts info_mv
  have HLZ := Lib.hid (keepZ_len h l)
  have HLF := Lib.hid (keepZ_fst h l)
  have hLN : (keepZ h l).length ≤ 1048576 := by
    have h1 := (keepZ_snd h l).length_le
    rw [List.length_map] at h1
    have h2 := oopsL_le G
    rw [oopsL_len] at h2
    omega
  have HW := Lib.hid (show ∀ k, k ≤ (keepZ h l).length → 1 + (wsOf (((keepZ h l).take k).map (·.2))).length ≤ 1048576 from fun k _ => by
    have h1 : (wsOf (((keepZ h l).take k).map (·.2))).length ≤ (wsOf l).length := wsOf_sub (((List.take_sublist k _).map _).trans (keepZ_snd h l))
    have h2 := G.fit.room
    have h3 := G.fit.hi
    rw [G.laid.words, List.length_cons] at h2
    omega)
  have x0 := hX.cell 0
  have x1 := hX.cell 1
  have HX := Lib.hid hX
  have HB := Lib.hid hB
  clear hX hB hr hq G
  unfold StV at HLV ⊢
  go_enter Tryd.func16, Tryd.ntmps16
  go_wp2_with fail
  generalize w.alloc (.cells #[.slice A n c, .slice A' n' c'] 32) = W1 at *
  refine HLV.out.mono ?_
  rintro e w1 ⟨v, rfl, hown, hb⟩
  have HOL := Lib.hid hown
  have HB1 := Lib.hid (below_top HB.out hb)
  have HX1 := Lib.hid (HX.out.below hb HX.out.lt)
  obtain ⟨Al, cl, hv⟩ := own_val hown
  subst hv
  rw [← HLZ.out]
  clear hown hb HLV x0 x1 HX
  go_wp2_with fail
  go_loopw [3, 4, 10] (fun lv av iv wr => ∃ k : Nat, iv = .int .i64 k ∧ k ≤ (keepZ h l).length ∧ av = .int .i64 ((1 + (wsOf (((keepZ h l).take k).map (·.2))).length : Nat) : Int) ∧ wr.ownsRow w1.heap.size 43 2 lv k (mvs (planF 1 ((keepZ h l).take k))) ∧ Below w1.heap.size w1 wr) (fun _ _ iv _ => (keepZ h l).length - (intOf iv).toNat)
  case atStart => exact ⟨0, rfl, Nat.zero_le _, rfl, ⟨rfl, .inl ⟨rfl, rfl⟩⟩, Below.refl _ _⟩
  case round =>
    obtain ⟨k, rfl, hk, rfl, hown, hb⟩ := hrel
    have HOW := Lib.hid hown
    have HBr := Lib.hid hb
    clear hown hb
    by_cases hlt : k < (keepZ h l).length
    · have hL0 : 0 < (liveO h l).length := by rw [← HLZ.out]; omega
      obtain ⟨gv, cv, hvv, hrv, _, hgv⟩ := Row.of_any HOL.out hL0
      rw [← HLZ.out] at hvv
      cases hvv
      have hcl := (hrv.below HBr.out).cell (u32s_get (l := liveO h l) (i := k) (by rw [← HLZ.out]; exact hlt))
      have hpz : (liveO h l).getD k 0 = ((keepZ h l)[k]).1 := by
        rw [← HLF.out, List.getD_eq_getElem?_getD, List.getElem?_map, List.getElem?_eq_getElem hlt]; rfl
      rw [hpz] at hcl
      obtain ⟨j, hj, hp1, hp2, hp3⟩ := keepZ_mem (List.getElem_mem hlt)
      have HSZ := Lib.hid (fun (w' : World) (hb : Below w.heap.size w w') => rsize_any (A' := A') (n' := n') (c' := c') (c := c) HG.out (HRW.out w' hb) hj)
      rw [← hp2] at HSZ
      have hq0 : posOf (l.take j) ≤ 1048576 := by
        have h1 := (w0_parts HG.out hj).2.2.2
        have h2 := HG.out.fit.room
        have h3 := HG.out.fit.hi
        omega
      have htk : (keepZ h l).take (k + 1) = (keepZ h l).take k ++ [(keepZ h l)[k]] := by rw [List.take_add_one, List.getElem?_eq_getElem hlt]; rfl
      have HP := Lib.hid (show planF 1 ((keepZ h l).take (k + 1)) = planF 1 ((keepZ h l).take k) ++ [(((keepZ h l)[k]).1, 2 * (1 + (wsOf (((keepZ h l).take k).map (·.2))).length))] by rw [htk, planF_snoc])
      have HA := Lib.hid (show 1 + (wsOf (((keepZ h l).take (k + 1)).map (·.2))).length = 1 + (wsOf (((keepZ h l).take k).map (·.2))).length + (3 + ((keepZ h l)[k]).2.fs.length) by
        rw [htk, List.map_append, wsOf_app, List.length_append, List.map_cons, List.map_nil, wsOf_cons, wsOf_nil, List.length_append, Ob.ws_len]; simp; omega)
      have hw1 := HW.out (k + 1) (by omega)
      rw [HA.out] at hw1
      rw [hp1] at hcl HP
      unfold StV at HSZ
      clear hpz hp1 hp2 hp3 htk hj hrv hL0
      generalize posOf (l.take j) = q at *
      have hq := tdiv2q q
      have hq2 := div2q q
      have hwq := wrK hq0
      have hwu := wrU hq0
      have hwi := wrI hq0
      generalize hoo : 2 * q = o at *
      generalize ((keepZ h l)[k]).2.fs.length = fl at *
      generalize planF 1 ((keepZ h l).take k) = P0 at *
      generalize 1 + (wsOf (((keepZ h l).take k).map (·.2))).length = at_ at *
      have hat0 : at_ ≤ 1048576 := Nat.le_trans (Nat.le_add_right _ _) hw1
      have hm2 := wrM2 hat0
      have hu2 := wrU2 hat0
      obtain ⟨hw3, hw5⟩ := wrA3 hw1
      have HLT := Lib.hid hlt
      have hk2 : k ≤ 1048576 := Nat.le_trans hk hLN
      have hbl : w1.heap.size ≤ wr.heap.size := HBr.out.size
      have HQQ := Lib.hid (And.intro hq (And.intro hq2 (And.intro hwq (And.intro hwu (And.intro hwi (And.intro hw3 hw5))))))
      clear hoo hk hw1 hq hq2 hwq hwu hwi hw3 hw5
      go_wp2_with (at_builtin; refine wpList_append_any _ rfl (.tmp 14) (.tmp 20) _ rfl w1.heap.size 43 i0 _ 2 8 Tryd.underlying34 hi0 hz0 hz1 hz2 rfl (by omega) u3 k _ rfl (own_keep HOW.out (fun q hq => Below.heap_alloc wr (.cells #[.int .u32 (o : Int), .int .u32 (2 * (at_ : Int))] 43) q (HOW.out.lt q hq).2)) (wr.heap.size + 1) (some ⟨wr.heap.size, 0, none⟩) 1 1 [.int .u32 (o : Int), .int .u32 (2 * (at_ : Int))] rfl (reads_two wr _ _ _) (fun u hu => by simp at hu; rcases hu with rfl | rfl <;> rfl) (by simp only [maxLen]; omega) (by omega) (by simp; omega) ?_; intro v3 w3 hown3 hgrow3 hat3; have HB3 := Lib.hid (below_grown (Nat.le_refl _) (HBr.out.alloc HBr.out.size (.cells #[.int .u32 (o : Int), .int .u32 (2 * (at_ : Int))] 43)) hgrow3 (fun q hq => (HOW.out.lt q hq).1)); have HO3 := Lib.hid hown3; have HX3 := Lib.hid (HX1.out.below HB3.out HX1.out.lt); have x0 := HX3.out.cell 0; have x1 := HX3.out.cell 1; clear hown3 hgrow3 hat3; obtain ⟨hq, hq2, hwq, hwu, hwi, hw3, hw5⟩ := HQQ.out)
      refine (HSZ.out _ (HB1.out.trans (HB3.out.mono HB1.out.size))).mono ?_
      rintro e w4 ⟨rfl, hb4⟩
      have HO4 := Lib.hid (own_below HO3.out hb4)
      have HB4 := Lib.hid (below_top HB3.out hb4)
      clear hb4 HO3 HB3 x0 x1
      go_wp2_with fail
      go_roundw
      case rel => exact ⟨k + 1, by go_num, HLT.out, by rw [hw5]; exact congrArg (Value.int .i64) (posK HA.out), by rw [HP.out, mvs_snoc]; exact HO4.out, HB4.out⟩
      case measure => have := HLT.out; simp [intOf]; omega
    · obtain rfl : k = (keepZ h l).length := by omega
      have HE := Lib.hid HOW.out
      rw [List.take_length] at HE
      clear HOW
      go_wp2_with fail
      go_ret
      refine ⟨_, rfl, ?_, HB1.out.trans (HBr.out.mono HB1.out.size)⟩
      unfold planM
      rw [planF_len]
      exact own_base HE.out HB1.out.size
end
end Go.Proofs.YtblekggklimpeaaDoor

namespace Go.Proofs.YtblekggklimpeaaDoor
open Go.RowKit Go.Sort
attribute [local go_sem] Oper.semAt_some
def Cs.cells (k : Cs) : Array Value := #[.int .i64 k.size, .slice k.A k.n k.c, .slice k.A' k.n' k.c', .int .u32 (k.last : Nat)]
theorem cells4K {w : World} {g : Nat} {t : TypeId} {a b c d : Value} (h : Blk w g t #[a, b, c, d]) : w.cell? ⟨g, 0, none⟩ = some a ∧ w.cell? ⟨g, 1, none⟩ = some b ∧ w.cell? ⟨g, 2, none⟩ = some c ∧ w.cell? ⟨g, 3, none⟩ = some d := ⟨h.cell 0, h.cell 1, h.cell 2, h.cell 3⟩
theorem own_readsN {w : World} {base n : Nat} {v : Value} {xs : List Nat} {e : TypeId} (h : w.ownsRow base e 1 v n (u32s xs)) : ∃ A c, v = .slice A n c ∧ Reads w w.heap.size 1 A n (u32s xs) ∧ n ≤ 9223372036854775807 := by
  by_cases h0 : 0 < n
  · obtain ⟨A, c, hv, hr⟩ := own_readsK h h0
    refine ⟨A, c, hv, hr, ?_⟩
    rcases h.2 with ⟨rfl, h2⟩ | ⟨g, cap, cur, _, _, _, h4, h5, _⟩
    · omega
    · simp only [maxLen] at h5
      omega
  · obtain ⟨A, c, hv⟩ := own_val h
    have h1 := h.1
    refine ⟨A, c, hv, ⟨by omega, fun h2 => absurd h2 h0⟩, by omega⟩
section
variable {W : World}
set_option maxRecDepth 100000 in
set_option maxHeartbeats 8000000 in
theorem livesL_any (W : World) (E : Env W) (k : Cs) (hk : k.At W W.heap.size) : Calls Tryd.prog 3 #[k.agg] W (Told (.bool true) W) := by
  have hb1 := (Below.refl W.heap.size W).alloc (Nat.le_refl _) (.cells k.cells 26)
  have B1 := Blk.new W 26 k.cells
  have HB1 := Lib.hid hb1
  have HBX := Lib.hid B1
  have HE := Lib.hid (E.below hb1)
  have HK := Lib.hid (hk.below hb1)
  have HBU := Lib.hid (built_any _ (E.below hb1) k (hk.below hb1))
  have HAW := Lib.hid (fun (w : World) (E : Env w) => awake_any w E)
  have HST := Lib.hid (fun (w : World) => store_any k w)
  have hsz := World.size_alloc W (.cells k.cells 26)
  clear hb1 B1 E hk
  unfold Cs.cells at HB1 HBX HE HK HBU hsz
  unfold Cs.agg at HBU HST ⊢
  unfold StV at HST
  go_enter Tryd.func3, Tryd.ntmps3
  obtain ⟨x0, x1, x2, x3⟩ := cells4K HBX.out
  go_wp2_with fail
  clear x0 x1 x2 x3
  generalize W.alloc (.cells #[.int .i64 k.size, .slice k.A k.n k.c, .slice k.A' k.n' k.c', .int .u32 (k.last : Nat)] 26) = W1 at *
  refine HBU.out.mono ?_
  rintro e w1 (⟨hno, ⟨v, rfl⟩, hb⟩ | ⟨hok, p, g, rfl, L, hws, hrs⟩)
  · have HB2 := Lib.hid (below_top HB1.out hb)
    have HE2 := Lib.hid (HE.out.below hb)
    clear hb hno HBU
    go_wp2_with fail
    refine (HAW.out _ HE2.out).mono ?_
    rintro e w2 ⟨rfl, hb2⟩
    have HB3 := Lib.hid (below_top HB2.out hb2)
    clear hb2
    go_wp2_with fail
    go_ret
    exact ⟨rfl, HB3.out⟩
  · have HL := Lib.hid L
    obtain ⟨l, G⟩ := L.good
    have HG := Lib.hid G
    have HEV := Lib.hid L.envw
    have HB2 := Lib.hid (below_top HB1.out L.below)
    have HX2 := Lib.hid (HBX.out.below L.below HBX.out.lt)
    have HK2 := Lib.hid (HK.out.below L.below)
    have HWS := Lib.hid (And.intro hws hrs)
    have HOK := Lib.hid hok
    clear L G hws hrs hok HBU HB1 HBX HE HK
    go_wp2_with fail
    refine (HAW.out _ HEV.out).mono ?_
    rintro e w2 ⟨rfl, hb2⟩
    have HL3 := Lib.hid (HL.out.after hb2)
    have HB3 := Lib.hid (below_top HB2.out hb2)
    have HX3 := Lib.hid (HX2.out.below hb2 HX2.out.lt)
    have HK3 := Lib.hid (HK2.out.below hb2)
    obtain ⟨x0, x1, x2, x3⟩ := cells4K HX3.out
    clear hb2 HB2 HX2 HK2 HL HEV
    go_wp2_with fail
    refine (HST.out _).mono ?_
    rintro e w3 ⟨rfl, hb3⟩
    have HB4 := Lib.hid (below_top HB3.out hb3)
    have HL4 := Lib.hid (HL3.out.after hb3)
    have HX4 := Lib.hid (HX3.out.below hb3 HX3.out.lt)
    have HRD := Lib.hid (fun (w' : World) (hb : Below w3.heap.size w3 w') => show Reads w' w'.heap.size 1 k.A k.n (u32s k.h.words) ∧ Reads w' w'.heap.size 1 k.A' k.n' (u32s k.h.roots) from by
      have h1 := (HK3.out.below hb3).below hb
      rw [HWS.out.1, HWS.out.2]
      exact ⟨h1.hr, h1.hr'⟩)
    have hb4 : Below w3.heap.size w3 (w3.alloc (.cells #[.slice k.A k.n k.c, .slice k.A' k.n' k.c'] 32)) := (Below.refl _ _).alloc (Nat.le_refl _) _
    have HS4 := Lib.hid (Blk.new w3 32 #[.slice k.A k.n k.c, .slice k.A' k.n' k.c'])
    have HX5 := Lib.hid (HX4.out.below hb4 HX4.out.lt)
    have HB5 := Lib.hid hb4
    have HPL := Lib.hid (fun (w' : World) (hb : Below w3.heap.size w3 w') => plan_any (HL4.out.after hb).at_ HG.out (HL4.out.after hb).envw.spares)
    have HLV := Lib.hid (fun (w' : World) (hb : Below w3.heap.size w3 w') => live_any (HL4.out.after hb).at_ HG.out (HL4.out.after hb).envw.spares)
    have HRP := Lib.hid (fun (w' : World) (hb : Below w3.heap.size w3 w') => rplan_any (c := k.c) (c' := k.c') HG.out (HRD.out w' hb).1 (HRD.out w' hb).2)
    have HRL := Lib.hid (fun (w' : World) (hb : Below w3.heap.size w3 w') => rlive_any (c := k.c) (c' := k.c') HG.out (HRD.out w' hb).1 (HRD.out w' hb).2)
    have hsz1 : k.size = (k.h.size : Int) := by
      have := HOK.out.1
      show k.size = ((k.size.toNat : Nat) : Int)
      omega
    have hn1 := (HK3.out).hn
    have hn2 := (HK3.out).hn'
    have HIS := Lib.hid (fun (w' : World) (hb : Below w3.heap.size w3 w') => is_yes (HL4.out.after hb) k hsz1 rfl k.A k.n k.c hn1 (HRD.out w' hb).1 k.A' k.n' k.c' hn2 (HRD.out w' hb).2)
    rw [HL4.out.hg] at HPL HLV
    clear hb3 hb4 HB3 HX3 HK3 HL3 HX4 HRD HWS HOK hsz1 hn1 hn2 x0 x1 x2 x3 HAW HST
    unfold StV at HRP HRL HIS
    unfold Cs.agg at HIS
    unfold ptr at HPL HLV
    go_upto_region 5 with fail
    generalize hW4 : (w3.alloc (.cells #[.slice k.A k.n k.c, .slice k.A' k.n' k.c'] 32)) = w4 at *
    have HS3 := Lib.hid (show w3.heap.size < w4.heap.size by rw [← hW4]; simp)
    clear hW4
    go_wp2_with fail
    refine (HPL.out _ HB5.out).mono ?_
    rintro e w5 ⟨v5, rfl, hown5, hb5⟩
    obtain ⟨A5, g5, c5, rfl, hg5, ho5⟩ := own_two hown5
    have HO5 := Lib.hid ho5
    have HB6 := Lib.hid (below_top HB5.out hb5)
    have HS5 := Lib.hid (HS4.out.below hb5 HS4.out.lt)
    have HX6 := Lib.hid (HX5.out.below hb5 HX5.out.lt)
    have y0 := HS5.out.cell 0
    have y1 := HS5.out.cell 1
    clear hown5 hb5 ho5 HB5 HS4 HX5
    go_wp2_with fail
    refine (HRP.out _ HB6.out).mono ?_
    rintro e w6 ⟨v6, rfl, hown6, hb6⟩
    obtain ⟨A6, g6, c6, rfl, hg6, ho6⟩ := own_two hown6
    have HO6 := Lib.hid ho6
    have HO5 := Lib.hid (fun h0 => And.intro (HO5.out h0).1 ((HO5.out h0).2.same hb6.size (hb6.block _ (HO5.out h0).2.1)))
    have HB7 := Lib.hid (below_top HB6.out hb6)
    have HS6 := Lib.hid (HS5.out.below hb6 HS5.out.lt)
    have HX7 := Lib.hid (HX6.out.below hb6 HX6.out.lt)
    clear hown6 hb6 ho6 HB6 HS5 HX6 y0 y1 HPL HRP
    go_upto_region 7 with fail
    have HC := Lib.hid (fun (w' : World) (hb : Below w6.heap.size w6 w') => show w'.cell? ⟨W.heap.size, 0, none⟩ = some (.int .i64 k.size) ∧ w'.cell? ⟨W.heap.size, 1, none⟩ = some (.slice k.A k.n k.c) ∧ w'.cell? ⟨W.heap.size, 2, none⟩ = some (.slice k.A' k.n' k.c') ∧ w'.cell? ⟨W.heap.size, 3, none⟩ = some (.int .u32 (k.last : Nat)) ∧ w'.cell? ⟨w3.heap.size, 0, none⟩ = some (.slice k.A k.n k.c) ∧ w'.cell? ⟨w3.heap.size, 1, none⟩ = some (.slice k.A' k.n' k.c') from
      ⟨(HX7.out.below hb HX7.out.lt).cell 0, (HX7.out.below hb HX7.out.lt).cell 1, (HX7.out.below hb HX7.out.lt).cell 2, (HX7.out.below hb HX7.out.lt).cell 3, (HS6.out.below hb HS6.out.lt).cell 0, (HS6.out.below hb HS6.out.lt).cell 1⟩)
    obtain ⟨c0, c1, c2, c3, c4, c5'⟩ := HC.out w6 (Below.refl _ _)
    have HLV6 := Lib.hid (fun (w' : World) (hb : Below w6.heap.size w6 w') => HLV.out w' (below_top HB7.out hb))
    have HRL6 := Lib.hid (fun (w' : World) (hb : Below w6.heap.size w6 w') => HRL.out w' (below_top HB7.out hb))
    have HIS6 := Lib.hid (fun (w' : World) (hb : Below w6.heap.size w6 w') => HIS.out w' (below_top HB7.out hb))
    have HSO := Lib.hid (fun (w7 w8 : World) (hb : Below w7.heap.size w7 w8) (A7 : Option Addr) (c7 : Nat) (A8 : Option Addr) (c8 : Nat) (hn : (liveO k.h l).length ≤ 9223372036854775807) (r7 : Reads w7 w7.heap.size 1 A7 (liveO k.h l).length (u32s (liveO k.h l))) (r8 : Reads w8 w8.heap.size 1 A8 (liveO k.h l).length (u32s (liveO k.h l))) =>
      oops_any A7 A8 (liveO k.h l).length (liveO k.h l).length c7 c8 (liveO k.h l) (liveO k.h l) w8 hn hn ((r7.below hb).more hb.size) r8)
    rw [sameL_self] at HSO
    have hB0 : Below w6.heap.size w6 w6.drew := below_drew (Below.refl _ _)
    clear HLV HRL HIS
    go_region_held3 (fun w' => w'.cell? ⟨W.heap.size, 0, none⟩ = some (.int .i64 k.size) ∧ w'.cell? ⟨W.heap.size, 1, none⟩ = some (.slice k.A k.n k.c) ∧ w'.cell? ⟨W.heap.size, 2, none⟩ = some (.slice k.A' k.n' k.c') ∧ w'.cell? ⟨W.heap.size, 3, none⟩ = some (.int .u32 (k.last : Nat)) ∧ w'.cell? ⟨w3.heap.size, 0, none⟩ = some (.slice k.A k.n k.c) ∧ w'.cell? ⟨w3.heap.size, 1, none⟩ = some (.slice k.A' k.n' k.c'))
      (first | exact ⟨c0, c1, c2, c3, c4, c5'⟩ | exact HC.out _ (by assumption) | go_keep)
      (first
        | (go_at_call 18; refine (HLV6.out _ (by assumption)).mono ?_; rintro e w7 ⟨v7, rfl, ho7, hb7⟩; obtain ⟨A7, c7, rfl, hr7, hn7⟩ := own_readsN ho7; have hB7 := below_top (by assumption) hb7)
        | (go_at_call 19; refine (HRL6.out _ (by assumption)).mono ?_; rintro e w8 ⟨v8, rfl, ho8, hb8⟩; obtain ⟨A8, c8, rfl, hr8, hn8⟩ := own_readsN ho8; have hB8 := below_top (by assumption) hb8)
        | (go_at_call 17; refine (HSO.out _ _ hb8 _ _ _ _ hn7 hr7 hr8).mono ?_; rintro e w9 ⟨rfl, hb9⟩; have hB9 := below_top hB8 hb9)
        | (go_at_call 20; refine (HIS6.out _ (by assumption)).mono ?_; rintro e w10 ⟨rfl, hb10⟩; have hB10 := below_top hB9 hb10))
    have HF := Lib.hid (HB4.out.trans ((below_top HB7.out hB10).mono HB4.out.size))
    have HO5' := Lib.hid (fun h0 => And.intro (HO5.out h0).1 ((HO5.out h0).2.same hB10.size (hB10.block _ (HO5.out h0).2.1)))
    have HO6' := Lib.hid (fun h0 => And.intro (HO6.out h0).1 ((HO6.out h0).2.same hB10.size (hB10.block _ (HO6.out h0).2.1)))
    have hpn : (planM k.h l).length ≤ 9223372036854775807 := by
      have h1 := congrArg List.length (planM_fst k.h l)
      rw [List.length_map] at h1
      omega
    clear hB0 hB7 hB8 hB9 hB10 hb7 hb8 hb9 hb10 ho7 ho8 hr7 hr8 hn7 hn8 c0 c1 c2 c3 c4 c5' HO5 HO6 HLV6 HRL6 HIS6 HSO HC HB7 HS6 HX7 HL4 HG
    generalize planM k.h l = pl at *
    go_wp2_with fail
    go_loopw [8] (fun iv wr => ∃ j : Nat, iv = .int .i64 j ∧ j ≤ pl.length ∧ Below w10.heap.size w10 wr) (fun iv _ => pl.length - (intOf iv).toNat)
    case atStart => exact ⟨0, rfl, Nat.zero_le _, Below.refl _ _⟩
    case round =>
      obtain ⟨j, rfl, hj, hb⟩ := hrel
      have HB := Lib.hid hb
      clear hb
      by_cases hlt : j < pl.length
      · obtain ⟨rfl, hp5⟩ := HO5'.out (by omega)
        obtain ⟨rfl, hp6⟩ := HO6'.out (by omega)
        have hq : pl[j]? = some pl[j] := List.getElem?_eq_getElem hlt
        obtain ⟨d0, d1⟩ := (hp5.same HB.out.size (HB.out.block _ hp5.1)).2 j _ hq
        obtain ⟨e0, e1⟩ := (hp6.same HB.out.size (HB.out.block _ hp6.1)).2 j _ hq
        have HLT := Lib.hid hlt
        clear hp5 hp6 hq
        generalize (pl[j]).1 = x at *
        generalize (pl[j]).2 = y at *
        go_upto_region 12 with fail
        go_quiet (fail)
        have hbq := below_drewN (Below.refl wr.heap.size wr) nq
        have HBq := Lib.hid (below_top HB.out hbq)
        clear hbq d0 d1 e0 e1 HB
        go_wp2_with fail
        go_roundw
        case rel => exact ⟨j + 1, by go_num, HLT.out, HBq.out⟩
        case measure => have := HLT.out; simp [intOf]; omega
      · obtain rfl : j = pl.length := by omega
        clear hlt hj
        go_wp2_with fail
        go_ret
        exact ⟨rfl, HF.out.trans (HB.out.mono HF.out.size)⟩
end
end Go.Proofs.YtblekggklimpeaaDoor
