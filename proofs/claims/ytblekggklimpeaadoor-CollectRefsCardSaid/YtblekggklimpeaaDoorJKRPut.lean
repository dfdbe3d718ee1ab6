/- The document's put. -/
/- The document's Objects. -/
/- The document's Walk. -/
/- The document's Live. -/
import Derived.Test.YtblekggklimpeaaDoorJKBuilt
import Derived.Test.YtblekggklimpeaaDoorJUntil
import Derived.Test.YtblekggklimpeaaDoorJSoAll
set_option linter.unusedVariables false
set_option linter.unusedSimpArgs false
set_option linter.unusedSectionVars false
namespace Go.Proofs.YtblekggklimpeaaDoor
open Go.RowKit
attribute [local go_sem] Oper.semAt_some
theorem rkind_any (o : Nat) (ho : o < 4294967296) (w : World) :
    Calls Tryd.prog 27 #[.int .u32 o] w fun e w' => e = .returned (.int .i64 (kindM o)) ∧ w = w' := by
  by_cases h0 : o = 0
  · subst h0
    go_enter Tryd.func27, Tryd.ntmps27
    go_wp2_with fail
    go_ret
    exact ⟨rfl, rfl⟩
  · have hb : ((o : Int) == 0) = false := by simpa using h0
    by_cases h2 : o % 2 = 1
    · have h1 : (((o : Int) % 2) == 1) = true := by simp; omega
      have HK := Lib.hid (show kindM o = 1 by simp [kindM, h0, h2]); clear h2 h0
      go_enter Tryd.func27, Tryd.ntmps27
      go_wp2_with fail
      go_ret
      exact ⟨by rw [HK.out]; rfl, rfl⟩
    · have h1 : (((o : Int) % 2) == 1) = false := by simp; omega
      have HK := Lib.hid (show kindM o = 2 by simp [kindM, h0, h2]); clear h2 h0
      go_enter Tryd.func27, Tryd.ntmps27
      go_wp2_with fail
      go_ret
      exact ⟨by rw [HK.out]; rfl, rfl⟩
theorem own_ne_own {w : World} {B B' s s' n n' : Nat} {e e' : TypeId} {v v' : Value} {xs xs' : List Value} (h : w.ownsRow B e s v n xs) (k : w.ownsRow B' e' s' v' n' xs') (hne : e ≠ e') : ∀ q, v.ownBlock = some q → v'.ownBlock ≠ some q := by
  intro q hq
  rcases k.2 with ⟨rfl, _⟩ | ⟨g', cap, cur, rfl, _, h3, _⟩
  · intro e; cases e
  · intro e2
    injection e2 with e2
    subst e2
    exact own_ne_blk h h3 hne hq
theorem kind2 {o : Nat} (h : kindM o = 2) : o = 2 * (o / 2) ∧ o ≠ 0 := by
  unfold kindM at h
  split at h
  · cases h
  · split at h
    · cases h
    · omega
set_option maxRecDepth 100000 in
set_option maxHeartbeats 4000000 in
theorem rput_any {w : World} {B gx gs N : Nat} {vl vc : Value} {L : Wk} (K : WkAt w B gx gs N vl vc L) (hB : B ≤ w.heap.size) {o : Nat} (ho : o < 4294967296) (hk : kindM o = 2 → o / 2 < N) (by_ : Int) (hl : L.length ≤ 4194304) :
    Calls Tryd.prog 84 #[.pointer (some ⟨gx, 0, none⟩), .int .u32 o, .int .i64 by_] w (RputP B gx gs N vl vc (putW L o by_) w) := by
  have HK := Lib.hid (rkind_any o ho w)
  by_cases hk2 : kindM o = 2
  case neg =>
    have e2 : ((kindM o : Int) != 2) = true := by simp; omega
    have HF := Lib.hid (show putW L o by_ = L from putW_old (fun e => hk2 e.1))
    have HG := Lib.hid K
    clear hk2 K hk
    generalize kindM o = k at *
    go_enter Tryd.func84, Tryd.ntmps84
    go_wp2_with fail
    refine HK.out.mono ?_
    rintro e w' ⟨rfl, rfl⟩
    go_wp2_with fail
    refine bodyPost_ret (v := .tuple #[]) (by simp [results, Tryd.results84, go_sem]) rfl ?_
    exact ⟨rfl, vl, vc, by rw [HF.out]; exact HG.out, .refl _ _ _ _ _⟩
  case pos =>
  rw [hk2] at HK
  have hi := hk hk2
  have HO2 := Lib.hid (kind2 hk2).1
  have hN : N ≤ 9223372036854775807 := by
    have h1 := K.seen.len_le
    obtain ⟨cur, _, _, hm, _⟩ := K.seen
    simp only [maxLen] at hm
    omega
  have c0 := K.box.cell 0
  have c1 := K.box.cell 1
  have c2 := K.box.cell 2
  have hsc := K.seen.cell (markL_get (metO L) hi)
  have hq : ((o : Int)).tdiv 2 = ((o / 2 : Nat) : Int) := by rw [Int.tdiv_eq_ediv_of_nonneg (by omega)]; omega
  have hq2 : ((o : Int)) / 2 = ((o / 2 : Nat) : Int) := by omega
  have hw64 : wrap64 ((o / 2 : Nat) : Int) = ((o / 2 : Nat) : Int) := IntWalk.wrap64_in _ (by omega)
  have HNEW := Lib.hid (fun (hm : o ∉ metO L) => putW_new (b := by_) hk2 hm)
  have HOLD := Lib.hid (fun (hm : o ∈ metO L) => putW_old (o := o) (b := by_) (l := L) (fun e => e.2 hm))
  rw [← (kind2 hk2).1] at hsc
  clear hk hk2
  generalize o / 2 = i at *
  by_cases hm : o ∈ metO L
  · rw [decide_eq_true hm] at hsc
    have HF := Lib.hid (HOLD.out hm)
    have HG := Lib.hid K
    clear hm K HOLD HNEW
    go_enter Tryd.func84, Tryd.ntmps84
    go_wp2_with fail
    refine HK.out.mono ?_
    rintro e w' ⟨rfl, rfl⟩
    go_wp2_with fail
    refine bodyPost_ret (v := .tuple #[]) (by simp [results, Tryd.results84, go_sem]) rfl ?_
    exact ⟨rfl, vl, vc, by rw [HF.out]; exact HG.out, .refl _ _ _ _ _⟩
  · rw [decide_eq_false hm] at hsc
    have HF := Lib.hid (HNEW.out hm)
    have HG := Lib.hid K
    clear hm K HOLD HNEW
    have z2 := HG.out.seen.frozen i
    obtain ⟨i0, hi0, hz0, hz1, hz2⟩ := info_parts info_oop
    obtain ⟨j0, hj0, hy0, hy1, hy2⟩ := info_parts info_intK
    go_enter Tryd.func84, Tryd.ntmps84
    go_wp2_with fail
    refine HK.out.mono ?_
    rintro e w' ⟨rfl, rfl⟩
    go_upto_region 2 with fail
    have hs2 : ∀ q, q ≠ gs → (w.setCell ⟨gs, i, none⟩ (.bool true)).heap[q]? = w.heap[q]? := fun q hq => Below.heap_setCell w ⟨gs, i, none⟩ _ q hq
    have nGS : gs ≠ gx := HG.out.seen.ne_blk HG.out.box (by decide)
    have hNL : vl.ownBlock ≠ some gs := by obtain ⟨cur, hb, _⟩ := HG.out.seen; exact own_ne_blk HG.out.list hb (by decide)
    have hNC : vc.ownBlock ≠ some gs := by obtain ⟨cur, hb, _⟩ := HG.out.seen; exact own_ne_blk HG.out.came hb (by decide)
    have HBX := Lib.hid (HG.out.box.same (hs2 gx nGS.symm))
    have HOL := Lib.hid (own_keep HG.out.list (fun q hq => hs2 q (fun e => hNL (e ▸ hq))))
    have HOC := Lib.hid (own_keep HG.out.came (fun q hq => hs2 q (fun e => hNC (e ▸ hq))))
    have HSN := Lib.hid (show Row (w.setCell ⟨gs, i, none⟩ (.bool true)) gs 4 N (bools (markL (metO L ++ [o]) N)) by
      have := HG.out.seen.set i (.bool true)
      rw [markL_set, ← HO2.out] at this
      exact this)
    have HS2 := Lib.hid (show (w.setCell ⟨gs, i, none⟩ (.bool true)).os = w.os ∧ (w.setCell ⟨gs, i, none⟩ (.bool true)).tape = w.tape ∧ (w.setCell ⟨gs, i, none⟩ (.bool true)).output = w.output ∧ (w.setCell ⟨gs, i, none⟩ (.bool true)).heap.size = w.heap.size ∧ ∀ q, q ≠ gs → (w.setCell ⟨gs, i, none⟩ (.bool true)).heap[q]? = w.heap[q]? from ⟨rfl, rfl, rfl, by simp [World.setCell], hs2⟩)
    have HGM := Lib.hid (And.intro HG.out.hg HG.out.hs)
    have hB2 : B ≤ (w.setCell ⟨gs, i, none⟩ (.bool true)).heap.size := by rw [HS2.out.2.2.2.1]; exact hB
    clear hs2 nGS hNL hNC HG c0 c1 c2 hsc z2 hq hq2 hw64 hi HK
    generalize w.setCell ⟨gs, i, none⟩ (.bool true) = w2 at *
    have c0 := HBX.out.cell 0
    have HNL := Lib.hid (own_ne_blk HOL.out HBX.out (by decide))
    have HNC := Lib.hid (own_ne_blk HOC.out HBX.out (by decide))
    go_upto_region 3 with (at_builtin; refine wpList_append_any _ rfl (.tmp 32) (.tmp 34) _ rfl B 41 i0 _ 1 4 Tryd.underlying23 hi0 hz0 hz1 hz2 rfl (by omega) vl L.length _ rfl (own_keep HOL.out (fun q hq => Below.heap_alloc w2 (.cells #[.int .u32 (o : Int)] 41) q (HOL.out.lt q hq).2)) (w2.heap.size + 1) (some ⟨w2.heap.size, 0, none⟩) 1 1 (u32s [o]) rfl ⟨rfl, fun _ => ⟨_, rfl, by simp, cell_one_new _ _ _⟩⟩ (one_u32 _) (by simp only [maxLen]; omega) (by omega) (by simp; omega) ?_; intro v1 w3 hown3 hgrow3 hat3; obtain ⟨A3, c3, rfl⟩ := own_val hown3; have HG3 := Lib.hid (fun q (hq : q < w2.heap.size) (hn : vl.ownBlock ≠ some q) => (hgrow3.block q (by simp; omega) (fun e => hn (by first | exact e | exact e.symm))).trans (Below.heap_alloc w2 (.cells #[.int .u32 (o : Int)] 41) q hq)); have HBX3 := Lib.hid (HBX.out.same (HG3.out gx HBX.out.lt HNL.out)); have hz3 := HBX3.out.frozen 0; have hc3 := HBX3.out.cell 0)
    have HS3 := Lib.hid (show w2.heap.size ≤ w3.heap.size from Nat.le_trans (by rw [World.size_alloc]; exact Nat.le_succ _) hgrow3.size)
    have HT3 := Lib.hid (show w3.os = w2.os ∧ w3.tape = w2.tape ∧ w3.output = w2.output from ⟨hgrow3.os, hgrow3.tape, hgrow3.output⟩)
    have HV1 := Lib.hid (show (Value.slice A3 (L.length + 1) c3).ownBlock = vl.ownBlock ∨ ∃ q, (Value.slice A3 (L.length + 1) c3).ownBlock = some q ∧ w2.heap.size ≤ q from by
      rcases hat3 with e | e
      · exact .inl e
      · exact .inr ⟨_, e, by simp⟩)
    have HVC := Lib.hid (own_ne_own HOL.out HOC.out (by decide))
    have hset : ∀ q, q ≠ gx → (w3.setCell ⟨gx, 0, none⟩ (.slice A3 (L.length + 1) c3)).heap[q]? = w3.heap[q]? := fun q hq => Below.heap_setCell w3 ⟨gx, 0, none⟩ _ q hq
    have HN1 := Lib.hid (own_ne_blk hown3 HBX3.out (by decide))
    have HOL4 := Lib.hid (own_keep hown3 (fun q hq => hset q (fun e => HN1.out (e ▸ hq))))
    have HOC4 := Lib.hid (own_keep HOC.out (w' := w3.setCell ⟨gx, 0, none⟩ (.slice A3 (L.length + 1) c3)) (fun q hq => (hset q (fun e => HNC.out (e ▸ hq))).trans (HG3.out q (HOC.out.lt q hq).2 (fun e => HVC.out q e hq))))
    have HBX4 := Lib.hid (HBX3.out.set_ 0 (.slice A3 (L.length + 1) c3))
    have HG4 := Lib.hid (show ∀ q, q < w2.heap.size → q ≠ gx → vl.ownBlock ≠ some q → (w3.setCell ⟨gx, 0, none⟩ (.slice A3 (L.length + 1) c3)).heap[q]? = w2.heap[q]? from fun q h1 h2 h3 => (hset q h2).trans (HG3.out q h1 h3))
    have HT4 := Lib.hid (show (w3.setCell ⟨gx, 0, none⟩ (.slice A3 (L.length + 1) c3)).os = w2.os ∧ (w3.setCell ⟨gx, 0, none⟩ (.slice A3 (L.length + 1) c3)).tape = w2.tape ∧ (w3.setCell ⟨gx, 0, none⟩ (.slice A3 (L.length + 1) c3)).output = w2.output ∧ w2.heap.size ≤ (w3.setCell ⟨gx, 0, none⟩ (.slice A3 (L.length + 1) c3)).heap.size from ⟨HT3.out.1, HT3.out.2.1, HT3.out.2.2, by simp [World.setCell]; exact HS3.out⟩)
    clear hown3 hgrow3 hat3 HG3 HBX3 hz3 hc3 hset c0 HS3 HT3 HOC
    generalize w3.setCell ⟨gx, 0, none⟩ (.slice A3 (L.length + 1) c3) = w4 at *
    have hB4 : B ≤ w4.heap.size := Nat.le_trans hB2 HT4.out.2.2.2
    have c1 : w4.cell? ⟨gx, 1, none⟩ = some vc := HBX4.out.cell 1
    obtain ⟨Ac, cc, hvc⟩ := own_val HOC4.out
    subst hvc
    have hLl : (L.map (·.2)).length = L.length := List.length_map _
    go_wp2_with (at_builtin; refine wpList_append_any _ rfl (.tmp 42) (.tmp 44) _ rfl B 3 j0 _ 1 8 Tryd.underlying78 hj0 hy0 hy1 hy2 rfl (by omega) (.slice Ac L.length cc) L.length _ rfl (own_keep HOC4.out (fun q hq => Below.heap_alloc w4 (.cells #[.int .i64 by_] 3) q (HOC4.out.lt q hq).2)) (w4.heap.size + 1) (some ⟨w4.heap.size, 0, none⟩) 1 1 (zsK [by_]) rfl ⟨rfl, fun _ => ⟨_, rfl, by simp, cell_one_new _ _ _⟩⟩ (one_zsK _) (by simp only [maxLen]; omega) (by omega) (by simp; omega) ?_; intro v5 w5 hown5 hgrow5 hat5; obtain ⟨A5, c5, rfl⟩ := own_val hown5; have HG5 := Lib.hid (fun q (hq : q < w4.heap.size) (hn : (Value.slice Ac L.length cc).ownBlock ≠ some q) => (hgrow5.block q (by simp; omega) (fun e => hn (by first | exact e | exact e.symm))).trans (Below.heap_alloc w4 (.cells #[.int .i64 by_] 3) q hq)); have HBX5 := Lib.hid (HBX4.out.same (HG5.out gx HBX4.out.lt (own_ne_blk HOC4.out HBX4.out (by decide)))); have hz5 := HBX5.out.frozen 1; have hc5 := HBX5.out.cell 1)
    have HFIN := Lib.hid (show RputP B gx gs N vl (.slice Ac L.length cc) (L ++ [(o, by_)]) w (.returned (.tuple #[])) (w5.setCell ⟨gx, 1, none⟩ (.slice A5 (L.length + 1) c5)) from by
      have hset : ∀ q, q ≠ gx → (w5.setCell ⟨gx, 1, none⟩ (.slice A5 (L.length + 1) c5)).heap[q]? = w5.heap[q]? := fun q hq => Below.heap_setCell w5 ⟨gx, 1, none⟩ _ q hq
      have hs5 : w4.heap.size ≤ w5.heap.size := Nat.le_trans (by rw [World.size_alloc]; exact Nat.le_succ _) hgrow5.size
      have hs42 : w2.heap.size ≤ w4.heap.size := HT4.out.2.2.2
      have hs2 : w2.heap.size = w.heap.size := HS2.out.2.2.2.1
      have hgsx : gs ≠ gx := HSN.out.ne_blk HBX.out (by decide)
      have hNL : vl.ownBlock ≠ some gs := by obtain ⟨cur, hb, _⟩ := HSN.out; exact own_ne_blk HOL.out hb (by decide)
      have hsn4 : Row w4 gs 4 N (bools (markL (metO L ++ [o]) N)) := HSN.out.same (HG4.out gs HSN.out.lt hgsx hNL)
      have hNC : (Value.slice Ac L.length cc).ownBlock ≠ some gs := by obtain ⟨cur, hb, _⟩ := hsn4; exact own_ne_blk HOC4.out hb (by decide)
      have hsame : ∀ q, q < w.heap.size → q ≠ gx → q ≠ gs → vl.ownBlock ≠ some q → (Value.slice Ac L.length cc).ownBlock ≠ some q → (w5.setCell ⟨gx, 1, none⟩ (.slice A5 (L.length + 1) c5)).heap[q]? = w.heap[q]? := fun q h1 h2 h3 h4 h5 =>
        (hset q h2).trans ((HG5.out q (by omega) h5).trans ((HG4.out q (by omega) h2 h4).trans (HS2.out.2.2.2.2 q h3)))
      have hl5 : w5.ownsRow B 41 1 (.slice A3 (L.length + 1) c3) (L.length + 1) (u32s (metO L) ++ u32s [o]) := own_keep HOL4.out (fun q hq => HG5.out q (HOL4.out.lt q hq).2 (fun e => own_ne_own HOL4.out HOC4.out (by decide) q hq e))
      refine ⟨rfl, .slice A3 (L.length + 1) c3, .slice A5 (L.length + 1) c5, ⟨HBX5.out.set_ 1 _, ?_, ?_, ?_, HGM.out.1, HGM.out.2⟩, ⟨?_, ?_, ?_, ?_, hsame, ?_⟩⟩
      · rw [metO_snoc, u32s_app, List.length_append]
        exact own_keep hl5 (fun q hq => hset q (fun e => own_ne_blk hl5 HBX5.out (by decide) (e ▸ hq)))
      · rw [List.map_append, zsK_app, List.length_append]
        exact own_keep hown5 (fun q hq => hset q (fun e => own_ne_blk hown5 HBX5.out (by decide) (e ▸ hq)))
      · rw [metO_snoc]
        exact hsn4.same ((hset gs hgsx).trans (HG5.out gs hsn4.lt hNC))
      · exact hgrow5.os.trans (HT4.out.1.trans HS2.out.1)
      · exact hgrow5.tape.trans (HT4.out.2.1.trans HS2.out.2.1)
      · exact hgrow5.output.trans (HT4.out.2.2.1.trans HS2.out.2.2.1)
      · simp [World.setCell]; omega
      · intro q h1 h2 h3
        constructor
        · rcases HV1.out with e | ⟨j, e, hj⟩
          · rw [e]; exact h2
          · rw [e]; intro e2; injection e2 with e2; omega
        · rcases hat5 with e | e
          · intro e2; exact h3 (e ▸ e2)
          · intro e2; rw [e] at e2; injection e2 with e2; simp at e2; omega)
    rw [← HF.out] at HFIN
    refine bodyPost_end (v := .tuple #[]) (by simp [results, Tryd.results84, go_sem]) rfl ?_
    exact HFIN.out
end Go.Proofs.YtblekggklimpeaaDoor

namespace Go.Proofs.YtblekggklimpeaaDoor
open Go.RowKit
attribute [local go_sem] Oper.semAt_some
theorem wrK {n : Nat} (h : n ≤ 1048576) : wrap64 (n : Int) = (n : Int) := IntWalk.wrap64_in _ (by omega)
theorem wrK3 {n : Nat} (h : n ≤ 1048576) : wrap64 ((n : Int) + 3) = (n : Int) + 3 := IntWalk.wrap64_in _ (by omega)
theorem wrK4 {n : Nat} (h : n ≤ 1048576) : wrap64 (3 + (n : Int)) = 3 + (n : Int) := IntWalk.wrap64_in _ (by omega)
theorem wrK5 {a n : Nat} (h : a + 3 + n ≤ 1048576) : wrap64 ((a : Int) + (3 + (n : Int))) = (a : Int) + (3 + (n : Int)) := IntWalk.wrap64_in _ (by omega)
theorem leK {a b : Nat} (h : a + 3 ≤ b) : decide ((a : Int) + 3 ≤ (b : Int)) = true := decide_eq_true (by omega)
theorem measK {a f n : Nat} (h : a + 3 + f ≤ n) : n + 3 - ((a : Int) + (3 + (f : Int))).toNat < n + 3 - ((a : Int)).toNat := by omega
theorem posK {a f p : Nat} (h : p = a + (3 + f)) : (a : Int) + (3 + (f : Int)) = (p : Int) := by omega
theorem ltK {n : Nat} : decide ((n : Int) + 3 ≤ (n : Int)) = false := decide_eq_false (by omega)
theorem idxL_len (l : List Ob) : (idxL l).length = l.length := by unfold idxL; simp
theorem idxL_take (l : List Ob) {k : Nat} (hk : k < l.length) : (idxL l).take (k + 1) = (idxL l).take k ++ [posOf (l.take k)] := by
  rw [List.take_add_one, List.getElem?_eq_getElem (by rw [idxL_len]; exact hk)]
  unfold idxL
  simp
section
variable {w : World} {h : HM} {l : List Ob} {A A' : Option Addr} {n c n' c' : Nat}
/-- What Objects answers. -/
def IntsP (xs : List Nat) (w : World) (e : Ending) (w' : World) : Prop :=
  ∃ v, e = .returned v ∧ w'.ownsRow w.heap.size 3 1 v xs.length (ints xs) ∧ Below w.heap.size w w'
set_option maxRecDepth 100000 in
set_option maxHeartbeats 4000000 in
theorem robjects_any (G : h.Good l) (hr : Reads w w.heap.size 1 A n (u32s h.words)) :
    Calls Tryd.prog 59 #[StV A n c A' n' c'] w (IntsP (idxL l) w) := by
  have hln : n = h.words.length := by have := hr.1; rw [u32s_len] at this; omega
  subst hln
  have hwl : h.words.length ≤ 1048576 := by have := G.fit.room; have := G.fit.hi; omega
  have hBX := (Below.refl w.heap.size w).alloc (Nat.le_refl _) (.cells #[.slice A h.words.length c, .slice A' n' c'] 32)
  have HB := Lib.hid hBX
  have HX := Lib.hid (Blk.new w 32 #[.slice A h.words.length c, .slice A' n' c'])
  have HR := Lib.hid ((hr.below hBX).more hBX.size)
  have HG := Lib.hid G
  have hl2 : l.length ≤ 1048576 := by have h1 := oopsL_le G; rw [oopsL_len] at h1; exact h1
  have HEND := Lib.hid (show posOf (l.take l.length) = h.words.length by rw [List.take_length, G.laid.words, List.length_cons]; unfold posOf; omega)
  obtain ⟨i0, hi0, hz0, hz1, hz2⟩ := info_parts info_intK
  clear hBX hr G
  unfold StV
  go_enter Tryd.func59, Tryd.ntmps59
  go_wp2_with fail
  have hw1 : w.heap.size < (w.alloc (.cells #[.slice A h.words.length c, .slice A' n' c'] 32)).heap.size := by simp
  generalize w.alloc (.cells #[.slice A h.words.length c, .slice A' n' c'] 32) = W1 at *
  go_loopw [3, 4] (fun lv iv wr => ∃ k : Nat, k ≤ l.length ∧ iv = .int .i64 (posOf (l.take k) : Nat) ∧ wr.ownsRow W1.heap.size 3 1 lv k (ints ((idxL l).take k)) ∧ Below W1.heap.size W1 wr) (fun _ iv _ => h.words.length + 3 - (intOf iv).toNat)
  case atStart => exact ⟨0, by omega, rfl, ⟨rfl, .inl ⟨rfl, rfl⟩⟩, Below.refl _ _⟩
  case round =>
    obtain ⟨k, hk, rfl, hown, hb⟩ := hrel
    have HOW := Lib.hid hown
    have HBR := Lib.hid hb
    clear hown hb
    have x0 := (HX.out.below HBR.out HX.out.lt).cell 0
    by_cases hlt : k < l.length
    · obtain ⟨h0, h1, -, h3⟩ := w0_parts HG.out hlt
      have hps : posOf (l.take (k + 1)) = posOf (l.take k) + (3 + (l[k]).fs.length) := by
        unfold posOf
        rw [List.take_add_one, List.getElem?_eq_getElem hlt, wsOf_app, List.length_append, Option.toList_some, wsOf_cons, wsOf_nil, List.append_nil, Ob.ws_len]
        omega
      have HPS := Lib.hid hps
      have HIX := Lib.hid (idxL_take l hlt)
      have hpl : posOf (l.take k) < h.words.length := by omega
      obtain ⟨ad, u, rfl, hbl, hu, hc1⟩ := HR.out.at_ hpl
      rw [u32s_get hpl, h0] at hu
      injection hu with hu
      subst hu
      have HCW := Lib.hid (show ∀ w' : World, Below W1.heap.size W1 w' → w'.cell? (ad.add (posOf (l.take k))) = some (.int .u32 ((l[k]).x.w0 : Int)) from fun w' hb => (World.cell?_of_block (a := ad.add (posOf (l.take k))) (by rw [block_of_add]; exact hb.block _ hbl)).trans hc1)
      have hc := HCW.out wr HBR.out
      clear hc1
      have HM := Lib.hid (show (((l[k]).x.w0 : Int)).tmod 16777216 = ((l[k]).fs.length : Int) by rw [← h1]; exact (Int.ofNat_tmod _ _).symm)
      have hB1 : W1.heap.size ≤ wr.heap.size := HBR.out.size
      clear h0 h1 hps
      generalize (idxL l).take k = xs at *
      generalize posOf (l.take k) = at_ at *
      generalize (l[k]).x.w0 = w0 at *
      generalize (l[k]).fs.length = fl at *
      have hw3 : wrap64 ((at_ : Int) + 3) = (at_ : Int) + 3 := wrK3 (Nat.le_trans (Nat.le_of_lt hpl) hwl)
      have hw4 : wrap64 (3 + (fl : Int)) = 3 + (fl : Int) := wrK4 (Nat.le_trans (Nat.le_trans (Nat.le_add_left _ _) h3) hwl)
      have hw5 : wrap64 ((at_ : Int) + (3 + (fl : Int))) = (at_ : Int) + (3 + (fl : Int)) := wrK5 (Nat.le_trans h3 hwl)
      have hfl : fl ≤ 1048576 := Nat.le_trans (Nat.le_trans (Nat.le_add_left _ _) h3) hwl
      have hw64 := wrK hfl
      have hd : decide ((at_ : Int) + 3 ≤ (h.words.length : Int)) = true := leK (Nat.le_trans (Nat.le_add_right _ _) h3)
      have hk2 : k ≤ 1048576 := Nat.le_trans hk hl2
      have HLT := Lib.hid hlt
      have HPL := Lib.hid hpl
      have HH3 := Lib.hid h3
      clear h3 hpl hbl hfl hlt hk
      go_wp2_with (at_builtin; refine wpList_append_any _ rfl (.tmp 11) (.tmp 13) _ rfl W1.heap.size 3 i0 _ 1 8 Tryd.underlying78 hi0 hz0 hz1 hz2 rfl (by omega) u3 k _ rfl (HOW.out.alloc _) (wr.heap.size + 1) (some ⟨wr.heap.size, 0, none⟩) 1 1 (ints [at_]) rfl ⟨rfl, fun _ => ⟨_, rfl, by simp, cell_one_new _ _ _⟩⟩ (one_intsK _) (by simp only [maxLen]; omega) (by omega) (by simp; omega) ?_; intro v1 w6 hown6 hgrow hat6; have hb6 := below_grown (Nat.le_refl _) (HBR.out.alloc HBR.out.size _) hgrow (fun q hq => (HOW.out.lt q hq).1); have y0 := (HX.out.below hb6 HX.out.lt).cell 0; have hc6 := HCW.out w6 hb6; have hm := HM.out; have hpl := HPL.out)
      go_roundw
      case rel => exact ⟨k + 1, HLT.out, by rw [hw5]; exact congrArg (Value.int .i64) (posK HPS.out), by rw [HIX.out, ints_appK]; exact hown6, hb6⟩
      case measure => rw [hw5]; exact measK HH3.out
    · obtain rfl : k = l.length := by omega
      have hE := HEND.out
      rw [hE]
      rw [List.take_of_length_le (by rw [idxL_len]; exact Nat.le_refl _)] at HOW
      have hw3 := wrK3 hwl
      have hd := ltK (n := h.words.length)
      clear hlt hk hE
      go_wp2_with fail
      go_ret
      refine ⟨_, rfl, by rw [idxL_len]; exact own_base HOW.out (Nat.le_of_lt hw1), (HB.out.trans (HBR.out.mono (Nat.le_of_lt hw1)))⟩
end
end Go.Proofs.YtblekggklimpeaaDoor

namespace Go.Proofs.YtblekggklimpeaaDoor
open Go.RowKit Go.Sort
attribute [local go_sem] Oper.semAt_some
theorem make_bool1 (n : Nat) (hn : n ≤ 1048576) (w : World) :
    (Instr.makeSlice 95 (.int .i64 ((n : Int) + 1)) (.int .i64 ((n : Int) + 1))).run Tryd.prog w = .ok (.slice (some ⟨w.heap.size, 0, none⟩) (n + 1) (n + 1)) (w.alloc (.cells (zcells (.bool false) (n + 1)) 4)) := by
  obtain ⟨i0, hi0, hz0, hz1, hz2⟩ := info_parts info_bool
  have := run_make_rowN (P := Tryd.prog) 95 4 i0 _ Tryd.underlying95 hi0 hz0 .i64 .i64 (n + 1) (n + 1) (Nat.le_refl _) (by rw [hz2]; omega) (by omega) w
  have e : madeCells (Value.bool false).cells ((n + 1) * 1) = zcells (.bool false) (n + 1) := by
    apply Array.ext
    · simp [madeCells, zcells, Value.cells]
    · intro i h1 h2
      simp [madeCells, zcells, Value.cells, Nat.mod_one]
  rw [hz1, e] at this
  rw [show ((n : Int) + 1) = ((n + 1 : Nat) : Int) by omega]
  exact this
/-- What Walk answers. -/
def RWalkP (h : HM) (fr : List Nat) (w : World) (e : Ending) (w' : World) : Prop :=
  ∃ vl vc, e = .returned (.tuple #[vl, vc]) ∧ w'.ownsRow w.heap.size 41 1 vl (walkM (heldM h) fr).length (u32s (metO (walkM (heldM h) fr))) ∧ w'.ownsRow w.heap.size 3 1 vc (walkM (heldM h) fr).length (zsK ((walkM (heldM h) fr).map (·.2))) ∧ Below w.heap.size w w'
theorem wrU {q : Nat} (h : q ≤ 1048576) : IntKind.u32.wrap (q : Int) = (q : Int) := IntWalk.u32_in _ (by omega)
theorem wrI {q : Nat} (h : q ≤ 1048576) : IntKind.i64.wrap (q : Int) = (q : Int) := IntWalk.i64_in _ (by omega)
theorem tdiv2q (q : Nat) : ((2 * q : Nat) : Int).tdiv 2 = (q : Int) := by rw [Int.tdiv_eq_ediv_of_nonneg (by omega)]; omega
theorem div2q (q : Nat) : ((2 * q : Nat) : Int) / 2 = (q : Int) := by omega
theorem putsW_len (l : Wk) (os : List Nat) (b : Int) : (putsW l os b).length ≤ l.length + os.length := by
  induction os generalizing l with
  | nil => simp [putsW]
  | cons a q ih =>
    rw [putsW_cons]
    have h1 := ih (l := putW l a b)
    have h2 : (putW l a b).length ≤ l.length + 1 := by unfold putW; split <;> simp
    simp only [List.length_cons]
    omega
theorem putsW_take (l : Wk) (os : List Nat) (b : Int) {k : Nat} (hk : k < os.length) : putsW l (os.take (k + 1)) b = putW (putsW l (os.take k) b) (os.getD k 0) b := by
  rw [List.take_add_one, List.getElem?_eq_getElem hk, List.getD_eq_getElem?_getD, List.getElem?_eq_getElem hk]
  exact putsW_snoc _ _ _ _
section
variable {h : HM} {l : List Ob}
theorem isB_half (G : h.Good l) {o : Nat} (hi : h.isB o = true) : o / 2 < h.words.length + 1 := by
  obtain ⟨a, b, c, rfl, rfl⟩ := (G.laid.isB_iff o).1 hi
  have := G.laid.words_len
  omega
theorem isB_k (G : h.Good l) {o : Nat} (hi : h.isB o = true) : ∃ k, ∃ hk : k < l.length, o = 2 * posOf (l.take k) := by
  have hm := isB_mem G hi
  unfold oopsL at hm
  obtain ⟨k, hk, rfl⟩ := List.mem_map.1 hm
  exact ⟨k, List.mem_range.1 hk, rfl⟩
theorem valB_isB {o : Nat} (hv : h.valB o = true) (hk : kindM o = 2) : h.isB o = true := by
  unfold HM.valB objB at hv
  simpa [hk] using hv
end
section
variable {h : HM} {l : List Ob}
theorem held_len (G : h.Good l) {k : Nat} (hk : k < l.length) : (heldM h (2 * posOf (l.take k))).length = holdN (posOf (l.take k)) l[k] := by
  rw [← num_held G hk, List.length_map, List.length_take]
  exact Nat.min_eq_left (holdN_le _ _)
theorem held_at (G : h.Good l) {k : Nat} (hk : k < l.length) {j : Nat} (hj : j < (heldM h (2 * posOf (l.take k))).length) :
    ∃ x, (nmsK (posOf (l.take k)) l[k])[j]? = some x ∧ x < h.words.length ∧ h.words.getD x 0 = (heldM h (2 * posOf (l.take k))).getD j 0 := by
  have hl := held_len G hk
  have hle := holdN_le (posOf (l.take k)) l[k]
  have hjn : j < (nmsK (posOf (l.take k)) l[k]).length := by omega
  refine ⟨(nmsK (posOf (l.take k)) l[k])[j], List.getElem?_eq_getElem hjn, ?_, ?_⟩
  · have h1 := (nmsK_get (List.getElem?_eq_getElem hjn)).2.1
    have h2 := (w0_parts G hk).2.2.2
    omega
  · have h0 := num_held G hk
    rw [List.getD_eq_getElem?_getD (l := heldM h (2 * posOf (l.take k))), ← h0, List.getElem?_map, List.getElem?_take_of_lt (by omega), List.getElem?_eq_getElem hjn]
    rfl
theorem held_isB (G : h.Good l) {k : Nat} (hk : k < l.length) {x : Nat} (hx : x ∈ heldM h (2 * posOf (l.take k))) : x < 4294967296 ∧ (kindM x = 2 → h.isB x = true) := by
  have hi : h.isB (2 * posOf (l.take k)) = true := (G.laid.isB_iff _).2 ⟨l.take k, l[k], l.drop (k + 1), split_at l k hk, rfl⟩
  exact ⟨names_32 G hi x (held_names hx), fun h2 => names_isB G hi (held_names hx) h2⟩
theorem getD_mem' {xs : List Nat} {j : Nat} (hj : j < xs.length) : xs.getD j 0 ∈ xs := by
  rw [List.getD_eq_getElem?_getD, List.getElem?_eq_getElem hj]; exact List.getElem_mem _
theorem ints_atK {xs : List Nat} {j x : Nat} (h : xs[j]? = some x) : (ints xs)[j]? = some (.int .i64 (x : Int)) := by
  unfold ints; rw [List.getElem?_map, h]; rfl
end
section
variable {w : World} {h : HM} {l : List Ob} {A A' Af : Option Addr} {n c n' c' nf cf : Nat}
set_option maxRecDepth 100000 in
set_option maxHeartbeats 8000000 in
theorem rwalk_any (G : h.Good l) (hr : Reads w w.heap.size 1 A n (u32s h.words)) {fr : List Nat} (hf : Reads w w.heap.size 1 Af fr.length (u32s fr)) (hv : ∀ x ∈ fr, h.valB x = true) (h32 : ∀ x ∈ fr, x < 4294967296) (hfl : fr.length ≤ 1048576) :
    Calls Tryd.prog 47 #[StV A n c A' n' c', .slice Af fr.length cf] w (RWalkP h fr w) := by
  have hln : n = h.words.length := by have := hr.1; rw [u32s_len] at this; omega
  subst hln
  have hwl : h.words.length ≤ 1048576 := by have := G.fit.room; have := G.fit.hi; omega
  have HG := Lib.hid G
  have HV := Lib.hid (fun x hx => And.intro (hv x hx) (h32 x hx))
  have HRW := Lib.hid (fun (w' : World) (hb : Below w.heap.size w w') => (hr.below hb).more hb.size)
  have HRF := Lib.hid (fun (w' : World) (hb : Below w.heap.size w w') => hf.below hb)
  have hb1 : Below w.heap.size w (((w.alloc (.cells #[.slice A h.words.length c, .slice A' n' c'] 32)).alloc (.cells (zcells (.bool false) (h.words.length + 1)) 4)).alloc (.cells #[.slice none 0 0, .slice none 0 0, .slice (some ⟨w.heap.size + 1, 0, none⟩) (h.words.length + 1) (h.words.length + 1)] 130)) :=
    (((Below.refl w.heap.size w).alloc (Nat.le_refl _) _).alloc (by simp) _).alloc (by simp; omega) _
  have S0 := ((Blk.new w 32 #[.slice A h.words.length c, .slice A' n' c']).alloc (.cells (zcells (.bool false) (h.words.length + 1)) 4)).alloc (.cells #[.slice none 0 0, .slice none 0 0, .slice (some ⟨w.heap.size + 1, 0, none⟩) (h.words.length + 1) (h.words.length + 1)] 130)
  have K0 : WkAt (((w.alloc (.cells #[.slice A h.words.length c, .slice A' n' c'] 32)).alloc (.cells (zcells (.bool false) (h.words.length + 1)) 4)).alloc (.cells #[.slice none 0 0, .slice none 0 0, .slice (some ⟨w.heap.size + 1, 0, none⟩) (h.words.length + 1) (h.words.length + 1)] 130)) w.heap.size (w.heap.size + 1 + 1) (w.heap.size + 1) (h.words.length + 1) (.slice none 0 0) (.slice none 0 0) [] := by
    refine ⟨?_, ⟨rfl, .inl ⟨rfl, rfl⟩⟩, ⟨rfl, .inl ⟨rfl, rfl⟩⟩, ?_, by omega, by omega⟩
    · have := Blk.new ((w.alloc (.cells #[.slice A h.words.length c, .slice A' n' c'] 32)).alloc (.cells (zcells (.bool false) (h.words.length + 1)) 4)) 130 #[.slice none 0 0, .slice none 0 0, .slice (some ⟨w.heap.size + 1, 0, none⟩) (h.words.length + 1) (h.words.length + 1)]
      simpa using this
    · have := (falses_row (w.alloc (.cells #[.slice A h.words.length c, .slice A' n' c'] 32)) (h.words.length + 1) (by simp only [maxLen]; omega)).alloc (.cells #[.slice none 0 0, .slice none 0 0, .slice (some ⟨w.heap.size + 1, 0, none⟩) (h.words.length + 1) (h.words.length + 1)] 130)
      rw [show metO ([] : Wk) = [] from rfl, markL_nil]
      simpa using this
  have hmk := make_bool1 h.words.length hwl
  have HB1 := Lib.hid hb1
  have HS1 := Lib.hid S0
  have HK1 := Lib.hid K0
  clear hb1 S0 K0 hr hf hv h32 G
  unfold StV
  go_enter Tryd.func47, Tryd.ntmps47
  have x0 := (Blk.new w 32 #[.slice A h.words.length c, .slice A' n' c']).cell 0
  go_wp2_with fail
  clear hmk x0
  generalize (((w.alloc (.cells #[.slice A h.words.length c, .slice A' n' c'] 32)).alloc (.cells (zcells (.bool false) (h.words.length + 1)) 4)).alloc (.cells #[.slice none 0 0, .slice none 0 0, .slice (some ⟨w.heap.size + 1, 0, none⟩) (h.words.length + 1) (h.words.length + 1)] 130)) = W1 at *
  go_loopw [23] (fun iv wr => ∃ (k : Nat) (vl vc : Value), iv = .int .i64 k ∧ k ≤ fr.length ∧ WkAt wr w.heap.size (w.heap.size + 1 + 1) (w.heap.size + 1) (h.words.length + 1) vl vc (putsW [] (fr.take k) (-1)) ∧ Blk wr w.heap.size 32 #[.slice A h.words.length c, .slice A' n' c'] ∧ Below w.heap.size w wr) (fun iv _ => fr.length - (intOf iv).toNat)
  case atStart => exact ⟨0, _, _, rfl, by omega, HK1.out, HS1.out, HB1.out⟩
  case round =>
    clear HK1 HS1 HB1
    obtain ⟨k, vl, vc, rfl, hk, hkk, hs, hb⟩ := hrel
    have HK := Lib.hid hkk
    have HS := Lib.hid hs
    have HB := Lib.hid hb
    clear hkk hs hb
    by_cases hlt : k < fr.length
    · obtain ⟨ad, u, rfl, _, hu, hc⟩ := (HRF.out wr HB.out).at_ hlt
      rw [u32s_get hlt] at hu
      injection hu with hu
      subst hu
      have hmem : fr.getD k 0 ∈ fr := by rw [List.getD_eq_getElem?_getD, List.getElem?_eq_getElem hlt]; exact List.getElem_mem _
      have hvx := HV.out _ hmem
      have HPT := Lib.hid (rput_any HK.out HB.out.size hvx.2 (fun hk2 => isB_half HG.out (valB_isB hvx.1 hk2)) (-1) (by have := putsW_len [] (fr.take k) (-1); rw [List.length_take] at this; simp at this; omega))
      rw [← putsW_take _ _ _ hlt] at HPT
      have HLT := Lib.hid hlt
      clear hvx hmem
      generalize fr.getD k 0 = x at *
      go_wp2_with fail
      refine HPT.out.mono ?_
      rintro e w5 ⟨rfl, vl', vc', hk5, hf5⟩
      have HK5 := Lib.hid hk5
      have HB5 := Lib.hid (HB.out.trans (hf5.below HK.out HB.out.size))
      have HS5 := Lib.hid (HS.out.same (hf5.same _ HS.out.lt (by omega) (by omega) (own_ne_blk HK.out.list HS.out (by decide)) (own_ne_blk HK.out.came HS.out (by decide))))
      clear hk5 hf5 HPT HK HS HB hc
      go_wp2_with fail
      go_roundw
      case rel => exact ⟨k + 1, vl', vc', by go_num, HLT.out, HK5.out, HS5.out, HB5.out⟩
      case measure => have := HLT.out; simp [intOf]; omega
    · obtain rfl : k = fr.length := by omega
      rw [List.take_length] at HK
      clear hlt hk
      go_wp2_with fail
      have HGO := Lib.hid (GoW.start (heldM h) fr)
      have HIS := Lib.hid (show ∀ o ∈ metO (putsW [] fr (-1)), h.isB o = true from putsW_isB (fun o ho => by simp [metO] at ho) (fun x hx hk => valB_isB (HV.out x hx).1 hk))
      generalize putsW [] fr (-1) = L0 at *
      go_loopw [9] (fun iv wr => ∃ (i : Nat) (L : Wk) (vl vc : Value), iv = .int .i64 i ∧ GoW (heldM h) fr i L ∧ (∀ o ∈ metO L, h.isB o = true) ∧ WkAt wr w.heap.size (w.heap.size + 1 + 1) (w.heap.size + 1) (h.words.length + 1) vl vc L ∧ Blk wr w.heap.size 32 #[.slice A h.words.length c, .slice A' n' c'] ∧ Below w.heap.size w wr) (fun iv _ => 4194304 - (intOf iv).toNat)
      case atStart => exact ⟨0, L0, vl, vc, rfl, HGO.out, HIS.out, HK.out, HS.out, HB.out⟩
      case round =>
        clear HK HS HB HGO HIS HV HRF
        obtain ⟨i, L, vl, vc, rfl, hgo, his, hkk, hs, hb⟩ := hrel
        have HK := Lib.hid hkk
        have HS := Lib.hid hs
        have HB := Lib.hid hb
        have HGO := Lib.hid hgo
        have HIS := Lib.hid his
        clear hkk hs hb hgo his
        have HLN := Lib.hid (wk_len HG.out HGO.out.nodup HIS.out)
        have c0 := HK.out.box.cell 0
        by_cases hi : i < L.length
        · obtain ⟨gv, cv, hvv, hrv, _, hgv⟩ := Row.of_any HK.out.list (by omega)
          subst hvv
          have hcl := hrv.cell (u32s_get (l := metO L) (i := i) (by rw [metO_len]; exact hi))
          have HNX := Lib.hid (HGO.out.next hi HLN.out)
          rw [← metO_getD] at HNX
          obtain ⟨k, hk, ho⟩ := isB_k HG.out (HIS.out _ (metO_mem hi))
          rw [ho] at hcl HNX
          have HNM := Lib.hid (fun (w' : World) (hb : Below w.heap.size w w') => rnames_any (A' := A') (n' := n') (c' := c') (c := c) HG.out (HRW.out w' hb) hk)
          have HHL := Lib.hid (held_len HG.out hk)
          have HHA := Lib.hid (fun j hj => held_at HG.out hk (j := j) hj)
          have HHB := Lib.hid (fun x hx => held_isB HG.out hk (x := x) hx)
          have hp1 := posOf_take_le l k
          have hp2 : posOf (l.take k) ≤ 1048576 := by
            have := (w0_parts HG.out hk).2.2.2
            omega
          have hNL : (nmsK (posOf (l.take k)) l[k]).length ≤ 1048576 := by
            have h1 := nmsK_len (posOf (l.take k)) l[k]
            have h2 := (w0_parts HG.out hk).2.2.2
            omega
          have hN0 := nmsK_pos (posOf (l.take k)) l[k]
          have hHN := holdN_le (posOf (l.take k)) l[k]
          generalize posOf (l.take k) = q at *
          generalize l[k] = b at *
          have hq := tdiv2q q
          have hq2 := div2q q
          have hwq := wrK hp2
          have hwu := wrU hp2
          have hwi := wrI hp2
          generalize hoo : 2 * q = o at *
          unfold RNamP StV at HNM
          generalize heldM h o = hl at *
          generalize nmsK q b = nl at *
          generalize holdN q b = hn at *
          have HIN := Lib.hid hi
          have s0 := HS.out.cell 0
          have s1 := HS.out.cell 1
          clear ho hk hp1 hp2 hrv
          go_upto_region 10 with fail
          refine wp_region_U 15 (fun w' => w'.cell? ⟨w.heap.size, 0, none⟩ = some (.slice A h.words.length c) ∧ w'.cell? ⟨w.heap.size, 1, none⟩ = some (.slice A' n' c') ∧ w'.cell? ⟨w.heap.size + 1 + 1, 0, none⟩ = some (.slice (some ⟨gv, 0, none⟩) L.length cv) ∧ w'.cell? ⟨gv, i, none⟩ = some (.int .u32 (o : Int))) (by kernel_rfl) ?_
          have hbd : Below wr.heap.size wr wr.drew := below_drew (Below.refl _ _)
          have hS : wr.drew.cell? ⟨w.heap.size, 0, none⟩ = some (.slice A h.words.length c) ∧ wr.drew.cell? ⟨w.heap.size, 1, none⟩ = some (.slice A' n' c') ∧ wr.drew.cell? ⟨w.heap.size + 1 + 1, 0, none⟩ = some (.slice (some ⟨gv, 0, none⟩) L.length cv) ∧ wr.drew.cell? ⟨gv, i, none⟩ = some (.int .u32 (o : Int)) := ⟨s0, s1, c0, hcl⟩
          have HKd := Lib.hid (HK.out.below hbd)
          have HSd := Lib.hid (HS.out.below hbd HS.out.lt)
          have HBd := Lib.hid (below_top HB.out hbd)
          have HNd := Lib.hid (HNM.out wr.drew HBd.out)
          clear hbd HK HS HB HNM s0 s1 c0 hcl
          generalize wr.drew = Wq at *
          refine U_read 0 (v := (.agg #[.slice A h.words.length c, .slice A' n' c'])) rfl (by kernel_rfl) (fun _ _ _ h => h) hS (by rfl) (fun w' hw' => by obtain ⟨h0, h1, h2, h3⟩ := hw'; go_simp) ?_
          try simp only [Act.put, List.setIfInBounds_toArray, List.set_cons_zero, List.set_cons_succ]
          refine U_read 1 (v := (.pointer (some ⟨w.heap.size + 1 + 1, 0, none⟩))) rfl (by kernel_rfl) (fun _ _ _ h => h) hS (by rfl) (fun w' hw' => by obtain ⟨h0, h1, h2, h3⟩ := hw'; go_simp) ?_
          try simp only [Act.put, List.setIfInBounds_toArray, List.set_cons_zero, List.set_cons_succ]
          refine U_read 2 (v := (.pointer (some ⟨w.heap.size + 1 + 1, 0, none⟩))) rfl (by kernel_rfl) (fun _ _ _ h => h) hS (by rfl) (fun w' hw' => by obtain ⟨h0, h1, h2, h3⟩ := hw'; go_simp) ?_
          try simp only [Act.put, List.setIfInBounds_toArray, List.set_cons_zero, List.set_cons_succ]
          refine U_read 3 (v := (.pointer (some ⟨w.heap.size + 1 + 1, 0, none⟩))) rfl (by kernel_rfl) (fun _ _ _ h => h) hS (by rfl) (fun w' hw' => by obtain ⟨h0, h1, h2, h3⟩ := hw'; go_simp) ?_
          try simp only [Act.put, List.setIfInBounds_toArray, List.set_cons_zero, List.set_cons_succ]
          refine U_read 4 (v := (.slice (some ⟨gv, 0, none⟩) L.length cv)) rfl (by kernel_rfl) (fun _ _ _ h => h) hS (by rfl) (fun w' hw' => by obtain ⟨h0, h1, h2, h3⟩ := hw'; go_simp) ?_
          try simp only [Act.put, List.setIfInBounds_toArray, List.set_cons_zero, List.set_cons_succ]
          refine U_read 5 (v := (.int .i64 (i : Int))) rfl (by kernel_rfl) (fun _ _ _ h => h) hS (by rfl) (fun w' hw' => by obtain ⟨h0, h1, h2, h3⟩ := hw'; go_simp) ?_
          try simp only [Act.put, List.setIfInBounds_toArray, List.set_cons_zero, List.set_cons_succ]
          refine U_read 6 (v := (.pointer (some ⟨gv, i, none⟩))) rfl (by kernel_rfl) (fun _ _ _ h => h) hS (by rfl) (fun w' hw' => by obtain ⟨h0, h1, h2, h3⟩ := hw'; go_simp) ?_
          try simp only [Act.put, List.setIfInBounds_toArray, List.set_cons_zero, List.set_cons_succ]
          refine U_read 7 (v := (.int .u32 (o : Int))) rfl (by kernel_rfl) (fun _ _ _ h => h) hS (by rfl) (fun w' hw' => by obtain ⟨h0, h1, h2, h3⟩ := hw'; go_simp) ?_
          try simp only [Act.put, List.setIfInBounds_toArray, List.set_cons_zero, List.set_cons_succ]
          refine U_read 8 (v := (.int .u32 (q : Int))) rfl (by kernel_rfl) (fun _ _ _ h => h) hS (by rfl) (fun w' hw' => by obtain ⟨h0, h1, h2, h3⟩ := hw'; go_simp) ?_
          try simp only [Act.put, List.setIfInBounds_toArray, List.set_cons_zero, List.set_cons_succ]
          refine U_read 9 (v := (.int .i64 (q : Int))) rfl (by kernel_rfl) (fun _ _ _ h => h) hS (by rfl) (fun w' hw' => by obtain ⟨h0, h1, h2, h3⟩ := hw'; go_simp) ?_
          try simp only [Act.put, List.setIfInBounds_toArray, List.set_cons_zero, List.set_cons_succ]
          refine U_one 10 (by kernel_rfl) rfl rfl (fun K hK => ?_)
          go_simp
          refine HNd.out.mono ?_
          rintro e W5 ⟨v5, rfl, hown5, hb5⟩
          obtain ⟨g5, c5, rfl, hr5, _, hg5⟩ := Row.of_any hown5 hN0
          have HR5 := Lib.hid hr5
          have HK5 := Lib.hid (HKd.out.below hb5)
          have HS5 := Lib.hid (HSd.out.below hb5 HSd.out.lt)
          have HB5 := Lib.hid (below_top HBd.out hb5)
          have HN5 := Lib.hid (show (Value.slice (some ⟨gv, 0, none⟩) L.length cv).ownBlock ≠ some g5 ∧ vc.ownBlock ≠ some g5 from ⟨fun e => by have := (HKd.out.list.lt g5 e).2; omega, fun e => by have := (HKd.out.came.lt g5 e).2; omega⟩)
          have hS5 : W5.cell? ⟨w.heap.size, 0, none⟩ = some (.slice A h.words.length c) ∧ W5.cell? ⟨w.heap.size, 1, none⟩ = some (.slice A' n' c') ∧ W5.cell? ⟨w.heap.size + 1 + 1, 0, none⟩ = some (.slice (some ⟨gv, 0, none⟩) L.length cv) ∧ W5.cell? ⟨gv, i, none⟩ = some (.int .u32 (o : Int)) := ⟨HS5.out.cell 0, HS5.out.cell 1, HK5.out.box.cell 0, (hb5.cell (p := ⟨gv, i, none⟩) (HKd.out.list.lt gv rfl).2).trans hS.2.2.2⟩
          clear hown5 hb5 hr5 HNd HKd HSd HBd hS hg5
          refine hK _ _ (fun _ => hS5) ?_
          clear hK K
          try simp only [Act.put, List.setIfInBounds_toArray, List.set_cons_zero, List.set_cons_succ]
          have hS := hS5
          refine U_read 11 (v := (.tuple #[.slice (some ⟨g5, 0, none⟩) nl.length c5, .int .i64 (hn : Int)])) rfl (by kernel_rfl) (fun _ _ _ h => h) hS (by rfl) (fun w' hw' => by obtain ⟨h0, h1, h2, h3⟩ := hw'; go_simp) ?_
          try simp only [Act.put, List.setIfInBounds_toArray, List.set_cons_zero, List.set_cons_succ]
          refine U_read 12 (v := (.slice (some ⟨g5, 0, none⟩) nl.length c5)) rfl (by kernel_rfl) (fun _ _ _ h => h) hS (by rfl) (fun w' hw' => by obtain ⟨h0, h1, h2, h3⟩ := hw'; go_simp) ?_
          try simp only [Act.put, List.setIfInBounds_toArray, List.set_cons_zero, List.set_cons_succ]
          refine U_read 13 (v := (.int .i64 (hn : Int))) rfl (by kernel_rfl) (fun _ _ _ h => h) hS (by rfl) (fun w' hw' => by obtain ⟨h0, h1, h2, h3⟩ := hw'; go_simp) ?_
          try simp only [Act.put, List.setIfInBounds_toArray, List.set_cons_zero, List.set_cons_succ]
          refine U_read 14 (v := (.slice (some ⟨g5, 0, none⟩) nl.length c5)) rfl (by kernel_rfl) (fun _ _ _ h => h) hS (by rfl) (fun w' hw' => by obtain ⟨h0, h1, h2, h3⟩ := hw'; go_simp) ?_
          try simp only [Act.put, List.setIfInBounds_toArray, List.set_cons_zero, List.set_cons_succ]
          refine U_one 15 (by kernel_rfl) rfl rfl (fun K hK => ?_)
          go_simp
          refine hK _ _ (fun h => absurd h (by decide)) ?_
          clear hK K
          try simp only [Act.put, List.setIfInBounds_toArray, List.set_cons_zero, List.set_cons_succ]
          refine U_done (by kernel_rfl) ?_ _
          simp only [Calm, Exit.then]
          have hcap : nl.length ≤ c5 := by have := HR5.out.len_le; unfold ints at this; rw [List.length_map] at this; exact this
          have hcap2 : hn ≤ c5 := Nat.le_trans hHN hcap
          have hcap3 : c5 ≤ 9223372036854775807 := by obtain ⟨_, _, _, hm, _⟩ := HR5.out; simp only [maxLen] at hm; omega
          have hn63 : hn ≤ 1048576 := Nat.le_trans hHN hNL
          have HHN := Lib.hid hHN
          clear hS hS5 hcap hq hq2 hwq hwu hwi hHN
          go_wp2_with fail
          go_loopw [58] (fun jv wr2 => ∃ (j : Nat) (vl' vc' : Value), jv = .int .i64 j ∧ j ≤ hn ∧ WkAt wr2 w.heap.size (w.heap.size + 1 + 1) (w.heap.size + 1) (h.words.length + 1) vl' vc' (putsW L (hl.take j) (i : Int)) ∧ Blk wr2 w.heap.size 32 #[.slice A h.words.length c, .slice A' n' c'] ∧ Row wr2 g5 3 c5 (ints nl) ∧ (vl'.ownBlock ≠ some g5 ∧ vc'.ownBlock ≠ some g5) ∧ Below w.heap.size w wr2) (fun jv _ => hn - (intOf jv).toNat)
          case atStart => exact ⟨0, _, _, rfl, Nat.zero_le _, HK5.out, HS5.out, HR5.out, HN5.out, HB5.out⟩
          case round =>
            clear HK5 HS5 HR5 HN5 HB5
            obtain ⟨j, vl', vc', rfl, hj, hkk, hs, hrr, hnn, hb⟩ := hrel
            have HK := Lib.hid hkk
            have HS := Lib.hid hs
            have HR := Lib.hid hrr
            have HN := Lib.hid hnn
            have HB := Lib.hid hb
            clear hkk hs hrr hnn hb
            by_cases hlt : j < hn
            · obtain ⟨x, hx1, hx2, hx3⟩ := HHA.out j (by rw [HHL.out]; exact hlt)
              have hjl : j < hl.length := by rw [HHL.out]; exact hlt
              have hnc := HR.out.cell (ints_atK hx1)
              obtain ⟨ad, u, had, _, hu, hc⟩ := (HRW.out wr HB.out).at_ hx2
              rw [u32s_get hx2, hx3] at hu
              injection hu with hu
              subst hu
              have hvx := HHB.out _ (getD_mem' hjl)
              have HPT := Lib.hid (rput_any HK.out HB.out.size hvx.1 (fun hk2 => isB_half HG.out (hvx.2 hk2)) (i : Int) (by
                have h1 := putsW_len L (hl.take j) (i : Int)
                rw [List.length_take] at h1
                have h2 := HLN.out
                omega))
              rw [← putsW_take _ _ _ hjl] at HPT
              have x0 := HS.out.cell 0
              have HLT := Lib.hid hlt
              have hx20 : x ≤ 1048576 := by omega
              clear hvx hx1 hx3 hjl
              generalize hl.getD j 0 = y at *
              subst had
              go_wp2_with fail
              refine HPT.out.mono ?_
              rintro e w7 ⟨rfl, vl7, vc7, hk7, hf7⟩
              have HK7 := Lib.hid hk7
              have HB7 := Lib.hid (HB.out.trans (hf7.below HK.out HB.out.size))
              have HS7 := Lib.hid (HS.out.same (hf7.same _ HS.out.lt (by omega) (by omega) (own_ne_blk HK.out.list HS.out (by decide)) (own_ne_blk HK.out.came HS.out (by decide))))
              have HR7 := Lib.hid (HR.out.same (hf7.same _ HR.out.lt (HR.out.ne_blk HK.out.box (by decide)) (HR.out.ne_ HK.out.seen (by decide)) HN.out.1 HN.out.2))
              have HN7 := Lib.hid (hf7.blk _ HR.out.lt HN.out.1 HN.out.2)
              clear hk7 hf7 HPT HK HS HB HR HN hc hnc x0
              go_wp2_with fail
              go_roundw
              case rel => exact ⟨j + 1, vl7, vc7, by go_num, HLT.out, HK7.out, HS7.out, HR7.out, HN7.out, HB7.out⟩
              case measure => have := HLT.out; simp [intOf]; omega
            · obtain rfl : j = hn := by omega
              rw [List.take_of_length_le (by rw [HHL.out]; exact Nat.le_refl _)] at HK
              have HIS7 := Lib.hid (putsW_isB (b := (i : Int)) HIS.out (fun x hx hk => (HHB.out x hx).2 hk))
              have hLi := HLN.out
              have HIL := Lib.hid HIN.out
              clear hlt hj
              go_wp2_with fail
              go_roundw
              case rel => exact ⟨i + 1, _, _, _, by go_num, HNX.out, HIS7.out, HK.out, HS.out, HB.out⟩
              case measure => have := HIL.out; simp [intOf]; omega
        · have HD := Lib.hid (HGO.out.done hi HLN.out)
          have c1 := HK.out.box.cell 1
          obtain ⟨Al, cl, hvl⟩ := own_val HK.out.list
          subst hvl
          obtain ⟨Ac, cc, hvc⟩ := own_val HK.out.came
          subst hvc
          go_upto_region 16 with fail
          go_quiet (fail)
          have hbq := below_drewN (Below.refl wr.heap.size wr) nq
          have HKq := Lib.hid (HK.out.below hbq)
          have HBq := Lib.hid (below_top HB.out hbq)
          clear hbq c0 c1 HK HB HS
          go_wp2_with fail
          go_ret2
          exact ⟨_, _, rfl, by rw [HD.out]; exact HKq.out.list, by rw [HD.out]; exact HKq.out.came, HBq.out⟩
end
end Go.Proofs.YtblekggklimpeaaDoor

namespace Go.Proofs.YtblekggklimpeaaDoor
open Go.RowKit Go.Sort
attribute [local go_sem] Oper.semAt_some
/-- The live ones among the first k. -/
def livK (W : List Nat) (l : List Ob) (k : Nat) : List Nat := (((idxL l).take k).filter (fun i => decide (2 * i ∈ W))).map (2 * ·)
theorem livK_zero (W : List Nat) (l : List Ob) : livK W l 0 = [] := rfl
theorem livK_yes {W : List Nat} {l : List Ob} {k : Nat} (hk : k < l.length) (h : 2 * posOf (l.take k) ∈ W) : livK W l (k + 1) = livK W l k ++ [2 * posOf (l.take k)] := by
  unfold livK
  rw [idxL_take l hk, List.filter_append, List.map_append, List.filter_cons, if_pos (by simpa using h)]
  rfl
theorem livK_no {W : List Nat} {l : List Ob} {k : Nat} (hk : k < l.length) (h : ¬ 2 * posOf (l.take k) ∈ W) : livK W l (k + 1) = livK W l k := by
  unfold livK
  rw [idxL_take l hk, List.filter_append, List.map_append, List.filter_cons, if_neg (by simpa using h)]
  simp
theorem livK_len (W : List Nat) (l : List Ob) (k : Nat) : (livK W l k).length ≤ k := by
  unfold livK
  rw [List.length_map]
  have h1 := List.length_filter_le (fun i => decide (2 * i ∈ W)) ((idxL l).take k)
  have h2 := List.length_take_le k (idxL l)
  omega
theorem livK_all (h : HM) (l : List Ob) : livK (metO (walkM (heldM h) h.roots)) l l.length = liveO h l := by
  unfold livK liveO
  rw [List.take_of_length_le (by rw [idxL_len]; exact Nat.le_refl _)]
  have e : oopsL l = (idxL l).map (2 * ·) := by unfold oopsL idxL; rw [List.map_map]; rfl
  rw [e, List.filter_map]
  rfl
theorem idxL_get {l : List Ob} {k : Nat} (hk : k < l.length) : (idxL l)[k]? = some (posOf (l.take k)) := by
  unfold idxL
  rw [List.getElem?_map, List.getElem?_range hk]
  rfl
theorem wrM2 {q : Nat} (h : q ≤ 1048576) : wrap64 (2 * (q : Int)) = 2 * (q : Int) := IntWalk.wrap64_in _ (by omega)
theorem wrU2 {q : Nat} (h : q ≤ 1048576) : IntKind.u32.wrap (2 * (q : Int)) = 2 * (q : Int) := IntWalk.u32_in _ (by omega)
section
variable {w : World} {h : HM} {l : List Ob} {A A' : Option Addr} {n c n' c' : Nat}
set_option maxRecDepth 100000 in
set_option maxHeartbeats 8000000 in
theorem rlive_any (G : h.Good l) (hr : Reads w w.heap.size 1 A n (u32s h.words)) (hq : Reads w w.heap.size 1 A' n' (u32s h.roots)) :
    Calls Tryd.prog 19 #[StV A n c A' n' c'] w (OopsP (liveO h l) w) := by
  have hln : n = h.words.length := by have := hr.1; rw [u32s_len] at this; omega
  have hln' : n' = h.roots.length := by have := hq.1; rw [u32s_len] at this; omega
  subst hln hln'
  have hwl : h.words.length ≤ 1048576 := by have := G.fit.room; have := G.fit.hi; omega
  have hl2 : l.length ≤ 1048576 := by have h1 := oopsL_le G; rw [oopsL_len] at h1; exact h1
  have HG := Lib.hid G
  have hX := Blk.new w 32 #[.slice A h.words.length c, .slice A' h.roots.length c']
  have hB := (Below.refl w.heap.size w).alloc (Nat.le_refl _) (.cells #[.slice A h.words.length c, .slice A' h.roots.length c'] 32)
  have HRW := Lib.hid (fun (w' : World) (hb : Below w.heap.size w w') => (hr.below hb).more hb.size)
  have HWK := Lib.hid (rwalk_any (A' := A') (n' := h.roots.length) (c' := c') (c := c) (cf := c') G ((hr.below hB).more hB.size) ((hq.below hB).more hB.size) G.sound.roots G.fit.r32 (by have := G.fit.roots; omega))
  have hMl := walk_len G G.sound.roots
  have HMB := Lib.hid (walk_isB G G.sound.roots)
  have HLA := Lib.hid (livK_all h l)
  have hmk := make_bool1 h.words.length hwl
  have x0 := hX.cell 0
  have x1 := hX.cell 1
  have HX := Lib.hid hX
  have HB := Lib.hid hB
  have hsz := World.size_alloc w (.cells #[.slice A h.words.length c, .slice A' h.roots.length c'] 32)
  clear hX hB hr hq G
  unfold StV at HWK ⊢
  unfold RWalkP at HWK
  generalize walkM (heldM h) h.roots = M at *
  go_enter Tryd.func19, Tryd.ntmps19
  go_wp2_with fail
  generalize w.alloc (.cells #[.slice A h.words.length c, .slice A' h.roots.length c'] 32) = W1 at *
  refine HWK.out.mono ?_
  rintro e w2 ⟨vl, vc, rfl, hown, _, hb2⟩
  have HOW := Lib.hid (own_base hown (show w.heap.size ≤ W1.heap.size from HB.out.size))
  have HB2 := Lib.hid (below_top HB.out hb2)
  have HX2 := Lib.hid (HX.out.below hb2 HX.out.lt)
  have y0 := HX2.out.cell 0
  clear hown hb2 HWK x0 x1 HX
  obtain ⟨Al, cl, hvl⟩ := own_val HOW.out
  subst hvl
  go_upto_region 3 with fail
  have hb3 := HB2.out.alloc HB2.out.size (.cells (zcells (.bool false) (h.words.length + 1)) 4)
  have hbt := (Below.refl w2.heap.size w2).alloc (Nat.le_refl _) (.cells (zcells (.bool false) (h.words.length + 1)) 4)
  have HMK := Lib.hid (show Row (w2.alloc (.cells (zcells (.bool false) (h.words.length + 1)) 4)) w2.heap.size 4 (h.words.length + 1) (bools (markL ((metO M).take 0) (h.words.length + 1))) by
    rw [List.take_zero, markL_nil]
    exact falses_row w2 (h.words.length + 1) (by simp only [maxLen]; omega))
  have HX3 := Lib.hid (HX2.out.below hbt HX2.out.lt)
  have HOW3 := Lib.hid (own_below HOW.out hbt)
  have HB3 := Lib.hid hb3
  have hgs : w.heap.size ≤ w2.heap.size := HB2.out.size
  clear hb3 hbt HOW HB2 HX2 y0 hmk
  generalize (w2.alloc (.cells (zcells (.bool false) (h.words.length + 1)) 4)) = w3 at *
  generalize w2.heap.size = gs at *
  go_wp2_with fail
  go_loopw [25] (fun iv wr => ∃ k : Nat, iv = .int .i64 k ∧ k ≤ M.length ∧ Row wr gs 4 (h.words.length + 1) (bools (markL ((metO M).take k) (h.words.length + 1))) ∧ wr.ownsRow w.heap.size 41 1 (.slice Al M.length cl) M.length (u32s (metO M)) ∧ Blk wr w.heap.size 32 #[.slice A h.words.length c, .slice A' h.roots.length c'] ∧ Below w.heap.size w wr) (fun iv _ => M.length - (intOf iv).toNat)
  case atStart => exact ⟨0, rfl, Nat.zero_le _, HMK.out, HOW3.out, HX3.out, HB3.out⟩
  case round =>
    clear HMK HOW3 HX3 HB3
    obtain ⟨k, rfl, hk, hmk, how, hx, hb⟩ := hrel
    have HMK := Lib.hid hmk
    have HOW := Lib.hid how
    have HX := Lib.hid hx
    have HB := Lib.hid hb
    clear hmk how hx hb
    by_cases hlt : k < M.length
    · obtain ⟨gv, cv, hvv, hrv, _, hgv⟩ := Row.of_any HOW.out (by omega)
      have hml : k < (metO M).length := by rw [metO_len]; exact hlt
      have hcl := hrv.cell (u32s_get (l := metO M) (i := k) hml)
      have HTK := Lib.hid (show (metO M).take (k + 1) = (metO M).take k ++ [(metO M).getD k 0] by rw [List.take_add_one, List.getElem?_eq_getElem hml, List.getD_eq_getElem?_getD, List.getElem?_eq_getElem hml]; rfl)
      obtain ⟨j, hj, ho⟩ := isB_k HG.out (HMB.out _ (metO_mem hlt))
      rw [ho] at hcl HTK
      have hq1 : posOf (l.take j) < h.words.length + 1 := by have := (w0_parts HG.out hj).2.2.2; omega
      have hq0 : posOf (l.take j) ≤ 1048576 := by have := (w0_parts HG.out hj).2.2.2; omega
      generalize posOf (l.take j) = q at *
      have hq := tdiv2q q
      have hq2 := div2q q
      have hwq := wrK hq0
      have hwu := wrU hq0
      have hwi := wrI hq0
      generalize hoo : 2 * q = o at *
      have HOO := Lib.hid hoo
      clear hoo
      generalize h.words.length + 1 = N at *
      have z0 := HMK.out.frozen q
      have y0 := HMK.out.cell (markL_get ((metO M).take k) hq1)
      have HLT := Lib.hid hlt
      cases hvv
      clear hj ho hml hrv hq0
      go_wp2_with fail
      have hset : ∀ i, i ≠ gs → (wr.setCell ⟨gs, q, none⟩ (.bool true)).heap[i]? = wr.heap[i]? := fun i hi => Below.heap_setCell wr ⟨gs, q, none⟩ _ i hi
      have hsb := HMK.out.set q (.bool true)
      rw [markL_set, HOO.out, ← HTK.out] at hsb
      have hx6 := HX.out.same (hset _ (HMK.out.ne_blk HX.out (by decide)).symm)
      have how6 := own_keep HOW.out (fun i hi => hset i (fun e => by obtain ⟨cur, hcb, _⟩ := HMK.out; exact own_ne_blk HOW.out hcb (by decide) (e ▸ hi)))
      have hb6 : Below w.heap.size w (wr.setCell ⟨gs, q, none⟩ (.bool true)) := HB.out.setCell (p := ⟨gs, q, none⟩) hgs _
      have HE := Lib.hid (And.intro hsb (And.intro how6 (And.intro hx6 hb6)))
      clear hset hsb hx6 how6 hb6
      go_roundw
      case rel => exact ⟨k + 1, by go_num, HLT.out, HE.out.1, HE.out.2.1, HE.out.2.2.1, HE.out.2.2.2⟩
      case measure => have := HLT.out; simp [intOf]; omega
    · obtain rfl : k = M.length := by omega
      rw [List.take_of_length_le (by rw [metO_len]; exact Nat.le_refl _)] at HMK
      have x0 := HX.out.cell 0
      have x1 := HX.out.cell 1
      have HOB := Lib.hid (robjects_any (A' := A') (n' := h.roots.length) (c' := c') (c := c) HG.out (HRW.out wr HB.out))
      unfold StV at HOB
      clear hlt hk HOW
      go_wp2_with fail
      refine HOB.out.mono ?_
      rintro e w6 ⟨v6, rfl, hown6, hb6⟩
      have HIX := Lib.hid (own_base hown6 HB.out.size)
      rw [idxL_len] at HIX
      have HMK6 := Lib.hid (HMK.out.below hb6)
      have HB6 := Lib.hid (below_top HB.out hb6)
      obtain ⟨Ai, ci, hvi⟩ := own_val HIX.out
      subst hvi
      clear hown6 hb6 HOB HMK HB HX x0 x1
      go_wp2_with fail
      go_loopw [8, 38] (fun lv iv wr => ∃ k : Nat, iv = .int .i64 k ∧ k ≤ l.length ∧ wr.ownsRow w.heap.size 41 1 lv (livK (metO M) l k).length (u32s (livK (metO M) l k)) ∧ wr.ownsRow w.heap.size 3 1 (.slice Ai l.length ci) l.length (ints (idxL l)) ∧ Row wr gs 4 (h.words.length + 1) (bools (markL (metO M) (h.words.length + 1))) ∧ Below w.heap.size w wr) (fun _ iv _ => l.length - (intOf iv).toNat)
      case atStart => exact ⟨0, rfl, Nat.zero_le _, ⟨rfl, .inl ⟨rfl, rfl⟩⟩, HIX.out, HMK6.out, HB6.out⟩
      case round =>
        clear HMK6 HIX HB6
        obtain ⟨k, rfl, hk, how, hix, hmk, hb⟩ := hrel
        have HMK := Lib.hid hmk
        have HOW := Lib.hid how
        have HIX := Lib.hid hix
        have HB := Lib.hid hb
        clear hmk how hix hb
        by_cases hlt : k < l.length
        · obtain ⟨gv, cv, hvv, hrv, _, hgv⟩ := Row.of_any HIX.out (by omega)
          have hcl := hrv.cell (ints_atK (idxL_get hlt))
          have hq1 : posOf (l.take k) < h.words.length + 1 := by have := (w0_parts HG.out hlt).2.2.2; omega
          have hq0 : posOf (l.take k) ≤ 1048576 := by have := (w0_parts HG.out hlt).2.2.2; omega
          have y0 := HMK.out.cell (markL_get (metO M) hq1)
          have HLT := Lib.hid hlt
          have HYES := Lib.hid (fun hm => livK_yes (W := metO M) hlt hm)
          have HNO := Lib.hid (fun hm => livK_no (W := metO M) hlt hm)
          have hvl := livK_len (metO M) l k
          generalize posOf (l.take k) = q at *
          cases hvv
          by_cases hm : 2 * q ∈ metO M
          · rw [decide_eq_true hm] at y0
            have HS := Lib.hid (HYES.out hm)
            have hw2 := wrM2 hq0
            have hu2 := wrU2 hq0
            clear hm HYES HNO hrv
            generalize livK (metO M) l k = xs at *
            obtain ⟨i0, hi0, hz0, hz1, hz2⟩ := info_parts info_oop
            have hs5 := HB.out.size
            go_wp2_with (at_builtin; refine wpList_append_any _ rfl (.tmp 46) (.tmp 50) _ rfl w.heap.size 41 i0 _ 1 4 Tryd.underlying23 hi0 hz0 hz1 hz2 rfl (by omega) u8 xs.length _ rfl (HOW.out.alloc _) (wr.heap.size + 1) (some ⟨wr.heap.size, 0, none⟩) 1 1 [.int .u32 (2 * (q : Int))] rfl ⟨rfl, fun _ => ⟨_, rfl, by first | exact Nat.zero_lt_one | decide | simp, cell_one_new _ _ _⟩⟩ (fun u hu => by rcases List.mem_singleton.1 hu with rfl; rfl) (by simp only [maxLen]; omega) (by omega) (by first | omega | (simp; omega)) ?_; intro v1 w7 hown7 hgrow hat7)
            have hb7 := below_grown (Nat.le_refl _) (HB.out.alloc hs5 _) hgrow (fun i hi => (HOW.out.lt i hi).1)
            have hsm : ∀ i, i < wr.heap.size → u8.ownBlock ≠ some i → w7.heap[i]? = wr.heap[i]? := fun i h1 h2 => (hgrow.block i (by simp; omega) (fun e => h2 (by first | exact e | exact e.symm))).trans (Below.heap_alloc wr _ i h1)
            have hmk7 := HMK.out.same (hsm gs HMK.out.lt (by obtain ⟨cur, hcb, _⟩ := HMK.out; exact own_ne_blk HOW.out hcb (by decide)))
            have hix7 := own_keep HIX.out (fun i hi => hsm i (HIX.out.lt i hi).2 (fun e => own_ne_own HOW.out HIX.out (by decide) i e hi))
            have HE := Lib.hid (And.intro hmk7 (And.intro hix7 (And.intro hb7 hown7)))
            clear hmk7 hix7 hb7 hown7 hsm hgrow hat7
            go_roundw
            case rel => exact ⟨k + 1, by go_num, HLT.out, by rw [HS.out, u32s_app, List.length_append]; exact HE.out.2.2.2, HE.out.2.1, HE.out.1, HE.out.2.2.1⟩
            case measure => have := HLT.out; simp [intOf]; omega
          · rw [decide_eq_false hm] at y0
            have HS := Lib.hid (HNO.out hm)
            clear hm HYES HNO hrv
            go_wp2_with fail
            go_roundw
            case rel => exact ⟨k + 1, by go_num, HLT.out, by rw [HS.out]; exact HOW.out, HIX.out, HMK.out, HB.out⟩
            case measure => have := HLT.out; simp [intOf]; omega
        · obtain rfl : k = l.length := by omega
          rw [HLA.out] at HOW
          clear hlt hk
          go_wp2_with fail
          go_ret
          exact ⟨_, rfl, HOW.out, HB.out⟩
end
end Go.Proofs.YtblekggklimpeaaDoor
