/- Make of the program's heap. -/
import Derived.Test.YtfpleoblehfhbaaDoorJAlloc
import Derived.Test.YtfpleoblehfhbaaDoorJCopy
set_option linter.unusedVariables false
namespace Go.Proofs.YtfpleoblehfhbaaDoor
open Go.RowKit

def makeX (c : Nat) (bs : List Nat) : Hd := ⟨(bs.length + 3) / 4, 2, 4 * ((bs.length + 3) / 4) - bs.length, c, 0⟩
def HM.makeE (h : HM) (c : Nat) (bs : List Nat) : Nat := if 262140 < bs.length then 2 else h.allocE (makeX c bs)
def HM.makeH (h : HM) (c : Nat) (bs : List Nat) : HM := if h.makeE c bs = 0 then h.pushH (makeX c bs) (packM bs) else h
def HM.makeV (h : HM) (c : Nat) (bs : List Nat) : Value := .tuple #[.int .u32 ((if h.makeE c bs = 0 then 2 * h.words.length else 0 : Nat) : Int), .int .i64 (h.makeE c bs)]

theorem info_u32_size : (Tryd.prog.info? 24).map (·.size) = some 1 := by kernel_rfl
theorem one_u32s' (l : List Nat) : ∀ v ∈ u32s l, v.oneCell' = true := one_u32s l
theorem HM.allocE_le (h : HM) (x : Hd) : h.allocE x ≤ 4 := by unfold HM.allocE; split <;> (try split) <;> omega

/-- The words' row was overwritten in place. -/
theorem HAt.rewords {w w1 : World} {p : HP} {h : HM} (H : HAt w p h) {ws : List Nat} (hr : Row w1 p.gw 24 p.cw (u32s ws)) (hg : w.grownBy w1 (some p.gw)) (hl : ws.length = h.words.length) :
    HAt w1 p { h with words := ws } ∧ Step p p w w1 := by
  obtain ⟨hb, hw, hs, hrt⟩ := H
  have n1 : p.g ≠ p.gw := fun e => Row.ne_blk hw hb (by decide) e.symm
  have n2 : p.gs ≠ p.gw := hs.ne_ hw (by decide)
  have n3 : p.gr ≠ p.gw := hrt.ne_ hw (by decide)
  have hb1 := hb.same (hg.block p.g hb.lt (by simpa using n1))
  have hs1 := hs.same (hg.block p.gs hs.lt (by simpa using n2))
  have hr1 := hrt.same (hg.block p.gr hrt.lt (by simpa using n3))
  refine ⟨⟨by simpa only [hl] using hb1, hr, hs1, hr1⟩, hg.os, hg.tape, hg.output, hg.size, fun k hk hn => hg.block k hk (by
    intro e; injection e with e; exact hn (.inr (.inl e))), rfl, fun k hk => .inl hk⟩

/-- The fields of a new object, overwritten, are as if pushed so. -/
theorem HM.pushH_re (h : HM) (x : Hd) (ys zs : List Nat) (hz : zs.length = ys.length) :
    { h.pushH x ys with words := (h.pushH x ys).words.take (h.words.length + 3) ++ zs ++ (h.pushH x ys).words.drop (h.words.length + 3 + ys.length) } = h.pushH x zs := by
  unfold HM.pushH
  dsimp only
  congr 1
  rw [List.take_append_of_le_length (by simp), List.take_of_length_le (by simp), List.drop_of_length_le (by simp; omega), List.append_nil]

/-- The end of Make: the copy has laid the fields. -/
theorem make_end {w w2 w3 : World} {p p1 : HP} {h : HM} {c : Nat} {bs : List Nat} {F L : Nat} (hL : h.words.length = L) (hpl : (packM bs).length = F)
    (H1 : HAt w2 p1 (h.pushH (makeX c bs) (List.replicate F 0))) (s2 : Step p p1 w w2)
    (hr : Row w3 p1.gw 24 p1.cw (List.take (L + 3) (u32s (h.pushH (makeX c bs) (List.replicate F 0)).words) ++ u32s (packM bs) ++ List.drop (L + 3 + F) (u32s (h.pushH (makeX c bs) (List.replicate F 0)).words)))
    (hg : w2.grownBy w3 (some p1.gw)) : HAt w3 p1 (h.pushH (makeX c bs) (packM bs)) ∧ Step p p1 w w3 := by
  subst hL
  have e : List.take (h.words.length + 3) (u32s (h.pushH (makeX c bs) (List.replicate F 0)).words) ++ u32s (packM bs) ++ List.drop (h.words.length + 3 + F) (u32s (h.pushH (makeX c bs) (List.replicate F 0)).words)
      = u32s ((h.pushH (makeX c bs) (List.replicate F 0)).words.take (h.words.length + 3) ++ packM bs ++ (h.pushH (makeX c bs) (List.replicate F 0)).words.drop (h.words.length + 3 + F)) := by
    unfold u32s
    simp only [List.map_append, List.map_take, List.map_drop]
  rw [e] at hr
  obtain ⟨H3, s3⟩ := H1.rewords hr hg (by simp [HM.pushH, hpl]; omega)
  have e2 := h.pushH_re (makeX c bs) (List.replicate F 0) (packM bs) (by simp [hpl])
  simp only [List.length_replicate] at e2
  rw [e2] at H3
  exact ⟨H3, s2.trans s3⟩

set_option maxRecDepth 100000 in
set_option maxHeartbeats 4000000 in
theorem Make_any {w : World} {p : HP} {h : HM} (H : HAt w p h) (f : h.Fit) (hs : Spares w) (hp : Far p) (c : Nat) (hc : c < 4294967296) (A : Option Addr) (n cap B : Nat) (bs : List Nat)
    (hn : n ≤ 9223372036854775807) (hr : Reads w B 1 A n (u8c bs)) (hB : B ≤ w.heap.size) (hb : ∀ x ∈ bs, x < 256) :
    Calls Tryd.prog 23 #[ptr p.g, .int .u32 c, .slice A n cap] w (Made p (h.makeH c bs) (h.makeV c bs) w) := by
  have hl : bs.length = n := by have := hr.1; simpa [u8c] using this
  by_cases hlong : 262140 < n
  · have HF := Lib.hid (show h.makeH c bs = h ∧ h.makeV c bs = .tuple #[.int .u32 0, .int .i64 2] by simp [HM.makeH, HM.makeV, HM.makeE, hl, hlong])
    have HP' := Lib.hid (packBytes_long (w := w) A n cap hlong hn)
    clear hl
    unfold ptr
    go_enter Tryd.func23, Tryd.ntmps23
    go_wp2_with fail
    refine HP'.out.mono ?_
    rintro e w1 ⟨rfl, rfl⟩
    go_wp2_with fail
    go_ret2
    exact ⟨p, by rw [HF.out.2]; rfl, by rw [HF.out.1]; exact H, Step.refl _ _⟩
  · have HPK := Lib.hid (packBytes_any (w := w) A n cap B bs (by omega) hr hB hb)
    have hF : (bs.length + 3) / 4 ≤ 65535 := by omega
    have hE : h.makeE c bs = h.allocE (makeX c bs) := by simp [HM.makeE, hl, hlong]
    have hVA : h.allocV (makeX c bs) = .tuple #[.int .u32 ((if h.allocE (makeX c bs) = 0 then 2 * h.words.length else 0 : Nat) : Int), .int .i64 (h.allocE (makeX c bs))] := rfl
    have hfit : (makeX c bs).Fit := ⟨by simp [makeX]; omega, by simp [makeX], by simp [makeX]; omega, hc, by simp [makeX]⟩
    have hmay : (makeX c bs).may = true := by
      have h1 := hF
      unfold makeX Hd.may
      dsimp only
      simp only [Bool.and_eq_true, Bool.or_eq_true, decide_eq_true_eq]
      refine ⟨⟨⟨h1, by omega⟩, by omega⟩, ?_⟩
      by_cases h0 : 4 * ((bs.length + 3) / 4) - bs.length = 0
      · exact .inl h0
      · exact .inr ⟨trivial, by omega⟩
    have HAL := Lib.hid (fun w1 (hb1 : Below w.heap.size w w1) => alloc_any (H.below hb1) f (hs.below hb1) hp (makeX c bs) hfit rfl hmay)
    have hx : (makeX c bs).val = .agg #[.int .i64 ((bs.length + 3) / 4 : Nat), .int .i64 2, .int .i64 (4 * ((bs.length + 3) / 4) - bs.length : Nat), .int .u32 c, .int .u32 0] := rfl
    have HPL := Lib.hid (packM_len bs)
    have hlt : ∀ k, p.has k → k < w.heap.size := fun k hk => H.lt hk
    have hle := h.allocE_le (makeX c bs)
    rw [hx, hVA] at HAL
    clear hx hVA
    by_cases hE0 : h.allocE (makeX c bs) = 0
    · have hroom : h.words.length + 3 + (bs.length + 3) / 4 ≤ h.size := by
        unfold HM.allocE at hE0
        split at hE0
        · omega
        · split at hE0
          · omega
          · rename_i h2; simp only [makeX] at h2; omega
      have HF := Lib.hid (show h.makeH c bs = h.pushH (makeX c bs) (packM bs) ∧ h.makeV c bs = .tuple #[.int .u32 (2 * h.words.length : Nat), .int .i64 0] by simp [HM.makeH, HM.makeV, hE, hE0])
      have hAH : h.allocH (makeX c bs) = h.pushH (makeX c bs) (List.replicate ((bs.length + 3) / 4) 0) := by
        have e : h.fill (makeX c bs) = 0 := by simp [HM.fill, makeX, Hd.ptrB]
        unfold HM.allocH
        rw [if_pos hE0, e]
        rfl
      rw [hE0, hAH] at HAL
      simp only [if_true] at HAL
      clear hE0 hE hAH hle hfit hmay
      have hhi := f.hi
      have hone := f.one
      generalize hFe : (bs.length + 3) / 4 = F at *
      have HFE := Lib.hid hFe
      clear hFe
      have HAT := Lib.hid (fun w => at_any p.g (2 * h.words.length) (by omega) ((objB_iff _).2 ⟨by omega, by omega⟩) w)
      rw [show 2 * h.words.length / 2 = h.words.length by omega, show ((2 * h.words.length : Nat) : Int) = 2 * (h.words.length : Int) by omega] at HAT
      generalize hL : h.words.length = L at *
      have HLW := Lib.hid hL
      clear hL hl
      unfold ptr at HAL HAT ⊢
      go_enter Tryd.func23, Tryd.ntmps23
      go_wp2_with fail
      refine HPK.out.mono ?_
      rintro e w1 ⟨g, rfl, hrow, hge, hb1⟩
      rw [HPL.out] at hrow ⊢
      rw [HFE.out]
      go_wp2_with fail
      refine (HAL.out w1 hb1).mono ?_
      rintro e w2 ⟨p1, rfl, H1, s1⟩
      have hrow2 : Row w2 g 24 F (u32s (packM bs)) := hrow.same (s1.block g hrow.lt (fun hh => by have := hlt g hh; omega))
      have s2 := (Step.of_below (p := p) hb1).trans s1
      have hg1 := s1.g
      have hlen1 : (h.pushH (makeX c bs) (List.replicate F 0)).words.length = L + 3 + F := by simp [HM.pushH, HLW.out]; omega
      have c0 := H1.c0
      simp only [hlen1] at c0
      rw [hg1] at c0
      go_wp2_with fail
      have hFb : F ≤ 65535 := hF
      have hcs : L + 3 + F ≤ p1.cw := by obtain ⟨_, _, h1, _⟩ := H1.2.1; rw [u32s_len] at h1; omega
      have hcm : p1.cw ≤ 9223372036854775807 := by obtain ⟨_, _, _, h1, _⟩ := H1.2.1; unfold maxLen at h1; exact h1
      have hLr : L + 3 + F ≤ 1048576 := by omega
      have a1 : IntKind.i64.wrap ((L : Int) + 3) = (L : Int) + 3 := IntWalk.i64_in _ (by omega)
      have a2 : ((L : Int) + 3).toNat = L + 3 := by omega
      have a3 : (0 : Int) ≤ (L : Int) + 3 := by omega
      have a4 : (L : Int) + 3 ≤ ((L + 3 + F : Nat) : Int) := by omega
      have a6 : (L : Int) + 3 ≤ (L : Int) + 3 + (F : Int) := by omega
      have a5 : L + 3 + F - (L + 3) = F := by omega
      have hws : (u32s (h.pushH (makeX c bs) (List.replicate F 0)).words).length = L + 3 + F := by rw [u32s_len, hlen1]
      have HWS := Lib.hid hws
      have HH1 := Lib.hid H1
      have HRW := Lib.hid hrow2
      have HLEN := Lib.hid hlen1
      have HG1 := Lib.hid hg1
      have HPLF := Lib.hid (show (u32s (packM bs)).length = F by rw [u32s_len]; exact HPL.out)
      clear H1 hrow hrow2 hlen1 hws hg1 s1 hroom
      by_cases hcap : p1.cw = L + 3
      · have hF0 : F = 0 := by omega
        subst hF0
        have b1 : (L : Int) + 3 ≤ ((L + 3 : Nat) : Int) := by omega
        have b2 : (L : Int) + 3 ≤ (L : Int) + 3 := by omega
        have b3 : L + 3 - (L + 3) = 0 := by omega
        go_region_law (first
          | (refine step_copy_tail (by rfl) _ _ _ _ (by rfl) (show Row _ p1.gw 24 p1.cw _ from HH1.out.2.1) 24 (L + 3) 0 _ _ ⟨g, 0, none⟩ 0 0 (u32s (packM bs)) Tryd.underlying22 info_u32_size (fun h0 => by omega) HPLF.out (Nat.le_refl _) (by rw [HWS.out]; omega) (by intro j v hj; rw [WideShapes.add_plain, Nat.zero_add]; exact HRW.out.cell hj) (one_u32s _) (by rfl) (by rfl) ?_; intro w3 hrow3 hgrow3)
          | (go_simp; go_at_call 46; refine (HAT.out _).mono ?_; rintro e w' ⟨rfl, rfl⟩))
        all_goals go_wp2_with fail
        all_goals go_ret2
        all_goals have hgr : w2.grownBy w3 (some p1.gw) := ⟨hgrow3.os, hgrow3.tape, hgrow3.output, hgrow3.size, hgrow3.block⟩
        all_goals obtain ⟨H9, s9⟩ := make_end HLW.out HPL.out HH1.out s2 hrow3 hgr
        all_goals exact ⟨p1, by rw [HF.out.2]; rfl, by rw [HF.out.1]; exact H9, s9⟩
      · go_region_law (first
          | (refine step_copy_tail (by rfl) _ _ _ _ (by rfl) (show Row _ p1.gw 24 p1.cw _ from HH1.out.2.1) 24 (L + 3) F _ _ ⟨g, 0, none⟩ F F (u32s (packM bs)) Tryd.underlying22 info_u32_size (fun h0 => by rfl) HPLF.out (Nat.le_refl _) (by rw [HWS.out]; omega) (by intro j v hj; rw [WideShapes.add_plain, Nat.zero_add]; exact HRW.out.cell hj) (one_u32s _) (by rfl) (by rfl) ?_; intro w3 hrow3 hgrow3)
          | (go_simp; go_at_call 46; refine (HAT.out _).mono ?_; rintro e w' ⟨rfl, rfl⟩))
        all_goals go_wp2_with fail
        all_goals go_ret2
        all_goals have hgr : w2.grownBy w3 (some p1.gw) := ⟨hgrow3.os, hgrow3.tape, hgrow3.output, hgrow3.size, hgrow3.block⟩
        all_goals obtain ⟨H9, s9⟩ := make_end HLW.out HPL.out HH1.out s2 hrow3 hgr
        all_goals exact ⟨p1, by rw [HF.out.2]; rfl, by rw [HF.out.1]; exact H9, s9⟩
    · have HF := Lib.hid (show h.makeH c bs = h ∧ h.makeV c bs = .tuple #[.int .u32 0, .int .i64 (h.allocE (makeX c bs))] by simp [HM.makeH, HM.makeV, hE, hE0])
      have hAH : h.allocH (makeX c bs) = h := by unfold HM.allocH; rw [if_neg hE0]
      rw [hAH, if_neg hE0] at HAL
      have hE1 : ((h.allocE (makeX c bs) : Int) != 0) = true := by simp; omega
      have hE2 : ¬ ((h.allocE (makeX c bs) : Int) = 0) := by omega
      generalize hFe : (bs.length + 3) / 4 = F at *
      have HFE := Lib.hid hFe
      clear hFe hAH hl hfit hmay hE
      generalize h.allocE (makeX c bs) = E at *
      unfold ptr at HAL ⊢
      go_enter Tryd.func23, Tryd.ntmps23
      go_wp2_with fail
      refine HPK.out.mono ?_
      rintro e w1 ⟨g, rfl, hrow, hge, hb1⟩
      rw [HPL.out] at hrow ⊢
      rw [HFE.out]
      go_wp2_with fail
      refine (HAL.out w1 hb1).mono ?_
      rintro e w2 ⟨p1, rfl, H1, s1⟩
      have s2 := (Step.of_below (p := p) hb1).trans s1
      clear hrow s1
      go_wp2_with fail
      go_ret2
      exact ⟨p1, by rw [HF.out.2]; rfl, by rw [HF.out.1]; exact H1, s2⟩
end Go.Proofs.YtfpleoblehfhbaaDoor
