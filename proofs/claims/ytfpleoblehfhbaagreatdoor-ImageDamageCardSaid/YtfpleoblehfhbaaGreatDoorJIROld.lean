/- SaveOld: the document's. -/
import Derived.Test.YtfpleoblehfhbaaGreatDoorJIOld
import Derived.Test.YtfpleoblehfhbaaGreatDoorJRefG
set_option linter.unusedVariables false
set_option linter.unusedSimpArgs false
namespace Go.Proofs.YtfpleoblehfhbaaGreatDoor
open Go.RowKit
attribute [local go_sem] Oper.semAt_some

def RSavedP (bs : List Nat) (w : World) (e : Ending) (w' : World) : Prop :=
  ∃ v, e = .returned v ∧ w'.ownsRow w.heap.size 5 1 v bs.length (u8c bs) ∧ Below w.heap.size w w'
set_option maxRecDepth 100000 in
set_option maxHeartbeats 8000000 in
theorem rsaveOld_any {w : World} {p : HP} {h : HM} (H : RAt w p h) (f : h.Fit) : Calls Tryz.prog 17 #[ptr p.g] w (RSavedP h.oldI w) := by
  have HH := Lib.hid (fun (w' : World) (hb : Below w.heap.size w w') => H.below hb)
  have hwl := f.room
  have hhi := f.hi
  have hrl := f.roots
  have hlast := f.l32
  have h32w := f.w32
  have h32r := f.r32
  have HF := Lib.hid (fun (w' : World) (v : Value) (bs : List Nat) (C : RB w w' w.heap.size v bs) (hn : bs.length ≤ 100000000000000) (x : Nat) (hx : x < 4294967296) => rfour_any C.own C.top hn x hx)
  have h4l : ∀ x, (four4 x).length = 4 := fun _ => rfl
  have e5 : (u8c [69, 70, 73, 71, 1]).toArray = #[.int .u8 69, .int .u8 70, .int .u8 73, .int .u8 71, .int .u8 1] := by simp [u8c]
  have hc0 : RB w (w.alloc (.cells (u8c [69, 70, 73, 71, 1]).toArray 5)) w.heap.size (.slice (some ⟨w.heap.size, 0, none⟩) 5 5) [69, 70, 73, 71, 1] := RB.new (own_new8 w _ 5 rfl (by decide)) ((Below.refl _ _).alloc (Nat.le_refl _) _) (Below.refl _ _)
  rw [e5] at hc0
  have HC0 := Lib.hid hc0
  have cL := (H.below hc0.base).c3
  clear hc0 e5 H
  have hwc : IntKind.u32.wrap (h.words.length : Int) = (h.words.length : Int) := by show (h.words.length : Int) % 4294967296 = _; omega
  unfold ptr
  go_enter Tryz.func17, Tryz.ntmps17
  go_wp2_with fail
  refine (HF.out _ _ _ HC0.out (by decide) h.last hlast).mono ?_
  rintro e w1 hB1
  obtain ⟨v1, rfl, C1⟩ := HC0.out.bytes hB1
  have HC1 := Lib.hid C1
  have cW := (HH.out _ C1.base).c1
  clear hB1 C1 HC0 cL
  go_wp2_with fail
  refine (HF.out _ _ _ HC1.out (by simp only [List.length_append, h4l]; decide) h.words.length (by omega)).mono ?_
  rintro e w2 hB2
  obtain ⟨v2, rfl, C2⟩ := HC1.out.bytes hB2
  have HC2 := Lib.hid C2
  clear hB2 C2 HC1 cW
  go_wp2_with fail
  go_loopw [3, 4] (fun b i wr => ∃ k : Nat, i = .int .i64 k ∧ k ≤ h.words.length ∧ RB w wr w.heap.size b ([69, 70, 73, 71, 1] ++ (four4 h.last ++ four4 h.words.length ++ wordsB (h.words.take k)))) (fun _ y _ => h.words.length - (intOf y).toNat)
  case atStart => exact ⟨0, rfl, by omega, by simpa [wordsB] using HC2.out⟩
  case round =>
    clear HC2
    obtain ⟨k, rfl, hk, hcr⟩ := hrel
    have HCR := Lib.hid hcr
    have cW := (HH.out _ hcr.base).c1
    have hbl : ([69, 70, 73, 71, 1] ++ (four4 h.last ++ four4 h.words.length ++ wordsB (h.words.take k))).length = 13 + 4 * k := by simp only [List.length_append, wordsB_len, h4l, List.length_take]; simp; omega
    by_cases hkn : k < h.words.length
    · have hd : decide ((k : Int) < (h.words.length : Int)) = true := by simp; omega
      have hc1 : wr.cell? ⟨p.gw, k, none⟩ = some (.int .u32 ((h.words.getD k 0 : Nat) : Int)) := (HH.out _ hcr.base).2.1.cell (u32s_get hkn)
      have hx32 : h.words.getD k 0 < 4294967296 := by rw [List.getD_eq_getElem?_getD, List.getElem?_eq_getElem hkn]; exact h32w _ (List.getElem_mem hkn)
      have HX := Lib.hid (wordsB_take1 hkn)
      have HBL := Lib.hid hbl
      clear hcr hbl
      generalize h.words.getD k 0 = x at *
      go_wp2_with fail
      refine (HF.out _ _ _ HCR.out (by rw [HBL.out]; omega) x hx32).mono ?_
      rintro e w5 hB5
      obtain ⟨v5, rfl, C5⟩ := HCR.out.bytes hB5
      have HC5 := Lib.hid C5
      clear hB5 C5 HCR hc1 cW
      go_wp2_with fail
      go_roundw
      case rel => exact ⟨k + 1, by go_num, by omega, by rw [HX.out]; simpa only [List.append_assoc] using HC5.out⟩
      case measure => simp [intOf]; omega
    · obtain rfl : k = h.words.length := by omega
      have hd : decide ((h.words.length : Int) < (h.words.length : Int)) = false := by simp
      rw [List.take_length] at hcr hbl
      clear HCR hk
      generalize hA : four4 h.last ++ four4 h.words.length ++ wordsB h.words = bsA at *
      have HA := Lib.hid hA
      have HCW := Lib.hid hcr
      have HBL := Lib.hid hbl
      clear hA hcr hbl
      go_wp2_with fail
      go_loopw [3, 5] (fun b i wr => ∃ k : Nat, i = .int .i64 k ∧ k ≤ h.roots.length ∧ RB w wr w.heap.size b ([69, 70, 73, 71, 1] ++ bsA ++ wordsB (h.roots.take k))) (fun _ y _ => h.roots.length - (intOf y).toNat)
      case atStart => exact ⟨0, rfl, by omega, by simpa [wordsB] using HCW.out⟩
      case round =>
        clear HCW cW
        obtain ⟨k, rfl, hk, hcr⟩ := hrel
        have HCR := Lib.hid hcr
        have cR := (HH.out _ hcr.base).c2
        have hbl : ([69, 70, 73, 71, 1] ++ bsA ++ wordsB (h.roots.take k)).length = 13 + 4 * h.words.length + 4 * k := by
          have := HBL.out
          simp only [List.length_append, wordsB_len, List.length_take] at this ⊢
          omega
        by_cases hkn : k < h.roots.length
        · have hd : decide ((k : Int) < (h.roots.length : Int)) = true := by simp; omega
          have hc1 : wr.cell? ⟨p.gr, k, none⟩ = some (.int .u32 ((h.roots.getD k 0 : Nat) : Int)) := (HH.out _ hcr.base).2.2.2.cell (u32s_get hkn)
          have hx32 : h.roots.getD k 0 < 4294967296 := by rw [List.getD_eq_getElem?_getD, List.getElem?_eq_getElem hkn]; exact h32r _ (List.getElem_mem hkn)
          have HX := Lib.hid (wordsB_take1 hkn)
          have HBL2 := Lib.hid hbl
          clear hcr hbl
          generalize h.roots.getD k 0 = x at *
          go_wp2_with fail
          refine (HF.out _ _ _ HCR.out (by rw [HBL2.out]; omega) x hx32).mono ?_
          rintro e w5 hB5
          obtain ⟨v5, rfl, C5⟩ := HCR.out.bytes hB5
          have HC5 := Lib.hid C5
          clear hB5 C5 HCR hc1 cR
          go_wp2_with fail
          go_roundw
          case rel => exact ⟨k + 1, by go_num, by omega, by rw [HX.out]; simpa only [List.append_assoc] using HC5.out⟩
          case measure => simp [intOf]; omega
        · obtain rfl : k = h.roots.length := by omega
          have hd : decide ((h.roots.length : Int) < (h.roots.length : Int)) = false := by simp
          rw [List.take_length] at hcr hbl
          clear HCR hk
          have EB : h.oldB = [69, 70, 73, 71, 1] ++ bsA ++ wordsB h.roots := by unfold HM.oldB; rw [← HA.out]; simp only [List.append_assoc]
          rw [← EB] at hcr hbl
          obtain ⟨A11, c11, rfl, hr11⟩ := hcr.reads
          have HC11 := Lib.hid hcr
          obtain ⟨hs1, hs2⟩ := sumN_eq (oldB_byte h)
          have HSM := Lib.hid (refSum_any A11 h.oldB.length c11 wr.heap.size h.oldB wr (by omega) hr11 (oldB_byte h))
          rw [hs1] at HSM
          have HOL := Lib.hid (show h.oldB.length ≤ 10000000 by omega)
          have HOI := Lib.hid (show h.oldI = h.oldB ++ four4 (sumN h.oldB) from rfl)
          clear hcr hr11 EB hbl hs1
          generalize h.oldB = bsO at *
          generalize sumN bsO = sO at *
          go_wp2_with fail
          refine HSM.out.mono ?_
          rintro e w11 ⟨rfl, rfl⟩
          go_wp2_with fail
          refine (HF.out _ _ _ HC11.out (by have := HOL.out; omega) sO hs2).mono ?_
          rintro e w12 hB12
          obtain ⟨v12, rfl, C12⟩ := HC11.out.bytes hB12
          have HC12 := Lib.hid C12
          clear hB12 C12 HC11
          go_wp2_with fail
          go_ret
          rw [HOI.out]
          exact ⟨_, rfl, HC12.out.own, HC12.out.base⟩
end Go.Proofs.YtfpleoblehfhbaaGreatDoor
