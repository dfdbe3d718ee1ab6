/- SaveOld: the program's. -/
import Derived.Test.YtfpleoblehfhbaaGreatDoorJBytesOf
import Derived.Test.YtfpleoblehfhbaaGreatDoorJLook
import Derived.Test.YtfpleoblehfhbaaGreatDoorJSum
import Derived.Lib.SlBytesConst
set_option linter.unusedVariables false
set_option linter.unusedSimpArgs false
namespace Go.Proofs.YtfpleoblehfhbaaGreatDoor
open Go.RowKit
attribute [local go_sem] Oper.semAt_some

/-- The sum as a number. -/
def sumN (zs : List Nat) : Nat := 4294967295 - crc 4294967295 zs
theorem sumN_eq {zs : List Nat} (hz : ∀ x ∈ zs, x < 256) : sumOf zs = (sumN zs : Int) ∧ sumN zs < 4294967296 := by
  have := crc_lt 4294967295 zs (by decide) hz
  unfold sumOf sumN
  omega
def wordsB (l : List Nat) : List Nat := l.flatMap four4
theorem wordsB_len (l : List Nat) : (wordsB l).length = 4 * l.length := by
  induction l with
  | nil => rfl
  | cons a l ih => unfold wordsB at *; rw [List.flatMap_cons, List.length_append, ih]; simp [four4]; omega
theorem wordsB_take1 {l : List Nat} {k : Nat} (hk : k < l.length) : wordsB (l.take (k + 1)) = wordsB (l.take k) ++ four4 (l.getD k 0) := by
  unfold wordsB
  rw [List.take_add_one, List.getElem?_eq_getElem hk, List.flatMap_append, List.getD_eq_getElem?_getD, List.getElem?_eq_getElem hk]
  simp
theorem four4_byte (x : Nat) : ∀ y ∈ four4 x, y < 256 := by
  intro y hy
  simp [four4] at hy
  omega
theorem wordsB_byte (l : List Nat) : ∀ y ∈ wordsB l, y < 256 := by
  intro y hy
  obtain ⟨x, _, h⟩ := List.mem_flatMap.1 hy
  exact four4_byte x y h
/-- The image of version 1, ahead of its sum. -/
def HM.oldB (h : HM) : List Nat := [69, 70, 73, 71, 1] ++ (four4 h.last ++ four4 h.words.length ++ wordsB h.words ++ wordsB h.roots)
def HM.oldI (h : HM) : List Nat := h.oldB ++ four4 (sumN h.oldB)
theorem oldB_byte (h : HM) : ∀ y ∈ h.oldB, y < 256 := by
  intro y hy
  unfold HM.oldB at hy
  simp only [List.mem_append, List.mem_cons, List.not_mem_nil, or_false] at hy
  rcases hy with (rfl | rfl | rfl | rfl | rfl) | (((h1 | h1) | h1) | h1)
  · decide
  · decide
  · decide
  · decide
  · decide
  · exact four4_byte _ _ h1
  · exact four4_byte _ _ h1
  · exact wordsB_byte _ _ h1
  · exact wordsB_byte _ _ h1
theorem oldB_len (h : HM) : h.oldB.length = 13 + 4 * h.words.length + 4 * h.roots.length := by
  unfold HM.oldB
  simp only [List.length_append, wordsB_len]
  simp [four4]; omega
theorem u8_lit5 (w : World) (a b c d e : Nat) : True := trivial
theorem own_lessI {w : World} {B B' s m : Nat} {e : TypeId} {v : Value} {xs : List Value} (h : w.ownsRow B e s v m xs) (hB : B' ≤ B) : w.ownsRow B' e s v m xs := by
  refine ⟨h.1, ?_⟩
  rcases h.2 with h1 | ⟨g, cap, cur, h1, h2, h3⟩
  · exact .inl h1
  · exact .inr ⟨g, cap, cur, h1, Nat.le_trans hB h2, h3⟩
/-- What both SaveOld answer. -/
def SavedP (bs : List Nat) (w : World) (e : Ending) (w' : World) : Prop :=
  ∃ v, e = .returned (.tuple #[v, .int .i64 0]) ∧ w'.ownsRow w.heap.size 5 1 v bs.length (u8c bs) ∧ Below w.heap.size w w'
set_option maxRecDepth 100000 in
set_option maxHeartbeats 8000000 in
theorem isaveOld_any {w : World} {p : HP} {h : HM} (H : HAt w p h) (f : h.Fit) : Calls Tryz.prog 20 #[ptr p.g] w (SavedP h.oldI w) := by
  have HSZ := Lib.hid (size_any H f)
  have HWD := Lib.hid (words_any H f)
  have hsz : h.size ≠ 0 := by have := f.lo; omega
  have hwl := f.room
  have hhi := f.hi
  have hrl := f.roots
  have HLT := Lib.hid (fun (w' : World) (hb : Below w.heap.size w w') => last_any (H.below hb) f)
  have HRT := Lib.hid (fun (w' : World) (hb : Below w.heap.size w w') => roots_any (H.below hb) f)
  have HF4 := Lib.hid (fun (w' : World) (x : Nat) (hx : x < 4294967296) => ifour_any x hx w')
  unfold ptr at HSZ HWD HLT HRT ⊢
  unfold BytesN at HF4
  unfold NewRow at HWD HRT
  rw [u32s_len] at HWD HRT
  have hlast := f.l32
  have h32w := f.w32
  have h32r := f.r32
  have e0 : ((h.size : Int) == 0) = false := by simp; omega
  obtain ⟨i0, hi0, hz0, hz1, hz2⟩ := info_parts info_u8
  clear H
  go_enter Tryz.func20, Tryz.ntmps20
  go_wp2_with fail
  refine HSZ.out.mono ?_
  rintro e w1 ⟨rfl, rfl⟩
  go_wp2_with fail
  refine HWD.out.mono ?_
  rintro e w1 ⟨gw, cw, rfl, hroww, hgw, hb1⟩
  have HRW := Lib.hid hroww
  have HB1 := Lib.hid hb1
  clear hroww hb1 HWD HSZ
  go_wp2_with fail
  refine (HLT.out _ HB1.out).mono ?_
  rintro e w2 ⟨rfl, rfl⟩
  go_wp2_with fail
  refine (HF4.out _ h.last hlast).mono ?_
  rintro e w2 ⟨v2, rfl, hown2, hb2⟩
  have HC2 := Lib.hid (show RB w1 w2 w1.heap.size v2 (four4 h.last) from ⟨hown2, hb2, Nat.le_refl _, hb2.size⟩)
  clear hown2 hb2
  have hwc : IntKind.u32.wrap (h.words.length : Int) = (h.words.length : Int) := by show (h.words.length : Int) % 4294967296 = _; omega
  go_wp2_with fail
  refine (HF4.out _ h.words.length (by omega)).mono ?_
  rintro e w3 ⟨v3, rfl, hown3, hb3⟩
  obtain ⟨A3, c3, rfl, hr3⟩ := own_sliceI hown3
  have HR3 := Lib.hid hr3
  have HC3 := Lib.hid (HC2.out.below hb3)
  have h4l : ∀ x, (four4 x).length = 4 := fun _ => rfl
  clear hown3 hb3 hr3 HC2
  go_upto_region 5 with (at_builtin; refine wpList_app_RB (.tmp 17) (.tmp 21) HC3.out HR3.out rfl rfl (by simp only [h4l]; decide) rfl rfl ?_; intro v4 w4 C4 hg4; clear hg4; have HC4 := Lib.hid C4; clear C4)
  clear HR3 HC3
  go_wp2_with fail
  go_loopw [5, 25] (fun b i wr => ∃ k : Nat, i = .int .i64 k ∧ k ≤ h.words.length ∧ RB w1 wr w1.heap.size b (four4 h.last ++ four4 h.words.length ++ wordsB (h.words.take k))) (fun _ y _ => h.words.length - (intOf y).toNat)
  case atStart => exact ⟨0, rfl, by omega, by simpa [wordsB] using HC4.out⟩
  case round =>
    clear HC4
    obtain ⟨k, rfl, hk, hcr⟩ := hrel
    have HCR := Lib.hid hcr
    clear hcr
    by_cases hkn : k < h.words.length
    · have hd : decide ((k : Int) < (h.words.length : Int)) = true := by simp; omega
      have hc1 : wr.cell? ⟨gw, k, none⟩ = some (.int .u32 ((h.words.getD k 0 : Nat) : Int)) := (HRW.out.below HCR.out.base).cell (u32s_get hkn)
      have hx32 : h.words.getD k 0 < 4294967296 := by rw [List.getD_eq_getElem?_getD, List.getElem?_eq_getElem hkn]; exact h32w _ (List.getElem_mem hkn)
      have HX := Lib.hid (wordsB_take1 hkn)
      have hbl : (four4 h.last ++ four4 h.words.length ++ wordsB (h.words.take k)).length = 8 + 4 * k := by simp only [List.length_append, wordsB_len, h4l, List.length_take]; omega
      generalize h.words.getD k 0 = x at *
      go_wp2_with fail
      refine (HF4.out _ x hx32).mono ?_
      rintro e w5 ⟨v5, rfl, hown5, hb5⟩
      obtain ⟨A5, c5, rfl, hr5⟩ := own_sliceI hown5
      have HR5 := Lib.hid hr5
      have HC5 := Lib.hid (HCR.out.below hb5)
      clear hown5 hb5 hr5 HCR hc1
      go_wp2_with (at_builtin; refine wpList_app_RB (.tmp 29) (.tmp 31) HC5.out HR5.out rfl rfl (by rw [hbl, h4l]; omega) rfl rfl ?_; intro v6 w6 C6 hg6; clear hg6; have HC6 := Lib.hid C6; clear C6)
      go_roundw
      case rel => exact ⟨k + 1, by go_num, by omega, by rw [HX.out, ← List.append_assoc]; exact HC6.out⟩
      case measure => simp [intOf]; omega
    · obtain rfl : k = h.words.length := by omega
      have hd : decide ((h.words.length : Int) < (h.words.length : Int)) = false := by simp
      have hcw := HCR.out
      rw [List.take_length] at hcw
      have HCW := Lib.hid hcw
      clear HCR hcw
      have hbl : (four4 h.last ++ four4 h.words.length ++ wordsB h.words).length = 8 + 4 * h.words.length := by simp only [List.length_append, wordsB_len, h4l]
      generalize hA : four4 h.last ++ four4 h.words.length ++ wordsB h.words = bsA at *
      have HA := Lib.hid hA
      clear hA hk
      go_wp2_with fail
      refine (HRT.out _ (below_top HB1.out HCW.out.base)).mono ?_
      rintro e w7 ⟨gr, cr, rfl, hrowr, hgr, hb7⟩
      have HRR := Lib.hid hrowr
      have HC7 := Lib.hid (HCW.out.below hb7)
      have HB7 := Lib.hid hb7
      clear hrowr hgr hb7 HCW HRT HLT
      go_wp2_with fail
      go_loopw [5, 37] (fun b i wr => ∃ k : Nat, i = .int .i64 k ∧ k ≤ h.roots.length ∧ RB w1 wr w1.heap.size b (bsA ++ wordsB (h.roots.take k)) ∧ Row wr gr 81 cr (u32s h.roots)) (fun _ y _ => h.roots.length - (intOf y).toNat)
      case atStart => exact ⟨0, rfl, by omega, by simpa [wordsB] using HC7.out, HRR.out⟩
      case round =>
        clear HC7 HRR
        obtain ⟨k, rfl, hk, hcr, hrr⟩ := hrel
        have HCR := Lib.hid hcr
        have HRR := Lib.hid hrr
        clear hcr hrr
        by_cases hkn : k < h.roots.length
        · have hd : decide ((k : Int) < (h.roots.length : Int)) = true := by simp; omega
          have hc1 : wr.cell? ⟨gr, k, none⟩ = some (.int .u32 ((h.roots.getD k 0 : Nat) : Int)) := HRR.out.cell (u32s_get hkn)
          have hx32 : h.roots.getD k 0 < 4294967296 := by rw [List.getD_eq_getElem?_getD, List.getElem?_eq_getElem hkn]; exact h32r _ (List.getElem_mem hkn)
          have HX := Lib.hid (wordsB_take1 hkn)
          have hbl2 : (bsA ++ wordsB (h.roots.take k)).length = 8 + 4 * h.words.length + 4 * k := by simp only [List.length_append, wordsB_len, hbl, List.length_take]; omega
          generalize h.roots.getD k 0 = x at *
          go_wp2_with fail
          refine (HF4.out _ x hx32).mono ?_
          rintro e w5 ⟨v5, rfl, hown5, hb5⟩
          obtain ⟨A5, c5, rfl, hr5⟩ := own_sliceI hown5
          have HR5 := Lib.hid hr5
          have HC5 := Lib.hid (HCR.out.below hb5)
          have HRR5 := Lib.hid (HRR.out.below hb5)
          clear hown5 hb5 hr5 HCR hc1 HRR
          go_wp2_with (at_builtin; refine wpList_app_RB (.tmp 41) (.tmp 43) HC5.out HR5.out rfl rfl (by rw [hbl2, h4l]; omega) rfl rfl ?_; intro v6 w6 C6 hg6; have HC6 := Lib.hid C6; have HRR6 := Lib.hid (HC5.out.other HRR5.out (by decide) hg6); clear C6 hg6)
          go_roundw
          case rel => exact ⟨k + 1, by go_num, by omega, by rw [HX.out, ← List.append_assoc]; exact HC6.out, HRR6.out⟩
          case measure => simp [intOf]; omega
        · obtain rfl : k = h.roots.length := by omega
          have hd : decide ((h.roots.length : Int) < (h.roots.length : Int)) = false := by simp
          have hcw := HCR.out
          rw [List.take_length] at hcw
          have HCW := Lib.hid hcw
          clear HCR hcw HRR hk
          have hbl2 : (bsA ++ wordsB h.roots).length = 8 + 4 * h.words.length + 4 * h.roots.length := by simp only [List.length_append, wordsB_len, hbl]
          have kc := fun (w : World) (C : Array Value) (n c : Nat) => Lib.run_convert_bytes_const (P := Tryz.prog) w 22 5 C n c Tryz.underlying22 Tryz.underlying5
          obtain ⟨A8, c8, rfl, hr8⟩ := HCW.out.reads
          have HR8 := Lib.hid hr8
          clear hr8 hbl
          generalize hR : bsA ++ wordsB h.roots = bsR at *
          have HRE := Lib.hid hR
          have HRL := Lib.hid hbl2
          clear hR hbl2
          have HB8 := Lib.hid (below_top HB1.out HCW.out.base)
          have HCW1 := Lib.hid HCW.out
          clear HCW
          have e1 : (u8c [1]).toArray = #[.int .u8 1] := by simp [u8c]
          have e4 : (u8c [69, 70, 73, 71]).toArray = #[.int .u8 69, .int .u8 70, .int .u8 73, .int .u8 71] := by simp [u8c]
          have hr1 := reads_new1 wr (.cells #[.int .u8 69, .int .u8 70, .int .u8 73, .int .u8 71] 5 (4, 5)) [1] 1 rfl
          have hr0 := reads_marked wr (.cells #[.int .u8 1] 5) (4, 5) [69, 70, 73, 71] 4 rfl
          rw [e1] at hr1
          rw [e4] at hr0
          have HR1 := Lib.hid hr1
          have HR0 := Lib.hid hr0
          clear hr1 hr0 e1 e4
          go_wp2_with (first | (at_builtin; refine wpList_app_full (w2 := wr) (.tmp 47) (.tmp 48) (bs := [69, 70, 73, 71]) (cs := [1]) (((Below.refl _ _).alloc (Nat.le_refl _) _).alloc (by simp) _) HR0.out HR1.out rfl rfl (by decide) (by decide) rfl rfl ?_; intro v9 w9 C9; have HC9 := Lib.hid C9; have HR9 := Lib.hid ((HR8.out.below C9.base).more C9.base.size); clear C9 HR8) | (at_builtin; refine wpList_app_RB (.tmp 49) (.tmp 50) HC9.out HR9.out rfl rfl (by rw [HRL.out]; simp; omega) rfl rfl ?_; intro v10 w10 C10 hg10; clear hg10; have HC10 := Lib.hid C10; clear C10))
          have EB : h.oldB = [69, 70, 73, 71] ++ [1] ++ bsR := by unfold HM.oldB; rw [← HRE.out, ← HA.out]; simp only [List.append_assoc, List.cons_append, List.nil_append]
          have hc11 := HC10.out
          rw [← EB] at hc11
          obtain ⟨A11, c11, rfl, hr11⟩ := hc11.reads
          have HC11 := Lib.hid hc11
          have hOL := oldB_len h
          obtain ⟨hs1, hs2⟩ := sumN_eq (oldB_byte h)
          have HSM := Lib.hid (sum_any A11 h.oldB.length c11 w10.heap.size h.oldB w10 (by omega) hr11 (oldB_byte h))
          rw [hs1] at HSM
          have HOL := Lib.hid (show h.oldB.length ≤ 10000000 by omega)
          have HOI := Lib.hid (show h.oldI = h.oldB ++ four4 (sumN h.oldB) from rfl)
          clear hc11 hr11 EB hOL hs1 HC10
          generalize h.oldB = bsO at *
          generalize sumN bsO = sO at *
          refine HSM.out.mono ?_
          rintro e w11 ⟨rfl, rfl⟩
          go_wp2_with fail
          refine (HF4.out _ sO hs2).mono ?_
          rintro e w12 ⟨v12, rfl, hown12, hb12⟩
          obtain ⟨A12, c12, rfl, hr12⟩ := own_sliceI hown12
          have HR12 := Lib.hid hr12
          have HC12 := Lib.hid (HC11.out.below hb12)
          clear hown12 hb12 hr12 HC11
          go_wp2_with (at_builtin; refine wpList_app_RB (.tmp 52) (.tmp 55) HC12.out HR12.out rfl rfl (by have := HOL.out; rw [h4l]; omega) rfl rfl ?_; intro v13 w13 C13 hg13; clear hg13; have HC13 := Lib.hid C13; clear C13)
          go_ret2
          rw [HOI.out]
          have hfin := HC13.out
          exact ⟨_, rfl, own_lessI hfin.own (Nat.le_trans HB8.out.size (by simp; omega)), below_top HB8.out hfin.base⟩
end Go.Proofs.YtfpleoblehfhbaaGreatDoor
