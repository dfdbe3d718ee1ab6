/- The document's heap: keeps. -/
/- The document's Load. -/
import Derived.Test.YtkpjkbkglnabiaaGreatDoorJRefJ
import Derived.Test.YtkpjkbkglnabiaaGreatDoorJSnd
import Derived.Test.YtkpjkbkglnabiaaGreatDoorJLoad
import Derived.Test.YtkpjkbkglnabiaaGreatDoorJBoth
set_option linter.unusedSectionVars false
set_option linter.unusedVariables false
namespace Go.Proofs.YtkpjkbkglnabiaaGreatDoor
open Go.RowKit Go.Maps
attribute [local go_sem] Oper.semAt_some

theorem spareE_last (ys : List Nat) {y s : Nat} (hs : s ≤ 3) (hy : y < 4294967296) : spareE (ys ++ [y]) s = 0 ↔ y / 2 ^ (32 - 8 * s) = 0 := by
  have e : (bytesM (ys ++ [y])).drop (4 * (ys ++ [y]).length - s) = (bytes4 y).drop (4 - s) := by
    rw [bytesM_app, List.drop_append, List.drop_eq_nil_of_le (by rw [bytesM_len]; simp; omega), List.nil_append, bytesM_len]
    have : bytesM [y] = bytes4 y := by simp [bytesM]
    rw [this]
    congr 1
    simp; omega
  unfold spareE
  rw [e]
  have h4 : s = 0 ∨ s = 1 ∨ s = 2 ∨ s = 3 := by omega
  rcases h4 with rfl | rfl | rfl | rfl
  · simp [bytes4]; omega
  · simp [bytes4]; omega
  · simp [bytes4]; omega
  · simp [bytes4]; omega
/-- What keeps refuses: a field, the last word. -/
def HM.badF (h : HM) (b : Ob) (y : Nat) : Bool := b.x.ptrB && !h.valB y
def badS (b : Ob) (k y : Nat) : Bool := (decide (k + 1 = b.x.size) && !decide (y / 2 ^ (32 - 8 * b.x.spare) = 0)) && decide (0 < b.x.spare)
def HM.okTo (h : HM) (b : Ob) (k : Nat) : Prop := ∀ j, j < k → h.badF b (b.fs.getD j 0) = false ∧ badS b j (b.fs.getD j 0) = false
theorem HM.okTo_succ {h : HM} {b : Ob} {k : Nat} (ho : h.okTo b k) (h1 : h.badF b (b.fs.getD k 0) = false) (h2 : badS b k (b.fs.getD k 0) = false) : h.okTo b (k + 1) := fun j hj => by
  rcases Nat.lt_or_ge j k with h3 | h3
  · exact ho j h3
  · obtain rfl : j = k := by omega
    exact ⟨h1, h2⟩
theorem may_spare {x : Hd} (m : x.may = true) : x.size ≤ 65535 ∧ (0 < x.spare → x.fmt = 2 ∧ 0 < x.size) := by
  unfold Hd.may at m
  simp only [Bool.and_eq_true, Bool.or_eq_true, decide_eq_true_eq] at m
  omega
theorem HM.okTo_ob {h : HM} {b : Ob} (K : b.Ok) (ho : h.okTo b b.x.size) : (b.x.ptrB = true → ∀ f ∈ b.fs, h.valB f = true) ∧ (b.x.fmt = 2 → spareE b.fs b.x.spare = 0) := by
  have hsz := K.size
  constructor
  · intro hp f hf
    obtain ⟨j, hj, rfl⟩ := List.mem_iff_getElem.1 hf
    have := (ho j (by omega)).1
    rw [List.getD_eq_getElem?_getD, List.getElem?_eq_getElem hj] at this
    unfold HM.badF at this
    rw [hp] at this
    simpa using this
  · intro h2
    by_cases hs : b.x.spare = 0
    · rw [hs]; exact spareE_zero _
    · have hm := (may_spare K.may).2 (by omega)
      have hs3 : b.x.spare ≤ 3 := by have := K.fit.spare; omega
      have h1 := (ho (b.x.size - 1) (by omega)).2
      have hne : b.fs ≠ [] := fun e => by rw [e] at hsz; simp at hsz; omega
      have hlast : b.fs.getD (b.x.size - 1) 0 = b.fs.getLast hne := by
        rw [List.getLast_eq_getElem, List.getD_eq_getElem?_getD, List.getElem?_eq_getElem (by omega)]
        simp only [Option.getD_some]
        congr 1
        omega
      rw [hlast] at h1
      unfold badS at h1
      rw [decide_eq_true (show b.x.size - 1 + 1 = b.x.size by omega), decide_eq_true (show 0 < b.x.spare by omega)] at h1
      have h3 : b.fs.getLast hne / 2 ^ (32 - 8 * b.x.spare) = 0 := by simpa using h1
      have h4 := (spareE_last b.fs.dropLast hs3 (K.f32 _ (List.getLast_mem hne))).2 h3
      rw [List.dropLast_concat_getLast] at h4
      exact h4
theorem HM.not_ob_of_bad {h : HM} {b : Ob} {k : Nat} (K : b.Ok) (hk : k < b.x.size) (hb : h.badF b (b.fs.getD k 0) = true ∨ badS b k (b.fs.getD k 0) = true) : ¬ h.ObOk b := fun ok => by
  have hsz := K.size
  have hkl : k < b.fs.length := by omega
  have hg : b.fs.getD k 0 = b.fs[k]'hkl := by rw [List.getD_eq_getElem?_getD, List.getElem?_eq_getElem hkl]; rfl
  rcases hb with hb | hb
  · unfold HM.badF at hb
    simp only [Bool.and_eq_true, Bool.not_eq_true'] at hb
    have := ok.flds hb.1 (b.fs.getD k 0) (by rw [hg]; exact List.getElem_mem hkl)
    rw [hb.2] at this
    cases this
  · unfold badS at hb
    simp only [Bool.and_eq_true, decide_eq_true_eq, Bool.not_eq_true', decide_eq_false_iff_not] at hb
    obtain ⟨⟨h1, h2⟩, h3⟩ := hb
    have hm := (may_spare K.may).2 h3
    have hs3 : b.x.spare ≤ 3 := by have := K.fit.spare; omega
    have hne : b.fs ≠ [] := fun e => by rw [e] at hsz; simp at hsz; omega
    have h4 := ok.spare hm.1
    rw [← List.dropLast_concat_getLast hne] at h4
    have h5 := (spareE_last b.fs.dropLast hs3 (K.f32 _ (List.getLast_mem hne))).1 h4
    apply h2
    rw [hg]
    rw [List.getLast_eq_getElem] at h5
    have : b.fs.length - 1 = k := by omega
    simp only [this] at h5
    exact h5

/-- An object's fields as they lie in the document's heap. -/
theorem RAt.fields {w : World} {p : HP} {h : HM} {a c : List Ob} {b : Ob} (H : RAt w p h) (L : h.Laid (a ++ b :: c)) {j : Nat} (hj : j < b.fs.length) : w.cell? ⟨p.gw, posOf a + 3 + j, none⟩ = some (.int .u32 (b.fs.getD j 0 : Nat)) := by
  have hwl := L.words_len
  have := H.word (i := posOf a + 3 + j) (by omega)
  rw [this]
  have e := L.f_at j hj
  unfold fw at e
  rw [half_pos] at e
  rw [← e]
  rfl

set_option maxRecDepth 100000 in
set_option maxHeartbeats 4000000 in
theorem keeps_any {w : World} {p : HP} {h : HM} {l : List Ob} (R : RAt w p h) (f : h.Fit) (L : h.Laid l) : Calls Tryz.prog 61 #[ptr p.g] w (SoundP h l w) := by
  have hmm := @run_makeMap Tryz.prog
  have hW1 : Below w.heap.size w (w.alloc (.map #[] 0)) := (Below.refl _ _).alloc (Nat.le_refl _) _
  have HR := Lib.hid R; have HF := Lib.hid f; have HL := Lib.hid L
  have HFI := Lib.hid (fun (w' : World) (hb : Below w.heap.size w w') => rfirst_any (R.below hb) f)
  have HFO := Lib.hid (show h.objM 1 = oopAt [] l from HM.Laid.objM_at (a := []) L)
  have MM := MapIs.made w 29
  clear R f L
  unfold ptr at HFI ⊢
  go_enter Tryz.func61, Tryz.ntmps61
  go_wp2_with fail
  refine (HFI.out _ hW1).mono ?_
  rintro e w' ⟨rfl, rfl⟩
  rw [HFO.out]
  generalize hW : w.alloc (.map #[] 0) = W1 at *
  clear hW
  have HM0 := Lib.hid (show SoundMid h w.heap.size [] w W1 from ⟨h.upTo_nil, MM, hW1⟩)
  clear MM hW1
  go_wp2_with fail
  have hne0 : w.heap.size ≠ p.gw := by have := HR.out.lt (.inr (.inl rfl)); omega
  go_loopg [4] (l.length + 1) (fun k o wr => ∃ a c, l = a ++ c ∧ k = c.length + 1 ∧ o = .int .u32 (oopAt a c : Nat) ∧ SoundMid h w.heap.size a w wr)
  case atStart => exact ⟨[], l, rfl, rfl, rfl, HM0.out⟩
  case round =>
    obtain ⟨a, c, hl, hgk, rfl, ⟨hup, hmap, hb⟩⟩ := hrel
    have HLL := Lib.hid hl
    have HGK := Lib.hid hgk
    clear HM0 hl hgk
    cases c with
    | nil =>
      have ho : oopAt a [] = 0 := rfl
      rw [ho]
      have Hr := HR.out.below hb
      have c2 := Hr.c2
      have hroots := HF.out.roots
      have HB := Lib.hid hb
      have HCELL := Lib.hid (fun j (hj : j < h.roots.length) => Hr.root (i := j) hj)
      have HVC := Lib.hid (fun o ho => rvalb_any Hr HF.out o ho)
      have HUP := Lib.hid hup
      clear hb hup hmap Hr
      unfold ptr at HVC
      have hno : (0 : Int) = 0 := rfl
      go_wp2_with fail
      go_loopw [8] (fun i wq => ∃ k : Nat, k ≤ h.roots.length ∧ i = .int .i64 k ∧ (∀ j, j < k → h.valB (h.roots.getD j 0) = true) ∧ wq = wr) (fun i _ => h.roots.length - (intOf i).toNat)
      case atStart => exact ⟨0, by omega, rfl, fun j hj => by omega, rfl⟩
      case round =>
        obtain ⟨k, hk, rfl, hall, rfl⟩ := hrel
        have HALL := Lib.hid hall
        clear hall
        by_cases hlt : k < h.roots.length
        · have hx := HCELL.out k hlt
          have hy : h.roots.getD k 0 < 4294967296 := by
            rw [List.getD_eq_getElem?_getD, List.getElem?_eq_getElem hlt]
            exact HF.out.r32 _ (List.getElem_mem _)
          have HVK := Lib.hid (HVC.out _ hy)
          cases hv : h.valB (h.roots.getD k 0)
          · have HBAD := Lib.hid (show ¬ h.Sound l from fun s => by
              have := ((h.sound_iff _).1 s).2 (h.roots.getD k 0) (by rw [List.getD_eq_getElem?_getD, List.getElem?_eq_getElem hlt]; exact List.getElem_mem _)
              rw [hv] at this; cases this)
            rw [hv] at HVK
            clear hv
            generalize h.roots.getD k 0 = y at *
            generalize h.roots.length = N at *
            go_wp2_with fail
            refine HVK.out.mono ?_
            rintro e w' ⟨rfl, rfl⟩
            go_wp2_with fail
            go_ret
            exact ⟨false, rfl, ⟨(fun e => by cases e), fun s => absurd s HBAD.out⟩, HB.out⟩
          · have HNA := Lib.hid (show ∀ j, j < k + 1 → h.valB (h.roots.getD j 0) = true from fun j hj => by
              rcases Nat.lt_or_ge j k with h1 | h1
              · exact HALL.out j h1
              · obtain rfl : j = k := by omega
                exact hv)
            rw [hv] at HVK
            clear hv
            have HKL := Lib.hid hlt
            generalize h.roots.getD k 0 = y at *
            go_wp2_with fail
            refine HVK.out.mono ?_
            rintro e w' ⟨rfl, rfl⟩
            go_wp2_with fail
            go_roundw
            case rel => exact ⟨k + 1, HKL.out, by go_num, HNA.out, by first | trivial | rfl⟩
            case measure => simp [intOf]; omega
        · obtain rfl : k = h.roots.length := by omega
          have HS2 := Lib.hid (show h.Sound l by
            rw [h.sound_iff, HLL.out, List.append_nil]
            refine ⟨HUP.out, fun r hr => ?_⟩
            obtain ⟨j, hj, rfl⟩ := List.mem_iff_getElem.1 hr
            have := HALL.out j hj
            rw [List.getD_eq_getElem?_getD, List.getElem?_eq_getElem hj] at this
            exact this)
          go_wp2_with fail
          go_ret
          exact ⟨true, rfl, ⟨fun _ => HS2.out, fun _ => rfl⟩, HB.out⟩
    | cons b c =>
      have L := HL.out
      rw [HLL.out] at L
      have ho : oopAt a (b :: c) = 2 * posOf a := rfl
      have hp1 : 1 ≤ posOf a := by unfold posOf; omega
      rw [ho]
      have K := L.ok_at
      have hsz := K.size
      have hwl : posOf a + 3 + b.x.size ≤ h.words.length := by have := L.words_len; omega
      have hroom := HF.out.room
      have hhi := HF.out.hi
      have hi : h.isB (2 * posOf a) = true := (HL.out.isB_iff _).2 ⟨a, b, c, HLL.out, rfl⟩
      have HHD := Lib.hid (rheader_any (HR.out.below hb) HF.out (2 * posOf a) (by omega) (by rw [half_pos]; exact L.hdAt_at))
      rw [half_pos, L.hd_at] at HHD
      rw [show b.x.val = .agg #[.int .i64 b.x.size, .int .i64 b.x.fmt, .int .i64 b.x.spare, .int .u32 b.x.cls, .int .u32 b.x.ser] from rfl] at HHD
      have HNX := Lib.hid (fun w' (hb : Below w.heap.size w w') => show Calls Tryz.prog 91 #[ptr p.g, .int .u32 (2 * posOf a : Nat)] w' (Told (.int .u32 (oopAt (a ++ [b]) c : Nat)) w') from by
        have := rnext_any (HR.out.below hb) HF.out HL.out.heads (2 * posOf a) (by omega) hi
        rw [L.nextO_at] at this
        exact this)
      have HXF := Lib.hid (fun w' (hb : Below w.heap.size w w') j (hj : j < b.fs.length) => (HR.out.below hb).fields L hj)
      unfold ptr at HHD HNX
      have hq : (((2 * posOf a : Nat) : Int)) / 2 = (posOf a : Int) := by omega
      have hne : ((2 * posOf a : Nat) : Int) ≠ 0 := by omega
      have hal : a.length < 9223372036854775807 := by
        have h1 := wsOf_ge a
        have h2 : posOf a = 1 + (wsOf a).length := rfl
        omega
      have HK := Lib.hid K
      have hs3 : b.x.spare ≤ 3 := by have := K.fit.spare; omega
      have h16 : b.x.size ≤ 65535 := (may_spare K.may).1
      have HSZ := Lib.hid hsz
      clear ho hi L hsz
      generalize posOf a = q at *
      generalize 2 * q = o at *
      go_wp2_with fail
      refine HHD.out.mono ?_
      rintro e w1 ⟨rfl, hb1⟩
      have hb2 := below_top hb (hb1.alloc hb1.size (.cells #[.int .i64 b.x.size, .int .i64 b.x.fmt, .int .i64 b.x.spare, .int .u32 b.x.cls, .int .u32 b.x.ser] 101))
      have BH2 := Blk.new w1 101 #[.int .i64 b.x.size, .int .i64 b.x.fmt, .int .i64 b.x.spare, .int .u32 b.x.cls, .int .u32 b.x.ser]
      have MM2 := (hmap.below hb1).below ((Below.refl _ _).alloc (Nat.le_refl _) (.cells #[.int .i64 b.x.size, .int .i64 b.x.fmt, .int .i64 b.x.spare, .int .u32 b.x.cls, .int .u32 b.x.ser] 101))
      have hgH : w.heap.size < w1.heap.size := by have := hb1.size; have := hmap.lt; omega
      obtain ⟨fs1, fs2, fs3, fs4, fs5⟩ := K.fit
      clear hb hb1 hmap K HHD
      go_upto_region 6 with fail
      generalize w1.alloc (.cells #[.int .i64 b.x.size, .int .i64 b.x.fmt, .int .i64 b.x.spare, .int .u32 b.x.cls, .int .u32 b.x.ser] 101) = W2 at *
      generalize w1.heap.size = gH at *
      go_cut [45] (fun v wx => v = .bool (h.badHd a b) ∧ Below W2.heap.size W2 wx)
      case first =>
        have hlk := MM2.look sersTy fs5
        obtain ⟨d0, d1, d2, d3, d4⟩ := BH2.cells5
        have H5 := HR.out.below hb2
        have c3 := H5.c3
        have hbe := fun n => below_drewN (Below.refl W2.heap.size W2) n
        have HCL := Lib.hid (fun n => risclass_any (H5.below (below_drewN (Below.refl W2.heap.size W2) n)) HF.out b.x.cls fs4)
        have HCN := Lib.hid (show cntOf a b.x.ser = if b.x.ser ∈ a.map (·.x.ser) then 1 else 0 from rfl)
        have HC2 := Lib.hid (show ∀ n, Calls Tryz.prog 73 #[.pointer (some ⟨p.g, 0, none⟩), .int .u32 (b.x.cls : Nat)] (W2.drewN n) fun e w' => e = .returned (.bool (h.clsB b.x.cls)) ∧ w' = W2.drewN n from fun n => (HCL.out n).mono fun e w' ⟨h1, h2⟩ => ⟨h1, h2.symm⟩)
        clear HCL H5
        by_cases s3 : h.clsB b.x.cls = false
        · have HB := Lib.hid (show h.badHd a b = true by simp [HM.badHd, s3])
          rw [s3] at HC2
          clear hlk c3 BH2 MM2 s3
          go_quiet ((go_at_call 73; exact Calls.quiet_of_same (HC2.out _)))
          all_goals go_wp2_with fail
          all_goals go_meet
          all_goals exact ⟨by rw [HB.out], hbe _⟩
        have s3' : h.clsB b.x.cls = true := by simpa using s3
        rw [s3'] at HC2
        clear s3
        by_cases s0 : b.x.ser = 0
        · have HB := Lib.hid (show h.badHd a b = true by simp [HM.badHd, s0])
          rw [s0] at d4
          clear hlk c3 BH2 MM2
          go_quiet ((go_at_call 73; exact Calls.quiet_of_same (HC2.out _)))
          all_goals go_wp2_with fail
          all_goals go_meet
          all_goals exact ⟨by rw [HB.out], hbe _⟩
        · have e0 : ((b.x.ser : Int) == 0) = false := by simp; omega
          by_cases s1 : h.last < b.x.ser
          · have HB := Lib.hid (show h.badHd a b = true by simp [HM.badHd, s1])
            have e1 : decide (h.last < b.x.ser) = true := by simp; omega
            clear hlk BH2 MM2 s0 s1
            go_quiet ((go_at_call 73; exact Calls.quiet_of_same (HC2.out _)))
            all_goals go_wp2_with fail
            all_goals go_meet
            all_goals exact ⟨by rw [HB.out], hbe _⟩
          · have e1 : decide (h.last < b.x.ser) = false := by simp; omega
            by_cases s2 : b.x.ser ∈ a.map (·.x.ser)
            · have HB := Lib.hid (show h.badHd a b = true by simp only [HM.badHd, s2, decide_true, Bool.or_true, Bool.true_or])
              have hlk5 : ∀ n, (Instr.lookup 136 (.map (some w.heap.size)) (.int .u32 (b.x.ser : Int)) false).run Tryz.prog (W2.drewN n) = .ok (.int .i64 1) (W2.drewN n) := fun n => by
                have := (show MapIs 29 (W2.drewN n) _ _ _ from MM2).look sersTy fs5
                rw [HCN.out, if_pos s2] at this
                exact this
              clear hlk BH2 MM2 s0 s1 s2
              go_quiet ((go_at_call 73; exact Calls.quiet_of_same (HC2.out _)))
              all_goals go_wp2_with fail
              all_goals go_meet
              all_goals exact ⟨by rw [HB.out], hbe _⟩
            · have HB := Lib.hid (show h.badHd a b = false by
                simp only [HM.badHd, s0, s1, s2, s3', decide_false, Bool.false_or, Bool.not_true])
              have hlk5 : ∀ n, (Instr.lookup 136 (.map (some w.heap.size)) (.int .u32 (b.x.ser : Int)) false).run Tryz.prog (W2.drewN n) = .ok (.int .i64 0) (W2.drewN n) := fun n => by
                have := (show MapIs 29 (W2.drewN n) _ _ _ from MM2).look sersTy fs5
                rw [HCN.out, if_neg s2] at this
                exact this
              clear hlk BH2 MM2 s0 s1 s2
              go_quiet ((go_at_call 73; exact Calls.quiet_of_same (HC2.out _)))
              all_goals go_wp2_with fail
              all_goals go_meet
              all_goals exact ⟨by rw [HB.out], hbe _⟩
      case rest =>
        obtain ⟨rfl, hb3⟩ := hcut
        have hb4 := below_top hb2 hb3
        have BH3 := BH2.below hb3 BH2.lt
        have MM3 := MM2.below hb3
        obtain ⟨d0, d1, d2, d3, d4⟩ := BH3.cells5
        cases hbad : h.badHd a b
        case true =>
          have HBAD := Lib.hid (show ¬ h.Sound l by rw [HLL.out]; exact HM.badHd_not hbad)
          clear hbad hb2 hb3 BH2 BH3 MM2 MM3
          go_wp2_with fail
          go_ret
          exact ⟨false, rfl, ⟨(fun e => by cases e), fun s => absurd s HBAD.out⟩, hb4⟩
        case false =>
          obtain ⟨o1, o2, o3, o4⟩ := HM.badHd_ok hbad
          obtain ⟨W4, hpt, MM4, hg4⟩ := MM3.put sersTy (v := 1) fs5 (by omega) hal
          rw [cnt_snoc o3] at MM4
          rw [show ((1 : Nat) : Int) = 1 from rfl] at hpt
          have hb5 := hb4.grown hg4 hb4.size (fun k hk => by cases hk; omega)
          have BH5 := BH3.same (hg4.block gH BH3.lt (by intro e; injection e with e; omega))
          have HO := Lib.hid (show 1 ≤ b.x.ser ∧ b.x.ser ≤ h.last ∧ b.x.ser ∉ a.map (·.x.ser) ∧ h.clsB b.x.cls = true from ⟨o1, o2, o3, o4⟩)
          have HUP := Lib.hid hup
          clear hbad hb2 hb3 BH2 BH3 MM2 MM3 o1 o2 o3 o4 hup hg4 hb4
          go_wp2_with fail
          clear d0 d1 d2 d3 d4 hpt
          go_loopw [6] (fun i wq => ∃ k : Nat, k ≤ b.x.size ∧ i = .int .i64 k ∧ h.okTo b k ∧ Below W4.heap.size W4 wq) (fun i _ => b.x.size - (intOf i).toNat)
          case atStart => exact ⟨0, by omega, rfl, (fun j hj => by omega), Below.refl _ _⟩
          case round =>
            obtain ⟨k, hk, rfl, hok, hbq⟩ := hrel
            have HOK := Lib.hid hok
            have hb6 := below_top hb5 hbq
            have BH6 := BH5.below hbq BH5.lt
            obtain ⟨e0, e1, e2, e3, e4⟩ := BH6.cells5
            clear hok
            by_cases hlt : k < b.x.size
            · have Rq := HR.out.below hb6
              have q1 := Rq.c1
              have hx := HXF.out _ hb6 k (by have := HSZ.out; omega)
              have hy : b.fs.getD k 0 < 4294967296 := by
                have hkl : k < b.fs.length := by have := HSZ.out; omega
                rw [List.getD_eq_getElem?_getD, List.getElem?_eq_getElem hkl]
                exact HK.out.f32 _ (List.getElem_mem _)
              have HBADI := Lib.hid (fun hb => HM.not_ob_of_bad (h := h) HK.out hlt hb)
              have HNEXT := Lib.hid (fun h1 h2 => HM.okTo_succ (h := h) (b := b) (k := k) HOK.out h1 h2)
              clear HOK
              generalize b.fs.getD k 0 = y at *
              have HVC := Lib.hid (rvalb_any Rq HF.out y hy)
              unfold ptr at HVC
              have HKL := Lib.hid hlt
              clear Rq
              generalize h.words.length = N at *
              go_upto_region 13 with fail
              go_cut [80] (fun v wx => v = .bool (h.badF b y) ∧ Below wr.heap.size wr wx)
              case first =>
                have hbe := Below.refl wr.heap.size wr
                by_cases h1 : b.x.fmt = 1
                · have HB := Lib.hid (show h.badF b y = !h.valB y by simp [HM.badF, Hd.ptrB, h1])
                  rw [h1] at e1
                  clear h1
                  generalize h.valB y = vb at *
                  go_wp2_with fail
                  refine HVC.out.mono ?_
                  rintro e w' ⟨rfl, rfl⟩
                  go_wp2_with fail
                  go_meet
                  exact ⟨by rw [HB.out], hbe⟩
                have f1 : ((b.x.fmt : Int) == 1) = false := by simp; omega
                by_cases h4 : b.x.fmt = 4
                · have HB := Lib.hid (show h.badF b y = !h.valB y by simp [HM.badF, Hd.ptrB, h4])
                  rw [h4] at e1
                  clear h4 h1 f1
                  generalize h.valB y = vb at *
                  go_wp2_with fail
                  refine HVC.out.mono ?_
                  rintro e w' ⟨rfl, rfl⟩
                  go_wp2_with fail
                  go_meet
                  exact ⟨by rw [HB.out], hbe⟩
                · have f4 : ((b.x.fmt : Int) == 4) = false := by simp; omega
                  have HB := Lib.hid (show h.badF b y = false by simp [HM.badF, Hd.ptrB, h4, h1])
                  clear h4 h1
                  go_wp2_with fail
                  go_meet
                  exact ⟨by rw [HB.out], hbe⟩
              case rest =>
                obtain ⟨rfl, hb7⟩ := hcut
                have hb8 := below_top hbq hb7
                have BH8 := BH6.below hb7 BH6.lt
                clear e0 e1 e2 e3 e4 hx q1 HVC hb6
                obtain ⟨e0, e1, e2, e3, e4⟩ := BH8.cells5
                cases hbf : h.badF b y
                case true =>
                  have HBAD := Lib.hid (show ¬ h.Sound l by rw [HLL.out]; exact HM.not_sound_ob (HBADI.out (.inl hbf)))
                  clear hbf HBADI hb7 BH6 BH8
                  go_wp2_with fail
                  go_ret
                  exact ⟨false, rfl, ⟨(fun e => by cases e), fun s => absurd s HBAD.out⟩, below_top hb5 hb8⟩
                case false =>
                have HBF := Lib.hid hbf
                clear hbf BH6 hb7
                go_upto_region 15 with fail
                go_cut [100] (fun v wx => v = .bool (badS b k y) ∧ Below wc.heap.size wc wx)
                case first =>
                  have hbe := Below.refl wc.heap.size wc
                  by_cases hlast : k + 1 = b.x.size
                  · have hla : ((k : Int) == (b.x.size : Int) - 1) = true := by simp; omega
                    have HB := Lib.hid (show badS b k y = ((!decide (y / 2 ^ (32 - 8 * b.x.spare) = 0)) && decide (0 < b.x.spare)) by unfold badS; rw [decide_eq_true hlast, Bool.true_and])
                    have hss : b.x.spare = 0 ∨ b.x.spare = 1 ∨ b.x.spare = 2 ∨ b.x.spare = 3 := by omega
                    clear hlast
                    rcases hss with hs | hs | hs | hs
                    · rw [hs] at e2 HB
                      clear hs
                      go_wp2_with fail
                      go_meet
                      exact ⟨by rw [HB.out]; simp, hbe⟩
                    all_goals
                      rw [hs] at e2 HB
                      clear hs
                      go_wp2_with fail
                      all_goals go_meet
                      all_goals refine ⟨?_, hbe⟩
                      all_goals rename_i hx
                      all_goals rw [HB.out]
                      all_goals congr 1
                      all_goals rw [Bool.eq_iff_iff]
                      all_goals simp
                      all_goals omega
                  · have hla : ((k : Int) == (b.x.size : Int) - 1) = false := by simp; omega
                    have HB := Lib.hid (show badS b k y = false by unfold badS; rw [decide_eq_false hlast, Bool.false_and, Bool.false_and])
                    clear hlast
                    go_wp2_with fail
                    go_meet
                    exact ⟨by rw [HB.out], hbe⟩
                case rest =>
                  obtain ⟨rfl, hb9⟩ := hcut
                  have hb10 := below_top hb8 hb9
                  cases hbs : badS b k y
                  case true =>
                    have HBAD := Lib.hid (show ¬ h.Sound l by rw [HLL.out]; exact HM.not_sound_ob (HBADI.out (.inr hbs)))
                    clear hbs HBADI hb9 BH8
                    go_wp2_with fail
                    go_ret
                    exact ⟨false, rfl, ⟨(fun e => by cases e), fun s => absurd s HBAD.out⟩, below_top hb5 hb10⟩
                  case false =>
                    have HO2 := Lib.hid (HNEXT.out HBF.out hbs)
                    clear hbs hb9 BH8
                    go_wp2_with fail
                    go_roundw
                    case rel => exact ⟨k + 1, HKL.out, by go_num, HO2.out, hb10⟩
                    case measure => simp [intOf]; omega
            · obtain rfl : k = b.x.size := by omega
              obtain ⟨o1, o2, o3, o4⟩ := HO.out
              have HOB := Lib.hid (HM.okTo_ob HK.out HOK.out)
              have HFIN := Lib.hid (show SoundMid h w.heap.size (a ++ [b]) w wr from ⟨HUP.out.snoc ⟨o4, HOB.out.1, HOB.out.2, o1, o2⟩ o3, by rw [List.length_append]; exact MM4.below hbq, hb6⟩)
              have HNC := Lib.hid (HNX.out wr hb6)
              clear o1 o2 o3 o4 HXF HNX hbq hb5 MM4
              go_wp2_with fail
              refine HNC.out.mono ?_
              rintro e wz ⟨rfl, hbz⟩
              have HFZ := Lib.hid (show SoundMid h w.heap.size (a ++ [b]) w wz from ⟨HFIN.out.1, HFIN.out.2.1.below hbz, below_top hb6 hbz⟩)
              clear HFIN HNC hb6
              go_wp2_with fail
              go_roundg (c.length + 1)
              case measure => rw [HGK.out]; simp
              case rel => exact ⟨a ++ [b], c, by rw [HLL.out]; simp, rfl, rfl, HFZ.out⟩
end Go.Proofs.YtkpjkbkglnabiaaGreatDoor

namespace Go.Proofs.YtkpjkbkglnabiaaGreatDoor
open Go.RowKit
attribute [local go_sem] Oper.semAt_some

theorem RAt.setMark {w : World} {p : HP} {h : HM} (H : RAt w p h) (k : Nat) : RAt (w.setCell ⟨p.gs, k, none⟩ (.int .u8 1)) p { h with starts := h.starts.set k true } := by
  obtain ⟨hb, hw, hs, hr⟩ := H
  have n1 : p.g ≠ p.gs := fun e => Row.ne_blk hs hb (by decide) e.symm
  have n2 : p.gw ≠ p.gs := hw.ne_ hs (by decide)
  have n3 : p.gr ≠ p.gs := hr.ne_ hs (by decide)
  refine ⟨?_, hw.far n2 _, ?_, hr.far n3 _⟩
  · have := hb.far (p := ⟨p.gs, k, none⟩) n1 (.int .u8 1)
    simpa using this
  · have := hs.set k (.int .u8 1)
    simpa [begins] using this
theorem make_u8n (F : Nat) (hF : F ≤ 1048576) (w : World) :
    (Instr.makeSlice 31 (.int .i64 (F : Int)) (.int .i64 (F : Int))).run Tryz.prog w = .ok (.slice (some ⟨w.heap.size, 0, none⟩) F F) (w.alloc (.cells (zcells (.int .u8 0) F) 5)) := by
  obtain ⟨i0, hi0, hz0, hz1, hz2⟩ := info_parts info_u8
  have := run_make_rowN (P := Tryz.prog) 31 5 i0 _ Tryz.underlying31 hi0 hz0 .i64 .i64 F F (Nat.le_refl _) (by rw [hz2]; omega) (by omega) w
  have e : madeCells (Value.int .u8 0).cells (F * 1) = zcells (.int .u8 0) F := by
    apply Array.ext
    · simp [madeCells, zcells, Value.cells]
    · intro i h1 h2
      simp [madeCells, zcells, Value.cells, Nat.mod_one]
  rw [this, hz1, e]
theorem begins_row (w : World) (F : Nat) (hF : F ≤ maxLen) : Row (w.alloc (.cells (zcells (.int .u8 0) F) 5)) w.heap.size 5 F (begins (List.replicate F false)) :=
  ⟨zcells (.int .u8 0) F, Blk.new w _ _, by simp [begins], hF, by simp [zcells], by simp [zcells, begins]⟩

/-- What the document's Load answers. -/
def RLoadP (size : Nat) (ws rs : List Nat) (last : Nat) (w : World) (d : Ending) (w' : World) : Prop :=
  Below w.heap.size w w' ∧ ((loadE size ws rs last ≠ 0 ∧ d = .returned (.tuple #[.pointer none, .int .i64 (loadE size ws rs last : Nat)])) ∨
    (loadE size ws rs last = 0 ∧ ∃ q : HP, d = .returned (.tuple #[ptr q.g, .int .i64 0]) ∧ RAt w' q (HM.ofWords size ws rs last) ∧ ∀ k, q.has k → w.heap.size ≤ k))
def RLoadMid (q : HP) (size : Nat) (ws rs : List Nat) (last : Nat) (w : World) (k : Nat) (wr : World) : Prop :=
  Below w.heap.size w wr ∧ ∃ l r, Pre ws l r ∧ k = posOf l ∧ RAt wr q ⟨size, ws, (false :: msOf l) ++ List.replicate r.length false, rs, last⟩

set_option maxRecDepth 100000 in
set_option maxHeartbeats 4000000 in
theorem rLoad_any {w : World} (size : Nat) (h1 : 64 ≤ size) (h2 : size ≤ 1048576) (A : Option Addr) (n c : Nat) (ws : List Nat) (hn : n ≤ 9223372036854775807) (hr : Reads w w.heap.size 1 A n (u32s ws)) (h32 : ∀ x ∈ ws, x < 4294967296)
    (A' : Option Addr) (n' c' : Nat) (rs : List Nat) (hn' : n' ≤ 9223372036854775807) (hr' : Reads w w.heap.size 1 A' n' (u32s rs)) (h32' : ∀ x ∈ rs, x < 4294967296) (last : Nat) (hl : last < 4294967296) :
    Calls Tryz.prog 19 #[.int .i64 size, .slice A n c, .slice A' n' c', .int .u32 last] w (RLoadP size ws rs last w) := by
  have hlw : ws.length = n := by have := hr.1; rw [u32s_len] at this; omega
  have hlr : rs.length = n' := by have := hr'.1; rw [u32s_len] at this; omega
  have hbr := Lib.hid (Below.refl w.heap.size w)
  have HLW := Lib.hid hlw
  have HLR := Lib.hid hlr
  by_cases hbad : n = 0 ∨ size < n ∨ n' ≠ 64
  · have HE := Lib.hid (loadE_bad (size := size) (ws := ws) (rs := rs) (last := last) (by rw [hlw, hlr]; exact hbad))
    have hfin : RLoadP size ws rs last w (.returned (.tuple #[.pointer none, .int .i64 1])) w := ⟨hbr.out, .inl ⟨by rw [HE.out]; decide, by rw [HE.out]; rfl⟩⟩
    have HFIN := Lib.hid hfin
    clear hr hr' h32 h32' hlw hlr hfin HE
    by_cases hb0 : n = 0
    · have hz : decide ((n : Int) < 1) = true := by simp; omega
      clear hbad hb0
      go_enter Tryz.func19, Tryz.ntmps19
      go_wp2_with fail
      go_ret2
      exact HFIN.out
    · have hz : decide ((n : Int) < 1) = false := by simp; omega
      by_cases hb1 : size < n
      · have hz1 : decide (size < n) = true := by simpa using hb1
        clear hbad hb0 hb1
        go_enter Tryz.func19, Tryz.ntmps19
        go_wp2_with fail
        go_ret2
        exact HFIN.out
      · have hz1 : decide (size < n) = false := by simpa using hb1
        have hz2 : ((n' : Int) != 64) = true := by rw [bne_iff_ne]; omega
        clear hbad hb0 hb1
        go_enter Tryz.func19, Tryz.ntmps19
        go_wp2_with fail
        go_ret2
        exact HFIN.out
  · have hnn : 0 < n := by omega
    have HB' := Lib.hid (show ¬ (ws.length = 0 ∨ size < ws.length ∨ rs.length ≠ 64) by rw [hlw, hlr]; exact hbad)
    obtain rfl : n' = 64 := by omega
    obtain ⟨ad, rfl, had, hcw⟩ := hr.2 hnn
    obtain ⟨ad', rfl, had', -⟩ := hr'.2 (by omega)
    have hz : decide ((n : Int) < 1) = false := by simp; omega
    have hz1 : decide (size < n) = false := by simp; omega
    have hmk := make_u8n n (by omega)
    have hnsz : n ≤ size := by omega
    have HRW := Lib.hid hr
    have HRR := Lib.hid hr'
    have HCW := Lib.hid (show ∀ W', Below w.heap.size w W' → ∀ j, j < n → W'.cell? (ad.add j) = some (.int .u32 (ws.getD j 0 : Nat)) from fun W' hb j hj =>
      (hb.cell (by rw [block_of_add]; exact had)).trans (hcw j _ (u32s_get (by rw [hlw]; exact hj))))
    have H32 := Lib.hid h32
    have H32' := Lib.hid h32'
    have hX : w.heap.size + 1 < ((w.alloc (.cells (zcells (.int .u8 0) n) 5)).alloc (.cells #[.int .i64 size, .slice none 0 0, .slice none 0 0, .int .u32 last, .slice (some ⟨w.heap.size, 0, none⟩) n n] 93)).heap.size := by simp
    have hb : Below w.heap.size w ((w.alloc (.cells (zcells (.int .u8 0) n) 5)).alloc (.cells #[.int .i64 size, .slice none 0 0, .slice none 0 0, .int .u32 last, .slice (some ⟨w.heap.size, 0, none⟩) n n] 93)) := ((Below.refl _ _).alloc (Nat.le_refl _) _).alloc (by simp) _
    have BX : Blk ((w.alloc (.cells (zcells (.int .u8 0) n) 5)).alloc (.cells #[.int .i64 size, .slice none 0 0, .slice none 0 0, .int .u32 last, .slice (some ⟨w.heap.size, 0, none⟩) n n] 93)) (w.heap.size + 1) 93 #[.int .i64 size, .slice none 0 0, .slice none 0 0, .int .u32 last, .slice (some ⟨w.heap.size, 0, none⟩) n n] := by
      have := Blk.new (w.alloc (.cells (zcells (.int .u8 0) n) 5)) 93 #[.int .i64 size, .slice none 0 0, .slice none 0 0, .int .u32 last, .slice (some ⟨w.heap.size, 0, none⟩) n n]
      rw [World.size_alloc] at this
      exact this
    have RS : Row ((w.alloc (.cells (zcells (.int .u8 0) n) 5)).alloc (.cells #[.int .i64 size, .slice none 0 0, .slice none 0 0, .int .u32 last, .slice (some ⟨w.heap.size, 0, none⟩) n n] 93)) w.heap.size 5 n (begins (List.replicate n false)) := (begins_row w n (by simp only [maxLen]; omega)).alloc _
    clear hr hr' h32 h32' hlw hlr hcw hbad
    go_enter Tryz.func19, Tryz.ntmps19
    go_upto_region 4 with fail
    generalize hW : (w.alloc (.cells (zcells (.int .u8 0) n) 5)).alloc (.cells #[.int .i64 size, .slice none 0 0, .slice none 0 0, .int .u32 last, .slice (some ⟨w.heap.size, 0, none⟩) n n] 93) = W1 at *
    clear hW hmk
    generalize hXX : w.heap.size + 1 = X at *
    have HXX := Lib.hid hXX
    clear hXX
    have x1 := BX.cell 1
    have z1 := BX.frozen 1
    obtain ⟨i0, hi0, hz0, hz3, hz2⟩ := info_parts info_u32
    have HO := Lib.hid (show W1.ownsRow (X + 1) 29 1 (.slice none 0 0) 0 [] from ⟨rfl, .inl ⟨rfl, rfl⟩⟩)
    have HN := Lib.hid ((HRW.out.below hb).more hb.size)
    have HB1 := Lib.hid hb
    have HRS := Lib.hid RS
    have HBX := Lib.hid BX
    have hXX := HXX.out
    clear hb RS BX
    go_upto_region 5 with (at_builtin; refine wpList_append_any _ rfl (.tmp 39) (.tmp 40) _ rfl (X + 1) 29 i0 _ 1 4 Tryz.underlying42 hi0 hz0 hz3 hz2 rfl (by omega) (.slice none 0 0) 0 [] rfl HO.out _ (some ad) n c (u32s ws) rfl HN.out (one_u32s _) (by simp only [maxLen]; omega) (by omega) (by omega) ?_; intro v1 w5 hown5 hgrow hat5; obtain ⟨g5, c5, rfl, hrow5, hlen5, hge5⟩ := Row.of_any hown5 (by omega); have k5 := (hgrow.cell_far ⟨X, 1, none⟩ hX (by simp [Value.ownBlock])).trans x1; have z5 := (hgrow.frozen_far ⟨X, 1, none⟩ hX (by simp [Value.ownBlock])).trans z1; clear hown5)
    rw [List.nil_append] at hrow5
    try simp only [Nat.zero_add]
    have hbel := below_grown (Nat.le_refl _) HB1.out hgrow (by simp [Value.ownBlock])
    have hB2 := hbel.setCell (p := ⟨X, 1, none⟩) (by simp; omega) (.slice (some ⟨g5, 0, none⟩) n c5)
    have BX2 := (HBX.out.same (hgrow.block X hX (by simp [Value.ownBlock]))).set_ 1 (.slice (some ⟨g5, 0, none⟩) n c5)
    have RW2 := hrow5.far (p := ⟨X, 1, none⟩) (by simp; omega) (.slice (some ⟨g5, 0, none⟩) n c5)
    have RS2 := (HRS.out.same (hgrow.block w.heap.size HRS.out.lt (by simp [Value.ownBlock]))).far (p := ⟨X, 1, none⟩) (by simp; omega) (.slice (some ⟨g5, 0, none⟩) n c5)
    generalize hW : w5.setCell ⟨X, 1, none⟩ (.slice (some ⟨g5, 0, none⟩) n c5) = W2 at *
    clear hW hbel hgrow hrow5 hat5 k5 z5 x1 z1 HO HN
    have BX2 : Blk W2 X 93 #[.int .i64 size, .slice (some ⟨g5, 0, none⟩) n c5, .slice none 0 0, .int .u32 last, .slice (some ⟨w.heap.size, 0, none⟩) n n] := BX2
    clear HBX HRS HB1 hX
    have hX : X < W2.heap.size := BX2.lt
    have x1 := BX2.cell 2
    have z1 := BX2.frozen 2
    obtain ⟨i1, hj0, hj1, hj3, hj2⟩ := info_parts info_oop
    have HO := Lib.hid (show W2.ownsRow (X + 1) 30 1 (.slice none 0 0) 0 [] from ⟨rfl, .inl ⟨rfl, rfl⟩⟩)
    have HN := Lib.hid ((HRR.out.below hB2).more hB2.size)
    have HB2 := Lib.hid hB2
    have HRS := Lib.hid RS2
    have HRW2 := Lib.hid RW2
    have HBX := Lib.hid BX2
    clear hB2 RS2 RW2 BX2
    go_upto_region 6 with (at_builtin; refine wpList_append_any _ rfl (.tmp 48) (.tmp 49) _ rfl (X + 1) 30 i1 _ 1 4 Tryz.underlying43 hj0 hj1 hj3 hj2 rfl (by omega) (.slice none 0 0) 0 [] rfl HO.out _ (some ad') 64 c' (u32s rs) rfl HN.out (one_u32s _) (by simp only [maxLen]; omega) (by omega) (by omega) ?_; intro v1 w6 hown5 hgrow hat5; obtain ⟨g6, c6, rfl, hrow5, hlen5, hge6⟩ := Row.of_any hown5 (by omega); have k5 := (hgrow.cell_far ⟨X, 2, none⟩ hX (by simp [Value.ownBlock])).trans x1; have z5 := (hgrow.frozen_far ⟨X, 2, none⟩ hX (by simp [Value.ownBlock])).trans z1; clear hown5)
    rw [List.nil_append] at hrow5
    try simp only [Nat.zero_add]
    have hbel := below_grown (Nat.le_refl _) HB2.out hgrow (by simp [Value.ownBlock])
    have hB3 := hbel.setCell (p := ⟨X, 2, none⟩) (by simp; omega) (.slice (some ⟨g6, 0, none⟩) 64 c6)
    have BX3 := (HBX.out.same (hgrow.block X hX (by simp [Value.ownBlock]))).set_ 2 (.slice (some ⟨g6, 0, none⟩) 64 c6)
    have RR3 := hrow5.far (p := ⟨X, 2, none⟩) (by simp; omega) (.slice (some ⟨g6, 0, none⟩) 64 c6)
    have RW3 := (HRW2.out.same (hgrow.block g5 HRW2.out.lt (by simp [Value.ownBlock]))).far (p := ⟨X, 2, none⟩) (by simp; omega) (.slice (some ⟨g6, 0, none⟩) 64 c6)
    have RS3 := (HRS.out.same (hgrow.block w.heap.size HRS.out.lt (by simp [Value.ownBlock]))).far (p := ⟨X, 2, none⟩) (by simp; omega) (.slice (some ⟨g6, 0, none⟩) 64 c6)
    have BX3 : Blk (w6.setCell ⟨X, 2, none⟩ (.slice (some ⟨g6, 0, none⟩) 64 c6)) X 93 #[.int .i64 size, .slice (some ⟨g5, 0, none⟩) n c5, .slice (some ⟨g6, 0, none⟩) 64 c6, .int .u32 last, .slice (some ⟨w.heap.size, 0, none⟩) n n] := BX3
    generalize hW : w6.setCell ⟨X, 2, none⟩ (.slice (some ⟨g6, 0, none⟩) 64 c6) = W3 at *
    have R3 : RAt W3 ⟨X, g5, c5, w.heap.size, n, g6, c6⟩ ⟨size, ws, List.replicate n false, rs, last⟩ := ⟨by
      show Blk W3 X 93 #[.int .i64 size, .slice (some ⟨g5, 0, none⟩) ws.length c5, .slice (some ⟨g6, 0, none⟩) rs.length c6, .int .u32 last, .slice (some ⟨w.heap.size, 0, none⟩) (List.replicate n false).length n]
      rw [HLW.out, HLR.out, List.length_replicate]; exact BX3, RW3, RS3, RR3⟩
    have HQN := Lib.hid (show ∀ k, HP.has ⟨X, g5, c5, w.heap.size, n, g6, c6⟩ k → w.heap.size ≤ k from by rintro k (rfl | rfl | rfl | rfl) <;> (try simp only []) <;> omega)
    have HPG := Lib.hid (show (HP.mk X g5 c5 w.heap.size n g6 c6).g = X ∧ (HP.mk X g5 c5 w.heap.size n g6 c6).gs = w.heap.size from ⟨rfl, rfl⟩)
    generalize hQ : (HP.mk X g5 c5 w.heap.size n g6 c6) = q at *
    clear hQ hW hbel hgrow hrow5 hat5 k5 z5 x1 z1 HO HN HRS HRW2 HBX HB2 BX3 RR3 RW3 RS3 hge5 hge6 hX hXX hlen5 hi0 hz0 hz3 hz2 hj0 hj1 hj3 hj2
    have HFAIL := Lib.hid (show parseW ws = none → loadE size ws rs last = 20 from fun e => loadE_no HB'.out (not_loadOk_of_none e))
    have HBAD := Lib.hid (show ∀ wz, loadE size ws rs last = 20 → Below w.heap.size w wz → RLoadP size ws rs last w (.returned (.tuple #[.pointer none, .int .i64 20])) wz from fun wz e hb => ⟨hb, .inl ⟨by rw [e]; decide, by rw [e]; rfl⟩⟩)
    have q0 := HCW.out W3 hB3 0 hnn
    rw [show ad.add 0 = ad by unfold Addr.add; simp] at q0
    have hn0 : (0 : Int) < (n : Int) := by omega
    have HB3 := Lib.hid hB3
    have HR3 := Lib.hid R3
    clear hB3 R3
    by_cases h0 : ws.getD 0 0 = 0
    case neg =>
      have hb : ((ws.getD 0 0 : Int) != 0) = true := by rw [bne_iff_ne]; omega
      have HN := Lib.hid (HFAIL.out (by
        unfold parseW
        split
        · rename_i hw; simp at h0
        · rfl))
      generalize ws.getD 0 0 = x at *
      clear h0
      go_wp2_with fail
      go_ret2
      exact HBAD.out _ HN.out HB3.out
    obtain ⟨r0, hr0⟩ : ∃ r0, ws = 0 :: r0 := by
      cases hw : ws with
      | nil => have := HLW.out; rw [hw] at this; simp at this; omega
      | cons a r => rw [hw] at h0; simp at h0; exact ⟨r, by rw [h0]⟩
    rw [h0] at q0
    have HM0 := Lib.hid (show RLoadMid q size ws rs last w 1 W3 from ⟨HB3.out, [], r0, by rw [hr0]; exact Pre.start, rfl, by
      have e : (false :: msOf []) ++ List.replicate r0.length false = List.replicate n false := by
        have := HLW.out
        rw [hr0] at this
        rw [← this]
        simp [msOf, List.replicate_succ]
      rw [e]; exact HR3.out⟩)
    clear hr0 h0 HR3
    go_wp2_with fail
    clear q0
    go_loopw [11] (fun i wr => ∃ k : Nat, i = .int .i64 k ∧ RLoadMid q size ws rs last w k wr) (fun i _ => n - (intOf i).toNat)
    case atStart => exact ⟨1, rfl, HM0.out⟩
    case round =>
      obtain ⟨k, rfl, hbk, l, r, hp, rfl, Rr⟩ := hrel
      have hlen := hp.len
      rw [HLW.out] at hlen
      by_cases hr0 : r = []
      · subst hr0
        simp only [List.length_nil, Nat.add_zero] at hlen
        have HD := Lib.hid hp.done
        have Rr : RAt wr q ⟨size, ws, false :: msOf l, rs, last⟩ := by
          have e : (false :: msOf l) ++ List.replicate ([] : List Nat).length false = false :: msOf l := by simp
          rw [e] at Rr; exact Rr
        have hof : (⟨size, ws, false :: msOf l, rs, last⟩ : HM) = HM.ofWords size ws rs last := by
          unfold HM.ofWords
          rw [HD.out]
          rfl
        have hinv := parseW_inv H32.out HD.out
        have L3 : HM.Laid ⟨size, ws, false :: msOf l, rs, last⟩ l := ⟨hinv.1, rfl, hinv.2⟩
        have F3 : HM.Fit ⟨size, ws, false :: msOf l, rs, last⟩ := ⟨h1, h2, by show 1 ≤ ws.length; rw [HLW.out]; exact hnn, by show ws.length ≤ size; rw [HLW.out]; exact hnsz, by
          show (false :: msOf l).length = ws.length
          rw [hinv.1]; simp [msOf_len], HLR.out, H32.out, H32'.out, hl⟩
        have HSN := Lib.hid (keeps_any Rr F3 L3)
        unfold ptr at HSN
        rw [HPG.out.1] at HSN
        have HOF := Lib.hid hof
        have HRR3 := Lib.hid Rr
        have HBK := Lib.hid hbk
        clear hof hinv L3 F3 Rr hbk hp
        rw [← hlen] at *
        go_wp2_with fail
        refine HSN.out.mono ?_
        rintro e w4 ⟨b2, rfl, hiff, hb4⟩
        have HIFF := Lib.hid hiff
        have HB5 := Lib.hid (below_top HBK.out hb4)
        have HR5 := Lib.hid (HRR3.out.below hb4)
        clear hiff hb4
        cases b2
        · have HE := Lib.hid (loadE_no HB'.out (fun ok => by
            have := (loadOk_iff HD.out).1 ok
            rw [← HOF.out] at this
            exact absurd (HIFF.out.2 this) (by decide)))
          go_wp2_with fail
          go_ret2
          exact HBAD.out _ HE.out HB5.out
        · have HE := Lib.hid (loadE_ok HB'.out ((loadOk_iff HD.out).2 (by rw [← HOF.out]; exact HIFF.out.1 rfl)))
          go_wp2_with fail
          go_ret2
          exact ⟨HB5.out, .inr ⟨HE.out, q, by rw [HPG.out.1]; rfl, by rw [← HOF.out]; exact HR5.out, HQN.out⟩⟩
      · have hpos : 0 < r.length := List.length_pos_iff.2 hr0
        by_cases hr3 : r.length < 3
        · have HN := Lib.hid (HFAIL.out (hp.none (parseT_short hr0 hr3)))
          have HBK := Lib.hid hbk
          clear hp hr0 Rr hbk
          generalize posOf l = K at *
          generalize r.length = m at *
          have hdec : decide (K < n) = true := by simp; omega
          have hdec1 : (n : Int) < (K : Int) + 3 := by omega
          have hKn : K < n := by omega
          have hdec2 : decide ((n : Int) < (K : Int) + 3) = true := by simpa using hdec1
          clear hlen hdec1
          go_wp2_with fail
          go_ret2
          exact HBAD.out _ HN.out HBK.out
        · obtain ⟨a, b, c2, r', rfl⟩ : ∃ a b c r', r = a :: b :: c :: r' := by
            match r, hr3 with
            | a :: b :: c :: r', _ => exact ⟨a, b, c, r', rfl⟩
            | [], h => simp at h
            | [_], h => simp at h
            | [_, _], h => simp at h
          have hm : ∀ x ∈ a :: b :: c2 :: r', x < 4294967296 := fun x hx => H32.out x (by rw [hp.eq]; simp at hx ⊢; right; right; exact hx)
          have ba := hm a (by simp)
          have bb := hm b (by simp)
          have bc := hm c2 (by simp)
          have g0 := hp.get 0
          have g1 := hp.get 1
          have g2 := hp.get 2
          simp only [Nat.add_zero, List.getD_cons_zero, List.getD_cons_succ] at g0 g1 g2
          have HLEN := Lib.hid (show n = posOf l + (r'.length + 3) by simpa using hlen)
          have hw0 := HCW.out wr hbk (posOf l) (by have := HLEN.out; omega)
          have hw1 := HCW.out wr hbk (posOf l + 1) (by have := HLEN.out; omega)
          have hw2 := HCW.out wr hbk (posOf l + 2) (by have := HLEN.out; omega)
          rw [g0] at hw0
          rw [g1] at hw1
          rw [g2] at hw2
          have hw1 := cell_add hw1 (by omega)
          have hw2 := cell_add hw2 (by omega)
          have HBK := Lib.hid hbk
          have HPL := Lib.hid (show posOf l + 3 ≤ n by have := HLEN.out; omega)
          have HP := Lib.hid hp
          have HRR3 := Lib.hid Rr
          have hadr : ad.block < wr.heap.size := by have := hbk.size; omega
          clear g0 g1 g2 hm hlen hr0 hr3 hpos hp Rr
          generalize hKK : posOf l = K at *
          have HKK := Lib.hid hKK
          have hkn := HPL.out
          have hdec : decide (K < n) = true := by simp; omega
          have hdec2 : decide ((n : Int) < (K : Int) + 3) = false := by simp; omega
          have hlt0 : (K : Int) < (n : Int) := by omega
          have hlt1 : (K : Int) + 1 < (n : Int) := by omega
          have hlt2 : (K : Int) + 2 < (n : Int) := by omega
          have e1 : IntKind.i64.wrap ((K : Int) + 1) = (K : Int) + 1 := IntWalk.i64_in _ (by omega)
          have e2 : IntKind.i64.wrap ((K : Int) + 2) = (K : Int) + 2 := IntWalk.i64_in _ (by omega)
          have p1 : 0 ≤ (K : Int) + 1 := by omega
          have p2 : 0 ≤ (K : Int) + 2 := by omega
          have t1 : ((K : Int) + 1).toNat = K + 1 := by omega
          have t2 : ((K : Int) + 2).toNat = K + 2 := by omega
          have HU := Lib.hid (fun w => runpack_any a b c2 ba bb bc w)
          obtain ⟨x, ok, hX⟩ : ∃ (x : Hd) (ok : Bool), unpackV a b c2 = .tuple #[.agg #[.int .i64 x.size, .int .i64 x.fmt, .int .i64 x.spare, .int .u32 x.cls, .int .u32 x.ser], .bool ok] ∧ ok = okhd a b c2 ∧ (ok = true → x = unhd a b c2) := by
            cases hok : okhd a b c2
            · exact ⟨⟨0, 0, 0, 0, 0⟩, false, by unfold unpackV; rw [hok]; rfl, rfl, fun e => by cases e⟩
            · exact ⟨unhd a b c2, true, by unfold unpackV; rw [hok]; rfl, rfl, fun _ => rfl⟩
          obtain ⟨hX, hokE, hxE⟩ := hX
          rw [hX] at HU
          have HOKE := Lib.hid hokE
          have HXE := Lib.hid hxE
          clear hX hokE hxE hKK hkn ba bb bc hbk
          go_upto_region 12 with fail
          have KC := Lib.hid (show ∀ W', Below wr.heap.size wr W' → W'.cell? (ad.add K) = some (.int .u32 (a : Int)) ∧ W'.cell? ⟨ad.block, ad.off + (K + 1), none⟩ = some (.int .u32 (b : Int)) ∧ W'.cell? ⟨ad.block, ad.off + (K + 2), none⟩ = some (.int .u32 (c2 : Int)) from fun W' hb =>
            ⟨(hb.cell (by rw [block_of_add]; exact hadr)).trans hw0, (hb.cell (show (⟨ad.block, ad.off + (K + 1), none⟩ : Addr).block < wr.heap.size from hadr)).trans hw1, (hb.cell (show (⟨ad.block, ad.off + (K + 2), none⟩ : Addr).block < wr.heap.size from hadr)).trans hw2⟩)
          have HUA := Lib.hid (show Calls Tryz.prog 60 #[.agg #[.int .u32 a, .int .u32 b, .int .u32 c2]] wr.drew fun e w1 => e = .returned (.tuple #[.agg #[.int .i64 x.size, .int .i64 x.fmt, .int .i64 x.spare, .int .u32 x.cls, .int .u32 x.ser], .bool ok]) ∧ Below wr.heap.size wr w1 from
            (HU.out _).mono fun _ _ ⟨h1, h2⟩ => ⟨h1, below_top (below_drew (Below.refl _ _)) h2⟩)
          have HUB := Lib.hid (show Calls Tryz.prog 60 #[.agg #[.int .u32 a, .int .u32 b, .int .u32 c2]] (wr.alloc (.cells #[.int .i64 0, .int .i64 0, .int .i64 0, .int .u32 0, .int .u32 0] 101)).drew fun e w1 => e = .returned (.tuple #[.agg #[.int .i64 x.size, .int .i64 x.fmt, .int .i64 x.spare, .int .u32 x.cls, .int .u32 x.ser], .bool ok]) ∧ Below wr.heap.size wr w1 ∧ Blk w1 wr.heap.size 101 #[.int .i64 0, .int .i64 0, .int .i64 0, .int .u32 0, .int .u32 0] from
            (HU.out _).mono fun _ _ ⟨h1, h2⟩ => ⟨h1, below_top (below_drew (below_alloc1 (Below.refl _ _))) h2, ((Blk.new wr _ _).drew).below h2 (by simp [World.drew])⟩)
          have hb0 := Below.refl wr.heap.size wr
          go_cut [12, 13] (fun v v2 wx => ∃ g, v = ptr g ∧ v2 = .bool ok ∧ Below wr.heap.size wr wx ∧ Blk wx g 101 #[.int .i64 x.size, .int .i64 x.fmt, .int .i64 x.spare, .int .u32 x.cls, .int .u32 x.ser] ∧ wr.heap.size ≤ g)
          case first =>
            go_region_held3 (fun w' => w'.cell? (ad.add K) = some (.int .u32 (a : Int)) ∧ w'.cell? ⟨ad.block, ad.off + (K + 1), none⟩ = some (.int .u32 (b : Int)) ∧ w'.cell? ⟨ad.block, ad.off + (K + 2), none⟩ = some (.int .u32 (c2 : Int)))
              (first | with_reducible exact KC.out _ hb0 | with_reducible exact KC.out _ (Below.drew hb0) | with_reducible exact KC.out _ (below_alloc1 hb0) | with_reducible exact KC.out _ (Below.drew (below_alloc1 hb0)) | with_reducible exact KC.out _ hk | with_reducible exact KC.out _ (below_alloc1 hk) | with_reducible exact KC.out _ (below_set5 hk (Nat.le_refl _)))
              (first
                | (go_at_call 60; (with_reducible refine HUA.out.mono ?_); rintro e w1 ⟨rfl, hk⟩)
                | (go_at_call 60; (with_reducible refine HUB.out.mono ?_); rintro e w1 ⟨rfl, hk, hB6⟩; obtain ⟨g0, g1, g2, g3, g4⟩ := hB6.cells5; have hgz := hB6.fz; have hgl := hB6.lt))
            all_goals go_wp2_with fail
            all_goals go_meet
            · exact ⟨_, rfl, rfl, below_alloc1 hk, Blk.new _ _ _, hk.size⟩
            · exact ⟨_, rfl, rfl, below_set5 hk (Nat.le_refl _), hB6.setAll5 _ _ _ _ _, Nat.le_refl _⟩
          case rest =>
            obtain ⟨gx, rfl, rfl, hbc, BXh, hgx⟩ := hcut
            have HB5 := Lib.hid (below_top HBK.out hbc)
            have HR5 := Lib.hid (HRR3.out.below hbc)
            obtain ⟨d0, -, -, -, -⟩ := BXh.cells5
            clear KC HUA HUB hb0 HU hw0 hw1 hw2 hadr
            unfold ptr
            cases hok : ok
            · have HN := Lib.hid (HFAIL.out (HP.out.none (parseT_bad (by rw [← HOKE.out, hok]))))
              clear hok hbc BXh
              go_wp2_with fail
              go_ret2
              exact HBAD.out _ HN.out HB5.out
            · have hx := HXE.out hok
              have hokE : okhd a b c2 = true := by rw [← HOKE.out, hok]
              have HOK2 := Lib.hid hokE
              clear hok hokE HOKE HXE
              have hfit : x.size < 16777216 := by rw [hx]; exact Nat.mod_lt _ (by omega)
              by_cases hsz : x.size ≤ r'.length
              · have hz5 : decide ((n : Int) < (K : Int) + 3 + (x.size : Int)) = false := by have := HLEN.out; simp; omega
                have HP2 := Lib.hid (HP.out.next H32.out HOK2.out (by rw [← hx]; exact hsz))
                have HPOS := Lib.hid (posOf_snoc l ⟨unhd a b c2, r'.take (unhd a b c2).size⟩)
                have HMS := Lib.hid (marks_set l ⟨unhd a b c2, r'.take (unhd a b c2).size⟩ (a :: b :: c2 :: r').length (r'.drop (unhd a b c2).size).length (by rw [← hx]; simp; omega))
                rw [HKK.out, ← hx] at HMS
                rw [HKK.out, ← hx] at HPOS
                rw [← hx] at HP2
                have HTL := Lib.hid (show (r'.take x.size).length = x.size by simp; omega)
                have HSL := Lib.hid (show (false :: msOf l ++ List.replicate (a :: b :: c2 :: r').length false).length = n by
                  rw [List.length_append, List.length_cons, msOf_len, List.length_replicate, HLEN.out, ← HKK.out]; simp [posOf]; omega)
                have hkl : K < n := by have := HLEN.out; omega
                have c4 := HR5.out.c4
                have hkb : K + 3 + x.size ≤ n := by have := HLEN.out; omega
                have sl : (false :: msOf l ++ List.replicate (a :: b :: c2 :: r').length false).length = n := HSL.out
                simp only [sl] at c4
                have m1 := HR5.out.mark (i := K) (by show K < (false :: msOf l ++ List.replicate (a :: b :: c2 :: r').length false).length; rw [sl]; exact hkl)
                have z1 := HR5.out.2.2.1.frozen K
                have HS2 := Lib.hid (HR5.out.setMark K)
                have hne : gx ≠ q.gs := by
                  have := HRR3.out.lt (k := q.gs) (.inr (.inr (.inl rfl)))
                  omega
                obtain ⟨d0', -, -, -, -⟩ := (BXh.far (p := ⟨q.gs, K, none⟩) hne (.int .u8 1)).cells5
                have HB6 := Lib.hid (HB5.out.setCell (p := ⟨q.gs, K, none⟩) (by rw [HPG.out.2]; exact Nat.le_refl _) (.int .u8 1))
                rw [HPG.out.1] at c4
                clear sl hbc BXh HR5 HRR3 HP hx
                dsimp only at m1
                generalize (if (false :: msOf l ++ List.replicate (a :: b :: c2 :: r').length false).getD K false = true then (1 : Int) else 0) = mb at m1
                have hk4 : (K : Int) < (n : Int) := by omega
                go_wp2_with fail
                go_roundw
                case rel =>
                  refine ⟨K + (3 + x.size), by go_num, HB6.out, l ++ [⟨x, r'.take x.size⟩], r'.drop x.size, HP2.out, by rw [HPOS.out, HTL.out]; omega, ?_⟩
                  have e := HS2.out
                  rw [HMS.out] at e
                  exact e
                case measure => simp [intOf]; omega
              · have hz5 : decide ((n : Int) < (K : Int) + 3 + (x.size : Int)) = true := by have := HLEN.out; simp; omega
                have hkb : K + 3 ≤ n := by have := HLEN.out; omega
                have HN := Lib.hid (HFAIL.out (HP.out.none (parseT_long (by rw [← hx]; omega))))
                clear hx hbc BXh hsz
                go_wp2_with fail
                go_ret2
                exact HBAD.out _ HN.out HB5.out
end Go.Proofs.YtkpjkbkglnabiaaGreatDoor
