/- The document's heap: keeps. -/
import Derived.Test.YtfpleoblehfhbaaDoorJAll
import Derived.Test.YtfpleoblehfhbaaDoorJSound
set_option linter.unusedVariables false
namespace Go.Proofs.YtfpleoblehfhbaaDoor
open Go.RowKit Go.Maps
attribute [local go_sem] Oper.semAt_some

theorem spareE_last (ys : List Nat) {y s : Nat} (hs : s ≤ 3) (hy : y < 4294967296) : spareE (ys ++ [y]) s = 0 ↔ y / 2 ^ (32 - 8 * s) = 0 := by
  have e : (bytesM (ys ++ [y])).drop (4 * (ys ++ [y]).length - s) = (bytes4 y).drop (4 - s) := by
    rw [bytesM_app, List.drop_append, List.drop_eq_nil_of_le (by rw [bytesM_len]; simp; omega), List.nil_append, bytesM_len]
    have : bytesM [y] = bytes4 y := by simp [bytesM]
    rw [this]
    congr 1
    simp; omega
  unfold spareE
  rw [e]
  have h4 : s = 0 ∨ s = 1 ∨ s = 2 ∨ s = 3 := by omega
  rcases h4 with rfl | rfl | rfl | rfl
  · simp [bytes4]; omega
  · simp [bytes4]; omega
  · simp [bytes4]; omega
  · simp [bytes4]; omega
/-- What keeps refuses: a field, the last word. -/
def HM.badF (h : HM) (b : Ob) (y : Nat) : Bool := b.x.ptrB && !h.valB y
def badS (b : Ob) (k y : Nat) : Bool := (decide (k + 1 = b.x.size) && !decide (y / 2 ^ (32 - 8 * b.x.spare) = 0)) && decide (0 < b.x.spare)
def HM.okTo (h : HM) (b : Ob) (k : Nat) : Prop := ∀ j, j < k → h.badF b (b.fs.getD j 0) = false ∧ badS b j (b.fs.getD j 0) = false
theorem HM.okTo_succ {h : HM} {b : Ob} {k : Nat} (ho : h.okTo b k) (h1 : h.badF b (b.fs.getD k 0) = false) (h2 : badS b k (b.fs.getD k 0) = false) : h.okTo b (k + 1) := fun j hj => by
  rcases Nat.lt_or_ge j k with h3 | h3
  · exact ho j h3
  · obtain rfl : j = k := by omega
    exact ⟨h1, h2⟩
theorem may_spare {x : Hd} (m : x.may = true) : x.size ≤ 65535 ∧ (0 < x.spare → x.fmt = 2 ∧ 0 < x.size) := by
  unfold Hd.may at m
  simp only [Bool.and_eq_true, Bool.or_eq_true, decide_eq_true_eq] at m
  omega
theorem HM.okTo_ob {h : HM} {b : Ob} (K : b.Ok) (ho : h.okTo b b.x.size) : (b.x.ptrB = true → ∀ f ∈ b.fs, h.valB f = true) ∧ (b.x.fmt = 2 → spareE b.fs b.x.spare = 0) := by
  have hsz := K.size
  constructor
  · intro hp f hf
    obtain ⟨j, hj, rfl⟩ := List.mem_iff_getElem.1 hf
    have := (ho j (by omega)).1
    rw [List.getD_eq_getElem?_getD, List.getElem?_eq_getElem hj] at this
    unfold HM.badF at this
    rw [hp] at this
    simpa using this
  · intro h2
    by_cases hs : b.x.spare = 0
    · rw [hs]; exact spareE_zero _
    · have hm := (may_spare K.may).2 (by omega)
      have hs3 : b.x.spare ≤ 3 := by have := K.fit.spare; omega
      have h1 := (ho (b.x.size - 1) (by omega)).2
      have hne : b.fs ≠ [] := fun e => by rw [e] at hsz; simp at hsz; omega
      have hlast : b.fs.getD (b.x.size - 1) 0 = b.fs.getLast hne := by
        rw [List.getLast_eq_getElem, List.getD_eq_getElem?_getD, List.getElem?_eq_getElem (by omega)]
        simp only [Option.getD_some]
        congr 1
        omega
      rw [hlast] at h1
      unfold badS at h1
      rw [decide_eq_true (show b.x.size - 1 + 1 = b.x.size by omega), decide_eq_true (show 0 < b.x.spare by omega)] at h1
      have h3 : b.fs.getLast hne / 2 ^ (32 - 8 * b.x.spare) = 0 := by simpa using h1
      have h4 := (spareE_last b.fs.dropLast hs3 (K.f32 _ (List.getLast_mem hne))).2 h3
      rw [List.dropLast_concat_getLast] at h4
      exact h4
theorem HM.not_ob_of_bad {h : HM} {b : Ob} {k : Nat} (K : b.Ok) (hk : k < b.x.size) (hb : h.badF b (b.fs.getD k 0) = true ∨ badS b k (b.fs.getD k 0) = true) : ¬ h.ObOk b := fun ok => by
  have hsz := K.size
  have hkl : k < b.fs.length := by omega
  have hg : b.fs.getD k 0 = b.fs[k]'hkl := by rw [List.getD_eq_getElem?_getD, List.getElem?_eq_getElem hkl]; rfl
  rcases hb with hb | hb
  · unfold HM.badF at hb
    simp only [Bool.and_eq_true, Bool.not_eq_true'] at hb
    have := ok.flds hb.1 (b.fs.getD k 0) (by rw [hg]; exact List.getElem_mem hkl)
    rw [hb.2] at this
    cases this
  · unfold badS at hb
    simp only [Bool.and_eq_true, decide_eq_true_eq, Bool.not_eq_true', decide_eq_false_iff_not] at hb
    obtain ⟨⟨h1, h2⟩, h3⟩ := hb
    have hm := (may_spare K.may).2 h3
    have hs3 : b.x.spare ≤ 3 := by have := K.fit.spare; omega
    have hne : b.fs ≠ [] := fun e => by rw [e] at hsz; simp at hsz; omega
    have h4 := ok.spare hm.1
    rw [← List.dropLast_concat_getLast hne] at h4
    have h5 := (spareE_last b.fs.dropLast hs3 (K.f32 _ (List.getLast_mem hne))).1 h4
    apply h2
    rw [hg]
    rw [List.getLast_eq_getElem] at h5
    have : b.fs.length - 1 = k := by omega
    simp only [this] at h5
    exact h5

/-- An object's fields as they lie in the document's heap. -/
theorem RAt.fields {w : World} {p : HP} {h : HM} {a c : List Ob} {b : Ob} (H : RAt w p h) (L : h.Laid (a ++ b :: c)) {j : Nat} (hj : j < b.fs.length) : w.cell? ⟨p.gw, posOf a + 3 + j, none⟩ = some (.int .u32 (b.fs.getD j 0 : Nat)) := by
  have hwl := L.words_len
  have := H.word (i := posOf a + 3 + j) (by omega)
  rw [this]
  have e := L.f_at j hj
  unfold fw at e
  rw [half_pos] at e
  rw [← e]
  rfl

set_option maxRecDepth 100000 in
set_option maxHeartbeats 4000000 in
theorem keeps_any {w : World} {p : HP} {h : HM} {l : List Ob} (R : RAt w p h) (f : h.Fit) (L : h.Laid l) : Calls Tryd.prog 41 #[ptr p.g] w (SoundP h l w) := by
  have hmm := @run_makeMap Tryd.prog
  have hW1 : Below w.heap.size w (w.alloc (.map #[] 0)) := (Below.refl _ _).alloc (Nat.le_refl _) _
  have HR := Lib.hid R; have HF := Lib.hid f; have HL := Lib.hid L
  have HFI := Lib.hid (fun (w' : World) (hb : Below w.heap.size w w') => rfirst_any (R.below hb) f)
  have HFO := Lib.hid (show h.objM 1 = oopAt [] l from HM.Laid.objM_at (a := []) L)
  have MM := MapIs.made w 24
  clear R f L
  unfold ptr at HFI ⊢
  go_enter Tryd.func41, Tryd.ntmps41
  go_wp2_with fail
  refine (HFI.out _ hW1).mono ?_
  rintro e w' ⟨rfl, rfl⟩
  rw [HFO.out]
  generalize hW : w.alloc (.map #[] 0) = W1 at *
  clear hW
  have HM0 := Lib.hid (show SoundMid h w.heap.size [] w W1 from ⟨h.upTo_nil, MM, hW1⟩)
  clear MM hW1
  go_wp2_with fail
  have hne0 : w.heap.size ≠ p.gw := by have := HR.out.lt (.inr (.inl rfl)); omega
  go_loopg [4] (l.length + 1) (fun k o wr => ∃ a c, l = a ++ c ∧ k = c.length + 1 ∧ o = .int .u32 (oopAt a c : Nat) ∧ SoundMid h w.heap.size a w wr)
  case atStart => exact ⟨[], l, rfl, rfl, rfl, HM0.out⟩
  case round =>
    obtain ⟨a, c, hl, hgk, rfl, ⟨hup, hmap, hb⟩⟩ := hrel
    have HLL := Lib.hid hl
    have HGK := Lib.hid hgk
    clear HM0 hl hgk
    cases c with
    | nil =>
      have ho : oopAt a [] = 0 := rfl
      rw [ho]
      have Hr := HR.out.below hb
      have c2 := Hr.c2
      have hroots := HF.out.roots
      have HB := Lib.hid hb
      have HCELL := Lib.hid (fun j (hj : j < h.roots.length) => Hr.root (i := j) hj)
      have HVC := Lib.hid (fun o ho => rvalb_any Hr HF.out o ho)
      have HUP := Lib.hid hup
      clear hb hup hmap Hr
      unfold ptr at HVC
      have hno : (0 : Int) = 0 := rfl
      go_wp2_with fail
      go_loopw [8] (fun i wq => ∃ k : Nat, k ≤ h.roots.length ∧ i = .int .i64 k ∧ (∀ j, j < k → h.valB (h.roots.getD j 0) = true) ∧ wq = wr) (fun i _ => h.roots.length - (intOf i).toNat)
      case atStart => exact ⟨0, by omega, rfl, fun j hj => by omega, rfl⟩
      case round =>
        obtain ⟨k, hk, rfl, hall, rfl⟩ := hrel
        have HALL := Lib.hid hall
        clear hall
        by_cases hlt : k < h.roots.length
        · have hx := HCELL.out k hlt
          have hy : h.roots.getD k 0 < 4294967296 := by
            rw [List.getD_eq_getElem?_getD, List.getElem?_eq_getElem hlt]
            exact HF.out.r32 _ (List.getElem_mem _)
          have HVK := Lib.hid (HVC.out _ hy)
          cases hv : h.valB (h.roots.getD k 0)
          · have HBAD := Lib.hid (show ¬ h.Sound l from fun s => by
              have := ((h.sound_iff _).1 s).2 (h.roots.getD k 0) (by rw [List.getD_eq_getElem?_getD, List.getElem?_eq_getElem hlt]; exact List.getElem_mem _)
              rw [hv] at this; cases this)
            rw [hv] at HVK
            clear hv
            generalize h.roots.getD k 0 = y at *
            generalize h.roots.length = N at *
            go_wp2_with fail
            refine HVK.out.mono ?_
            rintro e w' ⟨rfl, rfl⟩
            go_wp2_with fail
            go_ret
            exact ⟨false, rfl, ⟨(fun e => by cases e), fun s => absurd s HBAD.out⟩, HB.out⟩
          · have HNA := Lib.hid (show ∀ j, j < k + 1 → h.valB (h.roots.getD j 0) = true from fun j hj => by
              rcases Nat.lt_or_ge j k with h1 | h1
              · exact HALL.out j h1
              · obtain rfl : j = k := by omega
                exact hv)
            rw [hv] at HVK
            clear hv
            have HKL := Lib.hid hlt
            generalize h.roots.getD k 0 = y at *
            go_wp2_with fail
            refine HVK.out.mono ?_
            rintro e w' ⟨rfl, rfl⟩
            go_wp2_with fail
            go_roundw
            case rel => exact ⟨k + 1, HKL.out, by go_num, HNA.out, by first | trivial | rfl⟩
            case measure => simp [intOf]; omega
        · obtain rfl : k = h.roots.length := by omega
          have HS2 := Lib.hid (show h.Sound l by
            rw [h.sound_iff, HLL.out, List.append_nil]
            refine ⟨HUP.out, fun r hr => ?_⟩
            obtain ⟨j, hj, rfl⟩ := List.mem_iff_getElem.1 hr
            have := HALL.out j hj
            rw [List.getD_eq_getElem?_getD, List.getElem?_eq_getElem hj] at this
            exact this)
          go_wp2_with fail
          go_ret
          exact ⟨true, rfl, ⟨fun _ => HS2.out, fun _ => rfl⟩, HB.out⟩
    | cons b c =>
      have L := HL.out
      rw [HLL.out] at L
      have ho : oopAt a (b :: c) = 2 * posOf a := rfl
      have hp1 : 1 ≤ posOf a := by unfold posOf; omega
      rw [ho]
      have K := L.ok_at
      have hsz := K.size
      have hwl : posOf a + 3 + b.x.size ≤ h.words.length := by have := L.words_len; omega
      have hroom := HF.out.room
      have hhi := HF.out.hi
      have hi : h.isB (2 * posOf a) = true := (HL.out.isB_iff _).2 ⟨a, b, c, HLL.out, rfl⟩
      have HHD := Lib.hid (rheader_any (HR.out.below hb) HF.out (2 * posOf a) (by omega) (by rw [half_pos]; exact L.hdAt_at))
      rw [half_pos, L.hd_at] at HHD
      rw [show b.x.val = .agg #[.int .i64 b.x.size, .int .i64 b.x.fmt, .int .i64 b.x.spare, .int .u32 b.x.cls, .int .u32 b.x.ser] from rfl] at HHD
      have HNX := Lib.hid (fun w' (hb : Below w.heap.size w w') => show Calls Tryd.prog 58 #[ptr p.g, .int .u32 (2 * posOf a : Nat)] w' (Told (.int .u32 (oopAt (a ++ [b]) c : Nat)) w') from by
        have := rnext_any (HR.out.below hb) HF.out HL.out.heads (2 * posOf a) (by omega) hi
        rw [L.nextO_at] at this
        exact this)
      have HXF := Lib.hid (fun w' (hb : Below w.heap.size w w') j (hj : j < b.fs.length) => (HR.out.below hb).fields L hj)
      unfold ptr at HHD HNX
      have hq : (((2 * posOf a : Nat) : Int)) / 2 = (posOf a : Int) := by omega
      have hne : ((2 * posOf a : Nat) : Int) ≠ 0 := by omega
      have hal : a.length < 9223372036854775807 := by
        have h1 := wsOf_ge a
        have h2 : posOf a = 1 + (wsOf a).length := rfl
        omega
      have HK := Lib.hid K
      have hs3 : b.x.spare ≤ 3 := by have := K.fit.spare; omega
      have h16 : b.x.size ≤ 65535 := (may_spare K.may).1
      have HSZ := Lib.hid hsz
      clear ho hi L hsz
      generalize posOf a = q at *
      generalize 2 * q = o at *
      go_wp2_with fail
      refine HHD.out.mono ?_
      rintro e w1 ⟨rfl, hb1⟩
      have hb2 := below_top hb (hb1.alloc hb1.size (.cells #[.int .i64 b.x.size, .int .i64 b.x.fmt, .int .i64 b.x.spare, .int .u32 b.x.cls, .int .u32 b.x.ser] 79))
      have BH2 := Blk.new w1 79 #[.int .i64 b.x.size, .int .i64 b.x.fmt, .int .i64 b.x.spare, .int .u32 b.x.cls, .int .u32 b.x.ser]
      have MM2 := (hmap.below hb1).below ((Below.refl _ _).alloc (Nat.le_refl _) (.cells #[.int .i64 b.x.size, .int .i64 b.x.fmt, .int .i64 b.x.spare, .int .u32 b.x.cls, .int .u32 b.x.ser] 79))
      have hgH : w.heap.size < w1.heap.size := by have := hb1.size; have := hmap.lt; omega
      obtain ⟨fs1, fs2, fs3, fs4, fs5⟩ := K.fit
      clear hb hb1 hmap K HHD
      go_upto_region 6 with fail
      generalize w1.alloc (.cells #[.int .i64 b.x.size, .int .i64 b.x.fmt, .int .i64 b.x.spare, .int .u32 b.x.cls, .int .u32 b.x.ser] 79) = W2 at *
      generalize w1.heap.size = gH at *
      go_cut [45] (fun v wx => v = .bool (h.badHd a b) ∧ Below W2.heap.size W2 wx)
      case first =>
        have hlk := MM2.look sersTy fs5
        obtain ⟨d0, d1, d2, d3, d4⟩ := BH2.cells5
        have H5 := HR.out.below hb2
        have c3 := H5.c3
        have hbe := fun n => below_drewN (Below.refl W2.heap.size W2) n
        have HCL := Lib.hid (fun n => risclass_any (H5.below (below_drewN (Below.refl W2.heap.size W2) n)) HF.out b.x.cls fs4)
        have HCN := Lib.hid (show cntOf a b.x.ser = if b.x.ser ∈ a.map (·.x.ser) then 1 else 0 from rfl)
        have HC2 := Lib.hid (show ∀ n, Calls Tryd.prog 60 #[.pointer (some ⟨p.g, 0, none⟩), .int .u32 (b.x.cls : Nat)] (W2.drewN n) fun e w' => e = .returned (.bool (h.clsB b.x.cls)) ∧ w' = W2.drewN n from fun n => (HCL.out n).mono fun e w' ⟨h1, h2⟩ => ⟨h1, h2.symm⟩)
        clear HCL H5
        by_cases s3 : h.clsB b.x.cls = false
        · have HB := Lib.hid (show h.badHd a b = true by simp [HM.badHd, s3])
          rw [s3] at HC2
          clear hlk c3 BH2 MM2 s3
          go_quiet ((go_at_call 60; exact Calls.quiet_of_same (HC2.out _)))
          all_goals go_wp2_with fail
          all_goals go_meet
          all_goals exact ⟨by rw [HB.out], hbe _⟩
        have s3' : h.clsB b.x.cls = true := by simpa using s3
        rw [s3'] at HC2
        clear s3
        by_cases s0 : b.x.ser = 0
        · have HB := Lib.hid (show h.badHd a b = true by simp [HM.badHd, s0])
          rw [s0] at d4
          clear hlk c3 BH2 MM2
          go_quiet ((go_at_call 60; exact Calls.quiet_of_same (HC2.out _)))
          all_goals go_wp2_with fail
          all_goals go_meet
          all_goals exact ⟨by rw [HB.out], hbe _⟩
        · have e0 : ((b.x.ser : Int) == 0) = false := by simp; omega
          by_cases s1 : h.last < b.x.ser
          · have HB := Lib.hid (show h.badHd a b = true by simp [HM.badHd, s1])
            have e1 : decide (h.last < b.x.ser) = true := by simp; omega
            clear hlk BH2 MM2 s0 s1
            go_quiet ((go_at_call 60; exact Calls.quiet_of_same (HC2.out _)))
            all_goals go_wp2_with fail
            all_goals go_meet
            all_goals exact ⟨by rw [HB.out], hbe _⟩
          · have e1 : decide (h.last < b.x.ser) = false := by simp; omega
            by_cases s2 : b.x.ser ∈ a.map (·.x.ser)
            · have HB := Lib.hid (show h.badHd a b = true by simp only [HM.badHd, s2, decide_true, Bool.or_true, Bool.true_or])
              have hlk5 : ∀ n, (Instr.lookup 106 (.map (some w.heap.size)) (.int .u32 (b.x.ser : Int)) false).run Tryd.prog (W2.drewN n) = .ok (.int .i64 1) (W2.drewN n) := fun n => by
                have := (show MapIs 24 (W2.drewN n) _ _ _ from MM2).look sersTy fs5
                rw [HCN.out, if_pos s2] at this
                exact this
              clear hlk BH2 MM2 s0 s1 s2
              go_quiet ((go_at_call 60; exact Calls.quiet_of_same (HC2.out _)))
              all_goals go_wp2_with fail
              all_goals go_meet
              all_goals exact ⟨by rw [HB.out], hbe _⟩
            · have HB := Lib.hid (show h.badHd a b = false by
                simp only [HM.badHd, s0, s1, s2, s3', decide_false, Bool.false_or, Bool.not_true])
              have hlk5 : ∀ n, (Instr.lookup 106 (.map (some w.heap.size)) (.int .u32 (b.x.ser : Int)) false).run Tryd.prog (W2.drewN n) = .ok (.int .i64 0) (W2.drewN n) := fun n => by
                have := (show MapIs 24 (W2.drewN n) _ _ _ from MM2).look sersTy fs5
                rw [HCN.out, if_neg s2] at this
                exact this
              clear hlk BH2 MM2 s0 s1 s2
              go_quiet ((go_at_call 60; exact Calls.quiet_of_same (HC2.out _)))
              all_goals go_wp2_with fail
              all_goals go_meet
              all_goals exact ⟨by rw [HB.out], hbe _⟩
      case rest =>
        obtain ⟨rfl, hb3⟩ := hcut
        have hb4 := below_top hb2 hb3
        have BH3 := BH2.below hb3 BH2.lt
        have MM3 := MM2.below hb3
        obtain ⟨d0, d1, d2, d3, d4⟩ := BH3.cells5
        cases hbad : h.badHd a b
        case true =>
          have HBAD := Lib.hid (show ¬ h.Sound l by rw [HLL.out]; exact HM.badHd_not hbad)
          clear hbad hb2 hb3 BH2 BH3 MM2 MM3
          go_wp2_with fail
          go_ret
          exact ⟨false, rfl, ⟨(fun e => by cases e), fun s => absurd s HBAD.out⟩, hb4⟩
        case false =>
          obtain ⟨o1, o2, o3, o4⟩ := HM.badHd_ok hbad
          obtain ⟨W4, hpt, MM4, hg4⟩ := MM3.put sersTy (v := 1) fs5 (by omega) hal
          rw [cnt_snoc o3] at MM4
          rw [show ((1 : Nat) : Int) = 1 from rfl] at hpt
          have hb5 := hb4.grown hg4 hb4.size (fun k hk => by cases hk; omega)
          have BH5 := BH3.same (hg4.block gH BH3.lt (by intro e; injection e with e; omega))
          have HO := Lib.hid (show 1 ≤ b.x.ser ∧ b.x.ser ≤ h.last ∧ b.x.ser ∉ a.map (·.x.ser) ∧ h.clsB b.x.cls = true from ⟨o1, o2, o3, o4⟩)
          have HUP := Lib.hid hup
          clear hbad hb2 hb3 BH2 BH3 MM2 MM3 o1 o2 o3 o4 hup hg4 hb4
          go_wp2_with fail
          clear d0 d1 d2 d3 d4 hpt
          go_loopw [6] (fun i wq => ∃ k : Nat, k ≤ b.x.size ∧ i = .int .i64 k ∧ h.okTo b k ∧ Below W4.heap.size W4 wq) (fun i _ => b.x.size - (intOf i).toNat)
          case atStart => exact ⟨0, by omega, rfl, (fun j hj => by omega), Below.refl _ _⟩
          case round =>
            obtain ⟨k, hk, rfl, hok, hbq⟩ := hrel
            have HOK := Lib.hid hok
            have hb6 := below_top hb5 hbq
            have BH6 := BH5.below hbq BH5.lt
            obtain ⟨e0, e1, e2, e3, e4⟩ := BH6.cells5
            clear hok
            by_cases hlt : k < b.x.size
            · have Rq := HR.out.below hb6
              have q1 := Rq.c1
              have hx := HXF.out _ hb6 k (by have := HSZ.out; omega)
              have hy : b.fs.getD k 0 < 4294967296 := by
                have hkl : k < b.fs.length := by have := HSZ.out; omega
                rw [List.getD_eq_getElem?_getD, List.getElem?_eq_getElem hkl]
                exact HK.out.f32 _ (List.getElem_mem _)
              have HBADI := Lib.hid (fun hb => HM.not_ob_of_bad (h := h) HK.out hlt hb)
              have HNEXT := Lib.hid (fun h1 h2 => HM.okTo_succ (h := h) (b := b) (k := k) HOK.out h1 h2)
              clear HOK
              generalize b.fs.getD k 0 = y at *
              have HVC := Lib.hid (rvalb_any Rq HF.out y hy)
              unfold ptr at HVC
              have HKL := Lib.hid hlt
              clear Rq
              generalize h.words.length = N at *
              go_upto_region 13 with fail
              go_cut [80] (fun v wx => v = .bool (h.badF b y) ∧ Below wr.heap.size wr wx)
              case first =>
                have hbe := Below.refl wr.heap.size wr
                by_cases h1 : b.x.fmt = 1
                · have HB := Lib.hid (show h.badF b y = !h.valB y by simp [HM.badF, Hd.ptrB, h1])
                  rw [h1] at e1
                  clear h1
                  generalize h.valB y = vb at *
                  go_wp2_with fail
                  refine HVC.out.mono ?_
                  rintro e w' ⟨rfl, rfl⟩
                  go_wp2_with fail
                  go_meet
                  exact ⟨by rw [HB.out], hbe⟩
                have f1 : ((b.x.fmt : Int) == 1) = false := by simp; omega
                by_cases h4 : b.x.fmt = 4
                · have HB := Lib.hid (show h.badF b y = !h.valB y by simp [HM.badF, Hd.ptrB, h4])
                  rw [h4] at e1
                  clear h4 h1 f1
                  generalize h.valB y = vb at *
                  go_wp2_with fail
                  refine HVC.out.mono ?_
                  rintro e w' ⟨rfl, rfl⟩
                  go_wp2_with fail
                  go_meet
                  exact ⟨by rw [HB.out], hbe⟩
                · have f4 : ((b.x.fmt : Int) == 4) = false := by simp; omega
                  have HB := Lib.hid (show h.badF b y = false by simp [HM.badF, Hd.ptrB, h4, h1])
                  clear h4 h1
                  go_wp2_with fail
                  go_meet
                  exact ⟨by rw [HB.out], hbe⟩
              case rest =>
                obtain ⟨rfl, hb7⟩ := hcut
                have hb8 := below_top hbq hb7
                have BH8 := BH6.below hb7 BH6.lt
                clear e0 e1 e2 e3 e4 hx q1 HVC hb6
                obtain ⟨e0, e1, e2, e3, e4⟩ := BH8.cells5
                cases hbf : h.badF b y
                case true =>
                  have HBAD := Lib.hid (show ¬ h.Sound l by rw [HLL.out]; exact HM.not_sound_ob (HBADI.out (.inl hbf)))
                  clear hbf HBADI hb7 BH6 BH8
                  go_wp2_with fail
                  go_ret
                  exact ⟨false, rfl, ⟨(fun e => by cases e), fun s => absurd s HBAD.out⟩, below_top hb5 hb8⟩
                case false =>
                have HBF := Lib.hid hbf
                clear hbf BH6 hb7
                go_upto_region 15 with fail
                go_cut [100] (fun v wx => v = .bool (badS b k y) ∧ Below wc.heap.size wc wx)
                case first =>
                  have hbe := Below.refl wc.heap.size wc
                  by_cases hlast : k + 1 = b.x.size
                  · have hla : ((k : Int) == (b.x.size : Int) - 1) = true := by simp; omega
                    have HB := Lib.hid (show badS b k y = ((!decide (y / 2 ^ (32 - 8 * b.x.spare) = 0)) && decide (0 < b.x.spare)) by unfold badS; rw [decide_eq_true hlast, Bool.true_and])
                    have hss : b.x.spare = 0 ∨ b.x.spare = 1 ∨ b.x.spare = 2 ∨ b.x.spare = 3 := by omega
                    clear hlast
                    rcases hss with hs | hs | hs | hs
                    · rw [hs] at e2 HB
                      clear hs
                      go_wp2_with fail
                      go_meet
                      exact ⟨by rw [HB.out]; simp, hbe⟩
                    all_goals
                      rw [hs] at e2 HB
                      clear hs
                      go_wp2_with fail
                      all_goals go_meet
                      all_goals refine ⟨?_, hbe⟩
                      all_goals rename_i hx
                      all_goals rw [HB.out]
                      all_goals congr 1
                      all_goals rw [Bool.eq_iff_iff]
                      all_goals simp
                      all_goals omega
                  · have hla : ((k : Int) == (b.x.size : Int) - 1) = false := by simp; omega
                    have HB := Lib.hid (show badS b k y = false by unfold badS; rw [decide_eq_false hlast, Bool.false_and, Bool.false_and])
                    clear hlast
                    go_wp2_with fail
                    go_meet
                    exact ⟨by rw [HB.out], hbe⟩
                case rest =>
                  obtain ⟨rfl, hb9⟩ := hcut
                  have hb10 := below_top hb8 hb9
                  cases hbs : badS b k y
                  case true =>
                    have HBAD := Lib.hid (show ¬ h.Sound l by rw [HLL.out]; exact HM.not_sound_ob (HBADI.out (.inr hbs)))
                    clear hbs HBADI hb9 BH8
                    go_wp2_with fail
                    go_ret
                    exact ⟨false, rfl, ⟨(fun e => by cases e), fun s => absurd s HBAD.out⟩, below_top hb5 hb10⟩
                  case false =>
                    have HO2 := Lib.hid (HNEXT.out HBF.out hbs)
                    clear hbs hb9 BH8
                    go_wp2_with fail
                    go_roundw
                    case rel => exact ⟨k + 1, HKL.out, by go_num, HO2.out, hb10⟩
                    case measure => simp [intOf]; omega
            · obtain rfl : k = b.x.size := by omega
              obtain ⟨o1, o2, o3, o4⟩ := HO.out
              have HOB := Lib.hid (HM.okTo_ob HK.out HOK.out)
              have HFIN := Lib.hid (show SoundMid h w.heap.size (a ++ [b]) w wr from ⟨HUP.out.snoc ⟨o4, HOB.out.1, HOB.out.2, o1, o2⟩ o3, by rw [List.length_append]; exact MM4.below hbq, hb6⟩)
              have HNC := Lib.hid (HNX.out wr hb6)
              clear o1 o2 o3 o4 HXF HNX hbq hb5 MM4
              go_wp2_with fail
              refine HNC.out.mono ?_
              rintro e wz ⟨rfl, hbz⟩
              have HFZ := Lib.hid (show SoundMid h w.heap.size (a ++ [b]) w wz from ⟨HFIN.out.1, HFIN.out.2.1.below hbz, below_top hb6 hbz⟩)
              clear HFIN HNC hb6
              go_wp2_with fail
              go_roundg (c.length + 1)
              case measure => rw [HGK.out]; simp
              case rel => exact ⟨a ++ [b], c, by rw [HLL.out]; simp, rfl, rfl, HFZ.out⟩
end Go.Proofs.YtfpleoblehfhbaaDoor
