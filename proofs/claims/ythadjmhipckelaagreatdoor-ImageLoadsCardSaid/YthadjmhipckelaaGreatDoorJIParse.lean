import Derived.Test.YthadjmhipckelaaGreatDoorJIWord
import Derived.Test.YthadjmhipckelaaGreatDoorJLoad2
import Derived.Test.YthadjmhipckelaaGreatDoorJAll
import Derived.Test.YthadjmhipckelaaGreatDoorJUntil
import Derived.Test.YthadjmhipckelaaGreatDoorJLive
import Derived.Carry
import Derived.Sort.CutIn
set_option linter.unusedVariables false
set_option linter.unusedSimpArgs false
set_option linter.unusedSectionVars false
namespace Go.Proofs.YthadjmhipckelaaGreatDoor
section
open Go.RowKit
attribute [local go_sem] Oper.semAt_some
def ParE (E : Nat) (w : World) (e : Ending) (w' : World) : Prop :=
 Below w.heap.size w w' ∧ e = .returned (.tuple #[rdV 0 0 (.slice none 0 0) (.slice none 0 0), .pointer none, .int .i64 (E : Nat)])
def ParP (b : List Nat) (size : Nat) (w : World) (e : Ending) (w' : World) : Prop :=
 match takeR b with
 | .error E => ParE E w e w'
 | .ok r => (size < r.words.length → ParE 4 w e w') ∧ (¬ size < r.words.length → (r.wrong = true ∨ ¬ LoadOk size r.words r.roots r.last) → ParE 145 w e w') ∧
  (¬ size < r.words.length → r.wrong = false → ∀ l, parseW r.words = some l → (HM.ofWords size r.words r.roots r.last).Sound l →
    ∃ (p : HP) (A1 A2 : Option Addr) (n1 c1 n2 c2 : Nat), e = .returned (.tuple #[.agg #[.int .i64 r.ver, .int .i64 l.length, .int .u32 r.last, .slice A1 n1 c1, .slice A2 n2 c2], ptr p.g, .int .i64 0]) ∧ HAt w' p (HM.ofWords size r.words r.roots r.last) ∧
      (∀ k, p.has k → w.heap.size ≤ k) ∧ Below w.heap.size w w')
theorem ParP.err {b : List Nat} {size E : Nat} {w w' : World} (hb : Below w.heap.size w w') (h : takeR b = .error E) :
 ParP b size w (.returned (.tuple #[.agg #[.int .i64 0, .int .i64 0, .int .u32 0, .slice none 0 0, .slice none 0 0], .pointer none, .int .i64 (E : Nat)])) w' := by
 unfold ParP
 rw [h]
 exact ⟨hb, rfl⟩
theorem Blk.farS {w : World} {g b7 : Nat} {t : TypeId} {cs : Array Value} (b : Blk w g t cs) (h : g ≠ b7) (i : Nat) (v : Value) : Blk (w.setCell ⟨b7, i, none⟩ v) g t cs := b.same (Below.heap_setCell w ⟨b7, i, none⟩ v g h)
theorem Blk.far5 {w : World} {g b7 : Nat} {t : TypeId} {cs : Array Value} (b : Blk w g t cs) (h : g ≠ b7) (x0 x1 x2 x3 x4 : Value) :
 Blk (((((w.setCell ⟨b7, 0, none⟩ x0).setCell ⟨b7, 1, none⟩ x1).setCell ⟨b7, 2, none⟩ x2).setCell ⟨b7, 3, none⟩ x3).setCell ⟨b7, 4, none⟩ x4) g t cs :=
 ((((b.farS h 0 x0).farS h 1 x1).farS h 2 x2).farS h 3 x3).farS h 4 x4
theorem ParP.small {b : List Nat} {size : Nat} {r : Rd} {w w' : World} (hb : Below w.heap.size w w') (h : takeR b = .ok r) (h1 : size < r.words.length) :
 ParP b size w (.returned (.tuple #[.agg #[.int .i64 0, .int .i64 0, .int .u32 0, .slice none 0 0, .slice none 0 0], .pointer none, .int .i64 ((4 : Nat) : Int)])) w' := by
 unfold ParP
 rw [h]
 exact ⟨fun _ => ⟨hb, rfl⟩, fun hn => absurd h1 hn, fun hn => absurd h1 hn⟩
theorem ParP.wrong {b : List Nat} {size : Nat} {r : Rd} {w w' : World} (hb : Below w.heap.size w w') (h : takeR b = .ok r) (h1 : ¬ size < r.words.length) (h2 : r.wrong = true) :
 ParP b size w (.returned (.tuple #[.agg #[.int .i64 0, .int .i64 0, .int .u32 0, .slice none 0 0, .slice none 0 0], .pointer none, .int .i64 ((145 : Nat) : Int)])) w' := by
 unfold ParP
 rw [h]
 exact ⟨fun hn => absurd hn h1, fun _ _ => ⟨hb, rfl⟩, fun _ hw => by rw [h2] at hw; cases hw⟩
theorem ParP.bad {b : List Nat} {size : Nat} {r : Rd} {w w' : World} (hb : Below w.heap.size w w') (h : takeR b = .ok r) (h1 : ¬ size < r.words.length) (h2 : ¬ LoadOk size r.words r.roots r.last) :
 ParP b size w (.returned (.tuple #[.agg #[.int .i64 0, .int .i64 0, .int .u32 0, .slice none 0 0, .slice none 0 0], .pointer none, .int .i64 ((145 : Nat) : Int)])) w' := by
 unfold ParP
 rw [h]
 exact ⟨fun hn => absurd hn h1, fun _ _ => ⟨hb, rfl⟩, fun _ _ l h3 h4 => absurd ⟨l, h3, h4⟩ h2⟩
theorem loadE_ne {size last : Nat} {ws rs : List Nat} (hn : ¬ LoadOk size ws rs last) : loadE size ws rs last ≠ 0 := by
 unfold loadE
 split
 ·decide
 ·first
  | decide
  | (rw [if_neg hn]; decide)
theorem loadE_zero {size last : Nat} {ws rs : List Nat} (hs : ¬ size < ws.length) (hr : rs.length = 64) (hok : LoadOk size ws rs last) : loadE size ws rs last = 0 := by
 refine loadE_ok ?_ hok
 rintro (h | h | h)
 ·obtain ⟨l, h1, h2⟩ := hok
  rw [List.length_eq_zero_iff.1 h] at h1
  exact absurd h1 (by simp [parseW])
 ·exact hs h
 ·exact h hr
theorem ParP.good {b : List Nat} {size : Nat} {r : Rd} {w w' : World} {l : List Ob} {p : HP} {A1 A2 : Option Addr} {n1 c1 n2 c2 : Nat} (h : takeR b = .ok r) (h1 : ¬ size < r.words.length) (hl : parseW r.words = some l) (hso : (HM.ofWords size r.words r.roots r.last).Sound l) (hw : r.wrong = false)
 (HA : HAt w' p (HM.ofWords size r.words r.roots r.last)) (hn : ∀ k, p.has k → w.heap.size ≤ k) (hb : Below w.heap.size w w') :
 ParP b size w (.returned (.tuple #[.agg #[.int .i64 r.ver, .int .i64 l.length, .int .u32 r.last, .slice A1 n1 c1, .slice A2 n2 c2], ptr p.g, .int .i64 0])) w' := by
 unfold ParP
 rw [h]
 refine ⟨fun hn => absurd hn h1, fun _ hx => ?_, fun _ _ l' hl' _ => ?_⟩
 ·rcases hx with hx | hx
  ·rw [hw] at hx; cases hx
  ·exact absurd ⟨l, hl, hso⟩ hx
 ·rw [hl] at hl'
  cases hl'
  exact ⟨p, A1, A2, n1, c1, n2, c2, rfl, HA, hn, hb⟩
theorem newM_err {bs : List Nat} {E : Nat} (h : newM bs = .error E) : E ≠ 0 := by
 unfold newM at h
 split at h
 ·rename_i e he
  cases h
  exact rdSecs_err he
 ·split at h
  ·cases h; decide
  ·split at h
   ·cases h; decide
   ·cases h
def ParM (bs : List Nat) (size : Nat) (w W' : World) (b7 : Nat) (v8 : Value) : Prop :=
 Below w.heap.size w W' ∧ Blk W' w.heap.size 47 #[.int .i64 0, .int .i64 0, .int .u32 0, .slice none 0 0, .slice none 0 0] ∧ w.heap.size < b7 ∧
 ((∃ E : Nat, E ≠ 0 ∧ v8 = .int .i64 (E : Nat) ∧ ∀ W2, Below w.heap.size w W2 → ParP bs size w (.returned (.tuple #[.agg #[.int .i64 0, .int .i64 0, .int .u32 0, .slice none 0 0, .slice none 0 0], .pointer none, .int .i64 (E : Nat)])) W2) ∨
  (∃ (r : Rd) (A1 A2 : Option Addr) (c1 c2 : Nat), v8 = .int .i64 0 ∧ takeR bs = .ok r ∧ r.wrong = false ∧
     Blk W' b7 47 #[.int .i64 r.ver, .int .i64 0, .int .u32 r.last, .slice A1 r.words.length c1, .slice A2 r.roots.length c2] ∧
     Reads W' W'.heap.size 1 A1 r.words.length (u32s r.words) ∧ Reads W' W'.heap.size 1 A2 r.roots.length (u32s r.roots)))
theorem take_old1 {bs : List Nat} (h1 : ¬ 8388608 < bs.length) (h2 : ¬ (bs.length < 5 ∨ bs.take 4 ≠ [69, 70, 73, 71])) (h3 : bs.getD 4 0 = 1) : takeR bs = oldM bs := by
 unfold takeR
 rw [if_neg h1, if_neg h2, if_pos h3]
theorem take_new2 {bs : List Nat} (h1 : ¬ 8388608 < bs.length) (h2 : ¬ (bs.length < 5 ∨ bs.take 4 ≠ [69, 70, 73, 71])) (h3 : bs.getD 4 0 = 2) : takeR bs = match newM (bs.drop 5) with
 | .error e => .error e
 | .ok i => .ok ⟨2, i.words, i.roots, i.last, i.wrong⟩ := by
 unfold takeR
 rw [if_neg h1, if_neg h2, if_neg (by omega), if_pos h3]
 rfl
theorem take_none {bs : List Nat} (h1 : ¬ 8388608 < bs.length) (h2 : ¬ (bs.length < 5 ∨ bs.take 4 ≠ [69, 70, 73, 71])) (h3 : bs.getD 4 0 ≠ 1) (h4 : bs.getD 4 0 ≠ 2) : takeR bs = .error 141 := by
 unfold takeR
 rw [if_neg h1, if_neg h2, if_neg h3, if_neg h4]
theorem oldM_err {bs : List Nat} {E : Nat} (h : oldM bs = .error E) : E ≠ 0 := by
 unfold oldM at h
 split at h
 ·cases h; decide
 ·split at h
  ·cases h; decide
  ·cases h
set_option maxRecDepth 100000 in
set_option maxHeartbeats 8000000 in
theorem parse_any {w : World} {g0 o0 n c : Nat} {A : Option Addr} {bs : List Nat} {size : Nat} (hs : Spares w) (hsp : ∀ k, w.heap.size ≤ k → k ≠ 0 ∧ k ≠ 0) (hr : Reads w w.heap.size 1 A n (u8c bs))
 (hA : 0 < n → A = some ⟨g0, o0, none⟩) (hc : n ≤ c) (hn : n ≤ 9223372036854775807) (h8 : ∀ x ∈ bs, x < 256) (h64 : 64 ≤ size) (hsize : size ≤ 1048576) :
 Calls Tryz.prog 13 #[.slice A n c, .int .i64 size] w (ParP bs size w) := by
 have hbl : bs.length = n := by have := hr.1; rw [u8c_len] at this; omega
 have hb1 : Below w.heap.size w (w.alloc (.cells #[.int .i64 0, .int .i64 0, .int .u32 0, .slice none 0 0, .slice none 0 0] 47)) := (Below.refl _ _).alloc (Nat.le_refl _) _
 have HF1 := Lib.hid hb1
 have HZ1 := Lib.hid (Blk.new w 47 #[.int .i64 0, .int .i64 0, .int .u32 0, .slice none 0 0, .slice none 0 0])
 have HR1 := Lib.hid (hr.below hb1)
 have HS1 := Lib.hid (hs.below hb1)
 have HSW := Lib.hid hs
 have HSP := Lib.hid hsp
 have HBL := Lib.hid hbl
 have H8 := Lib.hid h8
 clear hb1 hr hs hsp hbl h8
 refine (callsIn_wide (n := 6)).1 ?_
 refine callsIn_of_wp_marks Tryz.func13 rfl trivial ?_ rfl
 simp only [Tryz.ntmps13, List.size_toArray, List.length_cons, List.length_nil, Nat.reduceAdd, Nat.reduceSub, Array.replicate_succ, Array.replicate_zero, List.push_toArray, List.append_toArray, List.nil_append, List.cons_append]
 gi_upto_region 1 with fail
 generalize w.alloc (.cells #[.int .i64 0, .int .i64 0, .int .u32 0, .slice none 0 0, .slice none 0 0] 47) = W1 at *
 by_cases hbig : 8388608 < n
 ·have hd : decide (8388608 < (n : Int)) = true := decide_eq_true (by omega)
  have HNM := Lib.hid (show takeR bs = .error 2 from by unfold takeR; rw [if_pos (by rw [HBL.out]; exact hbig)])
  clear HR1 HS1 HSP HBL H8
  have z0 := HZ1.out.frozen 0
  have z1 := HZ1.out.frozen 1
  have z2 := HZ1.out.frozen 2
  have z3 := HZ1.out.frozen 3
  have z4 := HZ1.out.frozen 4
  have d0 := HZ1.out.cell 0
  have d1 := HZ1.out.cell 1
  have d2 := HZ1.out.cell 2
  have d3 := HZ1.out.cell 3
  have d4 := HZ1.out.cell 4
  have HZ5 := Lib.hid (HZ1.out.setAll5 (.int .i64 0) (.int .i64 0) (.int .u32 0) (.slice none 0 0) (.slice none 0 0))
  have HFB := Lib.hid (below5 HF1.out (g := w.heap.size) (by omega) (.int .i64 0) (.int .i64 0) (.int .u32 0) (.slice none 0 0) (.slice none 0 0))
  gi_wp2_with fail
  generalize (((((W1.setCell ⟨w.heap.size, 0, none⟩ (.int .i64 0)).setCell ⟨w.heap.size, 1, none⟩ (.int .i64 0)).setCell ⟨w.heap.size, 2, none⟩ (.int .u32 0)).setCell ⟨w.heap.size, 3, none⟩ (.slice none 0 0)).setCell ⟨w.heap.size, 4, none⟩ (.slice none 0 0)) = WF at *
  clear z0 d0 z1 d1 z2 d2 z3 d3 z4 d4
  have f0 := HZ5.out.cell 0
  have f1 := HZ5.out.cell 1
  have f2 := HZ5.out.cell 2
  have f3 := HZ5.out.cell 3
  have f4 := HZ5.out.cell 4
  refine ⟨.tuple #[.agg #[.int .i64 0, .int .i64 0, .int .u32 0, .slice none 0 0, .slice none 0 0], .pointer none, .int .i64 2], by simp [results, Tryz.results13, go_sem, f0, f1, f2, f3, f4], ?_⟩
  exact ParP.err HFB.out HNM.out
 ·have hd : decide (8388608 < (n : Int)) = false := decide_eq_false (by omega)
  by_cases h5 : n < 5
  ·have hd5 : decide ((n : Int) < 5) = true := decide_eq_true (by omega)
   have HNM := Lib.hid (show takeR bs = .error 140 from by unfold takeR; rw [if_neg (by rw [HBL.out]; exact hbig), if_pos (.inl (by rw [HBL.out]; exact h5))])
   clear HR1 HS1 HSP HBL H8
   have z0 := HZ1.out.frozen 0
   have z1 := HZ1.out.frozen 1
   have z2 := HZ1.out.frozen 2
   have z3 := HZ1.out.frozen 3
   have z4 := HZ1.out.frozen 4
   have d0 := HZ1.out.cell 0
   have d1 := HZ1.out.cell 1
   have d2 := HZ1.out.cell 2
   have d3 := HZ1.out.cell 3
   have d4 := HZ1.out.cell 4
   have HZ5 := Lib.hid (HZ1.out.setAll5 (.int .i64 0) (.int .i64 0) (.int .u32 0) (.slice none 0 0) (.slice none 0 0))
   have HFB := Lib.hid (below5 HF1.out (g := w.heap.size) (by omega) (.int .i64 0) (.int .i64 0) (.int .u32 0) (.slice none 0 0) (.slice none 0 0))
   gi_wp2_with fail
   generalize (((((W1.setCell ⟨w.heap.size, 0, none⟩ (.int .i64 0)).setCell ⟨w.heap.size, 1, none⟩ (.int .i64 0)).setCell ⟨w.heap.size, 2, none⟩ (.int .u32 0)).setCell ⟨w.heap.size, 3, none⟩ (.slice none 0 0)).setCell ⟨w.heap.size, 4, none⟩ (.slice none 0 0)) = WF at *
   clear z0 d0 z1 d1 z2 d2 z3 d3 z4 d4
   have f0 := HZ5.out.cell 0
   have f1 := HZ5.out.cell 1
   have f2 := HZ5.out.cell 2
   have f3 := HZ5.out.cell 3
   have f4 := HZ5.out.cell 4
   refine ⟨.tuple #[.agg #[.int .i64 0, .int .i64 0, .int .u32 0, .slice none 0 0, .slice none 0 0], .pointer none, .int .i64 140], by simp [results, Tryz.results13, go_sem, f0, f1, f2, f3, f4], ?_⟩
   exact ParP.err HFB.out HNM.out
  ·have hd5 : decide ((n : Int) < 5) = false := decide_eq_false (by omega)
   have hA' := hA (by omega)
   clear hA
   subst hA'
   have HSL : ∀ w : World, (Instr.slice 22 (.slice (some ⟨g0, o0, none⟩) n c) none (some (.int .i64 4)) none).run Tryz.prog w = .ok (.slice (some ⟨g0, o0, none⟩) 4 c) w := fun w => by
    have h := slice_head w (some ⟨g0, o0, none⟩) n c 4 (by omega)
    have e : tailA (some ⟨g0, o0, none⟩) c 0 = some ⟨g0, o0, none⟩ := by
     unfold tailA
     split
     ·rfl
     ·simp [Addr.add]
    rw [e] at h
    exact h
   have HCV := conv_head (len := 4) (c2 := c) HR1.out (by omega) (by omega)
   by_cases hmk : bs.take 4 = [69, 70, 73, 71]
   ·rw [hmk, strN_mark] at HCV
    have HMK := Lib.hid hmk
    clear hmk
    gi_upto_region 6 with fail
    have hb2 : Below W1.heap.size W1 (W1.alloc (.cells #[.int .i64 0, .int .i64 0, .int .u32 0, .slice none 0 0, .slice none 0 0] 47)) := (Below.refl _ _).alloc (Nat.le_refl _) _
    have hlt7 : w.heap.size < W1.heap.size := HZ1.out.lt
    have HB7 := Lib.hid (Blk.new W1 47 #[.int .i64 0, .int .i64 0, .int .u32 0, .slice none 0 0, .slice none 0 0])
    have HZ2 := Lib.hid (HZ1.out.below hb2 HZ1.out.lt)
    have HF2 := Lib.hid (below_top HF1.out hb2)
    have HR2 := Lib.hid (HR1.out.below (hb2.mono (Nat.le_of_lt hlt7)))
    have HS2 := Lib.hid (HS1.out.below hb2)
    clear hb2 HZ1 HF1 HR1 HS1 HCV HSL
    iterate 8 (first | go_values | gi_guarded | gi_step | gi_upon | gi_back | go_simp)
    generalize W1.alloc (.cells #[.int .i64 0, .int .i64 0, .int .u32 0, .slice none 0 0, .slice none 0 0] 47) = W2 at *
    generalize W1.heap.size = b7 at *
    have HT1 : ¬ 8388608 < bs.length := by rw [HBL.out]; exact hbig
    have HT2 : ¬ (bs.length < 5 ∨ bs.take 4 ≠ [69, 70, 73, 71]) := by rw [HBL.out]; rintro (h | h); exact h5 h; exact h HMK.out
    have H3 := Lib.hid (And.intro (fun h3 => take_old1 HT1 HT2 h3) (And.intro (fun h3 => take_new2 HT1 HT2 h3) (fun h3 h4 => take_none HT1 HT2 h3 h4)))
    clear HT1 HT2
    gi_cut [8] from 24 (fun v8 W' => ParM bs size w W' b7 v8)
    case first =>
     have c4 : W2.cell? ⟨g0, o0 + 4, none⟩ = some (.int .u8 (bs.getD 4 0 : Nat)) := by
      obtain ⟨ad, e, hb, hx⟩ := HR2.out.2 (by omega)
      injection e with e
      subst e
      have hl : 4 < bs.length := by rw [HBL.out]; omega
      have := hx 4 (.int .u8 (bs[4] : Nat)) (by unfold u8c; rw [List.getElem?_map, List.getElem?_eq_getElem hl]; rfl)
      rw [WideShapes.add_plain] at this
      rw [this, List.getD_eq_getElem?_getD, List.getElem?_eq_getElem hl]
      rfl
     generalize bs.getD 4 0 = vb at *
     have hlt2 : b7 < W2.heap.size := HB7.out.lt
     have hltw : w.heap.size ≤ W2.heap.size := by omega
     by_cases hv1 : vb = 1
     ·subst hv1
      have HTK := Lib.hid (H3.out.1 rfl)
      have c4' : W2.cell? ⟨g0, o0 + 4, none⟩ = some (.int .u8 1) := c4
      have HOL := Lib.hid (parseOld_any (w := W2) (c := c) (HR2.out.more hltw) hc (by omega) H8.out)
      clear c4 H3
      gi_wp2_with fail
      refine ⟨trivial, (callsIn_wide.2 HOL.out).mono ?_⟩
      rintro e W3 ⟨hb3, hcase⟩
      have HF3 := Lib.hid (below_top HF2.out hb3)
      have HZ3 := Lib.hid (HZ2.out.below hb3 HZ2.out.lt)
      have HB3 := Lib.hid (HB7.out.below hb3 HB7.out.lt)
      clear HOL HB7 HF2 HZ2 hb3 c4'
      cases hom : oldM bs with
      | error E =>
        rw [hom] at hcase
        simp only at hcase
        unfold rdV at hcase
        subst hcase
        have hE := oldM_err hom
        have HTE := Lib.hid (HTK.out.trans hom)
        have HFN := Lib.hid (show ParM bs size w (((((W3.setCell ⟨b7, 0, none⟩ (.int .i64 0)).setCell ⟨b7, 1, none⟩ (.int .i64 0)).setCell ⟨b7, 2, none⟩ (.int .u32 0)).setCell ⟨b7, 3, none⟩ (.slice none 0 0)).setCell ⟨b7, 4, none⟩ (.slice none 0 0)) b7 (.int .i64 ((E : Nat))) from
         ⟨below5 HF3.out (Nat.le_of_lt hlt7) (.int .i64 0) (.int .i64 0) (.int .u32 0) (.slice none 0 0) (.slice none 0 0), HZ3.out.far5 (Nat.ne_of_lt hlt7) (.int .i64 0) (.int .i64 0) (.int .u32 0) (.slice none 0 0) (.slice none 0 0), hlt7, .inl ⟨(E : Nat), hE, rfl, fun W2 hb => ParP.err hb HTE.out⟩⟩)
        have z0 := HB3.out.frozen 0
        have z1 := HB3.out.frozen 1
        have z2 := HB3.out.frozen 2
        have z3 := HB3.out.frozen 3
        have z4 := HB3.out.frozen 4
        have d0 := HB3.out.cell 0
        have d1 := HB3.out.cell 1
        have d2 := HB3.out.cell 2
        have d3 := HB3.out.cell 3
        have d4 := HB3.out.cell 4
        clear HB3 HF3 HZ3 HR2 HS2 H8 HSP HBL HTK
        gi_wp2_with fail
        gi_meet
        exact HFN.out
      | ok r =>
        rw [hom] at hcase
        simp only at hcase
        obtain ⟨A1, A2, c1, c2, hcase, hr1, hr2, hnw⟩ := hcase
        have hver : r.ver = 1 ∧ r.wrong = false := by
         unfold oldM at hom
         split at hom
         ·cases hom
         ·split at hom
          ·cases hom
          ·cases hom; exact ⟨rfl, rfl⟩
        replace hcase : e = .returned (.tuple #[.agg #[.int .i64 1, .int .i64 0, .int .u32 r.last, .slice A1 r.words.length c1, .slice A2 r.roots.length c2], .int .i64 0]) := hcase
        subst hcase
        have HTE := Lib.hid (HTK.out.trans hom)
        have hv := hver.1
        have HVW := Lib.hid hver.2
        clear hver
        have hx1 := reads5 (g := b7) hr1 (fun _ a ha e => by have := hnw a (.inl ha); omega) (.int .i64 1) (.int .i64 0) (.int .u32 r.last) (.slice A1 r.words.length c1) (.slice A2 r.roots.length c2)
        have hx2 := reads5 (g := b7) hr2 (fun _ a ha e => by have := hnw a (.inr ha); omega) (.int .i64 1) (.int .i64 0) (.int .u32 r.last) (.slice A1 r.words.length c1) (.slice A2 r.roots.length c2)
        have HFN := Lib.hid (show ParM bs size w (((((W3.setCell ⟨b7, 0, none⟩ (.int .i64 1)).setCell ⟨b7, 1, none⟩ (.int .i64 0)).setCell ⟨b7, 2, none⟩ (.int .u32 r.last)).setCell ⟨b7, 3, none⟩ (.slice A1 r.words.length c1)).setCell ⟨b7, 4, none⟩ (.slice A2 r.roots.length c2)) b7 (.int .i64 0) from
         ⟨below5 HF3.out (Nat.le_of_lt hlt7) (.int .i64 1) (.int .i64 0) (.int .u32 r.last) (.slice A1 r.words.length c1) (.slice A2 r.roots.length c2), HZ3.out.far5 (Nat.ne_of_lt hlt7) (.int .i64 1) (.int .i64 0) (.int .u32 r.last) (.slice A1 r.words.length c1) (.slice A2 r.roots.length c2), hlt7, .inr ⟨r, A1, A2, c1, c2, rfl, HTE.out, HVW.out, by rw [hv]; exact HB3.out.setAll5 (.int .i64 1) (.int .i64 0) (.int .u32 r.last) (.slice A1 r.words.length c1) (.slice A2 r.roots.length c2), hx1, hx2⟩⟩)
        have z0 := HB3.out.frozen 0
        have z1 := HB3.out.frozen 1
        have z2 := HB3.out.frozen 2
        have z3 := HB3.out.frozen 3
        have z4 := HB3.out.frozen 4
        have d0 := HB3.out.cell 0
        have d1 := HB3.out.cell 1
        have d2 := HB3.out.cell 2
        have d3 := HB3.out.cell 3
        have d4 := HB3.out.cell 4
        clear hx1 hx2 hr1 hr2 hnw HB3 HF3 HZ3 HR2 HS2 H8 HSP HBL HTK
        gi_wp2_with fail
        gi_meet
        exact HFN.out
     ·by_cases hv2 : vb = 2
      ·subst hv2
       have HTK := Lib.hid (H3.out.2.1 rfl)
       have c4' : W2.cell? ⟨g0, o0 + 4, none⟩ = some (.int .u8 2) := c4
       have hq := reads_rest (k := 5) (HR2.out.more hltw) hc (by omega)
       have HSL5 : ∀ w : World, (Instr.slice 22 (.slice (some ⟨g0, o0, none⟩) n c) (some (.int .i64 5)) none none).run Tryz.prog w = .ok (.slice (tailA (some ⟨g0, o0, none⟩) c 5) (n - 5) (c - 5)) w := fun w => slice_rest w (some ⟨g0, o0, none⟩) n c 5 (by omega)
       have HOL := Lib.hid (parseNew_any (w := W2) (c := c - 5) (size := size) HS2.out hq (by omega) (by omega) (fun x hx => H8.out x (List.mem_of_mem_drop hx)) hsize)
       have H8D := Lib.hid (show ∀ x ∈ bs.drop 5, x < 256 from fun x hx => H8.out x (List.mem_of_mem_drop hx))
       clear c4 H3 hq
       generalize tailA (some ⟨g0, o0, none⟩) c 5 = A5 at *
       gi_wp2_with fail
       refine ⟨trivial, (callsIn_wide.2 HOL.out).mono ?_⟩
       rintro e W3 ⟨hb3, hcase⟩
       have HF3 := Lib.hid (below_top HF2.out hb3)
       have HZ3 := Lib.hid (HZ2.out.below hb3 HZ2.out.lt)
       have HB3 := Lib.hid (HB7.out.below hb3 HB7.out.lt)
       clear HOL HB7 HF2 HZ2 hb3 c4' HSL5
       cases hom : newM (bs.drop 5) with
       | error E =>
         rw [hom] at hcase
         simp only at hcase
         unfold rdV at hcase
         subst hcase
         have hE := newM_err hom
         have HTE := Lib.hid (show takeR bs = .error E from HTK.out.trans (by rw [hom]))
         have HFN := Lib.hid (show ParM bs size w (((((W3.setCell ⟨b7, 0, none⟩ (.int .i64 0)).setCell ⟨b7, 1, none⟩ (.int .i64 0)).setCell ⟨b7, 2, none⟩ (.int .u32 0)).setCell ⟨b7, 3, none⟩ (.slice none 0 0)).setCell ⟨b7, 4, none⟩ (.slice none 0 0)) b7 (.int .i64 ((E : Nat))) from
          ⟨below5 HF3.out (Nat.le_of_lt hlt7) (.int .i64 0) (.int .i64 0) (.int .u32 0) (.slice none 0 0) (.slice none 0 0), HZ3.out.far5 (Nat.ne_of_lt hlt7) (.int .i64 0) (.int .i64 0) (.int .u32 0) (.slice none 0 0) (.slice none 0 0), hlt7, .inl ⟨(E : Nat), hE, rfl, fun W2 hb => ParP.err hb HTE.out⟩⟩)
         have z0 := HB3.out.frozen 0
         have z1 := HB3.out.frozen 1
         have z2 := HB3.out.frozen 2
         have z3 := HB3.out.frozen 3
         have z4 := HB3.out.frozen 4
         have d0 := HB3.out.cell 0
         have d1 := HB3.out.cell 1
         have d2 := HB3.out.cell 2
         have d3 := HB3.out.cell 3
         have d4 := HB3.out.cell 4
         clear HB3 HF3 HZ3 HR2 HS2 H8 HSP HBL HTK
         gi_wp2_with fail
         gi_meet
         exact HFN.out
       | ok i =>
         rw [hom] at hcase
         simp only at hcase
         have HTE := Lib.hid (show takeR bs = .ok ⟨2, i.words, i.roots, i.last, i.wrong⟩ from HTK.out.trans (by rw [hom]))
         have hpt : i.words.length = placeT i.ts := words_place i.ts i.ts (newM_fit hom H8D.out).2.2
         rw [← hpt] at hcase
         clear hpt hom
         by_cases hsm : size < i.words.length
         ·rw [if_pos hsm] at hcase
          unfold rdV at hcase
          subst hcase
          have HSM := Lib.hid hsm
          clear hsm
          have HFN := Lib.hid (show ParM bs size w (((((W3.setCell ⟨b7, 0, none⟩ (.int .i64 0)).setCell ⟨b7, 1, none⟩ (.int .i64 0)).setCell ⟨b7, 2, none⟩ (.int .u32 0)).setCell ⟨b7, 3, none⟩ (.slice none 0 0)).setCell ⟨b7, 4, none⟩ (.slice none 0 0)) b7 (.int .i64 (((4 : Nat) : Int))) from
           ⟨below5 HF3.out (Nat.le_of_lt hlt7) (.int .i64 0) (.int .i64 0) (.int .u32 0) (.slice none 0 0) (.slice none 0 0), HZ3.out.far5 (Nat.ne_of_lt hlt7) (.int .i64 0) (.int .i64 0) (.int .u32 0) (.slice none 0 0) (.slice none 0 0), hlt7, .inl ⟨4, by decide, rfl, fun W2 hb => ParP.small hb HTE.out HSM.out⟩⟩)
          have z0 := HB3.out.frozen 0
          have z1 := HB3.out.frozen 1
          have z2 := HB3.out.frozen 2
          have z3 := HB3.out.frozen 3
          have z4 := HB3.out.frozen 4
          have d0 := HB3.out.cell 0
          have d1 := HB3.out.cell 1
          have d2 := HB3.out.cell 2
          have d3 := HB3.out.cell 3
          have d4 := HB3.out.cell 4
          clear HB3 HF3 HZ3 HR2 HS2 H8 HSP HBL HTK
          gi_wp2_with fail
          gi_meet
          exact HFN.out
         ·rw [if_neg hsm] at hcase
          by_cases hwr : i.wrong = true
          ·rw [if_pos hwr] at hcase
           unfold rdV at hcase
           subst hcase
           have HSM := Lib.hid hsm
           have HWR := Lib.hid hwr
           clear hsm hwr
           have HFN := Lib.hid (show ParM bs size w (((((W3.setCell ⟨b7, 0, none⟩ (.int .i64 0)).setCell ⟨b7, 1, none⟩ (.int .i64 0)).setCell ⟨b7, 2, none⟩ (.int .u32 0)).setCell ⟨b7, 3, none⟩ (.slice none 0 0)).setCell ⟨b7, 4, none⟩ (.slice none 0 0)) b7 (.int .i64 (((145 : Nat) : Int))) from
            ⟨below5 HF3.out (Nat.le_of_lt hlt7) (.int .i64 0) (.int .i64 0) (.int .u32 0) (.slice none 0 0) (.slice none 0 0), HZ3.out.far5 (Nat.ne_of_lt hlt7) (.int .i64 0) (.int .i64 0) (.int .u32 0) (.slice none 0 0) (.slice none 0 0), hlt7, .inl ⟨145, by decide, rfl, fun W2 hb => ParP.wrong hb HTE.out HSM.out HWR.out⟩⟩)
           have z0 := HB3.out.frozen 0
           have z1 := HB3.out.frozen 1
           have z2 := HB3.out.frozen 2
           have z3 := HB3.out.frozen 3
           have z4 := HB3.out.frozen 4
           have d0 := HB3.out.cell 0
           have d1 := HB3.out.cell 1
           have d2 := HB3.out.cell 2
           have d3 := HB3.out.cell 3
           have d4 := HB3.out.cell 4
           clear HB3 HF3 HZ3 HR2 HS2 H8 HSP HBL HTK
           gi_wp2_with fail
           gi_meet
           exact HFN.out
          ·rw [if_neg hwr] at hcase
           obtain ⟨A1, A2, c1, c2, hcase, hr1, hr2, hnw⟩ := hcase
           replace hcase : e = .returned (.tuple #[.agg #[.int .i64 2, .int .i64 0, .int .u32 i.last, .slice A1 i.words.length c1, .slice A2 i.roots.length c2], .int .i64 0]) := hcase
           subst hcase
           have HWR := Lib.hid (show i.wrong = false from by simpa using hwr)
           clear hsm hwr
           have hx1 := reads5 (g := b7) hr1 (fun _ a ha e => by have := hnw a (.inl ha); omega) (.int .i64 2) (.int .i64 0) (.int .u32 i.last) (.slice A1 i.words.length c1) (.slice A2 i.roots.length c2)
           have hx2 := reads5 (g := b7) hr2 (fun _ a ha e => by have := hnw a (.inr ha); omega) (.int .i64 2) (.int .i64 0) (.int .u32 i.last) (.slice A1 i.words.length c1) (.slice A2 i.roots.length c2)
           have HFN := Lib.hid (show ParM bs size w (((((W3.setCell ⟨b7, 0, none⟩ (.int .i64 2)).setCell ⟨b7, 1, none⟩ (.int .i64 0)).setCell ⟨b7, 2, none⟩ (.int .u32 i.last)).setCell ⟨b7, 3, none⟩ (.slice A1 i.words.length c1)).setCell ⟨b7, 4, none⟩ (.slice A2 i.roots.length c2)) b7 (.int .i64 0) from
            ⟨below5 HF3.out (Nat.le_of_lt hlt7) (.int .i64 2) (.int .i64 0) (.int .u32 i.last) (.slice A1 i.words.length c1) (.slice A2 i.roots.length c2), HZ3.out.far5 (Nat.ne_of_lt hlt7) (.int .i64 2) (.int .i64 0) (.int .u32 i.last) (.slice A1 i.words.length c1) (.slice A2 i.roots.length c2), hlt7, .inr ⟨⟨2, i.words, i.roots, i.last, i.wrong⟩, A1, A2, c1, c2, rfl, HTE.out, HWR.out, HB3.out.setAll5 (.int .i64 2) (.int .i64 0) (.int .u32 i.last) (.slice A1 i.words.length c1) (.slice A2 i.roots.length c2), hx1, hx2⟩⟩)
           have z0 := HB3.out.frozen 0
           have z1 := HB3.out.frozen 1
           have z2 := HB3.out.frozen 2
           have z3 := HB3.out.frozen 3
           have z4 := HB3.out.frozen 4
           have d0 := HB3.out.cell 0
           have d1 := HB3.out.cell 1
           have d2 := HB3.out.cell 2
           have d3 := HB3.out.cell 3
           have d4 := HB3.out.cell 4
           clear hx1 hx2 hr1 hr2 hnw HB3 HF3 HZ3 HR2 HS2 H8 HSP HBL HTK
           gi_wp2_with fail
           gi_meet
           exact HFN.out
      ·have hq1 : ((vb : Int) == 1) = false := by simp; omega
       have hq2 : ((vb : Int) == 2) = false := by simp; omega
       have HNM := Lib.hid (H3.out.2.2 hv1 hv2)
       have HFN := Lib.hid (show ParM bs size w W2 b7 (.int .i64 ((141 : Nat) : Int)) from ⟨HF2.out, HZ2.out, hlt7, .inl ⟨141, by decide, rfl, fun W2 hb => ParP.err hb HNM.out⟩⟩)
       gi_wp2_with fail
       gi_meet
       exact HFN.out
    case rest =>
     obtain ⟨hbC, hzC, hlt0, hcut⟩ := hcut
     have HZC := Lib.hid hzC
     have HFC := Lib.hid hbC
     clear H3 HB7 HZ2 HF2 HR2 hzC
     rcases hcut with ⟨E, hE, rfl, hfin⟩ | ⟨r, A1, A2, c1, c2, rfl, hT, hwr, hb7, hr1, hr2⟩
     ·have he : (((E : Nat) : Int) != 0) = true := by simp; omega
      have HFI := Lib.hid hfin
      clear hfin HS2 HSP HMK HBL H8 hbC
      have z0 := HZC.out.frozen 0
      have z1 := HZC.out.frozen 1
      have z2 := HZC.out.frozen 2
      have z3 := HZC.out.frozen 3
      have z4 := HZC.out.frozen 4
      have d0 := HZC.out.cell 0
      have d1 := HZC.out.cell 1
      have d2 := HZC.out.cell 2
      have d3 := HZC.out.cell 3
      have d4 := HZC.out.cell 4
      have HZ5 := Lib.hid (HZC.out.setAll5 (.int .i64 0) (.int .i64 0) (.int .u32 0) (.slice none 0 0) (.slice none 0 0))
      have HFB := Lib.hid (below5 HFC.out (g := w.heap.size) (by omega) (.int .i64 0) (.int .i64 0) (.int .u32 0) (.slice none 0 0) (.slice none 0 0))
      gi_wp2_with fail
      generalize (((((wc.setCell ⟨w.heap.size, 0, none⟩ (.int .i64 0)).setCell ⟨w.heap.size, 1, none⟩ (.int .i64 0)).setCell ⟨w.heap.size, 2, none⟩ (.int .u32 0)).setCell ⟨w.heap.size, 3, none⟩ (.slice none 0 0)).setCell ⟨w.heap.size, 4, none⟩ (.slice none 0 0)) = WF at *
      clear z0 d0 z1 d1 z2 d2 z3 d3 z4 d4
      have f0 := HZ5.out.cell 0
      have f1 := HZ5.out.cell 1
      have f2 := HZ5.out.cell 2
      have f3 := HZ5.out.cell 3
      have f4 := HZ5.out.cell 4
      refine ⟨.tuple #[.agg #[.int .i64 0, .int .i64 0, .int .u32 0, .slice none 0 0, .slice none 0 0], .pointer none, .int .i64 (E : Nat)], by simp [results, Tryz.results13, go_sem, f0, f1, f2, f3, f4], ?_⟩
      exact HFI.out _ HFB.out
     ·have HT := Lib.hid hT
      have HWR := Lib.hid hwr
      have HFT := Lib.hid (take_fit hT H8.out)
      have HB7 := Lib.hid hb7
      have HR1 := Lib.hid hr1
      have HR2 := Lib.hid hr2
      have y3 : wc.cell? ⟨b7, 3, none⟩ = some (.slice A1 r.words.length c1) := hb7.cell 3
      clear hT hwr hb7 hr1 hr2
      obtain ⟨lw, hlw⟩ : ∃ l, l = r.words.length := ⟨_, rfl⟩
      rw [← hlw] at y3
      have HLW := Lib.hid hlw
      clear hlw
      by_cases hsm : size < lw
      ·have hd3 : decide ((size : Int) < (lw : Int)) = true := decide_eq_true (by omega)
       have hdi : (size : Int) < (lw : Int) := by omega
       have HSM := Lib.hid (show size < r.words.length by rw [← HLW.out]; exact hsm)
       clear HS2 HSP HMK HBL H8 hbC HR1 HR2 HB7 HFT hsm HWR
       have z0 := HZC.out.frozen 0
       have z1 := HZC.out.frozen 1
       have z2 := HZC.out.frozen 2
       have z3 := HZC.out.frozen 3
       have z4 := HZC.out.frozen 4
       have d0 := HZC.out.cell 0
       have d1 := HZC.out.cell 1
       have d2 := HZC.out.cell 2
       have d3 := HZC.out.cell 3
       have d4 := HZC.out.cell 4
       have HZ5 := Lib.hid (HZC.out.setAll5 (.int .i64 0) (.int .i64 0) (.int .u32 0) (.slice none 0 0) (.slice none 0 0))
       have HFB := Lib.hid (below5 HFC.out (g := w.heap.size) (by omega) (.int .i64 0) (.int .i64 0) (.int .u32 0) (.slice none 0 0) (.slice none 0 0))
       gi_wp2_with fail
       generalize (((((wc.setCell ⟨w.heap.size, 0, none⟩ (.int .i64 0)).setCell ⟨w.heap.size, 1, none⟩ (.int .i64 0)).setCell ⟨w.heap.size, 2, none⟩ (.int .u32 0)).setCell ⟨w.heap.size, 3, none⟩ (.slice none 0 0)).setCell ⟨w.heap.size, 4, none⟩ (.slice none 0 0)) = WF at *
       clear z0 d0 z1 d1 z2 d2 z3 d3 z4 d4
       have f0 := HZ5.out.cell 0
       have f1 := HZ5.out.cell 1
       have f2 := HZ5.out.cell 2
       have f3 := HZ5.out.cell 3
       have f4 := HZ5.out.cell 4
       refine ⟨.tuple #[.agg #[.int .i64 0, .int .i64 0, .int .u32 0, .slice none 0 0, .slice none 0 0], .pointer none, .int .i64 4], by simp [results, Tryz.results13, go_sem, f0, f1, f2, f3, f4], ?_⟩
       exact ParP.small HFB.out HT.out HSM.out
      ·have hd3 : decide ((size : Int) < (lw : Int)) = false := decide_eq_false (by omega)
       have HSM := Lib.hid (show ¬ size < r.words.length by rw [← HLW.out]; exact hsm)
       have HNW := Lib.hid (new_any size h64 hsize wc)
       gi_wp2_with fail
       refine ⟨trivial, (callsIn_wide.2 HNW.out).mono ?_⟩
       rintro e w5 ⟨p, rfl, H5, hnew, hb5⟩
       have HN5 := Lib.hid hnew
       have HB5 := Lib.hid hb5
       have y3 := (HB7.out.below hb5 HB7.out.lt).cell 3
       have y4 := (HB7.out.below hb5 HB7.out.lt).cell 4
       have y2 := (HB7.out.below hb5 HB7.out.lt).cell 2
       have hwc := hbC.size
       have HLD := Lib.hid (Load_any H5 (HM.new_fit h64 hsize) ((HSW.out.below hbC).below hb5) (fun k hk => HSP.out k (by have := hb5.size; omega)) A1 r.words.length c1 r.words (by have := HLW.out; omega) ((HR1.out.below hb5).more hb5.size) HFT.out.w32
        A2 r.roots.length c2 r.roots (by rw [HFT.out.roots]; omega) ((HR2.out.below hb5).more hb5.size) HFT.out.r32 r.last HFT.out.last)
       clear HNW H5 hnew hb5 HS2 HMK H8 HBL hwc
       unfold ptr at HLD ⊢
       gi_wp2_with fail
       refine ⟨trivial, (callsIn_wide.2 HLD.out).mono ?_⟩
       rintro e w6 ⟨p6, rfl, H6, st6⟩
       have hb6 := st6.below HB5.out HN5.out
       have HZ6 := Lib.hid (HZC.out.below hb6 HZC.out.lt)
       have HF6 := Lib.hid (below_top HFC.out hb6)
       have HB6 := Lib.hid (HB7.out.below hb6 HB7.out.lt)
       have HG6 := Lib.hid (show p6.g = p.g from st6.g)
       have HBC := Lib.hid (show b7 < wc.heap.size ∧ w.heap.size ≤ wc.heap.size from ⟨HB7.out.lt, hbC.size⟩)
       have HN6 := Lib.hid (show ∀ k, p6.has k → wc.heap.size ≤ k from fun k hk => by
        have h1 := hbC.size
        have h2 := HB5.out.size
        rcases st6.rows k hk with h | h
        ·have := HN5.out k h; omega
        ·omega)
       have HH6 := Lib.hid H6
       clear H6 st6 hb6 HLD HZC HFC HB7 HR1 HR2 HN5 HB5 y2 y3 y4
       rw [show (HM.new size).size = size from rfl]
       by_cases hok : LoadOk size r.words r.roots r.last
       ·have hz := loadE_zero HSM.out HFT.out.roots hok
        have hH := HH6.out
        rw [show (HM.new size).loadH r.words r.roots r.last = HM.ofWords size r.words r.roots r.last from by unfold HM.loadH; rw [show (HM.new size).size = size from rfl, if_pos hz]] at hH
        rw [hz]
        obtain ⟨l, hpl, hso⟩ := hok
        have HGD := Lib.hid (HM.ofWords_good h64 hsize HFT.out.w32 HFT.out.r32 HFT.out.roots HFT.out.last (by have := HSM.out; omega) hpl hso)
        have HPL := Lib.hid hpl
        have HSO := Lib.hid hso
        have HHW := Lib.hid hH
        have HS6 := Lib.hid (HSW.out.below HF6.out)
        clear hz hH hpl hso HH6
        gi_wp2_with fail
        refine ⟨trivial, (callsIn_wide.2 (all_any p.g _)).mono ?_⟩
        rintro e w7 ⟨rfl, rfl⟩
        have hb7 : Below w6.heap.size w6 (w6.alloc (.cells #[ptr p.g] 23)) := (Below.refl _ _).alloc (Nat.le_refl _) _
        have HBX := Lib.hid (Blk.new w6 23 #[ptr p.g])
        have HB7 := Lib.hid (HB6.out.below hb7 HB6.out.lt)
        have HZ7 := Lib.hid (HZ6.out.below hb7 HZ6.out.lt)
        have HH7 := Lib.hid (HHW.out.below hb7)
        have HS7 := Lib.hid (HS6.out.below hb7)
        have HF7 := Lib.hid (below_top HF6.out hb7)
        clear hb7
        have h7n := HB6.out.lt
        have HHL := Lib.hid (show w6.heap.size < (w6.alloc (.cells #[ptr p.g] 23)).heap.size from by simp)
        have hsp7 : 0 < b7 := by have := World.block_lt_of_cell? _ _ (HSW.out 0 (by omega)); simp only at this; omega
        unfold ptr at HBX
        gi_wp2_with fail
        unfold ptr at *
        generalize hb10 : w6.heap.size = b10 at *
        generalize w6.alloc (.cells #[.pointer (some ⟨p.g, 0, none⟩)] 23) = W0 at *
        clear hb10
        refine wpIn_rangeFunc_ownH (F := Fence.wide) rfl (by omega) (gf := 73) (lb := #[.pointer (some ⟨b10, 0, none⟩)]) rfl trivial (enters_of Tryz.func73 (by kernel_rfl) rfl)
         (all_stops HH7.out HGD.out HS7.out 5 b10 b7 (show W0.cell? ⟨b10, 0, none⟩ = some (ptr p6.g) from by rw [HG6.out]; exact HBX.out.cell 0) hsp7) KpB.trans (fun W l o o' _ h1 h2 _ => KpB.book W l o o' h1 h2) (Below.refl _ _) (fun _ => rfl)
         (fun pre W => Blk W b7 47 #[.int .i64 (r.ver : Nat), .int .i64 (pre.length : Nat), .int .u32 (r.last : Nat), .slice A1 r.words.length c1, .slice A2 r.roots.length c2] ∧ (∀ k, k < W0.heap.size → k ≠ b7 → W.heap[k]? = W0.heap[k]?) ∧ Below w.heap.size w W ∧ W0.heap.size ≤ W.heap.size)
         (fun c pre W => False)
         (fun pre A B row hs hg hr => ⟨blk_ownI hs.1 hg hr, fun k h1 h2 => (hg.block k (by have := hs.2.2.2; omega) (fun e => by have := (hr k e.symm).1; omega)).trans (hs.2.1 k h1 h2), hs.2.2.1.grown hg hs.2.2.1.size (fun k e => by have h1 := (hr k e).1; have h2 := HF7.out.size; omega), Nat.le_trans hs.2.2.2 hg.size⟩)
         (fun c pre A B row hs hg hr => hs.elim)
         ⟨HB7.out, fun _ _ _ => rfl, HF7.out, Nat.le_refl _⟩
         (fun x a' W => a' = { tmps := #[.slice (some ⟨g0, o0, none⟩) n c, .int .i64 (size : Int), undef, undef, .pointer (some ⟨w.heap.size, 0, none⟩), .pointer none, .int .i64 0, .pointer (some ⟨b7, 0, none⟩), .int .i64 0, .pointer (some ⟨p.g, 0, none⟩), .slice (some ⟨g0, o0, none⟩) n c, .int .i64 (n : Int), .bool false, undef, .slice (some ⟨g0, o0, none⟩) n c, .int .i64 (n : Int), .bool false, .bool false, .slice (some ⟨g0, o0, none⟩) n c, .slice (some ⟨g0, o0, none⟩) 4 c, .string { data := #[69, 70, 73, 71] }, .bool false, .bool false, undef, u24, u25, u26, u27, u28, u29, u30, u31, u32, u33, u34, u35, u36, u37, u38, u39, u40, u41, u42, .int .i64 0, .bool false, u45, u46, .pointer (some ⟨b7, 3, none⟩), .slice A1 lw c1, .int .i64 (lw : Int), .int .i64 (size : Int), .bool false, u52, .tuple #[.pointer (some ⟨p.g, 0, none⟩), .int .i64 0], .int .i64 (size : Int), .tuple #[.pointer (some ⟨p.g, 0, none⟩), .int .i64 0], .pointer (some ⟨p.g, 0, none⟩), .int .i64 0, .int .i64 0, .bool false, u60, u61, .pointer (some ⟨p.g, 0, none⟩), .pointer (some ⟨b7, 3, none⟩), .slice A1 r.words.length c1, .pointer (some ⟨b7, 4, none⟩), .slice A2 r.roots.length c2, .pointer (some ⟨b7, 2, none⟩), .int .u32 (r.last : Int), .int .i64 0, .bool false, u71, .pointer (some ⟨p.g, 0, none⟩), .func (.func 73) #[] #[.pointer (some ⟨b10, 0, none⟩)], .int .u32 ((2 * posOf (l.take x.1) : Nat) : Int), (l[x.1]'x.2).x.val, u76, u77, u78, u79, u80, u81], defers := [] })
         (fun x a' _ X Y row hs hg hr => hs)
         ?assign ?body ?done ?stop
        case assign =>
         rintro lp pre x W K hI hK
         rw [show allV l x = #[.int .u32 ((2 * posOf (l.take x.1) : Nat) : Int), (l[x.1]'x.2).x.val] from rfl]
         have HI0 := Lib.hid hI
         have HK := Lib.hid hK
         clear hK hI
         generalize (l[x.1]'x.2).x.val = X at *
         generalize 2 * posOf (l.take x.1) = o at *
         gi_wp2_with fail
         exact HK.out _ _ ((KeepsOthers.refl _).from _) (KpB.refl _ _ _) HI0.out rfl
        case body =>
         rintro lp pre x a' W hl hlr ⟨B1, K1, F1, Z1⟩ rfl hltx
         have hpl : pre.length ≤ 1048576 := by have h1 := oopsL_le HGD.out; rw [oopsL_len] at h1; omega
         have hwi : IntKind.i64.wrap ((pre.length : Int) + 1) = (pre.length : Int) + 1 := IntWalk.i64_in _ (by omega)
         have y1 := B1.cell 1
         have f1 := B1.frozen 1
         have hb70 : b7 < W0.heap.size := HB7.out.lt
         have hne : ∀ k, k ≠ b7 → (W.setCell ⟨b7, 1, none⟩ (.int .i64 ((pre.length : Int) + 1))).heap[k]? = W.heap[k]? := fun k h => Below.heap_setCell W ⟨b7, 1, none⟩ _ k h
         have hsz : (W.setCell ⟨b7, 1, none⟩ (.int .i64 ((pre.length : Int) + 1))).heap.size = W.heap.size := by simp [World.setCell]
         have HFN := Lib.hid (show KeepsFrom W0.heap.size W (W.setCell ⟨b7, 1, none⟩ (.int .i64 ((pre.length : Int) + 1))) ∧ KpB b7 W0.heap.size W (W.setCell ⟨b7, 1, none⟩ (.int .i64 ((pre.length : Int) + 1))) ∧
          Blk (W.setCell ⟨b7, 1, none⟩ (.int .i64 ((pre.length : Int) + 1))) b7 47 #[.int .i64 (r.ver : Nat), .int .i64 ((pre ++ [x]).length : Nat), .int .u32 (r.last : Nat), .slice A1 r.words.length c1, .slice A2 r.roots.length c2] ∧
          (∀ k, k < W0.heap.size → k ≠ b7 → (W.setCell ⟨b7, 1, none⟩ (.int .i64 ((pre.length : Int) + 1))).heap[k]? = W0.heap[k]?) ∧ Below w.heap.size w (W.setCell ⟨b7, 1, none⟩ (.int .i64 ((pre.length : Int) + 1))) ∧
          W0.heap.size ≤ (W.setCell ⟨b7, 1, none⟩ (.int .i64 ((pre.length : Int) + 1))).heap.size from by
          refine ⟨⟨Nat.le_of_eq hsz.symm, fun k o' hk ho' hc => (hne k (by omega)).trans ho'⟩, (KpB.refl b7 W0.heap.size W).setCell (Nat.le_refl _) hb70 _, ?_, fun k h1 h2 => (hne k h2).trans (K1 k h1 h2), F1.setCell (p := ⟨b7, 1, none⟩) (by simp only; omega) _, by rw [hsz]; exact Z1⟩
          rw [show (((pre ++ [x]).length : Nat) : Int) = (pre.length : Int) + 1 by simp]
          exact B1.set_ 1 _)
         clear hne hsz B1 K1 F1
         apply wpIn_block
         gi_wp2_with fail
         exact HFN.out
        case done =>
         rintro D xs W hD rfl ⟨B1, K1, F1, Z1⟩ hK
         rw [List.length_finRange] at B1
         have hb70 : b7 < W0.heap.size := HB7.out.lt
         have hc1 := HBC.out.1
         have hc2 := HBC.out.2
         have HBW := Lib.hid (HZ7.out.same (K1 w.heap.size (by omega) (by omega)))
         have HHW7 := Lib.hid (HH7.out.same (fun k hk => K1 k (HH7.out.lt hk) (by have := HN6.out k hk; omega)))
         have hfar : ∀ k, k ≠ w.heap.size → (((((W.setCell ⟨w.heap.size, 0, none⟩ (.int .i64 (r.ver : Nat))).setCell ⟨w.heap.size, 1, none⟩ (.int .i64 (l.length : Nat))).setCell ⟨w.heap.size, 2, none⟩ (.int .u32 (r.last : Nat))).setCell ⟨w.heap.size, 3, none⟩ (.slice A1 r.words.length c1)).setCell ⟨w.heap.size, 4, none⟩ (.slice A2 r.roots.length c2)).heap[k]? = W.heap[k]? := fun k h => by
          rw [Below.heap_setCell _ ⟨w.heap.size, 4, none⟩ _ k h, Below.heap_setCell _ ⟨w.heap.size, 3, none⟩ _ k h, Below.heap_setCell _ ⟨w.heap.size, 2, none⟩ _ k h, Below.heap_setCell _ ⟨w.heap.size, 1, none⟩ _ k h, Below.heap_setCell _ ⟨w.heap.size, 0, none⟩ _ k h]
         have HHB := Lib.hid (HHW7.out.same (w' := (((((W.setCell ⟨w.heap.size, 0, none⟩ (.int .i64 (r.ver : Nat))).setCell ⟨w.heap.size, 1, none⟩ (.int .i64 (l.length : Nat))).setCell ⟨w.heap.size, 2, none⟩ (.int .u32 (r.last : Nat))).setCell ⟨w.heap.size, 3, none⟩ (.slice A1 r.words.length c1)).setCell ⟨w.heap.size, 4, none⟩ (.slice A2 r.roots.length c2))) (fun k hk => hfar k (by have := HN6.out k hk; omega)))
         have HKD := Lib.hid ((hfar D (by omega)).trans hK)
         have HZ5 := Lib.hid (HBW.out.setAll5 (.int .i64 (r.ver : Nat)) (.int .i64 (l.length : Nat)) (.int .u32 (r.last : Nat)) (.slice A1 r.words.length c1) (.slice A2 r.roots.length c2))
         have HFB := Lib.hid (below5 F1 (g := w.heap.size) (Nat.le_refl _) (.int .i64 (r.ver : Nat)) (.int .i64 (l.length : Nat)) (.int .u32 (r.last : Nat)) (.slice A1 r.words.length c1) (.slice A2 r.roots.length c2))
         have e0 := B1.cell 0
         have e1 := B1.cell 1
         have e2 := B1.cell 2
         have e3 := B1.cell 3
         have e4 := B1.cell 4
         have z0 := HBW.out.frozen 0
         have z1 := HBW.out.frozen 1
         have z2 := HBW.out.frozen 2
         have z3 := HBW.out.frozen 3
         have z4 := HBW.out.frozen 4
         have d0 := HBW.out.cell 0
         have d1 := HBW.out.cell 1
         have d2 := HBW.out.cell 2
         have d3 := HBW.out.cell 3
         have d4 := HBW.out.cell 4
         clear hfar B1 K1 F1 hK HBW HHW7
         gi_wp2_with fail
         generalize (((((W.setCell ⟨w.heap.size, 0, none⟩ (.int .i64 (r.ver : Nat))).setCell ⟨w.heap.size, 1, none⟩ (.int .i64 (l.length : Nat))).setCell ⟨w.heap.size, 2, none⟩ (.int .u32 (r.last : Nat))).setCell ⟨w.heap.size, 3, none⟩ (.slice A1 r.words.length c1)).setCell ⟨w.heap.size, 4, none⟩ (.slice A2 r.roots.length c2)) = WF at *
         refine ⟨by simp, .inl ⟨_, _, rfl, run_takeDeferred HKD.out, ?_⟩⟩
         have hg := grownBy_putObj' WF D (.deferred none)
         have HP := blk_ownI (B := W0.heap.size) HZ5.out hg (fun r e => by cases e; exact ⟨hD, _, HKD.out, rfl⟩)
         have f0 := HP.cell 0
         have f1 := HP.cell 1
         have f2 := HP.cell 2
         have f3 := HP.cell 3
         have f4 := HP.cell 4
         refine ⟨.tuple #[.agg #[.int .i64 (r.ver : Nat), .int .i64 (l.length : Nat), .int .u32 (r.last : Nat), .slice A1 r.words.length c1, .slice A2 r.roots.length c2], .pointer (some ⟨p.g, 0, none⟩), .int .i64 0], by simp [results, Tryz.results13, go_sem, f0, f1, f2, f3, f4], ?_⟩
         rw [← HG6.out]
         exact ParP.good HT.out HSM.out HPL.out HSO.out HWR.out (HHB.out.same (fun k hk => hg.block k (HHB.out.lt hk) (fun e => by injection e with e; have := HH7.out.lt hk; omega))) (fun k hk => by have := HN6.out k hk; omega) (HFB.out.grown hg HFB.out.size (fun k e => by injection e with e; omega))
        case stop =>
         rintro D c pre W hD hp hx hK
         exact hx.elim
       ·have hle := loadE_ne hok
        have HNK := Lib.hid hok
        clear hok HH6 HN6 HB6 HG6
        generalize loadE size r.words r.roots r.last = le at *
        have hne : (((le : Nat) : Int) != 0) = true := by simp; omega
        clear hbC HSW HSP HFT HWR
        have z0 := HZ6.out.frozen 0
        have z1 := HZ6.out.frozen 1
        have z2 := HZ6.out.frozen 2
        have z3 := HZ6.out.frozen 3
        have z4 := HZ6.out.frozen 4
        have d0 := HZ6.out.cell 0
        have d1 := HZ6.out.cell 1
        have d2 := HZ6.out.cell 2
        have d3 := HZ6.out.cell 3
        have d4 := HZ6.out.cell 4
        have HZ5 := Lib.hid (HZ6.out.setAll5 (.int .i64 0) (.int .i64 0) (.int .u32 0) (.slice none 0 0) (.slice none 0 0))
        have HFB := Lib.hid (below5 HF6.out (g := w.heap.size) (by omega) (.int .i64 0) (.int .i64 0) (.int .u32 0) (.slice none 0 0) (.slice none 0 0))
        gi_wp2_with fail
        generalize (((((w6.setCell ⟨w.heap.size, 0, none⟩ (.int .i64 0)).setCell ⟨w.heap.size, 1, none⟩ (.int .i64 0)).setCell ⟨w.heap.size, 2, none⟩ (.int .u32 0)).setCell ⟨w.heap.size, 3, none⟩ (.slice none 0 0)).setCell ⟨w.heap.size, 4, none⟩ (.slice none 0 0)) = WF at *
        clear z0 d0 z1 d1 z2 d2 z3 d3 z4 d4
        have f0 := HZ5.out.cell 0
        have f1 := HZ5.out.cell 1
        have f2 := HZ5.out.cell 2
        have f3 := HZ5.out.cell 3
        have f4 := HZ5.out.cell 4
        refine ⟨.tuple #[.agg #[.int .i64 0, .int .i64 0, .int .u32 0, .slice none 0 0, .slice none 0 0], .pointer none, .int .i64 145], by simp [results, Tryz.results13, go_sem, f0, f1, f2, f3, f4], ?_⟩
        exact ParP.bad HFB.out HT.out HSM.out HNK.out
   ·have HNM := Lib.hid (show takeR bs = .error 140 from by unfold takeR; rw [if_neg (by rw [HBL.out]; exact hbig), if_pos (.inr hmk)])
    have hst : ((istrN (bs.take 4)).toList == ({ data := #[69, 70, 73, 71] } : ByteArray).toList) = false := str_ne (fun e => hmk (by
     rw [← strN_mark] at e
     exact (istrN_inj (fun x hx => H8.out x (List.mem_of_mem_take hx)) (by decide)).1 e))
    rw [show ({ data := #[69, 70, 73, 71] } : ByteArray).toList = [69, 70, 73, 71] by rw [ByteArray.toList_eq]] at hst
    generalize istrN (bs.take 4) = sx at *
    clear hmk
    clear HR1 HS1 HSP HBL H8
    have z0 := HZ1.out.frozen 0
    have z1 := HZ1.out.frozen 1
    have z2 := HZ1.out.frozen 2
    have z3 := HZ1.out.frozen 3
    have z4 := HZ1.out.frozen 4
    have d0 := HZ1.out.cell 0
    have d1 := HZ1.out.cell 1
    have d2 := HZ1.out.cell 2
    have d3 := HZ1.out.cell 3
    have d4 := HZ1.out.cell 4
    have HZ5 := Lib.hid (HZ1.out.setAll5 (.int .i64 0) (.int .i64 0) (.int .u32 0) (.slice none 0 0) (.slice none 0 0))
    have HFB := Lib.hid (below5 HF1.out (g := w.heap.size) (by omega) (.int .i64 0) (.int .i64 0) (.int .u32 0) (.slice none 0 0) (.slice none 0 0))
    gi_wp2_with fail
    generalize (((((W1.setCell ⟨w.heap.size, 0, none⟩ (.int .i64 0)).setCell ⟨w.heap.size, 1, none⟩ (.int .i64 0)).setCell ⟨w.heap.size, 2, none⟩ (.int .u32 0)).setCell ⟨w.heap.size, 3, none⟩ (.slice none 0 0)).setCell ⟨w.heap.size, 4, none⟩ (.slice none 0 0)) = WF at *
    clear z0 d0 z1 d1 z2 d2 z3 d3 z4 d4
    have f0 := HZ5.out.cell 0
    have f1 := HZ5.out.cell 1
    have f2 := HZ5.out.cell 2
    have f3 := HZ5.out.cell 3
    have f4 := HZ5.out.cell 4
    refine ⟨.tuple #[.agg #[.int .i64 0, .int .i64 0, .int .u32 0, .slice none 0 0, .slice none 0 0], .pointer none, .int .i64 140], by simp [results, Tryz.results13, go_sem, f0, f1, f2, f3, f4], ?_⟩
    exact ParP.err HFB.out HNM.out
end
section
open Go.RowKit
open Classical in
noncomputable def takeE (b : List Nat) (size : Nat) : Nat :=
 match takeR b with
 | .error E => E
 | .ok r => if size < r.words.length then 4 else if r.wrong = true ∨ ¬ LoadOk size r.words r.roots r.last then 145 else 0
def takeH (b : List Nat) (size : Nat) : HM :=
 match takeR b with
 | .error _ => HM.new 64
 | .ok r => HM.ofWords size r.words r.roots r.last
theorem takeR_err {b : List Nat} {E : Nat} (h : takeR b = .error E) : E ≠ 0 := by
 unfold takeR at h
 split at h
 ·cases h; decide
 ·split at h
  ·cases h; decide
  ·split at h
   ·exact oldM_err h
   ·split at h
    ·split at h
     ·rename_i e he
      cases h
      exact newM_err he
     ·cases h
    ·cases h; decide
theorem takeR_errs {b : List Nat} {E size : Nat} (h : takeR b = .error E) : takeE b size = E := by
 unfold takeE
 rw [h]
def TakP (b : List Nat) (size : Nat) (w : World) (e : Ending) (w' : World) : Prop :=
 Below w.heap.size w w' ∧ ((takeE b size ≠ 0 ∧ e = .returned (.tuple #[rdV 0 0 (.slice none 0 0) (.slice none 0 0), .pointer none, .int .i64 (takeE b size : Nat)])) ∨
  (takeE b size = 0 ∧ ∃ (r : Rd) (l : List Ob) (p : HP) (A1 A2 : Option Addr) (n1 c1 n2 c2 : Nat), takeR b = .ok r ∧ (takeH b size).Good l ∧
    e = .returned (.tuple #[.agg #[.int .i64 r.ver, .int .i64 l.length, .int .u32 r.last, .slice A1 n1 c1, .slice A2 n2 c2], ptr p.g, .int .i64 0]) ∧ HAt w' p (takeH b size) ∧ ∀ k, p.has k → w.heap.size ≤ k))
open Classical in
theorem ParP.take {b : List Nat} {size : Nat} {w w' : World} {e : Ending} (h8 : ∀ x ∈ b, x < 256) (h1 : 64 ≤ size) (h2 : size ≤ 1048576) (h : ParP b size w e w') : TakP b size w e w' := by
 unfold ParP at h
 cases ht : takeR b with
 | error E =>
   rw [ht] at h
   have e1 : takeE b size = E := takeR_errs ht
   have := takeR_err ht
   exact ⟨h.1, .inl ⟨by rw [e1]; exact this, by rw [e1]; exact h.2⟩⟩
 | ok r =>
   rw [ht] at h
   have F := take_fit ht h8
   obtain ⟨h3, h4, h5⟩ := h
   have e0 : takeE b size = if size < r.words.length then 4 else if r.wrong = true ∨ ¬ LoadOk size r.words r.roots r.last then 145 else 0 := by unfold takeE; rw [ht]
   have eH : takeH b size = HM.ofWords size r.words r.roots r.last := by unfold takeH; rw [ht]
   by_cases hs : size < r.words.length
   ·rw [if_pos hs] at e0
    obtain ⟨k1, k2⟩ := h3 hs
    exact ⟨k1, .inl ⟨by rw [e0]; decide, by rw [e0]; exact k2⟩⟩
   ·rw [if_neg hs] at e0
    by_cases hw : r.wrong = true ∨ ¬ LoadOk size r.words r.roots r.last
    ·rw [if_pos hw] at e0
     obtain ⟨k1, k2⟩ := h4 hs hw
     exact ⟨k1, .inl ⟨by rw [e0]; decide, by rw [e0]; exact k2⟩⟩
    ·rw [if_neg hw] at e0
     have hw1 : r.wrong = false := by
      cases hr : r.wrong with
      | false => rfl
      | true => exact absurd (.inl hr) hw
     have hw2 : LoadOk size r.words r.roots r.last := Classical.byContradiction fun hn => hw (.inr hn)
     obtain ⟨l, hl, hso⟩ := hw2
     obtain ⟨p, A1, A2, n1, c1, n2, c2, k1, k2, k3, k4⟩ := h5 hs hw1 l hl hso
     refine ⟨k4, .inr ⟨e0, r, l, p, A1, A2, n1, c1, n2, c2, ht, ?_, k1, by rw [eH]; exact k2, k3⟩⟩
     rw [eH]
     exact HM.ofWords_good h1 h2 F.w32 F.r32 F.roots F.last (by omega) hl hso
theorem Spares.far {w : World} (hs : Spares w) : ∀ k, w.heap.size ≤ k → k ≠ 0 ∧ k ≠ 0 := fun k hk => by
 have := hs.lt
 exact ⟨by omega, by omega⟩
theorem take_any {w : World} {n c : Nat} {A : Option Addr} {bs : List Nat} {size : Nat} (hs : Spares w) (hr : Reads w w.heap.size 1 A n (u8c bs)) (hA : 0 < n → ∃ g0 o0, A = some ⟨g0, o0, none⟩) (hc : n ≤ c) (hn : n ≤ 9223372036854775807) (h8 : ∀ x ∈ bs, x < 256) (h64 : 64 ≤ size) (hsize : size ≤ 1048576) :
 Calls Tryz.prog 13 #[.slice A n c, .int .i64 size] w (TakP bs size w) := by
 by_cases h0 : 0 < n
 ·obtain ⟨g0, o0, hA⟩ := hA h0
  exact (parse_any hs hs.far hr (fun _ => hA) hc hn h8 h64 hsize).mono fun _ _ H => H.take h8 h64 hsize
 ·exact (parse_any (g0 := 0) (o0 := 0) hs hs.far hr (fun h => absurd h h0) hc hn h8 h64 hsize).mono fun _ _ H => H.take h8 h64 hsize
end
end Go.Proofs.YthadjmhipckelaaGreatDoor
