/- The document's counts: counted. -/
/- The document's Count. -/
import Derived.Test.YtpajpdjjpgbklaaDoorJRCanon
import Derived.Test.YtpajpdjjpgbklaaDoorJLive
import Derived.Test.YtpajpdjjpgbklaaDoorJDiffW
import Derived.Test.YtpajpdjjpgbklaaDoorJRWalk
import Derived.Lib.QuietBelow
set_option linter.unusedVariables false
set_option linter.unusedSimpArgs false
set_option linter.unusedSectionVars false
namespace Go.Proofs.YtpajpdjjpgbklaaDoor
open Go.RowKit Go.Maps
attribute [local go_sem] Oper.semAt_some

section
variable {w : World} {g : Nat} {t : TypeId} {a b c d e : Value}
theorem below_setAll5 {B : Nat} {W : World} (h : Below B W w) (hB : B ≤ g) (a' b' c' d' e' : Value) : Below B W (((((w.setCell ⟨g, 0, none⟩ a').setCell ⟨g, 1, none⟩ b').setCell ⟨g, 2, none⟩ c').setCell ⟨g, 3, none⟩ d').setCell ⟨g, 4, none⟩ e') :=
  ((((h.setCell (p := ⟨g, 0, none⟩) hB a').setCell (p := ⟨g, 1, none⟩) hB b').setCell (p := ⟨g, 2, none⟩) hB c').setCell (p := ⟨g, 3, none⟩) hB d').setCell (p := ⟨g, 4, none⟩) hB e'
end
set_option maxRecDepth 100000 in
set_option maxHeartbeats 4000000 in
theorem rcounted_any (w : World) (x : Gc) (n : Nat) (o : Nat) (ho : o < 4294967296) (cls : Bool) (h1 : x.smalls < 4611686018427387904) (h2 : x.edges < 4611686018427387904) :
    Calls Tryd.prog 62 #[.agg (x.cells n), .int .u32 o, .bool cls] w (Told (.agg ((noteM x o cls).cells n)) w) := by
  have HK := Lib.hid (rkind_any o ho)
  obtain ⟨xw, xs, xe, xd⟩ := x
  dsimp only at h1 h2
  have hb := ((Below.refl w.heap.size w).alloc (Nat.le_refl _) (.cells #[.int .i64 (n : Nat), .int .i64 (xw : Nat), .int .i64 (xs : Nat), .int .i64 (xe : Nat), .int .i64 (xd : Nat)] 72)).alloc (by simp) (.cells #[.int .i64 0, .int .i64 0, .int .i64 0, .int .i64 0, .int .i64 0] 72)
  have BX := (Blk.new w 72 #[.int .i64 (n : Nat), .int .i64 (xw : Nat), .int .i64 (xs : Nat), .int .i64 (xe : Nat), .int .i64 (xd : Nat)]).alloc (.cells #[.int .i64 0, .int .i64 0, .int .i64 0, .int .i64 0, .int .i64 0] 72)
  have BZ := Blk.new (w.alloc (.cells #[.int .i64 (n : Nat), .int .i64 (xw : Nat), .int .i64 (xs : Nat), .int .i64 (xe : Nat), .int .i64 (xd : Nat)] 72)) 72 #[.int .i64 0, .int .i64 0, .int .i64 0, .int .i64 0, .int .i64 0]
  rw [World.size_alloc] at BZ
  have HB := Lib.hid hb
  have HX := Lib.hid BX
  have HZ := Lib.hid BZ
  clear hb BX BZ
  unfold Gc.cells
  dsimp only
  by_cases hk1 : kindM o = 1
  · rw [hk1] at HK
    cases cls
    · have HF := Lib.hid (show noteM ⟨xw, xs, xe, xd⟩ o false = ⟨xw, xs + 1, xe, xd⟩ by unfold noteM; rw [if_pos hk1, if_neg (by decide)])
      clear hk1
      go_enter Tryd.func62, Tryd.ntmps62
      go_wp2_with fail
      generalize (w.alloc (.cells #[.int .i64 (n : Nat), .int .i64 (xw : Nat), .int .i64 (xs : Nat), .int .i64 (xe : Nat), .int .i64 (xd : Nat)] 72)).alloc (.cells #[.int .i64 0, .int .i64 0, .int .i64 0, .int .i64 0, .int .i64 0] 72) = w2 at *
      refine (HK.out _).mono ?_
      rintro e w3 ⟨rfl, rfl⟩
      have y2 := HX.out.cell 2
      have q2 := HX.out.frozen 2
      go_upto_region 7 with fail
      have HX3 := Lib.hid (HX.out.set_ 2 (.int .i64 ((xs : Int) + 1)))
      have HZ3 := Lib.hid (HZ.out.same (Below.heap_setCell w2 ⟨w.heap.size, 2, none⟩ (.int .i64 ((xs : Int) + 1)) _ (by show w.heap.size + 1 ≠ w.heap.size; omega)))
      have HB3 := Lib.hid (HB.out.setCell (p := ⟨w.heap.size, 2, none⟩) (Nat.le_refl _) (.int .i64 ((xs : Int) + 1)))
      clear y2 q2
      generalize w2.setCell ⟨w.heap.size, 2, none⟩ (.int .i64 ((xs : Int) + 1)) = w4 at *
      have x0 := (HX3.out).cell 0
      have x1 := (HX3.out).cell 1
      have x2 := (HX3.out).cell 2
      have x3 := (HX3.out).cell 3
      have x4 := (HX3.out).cell 4
      have BZn := HZ3.out
      have d0 := BZn.cell 0
      have d1 := BZn.cell 1
      have d2 := BZn.cell 2
      have d3 := BZn.cell 3
      have d4 := BZn.cell 4
      have z0 := BZn.frozen 0
      have z1 := BZn.frozen 1
      have z2 := BZn.frozen 2
      have z3 := BZn.frozen 3
      have z4 := BZn.frozen 4
      have HZ5 := Lib.hid (BZn.setAll5 (.int .i64 (n : Int)) (.int .i64 ((xw : Int))) (.int .i64 ((xs : Int) + 1)) (.int .i64 ((xe : Int))) (.int .i64 ((xd : Int))))
      have HB5 := Lib.hid (below_setAll5 (HB3.out) (g := w.heap.size + 1) (by omega) (.int .i64 (n : Int)) (.int .i64 ((xw : Int))) (.int .i64 ((xs : Int) + 1)) (.int .i64 ((xe : Int))) (.int .i64 ((xd : Int))))
      clear BZn
      go_wp2_with fail
      have f0 := HZ5.out.cell 0
      have f1 := HZ5.out.cell 1
      have f2 := HZ5.out.cell 2
      have f3 := HZ5.out.cell 3
      have f4 := HZ5.out.cell 4
      refine bodyPost_ret (v := .agg #[.int .i64 (n : Int), .int .i64 ((xw : Int)), .int .i64 ((xs : Int) + 1), .int .i64 ((xe : Int)), .int .i64 ((xd : Int))]) (by simp [results, Tryd.results62, go_sem, f0, f1, f2, f3, f4]) rfl ?_
      exact ⟨by first | (rw [HF.out]; done) | (rw [HF.out]; rfl), HB5.out⟩
    · have HF := Lib.hid (show noteM ⟨xw, xs, xe, xd⟩ o true = ⟨xw, xs, xe, xd⟩ by unfold noteM; rw [if_pos hk1, if_pos rfl])
      clear hk1
      go_enter Tryd.func62, Tryd.ntmps62
      go_wp2_with fail
      generalize (w.alloc (.cells #[.int .i64 (n : Nat), .int .i64 (xw : Nat), .int .i64 (xs : Nat), .int .i64 (xe : Nat), .int .i64 (xd : Nat)] 72)).alloc (.cells #[.int .i64 0, .int .i64 0, .int .i64 0, .int .i64 0, .int .i64 0] 72) = w2 at *
      refine (HK.out _).mono ?_
      rintro e w3 ⟨rfl, rfl⟩
      have x0 := (HX.out).cell 0
      have x1 := (HX.out).cell 1
      have x2 := (HX.out).cell 2
      have x3 := (HX.out).cell 3
      have x4 := (HX.out).cell 4
      have BZn := HZ.out
      have d0 := BZn.cell 0
      have d1 := BZn.cell 1
      have d2 := BZn.cell 2
      have d3 := BZn.cell 3
      have d4 := BZn.cell 4
      have z0 := BZn.frozen 0
      have z1 := BZn.frozen 1
      have z2 := BZn.frozen 2
      have z3 := BZn.frozen 3
      have z4 := BZn.frozen 4
      have HZ5 := Lib.hid (BZn.setAll5 (.int .i64 (n : Int)) (.int .i64 ((xw : Int))) (.int .i64 ((xs : Int))) (.int .i64 ((xe : Int))) (.int .i64 ((xd : Int))))
      have HB5 := Lib.hid (below_setAll5 (HB.out) (g := w.heap.size + 1) (by omega) (.int .i64 (n : Int)) (.int .i64 ((xw : Int))) (.int .i64 ((xs : Int))) (.int .i64 ((xe : Int))) (.int .i64 ((xd : Int))))
      clear BZn
      go_wp2_with fail
      have f0 := HZ5.out.cell 0
      have f1 := HZ5.out.cell 1
      have f2 := HZ5.out.cell 2
      have f3 := HZ5.out.cell 3
      have f4 := HZ5.out.cell 4
      refine bodyPost_ret (v := .agg #[.int .i64 (n : Int), .int .i64 ((xw : Int)), .int .i64 ((xs : Int)), .int .i64 ((xe : Int)), .int .i64 ((xd : Int))]) (by simp [results, Tryd.results62, go_sem, f0, f1, f2, f3, f4]) rfl ?_
      exact ⟨by first | (rw [HF.out]; done) | (rw [HF.out]; rfl), HB5.out⟩
  · by_cases hk2 : kindM o = 2
    · have HF := Lib.hid (show noteM ⟨xw, xs, xe, xd⟩ o cls = ⟨xw, xs, xe + 1, xd⟩ by unfold noteM; rw [if_neg hk1, if_pos hk2])
      rw [hk2] at HK
      clear hk1 hk2
      go_enter Tryd.func62, Tryd.ntmps62
      go_wp2_with fail
      generalize (w.alloc (.cells #[.int .i64 (n : Nat), .int .i64 (xw : Nat), .int .i64 (xs : Nat), .int .i64 (xe : Nat), .int .i64 (xd : Nat)] 72)).alloc (.cells #[.int .i64 0, .int .i64 0, .int .i64 0, .int .i64 0, .int .i64 0] 72) = w2 at *
      refine (HK.out _).mono ?_
      rintro e w3 ⟨rfl, rfl⟩
      have y3 := HX.out.cell 3
      have q3 := HX.out.frozen 3
      go_upto_region 7 with fail
      have HX3 := Lib.hid (HX.out.set_ 3 (.int .i64 ((xe : Int) + 1)))
      have HZ3 := Lib.hid (HZ.out.same (Below.heap_setCell w2 ⟨w.heap.size, 3, none⟩ (.int .i64 ((xe : Int) + 1)) _ (by show w.heap.size + 1 ≠ w.heap.size; omega)))
      have HB3 := Lib.hid (HB.out.setCell (p := ⟨w.heap.size, 3, none⟩) (Nat.le_refl _) (.int .i64 ((xe : Int) + 1)))
      clear y3 q3
      generalize w2.setCell ⟨w.heap.size, 3, none⟩ (.int .i64 ((xe : Int) + 1)) = w4 at *
      have x0 := (HX3.out).cell 0
      have x1 := (HX3.out).cell 1
      have x2 := (HX3.out).cell 2
      have x3 := (HX3.out).cell 3
      have x4 := (HX3.out).cell 4
      have BZn := HZ3.out
      have d0 := BZn.cell 0
      have d1 := BZn.cell 1
      have d2 := BZn.cell 2
      have d3 := BZn.cell 3
      have d4 := BZn.cell 4
      have z0 := BZn.frozen 0
      have z1 := BZn.frozen 1
      have z2 := BZn.frozen 2
      have z3 := BZn.frozen 3
      have z4 := BZn.frozen 4
      have HZ5 := Lib.hid (BZn.setAll5 (.int .i64 (n : Int)) (.int .i64 ((xw : Int))) (.int .i64 ((xs : Int))) (.int .i64 ((xe : Int) + 1)) (.int .i64 ((xd : Int))))
      have HB5 := Lib.hid (below_setAll5 (HB3.out) (g := w.heap.size + 1) (by omega) (.int .i64 (n : Int)) (.int .i64 ((xw : Int))) (.int .i64 ((xs : Int))) (.int .i64 ((xe : Int) + 1)) (.int .i64 ((xd : Int))))
      clear BZn
      go_wp2_with fail
      have f0 := HZ5.out.cell 0
      have f1 := HZ5.out.cell 1
      have f2 := HZ5.out.cell 2
      have f3 := HZ5.out.cell 3
      have f4 := HZ5.out.cell 4
      refine bodyPost_ret (v := .agg #[.int .i64 (n : Int), .int .i64 ((xw : Int)), .int .i64 ((xs : Int)), .int .i64 ((xe : Int) + 1), .int .i64 ((xd : Int))]) (by simp [results, Tryd.results62, go_sem, f0, f1, f2, f3, f4]) rfl ?_
      exact ⟨by first | (rw [HF.out]; done) | (rw [HF.out]; rfl), HB5.out⟩
    · have HF := Lib.hid (show noteM ⟨xw, xs, xe, xd⟩ o cls = ⟨xw, xs, xe, xd⟩ by unfold noteM; rw [if_neg hk1, if_neg hk2])
      have e1 : ((kindM o : Int) == 1) = false := by simp; omega
      have e2 : ((kindM o : Int) == 2) = false := by simp; omega
      generalize kindM o = kd at *
      clear hk1 hk2
      go_enter Tryd.func62, Tryd.ntmps62
      go_wp2_with fail
      generalize (w.alloc (.cells #[.int .i64 (n : Nat), .int .i64 (xw : Nat), .int .i64 (xs : Nat), .int .i64 (xe : Nat), .int .i64 (xd : Nat)] 72)).alloc (.cells #[.int .i64 0, .int .i64 0, .int .i64 0, .int .i64 0, .int .i64 0] 72) = w2 at *
      refine (HK.out _).mono ?_
      rintro e w3 ⟨rfl, rfl⟩
      have x0 := (HX.out).cell 0
      have x1 := (HX.out).cell 1
      have x2 := (HX.out).cell 2
      have x3 := (HX.out).cell 3
      have x4 := (HX.out).cell 4
      have BZn := HZ.out
      have d0 := BZn.cell 0
      have d1 := BZn.cell 1
      have d2 := BZn.cell 2
      have d3 := BZn.cell 3
      have d4 := BZn.cell 4
      have z0 := BZn.frozen 0
      have z1 := BZn.frozen 1
      have z2 := BZn.frozen 2
      have z3 := BZn.frozen 3
      have z4 := BZn.frozen 4
      have HZ5 := Lib.hid (BZn.setAll5 (.int .i64 (n : Int)) (.int .i64 ((xw : Int))) (.int .i64 ((xs : Int))) (.int .i64 ((xe : Int))) (.int .i64 ((xd : Int))))
      have HB5 := Lib.hid (below_setAll5 (HB.out) (g := w.heap.size + 1) (by omega) (.int .i64 (n : Int)) (.int .i64 ((xw : Int))) (.int .i64 ((xs : Int))) (.int .i64 ((xe : Int))) (.int .i64 ((xd : Int))))
      clear BZn
      go_wp2_with fail
      have f0 := HZ5.out.cell 0
      have f1 := HZ5.out.cell 1
      have f2 := HZ5.out.cell 2
      have f3 := HZ5.out.cell 3
      have f4 := HZ5.out.cell 4
      refine bodyPost_ret (v := .agg #[.int .i64 (n : Int), .int .i64 ((xw : Int)), .int .i64 ((xs : Int)), .int .i64 ((xe : Int)), .int .i64 ((xd : Int))]) (by simp [results, Tryd.results62, go_sem, f0, f1, f2, f3, f4]) rfl ?_
      exact ⟨by first | (rw [HF.out]; done) | (rw [HF.out]; rfl), HB5.out⟩
end Go.Proofs.YtpajpdjjpgbklaaDoor

namespace Go.Proofs.YtpajpdjjpgbklaaDoor
open Go.RowKit Go.Maps
attribute [local go_sem] Oper.semAt_some

/-- What Count answers. -/
def CountQ (h : HM) (fr : List Nat) (w : World) (e : Ending) (w' : World) : Prop :=
  Below w.heap.size w w' ∧ ((h.fitsB fr = false ∧ e = .returned (.tuple #[.agg ((⟨0, 0, 0, 0⟩ : Gc).cells 0), .int .i64 3])) ∨
    (h.fitsB fr = true ∧ seenM h.nmN h.nmAt fr = none ∧ e = .returned (.tuple #[.agg ((⟨0, 0, 0, 0⟩ : Gc).cells 0), .int .i64 2])) ∨
    (h.fitsB fr = true ∧ ∃ l, seenM h.nmN h.nmAt fr = some l ∧ e = .returned (.tuple #[.agg ((h.countM fr l).cells l.length), .int .i64 0])))
/-- The counts so far, in a box of the call's own. -/
structure RT (w1 wr : World) (bX : Nat) (x : Gc) (n : Nat) : Prop where
  base : Below w1.heap.size w1 wr
  box : Blk wr bX 72 (x.cells n)
  hB : w1.heap.size ≤ bX
theorem RT.below {w1 w w' : World} {bX n : Nat} {x : Gc} (T : RT w1 w bX x n) (hb : Below w.heap.size w w') : RT w1 w' bX x n := ⟨below_top T.base hb, T.box.below hb T.box.lt, T.hB⟩
theorem RT.put {w1 w : World} {bX n : Nat} {x : Gc} (T : RT w1 w bX x n) (y : Gc) : RT w1 (((((w.setCell ⟨bX, 0, none⟩ (.int .i64 (n : Nat))).setCell ⟨bX, 1, none⟩ (.int .i64 (y.words : Nat))).setCell ⟨bX, 2, none⟩ (.int .i64 (y.smalls : Nat))).setCell ⟨bX, 3, none⟩ (.int .i64 (y.edges : Nat))).setCell ⟨bX, 4, none⟩ (.int .i64 (y.deep : Nat))) bX y n :=
  ⟨below_setAll5 T.base T.hB _ _ _ _ _, T.box.setAll5 _ _ _ _ _, T.hB⟩
theorem RT.put1 {w1 w : World} {bX n : Nat} {x : Gc} (T : RT w1 w bX x n) (v : Nat) : RT w1 (w.setCell ⟨bX, 1, none⟩ (.int .i64 (v : Nat))) bX ⟨v, x.smalls, x.edges, x.deep⟩ n :=
  ⟨T.base.setCell (p := ⟨bX, 1, none⟩) T.hB _, T.box.set_ 1 _, T.hB⟩
theorem RT.put4 {w1 w : World} {bX n : Nat} {x : Gc} (T : RT w1 w bX x n) (v : Nat) : RT w1 (w.setCell ⟨bX, 4, none⟩ (.int .i64 (v : Nat))) bX ⟨x.words, x.smalls, x.edges, v⟩ n :=
  ⟨T.base.setCell (p := ⟨bX, 4, none⟩) T.hB _, T.box.set_ 4 _, T.hB⟩
theorem RT.rows {w1 w : World} {bX n b1 m : Nat} {x : Gc} {v : Value} {xs : List Value} (T : RT w1 w bX x n) (h : w.ownsRow b1 50 1 v m xs) (c0 c1 c2 c3 c4 : Value) : (((((w.setCell ⟨bX, 0, none⟩ c0).setCell ⟨bX, 1, none⟩ c1).setCell ⟨bX, 2, none⟩ c2).setCell ⟨bX, 3, none⟩ c3).setCell ⟨bX, 4, none⟩ c4).ownsRow b1 50 1 v m xs :=
  own_same h (fun k hk => by
    have hne : k ≠ bX := fun e => own_ne_blk h T.box (by decide) (by rw [← e]; exact hk)
    rw [Below.heap_setCell _ ⟨bX, 4, none⟩ _ k hne, Below.heap_setCell _ ⟨bX, 3, none⟩ _ k hne, Below.heap_setCell _ ⟨bX, 2, none⟩ _ k hne, Below.heap_setCell _ ⟨bX, 1, none⟩ _ k hne, Below.heap_setCell _ ⟨bX, 0, none⟩ _ k hne])
set_option maxRecDepth 100000 in
set_option maxHeartbeats 16000000 in
theorem rcountD_any {w : World} {p : HP} {h : HM} {ls : List Ob} (H : RAt w p h) (G : h.Good ls) (A : Option Addr) (n c : Nat) (fr : List Nat) (hn : n ≤ 10000000000000) (hr : Reads w w.heap.size 1 A n (u32s fr)) (h32 : ∀ x ∈ fr, x < 4294967296) :
    Calls Tryd.prog 26 #[ptr p.g, .slice A n c] w (CountQ h fr w) := by
  have f := G.fit
  have hh := G.laid.heads
  have hl : fr.length = n := by have := hr.1; rw [u32s_len] at this; omega
  have HWK := Lib.hid (fun (W' : World) (hb : Below w.heap.size w W') => rwalk_any (c := c) (H.below hb) G A n fr (by omega) ((hr.below hb).more hb.size) h32)
  have HL := Lib.hid hl; have HR := Lib.hid hr; have HX := Lib.hid h32; have HH := Lib.hid H
  have HB0 := Lib.hid ((Below.refl w.heap.size w).alloc (Nat.le_refl _) (.cells #[.int .i64 0, .int .i64 0, .int .i64 0, .int .i64 0, .int .i64 0] 72))
  have BD := Lib.hid (Blk.new w 72 #[.int .i64 0, .int .i64 0, .int .i64 0, .int .i64 0, .int .i64 0])
  clear hl hr h32 H
  unfold ptr at HWK ⊢
  go_enter Tryd.func26, Tryd.ntmps26
  go_wp2_with fail
  refine (HWK.out _ HB0.out).mono ?_
  rintro e w1 ⟨hb1, ⟨hf, rfl⟩ | ⟨hf, hs, rfl⟩ | ⟨hf, l, Al, cl, hs, hw, rfl, hml⟩⟩
  · have HB1 := Lib.hid (below_top HB0.out hb1)
    have BZn := BD.out.below hb1 BD.out.lt
    have d0 := BZn.cell 0
    have d1 := BZn.cell 1
    have d2 := BZn.cell 2
    have d3 := BZn.cell 3
    have d4 := BZn.cell 4
    have z0 := BZn.frozen 0
    have z1 := BZn.frozen 1
    have z2 := BZn.frozen 2
    have z3 := BZn.frozen 3
    have z4 := BZn.frozen 4
    have HZ5 := Lib.hid (BZn.setAll5 (.int .i64 (0)) (.int .i64 (0)) (.int .i64 (0)) (.int .i64 (0)) (.int .i64 (0)))
    have HB5 := Lib.hid (below_setAll5 (HB1.out) (g := w.heap.size) (Nat.le_refl _) (.int .i64 (0)) (.int .i64 (0)) (.int .i64 (0)) (.int .i64 (0)) (.int .i64 (0)))
    clear BZn
    go_wp2_with fail
    have f0 := HZ5.out.cell 0
    have f1 := HZ5.out.cell 1
    have f2 := HZ5.out.cell 2
    have f3 := HZ5.out.cell 3
    have f4 := HZ5.out.cell 4
    refine bodyPost_ret (v := .tuple #[.agg #[.int .i64 (0), .int .i64 (0), .int .i64 (0), .int .i64 (0), .int .i64 (0)], .int .i64 3]) (by simp [results, Tryd.results26, go_sem, f0, f1, f2, f3, f4]) rfl ?_
    exact ⟨HB5.out, .inl ⟨hf, rfl⟩⟩
  · have HB1 := Lib.hid (below_top HB0.out hb1)
    have BZn := BD.out.below hb1 BD.out.lt
    have d0 := BZn.cell 0
    have d1 := BZn.cell 1
    have d2 := BZn.cell 2
    have d3 := BZn.cell 3
    have d4 := BZn.cell 4
    have z0 := BZn.frozen 0
    have z1 := BZn.frozen 1
    have z2 := BZn.frozen 2
    have z3 := BZn.frozen 3
    have z4 := BZn.frozen 4
    have HZ5 := Lib.hid (BZn.setAll5 (.int .i64 (0)) (.int .i64 (0)) (.int .i64 (0)) (.int .i64 (0)) (.int .i64 (0)))
    have HB5 := Lib.hid (below_setAll5 (HB1.out) (g := w.heap.size) (Nat.le_refl _) (.int .i64 (0)) (.int .i64 (0)) (.int .i64 (0)) (.int .i64 (0)) (.int .i64 (0)))
    clear BZn
    go_wp2_with fail
    have f0 := HZ5.out.cell 0
    have f1 := HZ5.out.cell 1
    have f2 := HZ5.out.cell 2
    have f3 := HZ5.out.cell 3
    have f4 := HZ5.out.cell 4
    refine bodyPost_ret (v := .tuple #[.agg #[.int .i64 (0), .int .i64 (0), .int .i64 (0), .int .i64 (0), .int .i64 (0)], .int .i64 2]) (by simp [results, Tryd.results26, go_sem, f0, f1, f2, f3, f4]) rfl ?_
    exact ⟨HB5.out, .inr (.inl ⟨hf, hs, rfl⟩)⟩
  · have HLOW := Lib.hid (cntC_low f hh fr hw)
    obtain ⟨hl6, hnd, hisb, hdp⟩ := hw
    have HFS := Lib.hid (And.intro hf hs)
    have HB1 := Lib.hid (below_top HB0.out hb1)
    have HIS := Lib.hid hisb
    have HDP := Lib.hid hdp
    have HML := Lib.hid hml
    have HBD := Lib.hid (BD.out.below hb1 BD.out.lt)
    have HT0 := Lib.hid (show RT w1 (w1.alloc (.cells #[.int .i64 (l.length : Nat), .int .i64 0, .int .i64 0, .int .i64 0, .int .i64 0] 72)) w1.heap.size (notesF fr ⟨0, 0, 0, 0⟩ 0) l.length from ⟨(Below.refl _ _).alloc (Nat.le_refl _) _, Blk.new w1 _ _, Nat.le_refl _⟩)
    clear HWK hf hs hb1 hnd hisb hdp hml HB0 BD
    go_wp2_with fail
    generalize hbX : w1.heap.size = bX at HT0
    have HBX := Lib.hid hbX
    go_loopw [30] (fun j wr => ∃ k : Nat, k ≤ n ∧ j = .int .i64 k ∧ RT w1 wr bX (notesF fr ⟨0, 0, 0, 0⟩ k) l.length) (fun j _ => n - (intOf j).toNat)
    case atStart => exact ⟨0, by omega, rfl, HT0.out⟩
    case round =>
      clear HT0
      obtain ⟨k, hk, rfl, hT⟩ := hrel
      by_cases hlt : k < n
      · have hlt2 : (k : Int) < (n : Int) := by omega
        obtain ⟨ad, u0, rfl, -, hx, hcell⟩ := (HR.out.below (HB1.out.trans (hT.base.mono HB1.out.size))).at_ hlt
        rw [u32s_get (by rw [HL.out]; exact hlt)] at hx
        injection hx with hx
        subst hx
        have hmem : fr.getD k 0 ∈ fr := by
          rw [List.getD_eq_getElem?_getD, List.getElem?_eq_getElem (by rw [HL.out]; exact hlt)]
          exact List.getElem_mem _
        have ho := HX.out _ hmem
        obtain ⟨u1, u2, u3, u4⟩ := notesF_up fr ⟨0, 0, 0, 0⟩ k
        have HSN := Lib.hid (show notesF fr ⟨0, 0, 0, 0⟩ (k + 1) = noteM (notesF fr ⟨0, 0, 0, 0⟩ k) (fr.getD k 0) false from rfl)
        have HCT := Lib.hid (fun W' => rcounted_any W' (notesF fr ⟨0, 0, 0, 0⟩ k) l.length (fr.getD k 0) ho false (by dsimp only at u2; omega) (by dsimp only at u3; omega))
        have HT := Lib.hid hT
        have x0 := hT.box.cell 0
        have x1 := hT.box.cell 1
        have x2 := hT.box.cell 2
        have x3 := hT.box.cell 3
        have x4 := hT.box.cell 4
        clear hmem hT ho u1 u2 u3 u4
        generalize hxn : notesF fr ⟨0, 0, 0, 0⟩ (k + 1) = x' at *
        have HXN := Lib.hid hxn
        clear hxn
        generalize notesF fr ⟨0, 0, 0, 0⟩ k = x at *
        generalize fr.getD k 0 = y at *
        rw [← HSN.out] at HCT
        obtain ⟨xw, xs, xe, xd⟩ := x
        obtain ⟨yw, ys, ye, yd⟩ := x'
        unfold Gc.cells at HCT x0 x1 x2 x3 x4
        dsimp only at HCT x0 x1 x2 x3 x4
        subst hbX
        go_wp2_with fail
        refine (HCT.out _).mono ?_
        rintro e w4 ⟨rfl, hb4⟩
        have HT4 := Lib.hid (HT.out.below hb4)
        clear hb4 x0 x1 x2 x3 x4 hcell HT
        have HT5 := Lib.hid (HT4.out.put ⟨yw, ys, ye, yd⟩)
        dsimp only at HT5
        have BZn := HT4.out.box
        have d0 := BZn.cell 0
        have d1 := BZn.cell 1
        have d2 := BZn.cell 2
        have d3 := BZn.cell 3
        have d4 := BZn.cell 4
        have z0 := BZn.frozen 0
        have z1 := BZn.frozen 1
        have z2 := BZn.frozen 2
        have z3 := BZn.frozen 3
        have z4 := BZn.frozen 4
        unfold Gc.cells at d0 d1 d2 d3 d4
        dsimp only at d0 d1 d2 d3 d4
        clear BZn
        go_wp2_with fail
        go_roundw
        case rel => exact ⟨k + 1, by omega, by go_num, by rw [HXN.out]; exact HT5.out⟩
        case measure => simp [intOf]; omega
      · obtain rfl : k = n := by omega
        have HT1 := Lib.hid (show RT w1 wr bX (h.cntC l (notesF fr ⟨0, 0, 0, 0⟩ fr.length) 0) l.length from by rw [HL.out]; exact hT)
        clear hT hk hlt
        go_wp2_with fail
        go_loopw [40] (fun j wr => ∃ i : Nat, i ≤ l.length ∧ j = .int .i64 i ∧ RT w1 wr bX (h.cntC l (notesF fr ⟨0, 0, 0, 0⟩ fr.length) i) l.length) (fun j _ => l.length - (intOf j).toNat)
        case atStart => exact ⟨0, by omega, rfl, HT1.out⟩
        case round =>
          clear HT1
          obtain ⟨i, hi, rfl, hT⟩ := hrel
          obtain ⟨q1, q2, q3, q4⟩ := HLOW.out i hi
          have HT := Lib.hid hT
          by_cases hlt : i < l.length
          · have hlt2 : (i : Int) < (l.length : Int) := by omega
            obtain ⟨ad, rfl, -, m0, m1, m2, m3⟩ := (HML.out.below hT.base).load hlt
            have HIB := Lib.hid (HIS.out _ (oopsOf_mem hlt))
            have hd := HM.isB_hd hh HIB.out
            have ho32 : (l.getD i default).o < 4294967296 := by have h1 := HM.isB_lt HIB.out; have h2 := f.marks; have h3 := f.room; have h4 := f.hi; omega
            have hszx := hd_size_le f hd
            have hNle := nmN_le f _ hd
            have hdpn : (l.getD i default).deep ≤ 65537 := by
              rw [List.getD_eq_getElem?_getD, List.getElem?_eq_getElem hlt]
              exact HDP.out _ (List.getElem_mem _)
            have HHD := Lib.hid (fun (W' : World) (hb : Below w1.heap.size w1 W') => rheader_any (HH.out.below (HB1.out.trans (hb.mono HB1.out.size))) f _ ho32 hd)
            have HNM := Lib.hid (fun (W' : World) (hb : Below w1.heap.size w1 W') => rnames_any (HH.out.below (HB1.out.trans (hb.mono HB1.out.size))) f hh _ ho32 HIB.out)
            have HSTP := Lib.hid (show h.cntC l (notesF fr ⟨0, 0, 0, 0⟩ fr.length) (i + 1) = notesN (h.nmAt (l.getD i default).o) (h.ownC (h.cntC l (notesF fr ⟨0, 0, 0, 0⟩ fr.length) i) (l.getD i default)) (h.nmN (l.getD i default).o) from rfl)
            have HUP := Lib.hid (notesN_up (h.nmAt (l.getD i default).o) (h.ownC (h.cntC l (notesF fr ⟨0, 0, 0, 0⟩ fr.length) i) (l.getD i default)))
            have hREF := Lib.hid (fun k => HM.nmAt_lt f (l.getD i default).o k)
            unfold ptr at HHD HNM
            unfold NamesP at HNM
            unfold Hd.val at HHD
            unfold HM.ownC at HSTP HUP
            have x0 := hT.box.cell 0
            have x1 := hT.box.cell 1
            have x2 := hT.box.cell 2
            have x3 := hT.box.cell 3
            have x4 := hT.box.cell 4
            have hn13 : fr.length ≤ 10000000000000 := by rw [HL.out]; exact hn
            clear hT hi hd
            generalize h.cntC l (notesF fr ⟨0, 0, 0, 0⟩ fr.length) i = x at *
            generalize hxi : h.cntC l (notesF fr ⟨0, 0, 0, 0⟩ fr.length) (i + 1) = x' at *
            have HXI := Lib.hid hxi
            clear hxi
            generalize l.getD i default = nd at *
            obtain ⟨xo, xp, xf, xdp⟩ := nd
            obtain ⟨xw, xs, xe, xd⟩ := x
            dsimp only at *
            unfold Gc.cells at x0 x1 x2 x3 x4
            dsimp only at x0 x1 x2 x3 x4
            generalize hXX : h.hd (xo / 2) = X at *
            clear hXX
            have hab := (Below.refl wr.heap.size wr).alloc (Nat.le_refl _) (.cells #[.int .u32 (xo : Nat), .int .i64 xp, .int .i64 xf, .int .i64 (xdp : Nat)] 108)
            have BM := Lib.hid (Blk.new wr 108 #[.int .u32 (xo : Nat), .int .i64 xp, .int .i64 xf, .int .i64 (xdp : Nat)])
            have HT2 := Lib.hid (HT.out.below hab)
            clear hab x0 x1 x2 x3 x4 HT
            go_upto_region 13 with fail
            clear m0 m1 m2 m3
            generalize wr.heap.size = gM at *
            generalize wr.alloc (.cells #[.int .u32 (xo : Nat), .int .i64 xp, .int .i64 xf, .int .i64 (xdp : Nat)] 108) = w3 at *
            have x1 := HT2.out.box.cell 1
            have b0 := BM.out.cell 0
            have HHR := Lib.hid (fun (d : Nat) (os : Array Obj) => HHD.out _ (below_top HT2.out.base (below_regrown w3 d os)))
            have hfld := fld0
            unfold Gc.cells at x1
            dsimp only at x1
            replace x1 := cell_regrown x1
            replace b0 := cell_regrown b0
            have hws : IntKind.i64.wrap (3 + (X.size : Int)) = 3 + (X.size : Int) := IntWalk.i64_in _ (by omega)
            have hws2 : IntKind.i64.wrap ((xw : Int) + (3 + (X.size : Int))) = (xw : Int) + (3 + (X.size : Int)) := IntWalk.i64_in _ (by omega)
            refine wp_region_below_tail 10 (by kernel_rfl) (by kernel_rfl) ?_
            simp only [List.take_succ_cons, List.take_zero, List.drop_succ_cons, List.drop_zero]
            repeat (quiet_step ((go_at_call 39; exact Calls.regrown_of (HHR.out _ _))))
            refine wpQuiet_nil ?_
            intro wq hwq
            obtain ⟨⟨dq, osq⟩, hw''⟩ := hwq
            subst hw''
            have hbq := below_regrown w3 dq osq
            have HT3 := Lib.hid (HT2.out.below hbq)
            have BM3 := Lib.hid (BM.out.below hbq BM.out.lt)
            clear x1 b0 hfld HHR HT2 BM hbq
            generalize Go.Sort.grow (redrawn w3 dq) osq = w4 at *
            have d1 := HT3.out.box.cell 1
            have z1 := HT3.out.box.frozen 1
            unfold Gc.cells at d1
            dsimp only at d1
            have HT4 := Lib.hid (HT3.out.put1 (xw + (3 + X.size)))
            rw [show ((xw + (3 + X.size) : Nat) : Int) = (xw : Int) + (3 + (X.size : Int)) by omega] at HT4
            dsimp only at HT4
            go_upto_region 14 with fail
            have hne := blk_ne_blk BM3.out HT3.out.box (by decide)
            have HNE := Lib.hid hne
            have BM5 := Lib.hid (BM3.out.far (p := ⟨bX, 1, none⟩) hne (.int .i64 ((xw : Int) + (3 + (X.size : Int)))))
            clear d1 z1 hws hws2 HT3 BM3 hne
            generalize w4.setCell ⟨bX, 1, none⟩ (.int .i64 ((xw : Int) + (3 + (X.size : Int)))) = w5 at *
            have d4 := HT4.out.box.cell 4
            have z4 := HT4.out.box.frozen 4
            have b3 := BM5.out.cell 3
            unfold Gc.cells at d4
            dsimp only at d4
            go_upto_region 15 with fail
            rw [show (if xd < xdp then (xdp : Int) else (xd : Int)) = ((max xd xdp : Nat) : Int) by split <;> omega]
            have HT6 := Lib.hid (HT4.out.put4 (max xd xdp))
            have BM6 := Lib.hid (BM5.out.far (p := ⟨bX, 4, none⟩) HNE.out (.int .i64 ((max xd xdp : Nat) : Int)))
            dsimp only at HT6
            clear d4 z4 b3 HT4 BM5
            generalize w5.setCell ⟨bX, 4, none⟩ (.int .i64 ((max xd xdp : Nat) : Int)) = w6 at *
            have b0 := BM6.out.cell 0
            have HN6 := Lib.hid (HNM.out _ HT6.out.base)
            clear HNM HHD
            go_wp2_with fail
            refine HN6.out.mono ?_
            rintro e w7 ⟨vN, rfl, hownN, hb7⟩
            obtain ⟨AN, cN, rfl, -⟩ := own_slice hownN
            have HT7 := Lib.hid (HT6.out.below hb7)
            have HO7 := Lib.hid hownN
            clear hb7 hownN HN6 HT6 b0 BM6
            go_wp2_with fail
            go_loopw [65] (fun j wr3 => ∃ k : Nat, k ≤ h.nmN xo ∧ j = .int .i64 k ∧ RT w1 wr3 bX (notesN (h.nmAt xo) ⟨xw + (3 + X.size), xs, xe, max xd xdp⟩ k) l.length ∧ wr3.ownsRow w6.heap.size 50 1 (.slice AN (h.nmN xo) cN) (h.nmN xo) (u32s (namesL h xo (h.nmN xo)))) (fun j _ => h.nmN xo - (intOf j).toNat)
            case atStart => exact ⟨0, by omega, rfl, HT7.out, HO7.out⟩
            case round =>
              clear HT7 HO7
              obtain ⟨k, hk, rfl, hT, hown⟩ := hrel
              have HT := Lib.hid hT
              have HOW := Lib.hid hown
              by_cases hkl : k < h.nmN xo
              · have hkl2 : (k : Int) < (h.nmN xo : Int) := by omega
                obtain ⟨A4, c4, e4, hrd⟩ := own_slice hown
                injection e4 with e4 _ e5
                subst e4
                subst e5
                obtain ⟨adN, uN, rfl, -, hxN, kN⟩ := hrd.at_ hkl
                rw [u32s_get (by rw [namesL_len]; exact hkl), namesL_get hkl] at hxN
                injection hxN with hxN
                subst hxN
                have hy := hREF.out k
                obtain ⟨u1, u2, u3, u4⟩ := HUP.out k
                dsimp only at u2 u3
                have HCT := Lib.hid (fun W' => rcounted_any W' (notesN (h.nmAt xo) ⟨xw + (3 + X.size), xs, xe, max xd xdp⟩ k) l.length (h.nmAt xo k) hy (decide (k = 0)) (by omega) (by omega))
                have HSN := Lib.hid (show notesN (h.nmAt xo) ⟨xw + (3 + X.size), xs, xe, max xd xdp⟩ (k + 1) = noteM (notesN (h.nmAt xo) ⟨xw + (3 + X.size), xs, xe, max xd xdp⟩ k) (h.nmAt xo k) (decide (k = 0)) from rfl)
                have x0 := hT.box.cell 0
                have x1 := hT.box.cell 1
                have x2 := hT.box.cell 2
                have x3 := hT.box.cell 3
                have x4 := hT.box.cell 4
                rw [← HSN.out] at HCT
                clear hT hown hrd hy u1 u2 u3 u4
                generalize hxn : notesN (h.nmAt xo) ⟨xw + (3 + X.size), xs, xe, max xd xdp⟩ (k + 1) = y' at HCT
                have HXN := Lib.hid hxn
                clear hxn HSN
                generalize notesN (h.nmAt xo) ⟨xw + (3 + X.size), xs, xe, max xd xdp⟩ k = y at *
                generalize h.nmAt xo k = ov at *
                obtain ⟨yw, ys, ye, yd⟩ := y
                obtain ⟨tw, ts, te, td⟩ := y'
                unfold Gc.cells at HCT x0 x1 x2 x3 x4
                dsimp only at HCT x0 x1 x2 x3 x4
                by_cases hk0 : k = 0
                · have e0 : ((k : Int) == 0) = true := by simp [hk0]
                  have HCT := Lib.hid (fun W' => by have := HCT.out W'; rw [show decide (k = 0) = true by simp [hk0]] at this; exact this)
                  clear hk0
                  go_wp2_with fail
                  refine (HCT.out _).mono ?_
                  rintro e w8 ⟨rfl, hb8⟩
                  have HT8 := Lib.hid (HT.out.below hb8)
                  have HO8 := Lib.hid (own_same HOW.out (fun k hk => hb8.block k (HOW.out.lt k hk).2))
                  clear hb8 x0 x1 x2 x3 x4 kN HT HOW
                  have HT9 := Lib.hid (HT8.out.put ⟨tw, ts, te, td⟩)
                  have HO9 := Lib.hid (HT8.out.rows HO8.out (.int .i64 (l.length : Nat)) (.int .i64 (tw : Nat)) (.int .i64 (ts : Nat)) (.int .i64 (te : Nat)) (.int .i64 (td : Nat)))
                  dsimp only at HT9
                  have BZn := HT8.out.box
                  have d0 := BZn.cell 0
                  have d1 := BZn.cell 1
                  have d2 := BZn.cell 2
                  have d3 := BZn.cell 3
                  have d4 := BZn.cell 4
                  have z0 := BZn.frozen 0
                  have z1 := BZn.frozen 1
                  have z2 := BZn.frozen 2
                  have z3 := BZn.frozen 3
                  have z4 := BZn.frozen 4
                  unfold Gc.cells at d0 d1 d2 d3 d4
                  dsimp only at d0 d1 d2 d3 d4
                  clear BZn HT8 HO8
                  go_wp2_with fail
                  go_roundw
                  case rel => exact ⟨k + 1, by omega, by go_num, by rw [HXN.out]; exact HT9.out, HO9.out⟩
                  case measure => simp [intOf]; omega
                · have e0 : ((k : Int) == 0) = false := by simp; omega
                  have HCT := Lib.hid (fun W' => by have := HCT.out W'; rw [show decide (k = 0) = false by simp [hk0]] at this; exact this)
                  clear hk0
                  go_wp2_with fail
                  refine (HCT.out _).mono ?_
                  rintro e w8 ⟨rfl, hb8⟩
                  have HT8 := Lib.hid (HT.out.below hb8)
                  have HO8 := Lib.hid (own_same HOW.out (fun k hk => hb8.block k (HOW.out.lt k hk).2))
                  clear hb8 x0 x1 x2 x3 x4 kN HT HOW
                  have HT9 := Lib.hid (HT8.out.put ⟨tw, ts, te, td⟩)
                  have HO9 := Lib.hid (HT8.out.rows HO8.out (.int .i64 (l.length : Nat)) (.int .i64 (tw : Nat)) (.int .i64 (ts : Nat)) (.int .i64 (te : Nat)) (.int .i64 (td : Nat)))
                  dsimp only at HT9
                  have BZn := HT8.out.box
                  have d0 := BZn.cell 0
                  have d1 := BZn.cell 1
                  have d2 := BZn.cell 2
                  have d3 := BZn.cell 3
                  have d4 := BZn.cell 4
                  have z0 := BZn.frozen 0
                  have z1 := BZn.frozen 1
                  have z2 := BZn.frozen 2
                  have z3 := BZn.frozen 3
                  have z4 := BZn.frozen 4
                  unfold Gc.cells at d0 d1 d2 d3 d4
                  dsimp only at d0 d1 d2 d3 d4
                  clear BZn HT8 HO8
                  go_wp2_with fail
                  go_roundw
                  case rel => exact ⟨k + 1, by omega, by go_num, by rw [HXN.out]; exact HT9.out, HO9.out⟩
                  case measure => simp [intOf]; omega
              · obtain rfl : k = h.nmN xo := by omega
                clear hT hown hkl hk HOW
                rw [← HSTP.out] at HT
                go_wp2_with fail
                go_roundw
                case rel => exact ⟨i + 1, by omega, by go_num, by rw [HXI.out]; exact HT.out⟩
                case measure => simp [intOf]; omega
          · obtain rfl : i = l.length := by omega
            have HCM := Lib.hid (show h.countM fr l = h.cntC l (notesF fr ⟨0, 0, 0, 0⟩ fr.length) l.length from rfl)
            have x0 := hT.box.cell 0
            have x1 := hT.box.cell 1
            have x2 := hT.box.cell 2
            have x3 := hT.box.cell 3
            have x4 := hT.box.cell 4
            have HBT := Lib.hid (HB1.out.trans (hT.base.mono HB1.out.size))
            clear hT hlt hi
            generalize h.cntC l (notesF fr ⟨0, 0, 0, 0⟩ fr.length) l.length = x at *
            obtain ⟨xw, xs, xe, xd⟩ := x
            unfold Gc.cells at x0 x1 x2 x3 x4
            dsimp only at x0 x1 x2 x3 x4
            have BZn := HBD.out.below HT.out.base HBD.out.lt
            have d0 := BZn.cell 0
            have d1 := BZn.cell 1
            have d2 := BZn.cell 2
            have d3 := BZn.cell 3
            have d4 := BZn.cell 4
            have z0 := BZn.frozen 0
            have z1 := BZn.frozen 1
            have z2 := BZn.frozen 2
            have z3 := BZn.frozen 3
            have z4 := BZn.frozen 4
            have HZ5 := Lib.hid (BZn.setAll5 (.int .i64 ((l.length : Int))) (.int .i64 ((xw : Int))) (.int .i64 ((xs : Int))) (.int .i64 ((xe : Int))) (.int .i64 ((xd : Int))))
            have HB5 := Lib.hid (below_setAll5 (HBT.out) (g := w.heap.size) (Nat.le_refl _) (.int .i64 ((l.length : Int))) (.int .i64 ((xw : Int))) (.int .i64 ((xs : Int))) (.int .i64 ((xe : Int))) (.int .i64 ((xd : Int))))
            clear BZn
            go_wp2_with fail
            have f0 := HZ5.out.cell 0
            have f1 := HZ5.out.cell 1
            have f2 := HZ5.out.cell 2
            have f3 := HZ5.out.cell 3
            have f4 := HZ5.out.cell 4
            refine bodyPost_ret (v := .tuple #[.agg #[.int .i64 ((l.length : Int)), .int .i64 ((xw : Int)), .int .i64 ((xs : Int)), .int .i64 ((xe : Int)), .int .i64 ((xd : Int))], .int .i64 0]) (by simp [results, Tryd.results26, go_sem, f0, f1, f2, f3, f4]) rfl ?_
            exact ⟨HB5.out, .inr (.inr ⟨HFS.out.1, l, HFS.out.2, by rw [HCM.out]; rfl⟩)⟩
end Go.Proofs.YtpajpdjjpgbklaaDoor
