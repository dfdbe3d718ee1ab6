/- Count: a graph's counts. -/
import Derived.Test.YtpajpdjjpgbklaaDoorJDiffW
import Derived.Test.YtpajpdjjpgbklaaDoorJRCounted
import Derived.Laws.EntriesVeiled
set_option linter.unusedVariables false
set_option linter.unusedSimpArgs false
namespace Go.Proofs.YtpajpdjjpgbklaaDoor
open Go.RowKit Go.Maps Go.Sort
attribute [local go_sem] Oper.semAt_some

def notesP (nA : Nat → Nat) (x : Gc) (pre : List Nat) : Gc := pre.foldl (fun a k => noteM a (nA k) (decide (k = 0))) x
theorem notesP_snoc (nA : Nat → Nat) (x : Gc) (pre : List Nat) (k : Nat) : notesP nA x (pre ++ [k]) = noteM (notesP nA x pre) (nA k) (decide (k = 0)) := by simp [notesP, List.foldl_append]
theorem notesP_range (nA : Nat → Nat) (x : Gc) : ∀ n, notesP nA x (List.range n) = notesN nA x n
  | 0 => rfl
  | n + 1 => by rw [List.range_succ, notesP_snoc, notesP_range nA x n]; rfl
theorem notesP_up (nA : Nat → Nat) : ∀ (pre : List Nat) (x : Gc), x.Up (notesP nA x pre) pre.length
  | [], x => ⟨rfl, Nat.le_refl _, Nat.le_refl _, rfl⟩
  | k :: pre, x => by
    have := (noteM_up x (nA k) (decide (k = 0))).trans (notesP_up nA pre _)
    rw [Nat.add_comm] at this
    exact this
/-- The frame of the loop over objects: what it writes in its rounds is g's. -/
def frameCnt (pg w0 gG bX : Nat) (A : Option Addr) (k c : Nat) (Am : Option Addr) (ln cm : Nat) (g : Nat → Value) (iz : Int) : Array Value :=
  #[.pointer (some ⟨pg, 0, none⟩), .slice A k c, undef, undef, .pointer (some ⟨w0, 0, none⟩), .int .i64 0, .pointer (some ⟨gG, 0, none⟩), .int .i64 0, .pointer (some ⟨bX, 0, none⟩), .pointer (some ⟨bX + 1, 0, none⟩), undef, g 11, g 12, g 13, g 14, g 15, g 16, g 17, .tuple #[.pointer (some ⟨gG, 0, none⟩), .int .i64 0], .pointer (some ⟨pg, 0, none⟩), .slice A k c, .tuple #[.pointer (some ⟨gG, 0, none⟩), .int .i64 0], .pointer (some ⟨gG, 0, none⟩), .int .i64 0, .int .i64 0, .bool false, undef, undef, .func (.func 60) #[] #[.pointer (some ⟨bX, 0, none⟩)], .slice A k c, .int .i64 (k : Int), .int .i64 (k : Int), .bool false, g 33, g 34, g 35, g 36, g 37, g 38, .pointer (some ⟨gG, 0, none⟩), .pointer (some ⟨gG, 0, none⟩), .pointer (some ⟨gG, 1, none⟩), .slice Am ln cm, .int .i64 (ln : Int), .int .i64 iz, g 45, g 46, g 47, g 48, g 49, g 50, g 51, g 52, g 53, g 54, g 55, g 56, g 57, g 58, g 59, g 60, g 61, g 62, g 63, g 64, g 65, g 66, g 67, g 68, g 69, g 70, g 71, g 72, g 73, g 74, g 75, g 76, g 77, g 78, g 79, g 80, g 81, g 82, g 83, g 84, g 85, g 86, g 87, g 88]
/-- The frame of the loop over names. -/
def frameCntB (bX v : Nat) (fz : Int) (g : Nat → Value) : Array Value :=
  #[g 0, g 1, g 2, g 3, g 4, g 5, g 6, g 7, g 8, .pointer (some ⟨bX + 1, 0, none⟩), g 10, g 11, g 12, g 13, g 14, g 15, .int .i64 fz, .int .u32 (v : Int), g 18, g 19, g 20, g 21, g 22, g 23, g 24, g 25, g 26, g 27, g 28, g 29, g 30, g 31, g 32, g 33, g 34, g 35, g 36, g 37, g 38, g 39, g 40, g 41, g 42, g 43, g 44, g 45, g 46, g 47, g 48, g 49, g 50, g 51, g 52, g 53, g 54, g 55, g 56, g 57, g 58, g 59, g 60, g 61, g 62, g 63, g 64, g 65, g 66, g 67, g 68, g 69, g 70, g 71, g 72, g 73, g 74, g 75, g 76, g 77, g 78, g 79, g 80, g 81, g 82, g 83, g 84, g 85, g 86, g 87, g 88]
set_option maxRecDepth 100000 in
set_option maxHeartbeats 16000000 in
theorem countC_any {w : World} {p : HP} {h : HM} {ls : List Ob} (H : HAt w p h) (G : h.Good ls) (hh : h.Heads) (hs : Spares w) (A : Option Addr) (n c : Nat) (fr : List Nat) (hn : n ≤ 10000000000000) (hr : Reads w w.heap.size 1 A n (u32s fr)) (h32 : ∀ x ∈ fr, x < 4294967296) :
    Calls Tryd.prog 25 #[ptr p.g, .slice A n c] w (CountQ h fr w) := by
  have f := G.fit
  have hl : fr.length = n := by have := hr.1; rw [u32s_len] at this; omega
  have HB0 := Lib.hid ((Below.refl w.heap.size w).alloc (Nat.le_refl _) (.cells #[.int .i64 0, .int .i64 0, .int .i64 0, .int .i64 0, .int .i64 0] 72))
  have BD := Lib.hid (Blk.new w 72 #[.int .i64 0, .int .i64 0, .int .i64 0, .int .i64 0, .int .i64 0])
  have HSN := Lib.hid (fun (W' : World) (hb : Below w.heap.size w W') => seen_any (c := c) (H.below hb) G hh (hs.below hb) A n fr (by omega) ((hr.below hb).more hb.size) h32)
  have HL := Lib.hid hl; have HR := Lib.hid hr; have HX := Lib.hid h32; have HH := Lib.hid H
  clear hl hr h32 H
  refine (callsIn_wide (n := 6)).1 ?_
  refine callsIn_of_wp_marks Tryd.func25 rfl trivial ?_ rfl
  simp only [Tryd.ntmps25, List.size_toArray, List.length_cons, List.length_nil, Nat.reduceAdd, Nat.reduceSub, Array.replicate_succ, Array.replicate_zero, List.push_toArray, List.append_toArray, List.nil_append, List.cons_append]
  unfold ptr at HSN ⊢
  gi_wp2_with fail
  refine ⟨trivial, (callsIn_wide.2 (HSN.out _ HB0.out)).mono ?_⟩
  rintro e w1 ⟨hb1, ⟨hf, rfl⟩ | ⟨hf, hm, rfl⟩ | ⟨hf, l, gG, mB, vm, vd, hm, hw, rfl, G1⟩⟩
  · have HB1 := Lib.hid (below_top HB0.out hb1)
    have BZn := BD.out.below hb1 BD.out.lt
    have d0 := BZn.cell 0
    have d1 := BZn.cell 1
    have d2 := BZn.cell 2
    have d3 := BZn.cell 3
    have d4 := BZn.cell 4
    have z0 := BZn.frozen 0
    have z1 := BZn.frozen 1
    have z2 := BZn.frozen 2
    have z3 := BZn.frozen 3
    have z4 := BZn.frozen 4
    have HZ5 := Lib.hid (BZn.setAll5 (.int .i64 0) (.int .i64 0) (.int .i64 0) (.int .i64 0) (.int .i64 0))
    have HB5 := Lib.hid (below_setAll5 (HB1.out) (g := w.heap.size) (Nat.le_refl _) (.int .i64 0) (.int .i64 0) (.int .i64 0) (.int .i64 0) (.int .i64 0))
    clear BZn
    gi_wp2_with fail
    have f0 := HZ5.out.cell 0
    have f1 := HZ5.out.cell 1
    have f2 := HZ5.out.cell 2
    have f3 := HZ5.out.cell 3
    have f4 := HZ5.out.cell 4
    refine ⟨.tuple #[.agg #[.int .i64 0, .int .i64 0, .int .i64 0, .int .i64 0, .int .i64 0], .int .i64 3], by simp [results, Tryd.results25, go_sem, f0, f1, f2, f3, f4], ?_⟩
    exact ⟨HB5.out, .inl ⟨hf, rfl⟩⟩
  · have HB1 := Lib.hid (below_top HB0.out hb1)
    have BZn := BD.out.below hb1 BD.out.lt
    have d0 := BZn.cell 0
    have d1 := BZn.cell 1
    have d2 := BZn.cell 2
    have d3 := BZn.cell 3
    have d4 := BZn.cell 4
    have z0 := BZn.frozen 0
    have z1 := BZn.frozen 1
    have z2 := BZn.frozen 2
    have z3 := BZn.frozen 3
    have z4 := BZn.frozen 4
    have HZ5 := Lib.hid (BZn.setAll5 (.int .i64 0) (.int .i64 0) (.int .i64 0) (.int .i64 0) (.int .i64 0))
    have HB5 := Lib.hid (below_setAll5 (HB1.out) (g := w.heap.size) (Nat.le_refl _) (.int .i64 0) (.int .i64 0) (.int .i64 0) (.int .i64 0) (.int .i64 0))
    clear BZn
    gi_wp2_with fail
    have f0 := HZ5.out.cell 0
    have f1 := HZ5.out.cell 1
    have f2 := HZ5.out.cell 2
    have f3 := HZ5.out.cell 3
    have f4 := HZ5.out.cell 4
    refine ⟨.tuple #[.agg #[.int .i64 0, .int .i64 0, .int .i64 0, .int .i64 0, .int .i64 0], .int .i64 2], by simp [results, Tryd.results25, go_sem, f0, f1, f2, f3, f4], ?_⟩
    exact ⟨HB5.out, .inr (.inl ⟨hf, hm, rfl⟩)⟩
  · have HLOW := Lib.hid (cntC_low f hh fr hw)
    have HB1 := Lib.hid (below_top HB0.out hb1)
    have HW := Lib.hid hw
    have HFS := Lib.hid (And.intro hf hm)
    have hba := ((Below.refl w1.heap.size w1).alloc (Nat.le_refl _) (.cells #[.int .i64 0, .int .i64 0, .int .i64 0, .int .i64 0, .int .i64 0] 72)).alloc (by simp) (.cells #[noteFn w1.heap.size] 131)
    have HC0 := Lib.hid (show CtSt w gG mB w1.heap.size (w1.heap.size + 1) (.pointer (some ⟨p.g, 0, none⟩)) vm vd l (notesF fr ⟨0, 0, 0, 0⟩ 0) 0 ((w1.alloc (.cells #[.int .i64 0, .int .i64 0, .int .i64 0, .int .i64 0, .int .i64 0] 72)).alloc (.cells #[noteFn w1.heap.size] 131)) from by
      have G2 : GAt w1 w.heap.size gG mB (.pointer (some ⟨p.g, 0, none⟩)) vm vd l := ⟨G1.box, own_less G1.met (by simp), own_less G1.deep (by simp), G1.num, by have := G1.hg; simp at this; omega, by have := G1.hm; simp at this; omega, HB1.out.size⟩
      refine ⟨HB1.out.trans (hba.mono HB1.out.size), G2.below hba, (Blk.new w1 _ _).alloc _, ?_, (BD.out.below hb1 BD.out.lt).below hba (BD.out.below hb1 BD.out.lt).lt, (BD.out.below hb1 BD.out.lt).lt⟩
      have := Blk.new (w1.alloc (.cells #[.int .i64 0, .int .i64 0, .int .i64 0, .int .i64 0, .int .i64 0] 72)) 131 #[noteFn w1.heap.size]
      rw [World.size_alloc] at this
      exact this)
    clear HSN G1 hb1 hba hf hm hw HB0 BD
    unfold noteFn at HC0
    gi_wp2_with fail
    generalize hbX : w1.heap.size = bX at *
    clear hbX
    generalize (w1.alloc (.cells #[.int .i64 0, .int .i64 0, .int .i64 0, .int .i64 0, .int .i64 0] 72)).alloc (.cells #[.func (.func 60) #[] #[.pointer (some ⟨bX, 0, none⟩)]] 131) = w2 at *
    gi_loopw [31] (fun i wr => ∃ k : Nat, k ≤ n ∧ i = .int .i64 k ∧ CtSt w gG mB bX (bX + 1) (.pointer (some ⟨p.g, 0, none⟩)) vm vd l (notesF fr ⟨0, 0, 0, 0⟩ k) 0 wr) (fun i _ => n - (intOf i).toNat)
    case atStart => exact ⟨0, by omega, rfl, HC0.out⟩
    case round =>
      clear HC0
      obtain ⟨k, hk, rfl, C⟩ := hrel
      by_cases hlt : k < n
      · have hlt2 : (k : Int) < (n : Int) := by omega
        obtain ⟨ad, u0, rfl, hblk, hx, hcell⟩ := (HR.out.below C.base).at_ hlt
        rw [u32s_get (by rw [HL.out]; exact hlt)] at hx
        injection hx with hx
        subst hx
        have hmem : fr.getD k 0 ∈ fr := by
          rw [List.getD_eq_getElem?_getD, List.getElem?_eq_getElem (by rw [HL.out]; exact hlt)]
          exact List.getElem_mem _
        have ho := HX.out _ hmem
        obtain ⟨u1, u2, u3, u4⟩ := notesF_up fr ⟨0, 0, 0, 0⟩ k
        dsimp only at u2 u3
        have HN := Lib.hid (note_any C.bx (fr.getD k 0) ho false (by omega) (by omega))
        have HC := Lib.hid C
        have k1 := C.bf.cell 0
        unfold noteFn at k1
        rw [show noteM (notesF fr ⟨0, 0, 0, 0⟩ k) (fr.getD k 0) false = notesF fr ⟨0, 0, 0, 0⟩ (k + 1) from rfl] at HN
        clear hmem C ho u1 u2 u3 u4
        generalize fr.getD k 0 = y at *
        gi_wp2_with fail
        refine ⟨trivial, (callsIn_wide.2 HN.out).mono ?_⟩
        rintro e w4 ⟨rfl, b4, s4⟩
        have HC4 := Lib.hid (HC.out.only s4 b4)
        clear b4 s4 HC HN k1 hcell
        gi_wp2_with fail
        go_roundw
        case rel => exact ⟨k + 1, by omega, by go_num, HC4.out⟩
        case measure => simp [intOf]; omega
      · obtain rfl : k = n := by omega
        have HC := Lib.hid C
        obtain ⟨Am, cm, rfl, -⟩ := own_slice C.graph.met
        have k2 := C.graph.box.cell 1
        clear C hk hlt
        obtain ⟨Ad, cd, rfl, -⟩ := own_slice HC.out.graph.deep
        gi_wp2_with fail
        refine wpIn_loop_n (fun j a W => ∃ (i : Nat) (iz : Int) (ds : List Deferred), iz = (i : Int) ∧ a = { tmps := frameCnt p.g w.heap.size gG bX A k c Am l.length cm (fun n => a.tmps.toList.getD n undef) iz, defers := ds } ∧ j = l.length - i ∧ i ≤ l.length ∧ CtSt w gG mB bX (bX + 1) (.pointer (some ⟨p.g, 0, none⟩)) (.slice Am l.length cm) (.slice Ad l.length cd) l (h.cntC l (notesF fr ⟨0, 0, 0, 0⟩ fr.length) i) i W ∧ Marks w.heap.size ds W) l.length ?start ?round
        case start =>
          refine ⟨0, 0, [], rfl, rfl, rfl, Nat.zero_le _, ?_, Marks.nil _ _⟩
          have := HC.out
          rw [← HL.out] at this
          exact this
        case round =>
          clear HC k2
          rintro j a W ⟨i, iz, ds, hiz, ha, hj, hil, C, MK⟩
          subst hiz
          generalize (fun n => a.tmps.toList.getD n undef) = g at ha
          unfold frameCnt at ha
          subst ha
          have HJ := Lib.hid hj
          have hl16 : l.length ≤ 65536 := HW.out.1
          have HC := Lib.hid C
          have HMK := Lib.hid MK
          have hrm := Lib.hid (own_readsA C.graph.met)
          obtain ⟨q1, q2, q3, q4⟩ := HLOW.out i hil
          have hn13 : fr.length ≤ 10000000000000 := by rw [HL.out]; exact hn
          clear C MK hj
          by_cases hlt : i < l.length
          · have hd : decide ((i : Int) < (l.length : Int)) = true := by simp; omega
            have HLT := Lib.hid hlt
            obtain ⟨ad, u0, rfl, _, hx, hcell⟩ := hrm.out.at_ hlt
            rw [u32s_get (by rw [oopsOf_len]; exact hlt), oopsOf_getD hlt] at hx
            injection hx with hx
            subst hx
            have HO := Lib.hid (HW.out.2.2.1 _ (oopsOf_mem hlt))
            have hdpn : (l.getD i default).deep ≤ 65537 := by
              rw [List.getD_eq_getElem?_getD, List.getElem?_eq_getElem hlt]
              exact HW.out.2.2.2 _ (List.getElem_mem _)
            have HSTP := Lib.hid (show h.cntC l (notesF fr ⟨0, 0, 0, 0⟩ fr.length) (i + 1) = notesN (h.nmAt (l.getD i default).o) (h.ownC (h.cntC l (notesF fr ⟨0, 0, 0, 0⟩ fr.length) i) (l.getD i default)) (h.nmN (l.getD i default).o) from rfl)
            have HUP := Lib.hid (notesN_up (h.nmAt (l.getD i default).o) (h.ownC (h.cntC l (notesF fr ⟨0, 0, 0, 0⟩ fr.length) i) (l.getD i default)))
            unfold HM.ownC at HSTP HUP
            have HDG := Lib.hid (show (l.getD i default).deep = (deepsOf l).getD i 0 from (deepsOf_getD hlt).symm)
            generalize hxi : h.cntC l (notesF fr ⟨0, 0, 0, 0⟩ fr.length) (i + 1) = x' at *
            have HXI := Lib.hid hxi
            clear hxi
            generalize h.cntC l (notesF fr ⟨0, 0, 0, 0⟩ fr.length) i = x at *
            generalize (l.getD i default).o = o at *
            generalize (l.getD i default).deep = dp at *
            have ho32 : o < 4294967296 := by
              have h1 := HM.isB_lt HO.out
              have h2 := f.marks
              have h3 := f.room
              have h4 := f.hi
              omega
            have hszx := hd_size_le f (HM.isB_hd hh HO.out)
            have HHD := Lib.hid (Header_any (HH.out.below HC.out.base) f hh (hs.below HC.out.base) o ho32)
            rw [show h.headerV o = .tuple #[.agg #[.int .i64 (h.hd (o / 2)).size, .int .i64 (h.hd (o / 2)).fmt, .int .i64 (h.hd (o / 2)).spare, .int .u32 (h.hd (o / 2)).cls, .int .u32 (h.hd (o / 2)).ser], .int .i64 0] by unfold HM.headerV; rw [HO.out]; rfl] at HHD
            unfold ptr at HHD
            generalize hX : h.hd (o / 2) = X at *
            clear hX
            obtain ⟨xw, xs, xe, xd⟩ := x
            dsimp only at *
            gi_wp2_with fail
            refine ⟨trivial, (callsIn_wide.2 HHD.out).mono ?_⟩
            rintro e W1 ⟨rfl, hb1⟩
            have hbX : Below W.heap.size W (W1.alloc (.cells #[.int .i64 X.size, .int .i64 X.fmt, .int .i64 X.spare, .int .u32 X.cls, .int .u32 X.ser] 55)) := hb1.alloc hb1.size _
            have HC2 := Lib.hid (HC.out.below hbX)
            have HMK2 := Lib.hid (HMK.out.below hbX)
            have HBX2 := Lib.hid (Blk.new W1 55 #[.int .i64 X.size, .int .i64 X.fmt, .int .i64 X.spare, .int .u32 X.cls, .int .u32 X.ser])
            clear HC HMK hbX hb1 hcell hrm HHD
            gi_upto_region 15 with fail
            generalize W1.heap.size = gX at *
            generalize W1.alloc (.cells #[.int .i64 X.size, .int .i64 X.fmt, .int .i64 X.spare, .int .u32 X.cls, .int .u32 X.ser] 55) = W2 at *
            have y0 := HC2.out.bx.cell 0
            have p0 := HC2.out.bx.frozen 0
            unfold Gc.cells at y0
            dsimp only at y0
            gi_upto_region 16 with fail
            have HC3 := Lib.hid (show CtSt w gG mB bX (bX + 1) (.pointer (some ⟨p.g, 0, none⟩)) (.slice (some ad) l.length cm) (.slice Ad l.length cd) l ⟨xw, xs, xe, xd⟩ (i + 1) (W2.setCell ⟨bX, 0, none⟩ (.int .i64 ((i : Int) + 1))) from HC2.out.only (OnlyB.set _ _ _ _) (HC2.out.bx.set_ 0 _))
            have HMK3 := Lib.hid ((OnlyB.set bX 0 W2 (.int .i64 ((i : Int) + 1))).marks HC2.out.bx HMK2.out)
            have HBX3 := Lib.hid ((OnlyB.set bX 0 W2 (.int .i64 ((i : Int) + 1))).blk HC2.out.bx HBX2.out (by decide))
            clear y0 p0 HC2 HMK2 HBX2
            generalize W2.setCell ⟨bX, 0, none⟩ (.int .i64 ((i : Int) + 1)) = W3 at *
            have y1 := HC3.out.bx.cell 1
            have p1 := HC3.out.bx.frozen 1
            have s0 := HBX3.out.cell 0
            unfold Gc.cells at y1
            dsimp only at y1
            gi_upto_region 17 with fail
            have HC4 := Lib.hid (show CtSt w gG mB bX (bX + 1) (.pointer (some ⟨p.g, 0, none⟩)) (.slice (some ad) l.length cm) (.slice Ad l.length cd) l ⟨xw + (3 + X.size), xs, xe, xd⟩ (i + 1) (W3.setCell ⟨bX, 1, none⟩ (.int .i64 ((xw + (3 + X.size) : Nat) : Int))) from HC3.out.only (OnlyB.set _ _ _ _) (HC3.out.bx.set_ 1 _))
            have HMK4 := Lib.hid ((OnlyB.set bX 1 W3 (.int .i64 ((xw + (3 + X.size) : Nat) : Int))).marks HC3.out.bx HMK3.out)
            have HBX4 := Lib.hid ((OnlyB.set bX 1 W3 (.int .i64 ((xw + (3 + X.size) : Nat) : Int))).blk HC3.out.bx HBX3.out (by decide))
            rw [show ((xw + (3 + X.size) : Nat) : Int) = (xw : Int) + (3 + (X.size : Int)) by omega] at HC4 HMK4 HBX4
            clear y1 p1 s0 HC3 HMK3 HBX3
            generalize W3.setCell ⟨bX, 1, none⟩ (.int .i64 ((xw : Int) + (3 + (X.size : Int)))) = W4 at *
            gi_cut [] from 66 (fun W' => ∃ adD', adD' = Ad ∧ CtSt w gG mB bX (bX + 1) (.pointer (some ⟨p.g, 0, none⟩)) (.slice (some ad) l.length cm) (.slice adD' l.length cd) l ⟨xw + (3 + X.size), xs, xe, max xd dp⟩ (i + 1) W' ∧ Marks w.heap.size ds W')
            case first =>
              have y4 := HC4.out.bx.cell 4
              unfold Gc.cells at y4
              dsimp only at y4
              have g3 := HC4.out.graph.box.cell 3
              have hrd := own_readsA HC4.out.graph.deep
              obtain ⟨adD, uD, rfl, -, hxD, kD⟩ := hrd.at_ HLT.out
              rw [ints_get' (by simp [deepsOf]; exact HLT.out), ← HDG.out] at hxD
              injection hxD with hxD
              subst hxD
              have hltd : (i : Int) < (l.length : Int) := by omega
              clear hrd
              replace y4 := cell_regrown y4
              replace g3 := cell_regrown g3
              replace kD := cell_regrown kD
              refine wpIn_wide.2 ?_
              refine wp_region_below_tail 11 (by kernel_rfl) (by kernel_rfl) ?_
              simp only [List.take_succ_cons, List.take_zero, List.drop_succ_cons, List.drop_zero]
              repeat (quiet_step (fail))
              refine wpQuiet_nil ?_
              intro wq hwq
              obtain ⟨⟨dq, osq⟩, hw''⟩ := hwq
              subst hw''
              have hbq := below_regrown W4 dq osq
              have HC5 := Lib.hid (HC4.out.below hbq)
              have HMK5 := Lib.hid (HMK4.out.below hbq)
              clear y4 g3 kD hbq HC4 HMK4 HBX4
              generalize grow (redrawn W4 dq) osq = W5 at *
              have p4 := HC5.out.bx.frozen 4
              have y4 := HC5.out.bx.cell 4
              unfold Gc.cells at y4
              dsimp only at y4
              have HC6 := Lib.hid (show CtSt w gG mB bX (bX + 1) (.pointer (some ⟨p.g, 0, none⟩)) (.slice (some ad) l.length cm) (.slice (some adD) l.length cd) l ⟨xw + (3 + X.size), xs, xe, max xd dp⟩ (i + 1) (W5.setCell ⟨bX, 4, none⟩ (.int .i64 ((max xd dp : Nat) : Int))) from HC5.out.only (OnlyB.set _ _ _ _) (HC5.out.bx.set_ 4 _))
              have HMK6 := Lib.hid ((OnlyB.set bX 4 W5 (.int .i64 ((max xd dp : Nat) : Int))).marks HC5.out.bx HMK5.out)
              have hmx : (if xd < dp then (dp : Int) else (xd : Int)) = ((max xd dp : Nat) : Int) := by split <;> omega
              go_wp2_with fail
              all_goals gi_meet
              all_goals exact ⟨_, rfl, HC6.out, HMK6.out⟩
            case rest =>
            obtain ⟨adD, rfl, C6, MK6⟩ := hcut
            have HC6 := Lib.hid C6
            have HMK6 := Lib.hid MK6
            clear C6 MK6 HC4 HMK4 HBX4
            gi_wp2_with fail
            refine ⟨trivial, (callsIn_wide.2 (names_any p.g o wc)).mono ?_⟩
            rintro e W7 ⟨rfl, rfl⟩
            have hbe : Below wc.heap.size wc ((wc.alloc (.cells #[.pointer (some ⟨p.g, 0, none⟩)] 27)).alloc (.cells #[.int .u32 (o : Nat)] 50)) := ((Below.refl _ _).alloc (Nat.le_refl _) _).alloc (by simp) _
            have BH := (Blk.new wc 27 #[.pointer (some ⟨p.g, 0, none⟩)]).alloc (.cells #[.int .u32 (o : Nat)] 50)
            have BO := Blk.new (wc.alloc (.cells #[.pointer (some ⟨p.g, 0, none⟩)] 27)) 50 #[.int .u32 (o : Nat)]
            rw [World.size_alloc] at BO
            have HC7 := Lib.hid (HC6.out.below hbe)
            have HMK7 := Lib.hid (HMK6.out.below hbe)
            have hdl : ∀ D, ({ target := .collected D, args := #[] } : Deferred) ∈ ds → D < wc.heap.size := fun D hD => by
              obtain ⟨D', h1, _, h3⟩ := HMK6.out.at_ _ hD
              injection h1 with h1; injection h1 with h1
              subst h1
              exact lt_of_get h3
            unfold ptr
            generalize hW4 : (wc.alloc (.cells #[.pointer (some ⟨p.g, 0, none⟩)] 27)).alloc (.cells #[.int .u32 (o : Nat)] 50) = W8 at *
            have hs4 : W8.heap.size = wc.heap.size + 2 := by rw [← hW4]; simp
            have hmBl : mB < wc.heap.size := HC6.out.graph.num.lt
            have hw3 : w.heap.size ≤ wc.heap.size := HC6.out.base.size
            generalize wc.heap.size = Bh at *
            clear hW4 hbe HC6 HMK6
            have HSP4 := Lib.hid (show NmSt W8 p h Bh (Bh + 1) o from ⟨HH.out.below HC7.out.base, hs.below HC7.out.base, BH.cell 0, BO.cell 0⟩)
            have hN := nmN_le f o (HM.isB_hd hh HO.out)
            have HN3 := Lib.hid hN
            gi_wp2_with fail
            refine wpIn_rangeFunc_ownH (F := Fence.wide) rfl (by omega) (gf := 78) (lb := #[.pointer (some ⟨Bh, 0, none⟩), .pointer (some ⟨Bh + 1, 0, none⟩)]) rfl trivial (enters_of Tryd.func78 (by kernel_rfl) rfl)
              (names_stops HSP4.out f hh ho32 HO.out 5 (fun A B => KpG w.heap.size Bh (Bh + 1) A B) (KpG.need HH.out hs)) (fun a b => KpG.trans a b) (fun W l o o' h1 h2 h3 _ => KpG.book W l o o' (by omega) (by omega) (by omega) h2 h3) (Below.refl _ _) (fun _ => rfl)
              (fun pre W => CtSt w gG mB bX (bX + 1) (.pointer (some ⟨p.g, 0, none⟩)) (.slice (some ad) l.length cm) (.slice adD l.length cd) l (notesP (h.nmAt o) ⟨xw + (3 + X.size), xs, xe, max xd dp⟩ pre) (i + 1) W ∧ Marks w.heap.size ds W ∧ Blk W Bh 27 #[.pointer (some ⟨p.g, 0, none⟩)] ∧ Blk W (Bh + 1) 50 #[.int .u32 (o : Nat)])
              (fun c pre W => False)
              (fun pre A B row ⟨h1, h2, h3, h4⟩ hg hr => ⟨h1.own' (by omega) (by omega) hg hr, h2.own' (fun D hD => by have := hdl D hD; omega) hg hr, blk_own' h3 hg hr, blk_own' h4 hg hr⟩)
              (fun c pre A B row h _ _ => h.elim)
              ⟨HC7.out, HMK7.out, BH, BO⟩
              (fun x a' W => a' = { tmps := frameCntB bX (h.nmAt o x) ((x : Int) - 1) (fun n => a'.tmps.toList.getD n undef), defers := [] })
              (fun x a' _ X Y row hs hg hr => hs)
              ?assign ?body ?done (fun D c pre W _ _ h => h.elim)
            case assign =>
              rintro lp pre x W K hI hK
              rw [show nmV h o x = #[.int .i64 ((x : Int) - 1), .int .u32 (h.nmAt o x : Nat)] from rfl]
              have HK := Lib.hid hK
              have HIP := Lib.hid hI
              clear hK hI
              generalize h.nmAt o x = v at *
              gi_wp2_with fail
              exact HK.out _ _ ((KeepsOthers.refl _).from _) ⟨rfl, rfl, rfl, Nat.le_refl _, fun _ _ => rfl, rfl, rfl, fun _ _ b => b⟩ HIP.out rfl
            case body =>
              rintro lp pre x a' W hl ⟨r, hr⟩ ⟨C, MK, BH, BO⟩ ha hltx
              have hlen : pre.length ≤ 1048577 := by have := HN3.out; omega
              have hvl := HM.nmAt_lt f o x
              obtain ⟨u1, u2, u3, u4⟩ := notesP_up (h.nmAt o) pre ⟨xw + (3 + X.size), xs, xe, max xd dp⟩
              dsimp only at u2 u3
              have HN := Lib.hid (note_any C.bx (h.nmAt o x) hvl (decide (x = 0)) (by omega) (by omega))
              have HSN := Lib.hid (notesP_snoc (h.nmAt o) ⟨xw + (3 + X.size), xs, xe, max xd dp⟩ pre x)
              rw [← HSN.out] at HN
              have k1 := C.bf.cell 0
              unfold noteFn at k1
              have HC8 := Lib.hid C
              have HMK8 := Lib.hid MK
              have HBH := Lib.hid BH
              have HBO := Lib.hid BO
              have hlt1 : decide ((x : Int) - 1 < 0) = decide (x = 0) := by
                by_cases h0 : x = 0
                · subst h0; rfl
                · rw [decide_eq_false h0, decide_eq_false (by omega)]
              clear HSN
              generalize hyn : notesP (h.nmAt o) ⟨xw + (3 + X.size), xs, xe, max xd dp⟩ (pre ++ [x]) = y' at *
              have HYN := Lib.hid hyn
              clear hyn
              generalize decide (x = 0) = bb at *
              generalize h.nmAt o x = v at *
              generalize (fun n => a'.tmps.toList.getD n undef) = g2 at ha
              unfold frameCntB at ha
              subst ha
              clear C MK BH BO hr u1 u2 u3 u4
              have hBl : Bh + 1 < W.heap.size := HBO.out.lt
              gi_wp2_with fail
              refine ⟨trivial, (CallsIn.inRound lp (callsIn_wide.2 HN.out)).mono ?_⟩
              rintro e w9 ⟨rfl, b9, s9⟩
              have HFIN := Lib.hid (show KeepsFrom W8.heap.size W w9 ∧ KpG w.heap.size Bh (Bh + 1) W w9 ∧ CtSt w gG mB bX (bX + 1) (.pointer (some ⟨p.g, 0, none⟩)) (.slice (some ad) l.length cm) (.slice adD l.length cd) l y' (i + 1) w9 ∧ Marks w.heap.size ds w9 ∧ Blk w9 Bh 27 #[.pointer (some ⟨p.g, 0, none⟩)] ∧ Blk w9 (Bh + 1) 50 #[.int .u32 (o : Nat)] from
                ⟨s9.keeps HC8.out.bx _, s9.kpG HC8.out.bx (Nat.le_of_lt HC8.out.hx) HBH.out HBO.out, HC8.out.only s9 b9, s9.marks HC8.out.bx HMK8.out, s9.blk HC8.out.bx HBH.out (by decide), s9.blk HC8.out.bx HBO.out (by decide)⟩)
              clear b9 s9 HN k1
              gi_wp2_with fail
              have hfin := HFIN.out
              rw [← HYN.out] at hfin
              exact hfin
            case done =>
              rintro D xs' W hD rfl ⟨C, MK, BH, BO⟩ hK
              have hN0 := HN3.out
              rw [notesP_range, ← HSTP.out] at C
              have HC9 := Lib.hid C
              have HMK9 := Lib.hid (MK.cons (by omega) hK (fun D' hD' => by have := hdl D' hD'; omega))
              clear C MK BH BO hK hN HSP4 hdl HC7 HMK7
              gi_wp2_with fail
              refine ⟨l.length - (i + 1), ?qa, i + 1, (i : Int) + 1, { target := .collected D, args := #[] } :: ds, ?qz, ?qf, rfl, ?qb, ?qc, ?qm⟩
              case qa => have := HJ.out; have := HLT.out; omega
              case qb => have := HLT.out; omega
              case qz => omega
              case qf => rfl
              case qc => rw [HXI.out]; exact HC9.out
              case qm => exact HMK9.out
          · have hd : decide ((i : Int) < (l.length : Int)) = false := by simp; omega
            obtain rfl : i = l.length := by omega
            have HCM := Lib.hid (show h.countM fr l = h.cntC l (notesF fr ⟨0, 0, 0, 0⟩ fr.length) l.length from rfl)
            have HBXV := HC.out.bx
            generalize h.cntC l (notesF fr ⟨0, 0, 0, 0⟩ fr.length) l.length = x at *
            obtain ⟨xw, xs, xe, xd⟩ := x
            have x0 := HBXV.cell 0
            have x1 := HBXV.cell 1
            have x2 := HBXV.cell 2
            have x3 := HBXV.cell 3
            have x4 := HBXV.cell 4
            unfold Gc.cells at x0 x1 x2 x3 x4
            dsimp only at x0 x1 x2 x3 x4
            have BZn := HC.out.res
            have d0 := BZn.cell 0
            have d1 := BZn.cell 1
            have d2 := BZn.cell 2
            have d3 := BZn.cell 3
            have d4 := BZn.cell 4
            have z0 := BZn.frozen 0
            have z1 := BZn.frozen 1
            have z2 := BZn.frozen 2
            have z3 := BZn.frozen 3
            have z4 := BZn.frozen 4
            have HZ5 := Lib.hid (BZn.setAll5 (.int .i64 (l.length : Int)) (.int .i64 (xw : Int)) (.int .i64 (xs : Int)) (.int .i64 (xe : Int)) (.int .i64 (xd : Int)))
            have HB5 := Lib.hid (below_setAll5 (HC.out.base) (g := w.heap.size) (Nat.le_refl _) (.int .i64 (l.length : Int)) (.int .i64 (xw : Int)) (.int .i64 (xs : Int)) (.int .i64 (xe : Int)) (.int .i64 (xd : Int)))
            have hMK5 : Marks w.heap.size ds (((((W.setCell ⟨w.heap.size, 0, none⟩ (.int .i64 (l.length : Int))).setCell ⟨w.heap.size, 1, none⟩ (.int .i64 (xw : Int))).setCell ⟨w.heap.size, 2, none⟩ (.int .i64 (xs : Int))).setCell ⟨w.heap.size, 3, none⟩ (.int .i64 (xe : Int))).setCell ⟨w.heap.size, 4, none⟩ (.int .i64 (xd : Int))) :=
              HMK.out.same fun D _ hD => by
                have hne : D ≠ w.heap.size := fun e => by subst e; have hb := HC.out.res; unfold Blk at hb; rw [hb] at hD; injection hD with hD; cases hD
                rw [Below.heap_setCell _ ⟨w.heap.size, 4, none⟩ _ D hne, Below.heap_setCell _ ⟨w.heap.size, 3, none⟩ _ D hne, Below.heap_setCell _ ⟨w.heap.size, 2, none⟩ _ D hne, Below.heap_setCell _ ⟨w.heap.size, 1, none⟩ _ D hne, Below.heap_setCell _ ⟨w.heap.size, 0, none⟩ _ D hne]
                exact hD
            have HMK5 := Lib.hid hMK5
            clear BZn HBXV hMK5
            gi_wp2_with fail
            refine leaves_marks (B := w.heap.size) _ _ HMK5.out (fun w' e1 e2 e3 e4 e5 => ?_)
            have BF := HZ5.out.same (e5 _ HZ5.out.lt (fun D hD e => by
              obtain ⟨D', h1, _, h3⟩ := HMK5.out.at_ _ hD
              injection h1 with h1; injection h1 with h1
              subst h1; subst e
              have hb := HZ5.out
              unfold Blk at hb
              rw [hb] at h3; injection h3 with h3; cases h3))
            have f0 := BF.cell 0
            have f1 := BF.cell 1
            have f2 := BF.cell 2
            have f3 := BF.cell 3
            have f4 := BF.cell 4
            refine ⟨.tuple #[.agg #[.int .i64 (l.length : Int), .int .i64 (xw : Int), .int .i64 (xs : Int), .int .i64 (xe : Int), .int .i64 (xd : Int)], .int .i64 0], by simp [results, Tryd.results25, go_sem, f0, f1, f2, f3, f4], ?_⟩
            exact ⟨below_left HB5.out HMK5.out e1 e2 e3 e4 e5, .inr (.inr ⟨HFS.out.1, l, HFS.out.2, by rw [HCM.out]; rfl⟩)⟩
end Go.Proofs.YtpajpdjjpgbklaaDoor
