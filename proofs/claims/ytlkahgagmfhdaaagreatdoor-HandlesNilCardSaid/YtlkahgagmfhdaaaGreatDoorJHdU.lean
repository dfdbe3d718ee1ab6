/- HandlesUnroot: plain data. -/
/- HandlesNil: plain data. -/
/- HandlesNil, walked. -/
import Derived.Test.YtlkahgagmfhdaaaGreatDoorJHdW
import Derived.Test.YtlkahgagmfhdaaaGreatDoorJKCol
import Derived.Test.YtlkahgagmfhdaaaGreatDoorJUntil
set_option linter.unusedVariables false
set_option linter.unusedSimpArgs false
set_option linter.unusedSectionVars false
namespace Go.Proofs.YtlkahgagmfhdaaaGreatDoor
open Go.RowKit
def uw1 : HM := nwH hwk0 4
def ut0 : TM := TM.fresh 4 1
theorem u_new : nwE hwk0 4 1 = 0 := by decide +kernel
end Go.Proofs.YtlkahgagmfhdaaaGreatDoor

namespace Go.Proofs.YtlkahgagmfhdaaaGreatDoor
open Go.RowKit

def nt1 : TM := issT uw1 ut0 2 5
def nw1 : HM := issH uw1 ut0 2 5
def nt2 : TM := issT nw1 nt1 12 6
def nw2 : HM := issH nw1 nt1 12 6
theorem n_i1 : issE uw1 ut0 2 5 = 0 ∧ issV uw1 ut0 2 5 = 1 := by decide +kernel
theorem n_i2 : issE nw1 nt1 12 6 = 0 ∧ issV nw1 nt1 12 6 = 2 := by decide +kernel
theorem n_b : brkB nw2 nt2 = false := by decide +kernel
theorem n_u : nt2.usedK 256 = [0, 1] := by decide +kernel
theorem n_k (O : nt2.Ok) : nt2.liveK = [0, 1] :=
  (liveK_unique O (by rw [n_u]) (by
    rw [List.pairwise_cons]
    refine ⟨fun b hb => ?_, List.pairwise_singleton _ _⟩
    rw [List.mem_singleton.1 hb]
    decide +kernel)).symm
theorem n_h : hd3 nw2 nt2 0 = (1, 2, 5) ∧ hd3 nw2 nt2 1 = (2, 12, 6) := by decide +kernel
theorem n_l (O : nt2.Ok) : livL nw2 nt2 = [(1, 2, 5), (2, 12, 6)] := by
  unfold livL
  rw [n_b, if_neg (by decide), n_k O, List.map_cons, List.map_cons, List.map_nil, n_h.1, n_h.2]
theorem tab_no : Tryz.zeroCells96[513]? = some (.int .i64 0) := by kernel_rfl
end Go.Proofs.YtlkahgagmfhdaaaGreatDoor

namespace Go.Proofs.YtlkahgagmfhdaaaGreatDoor
open Go.RowKit
attribute [local go_sem] Oper.semAt_some

set_option maxRecDepth 100000 in
set_option maxHeartbeats 8000000 in
theorem nilL_any (W : World) (E : Env W) (o : Nat) (ho : o < 4294967296) (id : Nat) (hid : id < 18446744073709551616) (n : Int) : Calls Tryz.prog 7 #[.int .u32 (o : Nat), .int .u64 (id : Nat), .int .i64 n] W (Told (.bool true) W) := by
  have HAW := Lib.hid (fun (w : World) (E : Env w) => hawake_any w E)
  have HE := Lib.hid E
  have HNU := Lib.hid (fun E hE w' => hnum_any E hE w')
  have HH := Lib.hid (fun (w : World) (E : Env w) => show Calls Tryz.prog 22 #[.agg #[.int .i64 200, .int .i64 3, .int .i64 0, .int .u64 0, .slice none 0 0]] w (HeapsP w 200 3) from heaps_any w E 200 3 0 0 none 0 0)
  clear E
  go_enter Tryz.func7, Tryz.ntmps7
  go_wp2_with fail
  have hb1 := ((Below.refl W.heap.size W).alloc (Nat.le_refl _) (.cells Tryz.zeroCells96 96)).alloc (by rw [World.size_alloc]; omega) (.cells #[.pointer none, .pointer (some ⟨W.heap.size, 0, none⟩)] 51)
  have HB1 := Lib.hid hb1
  have hs1 : (W.alloc (.cells Tryz.zeroCells96 96)).heap.size = W.heap.size + 1 := World.size_alloc _ _
  have BX := Blk.new (W.alloc (.cells Tryz.zeroCells96 96)) 51 #[.pointer none, .pointer (some ⟨W.heap.size, 0, none⟩)]
  rw [hs1] at BX
  have HX0 := Lib.hid (BX.cell 0)
  have HX1 := Lib.hid (BX.cell 1)
  have hn0 : (W.alloc (.cells Tryz.zeroCells96 96)).cell? ⟨W.heap.size, 513, none⟩ = some (.int .i64 0) := ((Blk.new W 96 Tryz.zeroCells96).cell 513).trans tab_no
  have HN0 := Lib.hid (((Below.refl _ _).alloc (Nat.le_refl _) (.cells #[.pointer none, .pointer (some ⟨W.heap.size, 0, none⟩)] 51)).cell (p := ⟨W.heap.size, 513, none⟩) (World.block_lt_of_cell? _ _ hn0) |>.trans hn0)
  clear hb1 hs1 BX hn0
  generalize hw1 : (W.alloc (.cells Tryz.zeroCells96 96)).alloc (.cells #[.pointer none, .pointer (some ⟨W.heap.size, 0, none⟩)] 51) = w1 at *
  clear hw1
  generalize hG : W.heap.size + 1 = G at *
  clear hG
  go_loopw [9] (fun iv wr => ∃ k : Nat, k ≤ 2 ∧ iv = .int .i64 (k : Int) ∧ Hid (Below w1.heap.size w1 wr)) (fun iv _ => 2 - (intOf iv).toNat)
  case atStart => exact ⟨0, by omega, rfl, Lib.hid (Below.refl _ _)⟩
  case round =>
    obtain ⟨k, hk, rfl, HBr⟩ := hrel
    by_cases hlt : k < 2
    · have hA : ∃ A, wr.cell? ⟨G, k, none⟩ = some (.pointer A) ∧ NoTb wr (.pointer A) := by
        have h0 := (HBr.out.cell (World.block_lt_of_cell? _ _ HX0.out)).trans HX0.out
        have h1 := (HBr.out.cell (World.block_lt_of_cell? _ _ HX1.out)).trans HX1.out
        have h2 := (HBr.out.cell (World.block_lt_of_cell? _ _ HN0.out)).trans HN0.out
        match k, hlt with
        | 0, _ => exact ⟨none, h0, .inl rfl⟩
        | 1, _ => exact ⟨_, h1, .inr ⟨_, rfl, h2⟩⟩
      obtain ⟨A, hc, hn⟩ := hA
      have HNT := Lib.hid (fun w' (hb : Below wr.heap.size wr w') => hn.below hb)
      have hlt2 : (k : Int) < 2 := by omega
      clear hn HX0 HX1 HN0
      go_wp2_with fail
      refine (nissue_no (HNT.out _ (Below.refl _ _)) _ _).mono ?_
      rintro e w2 ⟨rfl, rfl⟩
      go_wp2_with fail
      refine (nget_no (HNT.out _ (Below.refl _ _)) _).mono ?_
      rintro e w2 ⟨rfl, rfl⟩
      go_wp2_with fail
      refine (ntick_no (HNT.out _ (Below.refl _ _)) _).mono ?_
      rintro e w2 ⟨rfl, rfl⟩
      go_wp2_with fail
      refine (HNU.out 164 (by decide) _).mono ?_
      rintro e w2 ⟨rfl, rfl⟩
      go_wp2_with fail
      refine (HNU.out 164 (by decide) _).mono ?_
      rintro e w2 ⟨rfl, rfl⟩
      go_wp2_with fail
      refine (HNU.out 164 (by decide) _).mono ?_
      rintro e w2 ⟨rfl, rfl⟩
      go_wp2_with fail
      refine (nrenew_no (HNT.out _ (Below.refl _ _)) _ _).mono ?_
      rintro e w2 ⟨rfl, rfl⟩
      go_wp2_with fail
      refine (HNU.out 164 (by decide) _).mono ?_
      rintro e w2 ⟨rfl, rfl⟩
      go_wp2_with fail
      refine (nrelease_no (HNT.out _ (Below.refl _ _)) _).mono ?_
      rintro e w2 ⟨rfl, rfl⟩
      go_wp2_with fail
      refine (HNU.out 164 (by decide) _).mono ?_
      rintro e w2 ⟨rfl, rfl⟩
      go_wp2_with fail
      refine (nclear_no (HNT.out _ (Below.refl _ _))).mono ?_
      rintro e w2 ⟨rfl, rfl⟩
      go_wp2_with fail
      refine (nnow_no (HNT.out _ (Below.refl _ _))).mono ?_
      rintro e w2 ⟨rfl, rfl⟩
      go_wp2_with fail
      refine (nnext_no (HNT.out _ (Below.refl _ _))).mono ?_
      rintro e w2 ⟨rfl, rfl⟩
      go_wp2_with fail
      refine (ncap_no (HNT.out _ (Below.refl _ _))).mono ?_
      rintro e w2 ⟨rfl, rfl⟩
      go_wp2_with fail
      refine (nlive_no (HNT.out _ (Below.refl _ _))).mono ?_
      rintro e w2 ⟨rfl, rfl⟩
      go_wp2_with fail
      go_roundw
      case rel => exact ⟨k + 1, by omega, by go_num, HBr⟩
      case measure => simp [intOf]; omega
    · have hlt2 : ¬ (k : Int) < 2 := by omega
      have HW1 := Lib.hid (below_top HB1.out HBr.out)
      have HH1 := Lib.hid (HH.out wr (HE.out.below HW1.out))
      clear HX0 HX1 HN0 HBr HB1 HH
      go_wp2_with fail
      refine HH1.out.mono ?_
      rintro e w3 (⟨hz, -, -⟩ | ⟨-, -, p1, q1, g, kk, rfl, T1, hb1⟩)
      · omega
      have L1 : Live wr w3 p1 g hwk0 := T1.live
      have HNW := Lib.hid (show Calls Tryz.prog 23 #[.pointer (some ⟨g, 0, none⟩), .int .i64 4, .int .u64 1] w3 (NewP wr p1 g hwk0 4 1 w3) from tnew_any L1 4 1 (by decide))
      clear T1 hb1 L1 HH1
      go_wp2_with fail
      refine HNW.out.mono ?_
      rintro e w4 (⟨hne, -⟩ | ⟨-, p2, gt, rfl, T2, s2, hgt⟩)
      · exact absurd u_new hne
      have T2 : HT wr w4 p2 g gt uw1 ut0 := T2
      have H1 := tissue_any T2 2 (by decide) 5
      rw [n_i1.1, n_i1.2] at H1
      have HI1 := Lib.hid (show Calls Tryz.prog 26 #[.pointer (some ⟨gt, 0, none⟩), .int .u32 2, .int .i64 5] w4 (HDone wr p2 g gt nw1 nt1 (.tuple #[.int .u64 1, .int .i64 0]) w4) from H1)
      clear T2 s2 hgt H1 HNW
      go_wp2_with fail
      refine (HNU.out 0 (by decide) _).mono ?_
      rintro e w5 ⟨rfl, rfl⟩
      go_wp2_with fail
      refine HI1.out.mono ?_
      rintro e w5 ⟨rfl, T5, K5⟩
      have H2 := tissue_any T5 12 (by decide) 6
      rw [n_i2.1, n_i2.2] at H2
      have HI2 := Lib.hid (show Calls Tryz.prog 26 #[.pointer (some ⟨gt, 0, none⟩), .int .u32 12, .int .i64 6] w5 (HDone wr p2 g gt nw2 nt2 (.tuple #[.int .u64 2, .int .i64 0]) w5) from H2)
      clear T5 K5 H2 HI1
      go_wp2_with fail
      refine HI2.out.mono ?_
      rintro e w6 ⟨rfl, T6, K6⟩
      have HLT := Lib.hid (show ∀ k, p2.has k ∨ k = gt → k < w6.heap.size from fun k hk => by rcases hk with h | h; exact T6.live.at_.lt h; rw [h]; exact T6.tab.lt)
      have HLW := Lib.hid (show wr.heap.size ≤ w6.heap.size from T6.live.below.size)
      have HT6 := Lib.hid T6
      have HL6 := Lib.hid (tlive_any T6)
      have HLL := Lib.hid (n_l T6.ok)
      clear T6 K6 HI2
      go_wp2_with fail
      refine HL6.out.mono ?_
      rintro e w7 ⟨vx, rfl, hx, hb7⟩
      rw [HLL.out] at hx
      have hx : w7.ownsRow w6.heap.size 99 3 vx 2 (hdsC [(1, 2, 5), (2, 12, 6)]) := hx
      have T7 := HT6.out.after hb7
      have HL7 := Lib.hid (tlive_any T7)
      have HT7 := Lib.hid T7
      have HX7 := Lib.hid hx
      have HB7 := Lib.hid hb7
      clear T7 hb7 hx HT6 HL6
      go_wp2_with fail
      refine HL7.out.mono ?_
      rintro e w8 ⟨vy, rfl, hy, hb8⟩
      rw [HLL.out] at hy
      have hy : w8.ownsRow w7.heap.size 99 3 vy 2 (hdsC [(1, 2, 5), (2, 12, 6)]) := hy
      have HT8 := Lib.hid (HT7.out.after hb8)
      have hx8 := own_below HX7.out hb8
      have HXL := Lib.hid (fun q hq => (HX7.out.lt q hq).2)
      have HX8 := Lib.hid hx8
      have HY8 := Lib.hid hy
      have HB8 := Lib.hid (below_top HB7.out hb8)
      obtain ⟨X, cx, rfl, hbx, hlx⟩ := hx8.form (by decide)
      obtain ⟨Y, cy, rfl, hby, hly⟩ := hy.form (by decide)
      have x0 := hx8.cellAt 0 (by decide)
      have x1 := hx8.cellAt 1 (by decide)
      have x2 := hx8.cellAt 2 (by decide)
      have f0 := hx8.frozenAt 0
      have f1 := hx8.frozenAt 1
      have f2 := hx8.frozenAt 2
      have HXY := Lib.hid (show X < w7.heap.size from HXL.out X rfl)
      have h0 := hx8.stored 0 (.int .u64 99)
      have h1 := h0.1.stored 1 (.int .u32 0)
      have h2 := h1.1.stored 2 (.int .i64 0)
      have x1b := h0.1.cellAt 1 (by decide)
      have f1b := h0.1.frozenAt 1
      have x2b := h1.1.cellAt 2 (by decide)
      have f2b := h1.1.frozenAt 2
      rw [show (hdsC [(1, 2, 5), (2, 12, 6)])[0]? = some (.int .u64 1) from rfl] at x0
      rw [show ((hdsC [(1, 2, 5), (2, 12, 6)]).set 0 (.int .u64 99))[1]? = some (.int .u32 2) from rfl] at x1b
      rw [show (((hdsC [(1, 2, 5), (2, 12, 6)]).set 0 (.int .u64 99)).set 1 (.int .u32 0))[2]? = some (.int .i64 5) from rfl] at x2b
      clear x1 x2 f1 f2
      have hne : (Value.slice (some ⟨Y, 0, none⟩) 2 cy).ownBlock ≠ some X := by
        intro h
        have h : Y = X := by injection h
        have := HXY.out
        omega
      have HY9 := Lib.hid (((HY8.out.kept h0.2 (.inr hne)).kept h1.2 (.inr hne)).kept h2.2 (.inr hne))
      have HX9 := Lib.hid h2.1
      have HB9 := Lib.hid (((HB8.out.setCell (p := ⟨X, 0, none⟩) hbx (.int .u64 99)).setCell (p := ⟨X, 1, none⟩) hbx (.int .u32 0)).setCell (p := ⟨X, 2, none⟩) hbx (.int .i64 0))
      have HT9 := Lib.hid (HT8.out.belowB ((((Below.refl w6.heap.size w8).setCell (p := ⟨X, 0, none⟩) hbx (.int .u64 99)).setCell (p := ⟨X, 1, none⟩) hbx (.int .u32 0)).setCell (p := ⟨X, 2, none⟩) hbx (.int .i64 0)) HLT.out HLW.out)
      clear hx8 hx hy hb8 h0 h1 h2 hne HX7 HL7 HT7 HB7 HXL HX8 HY8 HB8 HT8
      go_wp2_with fail
      have HYX := Lib.hid (show ∀ q, (Value.slice (some ⟨X, 0, none⟩) 2 cx).ownBlock = some q → q < Y from fun q hq => by
        have : X = q := by injection hq
        have := HXY.out
        omega)
      have HYL := Lib.hid (HY9.out.lt Y rfl).2
      clear x0 f0 x1b f1b x2b f2b hlx HXY
      generalize ((w8.setCell ⟨X, 0, none⟩ (.int .u64 99)).setCell ⟨X, 1, none⟩ (.int .u32 0)).setCell ⟨X, 2, none⟩ (.int .i64 0) = w9 at *
      have HX9 := Lib.hid (show ∃ xs, w9.ownsRow w6.heap.size 99 3 (.slice (some ⟨X, 0, none⟩) 2 cx) (2 + 0) xs from ⟨_, HX9.out⟩)
      obtain ⟨i0, hi0, hz0, hz1, hz2⟩ := info_parts info_hd
      go_loopw [22, 24] (fun xv iv wz => ∃ m : Nat, m ≤ 20 ∧ iv = .int .i64 (m : Int) ∧ Hid (∃ xs, wz.ownsRow w6.heap.size 99 3 xv (2 + m) xs) ∧ Hid (Below w6.heap.size w9 wz) ∧ Hid (wz.ownsRow w7.heap.size 99 3 (.slice (some ⟨Y, 0, none⟩) 2 cy) 2 (hdsC [(1, 2, 5), (2, 12, 6)])) ∧ Hid (∀ q, xv.ownBlock = some q → q ≠ Y)) (fun _ iv _ => 20 - (intOf iv).toNat)
      case atStart => exact ⟨0, by omega, rfl, HX9, Lib.hid (Below.refl _ _), HY9, Lib.hid fun q hq => Nat.ne_of_lt (HYX.out q hq)⟩
      case round =>
        obtain ⟨m, hm, rfl, HXm, HBm, HYm, HNm⟩ := hrel
        by_cases hlm : m < 20
        · have hlm2 : (m : Int) < 20 := by omega
          obtain ⟨xs, hxs⟩ := HXm.out
          have HXS := Lib.hid hxs
          clear hxs HXm
          have hal := (Below.refl wr.heap.size wr).alloc (Nat.le_refl _) (.cells #[.int .u64 98, .int .u32 0, .int .i64 0] 99)
          have HA1 := Lib.hid hal
          have HZ1 := Lib.hid (show w6.heap.size ≤ (wr.alloc (.cells #[.int .u64 98, .int .u32 0, .int .i64 0] 99)).heap.size by rw [World.size_alloc]; have h1 := HB9.out.size; have h2 := HBm.out.size; omega)
          clear hal
          go_wp2_with (at_builtin; refine wpList_append_any _ rfl (.tmp 167) (.tmp 169) _ rfl w6.heap.size 99 i0 _ 3 24 Tryz.underlying87 hi0 hz0 hz1 hz2 rfl (by omega) u22 (2 + m) xs rfl (own_below HXS.out HA1.out) (wr.heap.size + 1) (some ⟨wr.heap.size, 0, none⟩) 1 1 [.int .u64 98, .int .u32 0, .int .i64 0] rfl (hreads_three wr _ _ _ _) (fun u hu => by simp at hu; rcases hu with rfl | rfl | rfl <;> rfl) (by simp only [maxLen]; omega) (by omega) HZ1.out ?_; intro v3 w3 hown3 hgrow3 hat3; have HO3 := Lib.hid hown3; have HG3 := Lib.hid hgrow3; have HAT3 := Lib.hid hat3; clear hown3 hgrow3 hat3)
          have HXN := Lib.hid (show ∃ xs', w3.ownsRow w6.heap.size 99 3 v3 (2 + (m + 1)) xs' from ⟨_, HO3.out⟩)
          have HBN := Lib.hid (below_grown HB9.out.size (HBm.out.trans (HA1.out.mono (Nat.le_trans HB9.out.size HBm.out.size))) HG3.out (fun q hq => (HXS.out.lt q hq).1))
          have HYN := Lib.hid ((own_below HYm.out HA1.out).kept HG3.out (.inr fun h => HNm.out Y h.symm rfl))
          have HNN := Lib.hid (show ∀ q, v3.ownBlock = some q → q ≠ Y from fun q hq => by
            rcases HAT3.out with h | h
            · exact HNm.out q (h.symm.trans hq)
            · rw [h, World.size_alloc] at hq
              have h4 : wr.heap.size + 1 = q := by injection hq
              have h5 := (HYm.out.lt Y rfl).2
              omega)
          go_roundw
          case rel => exact ⟨m + 1, by omega, by go_num, HXN, HBN, HYN, HNN⟩
          case measure => simp [intOf]; omega
        · have hlm2 : ¬ (m : Int) < 20 := by omega
          have HTm := Lib.hid (HT9.out.belowB HBm.out HLT.out HLW.out)
          have HLm := Lib.hid (tlive_any HTm.out)
          have y0 := HYm.out.cellAt 0 (by decide)
          clear HXm HBm HNm HX9 HYX
          go_wp2_with fail
          refine HLm.out.mono ?_
          rintro e w10 ⟨vz, rfl, hz, hb10⟩
          rw [HLL.out] at hz
          have hz : w10.ownsRow wr.heap.size 99 3 vz 2 (hdsC [(1, 2, 5), (2, 12, 6)]) := hz
          have hy10 := own_below HYm.out hb10
          obtain ⟨Z, cz, rfl, hbz, hlz⟩ := hz.form (by decide)
          have y0 : w10.cell? ⟨Y, 0, none⟩ = some (.int .u64 1) := hy10.cellAt 0 (by decide)
          have z0 : w10.cell? ⟨Z, 0, none⟩ = some (.int .u64 1) := hz.cellAt 0 (by decide)
          have z3 : w10.cell? ⟨Z, 3, none⟩ = some (.int .u64 2) := hz.cellAt 3 (by decide)
          have T10 := HTm.out.after hb10
          have HB10 := Lib.hid (below_top HW1.out T10.live.below)
          have HAK := Lib.hid (HAW.out w10 T10.live.envw)
          clear hz hb10 hy10 T10 HTm HLm hbz hlz
          go_wp2_with fail
          refine HAK.out.mono ?_
          rintro e w11 ⟨rfl, hb11⟩
          have HB11 := Lib.hid (below_top HB10.out hb11)
          clear hb11
          go_wp2_with fail
          go_ret
          exact ⟨rfl, HB11.out⟩
theorem nilC_any (W : World) (E : Env W) (o : Nat) (ho : o < 4294967296) (id : Nat) (hid : id < 18446744073709551616) (n : Int) (_ : (Lit.int .i64 n).wf = true) : Calls Tryz.prog 7 #[.int .u32 (o : Nat), .int .u64 (id : Nat), .int .i64 n] W (Told (.bool true) W) := nilL_any W E o ho id hid n
end Go.Proofs.YtlkahgagmfhdaaaGreatDoor
