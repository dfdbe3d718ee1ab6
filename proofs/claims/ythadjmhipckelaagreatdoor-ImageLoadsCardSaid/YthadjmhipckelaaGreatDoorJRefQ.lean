import Derived.Test.YthadjmhipckelaaGreatDoorJAll
import Derived.Test.YthadjmhipckelaaGreatDoorJLoad2
import Derived.Test.YthadjmhipckelaaGreatDoorJRefG
import Derived.Test.YthadjmhipckelaaGreatDoorJLive
import Derived.Test.YthadjmhipckelaaGreatDoorJMapIs
import Derived.Test.YthadjmhipckelaaGreatDoorJIApp
import Derived.Test.YthadjmhipckelaaGreatDoorJText
import Derived.Maps.OwnSet
set_option linter.unusedVariables false
set_option linter.unusedSimpArgs false
set_option linter.unusedSectionVars false
namespace Go.Proofs.YthadjmhipckelaaGreatDoor
section
open Go.RowKit
attribute [local go_sem] Oper.semAt_some
theorem RAt.setMark {w : World} {p : HP} {h : HM} (H : RAt w p h) (k : Nat) : RAt (w.setCell ⟨p.gs, k, none⟩ (.int .u8 1)) p { h with starts := h.starts.set k true } := by
 obtain ⟨hb, hw, hs, hr⟩ := H
 have n1 : p.g ≠ p.gs := fun e => Row.ne_blk hs hb (by decide) e.symm
 have n2 : p.gw ≠ p.gs := hw.ne_ hs (by decide)
 have n3 : p.gr ≠ p.gs := hr.ne_ hs (by decide)
 refine ⟨?_, hw.far n2 _, ?_, hr.far n3 _⟩
 ·have := hb.far (p := ⟨p.gs, k, none⟩) n1 (.int .u8 1)
  simpa using this
 ·have := hs.set k (.int .u8 1)
  simpa [begins] using this
theorem make_u8n (F : Nat) (hF : F ≤ 1048576) (w : World) :
 (Instr.makeSlice 22 (.int .i64 (F : Int)) (.int .i64 (F : Int))).run Tryz.prog w = .ok (.slice (some ⟨w.heap.size, 0, none⟩) F F) (w.alloc (.cells (zcells (.int .u8 0) F) 5)) := by
 obtain ⟨i0, hi0, hz0, hz1, hz2⟩ := info_parts info_u8
 have := run_make_rowN (P := Tryz.prog) 22 5 i0 _ Tryz.underlying22 hi0 hz0 .i64 .i64 F F (Nat.le_refl _) (by rw [hz2]; omega) (by omega) w
 have e : madeCells (Value.int .u8 0).cells (F * 1) = zcells (.int .u8 0) F := by
  apply Array.ext
  ·simp [madeCells, zcells, Value.cells]
  ·intro i h1 h2
   simp [madeCells, zcells, Value.cells, Nat.mod_one]
 rw [this, hz1, e]
theorem begins_row (w : World) (F : Nat) (hF : F ≤ maxLen) : Row (w.alloc (.cells (zcells (.int .u8 0) F) 5)) w.heap.size 5 F (begins (List.replicate F false)) :=
 ⟨zcells (.int .u8 0) F, Blk.new w _ _, by simp [begins], hF, by simp [zcells], by simp [zcells, begins]⟩
def RLoadP (size : Nat) (ws rs : List Nat) (last : Nat) (w : World) (d : Ending) (w' : World) : Prop :=
 Below w.heap.size w w' ∧ ((loadE size ws rs last ≠ 0 ∧ d = .returned (.tuple #[.pointer none, .int .i64 (loadE size ws rs last : Nat)])) ∨
  (loadE size ws rs last = 0 ∧ ∃ q : HP, d = .returned (.tuple #[ptr q.g, .int .i64 0]) ∧ RAt w' q (HM.ofWords size ws rs last) ∧ ∀ k, q.has k → w.heap.size ≤ k))
def RLoadMid (q : HP) (size : Nat) (ws rs : List Nat) (last : Nat) (w : World) (k : Nat) (wr : World) : Prop :=
 Below w.heap.size w wr ∧ ∃ l r, Pre ws l r ∧ k = posOf l ∧ RAt wr q ⟨size, ws, (false :: msOf l) ++ List.replicate r.length false, rs, last⟩
set_option maxRecDepth 100000 in
set_option maxHeartbeats 4000000 in
theorem rLoad_any {w : World} (size : Nat) (h1 : 64 ≤ size) (h2 : size ≤ 1048576) (A : Option Addr) (n c : Nat) (ws : List Nat) (hn : n ≤ 9223372036854775807) (hr : Reads w w.heap.size 1 A n (u32s ws)) (h32 : ∀ x ∈ ws, x < 4294967296)
 (A' : Option Addr) (n' c' : Nat) (rs : List Nat) (hn' : n' ≤ 9223372036854775807) (hr' : Reads w w.heap.size 1 A' n' (u32s rs)) (h32' : ∀ x ∈ rs, x < 4294967296) (last : Nat) (hl : last < 4294967296) :
 Calls Tryz.prog 25 #[.int .i64 size, .slice A n c, .slice A' n' c', .int .u32 last] w (RLoadP size ws rs last w) := by
 have hlw : ws.length = n := by have := hr.1; rw [u32s_len] at this; omega
 have hlr : rs.length = n' := by have := hr'.1; rw [u32s_len] at this; omega
 have hbr := Lib.hid (Below.refl w.heap.size w)
 have HLW := Lib.hid hlw
 have HLR := Lib.hid hlr
 by_cases hbad : n = 0 ∨ size < n ∨ n' ≠ 64
 ·have HE := Lib.hid (loadE_bad (size := size) (ws := ws) (rs := rs) (last := last) (by rw [hlw, hlr]; exact hbad))
  have hfin : RLoadP size ws rs last w (.returned (.tuple #[.pointer none, .int .i64 1])) w := ⟨hbr.out, .inl ⟨by rw [HE.out]; decide, by rw [HE.out]; rfl⟩⟩
  have HFIN := Lib.hid hfin
  clear hr hr' h32 h32' hlw hlr hfin HE
  by_cases hb0 : n = 0
  ·have hz : decide ((n : Int) < 1) = true := by simp; omega
   clear hbad hb0
   go_enter Tryz.func25, Tryz.ntmps25
   go_wp2_with fail
   go_ret2
   exact HFIN.out
  ·have hz : decide ((n : Int) < 1) = false := by simp; omega
   by_cases hb1 : size < n
   ·have hz1 : decide (size < n) = true := by simpa using hb1
    clear hbad hb0 hb1
    go_enter Tryz.func25, Tryz.ntmps25
    go_wp2_with fail
    go_ret2
    exact HFIN.out
   ·have hz1 : decide (size < n) = false := by simpa using hb1
    have hz2 : ((n' : Int) != 64) = true := by rw [bne_iff_ne]; omega
    clear hbad hb0 hb1
    go_enter Tryz.func25, Tryz.ntmps25
    go_wp2_with fail
    go_ret2
    exact HFIN.out
 ·have hnn : 0 < n := by omega
  have HB' := Lib.hid (show ¬ (ws.length = 0 ∨ size < ws.length ∨ rs.length ≠ 64) by rw [hlw, hlr]; exact hbad)
  obtain rfl : n' = 64 := by omega
  obtain ⟨ad, rfl, had, hcw⟩ := hr.2 hnn
  obtain ⟨ad', rfl, had', -⟩ := hr'.2 (by omega)
  have hz : decide ((n : Int) < 1) = false := by simp; omega
  have hz1 : decide (size < n) = false := by simp; omega
  have hmk := make_u8n n (by omega)
  have hnsz : n ≤ size := by omega
  have HRW := Lib.hid hr
  have HRR := Lib.hid hr'
  have HCW := Lib.hid (show ∀ W', Below w.heap.size w W' → ∀ j, j < n → W'.cell? (ad.add j) = some (.int .u32 (ws.getD j 0 : Nat)) from fun W' hb j hj =>
   (hb.cell (by rw [block_of_add]; exact had)).trans (hcw j _ (u32s_get (by rw [hlw]; exact hj))))
  have H32 := Lib.hid h32
  have H32' := Lib.hid h32'
  have hX : w.heap.size + 1 < ((w.alloc (.cells (zcells (.int .u8 0) n) 5)).alloc (.cells #[.int .i64 size, .slice none 0 0, .slice none 0 0, .int .u32 last, .slice (some ⟨w.heap.size, 0, none⟩) n n] 52)).heap.size := by simp
  have hb : Below w.heap.size w ((w.alloc (.cells (zcells (.int .u8 0) n) 5)).alloc (.cells #[.int .i64 size, .slice none 0 0, .slice none 0 0, .int .u32 last, .slice (some ⟨w.heap.size, 0, none⟩) n n] 52)) := ((Below.refl _ _).alloc (Nat.le_refl _) _).alloc (by simp) _
  have BX : Blk ((w.alloc (.cells (zcells (.int .u8 0) n) 5)).alloc (.cells #[.int .i64 size, .slice none 0 0, .slice none 0 0, .int .u32 last, .slice (some ⟨w.heap.size, 0, none⟩) n n] 52)) (w.heap.size + 1) 52 #[.int .i64 size, .slice none 0 0, .slice none 0 0, .int .u32 last, .slice (some ⟨w.heap.size, 0, none⟩) n n] := by
   have := Blk.new (w.alloc (.cells (zcells (.int .u8 0) n) 5)) 52 #[.int .i64 size, .slice none 0 0, .slice none 0 0, .int .u32 last, .slice (some ⟨w.heap.size, 0, none⟩) n n]
   rw [World.size_alloc] at this
   exact this
  have RS : Row ((w.alloc (.cells (zcells (.int .u8 0) n) 5)).alloc (.cells #[.int .i64 size, .slice none 0 0, .slice none 0 0, .int .u32 last, .slice (some ⟨w.heap.size, 0, none⟩) n n] 52)) w.heap.size 5 n (begins (List.replicate n false)) := (begins_row w n (by simp only [maxLen]; omega)).alloc _
  clear hr hr' h32 h32' hlw hlr hcw hbad
  go_enter Tryz.func25, Tryz.ntmps25
  go_upto_region 4 with fail
  generalize hW : (w.alloc (.cells (zcells (.int .u8 0) n) 5)).alloc (.cells #[.int .i64 size, .slice none 0 0, .slice none 0 0, .int .u32 last, .slice (some ⟨w.heap.size, 0, none⟩) n n] 52) = W1 at *
  clear hW hmk
  generalize hXX : w.heap.size + 1 = X at *
  have HXX := Lib.hid hXX
  clear hXX
  have x1 := BX.cell 1
  have z1 := BX.frozen 1
  obtain ⟨i0, hi0, hz0, hz3, hz2⟩ := info_parts info_u32
  have HO := Lib.hid (show W1.ownsRow (X + 1) 32 1 (.slice none 0 0) 0 [] from ⟨rfl, .inl ⟨rfl, rfl⟩⟩)
  have HN := Lib.hid ((HRW.out.below hb).more hb.size)
  have HB1 := Lib.hid hb
  have HRS := Lib.hid RS
  have HBX := Lib.hid BX
  have hXX := HXX.out
  clear hb RS BX
  go_upto_region 5 with (at_builtin; refine wpList_append_any _ rfl (.tmp 39) (.tmp 40) _ rfl (X + 1) 32 i0 _ 1 4 Tryz.underlying44 hi0 hz0 hz3 hz2 rfl (by omega) (.slice none 0 0) 0 [] rfl HO.out _ (some ad) n c (u32s ws) rfl HN.out (one_u32s _) (by simp only [maxLen]; omega) (by omega) (by omega) ?_; intro v1 w5 hown5 hgrow hat5; obtain ⟨g5, c5, rfl, hrow5, hlen5, hge5⟩ := Row.of_any hown5 (by omega); have k5 := (hgrow.cell_far ⟨X, 1, none⟩ hX (by simp [Value.ownBlock])).trans x1; have z5 := (hgrow.frozen_far ⟨X, 1, none⟩ hX (by simp [Value.ownBlock])).trans z1; clear hown5)
  rw [List.nil_append] at hrow5
  try simp only [Nat.zero_add]
  have hbel := below_grown (Nat.le_refl _) HB1.out hgrow (by simp [Value.ownBlock])
  have hB2 := hbel.setCell (p := ⟨X, 1, none⟩) (by simp; omega) (.slice (some ⟨g5, 0, none⟩) n c5)
  have BX2 := (HBX.out.same (hgrow.block X hX (by simp [Value.ownBlock]))).set_ 1 (.slice (some ⟨g5, 0, none⟩) n c5)
  have RW2 := hrow5.far (p := ⟨X, 1, none⟩) (by simp; omega) (.slice (some ⟨g5, 0, none⟩) n c5)
  have RS2 := (HRS.out.same (hgrow.block w.heap.size HRS.out.lt (by simp [Value.ownBlock]))).far (p := ⟨X, 1, none⟩) (by simp; omega) (.slice (some ⟨g5, 0, none⟩) n c5)
  generalize hW : w5.setCell ⟨X, 1, none⟩ (.slice (some ⟨g5, 0, none⟩) n c5) = W2 at *
  clear hW hbel hgrow hrow5 hat5 k5 z5 x1 z1 HO HN
  have BX2 : Blk W2 X 52 #[.int .i64 size, .slice (some ⟨g5, 0, none⟩) n c5, .slice none 0 0, .int .u32 last, .slice (some ⟨w.heap.size, 0, none⟩) n n] := BX2
  clear HBX HRS HB1 hX
  have hX : X < W2.heap.size := BX2.lt
  have x1 := BX2.cell 2
  have z1 := BX2.frozen 2
  obtain ⟨i1, hj0, hj1, hj3, hj2⟩ := info_parts info_oop
  have HO := Lib.hid (show W2.ownsRow (X + 1) 72 1 (.slice none 0 0) 0 [] from ⟨rfl, .inl ⟨rfl, rfl⟩⟩)
  have HN := Lib.hid ((HRR.out.below hB2).more hB2.size)
  have HB2 := Lib.hid hB2
  have HRS := Lib.hid RS2
  have HRW2 := Lib.hid RW2
  have HBX := Lib.hid BX2
  clear hB2 RS2 RW2 BX2
  go_upto_region 6 with (at_builtin; refine wpList_append_any _ rfl (.tmp 48) (.tmp 49) _ rfl (X + 1) 72 i1 _ 1 4 Tryz.underlying45 hj0 hj1 hj3 hj2 rfl (by omega) (.slice none 0 0) 0 [] rfl HO.out _ (some ad') 64 c' (u32s rs) rfl HN.out (one_u32s _) (by simp only [maxLen]; omega) (by omega) (by omega) ?_; intro v1 w6 hown5 hgrow hat5; obtain ⟨g6, c6, rfl, hrow5, hlen5, hge6⟩ := Row.of_any hown5 (by omega); have k5 := (hgrow.cell_far ⟨X, 2, none⟩ hX (by simp [Value.ownBlock])).trans x1; have z5 := (hgrow.frozen_far ⟨X, 2, none⟩ hX (by simp [Value.ownBlock])).trans z1; clear hown5)
  rw [List.nil_append] at hrow5
  try simp only [Nat.zero_add]
  have hbel := below_grown (Nat.le_refl _) HB2.out hgrow (by simp [Value.ownBlock])
  have hB3 := hbel.setCell (p := ⟨X, 2, none⟩) (by simp; omega) (.slice (some ⟨g6, 0, none⟩) 64 c6)
  have BX3 := (HBX.out.same (hgrow.block X hX (by simp [Value.ownBlock]))).set_ 2 (.slice (some ⟨g6, 0, none⟩) 64 c6)
  have RR3 := hrow5.far (p := ⟨X, 2, none⟩) (by simp; omega) (.slice (some ⟨g6, 0, none⟩) 64 c6)
  have RW3 := (HRW2.out.same (hgrow.block g5 HRW2.out.lt (by simp [Value.ownBlock]))).far (p := ⟨X, 2, none⟩) (by simp; omega) (.slice (some ⟨g6, 0, none⟩) 64 c6)
  have RS3 := (HRS.out.same (hgrow.block w.heap.size HRS.out.lt (by simp [Value.ownBlock]))).far (p := ⟨X, 2, none⟩) (by simp; omega) (.slice (some ⟨g6, 0, none⟩) 64 c6)
  have BX3 : Blk (w6.setCell ⟨X, 2, none⟩ (.slice (some ⟨g6, 0, none⟩) 64 c6)) X 52 #[.int .i64 size, .slice (some ⟨g5, 0, none⟩) n c5, .slice (some ⟨g6, 0, none⟩) 64 c6, .int .u32 last, .slice (some ⟨w.heap.size, 0, none⟩) n n] := BX3
  generalize hW : w6.setCell ⟨X, 2, none⟩ (.slice (some ⟨g6, 0, none⟩) 64 c6) = W3 at *
  have R3 : RAt W3 ⟨X, g5, c5, w.heap.size, n, g6, c6⟩ ⟨size, ws, List.replicate n false, rs, last⟩ := ⟨by
   show Blk W3 X 52 #[.int .i64 size, .slice (some ⟨g5, 0, none⟩) ws.length c5, .slice (some ⟨g6, 0, none⟩) rs.length c6, .int .u32 last, .slice (some ⟨w.heap.size, 0, none⟩) (List.replicate n false).length n]
   rw [HLW.out, HLR.out, List.length_replicate]; exact BX3, RW3, RS3, RR3⟩
  have HQN := Lib.hid (show ∀ k, HP.has ⟨X, g5, c5, w.heap.size, n, g6, c6⟩ k → w.heap.size ≤ k from by rintro k (rfl | rfl | rfl | rfl) <;> (try simp only []) <;> omega)
  have HPG := Lib.hid (show (HP.mk X g5 c5 w.heap.size n g6 c6).g = X ∧ (HP.mk X g5 c5 w.heap.size n g6 c6).gs = w.heap.size from ⟨rfl, rfl⟩)
  generalize hQ : (HP.mk X g5 c5 w.heap.size n g6 c6) = q at *
  clear hQ hW hbel hgrow hrow5 hat5 k5 z5 x1 z1 HO HN HRS HRW2 HBX HB2 BX3 RR3 RW3 RS3 hge5 hge6 hX hXX hlen5 hi0 hz0 hz3 hz2 hj0 hj1 hj3 hj2
  have HFAIL := Lib.hid (show parseW ws = none → loadE size ws rs last = 20 from fun e => loadE_no HB'.out (not_loadOk_of_none e))
  have HBAD := Lib.hid (show ∀ wz, loadE size ws rs last = 20 → Below w.heap.size w wz → RLoadP size ws rs last w (.returned (.tuple #[.pointer none, .int .i64 20])) wz from fun wz e hb => ⟨hb, .inl ⟨by rw [e]; decide, by rw [e]; rfl⟩⟩)
  have q0 := HCW.out W3 hB3 0 hnn
  rw [show ad.add 0 = ad by unfold Addr.add; simp] at q0
  have hn0 : (0 : Int) < (n : Int) := by omega
  have HB3 := Lib.hid hB3
  have HR3 := Lib.hid R3
  clear hB3 R3
  by_cases h0 : ws.getD 0 0 = 0
  case neg =>
   have hb : ((ws.getD 0 0 : Int) != 0) = true := by rw [bne_iff_ne]; omega
   have HN := Lib.hid (HFAIL.out (by
    unfold parseW
    split
    ·rename_i hw; simp at h0
    ·rfl))
   generalize ws.getD 0 0 = x at *
   clear h0
   go_wp2_with fail
   go_ret2
   exact HBAD.out _ HN.out HB3.out
  obtain ⟨r0, hr0⟩ : ∃ r0, ws = 0 :: r0 := by
   cases hw : ws with
   | nil => have := HLW.out; rw [hw] at this; simp at this; omega
   | cons a r => rw [hw] at h0; simp at h0; exact ⟨r, by rw [h0]⟩
  rw [h0] at q0
  have HM0 := Lib.hid (show RLoadMid q size ws rs last w 1 W3 from ⟨HB3.out, [], r0, by rw [hr0]; exact Pre.start, rfl, by
   have e : (false :: msOf []) ++ List.replicate r0.length false = List.replicate n false := by
    have := HLW.out
    rw [hr0] at this
    rw [← this]
    simp [msOf, List.replicate_succ]
   rw [e]; exact HR3.out⟩)
  clear hr0 h0 HR3
  go_wp2_with fail
  clear q0
  go_loopw [11] (fun i wr => ∃ k : Nat, i = .int .i64 k ∧ RLoadMid q size ws rs last w k wr) (fun i _ => n - (intOf i).toNat)
  case atStart => exact ⟨1, rfl, HM0.out⟩
  case round =>
   obtain ⟨k, rfl, hbk, l, r, hp, rfl, Rr⟩ := hrel
   have hlen := hp.len
   rw [HLW.out] at hlen
   by_cases hr0 : r = []
   ·subst hr0
    simp only [List.length_nil, Nat.add_zero] at hlen
    have HD := Lib.hid hp.done
    have Rr : RAt wr q ⟨size, ws, false :: msOf l, rs, last⟩ := by
     have e : (false :: msOf l) ++ List.replicate ([] : List Nat).length false = false :: msOf l := by simp
     rw [e] at Rr; exact Rr
    have hof : (⟨size, ws, false :: msOf l, rs, last⟩ : HM) = HM.ofWords size ws rs last := by
     unfold HM.ofWords
     rw [HD.out]
     rfl
    have hinv := parseW_inv H32.out HD.out
    have L3 : HM.Laid ⟨size, ws, false :: msOf l, rs, last⟩ l := ⟨hinv.1, rfl, hinv.2⟩
    have F3 : HM.Fit ⟨size, ws, false :: msOf l, rs, last⟩ := ⟨h1, h2, by show 1 ≤ ws.length; rw [HLW.out]; exact hnn, by show ws.length ≤ size; rw [HLW.out]; exact hnsz, by
     show (false :: msOf l).length = ws.length
     rw [hinv.1]; simp [msOf_len], HLR.out, H32.out, H32'.out, hl⟩
    have HSN := Lib.hid (keeps_any Rr F3 L3)
    unfold ptr at HSN
    rw [HPG.out.1] at HSN
    have HOF := Lib.hid hof
    have HRR3 := Lib.hid Rr
    have HBK := Lib.hid hbk
    clear hof hinv L3 F3 Rr hbk hp
    rw [← hlen] at *
    go_wp2_with fail
    refine HSN.out.mono ?_
    rintro e w4 ⟨b2, rfl, hiff, hb4⟩
    have HIFF := Lib.hid hiff
    have HB5 := Lib.hid (below_top HBK.out hb4)
    have HR5 := Lib.hid (HRR3.out.below hb4)
    clear hiff hb4
    cases b2
    ·have HE := Lib.hid (loadE_no HB'.out (fun ok => by
      have := (loadOk_iff HD.out).1 ok
      rw [← HOF.out] at this
      exact absurd (HIFF.out.2 this) (by decide)))
     go_wp2_with fail
     go_ret2
     exact HBAD.out _ HE.out HB5.out
    ·have HE := Lib.hid (loadE_ok HB'.out ((loadOk_iff HD.out).2 (by rw [← HOF.out]; exact HIFF.out.1 rfl)))
     go_wp2_with fail
     go_ret2
     exact ⟨HB5.out, .inr ⟨HE.out, q, by rw [HPG.out.1]; rfl, by rw [← HOF.out]; exact HR5.out, HQN.out⟩⟩
   ·have hpos : 0 < r.length := List.length_pos_iff.2 hr0
    by_cases hr3 : r.length < 3
    ·have HN := Lib.hid (HFAIL.out (hp.none (parseT_short hr0 hr3)))
     have HBK := Lib.hid hbk
     clear hp hr0 Rr hbk
     generalize posOf l = K at *
     generalize r.length = m at *
     have hdec : decide (K < n) = true := by simp; omega
     have hdec1 : (n : Int) < (K : Int) + 3 := by omega
     have hKn : K < n := by omega
     have hdec2 : decide ((n : Int) < (K : Int) + 3) = true := by simpa using hdec1
     clear hlen hdec1
     go_wp2_with fail
     go_ret2
     exact HBAD.out _ HN.out HBK.out
    ·obtain ⟨a, b, c2, r', rfl⟩ : ∃ a b c r', r = a :: b :: c :: r' := by
      match r, hr3 with
      | a :: b :: c :: r', _ => exact ⟨a, b, c, r', rfl⟩
      | [], h => simp at h
      | [_], h => simp at h
      | [_, _], h => simp at h
     have hm : ∀ x ∈ a :: b :: c2 :: r', x < 4294967296 := fun x hx => H32.out x (by rw [hp.eq]; simp at hx ⊢; right; right; exact hx)
     have ba := hm a (by simp)
     have bb := hm b (by simp)
     have bc := hm c2 (by simp)
     have g0 := hp.get 0
     have g1 := hp.get 1
     have g2 := hp.get 2
     simp only [Nat.add_zero, List.getD_cons_zero, List.getD_cons_succ] at g0 g1 g2
     have HLEN := Lib.hid (show n = posOf l + (r'.length + 3) by simpa using hlen)
     have hw0 := HCW.out wr hbk (posOf l) (by have := HLEN.out; omega)
     have hw1 := HCW.out wr hbk (posOf l + 1) (by have := HLEN.out; omega)
     have hw2 := HCW.out wr hbk (posOf l + 2) (by have := HLEN.out; omega)
     rw [g0] at hw0
     rw [g1] at hw1
     rw [g2] at hw2
     have hw1 := cell_add hw1 (by omega)
     have hw2 := cell_add hw2 (by omega)
     have HBK := Lib.hid hbk
     have HPL := Lib.hid (show posOf l + 3 ≤ n by have := HLEN.out; omega)
     have HP := Lib.hid hp
     have HRR3 := Lib.hid Rr
     have hadr : ad.block < wr.heap.size := by have := hbk.size; omega
     clear g0 g1 g2 hm hlen hr0 hr3 hpos hp Rr
     generalize hKK : posOf l = K at *
     have HKK := Lib.hid hKK
     have hkn := HPL.out
     have hdec : decide (K < n) = true := by simp; omega
     have hdec2 : decide ((n : Int) < (K : Int) + 3) = false := by simp; omega
     have hlt0 : (K : Int) < (n : Int) := by omega
     have hlt1 : (K : Int) + 1 < (n : Int) := by omega
     have hlt2 : (K : Int) + 2 < (n : Int) := by omega
     have e1 : IntKind.i64.wrap ((K : Int) + 1) = (K : Int) + 1 := IntWalk.i64_in _ (by omega)
     have e2 : IntKind.i64.wrap ((K : Int) + 2) = (K : Int) + 2 := IntWalk.i64_in _ (by omega)
     have p1 : 0 ≤ (K : Int) + 1 := by omega
     have p2 : 0 ≤ (K : Int) + 2 := by omega
     have t1 : ((K : Int) + 1).toNat = K + 1 := by omega
     have t2 : ((K : Int) + 2).toNat = K + 2 := by omega
     have HU := Lib.hid (fun w => runpack_any a b c2 ba bb bc w)
     obtain ⟨x, ok, hX⟩ : ∃ (x : Hd) (ok : Bool), unpackV a b c2 = .tuple #[.agg #[.int .i64 x.size, .int .i64 x.fmt, .int .i64 x.spare, .int .u32 x.cls, .int .u32 x.ser], .bool ok] ∧ ok = okhd a b c2 ∧ (ok = true → x = unhd a b c2) := by
      cases hok : okhd a b c2
      ·exact ⟨⟨0, 0, 0, 0, 0⟩, false, by unfold unpackV; rw [hok]; rfl, rfl, fun e => by cases e⟩
      ·exact ⟨unhd a b c2, true, by unfold unpackV; rw [hok]; rfl, rfl, fun _ => rfl⟩
     obtain ⟨hX, hokE, hxE⟩ := hX
     rw [hX] at HU
     have HOKE := Lib.hid hokE
     have HXE := Lib.hid hxE
     clear hX hokE hxE hKK hkn ba bb bc hbk
     go_upto_region 12 with fail
     have KC := Lib.hid (show ∀ W', Below wr.heap.size wr W' → W'.cell? (ad.add K) = some (.int .u32 (a : Int)) ∧ W'.cell? ⟨ad.block, ad.off + (K + 1), none⟩ = some (.int .u32 (b : Int)) ∧ W'.cell? ⟨ad.block, ad.off + (K + 2), none⟩ = some (.int .u32 (c2 : Int)) from fun W' hb =>
      ⟨(hb.cell (by rw [block_of_add]; exact hadr)).trans hw0, (hb.cell (show (⟨ad.block, ad.off + (K + 1), none⟩ : Addr).block < wr.heap.size from hadr)).trans hw1, (hb.cell (show (⟨ad.block, ad.off + (K + 2), none⟩ : Addr).block < wr.heap.size from hadr)).trans hw2⟩)
     have HUA := Lib.hid (show Calls Tryz.prog 55 #[.agg #[.int .u32 a, .int .u32 b, .int .u32 c2]] wr.drew fun e w1 => e = .returned (.tuple #[.agg #[.int .i64 x.size, .int .i64 x.fmt, .int .i64 x.spare, .int .u32 x.cls, .int .u32 x.ser], .bool ok]) ∧ Below wr.heap.size wr w1 from
      (HU.out _).mono fun _ _ ⟨h1, h2⟩ => ⟨h1, below_top (below_drew (Below.refl _ _)) h2⟩)
     have HUB := Lib.hid (show Calls Tryz.prog 55 #[.agg #[.int .u32 a, .int .u32 b, .int .u32 c2]] (wr.alloc (.cells #[.int .i64 0, .int .i64 0, .int .i64 0, .int .u32 0, .int .u32 0] 103)).drew fun e w1 => e = .returned (.tuple #[.agg #[.int .i64 x.size, .int .i64 x.fmt, .int .i64 x.spare, .int .u32 x.cls, .int .u32 x.ser], .bool ok]) ∧ Below wr.heap.size wr w1 ∧ Blk w1 wr.heap.size 103 #[.int .i64 0, .int .i64 0, .int .i64 0, .int .u32 0, .int .u32 0] from
      (HU.out _).mono fun _ _ ⟨h1, h2⟩ => ⟨h1, below_top (below_drew (below_alloc1 (Below.refl _ _))) h2, ((Blk.new wr _ _).drew).below h2 (by simp [World.drew])⟩)
     have hb0 := Below.refl wr.heap.size wr
     go_cut [12, 13] (fun v v2 wx => ∃ g, v = ptr g ∧ v2 = .bool ok ∧ Below wr.heap.size wr wx ∧ Blk wx g 103 #[.int .i64 x.size, .int .i64 x.fmt, .int .i64 x.spare, .int .u32 x.cls, .int .u32 x.ser] ∧ wr.heap.size ≤ g)
     case first =>
      go_region_held3 (fun w' => w'.cell? (ad.add K) = some (.int .u32 (a : Int)) ∧ w'.cell? ⟨ad.block, ad.off + (K + 1), none⟩ = some (.int .u32 (b : Int)) ∧ w'.cell? ⟨ad.block, ad.off + (K + 2), none⟩ = some (.int .u32 (c2 : Int)))
       (first | with_reducible exact KC.out _ hb0 | with_reducible exact KC.out _ (Below.drew hb0) | with_reducible exact KC.out _ (below_alloc1 hb0) | with_reducible exact KC.out _ (Below.drew (below_alloc1 hb0)) | with_reducible exact KC.out _ hk | with_reducible exact KC.out _ (below_alloc1 hk) | with_reducible exact KC.out _ (below_set5 hk (Nat.le_refl _)))
       (first
         | (go_at_call 55; (with_reducible refine HUA.out.mono ?_); rintro e w1 ⟨rfl, hk⟩)
         | (go_at_call 55; (with_reducible refine HUB.out.mono ?_); rintro e w1 ⟨rfl, hk, hB6⟩; obtain ⟨g0, g1, g2, g3, g4⟩ := hB6.cells5; have hgz := hB6.fz; have hgl := hB6.lt))
      all_goals go_wp2_with fail
      all_goals go_meet
      ·exact ⟨_, rfl, rfl, below_alloc1 hk, Blk.new _ _ _, hk.size⟩
      ·exact ⟨_, rfl, rfl, below_set5 hk (Nat.le_refl _), hB6.setAll5 _ _ _ _ _, Nat.le_refl _⟩
     case rest =>
      obtain ⟨gx, rfl, rfl, hbc, BXh, hgx⟩ := hcut
      have HB5 := Lib.hid (below_top HBK.out hbc)
      have HR5 := Lib.hid (HRR3.out.below hbc)
      obtain ⟨d0, -, -, -, -⟩ := BXh.cells5
      clear KC HUA HUB hb0 HU hw0 hw1 hw2 hadr
      unfold ptr
      cases hok : ok
      ·have HN := Lib.hid (HFAIL.out (HP.out.none (parseT_bad (by rw [← HOKE.out, hok]))))
       clear hok hbc BXh
       go_wp2_with fail
       go_ret2
       exact HBAD.out _ HN.out HB5.out
      ·have hx := HXE.out hok
       have hokE : okhd a b c2 = true := by rw [← HOKE.out, hok]
       have HOK2 := Lib.hid hokE
       clear hok hokE HOKE HXE
       have hfit : x.size < 16777216 := by rw [hx]; exact Nat.mod_lt _ (by omega)
       by_cases hsz : x.size ≤ r'.length
       ·have hz5 : decide ((n : Int) < (K : Int) + 3 + (x.size : Int)) = false := by have := HLEN.out; simp; omega
        have HP2 := Lib.hid (HP.out.next H32.out HOK2.out (by rw [← hx]; exact hsz))
        have HPOS := Lib.hid (posOf_snoc l ⟨unhd a b c2, r'.take (unhd a b c2).size⟩)
        have HMS := Lib.hid (marks_set l ⟨unhd a b c2, r'.take (unhd a b c2).size⟩ (a :: b :: c2 :: r').length (r'.drop (unhd a b c2).size).length (by rw [← hx]; simp; omega))
        rw [HKK.out, ← hx] at HMS
        rw [HKK.out, ← hx] at HPOS
        rw [← hx] at HP2
        have HTL := Lib.hid (show (r'.take x.size).length = x.size by simp; omega)
        have HSL := Lib.hid (show (false :: msOf l ++ List.replicate (a :: b :: c2 :: r').length false).length = n by
         rw [List.length_append, List.length_cons, msOf_len, List.length_replicate, HLEN.out, ← HKK.out]; simp [posOf]; omega)
        have hkl : K < n := by have := HLEN.out; omega
        have c4 := HR5.out.c4
        have hkb : K + 3 + x.size ≤ n := by have := HLEN.out; omega
        have sl : (false :: msOf l ++ List.replicate (a :: b :: c2 :: r').length false).length = n := HSL.out
        simp only [sl] at c4
        have m1 := HR5.out.mark (i := K) (by show K < (false :: msOf l ++ List.replicate (a :: b :: c2 :: r').length false).length; rw [sl]; exact hkl)
        have z1 := HR5.out.2.2.1.frozen K
        have HS2 := Lib.hid (HR5.out.setMark K)
        have hne : gx ≠ q.gs := by
         have := HRR3.out.lt (k := q.gs) (.inr (.inr (.inl rfl)))
         omega
        obtain ⟨d0', -, -, -, -⟩ := (BXh.far (p := ⟨q.gs, K, none⟩) hne (.int .u8 1)).cells5
        have HB6 := Lib.hid (HB5.out.setCell (p := ⟨q.gs, K, none⟩) (by rw [HPG.out.2]; exact Nat.le_refl _) (.int .u8 1))
        rw [HPG.out.1] at c4
        clear sl hbc BXh HR5 HRR3 HP hx
        dsimp only at m1
        generalize (if (false :: msOf l ++ List.replicate (a :: b :: c2 :: r').length false).getD K false = true then (1 : Int) else 0) = mb at m1
        have hk4 : (K : Int) < (n : Int) := by omega
        go_wp2_with fail
        go_roundw
        case rel =>
         refine ⟨K + (3 + x.size), by go_num, HB6.out, l ++ [⟨x, r'.take x.size⟩], r'.drop x.size, HP2.out, by rw [HPOS.out, HTL.out]; omega, ?_⟩
         have e := HS2.out
         rw [HMS.out] at e
         exact e
        case measure => simp [intOf]; omega
       ·have hz5 : decide ((n : Int) < (K : Int) + 3 + (x.size : Int)) = true := by have := HLEN.out; simp; omega
        have hkb : K + 3 ≤ n := by have := HLEN.out; omega
        have HN := Lib.hid (HFAIL.out (HP.out.none (parseT_long (by rw [← hx]; omega))))
        clear hx hbc BXh hsz
        go_wp2_with fail
        go_ret2
        exact HBAD.out _ HN.out HB5.out
end
section
open Go.RowKit
end
section
open Go.RowKit Go.Maps
def numL (L : List Nat) (x : Nat) : Nat := if x ∈ L then L.idxOf x + 1 else 0
theorem numL_snoc {L : List Nat} {x : Nat} (h : x ∉ L) : numL (L ++ [x]) = upd (numL L) x (L.length + 1) := by
 funext y
 unfold numL upd
 by_cases hy : y = x
 ·subst hy
  rw [if_pos (by simp), if_pos rfl, List.idxOf_append, if_neg h]
  simp
 ·rw [if_neg hy]
  by_cases hm : y ∈ L
  ·rw [if_pos (by simp [hm]), List.idxOf_append, if_pos hm]
   show _ = if y ∈ L then _ else _
   rw [if_pos hm]
  ·rw [if_neg (by simp [hm, hy])]
   show _ = if y ∈ L then _ else _
   rw [if_neg hm]
theorem numL_le (L : List Nat) (x : Nat) : numL L x ≤ L.length := by
 unfold numL
 split
 ·rename_i h
  have := List.idxOf_lt_length_of_mem h
  omega
 ·omega
def stp (s : List Nat × Nat × (Nat → Nat)) (x : Nat) : List Nat × Nat × (Nat → Nat) := (s.1 ++ [x], if x ∈ s.1 then s.2.1 else s.2.1 + 1, upd s.2.2 x (s.2.1 + 1))
def stL (L : List Nat) : List Nat × Nat × (Nat → Nat) := L.foldl stp ([], 0, fun _ => 0)
theorem stL_snoc (L : List Nat) (x : Nat) : stL (L ++ [x]) = stp (stL L) x := by unfold stL; rw [List.foldl_append]; rfl
theorem stL_fst (L : List Nat) : (stL L).1 = L := by
 have h : ∀ (L : List Nat) s, (L.foldl stp s).1 = s.1 ++ L := by
  intro L
  induction L with
  | nil => intro s; simp
  | cons a L ih => intro s; rw [List.foldl_cons, ih]; simp [stp]
 have := h L ([], 0, fun _ => 0)
 simpa [stL] using this
theorem stL_le (L : List Nat) : (stL L).2.1 ≤ L.length := by
 have h : ∀ (L : List Nat) s, (L.foldl stp s).2.1 ≤ s.2.1 + L.length := by
  intro L
  induction L with
  | nil => intro s; simp
  | cons a L ih =>
    intro s
    rw [List.foldl_cons]
    refine Nat.le_trans (ih _) ?_
    have : (stp s a).2.1 ≤ s.2.1 + 1 := by unfold stp; simp only; split <;> omega
    simp; omega
 have := h L ([], 0, fun _ => 0)
 simpa [stL] using this
theorem snoc_ind {P : List Nat → Prop} (h0 : P []) (h1 : ∀ L x, P L → P (L ++ [x])) : ∀ L, P L := by
 intro L
 rw [← List.reverse_reverse L]
 generalize L.reverse = R
 induction R with
 | nil => exact h0
 | cons a R ih => rw [List.reverse_cons]; exact h1 _ _ ih
theorem stL_nodup : ∀ L : List Nat, L.Nodup → (stL L).2.1 = L.length ∧ (stL L).2.2 = numL L :=
 snoc_ind (fun _ => ⟨rfl, by funext y; simp [stL, numL]⟩) (fun L x ih hnd => by
  rw [List.nodup_append] at hnd
  have hx : x ∉ L := fun hm => hnd.2.2 x hm x (by simp) rfl
  obtain ⟨h1, h2⟩ := ih hnd.1
  rw [stL_snoc, numL_snoc hx]
  refine ⟨?_, ?_⟩
  ·show (if x ∈ (stL L).1 then _ else _) = _
   rw [stL_fst, if_neg hx, h1, List.length_append]; rfl
  ·show upd _ _ _ = _
   rw [h1, h2])
structure MapTyU (T K : TypeId) : Prop where
 ht : Tryz.prog.underlying T = some (.map K 32)
 hk : Tryz.prog.underlying K = some (.int .u32)
def MapU (K : TypeId) (w : World) (b : Nat) (L : List Nat) : Prop :=
 ∃ D : DataW Unit, Tidy D ∧ w.ownsMap Tryz.prog K (plainElem Tryz.prog 32) b L.length D ∧ (∀ x : Nat, x < 4294967296 → D.atKey (.int .u32 (x : Int)) (.lit (.int .u32 0)) = .lit (.int .u32 ((stL L).2.2 x : Nat))) ∧
   (∀ x : Nat, x < 4294967296 → Maps.has D (.int .u32 (x : Int)) = decide (x ∈ L)) ∧ Maps.size D = (stL L).2.1
theorem zeroU (w : World) : (zeroValue 32).run Tryz.prog w = .ok (.int .u32 0) w := by kernel_rfl
section
variable {T K : TypeId} {w w' : World} {b : Nat} {L : List Nat}
theorem MapU.made (w : World) (K : TypeId) : MapU K (w.alloc (.map #[] 0)) w.heap.size [] :=
 ⟨.map [], tidy_empty, World.ownsMap_made _ _ _ _, fun x _ => rfl, fun x _ => rfl, rfl⟩
theorem MapU.lt (h : MapU K w b L) : b < w.heap.size := by obtain ⟨D, _, h, _⟩ := h; exact h.lt
theorem MapU.obj (h : MapU K w b L) : ∃ es c, w.heap[b]? = some (.map es c) := by obtain ⟨D, _, ⟨es, clock, hb, r⟩, _⟩ := h; exact ⟨es, clock, hb⟩
theorem MapU.same (h : MapU K w b L) (hs : w'.heap[b]? = w.heap[b]?) : MapU K w' b L := by
 obtain ⟨D, hD, ⟨es, clock, hb, r⟩, hf⟩ := h
 exact ⟨D, hD, ⟨es, clock, hs.trans hb, r⟩, hf⟩
theorem MapU.below (h : MapU K w b L) (hb : Below w.heap.size w w') : MapU K w' b L := h.same (hb.block b h.lt)
set_option maxRecDepth 100000 in
theorem MapU.look (h : MapU K w b L) (hnd : L.Nodup) (M : MapTyU T K) {x : Nat} (hx : x < 4294967296) : (Instr.lookup T (.map (some b)) (.int .u32 (x : Int)) false).run Tryz.prog w = .ok (.int .u32 (numL L x : Nat)) w := by
 obtain ⟨D, hD, ho, hf, _⟩ := h
 obtain ⟨c, hrun, hat, _⟩ := ho.lookup_int (int_keyed M.hk) M.ht Tryz.underlying32 (zeroU w) (keyOf_int_mk M.hk (wf_u32 hx))
 rw [hf x hx, (stL_nodup L hnd).2] at hat
 have e : c = (numL L x : Nat) := by
  simp only [DataW.lit.injEq, Lit.int.injEq, true_and] at hat
  exact hat.symm
 subst e
 exact hrun
theorem MapU.len (h : MapU K w b L) (M : MapTyU T K) (ty : TypeId) : (Builtin.len_ #[T] ty #[.map (some b)]).run Tryz.prog w = .ok (.int .i64 ((stL L).2.1 : Nat)) w := by
 obtain ⟨D, hD, ho, hf, hh, hs⟩ := h
 rw [← hs]
 exact ho.len M.ht ty
set_option maxRecDepth 100000 in
theorem MapU.put (h : MapU K w b L) (M : MapTyU T K) {x : Nat} (hx : x < 4294967296) (hn : L.length < 4294967295) :
 ∃ w', (Instr.mapUpdate T (.map (some b)) (.int .u32 (x : Int)) (.int .u32 (((stL L).2.1 : Nat) + 1 : Int))).run Tryz.prog w = .ok () w' ∧ MapU K w' b (L ++ [x]) ∧ w.grownBy w' (some b) := by
 obtain ⟨D, hD, ho, hf, hh, hs⟩ := h
 have hle := stL_le L
 obtain ⟨w', hrun, ho', hg⟩ := ho.update (int_keyed M.hk) M.ht (by unfold maxLen; omega) (keyOf_int_mk M.hk (wf_u32 hx)) (plainElem_int Tryz.underlying32 (wf_u32 (x := (stL L).2.1 + 1) (by omega)))
 refine ⟨w', hrun, ⟨_, hD.put (show WideAt.IsKeyLit (.int .u32 (x : Int)) from trivial) _, by rw [List.length_append]; exact ho', fun y hy => ?_, fun y hy => ?_, ?_⟩, hg⟩
 ·rw [stL_snoc]
  show _ = DataW.lit (.int .u32 ((upd (stL L).2.2 x ((stL L).2.1 + 1) y : Nat) : Int))
  unfold upd
  by_cases hyx : y = x
  ·subst hyx
   rw [if_pos rfl]
   exact atKey_put_same hD.isMap (show WideAt.IsKeyLit (.int .u32 (y : Int)) from trivial) _ _
  ·rw [if_neg hyx, atKey_put_other (by intro e; injection e with _ e; omega)]
   exact hf y hy
 ·by_cases hyx : y = x
  ·subst hyx
   rw [has_put_same hD.isMap (show WideAt.IsKeyLit (.int .u32 (y : Int)) from trivial) _]
   simp
  ·rw [has_put_other (by intro e; injection e with _ e; omega), hh y hy]
   simp [hyx]
 ·rw [Maps.size_put hD, hh x hx, hs, stL_snoc]
  show _ = if x ∈ (stL L).1 then _ else _
  rw [stL_fst]
  by_cases hm : x ∈ L
  ·rw [if_pos (by simpa using hm), if_pos hm]
  ·rw [if_neg (by simpa using hm), if_neg hm]
end
def oopsL (l : List Ob) : List Nat := (List.range l.length).map fun j => 2 * posOf (l.take j)
theorem oopsL_len (l : List Ob) : (oopsL l).length = l.length := by simp [oopsL]
theorem oopsL_take1 {l : List Ob} {k : Nat} (hk : k < l.length) : (oopsL l).take (k + 1) = (oopsL l).take k ++ [2 * posOf (l.take k)] := by
 rw [List.take_add_one, List.getElem?_eq_getElem (by rw [oopsL_len]; exact hk)]
 simp [oopsL]
theorem oopsL_get {l : List Ob} {k : Nat} (hk : k < l.length) : (oopsL l)[k]? = some (2 * posOf (l.take k)) := by
 rw [List.getElem?_eq_getElem (by rw [oopsL_len]; exact hk)]
 simp [oopsL]
theorem posOf_take_mono {l : List Ob} {j k : Nat} (hjk : j < k) (hk : k ≤ l.length) : posOf (l.take j) < posOf (l.take k) := by
 induction k with
 | zero => omega
 | succ k ih =>
   have h1 := posOf_take_succ (l := l) k (by omega)
   rcases Nat.lt_or_ge j k with h | h
   ·have := ih h (by omega); omega
   ·have : j = k := by omega
    subst this; exact h1
theorem oopsL_new {l : List Ob} {k : Nat} (hk : k < l.length) : 2 * posOf (l.take k) ∉ (oopsL l).take k := by
 intro hm
 obtain ⟨j, hj, he⟩ := List.getElem_of_mem hm
 rw [List.length_take, oopsL_len] at hj
 have h1 : (oopsL l)[j]? = some (2 * posOf (l.take j)) := oopsL_get (by omega)
 rw [List.getElem_take] at he
 rw [List.getElem?_eq_getElem (by rw [oopsL_len]; omega)] at h1
 injection h1 with h1
 rw [h1] at he
 have := posOf_take_mono (l := l) (j := j) (k := k) (by omega) (by omega)
 omega
theorem oopsL_nodup (l : List Ob) : (oopsL l).Nodup := by
 unfold oopsL
 rw [List.nodup_iff_pairwise_ne, List.pairwise_map]
 refine List.Pairwise.imp_of_mem ?_ (List.pairwise_lt_range (n := l.length))
 intro a b ha hb hlt he
 have := posOf_take_mono (l := l) (j := a) (k := b) hlt (by have := List.mem_range.1 hb; omega)
 omega
theorem oopsL_zero (l : List Ob) : 0 ∉ oopsL l := by
 unfold oopsL
 simp
 intro j _
 have := posOf_pos (l.take j)
 omega
theorem oopsL_eq (l : List Ob) : (List.finRange l.length).map (fun i => 2 * posOf (l.take i.1)) = oopsL l := by
 apply List.ext_getElem
 ·simp [oopsL]
 ·intro i h1 h2
  simp [oopsL]
theorem oopsL_le {h : HM} {l : List Ob} (G : h.Good l) : (oopsL l).length ≤ 1048576 := by
 rw [oopsL_len]
 have hroom := G.fit.room
 have hhi := G.fit.hi
 rcases Nat.eq_zero_or_pos l.length with h0 | h0
 ·omega
 ·have h1 := posOf_take_lt G (l.length - 1) (by omega)
  have h2 : ∀ k, k ≤ l.length → k ≤ posOf (l.take k) := fun k => by
   induction k with
   | zero => intro _; omega
   | succ k ih => intro hk; have := ih (by omega); have := posOf_take_succ (l := l) k (by omega); omega
  have := h2 (l.length - 1) (by omega)
  omega
end
section
open Go.RowKit
attribute [local go_sem] Oper.semAt_some
def zigI (n : Int) : Nat := (2 * (if 0 ≤ n then 2 * n else -2 * n - 1) + 1).toNat
theorem zigI_pos {n : Int} (h : 0 ≤ n) : (zigI n : Int) = 2 * (2 * n) + 1 := by unfold zigI; rw [if_pos h]; omega
theorem zigI_neg {n : Int} (h : ¬ 0 ≤ n) : (zigI n : Int) = 2 * (-2 * n - 1) + 1 := by unfold zigI; rw [if_neg h]; omega
def vnum (L : List Nat) (o : Nat) : Nat := if o % 2 = 1 then zigI (smallV o) else 2 * numL L o
theorem vnum_lt {L : List Nat} (hL : L.length ≤ 1048576) {o : Nat} (ho : o < 4294967296) : vnum L o < 4294967296 := by
 have h1 := smallV_lo o ho
 have h2 := smallV_hi o ho
 unfold vnum
 split
 ·by_cases h : 0 ≤ smallV o
  ·have := zigI_pos h; omega
  ·have := zigI_neg h; omega
 ·have := numL_le L o; omega
theorem oopTyU : MapTyU 65 72 := ⟨Tryz.underlying65, Tryz.underlying72⟩
structure SvAt (w : World) (sg mb : Nat) (g : Nat) (L : List Nat) : Prop where
 box : Blk w sg 141 #[ptr g, .map (some mb)]
 map : MapU 72 w mb L
theorem SvAt.below {w w' : World} {sg mb g : Nat} {L : List Nat} (S : SvAt w sg mb g L) (hb : Below w.heap.size w w') : SvAt w' sg mb g L := ⟨S.box.below hb S.box.lt, S.map.below hb⟩
theorem Value_none (o : Nat) (ho : o < 4294967296) (h1 : o % 2 ≠ 1) (w : World) :
 Calls Tryz.prog 112 #[.int .u32 o] w fun e w' => e = .returned (.tuple #[.int .i64 0, .int .i64 3]) ∧ w = w' := by
 have HK := Lib.hid (kind_any o ho w)
 have hk : ((kindM o : Int) != 1) = true := by
  have : kindM o ≠ 1 := by unfold kindM; split <;> (try split) <;> omega
  simp; omega
 generalize kindM o = k at *
 clear h1
 go_enter Tryz.func112, Tryz.ntmps112
 go_wp2_with fail
 refine HK.out.mono ?_
 rintro e w1 ⟨rfl, rfl⟩
 go_wp2_with fail
 go_ret2
 exact ⟨rfl, rfl⟩
set_option maxRecDepth 100000 in
set_option maxHeartbeats 4000000 in
theorem svalue_any {w : World} {sg mb g : Nat} {L : List Nat} (S : SvAt w sg mb g L) (hL : L.length ≤ 1048576) (hnd : L.Nodup) (o : Nat) (ho : o < 4294967296) :
 Calls Tryz.prog 82 #[.pointer (some ⟨sg, 0, none⟩), .int .u32 o] w (BytesN (cnt7 (vnum L o)) w) := by
 have HN := Lib.hid (fun (x : Nat) (hx : x < 4294967296) => inumber_any x hx w)
 have HL := Lib.hid (vnum_lt hL ho)
 by_cases h1 : o % 2 = 1
 ·have HV := Lib.hid (Value_any o ho h1 w)
  have HZ := Lib.hid (show vnum L o = zigI (smallV o) by unfold vnum; rw [if_pos h1])
  have hlo := smallV_lo o ho
  have hhi := smallV_hi o ho
  clear h1 S
  rw [HZ.out] at HL ⊢
  generalize smallV o = n at *
  by_cases hn : 0 ≤ n
  ·have hd : decide (n < 0) = false := by simpa using hn
   have HF := Lib.hid (zigI_pos hn)
   clear hn
   go_enter Tryz.func82, Tryz.ntmps82
   go_wp2_with fail
   refine HV.out.mono ?_
   rintro e w' ⟨rfl, rfl⟩
   go_wp2_with fail
   rw [show (2 * (2 * n % 4294967296) % 4294967296 + 1 : Int) = ((zigI n : Nat) : Int) by have := HF.out; omega]
   refine (HN.out _ HL.out).mono ?_
   rintro e w2 ⟨v', rfl, h2⟩
   go_wp2_with fail
   go_ret
   exact ⟨_, rfl, h2⟩
  ·have hd : decide (n < 0) = true := by simp; omega
   have HF := Lib.hid (zigI_neg hn)
   clear hn
   go_enter Tryz.func82, Tryz.ntmps82
   go_wp2_with fail
   refine HV.out.mono ?_
   rintro e w' ⟨rfl, rfl⟩
   go_wp2_with fail
   rw [show (2 * ((-2 * n - 1) % 4294967296) % 4294967296 + 1 : Int) = ((zigI n : Nat) : Int) by have := HF.out; omega]
   refine (HN.out _ HL.out).mono ?_
   rintro e w2 ⟨v', rfl, h2⟩
   go_wp2_with fail
   go_ret
   exact ⟨_, rfl, h2⟩
 ·have HV := Lib.hid (Value_none o ho h1 w)
  have HZ := Lib.hid (show vnum L o = 2 * numL L o by unfold vnum; rw [if_neg h1])
  have c1 := S.box.cell 1
  have hlk := S.map.look hnd oopTyU ho
  have hnl := numL_le L o
  clear h1 S
  rw [HZ.out] at HL ⊢
  generalize numL L o = k at *
  go_enter Tryz.func82, Tryz.ntmps82
  go_wp2_with fail
  refine HV.out.mono ?_
  rintro e w' ⟨rfl, rfl⟩
  go_wp2_with fail
  rw [show (2 * (k : Int)) = ((2 * k : Nat) : Int) by omega]
  refine (HN.out _ HL.out).mono ?_
  rintro e w2 ⟨v', rfl, h2⟩
  go_wp2_with fail
  go_ret
  exact ⟨_, rfl, h2⟩
theorem BytesB.app {w wr w0 w5 : World} {B : Nat} {v b v1 : Value} {bs cs ds : List Nat} (h : BytesB B v bs cs w (.returned b) wr) (hb : Below wr.heap.size wr w0)
 (ho : w5.ownsRow B 5 1 v1 ((bs ++ cs).length + ds.length) (u8c (bs ++ cs) ++ u8c ds)) (hg : w0.grownBy w5 b.ownBlock) (hat : v1.ownBlock = b.ownBlock ∨ v1.ownBlock = some w0.heap.size) : BytesB B v bs (cs ++ ds) w (.returned v1) w5 := by
 obtain ⟨b', hb', h0, h1, h2, h3, h4, h5, h6⟩ := h
 injection hb' with hb'
 subst hb'
 refine ⟨v1, rfl, ?_, Nat.le_trans h1 (Nat.le_trans hb.size hg.size), hg.os.trans (hb.os.trans h2), hg.tape.trans (hb.tape.trans h3), hg.output.trans (hb.output.trans h4), fun k hk hne => ?_, fun k hk => ?_⟩
 ·rw [← List.append_assoc, List.length_append, u8c_appI]
  exact ho
 ·have hk2 : k < wr.heap.size := by omega
  refine (hg.block k (Nat.lt_of_lt_of_le hk2 hb.size) (fun e => ?_)).trans ((hb.block k hk2).trans (h5 k hk hne))
  rcases h6 k (by first | exact e | exact e.symm) with h | h
  ·exact hne h
  ·omega
 ·rcases hat with e | e
  ·exact h6 k (e ▸ hk)
  ·rw [e] at hk
   injection hk with hk
   have := hb.size
   exact .inr (by omega)
set_option maxRecDepth 100000 in
set_option maxHeartbeats 4000000 in
theorem rnumber_any {w : World} {B : Nat} {v : Value} {bs : List Nat} (hown : w.ownsRow B 5 1 v bs.length (u8c bs)) (hB : B ≤ w.heap.size) (hn : bs.length ≤ 10000000000000) (x : Nat) (hx : x < 4294967296) :
 Calls Tryz.prog 29 #[v, .int .u32 x] w (BytesB B v bs (cnt7 x) w) := by
 have hc5 := cnt7I_len5 hx
 obtain ⟨i0, hi0, hz0, hz1, hz2⟩ := info_parts info_u8
 have HO := Lib.hid hown
 clear hown
 go_enter Tryz.func29, Tryz.ntmps29
 go_wp2_with fail
 go_loopw [0, 1] (fun b y wr => ∃ m cs, y = .int .u32 (m : Nat) ∧ m < 4294967296 ∧ cs ++ cnt7 m = cnt7 x ∧ BytesB B v bs cs w (.returned b) wr) (fun _ y _ => (intOf y).toNat)
 case atStart => exact ⟨x, [], rfl, hx, rfl, v, rfl, by simpa using HO.out, Nat.le_refl _, rfl, rfl, rfl, fun _ _ _ => rfl, fun k hk => .inl hk⟩
 case round =>
  obtain ⟨m, cs, rfl, hm, hcat, hBB⟩ := hrel
  have HBB := Lib.hid hBB
  obtain ⟨b', hb', ho, h1, -⟩ := hBB
  injection hb' with hb'
  subst hb'
  have HOW := Lib.hid ho
  have HCAT := Lib.hid hcat
  clear ho hcat
  have hBw : B ≤ wr.heap.size := by omega
  by_cases h128 : m < 128
  ·have hbl : cs.length ≤ 10 := by have := congrArg List.length HCAT.out; simp at this; omega
   have hd : decide (128 ≤ (m : Int)) = false := by simp; omega
   have hm8 : ((m : Int) % 256) = (m : Int) := by omega
   have HC1 := Lib.hid (show cnt7 x = cs ++ [m] by rw [← HCAT.out, cnt7_small h128])
   clear h128 hm
   go_wp2_with (at_builtin; refine wpList_append_any _ rfl (.tmp 16) (.tmp 19) _ rfl B 5 i0 _ 1 1 Tryz.underlying22 hi0 hz0 hz1 hz2 rfl (by omega) _ (bs ++ cs).length _ rfl (HOW.out.alloc _) (wr.heap.size + 1) (some ⟨wr.heap.size, 0, none⟩) 1 1 (u8c [m]) rfl ⟨rfl, fun _ => ⟨_, rfl, by simp, cell_one_new _ _ _⟩⟩ (one_u8c _) (by simp only [maxLen, List.length_append]; omega) (by simp only [List.length_append]; omega) (by simp; omega) ?_; intro v1 w5 hown5 hgrow hat5)
   go_ret
   rw [HC1.out]
   exact HBB.out.app ((Below.refl _ _).alloc (Nat.le_refl _) _) hown5 hgrow hat5
  ·have hbl : cs.length + 1 ≤ 10 := by have := congrArg List.length HCAT.out; rw [cnt7_big h128] at this; simp at this; omega
   have hd : decide (128 ≤ (m : Int)) = true := by simp; omega
   have hor : ((m : Int) % 128 % 256 + 128) % 256 = ((m % 128 + 128 : Nat) : Int) := by omega
   have HC1 := Lib.hid (show (cs ++ [m % 128 + 128]) ++ cnt7 (m / 128) = cnt7 x by rw [← HCAT.out, cnt7_big h128]; simp)
   have HD := Lib.hid (show m / 128 < 4294967296 ∧ m / 128 < m by omega)
   clear h128 hm
   go_wp2_with (at_builtin; refine wpList_append_any _ rfl (.tmp 7) (.tmp 12) _ rfl B 5 i0 _ 1 1 Tryz.underlying22 hi0 hz0 hz1 hz2 rfl (by omega) _ (bs ++ cs).length _ rfl (HOW.out.alloc _) (wr.heap.size + 1) (some ⟨wr.heap.size, 0, none⟩) 1 1 (u8c [m % 128 + 128]) rfl ⟨rfl, fun _ => ⟨_, rfl, by simp, cell_one_new _ _ _⟩⟩ (one_u8c _) (by simp only [maxLen, List.length_append]; omega) (by simp only [List.length_append]; omega) (by simp; omega) ?_; intro v1 w5 hown5 hgrow hat5)
   go_roundw
   case rel => have hd1 := HD.out.1; exact ⟨m / 128, cs ++ [m % 128 + 128], by go_num, HD.out.1, HC1.out, HBB.out.app ((Below.refl _ _).alloc (Nat.le_refl _) _) hown5 hgrow hat5⟩
   case measure => have := HD.out.2; simp [intOf]; omega
def bookV (mb : Nat) (va : Value) : Value := .agg #[.map (some mb), va]
set_option maxRecDepth 100000 in
set_option maxHeartbeats 4000000 in
theorem rbvalue_any {w : World} {mb : Nat} {va : Value} {L : List Nat} (M : MapU 72 w mb L) (hL : L.length ≤ 1048576) (hnd : L.Nodup) (h0 : 0 ∉ L) (o : Nat) (ho : o < 4294967296) :
 Calls Tryz.prog 31 #[bookV mb va, .int .u32 o] w (Told (.int .u32 (vnum L o : Nat)) w) := by
 have hb0 := (Below.refl w.heap.size w).alloc (Nat.le_refl _) (.cells #[.map (some mb), va] 67)
 have HB0 := Lib.hid hb0
 unfold bookV
 by_cases hz : o = 0
 ·have HZ := Lib.hid (show vnum L o = 0 by subst hz; unfold vnum numL; rw [if_neg (by decide), if_neg h0])
  subst hz
  clear hb0 M
  go_enter Tryz.func31, Tryz.ntmps31
  go_wp2_with fail
  go_ret
  exact ⟨by rw [HZ.out]; rfl, HB0.out⟩
 ·have hz1 : ((o : Int) == 0) = false := by simp; omega
  by_cases h1 : o % 2 = 1
  ·have h2 : ((o : Int) % 2 == 0) = false := by simp; omega
   have HV := Lib.hid (fun w => rvalue_any o ho h1 w)
   have HZ := Lib.hid (show vnum L o = zigI (smallV o) by unfold vnum; rw [if_pos h1])
   have hlo := smallV_lo o ho
   have hhi := smallV_hi o ho
   clear h1 M hb0 hz
   rw [HZ.out]
   generalize smallV o = n at *
   by_cases hn : 0 ≤ n
   ·have hd : decide (0 ≤ n) = true := by simpa using hn
    have HF := Lib.hid (show (4 * n + 1) % 4294967296 = (zigI n : Int) by have := zigI_pos hn; omega)
    clear hn
    go_enter Tryz.func31, Tryz.ntmps31
    go_wp2_with fail
    refine (HV.out _).mono ?_
    rintro e w' ⟨rfl, rfl⟩
    go_wp2_with fail
    go_ret
    exact ⟨congrArg (fun z => Ending.returned (Value.int .u32 z)) HF.out, HB0.out⟩
   ·have hd : decide (0 ≤ n) = false := by simp; omega
    have HF := Lib.hid (show (2 * (-2 * n - 1) + 1) % 4294967296 = (zigI n : Int) by have := zigI_neg hn; omega)
    clear hn
    go_enter Tryz.func31, Tryz.ntmps31
    go_wp2_with fail
    refine (HV.out _).mono ?_
    rintro e w' ⟨rfl, rfl⟩
    go_wp2_with fail
    go_ret
    exact ⟨congrArg (fun z => Ending.returned (Value.int .u32 z)) HF.out, HB0.out⟩
  ·have h2 : ((o : Int) % 2 == 0) = true := by simp; omega
   have HZ := Lib.hid (show vnum L o = 2 * numL L o by unfold vnum; rw [if_neg h1])
   have hlk := (M.below hb0).look hnd oopTyU ho
   have hnl := numL_le L o
   have c1 := (Blk.new w 67 #[.map (some mb), va]).cell 0
   clear h1 M hb0 hz
   rw [HZ.out]
   generalize numL L o = k at *
   go_enter Tryz.func31, Tryz.ntmps31
   go_wp2_with fail
   go_ret
   exact ⟨by congr 2, HB0.out⟩
end
end Go.Proofs.YthadjmhipckelaaGreatDoor
