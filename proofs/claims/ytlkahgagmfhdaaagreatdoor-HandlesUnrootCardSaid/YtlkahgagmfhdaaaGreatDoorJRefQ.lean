/- The document's Load. -/
/- built: a case's heap, the program's and the document's. -/
/- A map of the call's own from oops to words, as a function on numbers; numbers of things in a list. -/
/- What is held from beginnings on, the nearest ahead; the live objects, as they lie. Plain data. -/
/- Those oops that name objects: only, by slices.DeleteFunc. -/
import Derived.Test.YtlkahgagmfhdaaaGreatDoorJAll
import Derived.Test.YtlkahgagmfhdaaaGreatDoorJSound
import Derived.Test.YtlkahgagmfhdaaaGreatDoorJRefI
import Derived.Test.YtlkahgagmfhdaaaGreatDoorJLive
import Derived.Test.YtlkahgagmfhdaaaGreatDoorJMapIs
import Derived.Test.YtlkahgagmfhdaaaGreatDoorJIApp
import Derived.Test.YtlkahgagmfhdaaaGreatDoorJLook
import Derived.Maps.OwnSet
import Derived.Lib.SliceRun
set_option linter.unusedVariables false
set_option linter.unusedSimpArgs false
set_option linter.unusedSectionVars false
namespace Go.Proofs.YtlkahgagmfhdaaaGreatDoor
open Go.RowKit
attribute [local go_sem] Oper.semAt_some

theorem RAt.setMark {w : World} {p : HP} {h : HM} (H : RAt w p h) (k : Nat) : RAt (w.setCell ⟨p.gs, k, none⟩ (.int .u8 1)) p { h with starts := h.starts.set k true } := by
  obtain ⟨hb, hw, hs, hr⟩ := H
  have n1 : p.g ≠ p.gs := fun e => Row.ne_blk hs hb (by decide) e.symm
  have n2 : p.gw ≠ p.gs := hw.ne_ hs (by decide)
  have n3 : p.gr ≠ p.gs := hr.ne_ hs (by decide)
  refine ⟨?_, hw.far n2 _, ?_, hr.far n3 _⟩
  · have := hb.far (p := ⟨p.gs, k, none⟩) n1 (.int .u8 1)
    simpa using this
  · have := hs.set k (.int .u8 1)
    simpa [begins] using this
theorem make_u8n (F : Nat) (hF : F ≤ 1048576) (w : World) :
    (Instr.makeSlice 22 (.int .i64 (F : Int)) (.int .i64 (F : Int))).run Tryz.prog w = .ok (.slice (some ⟨w.heap.size, 0, none⟩) F F) (w.alloc (.cells (zcells (.int .u8 0) F) 5)) := by
  obtain ⟨i0, hi0, hz0, hz1, hz2⟩ := info_parts info_u8
  have := run_make_rowN (P := Tryz.prog) 22 5 i0 _ Tryz.underlying22 hi0 hz0 .i64 .i64 F F (Nat.le_refl _) (by rw [hz2]; omega) (by omega) w
  have e : madeCells (Value.int .u8 0).cells (F * 1) = zcells (.int .u8 0) F := by
    apply Array.ext
    · simp [madeCells, zcells, Value.cells]
    · intro i h1 h2
      simp [madeCells, zcells, Value.cells, Nat.mod_one]
  rw [this, hz1, e]
theorem begins_row (w : World) (F : Nat) (hF : F ≤ maxLen) : Row (w.alloc (.cells (zcells (.int .u8 0) F) 5)) w.heap.size 5 F (begins (List.replicate F false)) :=
  ⟨zcells (.int .u8 0) F, Blk.new w _ _, by simp [begins], hF, by simp [zcells], by simp [zcells, begins]⟩

/-- What the document's Load answers. -/
def RLoadP (size : Nat) (ws rs : List Nat) (last : Nat) (w : World) (d : Ending) (w' : World) : Prop :=
  Below w.heap.size w w' ∧ ((loadE size ws rs last ≠ 0 ∧ d = .returned (.tuple #[.pointer none, .int .i64 (loadE size ws rs last : Nat)])) ∨
    (loadE size ws rs last = 0 ∧ ∃ q : HP, d = .returned (.tuple #[ptr q.g, .int .i64 0]) ∧ RAt w' q (HM.ofWords size ws rs last) ∧ ∀ k, q.has k → w.heap.size ≤ k))
def RLoadMid (q : HP) (size : Nat) (ws rs : List Nat) (last : Nat) (w : World) (k : Nat) (wr : World) : Prop :=
  Below w.heap.size w wr ∧ ∃ l r, Pre ws l r ∧ k = posOf l ∧ RAt wr q ⟨size, ws, (false :: msOf l) ++ List.replicate r.length false, rs, last⟩

set_option maxRecDepth 100000 in
set_option maxHeartbeats 4000000 in
theorem rLoad_any {w : World} (size : Nat) (h1 : 64 ≤ size) (h2 : size ≤ 1048576) (A : Option Addr) (n c : Nat) (ws : List Nat) (hn : n ≤ 9223372036854775807) (hr : Reads w w.heap.size 1 A n (u32s ws)) (h32 : ∀ x ∈ ws, x < 4294967296)
    (A' : Option Addr) (n' c' : Nat) (rs : List Nat) (hn' : n' ≤ 9223372036854775807) (hr' : Reads w w.heap.size 1 A' n' (u32s rs)) (h32' : ∀ x ∈ rs, x < 4294967296) (last : Nat) (hl : last < 4294967296) :
    Calls Tryz.prog 66 #[.int .i64 size, .slice A n c, .slice A' n' c', .int .u32 last] w (RLoadP size ws rs last w) := by
  have hlw : ws.length = n := by have := hr.1; rw [u32s_len] at this; omega
  have hlr : rs.length = n' := by have := hr'.1; rw [u32s_len] at this; omega
  have hbr := Lib.hid (Below.refl w.heap.size w)
  have HLW := Lib.hid hlw
  have HLR := Lib.hid hlr
  by_cases hbad : n = 0 ∨ size < n ∨ n' ≠ 64
  · have HE := Lib.hid (loadE_bad (size := size) (ws := ws) (rs := rs) (last := last) (by rw [hlw, hlr]; exact hbad))
    have hfin : RLoadP size ws rs last w (.returned (.tuple #[.pointer none, .int .i64 1])) w := ⟨hbr.out, .inl ⟨by rw [HE.out]; decide, by rw [HE.out]; rfl⟩⟩
    have HFIN := Lib.hid hfin
    clear hr hr' h32 h32' hlw hlr hfin HE
    by_cases hb0 : n = 0
    · have hz : decide ((n : Int) < 1) = true := by simp; omega
      clear hbad hb0
      go_enter Tryz.func66, Tryz.ntmps66
      go_wp2_with fail
      go_ret2
      exact HFIN.out
    · have hz : decide ((n : Int) < 1) = false := by simp; omega
      by_cases hb1 : size < n
      · have hz1 : decide (size < n) = true := by simpa using hb1
        clear hbad hb0 hb1
        go_enter Tryz.func66, Tryz.ntmps66
        go_wp2_with fail
        go_ret2
        exact HFIN.out
      · have hz1 : decide (size < n) = false := by simpa using hb1
        have hz2 : ((n' : Int) != 64) = true := by rw [bne_iff_ne]; omega
        clear hbad hb0 hb1
        go_enter Tryz.func66, Tryz.ntmps66
        go_wp2_with fail
        go_ret2
        exact HFIN.out
  · have hnn : 0 < n := by omega
    have HB' := Lib.hid (show ¬ (ws.length = 0 ∨ size < ws.length ∨ rs.length ≠ 64) by rw [hlw, hlr]; exact hbad)
    obtain rfl : n' = 64 := by omega
    obtain ⟨ad, rfl, had, hcw⟩ := hr.2 hnn
    obtain ⟨ad', rfl, had', -⟩ := hr'.2 (by omega)
    have hz : decide ((n : Int) < 1) = false := by simp; omega
    have hz1 : decide (size < n) = false := by simp; omega
    have hmk := make_u8n n (by omega)
    have hnsz : n ≤ size := by omega
    have HRW := Lib.hid hr
    have HRR := Lib.hid hr'
    have HCW := Lib.hid (show ∀ W', Below w.heap.size w W' → ∀ j, j < n → W'.cell? (ad.add j) = some (.int .u32 (ws.getD j 0 : Nat)) from fun W' hb j hj =>
      (hb.cell (by rw [block_of_add]; exact had)).trans (hcw j _ (u32s_get (by rw [hlw]; exact hj))))
    have H32 := Lib.hid h32
    have H32' := Lib.hid h32'
    have hX : w.heap.size + 1 < ((w.alloc (.cells (zcells (.int .u8 0) n) 5)).alloc (.cells #[.int .i64 size, .slice none 0 0, .slice none 0 0, .int .u32 last, .slice (some ⟨w.heap.size, 0, none⟩) n n] 134)).heap.size := by simp
    have hb : Below w.heap.size w ((w.alloc (.cells (zcells (.int .u8 0) n) 5)).alloc (.cells #[.int .i64 size, .slice none 0 0, .slice none 0 0, .int .u32 last, .slice (some ⟨w.heap.size, 0, none⟩) n n] 134)) := ((Below.refl _ _).alloc (Nat.le_refl _) _).alloc (by simp) _
    have BX : Blk ((w.alloc (.cells (zcells (.int .u8 0) n) 5)).alloc (.cells #[.int .i64 size, .slice none 0 0, .slice none 0 0, .int .u32 last, .slice (some ⟨w.heap.size, 0, none⟩) n n] 134)) (w.heap.size + 1) 134 #[.int .i64 size, .slice none 0 0, .slice none 0 0, .int .u32 last, .slice (some ⟨w.heap.size, 0, none⟩) n n] := by
      have := Blk.new (w.alloc (.cells (zcells (.int .u8 0) n) 5)) 134 #[.int .i64 size, .slice none 0 0, .slice none 0 0, .int .u32 last, .slice (some ⟨w.heap.size, 0, none⟩) n n]
      rw [World.size_alloc] at this
      exact this
    have RS : Row ((w.alloc (.cells (zcells (.int .u8 0) n) 5)).alloc (.cells #[.int .i64 size, .slice none 0 0, .slice none 0 0, .int .u32 last, .slice (some ⟨w.heap.size, 0, none⟩) n n] 134)) w.heap.size 5 n (begins (List.replicate n false)) := (begins_row w n (by simp only [maxLen]; omega)).alloc _
    clear hr hr' h32 h32' hlw hlr hcw hbad
    go_enter Tryz.func66, Tryz.ntmps66
    go_upto_region 4 with fail
    generalize hW : (w.alloc (.cells (zcells (.int .u8 0) n) 5)).alloc (.cells #[.int .i64 size, .slice none 0 0, .slice none 0 0, .int .u32 last, .slice (some ⟨w.heap.size, 0, none⟩) n n] 134) = W1 at *
    clear hW hmk
    generalize hXX : w.heap.size + 1 = X at *
    have HXX := Lib.hid hXX
    clear hXX
    have x1 := BX.cell 1
    have z1 := BX.frozen 1
    obtain ⟨i0, hi0, hz0, hz3, hz2⟩ := info_parts info_u32
    have HO := Lib.hid (show W1.ownsRow (X + 1) 32 1 (.slice none 0 0) 0 [] from ⟨rfl, .inl ⟨rfl, rfl⟩⟩)
    have HN := Lib.hid ((HRW.out.below hb).more hb.size)
    have HB1 := Lib.hid hb
    have HRS := Lib.hid RS
    have HBX := Lib.hid BX
    have hXX := HXX.out
    clear hb RS BX
    go_upto_region 5 with (at_builtin; refine wpList_append_any _ rfl (.tmp 39) (.tmp 40) _ rfl (X + 1) 32 i0 _ 1 4 Tryz.underlying84 hi0 hz0 hz3 hz2 rfl (by omega) (.slice none 0 0) 0 [] rfl HO.out _ (some ad) n c (u32s ws) rfl HN.out (one_u32s _) (by simp only [maxLen]; omega) (by omega) (by omega) ?_; intro v1 w5 hown5 hgrow hat5; obtain ⟨g5, c5, rfl, hrow5, hlen5, hge5⟩ := Row.of_any hown5 (by omega); have k5 := (hgrow.cell_far ⟨X, 1, none⟩ hX (by simp [Value.ownBlock])).trans x1; have z5 := (hgrow.frozen_far ⟨X, 1, none⟩ hX (by simp [Value.ownBlock])).trans z1; clear hown5)
    rw [List.nil_append] at hrow5
    try simp only [Nat.zero_add]
    have hbel := below_grown (Nat.le_refl _) HB1.out hgrow (by simp [Value.ownBlock])
    have hB2 := hbel.setCell (p := ⟨X, 1, none⟩) (by simp; omega) (.slice (some ⟨g5, 0, none⟩) n c5)
    have BX2 := (HBX.out.same (hgrow.block X hX (by simp [Value.ownBlock]))).set_ 1 (.slice (some ⟨g5, 0, none⟩) n c5)
    have RW2 := hrow5.far (p := ⟨X, 1, none⟩) (by simp; omega) (.slice (some ⟨g5, 0, none⟩) n c5)
    have RS2 := (HRS.out.same (hgrow.block w.heap.size HRS.out.lt (by simp [Value.ownBlock]))).far (p := ⟨X, 1, none⟩) (by simp; omega) (.slice (some ⟨g5, 0, none⟩) n c5)
    generalize hW : w5.setCell ⟨X, 1, none⟩ (.slice (some ⟨g5, 0, none⟩) n c5) = W2 at *
    clear hW hbel hgrow hrow5 hat5 k5 z5 x1 z1 HO HN
    have BX2 : Blk W2 X 134 #[.int .i64 size, .slice (some ⟨g5, 0, none⟩) n c5, .slice none 0 0, .int .u32 last, .slice (some ⟨w.heap.size, 0, none⟩) n n] := BX2
    clear HBX HRS HB1 hX
    have hX : X < W2.heap.size := BX2.lt
    have x1 := BX2.cell 2
    have z1 := BX2.frozen 2
    obtain ⟨i1, hj0, hj1, hj3, hj2⟩ := info_parts info_oop
    have HO := Lib.hid (show W2.ownsRow (X + 1) 54 1 (.slice none 0 0) 0 [] from ⟨rfl, .inl ⟨rfl, rfl⟩⟩)
    have HN := Lib.hid ((HRR.out.below hB2).more hB2.size)
    have HB2 := Lib.hid hB2
    have HRS := Lib.hid RS2
    have HRW2 := Lib.hid RW2
    have HBX := Lib.hid BX2
    clear hB2 RS2 RW2 BX2
    go_upto_region 6 with (at_builtin; refine wpList_append_any _ rfl (.tmp 48) (.tmp 49) _ rfl (X + 1) 54 i1 _ 1 4 Tryz.underlying101 hj0 hj1 hj3 hj2 rfl (by omega) (.slice none 0 0) 0 [] rfl HO.out _ (some ad') 64 c' (u32s rs) rfl HN.out (one_u32s _) (by simp only [maxLen]; omega) (by omega) (by omega) ?_; intro v1 w6 hown5 hgrow hat5; obtain ⟨g6, c6, rfl, hrow5, hlen5, hge6⟩ := Row.of_any hown5 (by omega); have k5 := (hgrow.cell_far ⟨X, 2, none⟩ hX (by simp [Value.ownBlock])).trans x1; have z5 := (hgrow.frozen_far ⟨X, 2, none⟩ hX (by simp [Value.ownBlock])).trans z1; clear hown5)
    rw [List.nil_append] at hrow5
    try simp only [Nat.zero_add]
    have hbel := below_grown (Nat.le_refl _) HB2.out hgrow (by simp [Value.ownBlock])
    have hB3 := hbel.setCell (p := ⟨X, 2, none⟩) (by simp; omega) (.slice (some ⟨g6, 0, none⟩) 64 c6)
    have BX3 := (HBX.out.same (hgrow.block X hX (by simp [Value.ownBlock]))).set_ 2 (.slice (some ⟨g6, 0, none⟩) 64 c6)
    have RR3 := hrow5.far (p := ⟨X, 2, none⟩) (by simp; omega) (.slice (some ⟨g6, 0, none⟩) 64 c6)
    have RW3 := (HRW2.out.same (hgrow.block g5 HRW2.out.lt (by simp [Value.ownBlock]))).far (p := ⟨X, 2, none⟩) (by simp; omega) (.slice (some ⟨g6, 0, none⟩) 64 c6)
    have RS3 := (HRS.out.same (hgrow.block w.heap.size HRS.out.lt (by simp [Value.ownBlock]))).far (p := ⟨X, 2, none⟩) (by simp; omega) (.slice (some ⟨g6, 0, none⟩) 64 c6)
    have BX3 : Blk (w6.setCell ⟨X, 2, none⟩ (.slice (some ⟨g6, 0, none⟩) 64 c6)) X 134 #[.int .i64 size, .slice (some ⟨g5, 0, none⟩) n c5, .slice (some ⟨g6, 0, none⟩) 64 c6, .int .u32 last, .slice (some ⟨w.heap.size, 0, none⟩) n n] := BX3
    generalize hW : w6.setCell ⟨X, 2, none⟩ (.slice (some ⟨g6, 0, none⟩) 64 c6) = W3 at *
    have R3 : RAt W3 ⟨X, g5, c5, w.heap.size, n, g6, c6⟩ ⟨size, ws, List.replicate n false, rs, last⟩ := ⟨by
      show Blk W3 X 134 #[.int .i64 size, .slice (some ⟨g5, 0, none⟩) ws.length c5, .slice (some ⟨g6, 0, none⟩) rs.length c6, .int .u32 last, .slice (some ⟨w.heap.size, 0, none⟩) (List.replicate n false).length n]
      rw [HLW.out, HLR.out, List.length_replicate]; exact BX3, RW3, RS3, RR3⟩
    have HQN := Lib.hid (show ∀ k, HP.has ⟨X, g5, c5, w.heap.size, n, g6, c6⟩ k → w.heap.size ≤ k from by rintro k (rfl | rfl | rfl | rfl) <;> (try simp only []) <;> omega)
    have HPG := Lib.hid (show (HP.mk X g5 c5 w.heap.size n g6 c6).g = X ∧ (HP.mk X g5 c5 w.heap.size n g6 c6).gs = w.heap.size from ⟨rfl, rfl⟩)
    generalize hQ : (HP.mk X g5 c5 w.heap.size n g6 c6) = q at *
    clear hQ hW hbel hgrow hrow5 hat5 k5 z5 x1 z1 HO HN HRS HRW2 HBX HB2 BX3 RR3 RW3 RS3 hge5 hge6 hX hXX hlen5 hi0 hz0 hz3 hz2 hj0 hj1 hj3 hj2
    have HFAIL := Lib.hid (show parseW ws = none → loadE size ws rs last = 20 from fun e => loadE_no HB'.out (not_loadOk_of_none e))
    have HBAD := Lib.hid (show ∀ wz, loadE size ws rs last = 20 → Below w.heap.size w wz → RLoadP size ws rs last w (.returned (.tuple #[.pointer none, .int .i64 20])) wz from fun wz e hb => ⟨hb, .inl ⟨by rw [e]; decide, by rw [e]; rfl⟩⟩)
    have q0 := HCW.out W3 hB3 0 hnn
    rw [show ad.add 0 = ad by unfold Addr.add; simp] at q0
    have hn0 : (0 : Int) < (n : Int) := by omega
    have HB3 := Lib.hid hB3
    have HR3 := Lib.hid R3
    clear hB3 R3
    by_cases h0 : ws.getD 0 0 = 0
    case neg =>
      have hb : ((ws.getD 0 0 : Int) != 0) = true := by rw [bne_iff_ne]; omega
      have HN := Lib.hid (HFAIL.out (by
        unfold parseW
        split
        · rename_i hw; simp at h0
        · rfl))
      generalize ws.getD 0 0 = x at *
      clear h0
      go_wp2_with fail
      go_ret2
      exact HBAD.out _ HN.out HB3.out
    obtain ⟨r0, hr0⟩ : ∃ r0, ws = 0 :: r0 := by
      cases hw : ws with
      | nil => have := HLW.out; rw [hw] at this; simp at this; omega
      | cons a r => rw [hw] at h0; simp at h0; exact ⟨r, by rw [h0]⟩
    rw [h0] at q0
    have HM0 := Lib.hid (show RLoadMid q size ws rs last w 1 W3 from ⟨HB3.out, [], r0, by rw [hr0]; exact Pre.start, rfl, by
      have e : (false :: msOf []) ++ List.replicate r0.length false = List.replicate n false := by
        have := HLW.out
        rw [hr0] at this
        rw [← this]
        simp [msOf, List.replicate_succ]
      rw [e]; exact HR3.out⟩)
    clear hr0 h0 HR3
    go_wp2_with fail
    clear q0
    go_loopw [11] (fun i wr => ∃ k : Nat, i = .int .i64 k ∧ RLoadMid q size ws rs last w k wr) (fun i _ => n - (intOf i).toNat)
    case atStart => exact ⟨1, rfl, HM0.out⟩
    case round =>
      obtain ⟨k, rfl, hbk, l, r, hp, rfl, Rr⟩ := hrel
      have hlen := hp.len
      rw [HLW.out] at hlen
      by_cases hr0 : r = []
      · subst hr0
        simp only [List.length_nil, Nat.add_zero] at hlen
        have HD := Lib.hid hp.done
        have Rr : RAt wr q ⟨size, ws, false :: msOf l, rs, last⟩ := by
          have e : (false :: msOf l) ++ List.replicate ([] : List Nat).length false = false :: msOf l := by simp
          rw [e] at Rr; exact Rr
        have hof : (⟨size, ws, false :: msOf l, rs, last⟩ : HM) = HM.ofWords size ws rs last := by
          unfold HM.ofWords
          rw [HD.out]
          rfl
        have hinv := parseW_inv H32.out HD.out
        have L3 : HM.Laid ⟨size, ws, false :: msOf l, rs, last⟩ l := ⟨hinv.1, rfl, hinv.2⟩
        have F3 : HM.Fit ⟨size, ws, false :: msOf l, rs, last⟩ := ⟨h1, h2, by show 1 ≤ ws.length; rw [HLW.out]; exact hnn, by show ws.length ≤ size; rw [HLW.out]; exact hnsz, by
          show (false :: msOf l).length = ws.length
          rw [hinv.1]; simp [msOf_len], HLR.out, H32.out, H32'.out, hl⟩
        have HSN := Lib.hid (keeps_any Rr F3 L3)
        unfold ptr at HSN
        rw [HPG.out.1] at HSN
        have HOF := Lib.hid hof
        have HRR3 := Lib.hid Rr
        have HBK := Lib.hid hbk
        clear hof hinv L3 F3 Rr hbk hp
        rw [← hlen] at *
        go_wp2_with fail
        refine HSN.out.mono ?_
        rintro e w4 ⟨b2, rfl, hiff, hb4⟩
        have HIFF := Lib.hid hiff
        have HB5 := Lib.hid (below_top HBK.out hb4)
        have HR5 := Lib.hid (HRR3.out.below hb4)
        clear hiff hb4
        cases b2
        · have HE := Lib.hid (loadE_no HB'.out (fun ok => by
            have := (loadOk_iff HD.out).1 ok
            rw [← HOF.out] at this
            exact absurd (HIFF.out.2 this) (by decide)))
          go_wp2_with fail
          go_ret2
          exact HBAD.out _ HE.out HB5.out
        · have HE := Lib.hid (loadE_ok HB'.out ((loadOk_iff HD.out).2 (by rw [← HOF.out]; exact HIFF.out.1 rfl)))
          go_wp2_with fail
          go_ret2
          exact ⟨HB5.out, .inr ⟨HE.out, q, by rw [HPG.out.1]; rfl, by rw [← HOF.out]; exact HR5.out, HQN.out⟩⟩
      · have hpos : 0 < r.length := List.length_pos_iff.2 hr0
        by_cases hr3 : r.length < 3
        · have HN := Lib.hid (HFAIL.out (hp.none (parseT_short hr0 hr3)))
          have HBK := Lib.hid hbk
          clear hp hr0 Rr hbk
          generalize posOf l = K at *
          generalize r.length = m at *
          have hdec : decide (K < n) = true := by simp; omega
          have hdec1 : (n : Int) < (K : Int) + 3 := by omega
          have hKn : K < n := by omega
          have hdec2 : decide ((n : Int) < (K : Int) + 3) = true := by simpa using hdec1
          clear hlen hdec1
          go_wp2_with fail
          go_ret2
          exact HBAD.out _ HN.out HBK.out
        · obtain ⟨a, b, c2, r', rfl⟩ : ∃ a b c r', r = a :: b :: c :: r' := by
            match r, hr3 with
            | a :: b :: c :: r', _ => exact ⟨a, b, c, r', rfl⟩
            | [], h => simp at h
            | [_], h => simp at h
            | [_, _], h => simp at h
          have hm : ∀ x ∈ a :: b :: c2 :: r', x < 4294967296 := fun x hx => H32.out x (by rw [hp.eq]; simp at hx ⊢; right; right; exact hx)
          have ba := hm a (by simp)
          have bb := hm b (by simp)
          have bc := hm c2 (by simp)
          have g0 := hp.get 0
          have g1 := hp.get 1
          have g2 := hp.get 2
          simp only [Nat.add_zero, List.getD_cons_zero, List.getD_cons_succ] at g0 g1 g2
          have HLEN := Lib.hid (show n = posOf l + (r'.length + 3) by simpa using hlen)
          have hw0 := HCW.out wr hbk (posOf l) (by have := HLEN.out; omega)
          have hw1 := HCW.out wr hbk (posOf l + 1) (by have := HLEN.out; omega)
          have hw2 := HCW.out wr hbk (posOf l + 2) (by have := HLEN.out; omega)
          rw [g0] at hw0
          rw [g1] at hw1
          rw [g2] at hw2
          have hw1 := cell_add hw1 (by omega)
          have hw2 := cell_add hw2 (by omega)
          have HBK := Lib.hid hbk
          have HPL := Lib.hid (show posOf l + 3 ≤ n by have := HLEN.out; omega)
          have HP := Lib.hid hp
          have HRR3 := Lib.hid Rr
          have hadr : ad.block < wr.heap.size := by have := hbk.size; omega
          clear g0 g1 g2 hm hlen hr0 hr3 hpos hp Rr
          generalize hKK : posOf l = K at *
          have HKK := Lib.hid hKK
          have hkn := HPL.out
          have hdec : decide (K < n) = true := by simp; omega
          have hdec2 : decide ((n : Int) < (K : Int) + 3) = false := by simp; omega
          have hlt0 : (K : Int) < (n : Int) := by omega
          have hlt1 : (K : Int) + 1 < (n : Int) := by omega
          have hlt2 : (K : Int) + 2 < (n : Int) := by omega
          have e1 : IntKind.i64.wrap ((K : Int) + 1) = (K : Int) + 1 := IntWalk.i64_in _ (by omega)
          have e2 : IntKind.i64.wrap ((K : Int) + 2) = (K : Int) + 2 := IntWalk.i64_in _ (by omega)
          have p1 : 0 ≤ (K : Int) + 1 := by omega
          have p2 : 0 ≤ (K : Int) + 2 := by omega
          have t1 : ((K : Int) + 1).toNat = K + 1 := by omega
          have t2 : ((K : Int) + 2).toNat = K + 2 := by omega
          have HU := Lib.hid (fun w => runpack_any a b c2 ba bb bc w)
          obtain ⟨x, ok, hX⟩ : ∃ (x : Hd) (ok : Bool), unpackV a b c2 = .tuple #[.agg #[.int .i64 x.size, .int .i64 x.fmt, .int .i64 x.spare, .int .u32 x.cls, .int .u32 x.ser], .bool ok] ∧ ok = okhd a b c2 ∧ (ok = true → x = unhd a b c2) := by
            cases hok : okhd a b c2
            · exact ⟨⟨0, 0, 0, 0, 0⟩, false, by unfold unpackV; rw [hok]; rfl, rfl, fun e => by cases e⟩
            · exact ⟨unhd a b c2, true, by unfold unpackV; rw [hok]; rfl, rfl, fun _ => rfl⟩
          obtain ⟨hX, hokE, hxE⟩ := hX
          rw [hX] at HU
          have HOKE := Lib.hid hokE
          have HXE := Lib.hid hxE
          clear hX hokE hxE hKK hkn ba bb bc hbk
          go_upto_region 12 with fail
          have KC := Lib.hid (show ∀ W', Below wr.heap.size wr W' → W'.cell? (ad.add K) = some (.int .u32 (a : Int)) ∧ W'.cell? ⟨ad.block, ad.off + (K + 1), none⟩ = some (.int .u32 (b : Int)) ∧ W'.cell? ⟨ad.block, ad.off + (K + 2), none⟩ = some (.int .u32 (c2 : Int)) from fun W' hb =>
            ⟨(hb.cell (by rw [block_of_add]; exact hadr)).trans hw0, (hb.cell (show (⟨ad.block, ad.off + (K + 1), none⟩ : Addr).block < wr.heap.size from hadr)).trans hw1, (hb.cell (show (⟨ad.block, ad.off + (K + 2), none⟩ : Addr).block < wr.heap.size from hadr)).trans hw2⟩)
          have HUA := Lib.hid (show Calls Tryz.prog 148 #[.agg #[.int .u32 a, .int .u32 b, .int .u32 c2]] wr.drew fun e w1 => e = .returned (.tuple #[.agg #[.int .i64 x.size, .int .i64 x.fmt, .int .i64 x.spare, .int .u32 x.cls, .int .u32 x.ser], .bool ok]) ∧ Below wr.heap.size wr w1 from
            (HU.out _).mono fun _ _ ⟨h1, h2⟩ => ⟨h1, below_top (below_drew (Below.refl _ _)) h2⟩)
          have HUB := Lib.hid (show Calls Tryz.prog 148 #[.agg #[.int .u32 a, .int .u32 b, .int .u32 c2]] (wr.alloc (.cells #[.int .i64 0, .int .i64 0, .int .i64 0, .int .u32 0, .int .u32 0] 75)).drew fun e w1 => e = .returned (.tuple #[.agg #[.int .i64 x.size, .int .i64 x.fmt, .int .i64 x.spare, .int .u32 x.cls, .int .u32 x.ser], .bool ok]) ∧ Below wr.heap.size wr w1 ∧ Blk w1 wr.heap.size 75 #[.int .i64 0, .int .i64 0, .int .i64 0, .int .u32 0, .int .u32 0] from
            (HU.out _).mono fun _ _ ⟨h1, h2⟩ => ⟨h1, below_top (below_drew (below_alloc1 (Below.refl _ _))) h2, ((Blk.new wr _ _).drew).below h2 (by simp [World.drew])⟩)
          have hb0 := Below.refl wr.heap.size wr
          go_cut [12, 13] (fun v v2 wx => ∃ g, v = ptr g ∧ v2 = .bool ok ∧ Below wr.heap.size wr wx ∧ Blk wx g 75 #[.int .i64 x.size, .int .i64 x.fmt, .int .i64 x.spare, .int .u32 x.cls, .int .u32 x.ser] ∧ wr.heap.size ≤ g)
          case first =>
            go_region_held3 (fun w' => w'.cell? (ad.add K) = some (.int .u32 (a : Int)) ∧ w'.cell? ⟨ad.block, ad.off + (K + 1), none⟩ = some (.int .u32 (b : Int)) ∧ w'.cell? ⟨ad.block, ad.off + (K + 2), none⟩ = some (.int .u32 (c2 : Int)))
              (first | with_reducible exact KC.out _ hb0 | with_reducible exact KC.out _ (Below.drew hb0) | with_reducible exact KC.out _ (below_alloc1 hb0) | with_reducible exact KC.out _ (Below.drew (below_alloc1 hb0)) | with_reducible exact KC.out _ hk | with_reducible exact KC.out _ (below_alloc1 hk) | with_reducible exact KC.out _ (below_set5 hk (Nat.le_refl _)))
              (first
                | (go_at_call 148; (with_reducible refine HUA.out.mono ?_); rintro e w1 ⟨rfl, hk⟩)
                | (go_at_call 148; (with_reducible refine HUB.out.mono ?_); rintro e w1 ⟨rfl, hk, hB6⟩; obtain ⟨g0, g1, g2, g3, g4⟩ := hB6.cells5; have hgz := hB6.fz; have hgl := hB6.lt))
            all_goals go_wp2_with fail
            all_goals go_meet
            · exact ⟨_, rfl, rfl, below_alloc1 hk, Blk.new _ _ _, hk.size⟩
            · exact ⟨_, rfl, rfl, below_set5 hk (Nat.le_refl _), hB6.setAll5 _ _ _ _ _, Nat.le_refl _⟩
          case rest =>
            obtain ⟨gx, rfl, rfl, hbc, BXh, hgx⟩ := hcut
            have HB5 := Lib.hid (below_top HBK.out hbc)
            have HR5 := Lib.hid (HRR3.out.below hbc)
            obtain ⟨d0, -, -, -, -⟩ := BXh.cells5
            clear KC HUA HUB hb0 HU hw0 hw1 hw2 hadr
            unfold ptr
            cases hok : ok
            · have HN := Lib.hid (HFAIL.out (HP.out.none (parseT_bad (by rw [← HOKE.out, hok]))))
              clear hok hbc BXh
              go_wp2_with fail
              go_ret2
              exact HBAD.out _ HN.out HB5.out
            · have hx := HXE.out hok
              have hokE : okhd a b c2 = true := by rw [← HOKE.out, hok]
              have HOK2 := Lib.hid hokE
              clear hok hokE HOKE HXE
              have hfit : x.size < 16777216 := by rw [hx]; exact Nat.mod_lt _ (by omega)
              by_cases hsz : x.size ≤ r'.length
              · have hz5 : decide ((n : Int) < (K : Int) + 3 + (x.size : Int)) = false := by have := HLEN.out; simp; omega
                have HP2 := Lib.hid (HP.out.next H32.out HOK2.out (by rw [← hx]; exact hsz))
                have HPOS := Lib.hid (posOf_snoc l ⟨unhd a b c2, r'.take (unhd a b c2).size⟩)
                have HMS := Lib.hid (marks_set l ⟨unhd a b c2, r'.take (unhd a b c2).size⟩ (a :: b :: c2 :: r').length (r'.drop (unhd a b c2).size).length (by rw [← hx]; simp; omega))
                rw [HKK.out, ← hx] at HMS
                rw [HKK.out, ← hx] at HPOS
                rw [← hx] at HP2
                have HTL := Lib.hid (show (r'.take x.size).length = x.size by simp; omega)
                have HSL := Lib.hid (show (false :: msOf l ++ List.replicate (a :: b :: c2 :: r').length false).length = n by
                  rw [List.length_append, List.length_cons, msOf_len, List.length_replicate, HLEN.out, ← HKK.out]; simp [posOf]; omega)
                have hkl : K < n := by have := HLEN.out; omega
                have c4 := HR5.out.c4
                have hkb : K + 3 + x.size ≤ n := by have := HLEN.out; omega
                have sl : (false :: msOf l ++ List.replicate (a :: b :: c2 :: r').length false).length = n := HSL.out
                simp only [sl] at c4
                have m1 := HR5.out.mark (i := K) (by show K < (false :: msOf l ++ List.replicate (a :: b :: c2 :: r').length false).length; rw [sl]; exact hkl)
                have z1 := HR5.out.2.2.1.frozen K
                have HS2 := Lib.hid (HR5.out.setMark K)
                have hne : gx ≠ q.gs := by
                  have := HRR3.out.lt (k := q.gs) (.inr (.inr (.inl rfl)))
                  omega
                obtain ⟨d0', -, -, -, -⟩ := (BXh.far (p := ⟨q.gs, K, none⟩) hne (.int .u8 1)).cells5
                have HB6 := Lib.hid (HB5.out.setCell (p := ⟨q.gs, K, none⟩) (by rw [HPG.out.2]; exact Nat.le_refl _) (.int .u8 1))
                rw [HPG.out.1] at c4
                clear sl hbc BXh HR5 HRR3 HP hx
                dsimp only at m1
                generalize (if (false :: msOf l ++ List.replicate (a :: b :: c2 :: r').length false).getD K false = true then (1 : Int) else 0) = mb at m1
                have hk4 : (K : Int) < (n : Int) := by omega
                go_wp2_with fail
                go_roundw
                case rel =>
                  refine ⟨K + (3 + x.size), by go_num, HB6.out, l ++ [⟨x, r'.take x.size⟩], r'.drop x.size, HP2.out, by rw [HPOS.out, HTL.out]; omega, ?_⟩
                  have e := HS2.out
                  rw [HMS.out] at e
                  exact e
                case measure => simp [intOf]; omega
              · have hz5 : decide ((n : Int) < (K : Int) + 3 + (x.size : Int)) = true := by have := HLEN.out; simp; omega
                have hkb : K + 3 ≤ n := by have := HLEN.out; omega
                have HN := Lib.hid (HFAIL.out (HP.out.none (parseT_long (by rw [← hx]; omega))))
                clear hx hbc BXh hsz
                go_wp2_with fail
                go_ret2
                exact HBAD.out _ HN.out HB5.out
end Go.Proofs.YtlkahgagmfhdaaaGreatDoor

namespace Go.Proofs.YtlkahgagmfhdaaaGreatDoor
open Go.RowKit

/-- A case. -/
structure Cs where
  size : Int
  A : Option Addr
  n : Nat
  c : Nat
  A' : Option Addr
  n' : Nat
  c' : Nat
  ws : List Nat
  rs : List Nat
  last : Nat
def Cs.agg (k : Cs) : Value := .agg #[.int .i64 k.size, .slice k.A k.n k.c, .slice k.A' k.n' k.c', .int .u32 (k.last : Nat)]
def Cs.h (k : Cs) : HM := HM.ofWords k.size.toNat k.ws k.rs k.last
def Cs.Ok (k : Cs) : Prop := 64 ≤ k.size ∧ k.size ≤ 1048576 ∧ loadE k.size.toNat k.ws k.rs k.last = 0
/-- A case as it lies in memory. -/
structure Cs.At (k : Cs) (w : World) (B : Nat) : Prop where
  hn : k.n ≤ 9223372036854775807
  hr : Reads w B 1 k.A k.n (u32s k.ws)
  h32 : ∀ x ∈ k.ws, x < 4294967296
  hn' : k.n' ≤ 9223372036854775807
  hr' : Reads w B 1 k.A' k.n' (u32s k.rs)
  h32' : ∀ x ∈ k.rs, x < 4294967296
  hl : k.last < 4294967296
theorem Cs.At.below {k : Cs} {w w' : World} (h : k.At w w.heap.size) (hb : Below w.heap.size w w') : k.At w' w'.heap.size :=
  ⟨h.hn, (h.hr.below hb).more hb.size, h.h32, h.hn', (h.hr'.below hb).more hb.size, h.h32', h.hl⟩
/-- What built answers. -/
def BuiltP (W : World) (k : Cs) (e : Ending) (w' : World) : Prop :=
  Below W.heap.size W w' ∧ ((¬ k.Ok ∧ e = .returned (.tuple #[.pointer none, .pointer none, .bool false])) ∨
    (k.Ok ∧ ∃ p q ls, e = .returned (.tuple #[ptr p.g, ptr q.g, .bool true]) ∧ HAt w' p k.h ∧ k.h.Good ls ∧ RAt w' q k.h))
set_option maxRecDepth 100000 in
set_option maxHeartbeats 4000000 in
theorem built_any (W : World) (E : Env W) (k : Cs) (hk : k.At W W.heap.size) : Calls Tryz.prog 51 #[k.agg] W (BuiltP W k) := by
  have hb0 := (Below.refl W.heap.size W).alloc (Nat.le_refl _) (.cells #[.int .i64 k.size, .slice k.A k.n k.c, .slice k.A' k.n' k.c', .int .u32 (k.last : Nat)] 119)
  have HB0 := Lib.hid hb0
  have BX := Lib.hid (Blk.new W 119 #[.int .i64 k.size, .slice k.A k.n k.c, .slice k.A' k.n' k.c', .int .u32 (k.last : Nat)])
  have HE := Lib.hid (E.below hb0)
  have HK := Lib.hid (hk.below hb0)
  clear hb0 E hk
  unfold Cs.agg
  by_cases hsz : k.size < 64 ∨ 1048576 < k.size
  · have HN := Lib.hid (fun w => new_bad k.size hsz w)
    have HF := Lib.hid (show ¬ k.Ok from fun h => by have h1 := h.1; have h2 := h.2.1; omega)
    clear hsz
    go_enter Tryz.func51, Tryz.ntmps51
    go_wp2_with fail
    refine (HN.out _).mono ?_
    rintro e w1 ⟨rfl, rfl⟩
    go_wp2_with fail
    refine bodyPost_ret (v := .tuple #[.pointer none, .pointer none, .bool false]) (by simp [results, Tryz.results51, go_sem]) rfl ?_
    exact ⟨HB0.out, .inl ⟨HF.out, rfl⟩⟩
  · obtain ⟨s, hs⟩ := Int.eq_ofNat_of_zero_le (show 0 ≤ k.size by omega)
    have h1 : 64 ≤ s := by omega
    have h2 : s ≤ 1048576 := by omega
    have HH := Lib.hid (show k.h = HM.ofWords s k.ws k.rs k.last by unfold Cs.h; rw [hs]; rfl)
    have HOK := Lib.hid (show k.Ok ↔ loadE s k.ws k.rs k.last = 0 by
      unfold Cs.Ok
      rw [hs, show ((s : Int)).toNat = s by omega]
      constructor
      · exact fun h => h.2.2
      · exact fun h => ⟨by omega, by omega, h⟩)
    have HN := Lib.hid (fun w => new_any s h1 h2 w)
    rw [hs] at HB0 BX HE HK ⊢
    have H12 := Lib.hid (And.intro h1 h2)
    clear hs hsz
    go_enter Tryz.func51, Tryz.ntmps51
    go_wp2_with fail
    generalize W.alloc (.cells #[.int .i64 (s : Int), .slice k.A k.n k.c, .slice k.A' k.n' k.c', .int .u32 (k.last : Nat)] 119) = W1 at *
    refine (HN.out _).mono ?_
    rintro e w1 hN
    obtain ⟨p, g, rfl, L0⟩ := Live.of_new (v := fun g => .tuple #[ptr g, .int .i64 0]) HE.out H12.out.1 H12.out.2 hN
    clear hN
    have hb1 := L0.below
    have BX1 := BX.out.below hb1 BX.out.lt
    have x0 := BX1.cell 0
    have x1 := BX1.cell 1
    have x2 := BX1.cell 2
    have x3 := BX1.cell 3
    have K1 := HK.out.below hb1
    have HLD := Lib.hid (L0.load k.A k.n k.c k.ws K1.hn K1.hr K1.h32 k.A' k.n' k.c' k.rs K1.hn' K1.hr' K1.h32' k.last K1.hl)
    rw [show (HM.new s).size = s from rfl] at HLD
    have HL1 := Lib.hid hb1
    clear hb1 BX1 K1 L0
    unfold ptr
    go_wp2_with fail
    refine HLD.out.mono ?_
    rintro e w2 ⟨p2, rfl, L2, -⟩
    have HBW := Lib.hid (HB0.out.trans (L2.below.mono HB0.out.size))
    by_cases hld : loadE s k.ws k.rs k.last = 0
    · have HO := Lib.hid (HOK.out.2 hld)
      have hg2 : ∃ ls, k.h.Good ls := by
        have := L2.good
        unfold HM.loadH at this
        rw [show (HM.new s).size = s from rfl, if_pos hld] at this
        rw [HH.out]; exact this
      have hat : HAt w2 p2 k.h := by
        have := L2.at_
        unfold HM.loadH at this
        rw [show (HM.new s).size = s from rfl, if_pos hld] at this
        rw [HH.out]; exact this
      have HG := Lib.hid hg2
      have HA2 := Lib.hid hat
      have hpg := L2.hg
      have HPG := Lib.hid hpg
      have BX2 := BX.out.below L2.below BX.out.lt
      have x0 := BX2.cell 0
      have x1 := BX2.cell 1
      have x2 := BX2.cell 2
      have x3 := BX2.cell 3
      have K2 := HK.out.below L2.below
      have HRL := Lib.hid (rLoad_any (c := k.c) (c' := k.c') s H12.out.1 H12.out.2 k.A k.n k.ws K2.hn K2.hr K2.h32 k.A' k.n' k.rs K2.hn' K2.hr' K2.h32' k.last K2.hl)
      rw [hld]
      clear hg2 hat hpg BX2 K2 L2 HLD
      go_wp2_with fail
      refine HRL.out.mono ?_
      rintro e w3 ⟨hb3, ⟨h3, -⟩ | ⟨-, q, rfl, hq, -⟩⟩
      · exact absurd hld h3
      have HQ := Lib.hid hq
      have HB3 := Lib.hid hb3
      clear hb3 hq
      unfold ptr
      go_wp2_with fail
      refine bodyPost_ret (v := .tuple #[.pointer (some ⟨g, 0, none⟩), .pointer (some ⟨q.g, 0, none⟩), .bool true]) (by simp [results, Tryz.results51, go_sem]) rfl ?_
      obtain ⟨ls, hG⟩ := HG.out
      refine ⟨below_top HBW.out HB3.out, .inr ⟨HO.out, p2, q, ls, by unfold ptr; rw [HPG.out], HA2.out.below HB3.out, hG, by rw [HH.out]; exact HQ.out⟩⟩
    · have HF := Lib.hid (show ¬ k.Ok from fun h => hld (HOK.out.1 h))
      have en : ((loadE s k.ws k.rs k.last : Int) != 0) = true := by simp; omega
      generalize loadE s k.ws k.rs k.last = E at *
      clear hld L2 HLD
      go_wp2_with fail
      refine bodyPost_ret (v := .tuple #[.pointer none, .pointer none, .bool false]) (by simp [results, Tryz.results51, go_sem]) rfl ?_
      exact ⟨HBW.out, .inl ⟨HF.out, rfl⟩⟩
end Go.Proofs.YtlkahgagmfhdaaaGreatDoor

namespace Go.Proofs.YtlkahgagmfhdaaaGreatDoor
open Go.RowKit Go.Maps

/-- A thing's number in a list, from 1 on; 0: it is not in it. -/
def numL (L : List Nat) (x : Nat) : Nat := if x ∈ L then L.idxOf x + 1 else 0
theorem numL_snoc {L : List Nat} {x : Nat} (h : x ∉ L) : numL (L ++ [x]) = upd (numL L) x (L.length + 1) := by
  funext y
  unfold numL upd
  by_cases hy : y = x
  · subst hy
    rw [if_pos (by simp), if_pos rfl, List.idxOf_append, if_neg h]
    simp
  · rw [if_neg hy]
    by_cases hm : y ∈ L
    · rw [if_pos (by simp [hm]), List.idxOf_append, if_pos hm]
      show _ = if y ∈ L then _ else _
      rw [if_pos hm]
    · rw [if_neg (by simp [hm, hy])]
      show _ = if y ∈ L then _ else _
      rw [if_neg hm]
theorem numL_le (L : List Nat) (x : Nat) : numL L x ≤ L.length := by
  unfold numL
  split
  · rename_i h
    have := List.idxOf_lt_length_of_mem h
    omega
  · omega
/-- What numbering one after the other comes to, a thing twice numbered anew. -/
def stp (s : List Nat × Nat × (Nat → Nat)) (x : Nat) : List Nat × Nat × (Nat → Nat) := (s.1 ++ [x], if x ∈ s.1 then s.2.1 else s.2.1 + 1, upd s.2.2 x (s.2.1 + 1))
def stL (L : List Nat) : List Nat × Nat × (Nat → Nat) := L.foldl stp ([], 0, fun _ => 0)
theorem stL_snoc (L : List Nat) (x : Nat) : stL (L ++ [x]) = stp (stL L) x := by unfold stL; rw [List.foldl_append]; rfl
theorem stL_fst (L : List Nat) : (stL L).1 = L := by
  have h : ∀ (L : List Nat) s, (L.foldl stp s).1 = s.1 ++ L := by
    intro L
    induction L with
    | nil => intro s; simp
    | cons a L ih => intro s; rw [List.foldl_cons, ih]; simp [stp]
  have := h L ([], 0, fun _ => 0)
  simpa [stL] using this
theorem stL_le (L : List Nat) : (stL L).2.1 ≤ L.length := by
  have h : ∀ (L : List Nat) s, (L.foldl stp s).2.1 ≤ s.2.1 + L.length := by
    intro L
    induction L with
    | nil => intro s; simp
    | cons a L ih =>
      intro s
      rw [List.foldl_cons]
      refine Nat.le_trans (ih _) ?_
      have : (stp s a).2.1 ≤ s.2.1 + 1 := by unfold stp; simp only; split <;> omega
      simp; omega
  have := h L ([], 0, fun _ => 0)
  simpa [stL] using this
theorem snoc_ind {P : List Nat → Prop} (h0 : P []) (h1 : ∀ L x, P L → P (L ++ [x])) : ∀ L, P L := by
  intro L
  rw [← List.reverse_reverse L]
  generalize L.reverse = R
  induction R with
  | nil => exact h0
  | cons a R ih => rw [List.reverse_cons]; exact h1 _ _ ih
theorem stL_nodup : ∀ L : List Nat, L.Nodup → (stL L).2.1 = L.length ∧ (stL L).2.2 = numL L :=
  snoc_ind (fun _ => ⟨rfl, by funext y; simp [stL, numL]⟩) (fun L x ih hnd => by
    rw [List.nodup_append] at hnd
    have hx : x ∉ L := fun hm => hnd.2.2 x hm x (by simp) rfl
    obtain ⟨h1, h2⟩ := ih hnd.1
    rw [stL_snoc, numL_snoc hx]
    refine ⟨?_, ?_⟩
    · show (if x ∈ (stL L).1 then _ else _) = _
      rw [stL_fst, if_neg hx, h1, List.length_append]; rfl
    · show upd _ _ _ = _
      rw [h1, h2])
structure MapTyU (T K : TypeId) : Prop where
  ht : Tryz.prog.underlying T = some (.map K 32)
  hk : Tryz.prog.underlying K = some (.int .u32)
def MapU (K : TypeId) (w : World) (b : Nat) (L : List Nat) : Prop :=
  ∃ D : DataW Unit, Tidy D ∧ w.ownsMap Tryz.prog K (plainElem Tryz.prog 32) b L.length D ∧ (∀ x : Nat, x < 4294967296 → D.atKey (.int .u32 (x : Int)) (.lit (.int .u32 0)) = .lit (.int .u32 ((stL L).2.2 x : Nat))) ∧
    (∀ x : Nat, x < 4294967296 → Maps.has D (.int .u32 (x : Int)) = decide (x ∈ L)) ∧ Maps.size D = (stL L).2.1
theorem zeroU (w : World) : (zeroValue 32).run Tryz.prog w = .ok (.int .u32 0) w := by kernel_rfl
section
variable {T K : TypeId} {w w' : World} {b : Nat} {L : List Nat}
theorem MapU.made (w : World) (K : TypeId) : MapU K (w.alloc (.map #[] 0)) w.heap.size [] :=
  ⟨.map [], tidy_empty, World.ownsMap_made _ _ _ _, fun x _ => rfl, fun x _ => rfl, rfl⟩
theorem MapU.lt (h : MapU K w b L) : b < w.heap.size := by obtain ⟨D, _, h, _⟩ := h; exact h.lt
theorem MapU.obj (h : MapU K w b L) : ∃ es c, w.heap[b]? = some (.map es c) := by obtain ⟨D, _, ⟨es, clock, hb, r⟩, _⟩ := h; exact ⟨es, clock, hb⟩
theorem MapU.same (h : MapU K w b L) (hs : w'.heap[b]? = w.heap[b]?) : MapU K w' b L := by
  obtain ⟨D, hD, ⟨es, clock, hb, r⟩, hf⟩ := h
  exact ⟨D, hD, ⟨es, clock, hs.trans hb, r⟩, hf⟩
theorem MapU.below (h : MapU K w b L) (hb : Below w.heap.size w w') : MapU K w' b L := h.same (hb.block b h.lt)
set_option maxRecDepth 100000 in
theorem MapU.look (h : MapU K w b L) (hnd : L.Nodup) (M : MapTyU T K) {x : Nat} (hx : x < 4294967296) : (Instr.lookup T (.map (some b)) (.int .u32 (x : Int)) false).run Tryz.prog w = .ok (.int .u32 (numL L x : Nat)) w := by
  obtain ⟨D, hD, ho, hf, _⟩ := h
  obtain ⟨c, hrun, hat, _⟩ := ho.lookup_int (int_keyed M.hk) M.ht Tryz.underlying32 (zeroU w) (keyOf_int_mk M.hk (wf_u32 hx))
  rw [hf x hx, (stL_nodup L hnd).2] at hat
  have e : c = (numL L x : Nat) := by
    simp only [DataW.lit.injEq, Lit.int.injEq, true_and] at hat
    exact hat.symm
  subst e
  exact hrun
theorem MapU.len (h : MapU K w b L) (M : MapTyU T K) (ty : TypeId) : (Builtin.len_ #[T] ty #[.map (some b)]).run Tryz.prog w = .ok (.int .i64 ((stL L).2.1 : Nat)) w := by
  obtain ⟨D, hD, ho, hf, hh, hs⟩ := h
  rw [← hs]
  exact ho.len M.ht ty
set_option maxRecDepth 100000 in
theorem MapU.put (h : MapU K w b L) (M : MapTyU T K) {x : Nat} (hx : x < 4294967296) (hn : L.length < 4294967295) :
    ∃ w', (Instr.mapUpdate T (.map (some b)) (.int .u32 (x : Int)) (.int .u32 (((stL L).2.1 : Nat) + 1 : Int))).run Tryz.prog w = .ok () w' ∧ MapU K w' b (L ++ [x]) ∧ w.grownBy w' (some b) := by
  obtain ⟨D, hD, ho, hf, hh, hs⟩ := h
  have hle := stL_le L
  obtain ⟨w', hrun, ho', hg⟩ := ho.update (int_keyed M.hk) M.ht (by unfold maxLen; omega) (keyOf_int_mk M.hk (wf_u32 hx)) (plainElem_int Tryz.underlying32 (wf_u32 (x := (stL L).2.1 + 1) (by omega)))
  refine ⟨w', hrun, ⟨_, hD.put (show WideAt.IsKeyLit (.int .u32 (x : Int)) from trivial) _, by rw [List.length_append]; exact ho', fun y hy => ?_, fun y hy => ?_, ?_⟩, hg⟩
  · rw [stL_snoc]
    show _ = DataW.lit (.int .u32 ((upd (stL L).2.2 x ((stL L).2.1 + 1) y : Nat) : Int))
    unfold upd
    by_cases hyx : y = x
    · subst hyx
      rw [if_pos rfl]
      exact atKey_put_same hD.isMap (show WideAt.IsKeyLit (.int .u32 (y : Int)) from trivial) _ _
    · rw [if_neg hyx, atKey_put_other (by intro e; injection e with _ e; omega)]
      exact hf y hy
  · by_cases hyx : y = x
    · subst hyx
      rw [has_put_same hD.isMap (show WideAt.IsKeyLit (.int .u32 (y : Int)) from trivial) _]
      simp
    · rw [has_put_other (by intro e; injection e with _ e; omega), hh y hy]
      simp [hyx]
  · rw [Maps.size_put hD, hh x hx, hs, stL_snoc]
    show _ = if x ∈ (stL L).1 then _ else _
    rw [stL_fst]
    by_cases hm : x ∈ L
    · rw [if_pos (by simpa using hm), if_pos hm]
    · rw [if_neg (by simpa using hm), if_neg hm]
end
/-- The objects' oops, as they lie. -/
def oopsL (l : List Ob) : List Nat := (List.range l.length).map fun j => 2 * posOf (l.take j)
theorem oopsL_len (l : List Ob) : (oopsL l).length = l.length := by simp [oopsL]
theorem oopsL_take1 {l : List Ob} {k : Nat} (hk : k < l.length) : (oopsL l).take (k + 1) = (oopsL l).take k ++ [2 * posOf (l.take k)] := by
  rw [List.take_add_one, List.getElem?_eq_getElem (by rw [oopsL_len]; exact hk)]
  simp [oopsL]
theorem oopsL_get {l : List Ob} {k : Nat} (hk : k < l.length) : (oopsL l)[k]? = some (2 * posOf (l.take k)) := by
  rw [List.getElem?_eq_getElem (by rw [oopsL_len]; exact hk)]
  simp [oopsL]
theorem posOf_take_mono {l : List Ob} {j k : Nat} (hjk : j < k) (hk : k ≤ l.length) : posOf (l.take j) < posOf (l.take k) := by
  induction k with
  | zero => omega
  | succ k ih =>
    have h1 := posOf_take_succ (l := l) k (by omega)
    rcases Nat.lt_or_ge j k with h | h
    · have := ih h (by omega); omega
    · have : j = k := by omega
      subst this; exact h1
theorem oopsL_new {l : List Ob} {k : Nat} (hk : k < l.length) : 2 * posOf (l.take k) ∉ (oopsL l).take k := by
  intro hm
  obtain ⟨j, hj, he⟩ := List.getElem_of_mem hm
  rw [List.length_take, oopsL_len] at hj
  have h1 : (oopsL l)[j]? = some (2 * posOf (l.take j)) := oopsL_get (by omega)
  rw [List.getElem_take] at he
  rw [List.getElem?_eq_getElem (by rw [oopsL_len]; omega)] at h1
  injection h1 with h1
  rw [h1] at he
  have := posOf_take_mono (l := l) (j := j) (k := k) (by omega) (by omega)
  omega
theorem oopsL_nodup (l : List Ob) : (oopsL l).Nodup := by
  unfold oopsL
  rw [List.nodup_iff_pairwise_ne, List.pairwise_map]
  refine List.Pairwise.imp_of_mem ?_ (List.pairwise_lt_range (n := l.length))
  intro a b ha hb hlt he
  have := posOf_take_mono (l := l) (j := a) (k := b) hlt (by have := List.mem_range.1 hb; omega)
  omega
theorem oopsL_zero (l : List Ob) : 0 ∉ oopsL l := by
  unfold oopsL
  simp
  intro j _
  have := posOf_pos (l.take j)
  omega
theorem oopsL_eq (l : List Ob) : (List.finRange l.length).map (fun i => 2 * posOf (l.take i.1)) = oopsL l := by
  apply List.ext_getElem
  · simp [oopsL]
  · intro i h1 h2
    simp [oopsL]
theorem oopsL_le {h : HM} {l : List Ob} (G : h.Good l) : (oopsL l).length ≤ 1048576 := by
  rw [oopsL_len]
  have hroom := G.fit.room
  have hhi := G.fit.hi
  rcases Nat.eq_zero_or_pos l.length with h0 | h0
  · omega
  · have h1 := posOf_take_lt G (l.length - 1) (by omega)
    have h2 : ∀ k, k ≤ l.length → k ≤ posOf (l.take k) := fun k => by
      induction k with
      | zero => intro _; omega
      | succ k ih => intro hk; have := ih (by omega); have := posOf_take_succ (l := l) k (by omega); omega
    have := h2 (l.length - 1) (by omega)
    omega
end Go.Proofs.YtlkahgagmfhdaaaGreatDoor

namespace Go.Proofs.YtlkahgagmfhdaaaGreatDoor
open Go.RowKit

/-- What was met, and the number of what each was met from. -/
abbrev Wk := List (Nat × Int)
def metO (l : Wk) : List Nat := l.map (·.1)
def putW (l : Wk) (o : Nat) (by_ : Int) : Wk := if kindM o = 2 ∧ o ∉ metO l then l ++ [(o, by_)] else l
def putsW (l : Wk) (os : List Nat) (by_ : Int) : Wk := os.foldl (fun l o => putW l o by_) l
def walkF (nm : Nat → List Nat) : Nat → Nat → Wk → Wk
  | 0, _, l => l
  | f + 1, i, l => if i < l.length then walkF nm f (i + 1) (putsW l (nm (l.getD i (0, 0)).1) (i : Int)) else l
def walkM (nm : Nat → List Nat) (fr : List Nat) : Wk := walkF nm 2097152 0 (putsW [] fr (-1))
/-- From what one was met; 0: it was not. -/
def byOf (l : Wk) (x : Nat) : Int := ((l.find? (fun p => p.1 == x)).map (·.2)).getD 0
theorem metO_len (l : Wk) : (metO l).length = l.length := by simp [metO]
theorem metO_snoc (l : Wk) (o : Nat) (b : Int) : metO (l ++ [(o, b)]) = metO l ++ [o] := by simp [metO]
theorem putW_new {l : Wk} {o : Nat} {b : Int} (h1 : kindM o = 2) (h2 : o ∉ metO l) : putW l o b = l ++ [(o, b)] := by unfold putW; rw [if_pos ⟨h1, h2⟩]
theorem putW_old {l : Wk} {o : Nat} {b : Int} (h : ¬ (kindM o = 2 ∧ o ∉ metO l)) : putW l o b = l := by unfold putW; rw [if_neg h]
theorem putW_pre (l : Wk) (o : Nat) (b : Int) : l <+: putW l o b := by
  unfold putW; split
  · exact List.prefix_append _ _
  · exact List.prefix_refl _
theorem putsW_nil (l : Wk) (b : Int) : putsW l [] b = l := rfl
theorem putsW_cons (l : Wk) (o : Nat) (os : List Nat) (b : Int) : putsW l (o :: os) b = putsW (putW l o b) os b := rfl
theorem putsW_snoc (l : Wk) (o : Nat) (os : List Nat) (b : Int) : putsW l (os ++ [o]) b = putW (putsW l os b) o b := by unfold putsW; rw [List.foldl_append]; rfl
theorem putsW_pre (l : Wk) (os : List Nat) (b : Int) : l <+: putsW l os b := by
  induction os generalizing l with
  | nil => exact List.prefix_refl _
  | cons o os ih => exact (putW_pre l o b).trans (ih _)
/-- Those that name no object may be left out. -/
theorem putsW_only (l : Wk) (os : List Nat) (b : Int) : putsW l (os.filter (fun o => decide (kindM o = 2))) b = putsW l os b := by
  induction os generalizing l with
  | nil => rfl
  | cons o os ih =>
    rw [List.filter_cons]
    by_cases h : kindM o = 2
    · rw [if_pos (by simpa using h), putsW_cons, putsW_cons, ih]
    · rw [if_neg (by simpa using h), putsW_cons, ih, putW_old (fun k => h k.1)]
theorem putW_nodup {l : Wk} (h : (metO l).Nodup) (o : Nat) (b : Int) : (metO (putW l o b)).Nodup := by
  unfold putW; split
  · rename_i hc
    rw [metO_snoc, List.nodup_append]
    exact ⟨h, by simp, fun a ha c hc' => by rintro rfl; simp at hc'; subst hc'; exact hc.2 ha⟩
  · exact h
theorem putsW_nodup {l : Wk} (h : (metO l).Nodup) (os : List Nat) (b : Int) : (metO (putsW l os b)).Nodup := by
  induction os generalizing l with
  | nil => exact h
  | cons o os ih => exact ih (putW_nodup h o b)
theorem putW_mem {l : Wk} {o x : Nat} {b : Int} : x ∈ metO (putW l o b) ↔ x ∈ metO l ∨ (x = o ∧ kindM o = 2) := by
  unfold putW; split
  · rename_i hc
    rw [metO_snoc, List.mem_append, List.mem_singleton]
    exact ⟨fun h => h.imp_right fun e => ⟨e, hc.1⟩, fun h => h.imp_right fun e => e.1⟩
  · rename_i hc
    refine ⟨.inl, fun h => h.elim id fun e => ?_⟩
    obtain ⟨rfl, hk⟩ := e
    exact Classical.byContradiction fun hn => hc ⟨hk, hn⟩
theorem putsW_mem {l : Wk} {os : List Nat} {x : Nat} {b : Int} : x ∈ metO (putsW l os b) ↔ x ∈ metO l ∨ (x ∈ os ∧ kindM x = 2) := by
  induction os generalizing l with
  | nil => simp [putsW_nil]
  | cons o os ih =>
    rw [putsW_cons, ih, putW_mem, List.mem_cons]
    constructor
    · rintro ((h | ⟨rfl, h⟩) | ⟨h1, h2⟩)
      · exact .inl h
      · exact .inr ⟨.inl rfl, h⟩
      · exact .inr ⟨.inr h1, h2⟩
    · rintro (h | ⟨rfl | h1, h2⟩)
      · exact .inl (.inl h)
      · exact .inl (.inr ⟨rfl, h2⟩)
      · exact .inr ⟨h1, h2⟩
theorem byOf_nil (x : Nat) : byOf [] x = 0 := rfl
theorem byOf_snoc {l : Wk} {o : Nat} (b : Int) (hn : o ∉ metO l) (x : Nat) : byOf (l ++ [(o, b)]) x = if x = o then b else byOf l x := by
  unfold byOf
  rw [List.find?_append]
  by_cases hx : x = o
  · subst hx
    have h0 : l.find? (fun p => p.1 == x) = none := by
      rw [List.find?_eq_none]
      intro p hp he
      exact hn (List.mem_map.2 ⟨p, hp, by simpa using he⟩)
    rw [if_pos rfl, h0]
    simp
  · rw [if_neg hx]
    have h1 : ([(o, b)] : Wk).find? (fun p => p.1 == x) = none := by simp; omega
    rw [h1, Option.or_none]
/-- The k-th's. -/
theorem byOf_at {l : Wk} (hd : (metO l).Nodup) {k : Nat} (hk : k < l.length) : byOf l (l[k]).1 = (l[k]).2 := by
  induction l generalizing k with
  | nil => simp at hk
  | cons p l ih =>
    have hd2 : p.1 ∉ metO l ∧ (metO l).Nodup := by simpa [metO] using hd
    cases k with
    | zero => simp [byOf]
    | succ k =>
      have hk' : k < l.length := by simpa using hk
      have hne : (p.1 == (l[k]).1) = false := by
        simp
        intro e
        exact hd2.1 (e ▸ List.mem_map.2 ⟨l[k], List.getElem_mem hk', rfl⟩)
      have := ih hd2.2 hk'
      unfold byOf at this ⊢
      simp only [List.getElem_cons_succ, List.find?_cons, hne]
      exact this
theorem len_of_sub : ∀ (a b : List Nat), a.Nodup → (∀ x ∈ a, x ∈ b) → a.length ≤ b.length
  | [], _, _, _ => Nat.zero_le _
  | x :: a, b, hd, hs => by
    rw [List.nodup_cons] at hd
    have hx := hs x (by simp)
    have := len_of_sub a (b.erase x) hd.2 (fun y hy => (List.mem_erase_of_ne (show y ≠ x by rintro rfl; exact hd.1 hy)).2 (hs y (by simp [hy])))
    rw [List.length_erase_of_mem hx] at this
    have := List.length_pos_of_mem hx
    simp
    omega
section
variable (nm : Nat → List Nat)
/-- Going through what was met. -/
structure GoW (fr : List Nat) (i : Nat) (l : Wk) : Prop where
  nodup : (metO l).Nodup
  le : i ≤ l.length
  rest : walkM nm fr = walkF nm (2097152 - i) i l
theorem GoW.start (fr : List Nat) : GoW nm fr 0 (putsW [] fr (-1)) := ⟨putsW_nodup (by simp [metO]) _ _, Nat.zero_le _, rfl⟩
variable {nm} {fr : List Nat} {i : Nat} {l : Wk}
theorem GoW.next (G : GoW nm fr i l) (hi : i < l.length) (hl : l.length ≤ 1048576) : GoW nm fr (i + 1) (putsW l (nm (l.getD i (0, 0)).1) (i : Int)) := by
  refine ⟨putsW_nodup G.nodup _ _, by have := (putsW_pre l (nm (l.getD i (0, 0)).1) (i : Int)).length_le; omega, ?_⟩
  rw [G.rest, show 2097152 - i = (2097152 - (i + 1)) + 1 by omega]
  conv => lhs; unfold walkF
  rw [if_pos hi]
theorem GoW.done (G : GoW nm fr i l) (hi : ¬ i < l.length) (hl : l.length ≤ 1048576) : walkM nm fr = l := by
  have := G.le
  rw [G.rest, show 2097152 - i = (2097152 - (i + 1)) + 1 by omega]
  unfold walkF
  rw [if_neg hi]
end
/-- What is kept for all that is met. -/
theorem walkF_all {P : Nat → Prop} (nm : Nat → List Nat) (hn : ∀ o, P o → ∀ x ∈ nm o, kindM x = 2 → P x) : ∀ (f i : Nat) (l : Wk), (∀ o ∈ metO l, P o) → ∀ o ∈ metO (walkF nm f i l), P o
  | 0, _, l, h => h
  | f + 1, i, l, h => by
    unfold walkF
    split
    · rename_i hi
      refine walkF_all nm hn f (i + 1) _ (fun o ho => ?_)
      rcases putsW_mem.1 ho with ho | ⟨h1, h2⟩
      · exact h o ho
      · refine hn _ (h _ ?_) o h1 h2
        rw [List.getD_eq_getElem?_getD, List.getElem?_eq_getElem hi]
        exact List.mem_map.2 ⟨l[i], List.getElem_mem hi, rfl⟩
    · exact h
theorem walkM_all {P : Nat → Prop} {nm : Nat → List Nat} {fr : List Nat} (hf : ∀ x ∈ fr, kindM x = 2 → P x) (hn : ∀ o, P o → ∀ x ∈ nm o, kindM x = 2 → P x) : ∀ o ∈ metO (walkM nm fr), P o :=
  walkF_all nm hn _ _ _ (fun o ho => by
    rcases putsW_mem.1 ho with ho | ⟨h1, h2⟩
    · simp [metO] at ho
    · exact hf o h1 h2)
theorem walkF_nodup (nm : Nat → List Nat) : ∀ (f i : Nat) (l : Wk), (metO l).Nodup → (metO (walkF nm f i l)).Nodup
  | 0, _, l, h => h
  | f + 1, i, l, h => by
    unfold walkF
    split
    · exact walkF_nodup nm f (i + 1) _ (putsW_nodup h _ _)
    · exact h
theorem walkM_nodup (nm : Nat → List Nat) (fr : List Nat) : (metO (walkM nm fr)).Nodup := walkF_nodup nm _ _ _ (putsW_nodup (by simp [metO]) _ _)
theorem walkF_pre (nm : Nat → List Nat) : ∀ (f i : Nat) (l : Wk), l <+: walkF nm f i l
  | 0, _, l => List.prefix_refl _
  | f + 1, i, l => by
    unfold walkF
    split
    · exact (putsW_pre l _ _).trans (walkF_pre nm f (i + 1) _)
    · exact List.prefix_refl _
/-- What an object names that holds; weak fields don't. -/
def heldM (h : HM) (o : Nat) : List Nat := (h.hd (o / 2)).cls :: (if (h.hd (o / 2)).fmt = 1 then h.fields o else [])
/-- What it names, weak fields too. -/
def namesM (h : HM) (o : Nat) : List Nat := (h.hd (o / 2)).cls :: (if (h.hd (o / 2)).ptrB = true then h.fields o else [])
section
variable {h : HM} {l : List Ob}
theorem isB_mem (G : h.Good l) {o : Nat} (hi : h.isB o = true) : o ∈ oopsL l := by
  obtain ⟨a, b, c, rfl, rfl⟩ := (G.laid.isB_iff o).1 hi
  have hk : a.length < (a ++ b :: c).length := by simp
  have := oopsL_get hk
  rw [List.take_left] at this
  exact List.mem_of_getElem? this
theorem mem_isB (G : h.Good l) {o : Nat} (ho : o ∈ oopsL l) : h.isB o = true := by
  unfold oopsL at ho
  obtain ⟨j, hj, rfl⟩ := List.mem_map.1 ho
  exact isB_at G j (by simpa using hj)
theorem isB_kind {o : Nat} (hi : h.isB o = true) : kindM o = 2 := by
  unfold HM.isB at hi
  simp only [Bool.and_eq_true] at hi
  unfold objB at hi
  simpa using hi.1
theorem names_isB (G : h.Good l) {o : Nat} (hi : h.isB o = true) {x : Nat} (hx : x ∈ namesM h o) (hk : kindM x = 2) : h.isB x = true := by
  obtain ⟨a, b, c, rfl, rfl⟩ := (G.laid.isB_iff o).1 hi
  unfold namesM at hx
  rw [half_pos, G.laid.hd_at, G.laid.fields_at] at hx
  have ho : objB x = true := by unfold objB; simpa using hk
  rcases List.mem_cons.1 hx with rfl | hx
  · have := G.sound.cls b (by simp)
    unfold HM.clsB at this
    rw [Bool.or_eq_true] at this
    rcases this with h0 | h1
    · have h0 : b.x.cls = 0 := by simpa using h0
      rw [h0] at hk
      simp [kindM] at hk
    · exact h1
  · split at hx
    · rename_i hp
      have := G.sound.flds b (by simp) hp x hx
      unfold HM.valB at this
      rw [ho] at this
      simpa using this
    · cases hx
theorem held_names {o x : Nat} (hx : x ∈ heldM h o) : x ∈ namesM h o := by
  unfold heldM at hx
  unfold namesM
  rcases List.mem_cons.1 hx with h1 | h1
  · exact List.mem_cons.2 (.inl h1)
  · split at h1
    · rename_i h2
      refine List.mem_cons.2 (.inr ?_)
      rw [if_pos (by unfold Hd.ptrB; simp [h2])]
      exact h1
    · cases h1
theorem walk_isB (G : h.Good l) {fr : List Nat} (hf : ∀ x ∈ fr, h.valB x = true) : ∀ o ∈ metO (walkM (heldM h) fr), h.isB o = true :=
  walkM_all (P := fun o => h.isB o = true) (fun x hx hk => by
    have := hf x hx
    unfold HM.valB objB at this
    simpa [hk] using this) (fun o ho x hx hk => names_isB G ho (held_names hx) hk)
theorem wk_len (G : h.Good l) {w : Wk} (hd : (metO w).Nodup) (hi : ∀ o ∈ metO w, h.isB o = true) : w.length ≤ 1048576 := by
  have := len_of_sub (metO w) (oopsL l) hd (fun o ho => isB_mem G (hi o ho))
  have := oopsL_le G
  rw [metO_len] at *
  omega
/-- The live objects, as they lie. -/
def liveO (h : HM) (l : List Ob) : List Nat := (oopsL l).filter (fun o => decide (o ∈ metO (walkM (heldM h) h.roots)))
theorem oopsL_lt (l : List Ob) : (oopsL l).Pairwise (· < ·) := by
  unfold oopsL
  rw [List.pairwise_map]
  refine List.Pairwise.imp_of_mem ?_ (List.pairwise_lt_range (n := l.length))
  intro a b ha hb hlt
  have := posOf_take_mono (l := l) (j := a) (k := b) hlt (by have := List.mem_range.1 hb; omega)
  omega
theorem liveO_lt (h : HM) (l : List Ob) : (liveO h l).Pairwise (· < ·) := (oopsL_lt l).filter _
theorem mem_liveO (G : h.Good l) {o : Nat} : o ∈ liveO h l ↔ o ∈ metO (walkM (heldM h) h.roots) := by
  unfold liveO
  rw [List.mem_filter]
  refine ⟨fun hh => by simpa using hh.2, fun hh => ⟨isB_mem G (walk_isB G G.sound.roots o hh), by simpa using hh⟩⟩
theorem lt_unique : ∀ (a b : List Nat), a.Pairwise (· < ·) → b.Pairwise (· < ·) → (∀ x, x ∈ a ↔ x ∈ b) → a = b
  | [], [], _, _, _ => rfl
  | [], y :: b, _, _, h => by have := (h y).2 (by simp); cases this
  | x :: a, [], _, _, h => by have := (h x).1 (by simp); cases this
  | x :: a, y :: b, ha, hb, h => by
    rw [List.pairwise_cons] at ha hb
    have hxy : x = y := by
      rcases List.mem_cons.1 ((h x).1 (by simp)) with h1 | h1
      · exact h1
      · rcases List.mem_cons.1 ((h y).2 (by simp)) with h2 | h2
        · exact h2.symm
        · have := hb.1 x h1; have := ha.1 y h2; omega
    subst hxy
    rw [lt_unique a b ha.2 hb.2 (fun z => ?_)]
    have hz := h z
    rw [List.mem_cons, List.mem_cons] at hz
    constructor
    · intro h1
      rcases hz.1 (.inr h1) with rfl | h2
      · have := ha.1 z h1; omega
      · exact h2
    · intro h1
      rcases hz.2 (.inr h1) with rfl | h2
      · have := hb.1 z h1; omega
      · exact h2
/-- What was met, sorted, is what is live. -/
theorem sorted_live (G : h.Good l) {s : List Nat} (hp : s.Perm (metO (walkM (heldM h) h.roots))) (hs : s.Pairwise (· ≤ ·)) : s = liveO h l := by
  refine lt_unique s (liveO h l) ?_ (liveO_lt h l) (fun x => by rw [hp.mem_iff, mem_liveO G])
  have hd : s.Nodup := hp.nodup_iff.2 (walkM_nodup _ _)
  rw [List.nodup_iff_pairwise_ne] at hd
  exact (hs.and hd).imp (fun h => by omega)
end
end Go.Proofs.YtlkahgagmfhdaaaGreatDoor

namespace Go.Proofs.YtlkahgagmfhdaaaGreatDoor
open Go.RowKit
attribute [local go_sem] Oper.semAt_some
/-- Only one block is another. -/
structure Frb (rg : Nat) (w w' : World) : Prop where
  os : w'.os = w.os
  tape : w'.tape = w.tape
  output : w'.output = w.output
  size : w.heap.size ≤ w'.heap.size
  same : ∀ k, k < w.heap.size → k ≠ rg → w'.heap[k]? = w.heap[k]?
theorem Frb.refl (rg : Nat) (w : World) : Frb rg w w := ⟨rfl, rfl, rfl, Nat.le_refl _, fun _ _ _ => rfl⟩
theorem Frb.trans {rg : Nat} {w w' w'' : World} (h : Frb rg w w') (k : Frb rg w' w'') : Frb rg w w'' :=
  ⟨k.os.trans h.os, k.tape.trans h.tape, k.output.trans h.output, Nat.le_trans h.size k.size, fun i hi hne => (k.same i (Nat.lt_of_lt_of_le hi h.size) hne).trans (h.same i hi hne)⟩
theorem Frb.set (rg i : Nat) (w : World) (v : Value) : Frb rg w (w.setCell ⟨rg, i, none⟩ v) :=
  ⟨rfl, rfl, rfl, by simp [World.setCell], fun k _ hne => Below.heap_setCell w ⟨rg, i, none⟩ v k hne⟩
theorem Frb.of_below {rg : Nat} {w w' : World} (h : Below w.heap.size w w') : Frb rg w w' := ⟨h.os, h.tape, h.output, h.size, fun k hk _ => h.block k hk⟩
theorem Frb.below {rg B : Nat} {w w' : World} (h : Frb rg w w') (hB : B ≤ rg) (hw : B ≤ w.heap.size) : Below B w w' := ⟨h.os, h.tape, h.output, h.size, fun k hk => h.same k (by omega) (by omega)⟩
theorem Frb.setCells (rg : Nat) : ∀ (vs : List Value) (o : Nat) (w : World), Frb rg w (w.setCells rg o vs)
  | [], _, w => Frb.refl _ _
  | v :: vs, o, w => (Frb.set rg o w v).trans (Frb.setCells rg vs (o + 1) _)
theorem Row.setCells {g c : Nat} {e : TypeId} {xs : List Value} : ∀ (vs : List Value) (o : Nat) (w : World), Row w g e c xs → xs.length ≤ o → Row (w.setCells g o vs) g e c xs
  | [], _, w, h, _ => h
  | v :: vs, o, w, h, ho => Row.setCells vs (o + 1) _ (by have := h.set o v; rwa [List.set_eq_of_length_le ho] at this) (by omega)
theorem Row.short {w : World} {g c : Nat} {e : TypeId} {xs : List Value} (h : Row w g e c xs) (i : Nat) : Row w g e c (xs.take i) := by
  obtain ⟨cur, hb, hl, hm, hc, hx⟩ := h
  refine ⟨cur, hb, by rw [List.length_take]; omega, hm, hc, ?_⟩
  rw [← hx, List.take_take, List.length_take]
  congr 1
  have : cur.toList.length = c := by simpa using hc
  have := congrArg List.length hx
  simp only [List.length_take] at this ⊢
  omega
theorem Row.len_le {w : World} {g c : Nat} {e : TypeId} {xs : List Value} (h : Row w g e c xs) : xs.length ≤ c := by obtain ⟨_, _, h1, _⟩ := h; exact h1
def k2 (o : Nat) : Bool := decide (kindM o = 2)
theorem cobject_any (o : Nat) (ho : o < 4294967296) (w : World) :
    Calls Tryz.prog 171 #[.int .u32 o] w fun e w' => e = .returned (.bool (k2 o)) ∧ w = w' := by
  have HK := Lib.hid (kind_any o ho w)
  have HD := Lib.hid (show ((kindM o : Int) == 2) = k2 o by unfold k2; rw [Bool.eq_iff_iff]; simp; omega)
  generalize kindM o = kk at *
  generalize k2 o = b at *
  go_enter Tryz.func171, Tryz.ntmps171
  go_wp2_with fail
  refine HK.out.mono ?_
  rintro e w' ⟨rfl, rfl⟩
  go_wp2_with fail
  go_ret
  exact ⟨by rw [← HD.out]; rfl, rfl⟩
theorem onlyF_any (o : Nat) (ho : o < 4294967296) (w : World) :
    Calls Tryz.prog 263 #[.int .u32 o] w fun e w' => e = .returned (.bool (!k2 o)) ∧ w = w' := by
  have HK := Lib.hid (cobject_any o ho w)
  generalize k2 o = b at *
  go_enter Tryz.func263, Tryz.ntmps263
  go_wp2_with fail
  refine HK.out.mono ?_
  rintro e w' ⟨rfl, rfl⟩
  go_wp2_with fail
  go_ret
  exact ⟨rfl, rfl⟩
/-- The literal's value. -/
def onlyFn : Value := .func (.func 263) #[] #[]
/-- The first oop that names none, or -1. -/
def IdxOP (xs : List Nat) (w : World) (e : Ending) (w' : World) : Prop :=
  w = w' ∧ ((e = .returned (.int .i64 (-1)) ∧ ∀ x ∈ xs, k2 x = true) ∨ ∃ j, e = .returned (.int .i64 (j : Nat)) ∧ j < xs.length ∧ k2 (xs.getD j 0) = false ∧ ∀ i, i < j → k2 (xs.getD i 0) = true)
theorem getD_u32 {xs : List Nat} (h : ∀ x ∈ xs, x < 4294967296) (k : Nat) : xs.getD k 0 < 4294967296 := by
  rw [List.getD_eq_getElem?_getD]
  cases hh : xs[k]? with
  | none => simp
  | some v => simp; exact h v (List.mem_of_getElem? hh)
set_option maxHeartbeats 1000000 in
theorem indexO_any {w : World} (A : Option Addr) (n c B : Nat) (xs : List Nat) (hn : n ≤ 9223372036854775807) (hr : Reads w B 1 A n (u32s xs)) (h32 : ∀ x ∈ xs, x < 4294967296) :
    Calls Tryz.prog 265 #[.slice A n c, onlyFn] w (IdxOP xs w) := by
  have hl : xs.length = n := by have := hr.1; rw [u32s_len] at this; omega
  have HL := Lib.hid hl; have HR := Lib.hid hr; have HX := Lib.hid h32
  clear hl hr h32
  unfold onlyFn
  go_enter Tryz.func265, Tryz.ntmps265
  go_wp2_with fail
  go_loop [8] (fun i => ∃ k : Nat, k ≤ n ∧ i = .int .i64 k ∧ ∀ i, i < k → k2 (xs.getD i 0) = true) (fun i => n - (intOf i).toNat)
  case atStart => exact ⟨0, by omega, rfl, fun i hi => by omega⟩
  case round =>
    obtain ⟨k, hk, rfl, hno⟩ := hrel
    have HNO := Lib.hid hno; clear hno
    by_cases hlt : k < n
    · obtain ⟨ad, u0, rfl, _, hx, hcell⟩ := HR.out.at_ hlt
      rw [u32s_get (by rw [HL.out]; exact hlt)] at hx
      injection hx with hx
      subst hx
      have HC := Lib.hid (fun w => onlyF_any (xs.getD k 0) (getD_u32 HX.out k) w)
      cases hv : k2 (xs.getD k 0)
      · have HA := Lib.hid hv
        rw [hv] at HC
        clear hv
        generalize hy : xs.getD k 0 = y at *
        have HY := Lib.hid hy
        clear hy
        go_wp2_with fail
        refine (HC.out _).mono ?_
        rintro e w' ⟨rfl, rfl⟩
        go_wp2_with fail
        go_ret
        exact ⟨rfl, .inr ⟨k, rfl, by rw [HL.out]; exact hlt, by rw [HY.out]; exact HA.out, HNO.out⟩⟩
      · have HA := Lib.hid (show ∀ i, i < k + 1 → k2 (xs.getD i 0) = true from fun i hi => by
          rcases Nat.lt_or_ge i k with h | h
          · exact HNO.out i h
          · obtain rfl : i = k := by omega
            exact hv)
        rw [hv] at HC
        clear hv
        generalize xs.getD k 0 = y at hcell HC
        go_wp2_with fail
        refine (HC.out _).mono ?_
        rintro e w' ⟨rfl, rfl⟩
        go_wp2_with fail
        go_round
        case rel => exact ⟨k + 1, by omega, by go_num, HA.out⟩
        case measure => simp [intOf]; omega
    · obtain rfl : k = n := by omega
      go_wp2_with fail
      go_ret
      refine ⟨rfl, .inl ⟨rfl, fun x hx => ?_⟩⟩
      obtain ⟨i, hi, rfl⟩ := List.getElem_of_mem hx
      have := HNO.out i (by rw [← HL.out]; exact hi)
      rw [List.getD_eq_getElem?_getD, List.getElem?_eq_getElem hi] at this
      exact this
/-- What deleting leaves: the slice is shorter, its block holds those that name objects. -/
def OnlyP (g c : Nat) (xs : List Nat) (w : World) (e : Ending) (w' : World) : Prop :=
  e = .returned (.slice (some ⟨g, 0, none⟩) (xs.filter k2).length c) ∧ Row w' g 54 c (u32s (xs.filter k2)) ∧ Frb g w w'
/-- On the way: the first j are looked at. -/
structure DelS (xs ys : List Nat) (i j : Nat) : Prop where
  len : ys.length = xs.length
  fst : ys.take i = (xs.take j).filter k2
  rest : ys.drop j = xs.drop j
  ij : i < j
  jl : j ≤ xs.length
theorem DelS.il {xs ys : List Nat} {i j : Nat} (D : DelS xs ys i j) : ((xs.take j).filter k2).length = i := by
  have := D.ij; have := D.jl; have := D.len
  rw [← D.fst, List.length_take]; omega
theorem DelS.start {xs : List Nat} {j : Nat} (hj : j < xs.length) (h0 : k2 (xs.getD j 0) = false) (h : ∀ i, i < j → k2 (xs.getD i 0) = true) : DelS xs xs j (j + 1) := by
  refine ⟨rfl, ?_, rfl, by omega, by omega⟩
  rw [List.take_add_one, List.getElem?_eq_getElem hj, List.filter_append]
  have e1 : (xs.take j).filter k2 = xs.take j := by
    rw [List.filter_eq_self]
    intro x hx
    obtain ⟨i, hi, rfl⟩ := List.getElem_of_mem hx
    rw [List.length_take] at hi
    have := h i (by omega)
    rw [List.getD_eq_getElem?_getD, List.getElem?_eq_getElem (by omega)] at this
    simpa using this
  rw [List.getD_eq_getElem?_getD, List.getElem?_eq_getElem hj] at h0
  have h0 : k2 xs[j] = false := by simpa using h0
  rw [e1]
  simp [h0]
theorem DelS.get {xs ys : List Nat} {i j : Nat} (D : DelS xs ys i j) (hj : j < xs.length) : ys.getD j 0 = xs.getD j 0 := by
  have h : (ys.drop j).getD 0 0 = (xs.drop j).getD 0 0 := by rw [D.rest]
  simpa [List.getD_eq_getElem?_getD] using h
theorem DelS.skip {xs ys : List Nat} {i j : Nat} (D : DelS xs ys i j) (hj : j < xs.length) (h : k2 (xs.getD j 0) = false) : DelS xs ys i (j + 1) := by
  have hij := D.ij
  refine ⟨D.len, ?_, ?_, by omega, by omega⟩
  · rw [D.fst, List.take_add_one, List.getElem?_eq_getElem hj, List.filter_append]
    rw [List.getD_eq_getElem?_getD, List.getElem?_eq_getElem hj] at h
    have h : k2 xs[j] = false := by simpa using h
    simp [h]
  · rw [← List.drop_drop, D.rest, List.drop_drop]
theorem DelS.keep {xs ys : List Nat} {i j : Nat} (D : DelS xs ys i j) (hj : j < xs.length) (h : k2 (xs.getD j 0) = true) : DelS xs (ys.set i (xs.getD j 0)) (i + 1) (j + 1) := by
  have hij := D.ij
  have hl := D.len
  refine ⟨by rw [List.length_set]; exact hl, ?_, ?_, by omega, by omega⟩
  · rw [List.take_add_one, List.getElem?_set_self (by omega), List.take_set_of_le (Nat.le_refl _), D.fst]
    rw [List.take_add_one, List.getElem?_eq_getElem hj, List.filter_append]
    rw [List.getD_eq_getElem?_getD, List.getElem?_eq_getElem hj] at h ⊢
    have h : k2 xs[j] = true := by simpa using h
    simp [h]
  · rw [List.drop_set, if_pos (by omega), ← List.drop_drop, D.rest, List.drop_drop]
theorem u32s_take (xs : List Nat) (i : Nat) : (u32s xs).take i = u32s (xs.take i) := by unfold u32s; rw [List.map_take]
theorem u32s_set (xs : List Nat) (i v : Nat) : u32s (xs.set i v) = (u32s xs).set i (.int .u32 (v : Nat)) := by unfold u32s; rw [List.map_set]
set_option maxRecDepth 100000 in
set_option maxHeartbeats 2000000 in
theorem deleteO_any {w : World} (g c : Nat) (xs : List Nat) (hR : Row w g 54 c (u32s xs)) (hn : xs.length ≤ 9223372036854775807) (h32 : ∀ x ∈ xs, x < 4294967296) :
    Calls Tryz.prog 262 #[.slice (some ⟨g, 0, none⟩) xs.length c, onlyFn] w (OnlyP g c xs w) := by
  have hrr := hR.reads (B := w.heap.size) hR.lt
  rw [u32s_len] at hrr
  have HI := Lib.hid (indexO_any (c := c) _ xs.length w.heap.size xs hn hrr h32)
  have HR := Lib.hid hR
  have HX := Lib.hid h32
  have hlc := hR.len_le
  rw [u32s_len] at hlc
  clear hR hrr h32
  unfold onlyFn at HI ⊢
  go_enter Tryz.func262, Tryz.ntmps262
  go_wp2_with fail
  refine HI.out.mono ?_
  rintro e w' ⟨rfl, ⟨rfl, hall⟩ | ⟨j, rfl, hj, hj0, hji⟩⟩
  · have HF := Lib.hid (show xs.filter k2 = xs from List.filter_eq_self.2 hall)
    clear hall HI
    go_wp2_with fail
    go_ret
    exact ⟨by rw [HF.out]; rfl, by rw [HF.out]; exact HR.out, Frb.refl _ _⟩
  · have HD0 := Lib.hid (DelS.start hj hj0 hji)
    have hm1 : ((j : Int) == -1) = false := by first | (simp; done) | (simp; omega)
    have hjn : j < xs.length := hj
    clear hj0 hji HI hj
    go_wp2_with fail
    go_loopw [5, 6] (fun vi vj wr => ∃ (i j' : Nat) (ys : List Nat), vi = .int .i64 i ∧ vj = .int .i64 j' ∧ DelS xs ys i j' ∧ Row wr g 54 c (u32s ys) ∧ Frb g w wr) (fun _ vj _ => xs.length - (intOf vj).toNat)
    case atStart => exact ⟨j, j + 1, xs, rfl, by go_num, HD0.out, HR.out, Frb.refl _ _⟩
    case round =>
      clear HD0 HR hm1 hjn
      obtain ⟨i, j', ys, rfl, rfl, hd, hrow, hfr⟩ := hrel
      have HD := Lib.hid hd
      have HW := Lib.hid hrow
      have HFR := Lib.hid hfr
      have hij := hd.ij
      have hjl := hd.jl
      have hyl := hd.len
      have hyl2 := Lib.hid hyl
      clear hd hrow hfr hyl
      by_cases hlt : j' < xs.length
      · have hc1 := HW.out.cell (u32s_get (l := ys) (i := j') (by rw [hyl2.out]; exact hlt))
        rw [HD.out.get hlt] at hc1
        have hfz := HW.out.frozen i
        have hold := HW.out.cell (u32s_get (l := ys) (i := i) (by rw [hyl2.out]; omega))
        have HC := Lib.hid (fun w => onlyF_any (xs.getD j' 0) (getD_u32 HX.out j') w)
        cases hv : k2 (xs.getD j' 0)
        · have HN := Lib.hid (HD.out.skip hlt hv)
          rw [hv] at HC
          clear hv
          generalize xs.getD j' 0 = y at hc1 HC
          go_wp2_with fail
          refine (HC.out _).mono ?_
          rintro e w' ⟨rfl, rfl⟩
          go_wp2_with fail
          go_roundw
          case rel => exact ⟨i, j' + 1, ys, rfl, by go_num, HN.out, HW.out, HFR.out⟩
          case measure => simp [intOf]; omega
        · have HN := Lib.hid (HD.out.keep hlt hv)
          rw [hv] at HC
          have HS := Lib.hid (HW.out.set i (.int .u32 (xs.getD j' 0 : Nat)))
          have HF2 := Lib.hid (HFR.out.trans (Frb.set g i wr (.int .u32 (xs.getD j' 0 : Nat))))
          rw [← u32s_set] at HS
          clear hv
          generalize xs.getD j' 0 = y at hc1 HC HS HF2 HN
          go_wp2_with fail
          refine (HC.out _).mono ?_
          rintro e w' ⟨rfl, rfl⟩
          go_wp2_with fail
          go_roundw
          case rel => exact ⟨i + 1, j' + 1, ys.set i y, by go_num, by go_num, HN.out, HS.out, HF2.out⟩
          case measure => simp [intOf]; omega
      · obtain rfl : j' = xs.length := by omega
        have HE := Lib.hid (show OnlyP g c xs w (.returned (.slice (some ⟨g, 0, none⟩) i c)) (wr.setCells g i (List.replicate (xs.length - i) (.int .u32 0))) from by
          have h1 := HD.out.fst
          have h2 := HD.out.il
          rw [List.take_length] at h1 h2
          refine ⟨by rw [h2], ?_, HFR.out.trans (Frb.setCells g _ i wr)⟩
          have h3 := HW.out.short i
          rw [u32s_take, h1] at h3
          exact h3.setCells _ i wr (by rw [u32s_len, h2]; exact Nat.le_refl _))
        have hcl : ∀ ty, (Builtin.clear_ #[101] ty #[.slice (some ⟨g, i, none⟩) (xs.length - i) (c - i)]).run Tryz.prog wr = .ok (.tuple #[]) (wr.setCells g i (List.replicate (xs.length - i) (.int .u32 0))) :=
          fun ty => Lib.run_clear_slice wr _ _ ty _ Tryz.underlying101 Tryz.zeroValue54 rfl rfl g i _ _ (by omega) (fun t ht => by
            rw [HW.out.cell (u32s_get (l := ys) (i := i + t) (by rw [hyl2.out]; omega))]; rfl) (fun t ht => HW.out.frozen _)
        have hne : ¬ c = i := by omega
        have hne2 : ¬ i = c := by omega
        clear HD HW HFR
        go_wp2_with fail
        go_ret
        exact HE.out
/-- Those that name objects. -/
theorem only_any {w : World} (g c : Nat) (xs : List Nat) (hR : Row w g 54 c (u32s xs)) (hn : xs.length ≤ 9223372036854775807) (h32 : ∀ x ∈ xs, x < 4294967296) :
    Calls Tryz.prog 219 #[.slice (some ⟨g, 0, none⟩) xs.length c] w (OnlyP g c xs w) := by
  have HD := Lib.hid (deleteO_any g c xs hR hn h32)
  clear hR h32
  unfold onlyFn at HD
  go_enter Tryz.func219, Tryz.ntmps219
  go_wp2_with fail
  refine HD.out.mono ?_
  rintro e w' ⟨rfl, h1, h2⟩
  have H1 := Lib.hid h1
  have H2 := Lib.hid h2
  clear h1 h2
  go_wp2_with fail
  go_ret
  exact ⟨rfl, H1.out, H2.out⟩
end Go.Proofs.YtlkahgagmfhdaaaGreatDoor
