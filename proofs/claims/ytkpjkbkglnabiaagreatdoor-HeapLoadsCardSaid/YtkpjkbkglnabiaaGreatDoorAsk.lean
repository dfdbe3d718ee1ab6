/- ask: what changes nothing; the two heaps answer the same. -/
import Derived.Test.YtkpjkbkglnabiaaGreatDoorDo
set_option linter.unusedVariables false
namespace Go.Proofs.YtkpjkbkglnabiaaGreatDoor
open Go.RowKit
attribute [local go_sem] Oper.semAt_some

section
variable {W w : World} {p q : HP} {g k : Nat} {h : HM} (T : Two W w p g q k h h) (dk : Int) (o v : Nat) (f i m : Int) (x : Nat) (fo : o < 4294967296) (fx : x < 4294967296) (A : Option Addr) (n c : Nat)
include T fo fx
set_option maxRecDepth 100000 in
set_option maxHeartbeats 4000000 in
theorem ask_any : Calls Tryz.prog 47 #[.pointer (some ⟨g, 0, none⟩), .pointer (some ⟨k, 0, none⟩), .agg #[.int .i64 dk, .int .u32 (o : Nat), .int .u32 (v : Nat), .int .i64 f, .int .i64 i, .int .i64 m, .int .u32 (x : Nat), .slice A n c]] w (Done2 W p g q k h h (.bool true) w) := by
  obtain rfl := T.hk
  have hf := T.live.fit
  have hh := T.live.heads
  obtain ⟨l, G⟩ := T.live.good
  have hb0 := (Below.refl w.heap.size w).alloc (Nat.le_refl _) (.cells #[.int .i64 dk, .int .u32 (o : Nat), .int .u32 (v : Nat), .int .i64 f, .int .i64 i, .int .i64 m, .int .u32 (x : Nat), .slice A n c] 33)
  have T0 := T.after hb0
  have BX := Blk.new w 33 #[.int .i64 dk, .int .u32 (o : Nat), .int .u32 (v : Nat), .int .i64 f, .int .i64 i, .int .i64 m, .int .u32 (x : Nat), .slice A n c]
  go_enter Tryz.func47, Tryz.ntmps47
  go_upto_region 1 with fail
  generalize hW : w.alloc (.cells #[.int .i64 dk, .int .u32 (o : Nat), .int .u32 (v : Nat), .int .i64 f, .int .i64 i, .int .i64 m, .int .u32 (x : Nat), .slice A n c] 33) = W1 at *
  clear hW T
  have HTA := Lib.hid (fun w' (hb : Below W1.heap.size W1 w') => T0.after hb)
  have HBOX := Lib.hid (fun w' (hb : Below W1.heap.size W1 w') => BX.below hb BX.lt)
  have HC := Lib.hid (fun w' (hb : Below W1.heap.size W1 w') => (BX.below hb BX.lt).cells8)
  have HINV := Lib.hid (fun w' (hb : Below W1.heap.size W1 w') => show w'.cell? ⟨w.heap.size, 1, none⟩ = some (.int .u32 (o : Nat)) ∧ w'.cell? ⟨w.heap.size, 6, none⟩ = some (.int .u32 (x : Nat)) from ⟨(BX.below hb BX.lt).cell 1, (BX.below hb BX.lt).cell 6⟩)
  have HIS := Lib.hid (fun w' (hb : Below W1.heap.size W1 w') => (T0.after hb).live.is o fo)
  have HFI := Lib.hid (fun w' (hb : Below W1.heap.size W1 w') => (T0.after hb).live.first)
  have HFD := Lib.hid (fun w' (hb : Below W1.heap.size W1 w') => show Calls Tryz.prog 87 #[.pointer (some ⟨g, 0, none⟩), .int .u32 x] w' (Told (.int .u32 (findN l x : Nat)) w') from by
    have hF := find_any (T0.after hb).live.at_ G (T0.after hb).live.envw.spares x fx
    rw [(T0.after hb).live.hg] at hF
    exact hF)
  have RIS := Lib.hid (fun w' (hb : Below W1.heap.size W1 w') => ris_any (T0.after hb).doc hf o fo)
  have RFI := Lib.hid (fun w' (hb : Below W1.heap.size W1 w') => rfirst_any (T0.after hb).doc hf)
  have RFD := Lib.hid (fun w' (hb : Below W1.heap.size W1 w') => rfind_any (T0.after hb).doc hf G x fx)
  unfold ptr at RIS RFI RFD
  have HB0 := hb0
  have hB1 : Below W1.heap.size W1 W1.drew := below_drew (Below.refl _ _)
  have HG := Lib.hid G
  have HHH := Lib.hid hh
  have HHF := Lib.hid hf
  clear T0 BX G hh hf
  go_cut [42] (fun v wx => v = .bool false ∧ Below W1.heap.size W1 wx)
  case first =>
    generalize h.isB o = bi at *
    generalize h.objM 1 = of at *
    generalize findN l x = on at *
    go_region_held3 (fun w' => w'.cell? ⟨w.heap.size, 1, none⟩ = some (.int .u32 (o : Nat)) ∧ w'.cell? ⟨w.heap.size, 6, none⟩ = some (.int .u32 (x : Nat)))
      (first | exact HINV.out _ (by assumption) | go_keep)
      (first
        | (go_at_call 83; refine (HIS.out _ (by assumption)).mono ?_; rintro e w' ⟨rfl, rfl⟩)
        | (go_at_call 80; refine (RIS.out _ (by assumption)).mono ?_; rintro e w' ⟨rfl, rfl⟩)
        | (go_at_call 85; refine (HFI.out _ (by assumption)).mono ?_; rintro e w' ⟨rfl, rfl⟩)
        | (go_at_call 86; refine (RFI.out _ (by assumption)).mono ?_; rintro e w' ⟨rfl, rfl⟩)
        | (go_at_call 87; refine (HFD.out _ (by assumption)).mono ?_; rintro e w2 ⟨rfl, hb2⟩; have hB2 := below_top (by assumption) hb2)
        | (go_at_call 88; refine (RFD.out _ (by assumption)).mono ?_; rintro e w3 ⟨rfl, hb3⟩; have hB3 := below_top (by assumption) hb3))
    all_goals go_wp2_with fail
    all_goals go_meet
    all_goals exact ⟨rfl, by assumption⟩
  case rest =>
    obtain ⟨rfl, hbc⟩ := hcut
    clear HIS HFI HFD RFI RFD HINV hB1
    have HRT := Lib.hid (fun w' (hb : Below W1.heap.size W1 w') => (HTA.out w' hb).live.root i)
    obtain ⟨c0, c1, c2, c3, c4, c5, c6, c7⟩ := HC.out _ hbc
    cases hi : h.isB o
    case false =>
      have HHD := Lib.hid (fun w' (hb : Below W1.heap.size W1 w') => show Calls Tryz.prog 67 #[.pointer (some ⟨g, 0, none⟩), .int .u32 (o : Nat)] w' (Told (.tuple #[.agg #[.int .i64 0, .int .i64 0, .int .i64 0, .int .u32 0, .int .u32 0], .int .i64 3]) w') from by
        have hF := (HTA.out w' hb).live.header o fo
        rw [show h.isE o = 3 by simp [HM.isE, hi], show h.hdO o = ⟨0, 0, 0, 0, 0⟩ by simp [HM.hdO, hi]] at hF
        exact hF)
      have HLN := Lib.hid (fun w' (hb : Below W1.heap.size W1 w') => show Calls Tryz.prog 89 #[.pointer (some ⟨g, 0, none⟩), .int .u32 (o : Nat)] w' (Told (.tuple #[.int .i64 0, .int .i64 3]) w') from by
        have hF := (HTA.out w' hb).live.length o fo
        rw [show h.isE o = 3 by simp [HM.isE, hi], show h.lenN o = 0 by simp [HM.lenN, hi]] at hF
        exact hF)
      have HNX := Lib.hid (fun w' (hb : Below W1.heap.size W1 w') => show Calls Tryz.prog 90 #[.pointer (some ⟨g, 0, none⟩), .int .u32 (o : Nat)] w' (Told (.tuple #[.int .u32 0, .int .i64 3]) w') from by
        have hF := (HTA.out w' hb).live.next o fo
        rw [show h.isE o = 3 by simp [HM.isE, hi], show h.nextN o = 0 by simp [HM.nextN, hi]] at hF
        exact hF)
      have HSH := Lib.hid (fun w' (hb : Below W1.heap.size W1 w') => show Calls Tryz.prog 27 #[.pointer (some ⟨g, 0, none⟩), .int .u32 (o : Nat)] w' (Told (.tuple #[.string ⟨#[]⟩, .int .i64 3]) w') from by
        have hF := (HTA.out w' hb).live.show o fo
        rw [show h.isE o = 3 by simp [HM.isE, hi], show h.showS o = [] by simp [HM.showS, hi]] at hF
        exact hF)
      rw [hi] at RIS
      clear hi
      go_wp2_with fail
      refine (HHD.out _ hbc).mono ?_
      rintro e w1 ⟨rfl, hb1⟩
      simp only []
      go_upto_region 4 with fail
      have hB1 := below_top hbc hb1
      have hB2 := hB1.alloc hB1.size (.cells #[.int .i64 0, .int .i64 0, .int .i64 0, .int .u32 0, .int .u32 0] 101)
      have BH := Blk.new w1 101 #[.int .i64 0, .int .i64 0, .int .i64 0, .int .u32 0, .int .u32 0]
      generalize w1.alloc (.cells #[.int .i64 0, .int .i64 0, .int .i64 0, .int .u32 0, .int .u32 0] 101) = W2 at *
      generalize w1.heap.size = gH at *
      clear c0 c1 c2 c3 c4 c5 c6 c7 hb1 hbc HHD hB1
      obtain ⟨-, c1, -, -, c4, -, -, -⟩ := HC.out _ hB2
      go_wp2_with fail
      refine (HLN.out _ hB2).mono ?_
      rintro e w3 ⟨rfl, hb3⟩
      have hB3 := below_top hB2 hb3
      have BH3 := BH.below hb3 BH.lt
      clear c1 c4 hb3 hB2 BH HLN
      obtain ⟨-, c1, -, -, c4, -, -, -⟩ := HC.out _ hB3
      go_wp2_with fail
      refine (HNX.out _ hB3).mono ?_
      rintro e w4 ⟨rfl, hb4⟩
      have hB4 := below_top hB3 hb4
      have BH4 := BH3.below hb4 BH3.lt
      clear c1 c4 hb4 hB3 BH3 HNX
      obtain ⟨-, c1, -, -, c4, -, -, -⟩ := HC.out _ hB4
      go_wp2_with fail
      refine (HSH.out _ hB4).mono ?_
      rintro e w5 ⟨rfl, hb5⟩
      have hB5 := below_top hB4 hb5
      have BH5 := BH4.below hb5 BH4.lt
      clear c1 c4 hb5 hB4 BH4 HSH
      obtain ⟨-, c1, -, -, c4, -, -, -⟩ := HC.out _ hB5
      obtain ⟨d0, d1, d2, d3, d4⟩ := BH5.cells5
      go_wp2_with fail
      refine (RIS.out _ hB5).mono ?_
      rintro e w6 ⟨rfl, rfl⟩
      have hs : ((#[] : Array UInt8).toList == (#[] : Array UInt8).toList) = true := rfl
      go_wp2_with fail
      refine (num_any 3 (by decide) _).mono ?_
      rintro e w7 ⟨rfl, rfl⟩
      go_wp2_with fail
      refine (num_any 3 (by decide) _).mono ?_
      rintro e w7 ⟨rfl, rfl⟩
      go_wp2_with fail
      refine (num_any 3 (by decide) _).mono ?_
      rintro e w7 ⟨rfl, rfl⟩
      go_wp2_with fail
      refine (num_any 3 (by decide) _).mono ?_
      rintro e w7 ⟨rfl, rfl⟩
      go_wp2_with fail
      go_ret
      exact ⟨_, _, rfl, HTA.out _ hB5, (Step2.of_below HB0).trans (Step2.of_below hB5)⟩
    case true =>
      have HHD := Lib.hid (fun w' (hb : Below W1.heap.size W1 w') => show Calls Tryz.prog 67 #[.pointer (some ⟨g, 0, none⟩), .int .u32 (o : Nat)] w' (Told (.tuple #[.agg #[.int .i64 (h.hd (o / 2)).size, .int .i64 (h.hd (o / 2)).fmt, .int .i64 (h.hd (o / 2)).spare, .int .u32 (h.hd (o / 2)).cls, .int .u32 (h.hd (o / 2)).ser], .int .i64 0]) w') from by
        have hF := (HTA.out w' hb).live.header o fo
        rw [show h.isE o = 0 by simp [HM.isE, hi], show h.hdO o = h.hd (o / 2) by simp [HM.hdO, hi]] at hF
        exact hF)
      have HLN := Lib.hid (fun w' (hb : Below W1.heap.size W1 w') => show Calls Tryz.prog 89 #[.pointer (some ⟨g, 0, none⟩), .int .u32 (o : Nat)] w' (Told (.tuple #[.int .i64 (h.hd (o / 2)).len, .int .i64 0]) w') from by
        have hF := (HTA.out w' hb).live.length o fo
        rw [show h.isE o = 0 by simp [HM.isE, hi], show h.lenN o = (h.hd (o / 2)).len by simp [HM.lenN, hi]] at hF
        exact hF)
      have HNX := Lib.hid (fun w' (hb : Below W1.heap.size W1 w') => show Calls Tryz.prog 90 #[.pointer (some ⟨g, 0, none⟩), .int .u32 (o : Nat)] w' (Told (.tuple #[.int .u32 (h.nextO o : Nat), .int .i64 0]) w') from by
        have hF := (HTA.out w' hb).live.next o fo
        rw [show h.isE o = 0 by simp [HM.isE, hi], show h.nextN o = h.nextO o by simp [HM.nextN, hi]] at hF
        exact hF)
      have HSH := Lib.hid (fun w' (hb : Below W1.heap.size W1 w') => show Calls Tryz.prog 27 #[.pointer (some ⟨g, 0, none⟩), .int .u32 (o : Nat)] w' (Told (.tuple #[.string ⟨(h.showT o).toArray⟩, .int .i64 0]) w') from by
        have hF := (HTA.out w' hb).live.show o fo
        rw [show h.isE o = 0 by simp [HM.isE, hi], show h.showS o = h.showT o by simp [HM.showS, hi]] at hF
        exact hF)
      have hd := HM.isB_hd HHH.out hi
      have RHD := Lib.hid (fun w' (hb : Below W1.heap.size W1 w') => rheader_any (HTA.out w' hb).doc HHF.out o fo hd)
      have RLN := Lib.hid (fun w' (hb : Below W1.heap.size W1 w') => rlen_any (HTA.out w' hb).doc HHF.out o fo hd)
      have RNX := Lib.hid (fun w' (hb : Below W1.heap.size W1 w') => rnext_any (HTA.out w' hb).doc HHF.out HHH.out o fo hi)
      have RSH := Lib.hid (fun w' (hb : Below W1.heap.size W1 w') => rshowH_any (HTA.out w' hb).doc HHF.out HHH.out (HTA.out w' hb).live.envw.pow o fo hi)
      rw [show (h.hd (o / 2)).val = .agg #[.int .i64 (h.hd (o / 2)).size, .int .i64 (h.hd (o / 2)).fmt, .int .i64 (h.hd (o / 2)).spare, .int .u32 (h.hd (o / 2)).cls, .int .u32 (h.hd (o / 2)).ser] from rfl] at RHD
      unfold ptr at RHD RLN RNX RSH
      unfold str at RSH
      generalize h.hd (o / 2) = X at *
      generalize h.nextO o = NX at *
      generalize h.showT o = SH at *
      clear hd
      rw [hi] at RIS
      clear hi
      go_wp2_with fail
      refine (HHD.out _ hbc).mono ?_
      rintro e w1 ⟨rfl, hb1⟩
      simp only []
      go_upto_region 4 with fail
      have hB1 := below_top hbc hb1
      have hB2 := hB1.alloc hB1.size (.cells #[.int .i64 X.size, .int .i64 X.fmt, .int .i64 X.spare, .int .u32 X.cls, .int .u32 X.ser] 101)
      have BH := Blk.new w1 101 #[.int .i64 X.size, .int .i64 X.fmt, .int .i64 X.spare, .int .u32 X.cls, .int .u32 X.ser]
      generalize w1.alloc (.cells #[.int .i64 X.size, .int .i64 X.fmt, .int .i64 X.spare, .int .u32 X.cls, .int .u32 X.ser] 101) = W2 at *
      generalize w1.heap.size = gH at *
      clear c0 c1 c2 c3 c4 c5 c6 c7 hb1 hbc HHD hB1
      obtain ⟨-, c1, -, -, c4, -, -, -⟩ := HC.out _ hB2
      go_wp2_with fail
      refine (HLN.out _ hB2).mono ?_
      rintro e w3 ⟨rfl, hb3⟩
      have hB3 := below_top hB2 hb3
      have BH3 := BH.below hb3 BH.lt
      clear c1 c4 hb3 hB2 BH HLN
      obtain ⟨-, c1, -, -, c4, -, -, -⟩ := HC.out _ hB3
      go_wp2_with fail
      refine (HNX.out _ hB3).mono ?_
      rintro e w4 ⟨rfl, hb4⟩
      have hB4 := below_top hB3 hb4
      have BH4 := BH3.below hb4 BH3.lt
      clear c1 c4 hb4 hB3 BH3 HNX
      obtain ⟨-, c1, -, -, c4, -, -, -⟩ := HC.out _ hB4
      go_wp2_with fail
      refine (HSH.out _ hB4).mono ?_
      rintro e w5 ⟨rfl, hb5⟩
      have hB5 := below_top hB4 hb5
      have BH5 := BH4.below hb5 BH4.lt
      clear c1 c4 hb5 hB4 BH4 HSH
      obtain ⟨-, c1, -, -, c4, -, -, -⟩ := HC.out _ hB5
      obtain ⟨d0, d1, d2, d3, d4⟩ := BH5.cells5
      go_wp2_with fail
      refine (RIS.out _ hB5).mono ?_
      rintro e w6 ⟨rfl, rfl⟩
      have HRH := Lib.hid (fun w' (hb : Below w5.heap.size w5 w') => RHD.out w' (below_top hB5 hb))
      have HRL := Lib.hid (fun w' (hb : Below w5.heap.size w5 w') => RLN.out w' (below_top hB5 hb))
      have HRN := Lib.hid (fun w' (hb : Below w5.heap.size w5 w') => RNX.out w' (below_top hB5 hb))
      have HRS := Lib.hid (fun w' (hb : Below w5.heap.size w5 w') => RSH.out w' (below_top hB5 hb))
      have HBX5 := HBOX.out _ hB5
      have HINV := Lib.hid (fun w' (hb : Below w5.heap.size w5 w') => show w'.cell? ⟨w.heap.size, 1, none⟩ = some (.int .u32 (o : Nat)) ∧ w'.cell? ⟨gH, 0, none⟩ = some (.int .i64 X.size) ∧ w'.cell? ⟨gH, 1, none⟩ = some (.int .i64 X.fmt) ∧ w'.cell? ⟨gH, 2, none⟩ = some (.int .i64 X.spare) ∧ w'.cell? ⟨gH, 3, none⟩ = some (.int .u32 X.cls) ∧ w'.cell? ⟨gH, 4, none⟩ = some (.int .u32 X.ser) from
        ⟨(HBX5.below hb HBX5.lt).cell 1, (BH5.below hb BH5.lt).cells5⟩)
      have HB5 := Lib.hid hB5
      have hB6 : Below w5.heap.size w5 w5.drew := below_drew (Below.refl _ _)
      clear RHD RLN RNX RSH HBX5 BH5 c1 c4 d0 d1 d2 d3 d4 hB5 RIS
      go_upto_region 9 with fail
      go_cut [160] (fun v wx => v = .bool false ∧ Below w5.heap.size w5 wx)
      case first =>
        go_region_held3 (fun w' => w'.cell? ⟨w.heap.size, 1, none⟩ = some (.int .u32 (o : Nat)) ∧ w'.cell? ⟨gH, 0, none⟩ = some (.int .i64 X.size) ∧ w'.cell? ⟨gH, 1, none⟩ = some (.int .i64 X.fmt) ∧ w'.cell? ⟨gH, 2, none⟩ = some (.int .i64 X.spare) ∧ w'.cell? ⟨gH, 3, none⟩ = some (.int .u32 X.cls) ∧ w'.cell? ⟨gH, 4, none⟩ = some (.int .u32 X.ser))
          (first | exact HINV.out _ (by assumption) | go_keep)
          (first
            | (go_at_call 20; refine (num_any 0 (by decide) _).mono ?_; rintro e w7 ⟨rfl, rfl⟩)
            | (go_at_call 81; refine (HRH.out _ (by assumption)).mono ?_; rintro e w2 ⟨rfl, hb2⟩; have hB2 := below_top (by assumption) hb2)
            | (go_at_call 82; refine (HRL.out _ (by assumption)).mono ?_; rintro e w3 ⟨rfl, hb3⟩; have hB3 := below_top (by assumption) hb3)
            | (go_at_call 91; refine (HRN.out _ (by assumption)).mono ?_; rintro e w4 ⟨rfl, hb4⟩; have hB4 := below_top (by assumption) hb4)
            | (go_at_call 92; refine (HRS.out _ (by assumption)).mono ?_; rintro e w8 ⟨rfl, hb8⟩; have hB8 := below_top (by assumption) hb8))
        all_goals go_wp2_with fail
        all_goals go_meet
        all_goals exact ⟨rfl, by assumption⟩
      case rest =>
        obtain ⟨rfl, hbd⟩ := hcut
        have hB9 := below_top HB5.out hbd
        clear HRH HRL HRN HRS HINV hB6 hbd
        obtain ⟨-, -, -, -, c4, -, -, -⟩ := HC.out _ hB9
        have HT9 := HTA.out _ hB9
        have r2 := HT9.doc.c2
        have hrl := HHF.out.roots
        have HFIN := Lib.hid (show ∀ wz, Below wc.heap.size wc wz → Done2 W p g q q.g h h (.bool true) w (.returned (.bool true)) wz from fun wz hb => ⟨_, _, rfl, HT9.after hb, ((Step2.of_below HB0).trans (Step2.of_below hB9)).trans (Step2.of_below hb)⟩)
        by_cases hneg : i < 0
        · have HR0 := Lib.hid (show h.rootN i = 0 ∧ rootE i = 1 by simp [HM.rootN, rootE, rootOk]; omega)
          rw [HR0.out.1, HR0.out.2] at HRT
          clear HT9 r2
          go_wp2_with fail
          refine (HRT.out _ hB9).mono ?_
          rintro e w2 ⟨rfl, rfl⟩
          go_wp2_with fail
          refine (num_any 1 (by decide) _).mono ?_
          rintro e w2 ⟨rfl, rfl⟩
          go_wp2_with fail
          go_ret
          exact HFIN.out _ (Below.refl _ _)
        by_cases hbig : 64 ≤ i
        · have HR0 := Lib.hid (show h.rootN i = 0 ∧ rootE i = 1 by simp [HM.rootN, rootE, rootOk]; omega)
          rw [HR0.out.1, HR0.out.2] at HRT
          clear HT9 r2
          go_wp2_with fail
          refine (HRT.out _ hB9).mono ?_
          rintro e w2 ⟨rfl, rfl⟩
          go_wp2_with fail
          refine (num_any 1 (by decide) _).mono ?_
          rintro e w2 ⟨rfl, rfl⟩
          go_wp2_with fail
          go_ret
          exact HFIN.out _ (Below.refl _ _)
        · obtain ⟨j, rfl⟩ := Int.eq_ofNat_of_zero_le (show 0 ≤ i by omega)
          have hj : j < 64 := by omega
          have HR0 := Lib.hid (show h.rootN (j : Int) = h.roots.getD j 0 ∧ rootE (j : Int) = 0 by
            have : rootOk (j : Int) = true := by simp [rootOk]; omega
            simp [HM.rootN, rootE, this])
          rw [HR0.out.1, HR0.out.2] at HRT
          have rj := HT9.doc.root (i := j) (by rw [hrl]; exact hj)
          rw [hrl] at r2
          clear HT9 hneg hbig
          have hji : (j : Int) < 64 := by omega
          generalize h.roots.getD j 0 = y at *
          go_wp2_with fail
          refine (HRT.out _ hB9).mono ?_
          rintro e w2 ⟨rfl, rfl⟩
          simp only []
          go_upto_region 14 with fail
          have HNU := Lib.hid (fun n => (num_any 0 (by decide) (wc.drewN n)).mono fun e w' ⟨h1, h2⟩ => show e = Ending.returned (.int .i64 ((0 : Nat) : Int)) ∧ w' = wc.drewN n from ⟨h1, h2.symm⟩)
          go_quiet ((go_at_call 20; exact Calls.quiet_of_same (HNU.out _)))
          all_goals go_wp2_with fail
          all_goals go_ret
          all_goals exact HFIN.out _ (below_drewN (Below.refl _ _) _)
end
end Go.Proofs.YtkpjkbkglnabiaaGreatDoor
