import Derived.Test.YtlkahgagmfhdaaaGreatDoorJCloneH
import Derived.Test.YtlkahgagmfhdaaaGreatDoorJIParse
import Derived.Test.YtlkahgagmfhdaaaGreatDoorJKCol
import Derived.Test.YtlkahgagmfhdaaaGreatDoorJKRCol
import Derived.Test.YtlkahgagmfhdaaaGreatDoorJSameL
import Derived.IntWalk
set_option linter.unusedVariables false
set_option linter.unusedSimpArgs false
namespace Go.Proofs.YtlkahgagmfhdaaaGreatDoor
section
open Go.RowKit
attribute [local go_sem] Oper.semAt_some
theorem fldCol1 : ∀ (a b c d e : Value) (w : World), (Instr.field 62 (.agg #[a, b, c, d, e]) 1).run Tryz.prog w = .ok b w := fun a b c d e w => by kernel_rfl
theorem isame_ownS {w w' : World} {n n' c c' : Nat} {A A' : Option Addr} {bs : List Nat} (hb : Below w.heap.size w w') (hr : Reads w w.heap.size 1 A n (u8c bs)) (hr' : Reads w' w'.heap.size 1 A' n' (u8c bs)) (hn : n ≤ 9223372036854775807) (hn' : n' ≤ 9223372036854775807) :
 Calls Tryz.prog 19 #[.slice A n c, .slice A' n' c'] w' (Told (.bool true) w') := by
 have h := isame_any A A' n n' c c' bs bs w' hn hn' ((hr.below hb).more hb.size) hr'
 rw [sameL_self] at h
 exact h
set_option maxRecDepth 100000 in
set_option maxHeartbeats 8000000 in
theorem shrink_any {W w : World} {p : HP} {g : Nat} {h : HM} {l : List Ob} (L : Live W w p g h) (G : h.Good l) : Calls Tryz.prog 44 #[.pointer (some ⟨g, 0, none⟩)] w (SavedP ((colH h l).newI (colL h l)) w) := by
 have hcl := Clone_any L.at_ L.fit
 unfold ptr at hcl
 rw [L.hg] at hcl
 have HCL := Lib.hid hcl
 have HSZ := Lib.hid L.size
 have HEV := Lib.hid L.envw
 have HG := Lib.hid G
 have h0 : ((h.size : Int) == 0) = false := by have := L.fit.lo; simp; omega
 clear L G hcl
 go_enter Tryz.func44, Tryz.ntmps44
 go_wp2_with fail
 refine HSZ.out.mono ?_
 rintro e w1 ⟨rfl, rfl⟩
 go_wp2_with fail
 refine HCL.out.mono ?_
 rintro e w2 ⟨q, he, H2, hn, hb⟩
 replace he : e = .returned (.pointer (some ⟨q.g, 0, none⟩)) := he
 subst he
 have L2 : Live w w2 q q.g h := ⟨H2, rfl, ⟨_, HG.out⟩, HEV.out, hn, hb⟩
 have HCO := Lib.hid (L2.collect HG.out)
 obtain ⟨x0, x1, x2, x3, x4, hcv⟩ := colV_ints h l
 rw [hcv] at HCO
 clear H2 hn hb L2 hcv HCL
 go_wp2_with fail
 refine HCO.out.mono ?_
 rintro e w3 ⟨q3, rfl, L3, -⟩
 have hsv := isave_any L3.at_ (col_good HG.out) L3.envw.spares
 unfold ptr at hsv
 rw [L3.hg] at hsv
 have HSV := Lib.hid hsv
 have HB3 := Lib.hid L3.below
 clear L3 hsv HCO
 go_wp2_with fail
 refine HSV.out.mono ?_
 rintro e w4 ⟨v, rfl, ho, hb4⟩
 have HF := Lib.hid (show SavedP ((colH h l).newI (colL h l)) w (.returned (.tuple #[v, .int .i64 0])) w4 from ⟨v, rfl, own_base ho HB3.out.size, below_top HB3.out hb4⟩)
 clear ho hb4
 go_wp2_with fail
 go_ret2
 exact HF.out
set_option maxRecDepth 100000 in
set_option maxHeartbeats 8000000 in
theorem imageShrinks_any (W : World) (E : Env W) (k : Cs) (hk : k.At W W.heap.size) : Calls Tryz.prog 8 #[k.agg] W (Told (.bool true) W) := by
 have hb0 := (Below.refl W.heap.size W).alloc (Nat.le_refl _) (.cells #[.int .i64 k.size, .slice k.A k.n k.c, .slice k.A' k.n' k.c', .int .u32 (k.last : Nat)] 103)
 have BX := Lib.hid (Blk.new W 103 #[.int .i64 k.size, .slice k.A k.n k.c, .slice k.A' k.n' k.c', .int .u32 (k.last : Nat)])
 have HB0 := Lib.hid hb0
 have HBW := Lib.hid hb0
 have HE0 := Lib.hid (E.below hb0)
 have HAW := Lib.hid (fun (w : World) (E : Env w) => iawake_any w E)
 have HBU := Lib.hid (iboth_any _ (E.below hb0) k (hk.below hb0))
 have HNU := Lib.hid (fun w => inum_any 0 (by decide) w)
 clear hb0 E hk
 unfold Cs.agg at HBU ⊢
 go_enter Tryz.func8, Tryz.ntmps8
 obtain ⟨x0, x1, x2, x3⟩ := cells4I BX.out
 go_wp2_with fail
 clear x0 x1 x2 x3
 generalize W.alloc (.cells #[.int .i64 k.size, .slice k.A k.n k.c, .slice k.A' k.n' k.c', .int .u32 (k.last : Nat)] 103) = W1 at *
 refine HBU.out.mono ?_
 rintro e w1 ⟨hb1, ⟨hno, rfl⟩ | ⟨hok, p, q, l, rfl, L1, G1, R1⟩⟩
 ·have HA := Lib.hid (HAW.out _ (HE0.out.below hb1))
  have HB1 := Lib.hid (HB0.out.trans (hb1.mono HB0.out.size))
  clear hb1 HBU hno
  go_wp2_with fail
  refine HA.out.mono ?_
  rintro e w2 ⟨rfl, hb2⟩
  have HB2 := Lib.hid (below_top HB1.out hb2)
  clear hb2
  go_wp2_with fail
  go_ret
  exact ⟨rfl, HB2.out⟩
 ·have HB1 := Lib.hid (HB0.out.trans (hb1.mono HB0.out.size))
  have HA := Lib.hid (HAW.out _ (HE0.out.below hb1))
  have BX1 := Lib.hid (BX.out.below hb1 BX.out.lt)
  have HL1 := Lib.hid L1
  have HR1 := Lib.hid R1
  have HG := Lib.hid G1
  have HG' := Lib.hid (col_good G1)
  have HLN := Lib.hid (newI_len (col_good G1))
  have HK := Lib.hid hok
  clear hb1 HBU hok L1 G1 R1 HB0 BX
  unfold ptr
  go_wp2_with fail
  refine HA.out.mono ?_
  rintro e w2 ⟨rfl, hb2⟩
  have HL2 := Lib.hid (HL1.out.after hb2)
  have HR2 := Lib.hid (HR1.out.below hb2)
  have HB2 := Lib.hid (below_top HB1.out hb2)
  have BX2 := Lib.hid (BX1.out.below hb2 BX1.out.lt)
  have HSV := Lib.hid (shrink_any (HL1.out.after hb2) HG.out)
  clear hb2 HA HL1 HB1 BX1 HAW HR1
  go_wp2_with fail
  refine HSV.out.mono ?_
  rintro e w3 ⟨v3, rfl, hown3, hb3⟩
  have HO3 := Lib.hid (show w3.ownsRow w2.heap.size 5 1 v3 _ _ from hown3)
  obtain ⟨A3, c3, rfl, hr3, hc3, ha3⟩ := own_sliceA hown3
  have HR3 := Lib.hid hr3
  have HL3 := Lib.hid (HL2.out.after hb3)
  have HQ3 := Lib.hid (HR2.out.below hb3)
  have HP3 := Lib.hid (show ∀ j, p.has j → j < w2.heap.size from fun j hj => HL2.out.at_.lt hj)
  have HB3 := Lib.hid (below_top HB2.out hb3)
  have BX3 := Lib.hid (BX2.out.below hb3 BX2.out.lt)
  have HLK := Lib.hid (like_any (HL2.out.after hb3) (HR2.out.below hb3))
  have HC3 := Lib.hid (And.intro hc3 ha3)
  clear hown3 hr3 hb3 HSV HL2 HB2 BX2 hc3 ha3 HR2
  go_wp2_with fail
  refine (HNU.out _).mono ?_
  rintro e w7 ⟨rfl, rfl⟩
  go_wp2_with fail
  refine HLK.out.mono ?_
  rintro e w4 ⟨rfl, hb4⟩
  have HL4 := Lib.hid (HL3.out.after hb4)
  have HB4 := Lib.hid (below_top HB3.out hb4)
  have BX4 := Lib.hid (BX3.out.below hb4 BX3.out.lt)
  have HO4 := Lib.hid (own_below HO3.out hb4)
  have HLD := Lib.hid (iload_back (c := c3) (HL3.out.after hb4).envw HG'.out (take_new HG'.out) rfl rfl rfl rfl k.size HK.out.1 HK.out.2.1 HG'.out.fit.room ((HR3.out.below hb4).more hb4.size) HC3.out.2 HC3.out.1 (by have := HLN.out; omega) (newI_byte HG'.out))
  have x0 := BX4.out.cell 0
  clear hb4 HLK HL3 HB3 BX3 HQ3 HO3 HR3
  go_wp2_with fail
  refine HLD.out.mono ?_
  rintro e w5 ⟨p5, rfl, L5⟩
  have hb5 := L5.below
  have HX5 := Lib.hid (show Live w4 w5 p5 p5.g (colH k.h l) from L5)
  have HL5 := Lib.hid (HL4.out.after hb5)
  have HX5' := Lib.hid (show Live W1 w5 p5 p5.g (colH k.h l) from L5.rebase HL4.out.below HL4.out.env)
  have HPN := Lib.hid (show ∀ j, p.has j → W1.heap.size ≤ j from fun j hj => HL4.out.new j hj)
  have HO5 := Lib.hid (own_below HO4.out hb5)
  have HCO := Lib.hid ((HL4.out.after hb5).collect HG.out)
  have HN5 := Lib.hid (show ∀ j, p5.has j → w4.heap.size ≤ j from fun j hj => L5.new j hj)
  have HP5 := Lib.hid (show ∀ j, p.has j → j < w4.heap.size from fun j hj => HL4.out.at_.lt hj)
  obtain ⟨y0, y1, y2, y3, y4, hcv⟩ := colV_ints k.h l
  rw [hcv] at HCO
  clear x0 L5 hb5 HLD HL4 BX4 HO4 hcv
  unfold ptr
  go_wp2_with fail
  refine HCO.out.mono ?_
  rintro e w6 ⟨p6, rfl, L6, s6⟩
  have HL6 := Lib.hid L6
  have HO6 := Lib.hid (own_keep HO5.out (fun j hj => s6.block j (HO5.out.lt j hj).2 (fun hh => by have h1 := (HO5.out.lt j hj).1; have h2 := HP3.out j hh; omega)))
  have HX6 := Lib.hid (HX5'.out.beside s6 (fun j hj hh => by have h1 := HN5.out j hj; have h2 := HP5.out j hh; omega) HPN.out)
  have hsv := isave_any L6.at_ HG'.out L6.envw.spares
  unfold ptr at hsv
  rw [L6.hg] at hsv
  have HSV6 := Lib.hid hsv
  clear L6 s6 HCO hsv HO5 HX5 HX5' HL5
  go_wp2_with fail
  refine HSV6.out.mono ?_
  rintro e w7 ⟨v7, rfl, hown7, hb7⟩
  obtain ⟨A7, c7, rfl, hr7, -, -⟩ := own_sliceA hown7
  obtain ⟨A6, c6, hv6, hr6, -, -⟩ := own_sliceA HO6.out
  injection hv6 with e1 e2 e3
  subst e1 e3
  have HSM := Lib.hid (isame_ownS (c := c3) (c' := c7) hb7 hr6 hr7 (by have := HLN.out; omega) (by have := HLN.out; omega))
  have HL7 := Lib.hid (HL6.out.after hb7)
  have HX7 := Lib.hid (HX6.out.after hb7)
  clear hown7 hr7 hr6 hb7 HSV6 HL6 HX6 HO6
  go_wp2_with fail
  refine (HNU.out _).mono ?_
  rintro e w8 ⟨rfl, rfl⟩
  go_wp2_with fail
  refine (HNU.out _).mono ?_
  rintro e w8 ⟨rfl, rfl⟩
  go_wp2_with fail
  refine HSM.out.mono ?_
  rintro e w8 ⟨rfl, hb8⟩
  have hsm := (HL7.out.after hb8).same (HX7.out.after hb8)
  rw [sameH_self] at hsm
  have HSH := Lib.hid hsm
  have HX8 := Lib.hid (HX7.out.after hb8)
  clear hsm hb8 HSM HL7 HX7
  go_wp2_with fail
  refine HSH.out.mono ?_
  rintro e w9 ⟨rfl, hb9⟩
  have hco := (HX8.out.after hb9).collect HG'.out
  rw [colV_again HG.out] at hco
  have HCX := Lib.hid hco
  clear hco hb9 HSH HX8
  go_wp2_with fail
  refine HCX.out.mono ?_
  rintro e w10 ⟨p10, rfl, L10, -⟩
  have HBF := Lib.hid (HBW.out.trans (L10.below.mono HBW.out.size))
  clear L10
  have hfl := fldCol1
  go_wp2_with fail
  go_ret
  exact ⟨rfl, HBF.out⟩
end
end Go.Proofs.YtlkahgagmfhdaaaGreatDoor
