import Derived.Test.YtlkahgagmfhdaaaGreatDoorJCloneH
import Derived.Test.YtlkahgagmfhdaaaGreatDoorJIParse
import Derived.Test.YtlkahgagmfhdaaaGreatDoorJKCol
import Derived.Test.YtlkahgagmfhdaaaGreatDoorJKRCol
import Derived.Test.YtlkahgagmfhdaaaGreatDoorJLive
import Derived.Test.YtlkahgagmfhdaaaGreatDoorJNo
import Derived.Test.YtlkahgagmfhdaaaGreatDoorJIObj
import Derived.IntWalk
import Derived.Deep.AppendLies
set_option linter.unusedVariables false
set_option linter.unusedSimpArgs false
set_option linter.unusedSectionVars false
namespace Go.Proofs.YtlkahgagmfhdaaaGreatDoor
section
open Go.RowKit
attribute [local go_sem] Oper.semAt_some
theorem isame_ownS {w w' : World} {n n' c c' : Nat} {A A' : Option Addr} {bs : List Nat} (hb : Below w.heap.size w w') (hr : Reads w w.heap.size 1 A n (u8c bs)) (hr' : Reads w' w'.heap.size 1 A' n' (u8c bs)) (hn : n ≤ 9223372036854775807) (hn' : n' ≤ 9223372036854775807) :
 Calls Tryz.prog 19 #[.slice A n c, .slice A' n' c'] w' (Told (.bool true) w') := by
 have h := isame_any A A' n n' c c' bs bs w' hn hn' ((hr.below hb).more hb.size) hr'
 rw [sameL_self] at h
 exact h
end
section
open Go.RowKit
attribute [local go_sem] Oper.semAt_some
theorem isave_no {w : World} {v : Value} (N : NoHp w v) : Calls Tryz.prog 45 #[v] w (Said (.tuple #[.slice none 0 0, .int .i64 145]) w) := by
 have HSZ := Lib.hid (size_no N); clear N
 go_enter Tryz.func45, Tryz.ntmps45
 go_wp2_with fail
 refine HSZ.out.mono ?_
 rintro e w' ⟨rfl, rfl⟩
 go_wp2_with fail
 go_ret2
 exact ⟨rfl, rfl⟩
theorem isaveOld_no {w : World} {v : Value} (N : NoHp w v) : Calls Tryz.prog 47 #[v] w (Said (.tuple #[.slice none 0 0, .int .i64 145]) w) := by
 have HSZ := Lib.hid (size_no N); clear N
 go_enter Tryz.func47, Tryz.ntmps47
 go_wp2_with fail
 refine HSZ.out.mono ?_
 rintro e w' ⟨rfl, rfl⟩
 go_wp2_with fail
 go_ret2
 exact ⟨rfl, rfl⟩
theorem shrink_no {w : World} {v : Value} (N : NoHp w v) : Calls Tryz.prog 44 #[v] w (Said (.tuple #[.slice none 0 0, .int .i64 145]) w) := by
 have HSZ := Lib.hid (size_no N); clear N
 go_enter Tryz.func44, Tryz.ntmps44
 go_wp2_with fail
 refine HSZ.out.mono ?_
 rintro e w' ⟨rfl, rfl⟩
 go_wp2_with fail
 go_ret2
 exact ⟨rfl, rfl⟩
structure OffR (N b : Nat) (w w' : World) : Prop where
 os : w'.os = w.os
 tape : w'.tape = w.tape
 output : w'.output = w.output
 size : w.heap.size ≤ w'.heap.size
 block : ∀ j, j < N → j ≠ b → w'.heap[j]? = w.heap[j]?
section
variable {W w w' w'' : World} {N b : Nat}
theorem OffR.refl : OffR N b w w := ⟨rfl, rfl, rfl, Nat.le_refl _, fun _ _ _ => rfl⟩
theorem OffR.grown (H : OffR N b w w') (hN : N ≤ w.heap.size) {row : Option Nat} (hg : w'.grownBy w'' row) (hr : ∀ q, row = some q → q = b ∨ N ≤ q) : OffR N b w w'' :=
 ⟨hg.os.trans H.os, hg.tape.trans H.tape, hg.output.trans H.output, Nat.le_trans H.size hg.size, fun j hj hb => (hg.block j (Nat.lt_of_lt_of_le hj (Nat.le_trans hN H.size)) (fun e => by have := hr j e.symm; omega)).trans (H.block j hj hb)⟩
theorem OffR.below (H : OffR N b w w') (hN : N ≤ w.heap.size) (hb : Below w'.heap.size w' w'') : OffR N b w w'' :=
 ⟨hb.os.trans H.os, hb.tape.trans H.tape, hb.output.trans H.output, Nat.le_trans H.size hb.size, fun j hj hne => (hb.block j (Nat.lt_of_lt_of_le hj (Nat.le_trans hN H.size))).trans (H.block j hj hne)⟩
theorem OffR.low (H : OffR N b w w') (hb : Below W.heap.size W w) (h1 : W.heap.size ≤ b) (h2 : W.heap.size ≤ N) : Below W.heap.size W w' :=
 ⟨H.os.trans hb.os, H.tape.trans hb.tape, H.output.trans hb.output, Nat.le_trans hb.size H.size, fun j hj => (H.block j (by omega) (by omega)).trans (hb.block j hj)⟩
theorem Live.off {p : HP} {g : Nat} {h : HM} (L : Live W w p g h) (H : OffR N b w w') (h1 : W.heap.size ≤ b) (h2 : ∀ j, p.has j → j < N ∧ j ≠ b) (h3 : W.heap.size ≤ N) : Live W w' p g h :=
 ⟨L.at_.same (fun j hj => H.block j (h2 j hj).1 (h2 j hj).2), L.hg, L.good, L.env, L.new, H.low L.below h1 h3⟩
end
end
section
open Go.RowKit
attribute [local go_sem] Oper.semAt_some
theorem freads_one (w : World) (a : Value) (t : TypeId) : Reads (w.alloc (.cells #[a] t)) (w.heap.size + 1) 1 (some ⟨w.heap.size, 0, none⟩) 1 [a] := by
 refine ⟨rfl, fun _ => ⟨_, rfl, by simp, fun j v hv => ?_⟩⟩
 rw [WideShapes.add_plain, Nat.zero_add]
 refine ((Blk.new w t #[a]).cell j).trans ?_
 rw [← hv]
 simp
theorem newI_pos (h : HM) (l : List Ob) : 0 < (h.newI l).length := by
 unfold HM.newI
 rw [List.length_append]
 simp
 omega
set_option maxRecDepth 100000 in
set_option maxHeartbeats 16000000 in
theorem imageFresh_any (W : World) (E : Env W) (k : Cs) (hk : k.At W W.heap.size) : Calls Tryz.prog 9 #[k.agg] W (Told (.bool true) W) := by
 have HAW := Lib.hid (fun (w : World) (E : Env w) => iawake_any w E)
 have HNU := Lib.hid (fun w => inum_any 0 (by decide) w)
 have HN5 := Lib.hid (fun w => inum_any 145 (by decide) w)
 have hs1 : (W.alloc (.cells #[.int .i64 k.size, .slice k.A k.n k.c, .slice k.A' k.n' k.c', .int .u32 (k.last : Nat)] 103)).heap.size = W.heap.size + 1 := World.size_alloc _ _
 have hb1 := (((Below.refl W.heap.size W).alloc (Nat.le_refl _) (.cells #[.int .i64 k.size, .slice k.A k.n k.c, .slice k.A' k.n' k.c', .int .u32 (k.last : Nat)] 103)).alloc (by rw [hs1]; omega) (.cells #[.slice none 0 0, .slice none 0 0, .slice none 0 0, .int .i64 0, .int .u32 0] 110)).alloc (by rw [World.size_alloc, hs1]; omega) (.cells #[.pointer none, .pointer (some ⟨W.heap.size + 1, 0, none⟩)] 23)
 have BS0 := ((Blk.new W 103 #[.int .i64 k.size, .slice k.A k.n k.c, .slice k.A' k.n' k.c', .int .u32 (k.last : Nat)]).alloc (.cells #[.slice none 0 0, .slice none 0 0, .slice none 0 0, .int .i64 0, .int .u32 0] 110)).alloc (.cells #[.pointer none, .pointer (some ⟨W.heap.size + 1, 0, none⟩)] 23)
 have BZ0 := (Blk.new (W.alloc (.cells #[.int .i64 k.size, .slice k.A k.n k.c, .slice k.A' k.n' k.c', .int .u32 (k.last : Nat)] 103)) 110 #[.slice none 0 0, .slice none 0 0, .slice none 0 0, .int .i64 0, .int .u32 0]).alloc (.cells #[.pointer none, .pointer (some ⟨W.heap.size + 1, 0, none⟩)] 23)
 have BP0 := Blk.new ((W.alloc (.cells #[.int .i64 k.size, .slice k.A k.n k.c, .slice k.A' k.n' k.c', .int .u32 (k.last : Nat)] 103)).alloc (.cells #[.slice none 0 0, .slice none 0 0, .slice none 0 0, .int .i64 0, .int .u32 0] 110)) 23 #[.pointer none, .pointer (some ⟨W.heap.size + 1, 0, none⟩)]
 simp only [World.size_alloc] at BZ0 BP0
 have HB1 := Lib.hid hb1
 have BS := Lib.hid BS0
 have HZ3 := Lib.hid (BZ0.cell 3)
 have HP0 := Lib.hid (BP0.cell 0)
 have HP1 := Lib.hid (BP0.cell 1)
 have HE := Lib.hid E
 have HK := Lib.hid hk
 clear E hk hs1 hb1 BS0 BZ0 BP0
 unfold Cs.agg
 go_enter Tryz.func9, Tryz.ntmps9
 go_wp2_with fail
 generalize hw1 : ((W.alloc (.cells #[.int .i64 k.size, .slice k.A k.n k.c, .slice k.A' k.n' k.c', .int .u32 (k.last : Nat)] 103)).alloc (.cells #[.slice none 0 0, .slice none 0 0, .slice none 0 0, .int .i64 0, .int .u32 0] 110)).alloc (.cells #[.pointer none, .pointer (some ⟨W.heap.size + 1, 0, none⟩)] 23) = w1 at *
 clear hw1
 generalize hG : W.heap.size + 1 + 1 = G at *
 clear hG
 go_loopw [5] (fun iv wr => ∃ m : Nat, m ≤ 2 ∧ iv = .int .i64 (m : Int) ∧ Hid (Below w1.heap.size w1 wr)) (fun iv _ => 2 - (intOf iv).toNat)
 case atStart => exact ⟨0, by omega, rfl, Lib.hid (Below.refl _ _)⟩
 case round =>
  obtain ⟨m, hm, rfl, HBr⟩ := hrel
  by_cases hlt : m < 2
  ·have hA : ∃ A, wr.cell? ⟨G, m, none⟩ = some (.pointer A) ∧ NoHp wr (.pointer A) := by
    have h0 := (HBr.out.cell (World.block_lt_of_cell? _ _ HP0.out)).trans HP0.out
    have h1 := (HBr.out.cell (World.block_lt_of_cell? _ _ HP1.out)).trans HP1.out
    have h2 := (HBr.out.cell (World.block_lt_of_cell? _ _ HZ3.out)).trans HZ3.out
    match m, hlt with
    | 0, _ => exact ⟨none, h0, .inl rfl⟩
    | 1, _ => exact ⟨_, h1, .inr ⟨_, rfl, h2⟩⟩
   obtain ⟨A, hc, hn⟩ := hA
   have HNT := Lib.hid hn
   have hlt2 : (m : Int) < 2 := by omega
   clear hn HP0 HP1 HZ3
   go_wp2_with fail
   refine (isave_no HNT.out).mono ?_
   rintro e w2 ⟨rfl, rfl⟩
   go_wp2_with fail
   refine (isaveOld_no HNT.out).mono ?_
   rintro e w2 ⟨rfl, rfl⟩
   go_wp2_with fail
   refine (shrink_no HNT.out).mono ?_
   rintro e w2 ⟨rfl, rfl⟩
   go_wp2_with fail
   refine (HN5.out _).mono ?_
   rintro e w2 ⟨rfl, rfl⟩
   go_wp2_with fail
   refine (HN5.out _).mono ?_
   rintro e w2 ⟨rfl, rfl⟩
   go_wp2_with fail
   refine (HN5.out _).mono ?_
   rintro e w2 ⟨rfl, rfl⟩
   go_wp2_with fail
   go_roundw
   case rel => exact ⟨m + 1, by omega, by go_num, HBr⟩
   case measure => simp [intOf]; omega
  ·obtain rfl : m = 2 := by omega
   have HBW := Lib.hid (HB1.out.trans (HBr.out.mono HB1.out.size))
   have HBU := Lib.hid (iboth_any _ (HE.out.below HBW.out) k (HK.out.below HBW.out))
   have BSr := Lib.hid (BS.out.below HBr.out BS.out.lt)
   have HEr := Lib.hid (HE.out.below HBW.out)
   obtain ⟨x0, x1, x2, x3⟩ := cells4I BSr.out
   unfold Cs.agg at HBU
   clear HP0 HP1 HZ3 HBr HB1
   go_wp2_with fail
   clear x0 x1 x2 x3
   refine HBU.out.mono ?_
   rintro e w2 ⟨hb2, ⟨hno, rfl⟩ | ⟨hok, p, q, l, rfl, L2, G2, R2⟩⟩
   ·have HA := Lib.hid (HAW.out _ (HEr.out.below hb2))
    have HB2 := Lib.hid (below_top HBW.out hb2)
    clear hb2 HBU hno
    go_wp2_with fail
    refine HA.out.mono ?_
    rintro e w3 ⟨rfl, hb3⟩
    have HB3 := Lib.hid (below_top HB2.out hb3)
    clear hb3
    go_wp2_with fail
    go_ret
    exact ⟨rfl, HB3.out⟩
   ·have HA := Lib.hid (HAW.out _ (HEr.out.below hb2))
    have HL2 := Lib.hid L2
    have HR2 := Lib.hid R2
    have HG := Lib.hid G2
    have HKO := Lib.hid hok
    have HLN := Lib.hid (newI_len G2)
    have HLP := Lib.hid (newI_pos k.h l)
    have BS2 := Lib.hid (BSr.out.below hb2 BSr.out.lt)
    clear hb2 HBU hok L2 G2 R2 BSr HEr
    unfold ptr
    go_wp2_with fail
    refine HA.out.mono ?_
    rintro e w3 ⟨rfl, hb3⟩
    have HL3 := Lib.hid (HL2.out.after hb3)
    have HR3 := Lib.hid (HR2.out.below hb3)
    have BS3 := Lib.hid (BS2.out.below hb3 BS2.out.lt)
    have hsv := isave_any (HL2.out.after hb3).at_ HG.out (HL2.out.after hb3).envw.spares
    unfold ptr at hsv
    have HSV := Lib.hid hsv
    clear hb3 HA HL2 HR2 BS2 HAW hsv
    go_wp2_with fail
    refine HSV.out.mono ?_
    rintro e w4 ⟨v4, rfl, hown4, hb4⟩
    obtain ⟨A4, c4, rfl, hr4, hc4, ha4⟩ := own_sliceA hown4
    obtain ⟨X, c4', hv4, hbX, hlX⟩ := hown4.form HLP.out
    injection hv4 with e1 e2 e3
    subst e1 e3
    have HO4 := Lib.hid hown4
    have HQ4 := Lib.hid hr4
    have HC4 := Lib.hid (And.intro hc4 ha4)
    have HX4 := Lib.hid (And.intro hbX hlX)
    have HW3 := Lib.hid (show wr.heap.size ≤ w3.heap.size from HL3.out.below.size)
    have HP3 := Lib.hid (show ∀ j, p.has j ∨ q.has j → j < w3.heap.size from fun j hj => by
     rcases hj with hj | hj
     ·exact HL3.out.at_.lt hj
     ·exact HR3.out.lt hj)
    have HL4 := Lib.hid (HL3.out.after hb4)
    have HR4 := Lib.hid (HR3.out.below hb4)
    have BS4 := Lib.hid (BS3.out.below hb4 BS3.out.lt)
    have hsv := isave_any (HL3.out.after hb4).at_ HG.out (HL3.out.after hb4).envw.spares
    unfold ptr at hsv
    have HSV4 := Lib.hid hsv
    clear hown4 hr4 hb4 hc4 ha4 hbX hlX HSV HL3 HR3 BS3 hsv
    go_wp2_with fail
    refine HSV4.out.mono ?_
    rintro e w5 ⟨v5, rfl, hown5, hb5⟩
    obtain ⟨A5, c5, hv5, -, -, -⟩ := own_sliceA hown5
    subst hv5
    have HO5 := Lib.hid hown5
    have HO4 := Lib.hid (own_below HO4.out hb5)
    have HQ5 := Lib.hid ((HQ4.out.below hb5).more hb5.size)
    have HL5 := Lib.hid (HL4.out.after hb5)
    have HR5 := Lib.hid (HR4.out.below hb5)
    have BS5 := Lib.hid (BS4.out.below hb5 BS4.out.lt)
    have hrs := rsave_any (HR4.out.below hb5) HG.out
    unfold ptr at hrs
    have HRS := Lib.hid hrs
    have HS45 := Lib.hid hb5.size
    clear hown5 hb5 HSV4 HL4 HR4 BS4 hrs HQ4
    go_wp2_with fail
    refine HRS.out.mono ?_
    rintro e w6 ⟨v6, rfl, hown6, hb6⟩
    obtain ⟨A6, c6, hv6, -, -, -⟩ := own_sliceA hown6
    subst hv6
    have HO6 := Lib.hid hown6
    have HO5 := Lib.hid (own_below HO5.out hb6)
    have HO4 := Lib.hid (own_below HO4.out hb6)
    have HQ6 := Lib.hid ((HQ5.out.below hb6).more hb6.size)
    have HL6 := Lib.hid (HL5.out.after hb6)
    have HR6 := Lib.hid (HR5.out.below hb6)
    have BS6 := Lib.hid (BS5.out.below hb6 BS5.out.lt)
    have HS56 := Lib.hid hb6.size
    have HLD := Lib.hid (iload_back (c := c4) (HL5.out.after hb6).envw HG.out (take_new HG.out) rfl rfl rfl rfl k.size HKO.out.1 HKO.out.2.1 HG.out.fit.room ((HQ5.out.below hb6).more hb6.size) HC4.out.2 HC4.out.1 (by have := HLN.out; omega) (newI_byte HG.out))
    have x0 := BS6.out.cell 0
    clear hown6 hb6 HRS HL5 HR5 BS5 HQ5 HQ6
    go_wp2_with fail
    refine HLD.out.mono ?_
    rintro e w7 ⟨p7, rfl, L7⟩
    have hb7 := L7.below
    have HO6 := Lib.hid (own_below HO6.out hb7)
    have HO5 := Lib.hid (own_below HO5.out hb7)
    have HO4 := Lib.hid (own_below HO4.out hb7)
    have HL7 := Lib.hid (HL6.out.after hb7)
    have HR7 := Lib.hid (HR6.out.below hb7)
    have HX7 := Lib.hid (show Live wr w7 p7 p7.g k.h from L7.rebase HL6.out.below HL6.out.env)
    have HN7 := Lib.hid (show ∀ j, p7.has j → w6.heap.size ≤ j ∧ j < w7.heap.size from fun j hj => ⟨L7.new j hj, L7.at_.lt hj⟩)
    have HS := Lib.hid (show wr.heap.size ≤ w3.heap.size ∧ w3.heap.size ≤ X ∧ X < w4.heap.size ∧ w4.heap.size ≤ w5.heap.size ∧ w5.heap.size ≤ w6.heap.size ∧ w6.heap.size ≤ w7.heap.size from by
     have h1 := HX4.out
     have h2 := HS45.out
     have h3 := HS56.out
     have h4 := hb7.size
     have h5 : wr.heap.size ≤ w3.heap.size := HW3.out
     exact ⟨h5, h1.1, h1.2, h2, h3, h4⟩)
    have HF := Lib.hid (show ∀ w', OffR w7.heap.size X w7 w' → Live wr w' p p.g k.h ∧ RAt w' q k.h ∧ Live wr w' p7 p7.g k.h ∧ w'.ownsRow w4.heap.size 5 1 (.slice A5 (k.h.newI l).length c5) (k.h.newI l).length (u8c (k.h.newI l)) ∧ w'.ownsRow w5.heap.size 5 1 (.slice A6 (k.h.newI l).length c6) (k.h.newI l).length (u8c (k.h.newI l)) from fun w' H => by
     obtain ⟨s1, s2, s3, s4, s5, s6⟩ := HS.out
     refine ⟨HL7.out.off H (by omega) (fun j hj => by have := HP3.out j (.inl hj); omega) (by omega), HR7.out.same (fun j hj => H.block j (by have := HP3.out j (.inr hj); omega) (by have := HP3.out j (.inr hj); omega)), HX7.out.off H (by omega) (fun j hj => by have := HN7.out j hj; omega) (by omega), own_keep HO5.out (fun j hj => H.block j (HO5.out.lt j hj).2 (by have := (HO5.out.lt j hj).1; omega)), own_keep HO6.out (fun j hj => H.block j (HO6.out.lt j hj).2 (by have := (HO6.out.lt j hj).1; omega))⟩)
    clear L7 hb7 HLD HL6 HR6 BS6 x0 HL7 HR7 HX7 HO5 HO6
    unfold ptr
    go_wp2_with fail
    have HST := Lib.hid (show ∃ ys : List Value, w7.ownsRow w3.heap.size 5 1 (.slice (some ⟨X, 0, none⟩) (k.h.newI l).length c4) (k.h.newI l).length ys from ⟨_, HO4.out⟩)
    have HLB := Lib.hid (show w3.heap.size ≤ w7.heap.size from by have := HS.out; omega)
    generalize hn : (k.h.newI l).length = n at *
    have HNN := Lib.hid hn
    clear hn
    have HLX := Lib.hid HLN.out
    have HLQ := Lib.hid HLP.out
    clear HO4 HC4 HX4 HLN HLP
    go_loopw [22] (fun iv wz => ∃ j : Nat, iv = .int .i64 (j : Int) ∧ j ≤ n ∧ Hid (OffR w7.heap.size X w7 wz) ∧ Hid (∃ ys : List Value, wz.ownsRow w3.heap.size 5 1 (.slice (some ⟨X, 0, none⟩) n c4) n ys)) (fun iv _ => n - (intOf iv).toNat)
    case atStart => exact ⟨0, rfl, Nat.zero_le _, Lib.hid OffR.refl, HST⟩
    case round =>
     clear HST
     obtain ⟨j, rfl, hj, HOF, HYS⟩ := hrel
     have hn63 : n ≤ 9223372036854775807 := by have := HLX.out; omega
     by_cases hlt : j < n
     ·obtain ⟨ys, hoy⟩ := HYS.out
      have hly : ys.length = n := by have := hoy.1; omega
      have hce := (hoy.cellAt j (by omega)).trans (List.getElem?_eq_getElem (show j < ys.length by omega))
      have hfz := hoy.frozenAt j
      have hst := hoy.stored j (.int .u8 (7 : Int))
      have HYN := Lib.hid (show ∃ ys : List Value, (World.setCell _ ⟨X, j, none⟩ (.int .u8 (7 : Int))).ownsRow w3.heap.size 5 1 (.slice (some ⟨X, 0, none⟩) n c4) n ys from ⟨_, hst.1⟩)
      have HON := Lib.hid (HOF.out.grown (Nat.le_refl _) hst.2 (fun q e => by injection e with e; exact .inl e.symm))
      generalize ys[j] = y at *
      clear hst hly hoy HYS HOF
      go_wp2_with fail
      go_roundw
      case rel => exact ⟨j + 1, by go_num, by omega, HON, HYN⟩
      case measure => simp [intOf]; omega
     ·obtain rfl : n = j := by omega
      have HT0 := Lib.hid (show ∃ ys : List Value, World.ownsRow _ w3.heap.size 5 1 (.slice (some ⟨X, 0, none⟩) n c4) (n + 0) ys ∧ ∀ q, (Value.slice (some ⟨X, 0, none⟩) n c4).ownBlock = some q → q = X ∨ w7.heap.size ≤ q from by
       obtain ⟨ys, hoy⟩ := HYS.out
       exact ⟨ys, hoy, fun q hq => .inl (by injection hq with hq; exact hq.symm)⟩)
      obtain ⟨i0, hi0, hz0, hz1, hz2⟩ := info_parts info_u8
      clear HYS
      go_upto_region 25 with fail
      clear hlt hj
      go_loopw [15, 23] (fun vv iv wz => ∃ m : Nat, iv = .int .i64 (m : Int) ∧ m ≤ 20 ∧ Hid (OffR w7.heap.size X w7 wz) ∧ Hid (∃ ys : List Value, wz.ownsRow w3.heap.size 5 1 vv (n + m) ys ∧ ∀ q, vv.ownBlock = some q → q = X ∨ w7.heap.size ≤ q)) (fun _ iv _ => 20 - (intOf iv).toNat)
      case atStart => exact ⟨0, rfl, by omega, HOF, HT0⟩
      case round =>
       clear HT0 HOF
       obtain ⟨m, rfl, hm, HOF, HYS⟩ := hrel
       by_cases hlm : m < 20
       ·have hlm2 : (m : Int) < 20 := by omega
        obtain ⟨ys, hoy, hqy⟩ := HYS.out
        have HOY := Lib.hid (And.intro hoy hqy)
        have hnl : n ≤ 8388608 := HLX.out
        clear hoy hqy HYS
        have hal := (Below.refl wr.heap.size wr).alloc (Nat.le_refl _) (.cells #[.int .u8 (8 : Int)] 5)
        have HA1 := Lib.hid hal
        have HO1 := Lib.hid (HOF.out.below (Nat.le_refl _) hal)
        have HZ1 := Lib.hid (show w3.heap.size ≤ (wr.alloc (.cells #[.int .u8 (8 : Int)] 5)).heap.size from by have h1 := hal.size; have h2 := HOF.out.size; have h3 := HLB.out; omega)
        clear hal
        go_wp2_with (at_builtin; refine wpList_append_any _ rfl (.tmp 131) (.tmp 132) _ rfl w3.heap.size 5 i0 _ 1 1 Tryz.underlying22 hi0 hz0 hz1 hz2 rfl (by omega) _ (n + m) ys rfl (own_below HOY.out.1 HA1.out) (wr.heap.size + 1) (some ⟨wr.heap.size, 0, none⟩) 1 1 [.int .u8 8] rfl (freads_one wr _ _) (fun u hu => by simp at hu; subst hu; rfl) (by simp only [maxLen]; omega) (by omega) HZ1.out ?_; intro v9 w9 hown9 hgrow9 hat9; have HO9 := Lib.hid hown9; have HG9 := Lib.hid hgrow9; have HT9 := Lib.hid hat9; clear hown9 hgrow9 hat9)
        have HON := Lib.hid (HO1.out.grown (Nat.le_refl _) HG9.out (fun q e => HOY.out.2 q e))
        have HYN := Lib.hid (show ∃ ys : List Value, w9.ownsRow w3.heap.size 5 1 v9 (n + (m + 1)) ys ∧ ∀ q, v9.ownBlock = some q → q = X ∨ w7.heap.size ≤ q from ⟨_, HO9.out, fun q hq => by
         rcases HT9.out with h | h
         ·exact HOY.out.2 q (h.symm.trans hq)
         ·rw [h, World.size_alloc] at hq
          have h4 : wr.heap.size + 1 = q := by injection hq
          have h5 := HOF.out.size
          exact .inr (by omega)⟩)
        go_roundw
        case rel => exact ⟨m + 1, by go_num, by omega, HON, HYN⟩
        case measure => simp [intOf]; omega
       ·obtain rfl : m = 20 := by omega
        obtain ⟨F1, F2, F3, F4, F5⟩ := HF.out _ HOF.out
        have hsv := isave_any F1.at_ HG.out F1.envw.spares
        unfold ptr at hsv
        rw [F1.hg] at hsv
        have HSV := Lib.hid hsv
        have HF1 := Lib.hid (And.intro F2 (And.intro F3 (And.intro F4 F5)))
        clear F1 F2 F3 F4 F5 hsv HYS HOF
        go_wp2_with fail
        refine HSV.out.mono ?_
        rintro e w8 ⟨v8, rfl, hown8, hb8⟩
        rw [HNN.out] at hown8
        obtain ⟨A8, c8, hv8, hr8, -, -⟩ := own_sliceA hown8
        subst hv8
        obtain ⟨F2, F3, F4, F5⟩ := HF1.out
        obtain ⟨A4', c4', hv4, hr4, -, -⟩ := own_sliceA (own_below F4 hb8)
        obtain ⟨A5', c5', hv5, hr5, -, -⟩ := own_sliceA (own_below F5 hb8)
        injection hv4 with e1 e2 e3
        subst e1 e3
        injection hv5 with e1 e2 e3
        subst e1 e3
        have hn63 : n ≤ 9223372036854775807 := by have := HLX.out; omega
        have HS1 := Lib.hid (isame_ownS (c := c5) (c' := c6) (Below.refl w8.heap.size w8) hr4 hr5 hn63 hn63)
        have HS2 := Lib.hid (fun (w' : World) (hb : Below w8.heap.size w8 w') => isame_ownS (c := c8) (c' := c6) hb hr8 ((hr5.below hb).more hb.size) hn63 hn63)
        have HL8 := Lib.hid (F3.after hb8)
        have HR8 := Lib.hid (F2.below hb8)
        clear hown8 hr8 hr4 hr5 hb8 F2 F3 F4 F5 HSV HF1
        go_wp2_with fail
        refine (HNU.out _).mono ?_
        rintro e w9 ⟨rfl, rfl⟩
        go_wp2_with fail
        refine (HNU.out _).mono ?_
        rintro e w9 ⟨rfl, rfl⟩
        go_wp2_with fail
        refine HS1.out.mono ?_
        rintro e w9 ⟨rfl, hb9⟩
        have HS3 := Lib.hid (HS2.out _ hb9)
        have HL9 := Lib.hid (HL8.out.after hb9)
        have HR9 := Lib.hid (HR8.out.below hb9)
        clear hb9 HS1 HS2 HL8 HR8
        go_wp2_with fail
        refine HS3.out.mono ?_
        rintro e w10 ⟨rfl, hb10⟩
        have HLK := Lib.hid (like_any (HL9.out.after hb10) (HR9.out.below hb10))
        have HB10 := Lib.hid (HBW.out.trans ((HL9.out.after hb10).below.mono HBW.out.size))
        clear hb10 HS3 HL9 HR9
        go_wp2_with fail
        refine HLK.out.mono ?_
        rintro e w11 ⟨rfl, hb11⟩
        have HB11 := Lib.hid (below_top HB10.out hb11)
        clear hb11
        go_wp2_with fail
        go_ret
        exact ⟨rfl, HB11.out⟩
end
end Go.Proofs.YtlkahgagmfhdaaaGreatDoor
