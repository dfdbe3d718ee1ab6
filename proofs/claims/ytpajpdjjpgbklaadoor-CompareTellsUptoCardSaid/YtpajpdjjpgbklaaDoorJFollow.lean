/- Follow: from an oop along fields. -/
import Derived.Test.YtpajpdjjpgbklaaDoorJRefE
import Derived.Test.YtpajpdjjpgbklaaDoorJCmpC
set_option linter.unusedVariables false
namespace Go.Proofs.YtpajpdjjpgbklaaDoor
open Go.RowKit
attribute [local go_sem] Oper.semAt_some

def intZ (l : List Int) : List Value := l.map (.int .i64 ·)
theorem intZ_len (l : List Int) : (intZ l).length = l.length := by simp [intZ]
theorem intZ_get {l : List Int} {k : Nat} (h : k < l.length) : (intZ l)[k]? = some (.int .i64 (l.getD k 0)) := by
  unfold intZ; rw [List.getElem?_map, List.getElem?_eq_getElem h, List.getD_eq_getElem?_getD, List.getElem?_eq_getElem h]; rfl
/-- Where a way leads, the error's number. -/
def HM.followS (h : HM) : Nat → List Int → Nat × Nat
  | o, [] => (o, 0)
  | o, i :: is => if h.isB o = false then (0, 3) else if i = -1 then h.followS (h.hd (o / 2)).cls is else if h.lookE o i [1, 4] = 0 then h.followS (fw h o i.toNat) is else (0, h.lookE o i [1, 4])
def HM.followM (h : HM) (o : Nat) (path : List Int) : Nat × Nat := if h.fitsB [o] then h.followS o path else (0, 3)
theorem drop_at {l : List Int} {k : Nat} (h : k < l.length) : l.drop k = l.getD k 0 :: l.drop (k + 1) := by
  rw [List.drop_eq_getElem_cons h, List.getD_eq_getElem?_getD, List.getElem?_eq_getElem h]; rfl
theorem followS_no {h : HM} {o : Nat} (hi : h.isB o = false) (i : Int) (is : List Int) : h.followS o (i :: is) = (0, 3) := by unfold HM.followS; rw [if_pos hi]
theorem followS_cls {h : HM} {o : Nat} (hi : h.isB o = true) (is : List Int) : h.followS o (-1 :: is) = h.followS (h.hd (o / 2)).cls is := by
  conv => lhs; unfold HM.followS
  rw [if_neg (by simp [hi]), if_pos rfl]
theorem followS_get {h : HM} {o : Nat} (hi : h.isB o = true) {i : Int} (h1 : i ≠ -1) (he : h.lookE o i [1, 4] = 0) (is : List Int) : h.followS o (i :: is) = h.followS (fw h o i.toNat) is := by
  conv => lhs; unfold HM.followS
  rw [if_neg (by simp [hi]), if_neg h1, if_pos he]
theorem followS_err {h : HM} {o : Nat} (hi : h.isB o = true) {i : Int} (h1 : i ≠ -1) (he : h.lookE o i [1, 4] ≠ 0) (is : List Int) : h.followS o (i :: is) = (0, h.lookE o i [1, 4]) := by
  unfold HM.followS; rw [if_neg (by simp [hi]), if_neg h1, if_neg he]
set_option maxRecDepth 100000 in
set_option maxHeartbeats 4000000 in
theorem follow_any {w : World} {p : HP} {h : HM} (H : HAt w p h) (f : h.Fit) (hh : h.Heads) (hs : Spares w) (o : Nat) (ho : o < 4294967296) (A : Option Addr) (n c : Nat) (path : List Int) (hn : n ≤ 9223372036854775807) (hr : Reads w w.heap.size 1 A n (intZ path)) :
    Calls Tryd.prog 17 #[ptr p.g, .int .u32 o, .slice A n c] w (Told (.tuple #[.int .u32 ((h.followM o path).1 : Nat), .int .i64 ((h.followM o path).2 : Nat)]) w) := by
  have hl : path.length = n := by have := hr.1; rw [intZ_len] at this; omega
  have HL := Lib.hid hl; have HR := Lib.hid hr; have HH := Lib.hid H
  have hb0 : Below w.heap.size w (w.alloc (.cells #[.int .u32 o] 50)) := (Below.refl _ _).alloc (Nat.le_refl _) _
  have HFT := Lib.hid (cfits_any (HH.out.below hb0) f (some ⟨w.heap.size, 0, none⟩) 1 1 [o] (by omega) ⟨rfl, fun _ => ⟨_, rfl, by simp, cell_one_new _ _ _⟩⟩ (fun x hx => by simp at hx; omega))
  have HB0 := Lib.hid hb0
  clear hl hr H hb0
  unfold ptr at HFT
  unfold ptr
  cases hfit : h.fitsB [o]
  · have HF := Lib.hid (show h.followM o path = (0, 3) by unfold HM.followM; rw [hfit]; rfl)
    rw [hfit] at HFT
    clear hfit
    go_enter Tryd.func17, Tryd.ntmps17
    go_wp2_with fail
    refine HFT.out.mono ?_
    rintro e w1 ⟨rfl, hb1⟩
    have HB1 := Lib.hid (below_top HB0.out hb1)
    go_wp2_with fail
    go_ret2
    exact ⟨by rw [HF.out]; rfl, HB1.out⟩
  · have HF := Lib.hid (show h.followM o path = h.followS o path by unfold HM.followM; rw [hfit]; rfl)
    rw [hfit] at HFT
    clear hfit
    go_enter Tryd.func17, Tryd.ntmps17
    go_wp2_with fail
    refine HFT.out.mono ?_
    rintro e w1 ⟨rfl, hb1⟩
    have HB1 := Lib.hid (below_top HB0.out hb1)
    clear HFT HB0 hb1
    go_wp2_with fail
    go_loopw [1, 19] (fun v i wr => ∃ (k q : Nat), k ≤ n ∧ i = .int .i64 k ∧ v = .int .u32 (q : Nat) ∧ q < 4294967296 ∧ h.followS q (path.drop k) = h.followS o path ∧ Below w.heap.size w wr) (fun _ i _ => n - (intOf i).toNat)
    case atStart => exact ⟨0, o, by omega, rfl, rfl, ho, rfl, HB1.out⟩
    case round =>
      clear HB1
      obtain ⟨k, q, hk, rfl, rfl, hq, hfo, hb⟩ := hrel
      have HFO := Lib.hid hfo
      have HB := Lib.hid hb
      by_cases hlt : k < n
      · obtain ⟨ad, u0, rfl, _, hx, hcell⟩ := (HR.out.below hb).at_ hlt
        have hkl : k < path.length := by rw [HL.out]; exact hlt
        rw [intZ_get hkl] at hx
        injection hx with hx
        subst hx
        have HDR := Lib.hid (drop_at hkl)
        have HHD := Lib.hid (Header_any (HH.out.below hb) f hh (hs.below hb) q hq)
        have HGT := Lib.hid (fun w' (hb' : Below w.heap.size w w') => get_any (HH.out.below hb') f hh (hs.below hb') q hq (path.getD k 0))
        generalize path.getD k 0 = x at *
        unfold ptr at HHD HGT
        clear hfo hb hkl
        cases hi : h.isB q
        · rw [show h.headerV q = .tuple #[.agg #[.int .i64 0, .int .i64 0, .int .i64 0, .int .u32 0, .int .u32 0], .int .i64 3] by simp [HM.headerV, hi]] at HHD
          have HNO := Lib.hid (show h.followS o path = (0, 3) by rw [← HFO.out, HDR.out, followS_no hi])
          clear hi
          go_wp2_with fail
          refine HHD.out.mono ?_
          rintro e w2 ⟨rfl, hb2⟩
          have HB2 := Lib.hid ((below_top HB.out hb2).alloc (below_top HB.out hb2).size (.cells #[.int .i64 0, .int .i64 0, .int .i64 0, .int .u32 0, .int .u32 0] 55))
          go_wp2_with fail
          go_ret2
          exact ⟨by rw [HF.out, HNO.out]; rfl, HB2.out⟩
        · rw [show h.headerV q = .tuple #[.agg #[.int .i64 (h.hd (q / 2)).size, .int .i64 (h.hd (q / 2)).fmt, .int .i64 (h.hd (q / 2)).spare, .int .u32 (h.hd (q / 2)).cls, .int .u32 (h.hd (q / 2)).ser], .int .i64 0] by unfold HM.headerV; rw [hi]; rfl] at HHD
          have hcl := (HM.hd_fit f (q / 2)).cls
          by_cases h1 : x = -1
          · subst h1
            have HNX := Lib.hid (show h.followS (h.hd (q / 2)).cls (path.drop (k + 1)) = h.followS o path by rw [← HFO.out, HDR.out, followS_cls hi])
            clear hi
            generalize h.hd (q / 2) = X at *
            go_wp2_with fail
            refine HHD.out.mono ?_
            rintro e w2 ⟨rfl, hb2⟩
            have HB2 := Lib.hid ((below_top HB.out hb2).alloc (below_top HB.out hb2).size (.cells #[.int .i64 X.size, .int .i64 X.fmt, .int .i64 X.spare, .int .u32 X.cls, .int .u32 X.ser] 55))
            go_wp2_with fail
            go_roundw
            case rel => exact ⟨k + 1, X.cls, by omega, by go_num, rfl, hcl, HNX.out, HB2.out⟩
            case measure => simp [intOf]; omega
          · have e1 : (x == -1) = false := by simpa using h1
            by_cases he : h.lookE q x [1, 4] = 0
            · have HNX := Lib.hid (show h.followS (fw h q x.toNat) (path.drop (k + 1)) = h.followS o path by rw [← HFO.out, HDR.out, followS_get hi h1 he])
              have hfw := (show fw h q x.toNat < 4294967296 from f.w _)
              unfold HM.readV at HGT
              rw [he] at HGT
              clear hi h1 he
              generalize h.hd (q / 2) = X at *
              generalize fw h q x.toNat = y at *
              go_wp2_with fail
              refine HHD.out.mono ?_
              rintro e w2 ⟨rfl, hb2⟩
              have HB2 := Lib.hid ((below_top HB.out hb2).alloc (below_top HB.out hb2).size (.cells #[.int .i64 X.size, .int .i64 X.fmt, .int .i64 X.spare, .int .u32 X.cls, .int .u32 X.ser] 55))
              have HG := Lib.hid (HGT.out _ HB2.out)
              clear HGT
              go_wp2_with fail
              refine HG.out.mono ?_
              rintro e w3 ⟨rfl, hb3⟩
              have HB3 := Lib.hid (below_top HB2.out hb3)
              go_wp2_with fail
              go_roundw
              case rel => exact ⟨k + 1, y, by omega, by go_num, rfl, hfw, HNX.out, HB3.out⟩
              case measure => simp [intOf]; omega
            · have HNX := Lib.hid (show h.followS o path = (0, h.lookE q x [1, 4]) by rw [← HFO.out, HDR.out, followS_err hi h1 he])
              have hel := HM.lookE_lt h q x [1, 4]
              unfold HM.readV at HGT
              have e2 : ((h.lookE q x [1, 4] : Int) != 0) = true := by simp; omega
              rw [if_neg he] at HGT
              clear hi h1
              generalize h.hd (q / 2) = X at *
              generalize h.lookE q x [1, 4] = E at *
              go_wp2_with fail
              refine HHD.out.mono ?_
              rintro e w2 ⟨rfl, hb2⟩
              have HB2 := Lib.hid ((below_top HB.out hb2).alloc (below_top HB.out hb2).size (.cells #[.int .i64 X.size, .int .i64 X.fmt, .int .i64 X.spare, .int .u32 X.cls, .int .u32 X.ser] 55))
              have HG := Lib.hid (HGT.out _ HB2.out)
              clear HGT
              go_wp2_with fail
              refine HG.out.mono ?_
              rintro e w3 ⟨rfl, hb3⟩
              have HB3 := Lib.hid (below_top HB2.out hb3)
              go_wp2_with fail
              go_ret2
              exact ⟨by rw [HF.out, HNX.out]; rfl, HB3.out⟩
      · obtain rfl : k = n := by omega
        have HEN := Lib.hid (show h.followS o path = (q, 0) by
          rw [← hfo, List.drop_eq_nil_of_le (by rw [HL.out]; exact Nat.le_refl _)]; rfl)
        clear hfo hb
        go_wp2_with fail
        go_ret2
        exact ⟨by rw [HF.out, HEN.out]; rfl, HB.out⟩
end Go.Proofs.YtpajpdjjpgbklaaDoor
