/- Follow: from an oop along fields. -/
/- compare over a heap that is none: nil, or one of size 0. -/
/- The document's Follow. -/
import Derived.Test.YtpajpdjjpgbklaaDoorJRefE
import Derived.Test.YtpajpdjjpgbklaaDoorJCmpC
set_option linter.unusedVariables false
set_option linter.unusedSimpArgs false
set_option linter.unusedSectionVars false
namespace Go.Proofs.YtpajpdjjpgbklaaDoor
open Go.RowKit
attribute [local go_sem] Oper.semAt_some

def intZ (l : List Int) : List Value := l.map (.int .i64 ·)
theorem intZ_len (l : List Int) : (intZ l).length = l.length := by simp [intZ]
theorem intZ_get {l : List Int} {k : Nat} (h : k < l.length) : (intZ l)[k]? = some (.int .i64 (l.getD k 0)) := by
  unfold intZ; rw [List.getElem?_map, List.getElem?_eq_getElem h, List.getD_eq_getElem?_getD, List.getElem?_eq_getElem h]; rfl
/-- Where a way leads, the error's number. -/
def HM.followS (h : HM) : Nat → List Int → Nat × Nat
  | o, [] => (o, 0)
  | o, i :: is => if h.isB o = false then (0, 3) else if i = -1 then h.followS (h.hd (o / 2)).cls is else if h.lookE o i [1, 4] = 0 then h.followS (fw h o i.toNat) is else (0, h.lookE o i [1, 4])
def HM.followM (h : HM) (o : Nat) (path : List Int) : Nat × Nat := if h.fitsB [o] then h.followS o path else (0, 3)
theorem drop_at {l : List Int} {k : Nat} (h : k < l.length) : l.drop k = l.getD k 0 :: l.drop (k + 1) := by
  rw [List.drop_eq_getElem_cons h, List.getD_eq_getElem?_getD, List.getElem?_eq_getElem h]; rfl
theorem followS_no {h : HM} {o : Nat} (hi : h.isB o = false) (i : Int) (is : List Int) : h.followS o (i :: is) = (0, 3) := by unfold HM.followS; rw [if_pos hi]
theorem followS_cls {h : HM} {o : Nat} (hi : h.isB o = true) (is : List Int) : h.followS o (-1 :: is) = h.followS (h.hd (o / 2)).cls is := by
  conv => lhs; unfold HM.followS
  rw [if_neg (by simp [hi]), if_pos rfl]
theorem followS_get {h : HM} {o : Nat} (hi : h.isB o = true) {i : Int} (h1 : i ≠ -1) (he : h.lookE o i [1, 4] = 0) (is : List Int) : h.followS o (i :: is) = h.followS (fw h o i.toNat) is := by
  conv => lhs; unfold HM.followS
  rw [if_neg (by simp [hi]), if_neg h1, if_pos he]
theorem followS_err {h : HM} {o : Nat} (hi : h.isB o = true) {i : Int} (h1 : i ≠ -1) (he : h.lookE o i [1, 4] ≠ 0) (is : List Int) : h.followS o (i :: is) = (0, h.lookE o i [1, 4]) := by
  unfold HM.followS; rw [if_neg (by simp [hi]), if_neg h1, if_neg he]
set_option maxRecDepth 100000 in
set_option maxHeartbeats 4000000 in
theorem follow_any {w : World} {p : HP} {h : HM} (H : HAt w p h) (f : h.Fit) (hh : h.Heads) (hs : Spares w) (o : Nat) (ho : o < 4294967296) (A : Option Addr) (n c : Nat) (path : List Int) (hn : n ≤ 9223372036854775807) (hr : Reads w w.heap.size 1 A n (intZ path)) :
    Calls Tryd.prog 17 #[ptr p.g, .int .u32 o, .slice A n c] w (Told (.tuple #[.int .u32 ((h.followM o path).1 : Nat), .int .i64 ((h.followM o path).2 : Nat)]) w) := by
  have hl : path.length = n := by have := hr.1; rw [intZ_len] at this; omega
  have HL := Lib.hid hl; have HR := Lib.hid hr; have HH := Lib.hid H
  have hb0 : Below w.heap.size w (w.alloc (.cells #[.int .u32 o] 50)) := (Below.refl _ _).alloc (Nat.le_refl _) _
  have HFT := Lib.hid (cfits_any (HH.out.below hb0) f (some ⟨w.heap.size, 0, none⟩) 1 1 [o] (by omega) ⟨rfl, fun _ => ⟨_, rfl, by simp, cell_one_new _ _ _⟩⟩ (fun x hx => by simp at hx; omega))
  have HB0 := Lib.hid hb0
  clear hl hr H hb0
  unfold ptr at HFT
  unfold ptr
  cases hfit : h.fitsB [o]
  · have HF := Lib.hid (show h.followM o path = (0, 3) by unfold HM.followM; rw [hfit]; rfl)
    rw [hfit] at HFT
    clear hfit
    go_enter Tryd.func17, Tryd.ntmps17
    go_wp2_with fail
    refine HFT.out.mono ?_
    rintro e w1 ⟨rfl, hb1⟩
    have HB1 := Lib.hid (below_top HB0.out hb1)
    go_wp2_with fail
    go_ret2
    exact ⟨by rw [HF.out]; rfl, HB1.out⟩
  · have HF := Lib.hid (show h.followM o path = h.followS o path by unfold HM.followM; rw [hfit]; rfl)
    rw [hfit] at HFT
    clear hfit
    go_enter Tryd.func17, Tryd.ntmps17
    go_wp2_with fail
    refine HFT.out.mono ?_
    rintro e w1 ⟨rfl, hb1⟩
    have HB1 := Lib.hid (below_top HB0.out hb1)
    clear HFT HB0 hb1
    go_wp2_with fail
    go_loopw [1, 19] (fun v i wr => ∃ (k q : Nat), k ≤ n ∧ i = .int .i64 k ∧ v = .int .u32 (q : Nat) ∧ q < 4294967296 ∧ h.followS q (path.drop k) = h.followS o path ∧ Below w.heap.size w wr) (fun _ i _ => n - (intOf i).toNat)
    case atStart => exact ⟨0, o, by omega, rfl, rfl, ho, rfl, HB1.out⟩
    case round =>
      clear HB1
      obtain ⟨k, q, hk, rfl, rfl, hq, hfo, hb⟩ := hrel
      have HFO := Lib.hid hfo
      have HB := Lib.hid hb
      by_cases hlt : k < n
      · obtain ⟨ad, u0, rfl, _, hx, hcell⟩ := (HR.out.below hb).at_ hlt
        have hkl : k < path.length := by rw [HL.out]; exact hlt
        rw [intZ_get hkl] at hx
        injection hx with hx
        subst hx
        have HDR := Lib.hid (drop_at hkl)
        have HHD := Lib.hid (Header_any (HH.out.below hb) f hh (hs.below hb) q hq)
        have HGT := Lib.hid (fun w' (hb' : Below w.heap.size w w') => get_any (HH.out.below hb') f hh (hs.below hb') q hq (path.getD k 0))
        generalize path.getD k 0 = x at *
        unfold ptr at HHD HGT
        clear hfo hb hkl
        cases hi : h.isB q
        · rw [show h.headerV q = .tuple #[.agg #[.int .i64 0, .int .i64 0, .int .i64 0, .int .u32 0, .int .u32 0], .int .i64 3] by simp [HM.headerV, hi]] at HHD
          have HNO := Lib.hid (show h.followS o path = (0, 3) by rw [← HFO.out, HDR.out, followS_no hi])
          clear hi
          go_wp2_with fail
          refine HHD.out.mono ?_
          rintro e w2 ⟨rfl, hb2⟩
          have HB2 := Lib.hid ((below_top HB.out hb2).alloc (below_top HB.out hb2).size (.cells #[.int .i64 0, .int .i64 0, .int .i64 0, .int .u32 0, .int .u32 0] 55))
          go_wp2_with fail
          go_ret2
          exact ⟨by rw [HF.out, HNO.out]; rfl, HB2.out⟩
        · rw [show h.headerV q = .tuple #[.agg #[.int .i64 (h.hd (q / 2)).size, .int .i64 (h.hd (q / 2)).fmt, .int .i64 (h.hd (q / 2)).spare, .int .u32 (h.hd (q / 2)).cls, .int .u32 (h.hd (q / 2)).ser], .int .i64 0] by unfold HM.headerV; rw [hi]; rfl] at HHD
          have hcl := (HM.hd_fit f (q / 2)).cls
          by_cases h1 : x = -1
          · subst h1
            have HNX := Lib.hid (show h.followS (h.hd (q / 2)).cls (path.drop (k + 1)) = h.followS o path by rw [← HFO.out, HDR.out, followS_cls hi])
            clear hi
            generalize h.hd (q / 2) = X at *
            go_wp2_with fail
            refine HHD.out.mono ?_
            rintro e w2 ⟨rfl, hb2⟩
            have HB2 := Lib.hid ((below_top HB.out hb2).alloc (below_top HB.out hb2).size (.cells #[.int .i64 X.size, .int .i64 X.fmt, .int .i64 X.spare, .int .u32 X.cls, .int .u32 X.ser] 55))
            go_wp2_with fail
            go_roundw
            case rel => exact ⟨k + 1, X.cls, by omega, by go_num, rfl, hcl, HNX.out, HB2.out⟩
            case measure => simp [intOf]; omega
          · have e1 : (x == -1) = false := by simpa using h1
            by_cases he : h.lookE q x [1, 4] = 0
            · have HNX := Lib.hid (show h.followS (fw h q x.toNat) (path.drop (k + 1)) = h.followS o path by rw [← HFO.out, HDR.out, followS_get hi h1 he])
              have hfw := (show fw h q x.toNat < 4294967296 from f.w _)
              unfold HM.readV at HGT
              rw [he] at HGT
              clear hi h1 he
              generalize h.hd (q / 2) = X at *
              generalize fw h q x.toNat = y at *
              go_wp2_with fail
              refine HHD.out.mono ?_
              rintro e w2 ⟨rfl, hb2⟩
              have HB2 := Lib.hid ((below_top HB.out hb2).alloc (below_top HB.out hb2).size (.cells #[.int .i64 X.size, .int .i64 X.fmt, .int .i64 X.spare, .int .u32 X.cls, .int .u32 X.ser] 55))
              have HG := Lib.hid (HGT.out _ HB2.out)
              clear HGT
              go_wp2_with fail
              refine HG.out.mono ?_
              rintro e w3 ⟨rfl, hb3⟩
              have HB3 := Lib.hid (below_top HB2.out hb3)
              go_wp2_with fail
              go_roundw
              case rel => exact ⟨k + 1, y, by omega, by go_num, rfl, hfw, HNX.out, HB3.out⟩
              case measure => simp [intOf]; omega
            · have HNX := Lib.hid (show h.followS o path = (0, h.lookE q x [1, 4]) by rw [← HFO.out, HDR.out, followS_err hi h1 he])
              have hel := HM.lookE_lt h q x [1, 4]
              unfold HM.readV at HGT
              have e2 : ((h.lookE q x [1, 4] : Int) != 0) = true := by simp; omega
              rw [if_neg he] at HGT
              clear hi h1
              generalize h.hd (q / 2) = X at *
              generalize h.lookE q x [1, 4] = E at *
              go_wp2_with fail
              refine HHD.out.mono ?_
              rintro e w2 ⟨rfl, hb2⟩
              have HB2 := Lib.hid ((below_top HB.out hb2).alloc (below_top HB.out hb2).size (.cells #[.int .i64 X.size, .int .i64 X.fmt, .int .i64 X.spare, .int .u32 X.cls, .int .u32 X.ser] 55))
              have HG := Lib.hid (HGT.out _ HB2.out)
              clear HGT
              go_wp2_with fail
              refine HG.out.mono ?_
              rintro e w3 ⟨rfl, hb3⟩
              have HB3 := Lib.hid (below_top HB2.out hb3)
              go_wp2_with fail
              go_ret2
              exact ⟨by rw [HF.out, HNX.out]; rfl, HB3.out⟩
      · obtain rfl : k = n := by omega
        have HEN := Lib.hid (show h.followS o path = (q, 0) by
          rw [← hfo, List.drop_eq_nil_of_le (by rw [HL.out]; exact Nat.le_refl _)]; rfl)
        clear hfo hb
        go_wp2_with fail
        go_ret2
        exact ⟨by rw [HF.out, HEN.out]; rfl, HB.out⟩
end Go.Proofs.YtpajpdjjpgbklaaDoor

namespace Go.Proofs.YtpajpdjjpgbklaaDoor
open Go.RowKit
attribute [local go_sem] Oper.semAt_some

/-- No heap: nil, or one of size 0. -/
def NoHp (w : World) (v : Value) : Prop := v = .pointer none ∨ ∃ g, v = ptr g ∧ w.cell? ⟨g, 3, none⟩ = some (.int .i64 0)
theorem NoHp.below {w w' : World} {v : Value} (h : NoHp w v) (hb : Below w.heap.size w w') : NoHp w' v := by
  rcases h with h | ⟨g, h1, h2⟩
  · exact .inl h
  · exact .inr ⟨g, h1, (hb.cell (p := ⟨g, 3, none⟩) (World.block_lt_of_cell? _ _ h2)).trans h2⟩
theorem NoHp.alloc {w : World} {v : Value} (h : NoHp w v) (o : Obj) : NoHp (w.alloc o) v := h.below ((Below.refl _ _).alloc (Nat.le_refl _) _)
section
variable {w : World} {v : Value}
theorem made_no (N : NoHp w v) : Calls Tryd.prog 43 #[v] w (Said (.bool false) w) := by
  rcases N with rfl | ⟨g, rfl, c3⟩
  · go_enter Tryd.func43, Tryd.ntmps43
    go_wp2_with fail
    go_ret
    exact ⟨rfl, rfl⟩
  · unfold ptr
    go_enter Tryd.func43, Tryd.ntmps43
    go_wp2_with fail
    go_ret
    exact ⟨rfl, rfl⟩
theorem is_no (N : NoHp w v) (o : Nat) (ho : o < 4294967296) : Calls Tryd.prog 22 #[v, .int .u32 o] w (Said (.bool false) w) := by
  have HM := Lib.hid (made_no N); clear N
  by_cases hk : objB o = true
  · have HI := Lib.hid (show indexV o = .tuple #[.int .i64 (o / 2 : Nat), .int .i64 0] by simp [indexV, hk])
    clear hk
    generalize o / 2 = q at HI
    go_enter Tryd.func22, Tryd.ntmps22
    go_wp2_with fail
    refine (index_any o ho _).mono ?_
    rintro e w' ⟨rfl, rfl⟩
    rw [HI.out]
    go_wp2_with fail
    refine HM.out.mono ?_
    rintro e w' ⟨rfl, rfl⟩
    go_wp2_with fail
    go_ret
    exact ⟨rfl, rfl⟩
  · have HI := Lib.hid (show indexV o = .tuple #[.int .i64 0, .int .i64 3] by simp [indexV, hk])
    clear hk
    go_enter Tryd.func22, Tryd.ntmps22
    go_wp2_with fail
    refine (index_any o ho _).mono ?_
    rintro e w' ⟨rfl, rfl⟩
    rw [HI.out]
    go_wp2_with fail
    go_ret
    exact ⟨rfl, rfl⟩
theorem header_no (N : NoHp w v) (o : Nat) (ho : o < 4294967296) : Calls Tryd.prog 18 #[v, .int .u32 o] w (Told (.tuple #[.agg #[.int .i64 0, .int .i64 0, .int .i64 0, .int .u32 0, .int .u32 0], .int .i64 3]) w) := by
  have HI := Lib.hid (fun x => is_no (N.alloc x) o ho); clear N
  go_enter Tryd.func18, Tryd.ntmps18
  go_wp2_with fail
  refine (HI.out _).mono ?_
  rintro e w1 ⟨rfl, rfl⟩
  go_wp2_with fail
  exact bodyPost_ret (v := .tuple #[.agg #[.int .i64 0, .int .i64 0, .int .i64 0, .int .u32 0, .int .u32 0], .int .i64 3]) (by simp [results, Tryd.results18, go_sem]) rfl ⟨rfl, (Below.refl _ _).alloc (Nat.le_refl _) _⟩
end

/-- Whether a value is one of no heap. -/
def nvB (o : Nat) : Bool := !decide (kindM o = 2)
theorem not_nvB (o : Nat) : (!nvB o) = (decide (kindM o = 2) && !false) := by simp [nvB]
def IdxNP (xs : List Nat) (w : World) (e : Ending) (w' : World) : Prop := ∃ j : Int, e = .returned (.int .i64 j) ∧ (decide (0 ≤ j) = xs.any fun o => !nvB o) ∧ -1 ≤ j ∧ j ≤ 9223372036854775807 ∧ w = w'
theorem fit1_no {w : World} {q : Option Addr} (H : NoHp w (.pointer q)) (gb : Nat) (hb : w.cell? ⟨gb, 0, none⟩ = some (.pointer q)) (o : Nat) (ho : o < 4294967296) :
    Calls Tryd.prog 71 #[.int .u32 o, .pointer (some ⟨gb, 0, none⟩)] w fun e w' => e = .returned (.bool (!nvB o)) ∧ w = w' := by
  have HI := Lib.hid (is_no H o ho)
  have HK := Lib.hid (ckind_any o ho w)
  rw [not_nvB]
  clear H
  by_cases hk : kindM o = 2
  · rw [hk] at HK ⊢
    clear hk
    go_enter Tryd.func71, Tryd.ntmps71
    go_wp2_with fail
    refine HK.out.mono ?_
    rintro e w' ⟨rfl, rfl⟩
    go_wp2_with fail
    refine HI.out.mono ?_
    rintro e w' ⟨rfl, rfl⟩
    go_wp2_with fail
    go_ret
    exact ⟨by simp, rfl⟩
  · have e2 : ((kindM o : Int) == 2) = false := by simp; omega
    have HF := Lib.hid (show (decide (kindM o = 2) && !false) = false by simp [hk])
    rw [HF.out]
    clear hk
    generalize kindM o = k at *
    go_enter Tryd.func71, Tryd.ntmps71
    go_wp2_with fail
    refine HK.out.mono ?_
    rintro e w' ⟨rfl, rfl⟩
    go_wp2_with fail
    go_ret
    exact ⟨rfl, rfl⟩

set_option maxHeartbeats 1000000 in
theorem indexFit_no {w : World} {q : Option Addr} (H : NoHp w (.pointer q)) (gb : Nat) (hb : w.cell? ⟨gb, 0, none⟩ = some (.pointer q)) (A : Option Addr) (n c B : Nat) (xs : List Nat) (hn : n ≤ 9223372036854775807)
    (hr : Reads w B 1 A n (u32s xs)) (h32 : ∀ x ∈ xs, x < 4294967296) :
    Calls Tryd.prog 101 #[.slice A n c, fitFn gb] w (IdxNP xs w) := by
  have hl : xs.length = n := by have := hr.1; rw [u32s_len] at this; omega
  have HL := Lib.hid hl; have HR := Lib.hid hr; have HX := Lib.hid h32; have HH := Lib.hid H; have HB := Lib.hid hb
  clear hl hr h32 H hb
  unfold fitFn
  go_enter Tryd.func101, Tryd.ntmps101
  go_wp2_with fail
  go_loop [8] (fun i => ∃ k : Nat, k ≤ n ∧ i = .int .i64 k ∧ (xs.take k).any (fun o => !nvB o) = false) (fun i => n - (intOf i).toNat)
  case atStart => exact ⟨0, by omega, rfl, by simp⟩
  case round =>
    obtain ⟨k, hk, rfl, hno⟩ := hrel
    have HNO := Lib.hid hno; clear hno
    by_cases hlt : k < n
    · obtain ⟨ad, u0, rfl, _, hx, hcell⟩ := HR.out.at_ hlt
      rw [u32s_get (by rw [HL.out]; exact hlt)] at hx
      injection hx with hx
      subst hx
      have ho : xs.getD k 0 < 4294967296 := by
        rw [List.getD_eq_getElem?_getD, List.getElem?_eq_getElem (by rw [HL.out]; exact hlt)]
        exact HX.out _ (List.getElem_mem _)
      have HC := Lib.hid (fit1_no HH.out gb HB.out (xs.getD k 0) ho)
      cases hv : nvB (xs.getD k 0)
      · have HA := Lib.hid (any_at (q := fun o => !nvB o) (by rw [HL.out]; exact hlt) (by simp only [hv]; rfl))
        rw [hv] at HC
        clear hv
        generalize xs.getD k 0 = y at *
        go_wp2_with fail
        refine HC.out.mono ?_
        rintro e w' ⟨rfl, rfl⟩
        go_wp2_with fail
        go_ret
        exact ⟨k, rfl, by rw [HA.out]; simp, by omega, by omega, rfl⟩
      · have HA := Lib.hid (any_take (q := fun o => !nvB o) (by rw [HL.out]; exact hlt) HNO.out (by simp only [hv]; rfl))
        rw [hv] at HC
        clear hv
        generalize xs.getD k 0 = y at *
        go_wp2_with fail
        refine HC.out.mono ?_
        rintro e w' ⟨rfl, rfl⟩
        go_wp2_with fail
        go_round
        case rel => exact ⟨k + 1, by omega, by go_num, HA.out⟩
        case measure => simp [intOf]; omega
    · obtain rfl : k = n := by omega
      have hall := HNO.out
      rw [List.take_of_length_le (by rw [HL.out]; omega)] at hall
      have HA := Lib.hid hall; clear hall
      go_wp2_with fail
      go_ret
      exact ⟨-1, rfl, by rw [HA.out]; simp, by omega, by omega, rfl⟩
theorem containsFit_no {w : World} {q : Option Addr} (H : NoHp w (.pointer q)) (gb : Nat) (hb : w.cell? ⟨gb, 0, none⟩ = some (.pointer q)) (A : Option Addr) (n c B : Nat) (xs : List Nat) (hn : n ≤ 9223372036854775807)
    (hr : Reads w B 1 A n (u32s xs)) (h32 : ∀ x ∈ xs, x < 4294967296) :
    Calls Tryd.prog 70 #[.slice A n c, fitFn gb] w fun e w' => e = .returned (.bool (xs.any fun o => !nvB o)) ∧ w = w' := by
  have HC := Lib.hid (indexFit_no H gb hb A n c B xs hn hr h32)
  clear H hb hr h32
  unfold fitFn at HC ⊢
  go_enter Tryd.func70, Tryd.ntmps70
  go_wp2_with fail
  refine HC.out.mono ?_
  rintro e w' ⟨j, rfl, hj, hlo, hhi, rfl⟩
  have HJ := Lib.hid hj; clear hj
  go_wp2_with fail
  go_ret
  exact ⟨by rw [← HJ.out]; rfl, rfl⟩
/-- Whether beginnings are values of a heap. -/
def nfitsB (fr : List Nat) : Bool := !(fr.any fun o => !nvB o)
theorem cfits_no {w : World} {q : Option Addr} (H : NoHp w (.pointer q)) (A : Option Addr) (n c : Nat) (xs : List Nat) (hn : n ≤ 9223372036854775807) (hr : Reads w w.heap.size 1 A n (u32s xs)) (h32 : ∀ x ∈ xs, x < 4294967296) :
    Calls Tryd.prog 34 #[.pointer q, .slice A n c] w (Told (.bool (nfitsB xs)) w) := by
  have hb0 := (Below.refl w.heap.size w).alloc (Nat.le_refl _) (.cells #[.pointer q] 27)
  have HC := Lib.hid (containsFit_no (H.below hb0) w.heap.size ((Blk.new w 27 #[.pointer q]).cell 0) A n c w.heap.size xs hn (hr.alloc (Nat.le_refl _) _) h32)
  have HB := Lib.hid hb0
  unfold nfitsB
  generalize (xs.any fun o => !nvB o) = b at *
  clear H hr h32 hb0
  unfold fitFn at HC
  go_enter Tryd.func34, Tryd.ntmps34
  go_wp2_with fail
  refine HC.out.mono ?_
  rintro e w' ⟨rfl, rfl⟩
  go_wp2_with fail
  go_ret
  exact ⟨rfl, HB.out⟩
set_option maxRecDepth 100000 in
set_option maxHeartbeats 4000000 in
theorem follow_no {w : World} {q : Option Addr} (N : NoHp w (.pointer q)) (o : Nat) (ho : o < 4294967296) (ad : Addr) (c : Nat) (x : Int) (hc : w.cell? ad = some (.int .i64 x)) :
    Calls Tryd.prog 17 #[.pointer q, .int .u32 o, .slice (some ad) 1 c] w (Told (.tuple #[.int .u32 0, .int .i64 3]) w) := by
  have HN := Lib.hid N
  have hb0 : Below w.heap.size w (w.alloc (.cells #[.int .u32 o] 50)) := (Below.refl _ _).alloc (Nat.le_refl _) _
  have HFT := Lib.hid (cfits_no (HN.out.below hb0) (some ⟨w.heap.size, 0, none⟩) 1 1 [o] (by omega) ⟨rfl, fun _ => ⟨_, rfl, by simp, cell_one_new _ _ _⟩⟩ (fun x hx => by simp at hx; omega))
  have HB0 := Lib.hid hb0
  have HC := Lib.hid hc
  clear N hb0 hc
  cases hfit : nfitsB [o]
  · rw [hfit] at HFT
    clear hfit
    go_enter Tryd.func17, Tryd.ntmps17
    go_wp2_with fail
    refine HFT.out.mono ?_
    rintro e w1 ⟨rfl, hb1⟩
    have HB1 := Lib.hid (below_top HB0.out hb1)
    go_wp2_with fail
    go_ret2
    exact ⟨rfl, HB1.out⟩
  · rw [hfit] at HFT
    clear hfit
    go_enter Tryd.func17, Tryd.ntmps17
    go_wp2_with fail
    refine HFT.out.mono ?_
    rintro e w1 ⟨rfl, hb1⟩
    have HB1 := Lib.hid (below_top HB0.out hb1)
    clear HFT HB0 hb1
    go_wp2_with fail
    go_loopw [1, 19] (fun v i wr => i = .int .i64 0 ∧ v = .int .u32 o ∧ Below w.heap.size w wr) (fun _ i _ => 1 - (intOf i).toNat)
    case atStart => exact ⟨rfl, rfl, HB1.out⟩
    case round =>
      clear HB1
      obtain ⟨rfl, rfl, hb⟩ := hrel
      have HB := Lib.hid hb
      have HHD := Lib.hid (header_no (HN.out.below hb) o ho)
      have hcell := hb.cell (World.block_lt_of_cell? _ _ HC.out)
      rw [HC.out] at hcell
      have hlt : (0 : Int) < ((1 : Nat) : Int) := by decide
      have h01 : (0 : Nat) < 1 := by decide
      clear hb
      go_wp2_with fail
      refine HHD.out.mono ?_
      rintro e w2 ⟨rfl, hb2⟩
      have HB2 := Lib.hid ((below_top HB.out hb2).alloc (below_top HB.out hb2).size (.cells #[.int .i64 0, .int .i64 0, .int .i64 0, .int .u32 0, .int .u32 0] 55))
      go_wp2_with fail
      go_ret2
      exact ⟨rfl, HB2.out⟩
end Go.Proofs.YtpajpdjjpgbklaaDoor

namespace Go.Proofs.YtpajpdjjpgbklaaDoor
open Go.RowKit
attribute [local go_sem] Oper.semAt_some

theorem fld3 : ∀ (a b c d e : Value) (w : World), (Instr.field 55 (.agg #[a, b, c, d, e]) 3).run Tryd.prog w = .ok d w := fun a b c d e w => by kernel_rfl
theorem fits_one (h : HM) (o : Nat) : h.fitsB [o] = !(decide (kindM o = 2) && !h.isB o) := by
  unfold HM.fitsB
  simp [not_valB]
set_option maxRecDepth 100000 in
set_option maxHeartbeats 4000000 in
theorem rfollow_any {w : World} {p : HP} {h : HM} (H : RAt w p h) (f : h.Fit) (hh : h.Heads) (o : Nat) (ho : o < 4294967296) (A : Option Addr) (n c : Nat) (path : List Int) (hn : n ≤ 9223372036854775807) (hr : Reads w w.heap.size 1 A n (intZ path)) (h63 : ∀ x ∈ path, x ≤ 9223372036854775807) :
    Calls Tryd.prog 23 #[ptr p.g, .int .u32 o, .slice A n c] w (Told (.tuple #[.int .u32 ((h.followM o path).1 : Nat), .int .i64 ((h.followM o path).2 : Nat)]) w) := by
  have hl : path.length = n := by have := hr.1; rw [intZ_len] at this; omega
  have HL := Lib.hid hl; have HR := Lib.hid hr; have HH := Lib.hid H; have HX := Lib.hid h63
  have HK := Lib.hid (rkind_any o ho w)
  have HI := Lib.hid (ris_any H f o ho)
  have HB1 := Lib.hid (Below.refl w.heap.size w)
  have hfld := fld3
  clear hl hr H h63
  unfold ptr at HI
  unfold ptr
  cases hfit : h.fitsB [o]
  · have HF := Lib.hid (show h.followM o path = (0, 3) by unfold HM.followM; rw [hfit]; rfl)
    rw [fits_one] at hfit
    have hk : kindM o = 2 ∧ h.isB o = false := by simpa using hfit
    rw [hk.1] at HK
    rw [hk.2] at HI
    clear hfit hk
    go_enter Tryd.func23, Tryd.ntmps23
    go_wp2_with fail
    refine HK.out.mono ?_
    rintro e w1 ⟨rfl, rfl⟩
    go_wp2_with fail
    refine HI.out.mono ?_
    rintro e w1 ⟨rfl, rfl⟩
    go_wp2_with fail
    go_ret2
    exact ⟨by rw [HF.out]; rfl, HB1.out⟩
  · have HF := Lib.hid (show h.followM o path = h.followS o path by unfold HM.followM; rw [hfit]; rfl)
    have HFT := Lib.hid hfit
    clear hfit
    go_enter Tryd.func23, Tryd.ntmps23
    go_upto_region 1 with fail
    go_cut [24] (fun v wx => v = .bool false ∧ wx = w)
    case first =>
      by_cases hk : kindM o = 2
      · have hb := HFT.out
        rw [fits_one, hk] at hb
        have hb2 : h.isB o = true := by simpa using hb
        rw [hk] at HK
        rw [hb2] at HI
        clear hb hb2 hk
        go_wp2_with fail
        refine HK.out.mono ?_
        rintro e w1 ⟨rfl, rfl⟩
        go_wp2_with fail
        refine HI.out.mono ?_
        rintro e w1 ⟨rfl, rfl⟩
        go_wp2_with fail
        go_meet
        exact ⟨rfl, rfl⟩
      · have e2 : ((kindM o : Int) == 2) = false := by simp; omega
        generalize kindM o = kk at *
        clear hk
        go_wp2_with fail
        refine HK.out.mono ?_
        rintro e w1 ⟨rfl, rfl⟩
        go_wp2_with fail
        go_meet
        exact ⟨rfl, rfl⟩
    case rest =>
    obtain ⟨rfl, rfl⟩ := hcut
    clear HK HI
    go_wp2_with fail
    go_loopw [1, 27] (fun v i wr => ∃ (k q : Nat), k ≤ n ∧ i = .int .i64 k ∧ v = .int .u32 (q : Nat) ∧ q < 4294967296 ∧ h.followS q (path.drop k) = h.followS o path ∧ Below wc.heap.size wc wr) (fun _ i _ => n - (intOf i).toNat)
    case atStart => exact ⟨0, o, by omega, rfl, rfl, ho, rfl, HB1.out⟩
    case round =>
      clear HB1
      obtain ⟨k, q, hk, rfl, rfl, hq, hfo, hb⟩ := hrel
      have HFO := Lib.hid hfo
      have HB := Lib.hid hb
      by_cases hlt : k < n
      · obtain ⟨ad, u0, rfl, _, hx, hcell⟩ := (HR.out.below hb).at_ hlt
        have hkl : k < path.length := by rw [HL.out]; exact hlt
        rw [intZ_get hkl] at hx
        injection hx with hx
        subst hx
        have HDR := Lib.hid (drop_at hkl)
        have hx63 : path.getD k 0 ≤ 9223372036854775807 := by
          rw [List.getD_eq_getElem?_getD, List.getElem?_eq_getElem hkl]
          exact HX.out _ (List.getElem_mem _)
        have HIS := Lib.hid (ris_any (HH.out.below hb) f q hq)
        have HGT := Lib.hid (rget_any (HH.out.below hb) f hh q hq (path.getD k 0) hx63)
        have HHD := Lib.hid (fun hd => rheader_any (HH.out.below hb) f q hq hd)
        generalize path.getD k 0 = x at *
        unfold ptr at HIS HHD HGT
        clear hfo hb hkl hx63
        cases hi : h.isB q
        · rw [hi] at HIS
          have HNO := Lib.hid (show h.followS o path = (0, 3) by rw [← HFO.out, HDR.out, followS_no hi])
          clear hi
          go_wp2_with fail
          refine HIS.out.mono ?_
          rintro e w2 ⟨rfl, rfl⟩
          go_wp2_with fail
          go_ret2
          exact ⟨by rw [HF.out, HNO.out]; rfl, HB.out⟩
        · rw [hi] at HIS
          have HHD := Lib.hid (HHD.out (HM.isB_hd hh hi))
          have hcl := (HM.hd_fit f (q / 2)).cls
          unfold Hd.val at HHD
          by_cases h1 : x = -1
          · subst h1
            have HNX := Lib.hid (show h.followS (h.hd (q / 2)).cls (path.drop (k + 1)) = h.followS o path by rw [← HFO.out, HDR.out, followS_cls hi])
            clear hi
            generalize h.hd (q / 2) = X at *
            go_wp2_with fail
            refine HIS.out.mono ?_
            rintro e w2 ⟨rfl, rfl⟩
            go_wp2_with fail
            refine HHD.out.mono ?_
            rintro e w2 ⟨rfl, hb2⟩
            have HB2 := Lib.hid (below_top HB.out hb2)
            go_wp2_with fail
            go_roundw
            case rel => exact ⟨k + 1, X.cls, by omega, by go_num, rfl, hcl, HNX.out, HB2.out⟩
            case measure => simp [intOf]; omega
          · have e1 : (x == -1) = false := by simpa using h1
            by_cases he : h.lookE q x [1, 4] = 0
            · have HNX := Lib.hid (show h.followS (fw h q x.toNat) (path.drop (k + 1)) = h.followS o path by rw [← HFO.out, HDR.out, followS_get hi h1 he])
              have hfw : fw h q x.toNat < 4294967296 := f.w _
              rw [show h.readN q x [1, 4] = fw h q x.toNat by unfold HM.readN; rw [if_pos he], he] at HGT
              clear hi h1 he
              generalize fw h q x.toNat = y at *
              go_wp2_with fail
              refine HIS.out.mono ?_
              rintro e w2 ⟨rfl, rfl⟩
              go_wp2_with fail
              refine HGT.out.mono ?_
              rintro e w3 ⟨rfl, hb3⟩
              have HB3 := Lib.hid (below_top HB.out hb3)
              go_wp2_with fail
              go_roundw
              case rel => exact ⟨k + 1, y, by omega, by go_num, rfl, hfw, HNX.out, HB3.out⟩
              case measure => simp [intOf]; omega
            · have HNX := Lib.hid (show h.followS o path = (0, h.lookE q x [1, 4]) by rw [← HFO.out, HDR.out, followS_err hi h1 he])
              have hel := HM.lookE_lt h q x [1, 4]
              have e2 : ((h.lookE q x [1, 4] : Int) != 0) = true := by simp; omega
              clear hi h1
              generalize h.readN q x [1, 4] = y at *
              generalize h.lookE q x [1, 4] = E at *
              go_wp2_with fail
              refine HIS.out.mono ?_
              rintro e w2 ⟨rfl, rfl⟩
              go_wp2_with fail
              refine HGT.out.mono ?_
              rintro e w3 ⟨rfl, hb3⟩
              have HB3 := Lib.hid (below_top HB.out hb3)
              go_wp2_with fail
              go_ret2
              exact ⟨by rw [HF.out, HNX.out]; rfl, HB3.out⟩
      · obtain rfl : k = n := by omega
        have HEN := Lib.hid (show h.followS o path = (q, 0) by
          rw [← hfo, List.drop_eq_nil_of_le (by rw [HL.out]; exact Nat.le_refl _)]; rfl)
        clear hfo hb
        go_wp2_with fail
        go_ret2
        exact ⟨by rw [HF.out, HEN.out]; rfl, HB.out⟩
end Go.Proofs.YtpajpdjjpgbklaaDoor
