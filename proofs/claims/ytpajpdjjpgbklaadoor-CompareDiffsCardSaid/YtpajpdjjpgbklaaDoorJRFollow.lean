/- The document's Follow. -/
/- The document's words: an object's fields as words. -/
import Derived.Test.YtpajpdjjpgbklaaDoorJFollow
import Derived.Test.YtpajpdjjpgbklaaDoorJRefE
import Derived.Lib.QuietBelow
set_option linter.unusedVariables false
set_option linter.unusedSimpArgs false
set_option linter.unusedSectionVars false
namespace Go.Proofs.YtpajpdjjpgbklaaDoor
open Go.RowKit
attribute [local go_sem] Oper.semAt_some

theorem fld3 : ∀ (a b c d e : Value) (w : World), (Instr.field 55 (.agg #[a, b, c, d, e]) 3).run Tryd.prog w = .ok d w := fun a b c d e w => by kernel_rfl
theorem fits_one (h : HM) (o : Nat) : h.fitsB [o] = !(decide (kindM o = 2) && !h.isB o) := by
  unfold HM.fitsB
  simp [not_valB]
set_option maxRecDepth 100000 in
set_option maxHeartbeats 4000000 in
theorem rfollow_any {w : World} {p : HP} {h : HM} (H : RAt w p h) (f : h.Fit) (hh : h.Heads) (o : Nat) (ho : o < 4294967296) (A : Option Addr) (n c : Nat) (path : List Int) (hn : n ≤ 9223372036854775807) (hr : Reads w w.heap.size 1 A n (intZ path)) (h63 : ∀ x ∈ path, x ≤ 9223372036854775807) :
    Calls Tryd.prog 23 #[ptr p.g, .int .u32 o, .slice A n c] w (Told (.tuple #[.int .u32 ((h.followM o path).1 : Nat), .int .i64 ((h.followM o path).2 : Nat)]) w) := by
  have hl : path.length = n := by have := hr.1; rw [intZ_len] at this; omega
  have HL := Lib.hid hl; have HR := Lib.hid hr; have HH := Lib.hid H; have HX := Lib.hid h63
  have HK := Lib.hid (rkind_any o ho w)
  have HI := Lib.hid (ris_any H f o ho)
  have HB1 := Lib.hid (Below.refl w.heap.size w)
  have hfld := fld3
  clear hl hr H h63
  unfold ptr at HI
  unfold ptr
  cases hfit : h.fitsB [o]
  · have HF := Lib.hid (show h.followM o path = (0, 3) by unfold HM.followM; rw [hfit]; rfl)
    rw [fits_one] at hfit
    have hk : kindM o = 2 ∧ h.isB o = false := by simpa using hfit
    rw [hk.1] at HK
    rw [hk.2] at HI
    clear hfit hk
    go_enter Tryd.func23, Tryd.ntmps23
    go_wp2_with fail
    refine HK.out.mono ?_
    rintro e w1 ⟨rfl, rfl⟩
    go_wp2_with fail
    refine HI.out.mono ?_
    rintro e w1 ⟨rfl, rfl⟩
    go_wp2_with fail
    go_ret2
    exact ⟨by rw [HF.out]; rfl, HB1.out⟩
  · have HF := Lib.hid (show h.followM o path = h.followS o path by unfold HM.followM; rw [hfit]; rfl)
    have HFT := Lib.hid hfit
    clear hfit
    go_enter Tryd.func23, Tryd.ntmps23
    go_upto_region 1 with fail
    go_cut [24] (fun v wx => v = .bool false ∧ wx = w)
    case first =>
      by_cases hk : kindM o = 2
      · have hb := HFT.out
        rw [fits_one, hk] at hb
        have hb2 : h.isB o = true := by simpa using hb
        rw [hk] at HK
        rw [hb2] at HI
        clear hb hb2 hk
        go_wp2_with fail
        refine HK.out.mono ?_
        rintro e w1 ⟨rfl, rfl⟩
        go_wp2_with fail
        refine HI.out.mono ?_
        rintro e w1 ⟨rfl, rfl⟩
        go_wp2_with fail
        go_meet
        exact ⟨rfl, rfl⟩
      · have e2 : ((kindM o : Int) == 2) = false := by simp; omega
        generalize kindM o = kk at *
        clear hk
        go_wp2_with fail
        refine HK.out.mono ?_
        rintro e w1 ⟨rfl, rfl⟩
        go_wp2_with fail
        go_meet
        exact ⟨rfl, rfl⟩
    case rest =>
    obtain ⟨rfl, rfl⟩ := hcut
    clear HK HI
    go_wp2_with fail
    go_loopw [1, 27] (fun v i wr => ∃ (k q : Nat), k ≤ n ∧ i = .int .i64 k ∧ v = .int .u32 (q : Nat) ∧ q < 4294967296 ∧ h.followS q (path.drop k) = h.followS o path ∧ Below wc.heap.size wc wr) (fun _ i _ => n - (intOf i).toNat)
    case atStart => exact ⟨0, o, by omega, rfl, rfl, ho, rfl, HB1.out⟩
    case round =>
      clear HB1
      obtain ⟨k, q, hk, rfl, rfl, hq, hfo, hb⟩ := hrel
      have HFO := Lib.hid hfo
      have HB := Lib.hid hb
      by_cases hlt : k < n
      · obtain ⟨ad, u0, rfl, _, hx, hcell⟩ := (HR.out.below hb).at_ hlt
        have hkl : k < path.length := by rw [HL.out]; exact hlt
        rw [intZ_get hkl] at hx
        injection hx with hx
        subst hx
        have HDR := Lib.hid (drop_at hkl)
        have hx63 : path.getD k 0 ≤ 9223372036854775807 := by
          rw [List.getD_eq_getElem?_getD, List.getElem?_eq_getElem hkl]
          exact HX.out _ (List.getElem_mem _)
        have HIS := Lib.hid (ris_any (HH.out.below hb) f q hq)
        have HGT := Lib.hid (rget_any (HH.out.below hb) f hh q hq (path.getD k 0) hx63)
        have HHD := Lib.hid (fun hd => rheader_any (HH.out.below hb) f q hq hd)
        generalize path.getD k 0 = x at *
        unfold ptr at HIS HHD HGT
        clear hfo hb hkl hx63
        cases hi : h.isB q
        · rw [hi] at HIS
          have HNO := Lib.hid (show h.followS o path = (0, 3) by rw [← HFO.out, HDR.out, followS_no hi])
          clear hi
          go_wp2_with fail
          refine HIS.out.mono ?_
          rintro e w2 ⟨rfl, rfl⟩
          go_wp2_with fail
          go_ret2
          exact ⟨by rw [HF.out, HNO.out]; rfl, HB.out⟩
        · rw [hi] at HIS
          have HHD := Lib.hid (HHD.out (HM.isB_hd hh hi))
          have hcl := (HM.hd_fit f (q / 2)).cls
          unfold Hd.val at HHD
          by_cases h1 : x = -1
          · subst h1
            have HNX := Lib.hid (show h.followS (h.hd (q / 2)).cls (path.drop (k + 1)) = h.followS o path by rw [← HFO.out, HDR.out, followS_cls hi])
            clear hi
            generalize h.hd (q / 2) = X at *
            go_wp2_with fail
            refine HIS.out.mono ?_
            rintro e w2 ⟨rfl, rfl⟩
            go_wp2_with fail
            refine HHD.out.mono ?_
            rintro e w2 ⟨rfl, hb2⟩
            have HB2 := Lib.hid (below_top HB.out hb2)
            go_wp2_with fail
            go_roundw
            case rel => exact ⟨k + 1, X.cls, by omega, by go_num, rfl, hcl, HNX.out, HB2.out⟩
            case measure => simp [intOf]; omega
          · have e1 : (x == -1) = false := by simpa using h1
            by_cases he : h.lookE q x [1, 4] = 0
            · have HNX := Lib.hid (show h.followS (fw h q x.toNat) (path.drop (k + 1)) = h.followS o path by rw [← HFO.out, HDR.out, followS_get hi h1 he])
              have hfw : fw h q x.toNat < 4294967296 := f.w _
              rw [show h.readN q x [1, 4] = fw h q x.toNat by unfold HM.readN; rw [if_pos he], he] at HGT
              clear hi h1 he
              generalize fw h q x.toNat = y at *
              go_wp2_with fail
              refine HIS.out.mono ?_
              rintro e w2 ⟨rfl, rfl⟩
              go_wp2_with fail
              refine HGT.out.mono ?_
              rintro e w3 ⟨rfl, hb3⟩
              have HB3 := Lib.hid (below_top HB.out hb3)
              go_wp2_with fail
              go_roundw
              case rel => exact ⟨k + 1, y, by omega, by go_num, rfl, hfw, HNX.out, HB3.out⟩
              case measure => simp [intOf]; omega
            · have HNX := Lib.hid (show h.followS o path = (0, h.lookE q x [1, 4]) by rw [← HFO.out, HDR.out, followS_err hi h1 he])
              have hel := HM.lookE_lt h q x [1, 4]
              have e2 : ((h.lookE q x [1, 4] : Int) != 0) = true := by simp; omega
              clear hi h1
              generalize h.readN q x [1, 4] = y at *
              generalize h.lookE q x [1, 4] = E at *
              go_wp2_with fail
              refine HIS.out.mono ?_
              rintro e w2 ⟨rfl, rfl⟩
              go_wp2_with fail
              refine HGT.out.mono ?_
              rintro e w3 ⟨rfl, hb3⟩
              have HB3 := Lib.hid (below_top HB.out hb3)
              go_wp2_with fail
              go_ret2
              exact ⟨by rw [HF.out, HNX.out]; rfl, HB3.out⟩
      · obtain rfl : k = n := by omega
        have HEN := Lib.hid (show h.followS o path = (q, 0) by
          rw [← hfo, List.drop_eq_nil_of_le (by rw [HL.out]; exact Nat.le_refl _)]; rfl)
        clear hfo hb
        go_wp2_with fail
        go_ret2
        exact ⟨by rw [HF.out, HEN.out]; rfl, HB.out⟩
end Go.Proofs.YtpajpdjjpgbklaaDoor

namespace Go.Proofs.YtpajpdjjpgbklaaDoor
open Go.RowKit
attribute [local go_sem] Oper.semAt_some

theorem slice_lh (wx : World) (ad : Addr) (n c l h : Nat) (h1 : l ≤ h) (h2 : h ≤ c) :
    (Instr.slice 22 (.slice (some ad) n c) (some (.int .i64 (l : Int))) (some (.int .i64 (h : Int))) none).run Tryd.prog wx = .ok (.slice (if c = l then some ad else some (ad.add l)) (h - l) (c - l)) wx := by
  have he : Program.elem Tryd.prog 22 = 24 := by simp [Program.elem, Tryd.underlying22]
  have hz : ∀ w, (Go.sizeOf 24).run Tryd.prog w = .ok 1 w := fun w => by go_simp
  rw [run_slice_lh (P := Tryd.prog) wx 22 (some ad) n c (by rw [he]; exact Tryd.underlying22) .i64 .i64 l h (by omega) (by omega) (by omega), he, hz]
  simp only [Result.andThen, sliced]
  simp
def fieldsW (h : HM) (o k : Nat) : List Nat := (List.range k).map (fw h o)
theorem fieldsW_len (h : HM) (o k : Nat) : (fieldsW h o k).length = k := by simp [fieldsW]
theorem fieldsW_get {h : HM} {o k i : Nat} (hi : i < k) : (fieldsW h o k).getD i 0 = fw h o i := by
  rw [List.getD_eq_getElem?_getD, List.getElem?_eq_getElem (by rw [fieldsW_len]; exact hi)]
  simp [fieldsW]
/-- Where an object's words lie. -/
def wordsA (p : HP) (o : Nat) : Option Addr := if p.cw = o / 2 + 3 then some ⟨p.gw, 0, none⟩ else some ((⟨p.gw, 0, none⟩ : Addr).add (o / 2 + 3))
def WordsP (p : HP) (h : HM) (o : Nat) (w : World) (e : Ending) (w' : World) : Prop :=
  Told (.slice (wordsA p o) (h.hd (o / 2)).size (p.cw - (o / 2 + 3))) w e w'
theorem words_reads {w : World} {p : HP} {h : HM} (H : RAt w p h) (o : Nat) (hd : h.hdAt (o / 2)) :
    o / 2 + 3 + (h.hd (o / 2)).size ≤ p.cw ∧ Reads w w.heap.size 1 (wordsA p o) (h.hd (o / 2)).size (u32s (fieldsW h o (h.hd (o / 2)).size)) := by
  have h1 := hd.1
  have h2 : h.words.length ≤ p.cw := by
    obtain ⟨cur, _, h3, _⟩ := H.2.1
    rw [u32s_len] at h3
    exact h3
  refine ⟨by omega, by rw [u32s_len, fieldsW_len]; omega, fun hn => ?_⟩
  unfold wordsA
  rw [if_neg (by omega)]
  refine ⟨_, rfl, H.2.1.lt, fun j u hu => ?_⟩
  have hj : j < (h.hd (o / 2)).size := by
    have := (List.getElem?_eq_some_iff.1 hu).1
    rw [u32s_len, fieldsW_len] at this
    exact this
  rw [add_of_add, WideShapes.add_plain, Nat.zero_add]
  refine H.2.1.cell ?_
  rw [← hu, u32s_get (by omega), u32s_get (by rw [fieldsW_len]; exact hj), fieldsW_get hj]
  rfl
set_option maxRecDepth 100000 in
set_option maxHeartbeats 4000000 in
theorem rwords_any {w : World} {p : HP} {h : HM} (H : RAt w p h) (f : h.Fit) (o : Nat) (ho : o < 4294967296) (hd : h.hdAt (o / 2)) :
    Calls Tryd.prog 41 #[ptr p.g, .int .u32 o] w (WordsP p h o w) := by
  obtain ⟨hc, hrd⟩ := words_reads H o hd
  have HRD := Lib.hid hrd
  have HHD := Lib.hid (fun (d : Nat) (os : Array Obj) => rheader_any (H.below (below_regrown w d os)) f o ho hd)
  have c1 := H.c1
  have hfld := fld0
  have hsl := fun (wx : World) => slice_lh wx ⟨p.gw, 0, none⟩ h.words.length p.cw (o / 2 + 3) (o / 2 + 3 + (h.hd (o / 2)).size) (by omega) hc
  have hT : (if p.cw = o / 2 + 3 then some (⟨p.gw, 0, none⟩ : Addr) else some ((⟨p.gw, 0, none⟩ : Addr).add (o / 2 + 3))) = wordsA p o := rfl
  rw [hT] at hsl
  clear hT
  unfold WordsP
  unfold Hd.val at HHD
  unfold ptr at HHD ⊢
  have hsz := (HM.hd_fit f (o / 2)).size
  generalize h.hd (o / 2) = X at *
  have hw : IntKind.i64.wrap ((o : Int) / 2 + 3 + (X.size : Int)) = (o : Int) / 2 + 3 + (X.size : Int) := IntWalk.i64_in _ (by omega)
  rw [show ((o / 2 + 3 : Nat) : Int) = (o : Int) / 2 + 3 by omega, show ((o / 2 + 3 + X.size : Nat) : Int) = (o : Int) / 2 + 3 + (X.size : Int) by omega, Nat.add_sub_cancel_left] at hsl
  clear H hd hrd hsz
  go_enter Tryd.func41, Tryd.ntmps41
  go_upto_region 2 with fail
  replace c1 := cell_regrown c1
  refine wp_region_quiet_below (by kernel_rfl) (by kernel_rfl) ?_
  repeat (quiet_step ((go_at_call 39; exact Calls.regrown_of (HHD.out _ _))))
  refine wpQuiet_nil ?_
  intro wq hwq
  obtain ⟨⟨dq, osq⟩, hw''⟩ := hwq
  subst hw''
  have hbq := below_regrown w dq osq
  have HFIN := Lib.hid (And.intro (HRD.out.below hbq) hbq)
  clear c1 hsl HHD hbq hw
  generalize Go.Sort.grow (redrawn w dq) osq = w5 at *
  go_wp2_with fail
  go_ret
  exact ⟨rfl, HFIN.out.2⟩
end Go.Proofs.YtpajpdjjpgbklaaDoor
