/- The document's Walk: the objects of a graph, in the order in which they are met. -/
import Derived.Test.YtpajpdjjpgbklaaDoorJFollow
import Derived.Test.YtpajpdjjpgbklaaDoorJWalkK
import Derived.Test.YtpajpdjjpgbklaaDoorJSeen
set_option linter.unusedVariables false
set_option linter.unusedSimpArgs false
namespace Go.Proofs.YtpajpdjjpgbklaaDoor
open Go.RowKit Go.Maps
attribute [local go_sem] Oper.semAt_some

theorem RStep.own {w w' : World} {B gX mB : Nat} {vl vl' : Value} {l : List Nd} (G : RG w B gX mB vl l) (s : RStep w w' gX mB vl vl') {base sz n : Nat} {t : TypeId} {v : Value} {xs : List Value} (h : w.ownsRow base t sz v n xs) (h1 : t ≠ 105) (h2 : 108 ≠ t) : w'.ownsRow base t sz v n xs :=
  own_sameS h (fun k hk => by
    obtain ⟨cs, b⟩ := own_blk h hk
    exact s.block k b.lt (blk_ne_blk b G.box h1) (blk_ne_mapI b G.num) (own_ne_blkS G.row b h2))
/-- The document's new graph. -/
theorem RG.made {W w : World} (hb : Below W.heap.size W w) :
    RG ((w.alloc (.map #[] 0)).alloc (.cells #[.slice none 0 0, .map (some w.heap.size)] 105)) W.heap.size (w.heap.size + 1) w.heap.size (.slice none 0 0) [] := by
  have h0 := hb.size
  refine ⟨?_, ⟨rfl, .inl ⟨rfl, rfl⟩⟩, ?_, by omega, by omega, by simp; omega⟩
  · have := Blk.new (w.alloc (.map #[] 0)) 105 #[.slice none 0 0, .map (some w.heap.size)]
    rw [World.size_alloc] at this
    exact this
  · have h1 : MapInt 3 (w.alloc (.map #[] 0)) w.heap.size 0 (numF []) := by
      have := MapInt.made w 3
      exact this
    exact h1.below ((Below.refl _ _).alloc (Nat.le_refl _) _)
/-- What Walk answers. -/
def RWalkP (h : HM) (fr : List Nat) (w : World) (e : Ending) (w' : World) : Prop :=
  Below w.heap.size w w' ∧ ((h.fitsB fr = false ∧ e = .returned (.tuple #[.slice none 0 0, .int .i64 3])) ∨
    (h.fitsB fr = true ∧ seenM h.nmN h.nmAt fr = none ∧ e = .returned (.tuple #[.slice none 0 0, .int .i64 2])) ∨
    (h.fitsB fr = true ∧ ∃ l A c, seenM h.nmN h.nmAt fr = some l ∧ GWell h l ∧ e = .returned (.tuple #[.slice A l.length c, .int .i64 0]) ∧ MetsAt w' w'.heap.size A l))
set_option maxRecDepth 100000 in
set_option maxHeartbeats 8000000 in
theorem rwalk_any {w : World} {p : HP} {h : HM} {ls : List Ob} (H : RAt w p h) (G : h.Good ls) (A : Option Addr) (n c : Nat) (fr : List Nat) (hn : n ≤ 9223372036854775807) (hr : Reads w w.heap.size 1 A n (u32s fr)) (h32 : ∀ x ∈ fr, x < 4294967296) :
    Calls Tryd.prog 37 #[ptr p.g, .slice A n c] w (RWalkP h fr w) := by
  have f := G.fit
  have hh := G.laid.heads
  have hl : fr.length = n := by have := hr.1; rw [u32s_len] at this; omega
  have HL := Lib.hid hl; have HR := Lib.hid hr; have HX := Lib.hid h32; have HH := Lib.hid H
  have HRP := Lib.hid (show ∀ e w', RWalkP h fr w e w' ↔ RWalkP h fr w e w' from fun _ _ => Iff.rfl)
  clear hl hr h32 H
  unfold ptr
  go_enter Tryd.func37, Tryd.ntmps37
  have hmm := @run_makeMap Tryd.prog
  go_wp2_with fail
  clear hmm
  have HG0 := Lib.hid (RG.made (Below.refl w.heap.size w))
  have HB0 := Lib.hid (((Below.refl w.heap.size w).alloc (Nat.le_refl _) (.map #[] 0)).alloc (by simp) (.cells #[.slice none 0 0, .map (some w.heap.size)] 105))
  generalize (w.alloc (.map #[] 0)).alloc (.cells #[.slice none 0 0, .map (some w.heap.size)] 105) = w0 at *
  go_loopw [17] (fun i wr => ∃ k : Nat, k ≤ n ∧ i = .int .i64 k ∧ (∃ vl, RG wr w.heap.size (w.heap.size + 1) w.heap.size vl (meetF fr k)) ∧ Below w.heap.size w wr ∧ (∀ x ∈ oopsOf (meetF fr k), h.isB x = true) ∧ (fr.take k).any (fun o => !h.valB o) = false) (fun i _ => n - (intOf i).toNat)
  case atStart => exact ⟨0, by omega, rfl, ⟨_, HG0.out⟩, HB0.out, fun x hx => by simp [meetF, oopsOf] at hx, by simp⟩
  case round =>
    clear HG0 HB0
    obtain ⟨k, hk, rfl, ⟨vl, hG⟩, hB, hisb, hno⟩ := hrel
    have HG := Lib.hid hG
    have HB := Lib.hid hB
    have HI := Lib.hid hisb
    have HNO := Lib.hid hno
    have hll := graph_bound f (meetF_nodup fr k) hisb
    clear hG hB hisb hno
    by_cases hlt : k < n
    · obtain ⟨ad, u0, rfl, hblk, hx, hcell⟩ := (HR.out.below HB.out).at_ hlt
      rw [u32s_get (by rw [HL.out]; exact hlt)] at hx
      injection hx with hx
      subst hx
      have hmem : fr.getD k 0 ∈ fr := by
        rw [List.getD_eq_getElem?_getD, List.getElem?_eq_getElem (by rw [HL.out]; exact hlt)]
        exact List.getElem_mem _
      have ho := HX.out _ hmem
      have HPU := Lib.hid (fun wp (G : RG wp w.heap.size (w.heap.size + 1) w.heap.size vl (meetF fr k)) => wput_any G (fr.getD k 0) ho (-1) (k : Int) 1 (by omega))
      rw [show meetN (meetF fr k) (fr.getD k 0) (-1) (k : Int) 1 = meetF fr (k + 1) from rfl] at HPU
      have HK := Lib.hid (fun wq => rkind_any (fr.getD k 0) ho wq)
      have HIS := Lib.hid (ris_any (HH.out.below HB.out) f (fr.getD k 0) ho)
      have HVB := Lib.hid (not_valB h (fr.getD k 0))
      have HMT := Lib.hid (show kindM (fr.getD k 0) = 2 → h.isB (fr.getD k 0) = true → ∀ x ∈ oopsOf (meetF fr (k + 1)), h.isB x = true from fun h1 h2 => meetN_all HI.out (fun _ => h2) _ _ _)
      have HMF := Lib.hid (show kindM (fr.getD k 0) ≠ 2 → ∀ x ∈ oopsOf (meetF fr (k + 1)), h.isB x = true from fun h1 => meetN_all HI.out (fun h2 => absurd h2 h1) _ _ _)
      have HAT := Lib.hid (fun (hv : (!h.valB (fr.getD k 0)) = true) => any_at (q := fun o => !h.valB o) (xs := fr) (k := k) (by rw [HL.out]; exact hlt) hv)
      have HTK := Lib.hid (fun (hv : (!h.valB (fr.getD k 0)) = false) => any_take (q := fun o => !h.valB o) (xs := fr) (k := k) (by rw [HL.out]; exact hlt) HNO.out hv)
      clear hmem hll
      generalize fr.getD k 0 = y at *
      unfold ptr at HIS
      by_cases hk2 : kindM y = 2
      · rw [hk2] at HK
        cases hiy : h.isB y
        · rw [hiy] at HIS
          have HFB := Lib.hid (show h.fitsB fr = false by unfold HM.fitsB; rw [HAT.out (by rw [HVB.out, hk2, hiy]; rfl)]; rfl)
          clear hiy hk2
          go_wp2_with fail
          refine (HK.out _).mono ?_
          rintro e w1 ⟨rfl, rfl⟩
          go_wp2_with fail
          refine HIS.out.mono ?_
          rintro e w1 ⟨rfl, rfl⟩
          go_wp2_with fail
          go_ret2
          exact ⟨HB.out, .inl ⟨HFB.out, rfl⟩⟩
        · rw [hiy] at HIS
          have HM1 := Lib.hid (HMT.out hk2 hiy)
          have HT1 := Lib.hid (HTK.out (by rw [HVB.out, hk2, hiy]; rfl))
          clear hiy hk2
          go_wp2_with fail
          refine (HK.out _).mono ?_
          rintro e w1 ⟨rfl, rfl⟩
          go_wp2_with fail
          refine HIS.out.mono ?_
          rintro e w1 ⟨rfl, rfl⟩
          go_wp2_with fail
          refine (HPU.out _ HG.out).mono ?_
          rintro e w2 ⟨rfl, vl2, G2, s2⟩
          have HG2 := Lib.hid G2
          have HB2 := Lib.hid (HB.out.trans (s2.below HG.out))
          clear G2 s2
          go_wp2_with fail
          go_roundw
          case rel => exact ⟨k + 1, by omega, by go_num, ⟨_, HG2.out⟩, HB2.out, HM1.out, HT1.out⟩
          case measure => simp [intOf]; omega
      · have HM1 := Lib.hid (HMF.out hk2)
        have HT1 := Lib.hid (HTK.out (by rw [HVB.out]; simp [hk2]))
        have e2 : ((kindM y : Int) == 2) = false := by simp; omega
        clear hk2
        generalize kindM y = ky at *
        go_wp2_with fail
        refine (HK.out _).mono ?_
        rintro e w1 ⟨rfl, rfl⟩
        go_wp2_with fail
        refine (HPU.out _ HG.out).mono ?_
        rintro e w2 ⟨rfl, vl2, G2, s2⟩
        have HG2 := Lib.hid G2
        have HB2 := Lib.hid (HB.out.trans (s2.below HG.out))
        clear G2 s2
        go_wp2_with fail
        go_roundw
        case rel => exact ⟨k + 1, by omega, by go_num, ⟨_, HG2.out⟩, HB2.out, HM1.out, HT1.out⟩
        case measure => simp [intOf]; omega
    · obtain rfl : k = n := by omega
      have HFB := Lib.hid (show h.fitsB fr = true by
        have hall := HNO.out
        rw [List.take_of_length_le (by rw [HL.out]; omega)] at hall
        unfold HM.fitsB; rw [hall]; rfl)
      have HK0 := Lib.hid (show Going h.nmN h.nmAt fr 0 (meetF fr k) from by
        have := Going.start h.nmN h.nmAt fr
        rw [HL.out] at this
        exact this)
      have HD0 := Lib.hid (meetF_deep fr k)
      clear hll hk hlt
      go_wp2_with fail
      go_loopw [9] (fun i wr => ∃ (i' : Nat) (l : List Nd), i = .int .i64 i' ∧ Going h.nmN h.nmAt fr i' l ∧ (∃ vl, RG wr w.heap.size (w.heap.size + 1) w.heap.size vl l) ∧ Below w.heap.size w wr ∧ (∀ x ∈ oopsOf l, h.isB x = true) ∧ (∀ nd ∈ l, nd.deep ≤ i' + 1)) (fun i _ => 65538 - (intOf i).toNat)
      case atStart => exact ⟨0, _, rfl, HK0.out, ⟨_, HG.out⟩, HB.out, HI.out, HD0.out⟩
      case round =>
        clear HG HB HI HNO HK0 HD0
        obtain ⟨i, l, rfl, hGo, ⟨vl2, hG⟩, hB, hisb, hdp⟩ := hrel
        obtain ⟨Al, cl, rfl, hml⟩ := own_mets hG.row
        have HGO := Lib.hid hGo
        have HG := Lib.hid hG
        have HB := Lib.hid hB
        have HI := Lib.hid hisb
        have HDP := Lib.hid hdp
        have HML := Lib.hid hml
        have x0 := hG.box.cell 0
        have hll := graph_bound f hGo.nodup hisb
        have hi5 : i ≤ 65537 := by have h1 := hGo.le; rcases hGo.short with e | e <;> omega
        clear hG hB hisb hdp hml
        by_cases hlt : i < l.length
        · obtain ⟨ad, rfl, hadb, m0, m1, m2, m3⟩ := HML.out.load hlt
          have HO := Lib.hid (HI.out _ (oopsOf_mem hlt))
          have hlt2 : (i : Int) < (l.length : Int) := by omega
          have HLT := Lib.hid hlt
          clear m1 m2 m3 hGo
          generalize hoo : (l.getD i default).o = o at *
          have HOO := Lib.hid hoo
          clear hoo
          have ho32 : o < 4294967296 := by
            have h1 := HM.isB_lt HO.out
            have h2 := f.marks
            have h3 := f.room
            have h4 := f.hi
            omega
          have hN := nmN_le f o (HM.isB_hd hh HO.out)
          have HNM := Lib.hid (fun wq (hq : Below w.heap.size w wq) => rnames_any (HH.out.below hq) f hh o ho32 HO.out)
          unfold ptr at HNM
          go_wp2_with fail
          refine (HNM.out _ HB.out).mono ?_
          rintro e w1 ⟨vN, rfl, hownN, hb1⟩
          obtain ⟨AN, cN, rfl, hrdN⟩ := own_slice hownN
          have HOW1 := Lib.hid hownN
          have HG1 := Lib.hid (HG.out.below hb1)
          have HB1 := Lib.hid (below_top HB.out hb1)
          clear hownN hb1 hrdN m0 x0
          go_wp2_with fail
          go_loopw [60] (fun j wr2 => ∃ k : Nat, k ≤ h.nmN o ∧ j = .int .i64 k ∧ (∃ vl, RG wr2 w.heap.size (w.heap.size + 1) w.heap.size vl (meetP h.nmAt l i (List.range k))) ∧ Below w.heap.size w wr2 ∧ wr2.ownsRow wr.heap.size 50 1 (.slice AN (h.nmN o) cN) (h.nmN o) (u32s (namesL h o (h.nmN o)))) (fun j _ => h.nmN o - (intOf j).toNat)
          case atStart => exact ⟨0, by omega, rfl, ⟨_, HG1.out⟩, HB1.out, HOW1.out⟩
          case round =>
            clear HG1 HB1 HOW1 HG HB HML
            obtain ⟨j, hj, rfl, ⟨vl3, hG3⟩, hB3, hown3⟩ := hrel
            obtain ⟨Al3, cl3, rfl, hml3⟩ := own_mets hG3.row
            have hpre := meetP_pre h.nmAt l i (List.range j)
            have hlt3 := Nat.lt_of_lt_of_le HLT.out hpre.length_le
            have hlen3 := meetP_len h.nmAt l i (List.range j)
            rw [List.length_range] at hlen3
            have HG3 := Lib.hid hG3
            have HB3 := Lib.hid hB3
            have HOW3 := Lib.hid hown3
            obtain ⟨ad3, rfl, hadb3, q0, q1, q2, q3⟩ := hml3.load hlt3
            have x3 := hG3.box.cell 0
            have hlt4 : (i : Int) < ((meetP h.nmAt l i (List.range j)).length : Int) := by omega
            rw [pre_getD hpre HLT.out] at q3
            by_cases hjl : j < h.nmN o
            · obtain ⟨A4, c4, e4, hrd⟩ := own_slice hown3
              injection e4 with e4 e5 e6
              subst e4
              subst e6
              obtain ⟨adN, uN, rfl, hbN, hxN, hcN⟩ := hrd.at_ hjl
              rw [u32s_get (by rw [namesL_len]; exact hjl), namesL_get hjl] at hxN
              injection hxN with hxN
              subst hxN
              have hv32 := HM.nmAt_lt f o j
              have hdd : (l.getD i default).deep ≤ i + 1 := by
                rw [List.getD_eq_getElem?_getD, List.getElem?_eq_getElem HLT.out]
                exact HDP.out _ (List.getElem_mem _)
              have HPU := Lib.hid (wput_any hG3 (h.nmAt o j) hv32 (i : Int) ((j : Int) - 1) ((l.getD i default).deep + 1) (by omega))
              rw [← HOO.out, ← meetP_snoc, ← List.range_succ, HOO.out] at HPU
              have hjl2 : (j : Int) < (h.nmN o : Int) := by omega
              clear hG3 hB3 hown3 hml3 hrd hpre hlen3 q0 q1 q2
              generalize (l.getD i default).deep = dp at *
              generalize h.nmAt o j = y at *
              rw [show (((dp + 1 : Nat)) : Int) = (dp : Int) + 1 by omega] at HPU
              generalize hLL : meetP h.nmAt l i (List.range j) = l3 at *
              go_wp2_with fail
              refine HPU.out.mono ?_
              rintro e w4 ⟨rfl, vl4, G4, s4⟩
              have HG4 := Lib.hid G4
              have HB4 := Lib.hid (HB3.out.trans (s4.below HG3.out))
              have HOW4 := Lib.hid (s4.own HG3.out HOW3.out (by decide) (by decide))
              clear G4 s4
              go_wp2_with fail
              go_roundw
              case rel => exact ⟨j + 1, by omega, by go_num, ⟨_, HG4.out⟩, HB4.out, HOW4.out⟩
              case measure => simp [intOf]; omega
            · obtain rfl : j = h.nmN o := by omega
              have HRD := Lib.hid (show meetP h.nmAt l i (List.range (h.nmN o)) = roundM h.nmN h.nmAt l i by rw [meetP_range]; unfold roundM; rw [HOO.out])
              rw [HRD.out] at hG3 HG3 x3 hlt4 hlt3
              have HI3 := Lib.hid (show ∀ x ∈ oopsOf (roundM h.nmN h.nmAt l i), h.isB x = true from by
                unfold roundM
                exact meetK_all h.nmAt HI.out _ (fun k hk h2 => by rw [HOO.out] at hk h2 ⊢; exact names_isB G HO.out hk h2) _ (Nat.le_refl _))
              have HDP3 := Lib.hid (show ∀ nd ∈ roundM h.nmN h.nmAt l i, nd.deep ≤ i + 1 + 1 from by
                rw [← HRD.out]; exact meetP_deep h.nmAt HDP.out HLT.out _)
              clear hG3 hB3 hown3 hml3 hpre hlen3 q0 q1 q2 q3
              by_cases hlong : 65536 < (roundM h.nmN h.nmAt l i).length
              · have HNN := Lib.hid (HGO.out.long HLT.out hlong)
                have hd : decide (((roundM h.nmN h.nmAt l i).length : Int) > 65536) = true := by simp; omega
                have hd2 : decide ((65536 : Int) < ((roundM h.nmN h.nmAt l i).length : Int)) = true := by simp; omega
                go_wp2_with fail
                go_ret2
                exact ⟨HB3.out, .inr (.inl ⟨HFB.out, HNN.out, rfl⟩)⟩
              · have HNX := Lib.hid (HGO.out.next HLT.out hlong)
                have hd : decide (((roundM h.nmN h.nmAt l i).length : Int) > 65536) = false := by simp; omega
                have hd2 : decide ((65536 : Int) < ((roundM h.nmN h.nmAt l i).length : Int)) = false := by simp; omega
                go_wp2_with fail
                go_roundw
                case rel => exact ⟨i + 1, _, by go_num, HNX.out, ⟨_, HG3.out⟩, HB3.out, HI3.out, HDP3.out⟩
                case measure => simp [intOf]; omega
        · have HDN := Lib.hid (HGO.out.done hlt)
          have hlt2 : ¬ (i : Int) < (l.length : Int) := by omega
          go_wp2_with fail
          go_ret2
          exact ⟨HB.out, .inr (.inr ⟨HFB.out, l, Al, cl, HDN.out.1, ⟨HDN.out.2, HGO.out.nodup, HI.out, fun nd hn => by have := HDP.out nd hn; have := HDN.out.2; have := HGO.out.le; omega⟩, rfl, HML.out⟩)⟩
end Go.Proofs.YtpajpdjjpgbklaaDoor
