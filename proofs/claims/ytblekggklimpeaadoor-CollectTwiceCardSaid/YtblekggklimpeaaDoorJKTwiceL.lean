/- CollectTwice, walked: it answers true. Printed by wip/src/XKTwiceL.py. -/
import Derived.Test.YtblekggklimpeaaDoorJKLivesL
import Derived.Test.YtblekggklimpeaaDoorJKTwiM
import Derived.Test.YtblekggklimpeaaDoorJKBecome
set_option linter.unusedVariables false
set_option linter.unusedSimpArgs false
namespace Go.Proofs.YtblekggklimpeaaDoor
open Go.RowKit Go.Sort
attribute [local go_sem] Oper.semAt_some
theorem bec_ok {h : HM} {a b : List Nat} (he : becE h a b = 0) : fitsE h a b = 0 ∧ (a ++ b).Nodup := by
  unfold becE at he
  split at he
  · rename_i hf
    split at he
    · rename_i hn; exact ⟨hf, hn⟩
    · cases he
  · rename_i hf; exact absurd he hf
set_option maxRecDepth 100000 in
set_option maxHeartbeats 8000000 in
theorem twiceL_any (W : World) (E : Env W) (k : Cs) (hk : k.At W W.heap.size) (A1 : Option Addr) (n1 c1 : Nat) (a : List Nat) (_ : n1 ≤ 9223372036854775807) (hr1 : Reads W W.heap.size 1 A1 n1 (u32s a)) (ha32 : ∀ y ∈ a, y < 4294967296) (hn1 : n1 * 4 ≤ 140737488351232)
    (A2 : Option Addr) (n2 c2 : Nat) (b : List Nat) (_ : n2 ≤ 9223372036854775807) (hr2 : Reads W W.heap.size 1 A2 n2 (u32s b)) (hb32 : ∀ y ∈ b, y < 4294967296) (hn2 : n2 * 4 ≤ 140737488351232) :
    Calls Tryd.prog 11 #[k.agg, .slice A1 n1 c1, .slice A2 n2 c2] W (Told (.bool true) W) := by
  have la : a.length = n1 := by have := hr1.1; rw [u32s_len] at this; omega
  have lb : b.length = n2 := by have := hr2.1; rw [u32s_len] at this; omega
  have HLN := Lib.hid (And.intro la lb)
  have HRD := Lib.hid (fun (w' : World) (hbw : Below W.heap.size W w') => And.intro ((hr1.below hbw).more hbw.size) ((hr2.below hbw).more hbw.size))
  have H32 := Lib.hid (And.intro ha32 hb32)
  clear la lb hr1 hr2 ha32 hb32
  have hb1 := (Below.refl W.heap.size W).alloc (Nat.le_refl _) (.cells k.cells 26)
  have B1 := Blk.new W 26 k.cells
  have HB1 := Lib.hid hb1
  have HBX := Lib.hid B1
  have HE := Lib.hid (E.below hb1)
  have HK := Lib.hid (hk.below hb1)
  have HBU := Lib.hid (fun (w : World) (E : Env w) (hk : k.At w w.heap.size) => built_any w E k hk)
  have HAW := Lib.hid (fun (w : World) (E : Env w) => awake_any w E)
  have hsz := World.size_alloc W (.cells k.cells 26)
  clear hb1 B1 E hk
  unfold Cs.cells at HB1 HBX HE HK HBU hsz
  unfold Cs.agg at HBU ⊢
  go_enter Tryd.func11, Tryd.ntmps11
  obtain ⟨x0, x1, x2, x3⟩ := cells4K HBX.out
  go_wp2_with fail
  clear x0 x1 x2 x3
  generalize W.alloc (.cells #[.int .i64 k.size, .slice k.A k.n k.c, .slice k.A' k.n' k.c', .int .u32 (k.last : Nat)] 26) = W1 at *
  refine (HBU.out W1 HE.out HK.out).mono ?_
  rintro e w1 (⟨hno, ⟨v, rfl⟩, hb⟩ | ⟨hok, p, g, rfl, L, hws, hrs⟩)
  · have HB2 := Lib.hid (below_top HB1.out hb)
    have HE2 := Lib.hid (HE.out.below hb)
    have HK2 := Lib.hid (HK.out.below hb)
    have HX2 := Lib.hid (HBX.out.below hb HBX.out.lt)
    obtain ⟨x0, x1, x2, x3⟩ := cells4K HX2.out
    clear hb hno
    go_wp2_with fail
    refine (HBU.out w1 HE2.out HK2.out).mono ?_
    rintro e w2 hbu
    obtain ⟨v2, bv, rfl, hb2⟩ : ∃ v2 bv, e = .returned (.tuple #[v2, .bool bv]) ∧ Below w1.heap.size w1 w2 := by
      rcases hbu with ⟨_, ⟨v, rfl⟩, hb⟩ | ⟨_, p, g, rfl, L, _⟩
      · exact ⟨_, _, rfl, hb⟩
      · exact ⟨_, _, rfl, L.below⟩
    have HB3 := Lib.hid (below_top HB2.out hb2)
    have HE3 := Lib.hid (HE2.out.below hb2)
    clear hbu hb2 x0 x1 x2 x3 HBU
    go_wp2_with fail
    refine (HAW.out _ HE3.out).mono ?_
    rintro e w3 ⟨rfl, hb3⟩
    have HB4 := Lib.hid (below_top HB3.out hb3)
    clear hb3
    go_wp2_with fail
    go_ret
    exact ⟨rfl, HB4.out⟩
  · have HL := Lib.hid L
    obtain ⟨l, G⟩ := L.good
    have HG := Lib.hid G
    have HB2 := Lib.hid (below_top HB1.out L.below)
    have HX2 := Lib.hid (HBX.out.below L.below HBX.out.lt)
    have HK2 := Lib.hid (HK.out.below L.below)
    have HOK := Lib.hid hok
    have HBB := Lib.hid (HBU.out w1 L.envw (HK.out.below L.below))
    obtain ⟨x0, x1, x2, x3⟩ := cells4K HX2.out
    clear L G hws hrs hok HBU HBX HK
    go_wp2_with fail
    refine HBB.out.mono ?_
    rintro e w2 (⟨hno, _⟩ | ⟨_, q, gq, rfl, Lq, _, _⟩)
    · exact absurd HOK.out hno
    have HQ2 := Lib.hid (Lq.rebase HL.out.below HE.out)
    have HD := Lib.hid (show ∀ j, p.has j → j < w1.heap.size from fun j hj => HL.out.at_.lt hj)
    have HDq := Lib.hid (show ∀ j, q.has j → w1.heap.size ≤ j from fun j hj => Lq.new j hj)
    have HL2 := Lib.hid (HL.out.after Lq.below)
    have HB3 := Lib.hid (below_top HB2.out Lq.below)
    have HEV := Lib.hid HL2.out.envw
    clear Lq HBB x0 x1 x2 x3 HX2 HK2 HL HOK
    go_wp2_with fail
    refine (HAW.out _ HEV.out).mono ?_
    rintro e w3 ⟨rfl, hb3⟩
    have HL3 := Lib.hid (HL2.out.after hb3)
    have HQ3 := Lib.hid (HQ2.out.after hb3)
    have HB4 := Lib.hid (below_top HB3.out hb3)
    have HRW := Lib.hid (fun (w' : World) (hbw : Below w3.heap.size w3 w') => HRD.out w' (below_top HB4.out hbw))
    have HBE := Lib.hid (become_any (c := c1) (c' := c2) HL3.out.at_ HG.out HL3.out.envw.spares HL3.out.far (HRD.out w3 HB4.out).1 (HRD.out w3 HB4.out).2 (by omega) (by omega) H32.out.1 H32.out.2)
    rw [HL3.out.hg] at HBE
    unfold ptr at HBE
    have HZ3 := Lib.hid (show w1.heap.size ≤ w3.heap.size from by have h1 := HQ3.out.at_.lt (show q.has q.g from .inl rfl); have h2 := HDq.out q.g (.inl rfl); omega)
    have hzW : W.heap.size ≤ w3.heap.size := HB4.out.size
    have HTW := Lib.hid (bec_twice (a := a) (b := b) HG.out)
    clear hb3 HL2 HQ2 HEV HAW
    go_wp2_with fail
    refine HBE.out.mono ?_
    rintro e w4 ⟨rfl, H4, G4, S4⟩
    have HL4 := Lib.hid (HL3.out.step H4 S4 ⟨_, G4⟩)
    have HG4 := Lib.hid G4
    have HQ4 := Lib.hid (HQ3.out.beside S4 (fun j hj hp => by have h1 := HD.out j hp; have h2 := HDq.out j hj; omega) (fun j hp => HL3.out.new j hp))
    have HB5 := Lib.hid (show Below W.heap.size W w4 from below_top HB1.out HL4.out.below)
    clear H4 G4 S4 HBE HL3 HQ3
    by_cases he : becE k.h a b = 0
    · have HH' := Lib.hid (show becH k.h l a b = renH (renO (pairsB a b)) k.h l ∧ becL k.h l a b = l.map (ren (renO (pairsB a b))) from ⟨by unfold becH; rw [if_pos he], by unfold becL; rw [if_pos he]⟩)
      have HT2 := Lib.hid (HTW.out he)
      have HFN := Lib.hid (bec_ok he)
      rw [he]
      have hln : n1 = n2 := by have := (fits_ok HFN.out.1).1; have := HLN.out; omega
      subst hln
      clear he HTW
      go_wp2_with fail
      go_loopw [12] (fun iv wr => ∃ i : Nat, iv = .int .i64 i ∧ i ≤ n1 ∧ Below w4.heap.size w4 wr) (fun iv _ => n1 - (intOf iv).toNat)
      case atStart => exact ⟨0, rfl, Nat.zero_le _, Below.refl _ _⟩
      case round =>
        obtain ⟨i, rfl, hi, hb⟩ := hrel
        have HB := Lib.hid hb
        clear hb
        by_cases hlt : i < n1
        · have HBW := Lib.hid (below_top HB5.out HB.out)
          obtain ⟨ra, rb⟩ := HRD.out wr HBW.out
          have hka : i < a.length := by have := HLN.out; omega
          have hkb : i < b.length := by have := HLN.out; omega
          obtain ⟨ada, u, rfl, hba, hu, hca⟩ := ra.at_ hlt
          obtain ⟨x, hx, rfl⟩ := u32s_at hu
          have hca2 := fun (w' : World) (hbw : Below wr.heap.size wr w') => ((HRD.out w' (below_top HBW.out hbw)).2).at_ hlt
          have HCB := Lib.hid hca2
          obtain ⟨adb, u, rfl, hbb, hu2, hcb⟩ := rb.at_ hlt
          obtain ⟨y, hy, rfl⟩ := u32s_at hu2
          have hx32 : x < 4294967296 := H32.out.1 x (List.mem_of_getElem? hx)
          have hy32 : y < 4294967296 := H32.out.2 y (List.mem_of_getElem? hy)
          obtain rfl : a[i] = x := by rw [List.getElem?_eq_getElem hka] at hx; exact Option.some.inj hx
          obtain rfl : b[i] = y := by rw [List.getElem?_eq_getElem hkb] at hy; exact Option.some.inj hy
          have hix := (fits_ok HFN.out.1).2.1 _ (List.getElem_mem hka)
          have hiy := (fits_ok HFN.out.1).2.2 _ (List.getElem_mem hkb)
          have HRQ := Lib.hid (refs_any (HQ4.out.after HB.out).at_ HG.out (HQ4.out.after HB.out).envw.spares _ hx32)
          have HRL := Lib.hid (fun (w' : World) (hbw : Below w4.heap.size w4 w') => refs_any (HL4.out.after hbw).at_ HG4.out (HL4.out.after hbw).envw.spares _ hy32)
          have HEQ : refsL (becH k.h l a b) (becL k.h l a b) b[i] = refsL k.h l a[i] := by
            have hg := HG4.out
            rw [HH'.out.1, HH'.out.2] at hg ⊢
            exact refs_ren (bec_inv HFN.out.2) HG.out hg (bec_back HFN.out.2 (fits_ok HFN.out.1).1 hka) hix hiy
          have hiy' : (becH k.h l a b).isB b[i] = true := by
            rw [HH'.out.1, HM.isB_same (h := k.h) (h' := renH _ k.h l) rfl]
            exact hiy
          rw [HQ4.out.hg, if_pos hix] at HRQ
          rw [HL4.out.hg, HEQ, if_pos hiy'] at HRL
          have HCB2 := Lib.hid (show ∀ w', Below wr.heap.size wr w' → w'.cell? (adb.add i) = some (.int .u32 (b[i] : Nat)) from fun w' hbw => by
            obtain ⟨ad, u, e1, _, e2, e3⟩ := HCB.out w' hbw
            injection e1 with e1
            subst e1
            rw [hu2] at e2
            injection e2 with e2
            subst e2
            exact e3)
          unfold ptr at HRQ HRL
          have HLT := Lib.hid hlt
          have hlen : (refsL k.h l a[i]).length ≤ 9223372036854775807 := by
            unfold refsL
            rw [if_pos hix]
            have h1 := selL_len (refP k.h l a[i]) l l.length
            have h2 := oopsL_le HG.out
            rw [oopsL_len] at h2
            omega
          have HLE := Lib.hid hlen
          clear hu hu2 hx hy ra rb hix hiy hiy' HEQ hlt hca2 HCB hlen hcb
          generalize refsL k.h l a[i] = R at *
          generalize a[i] = x at *
          generalize b[i] = y at *
          go_wp2_with fail
          refine HRQ.out.mono ?_
          rintro e w5 ⟨v5, rfl, ho5, hb5⟩
          have hcb := HCB2.out w5 hb5
          have HB6 := Lib.hid (below_top HB.out hb5)
          obtain ⟨A5, c5, rfl⟩ := own_val ho5
          have HO5 := Lib.hid ho5
          clear ho5 hb5 hca HRQ HCB2
          go_wp2_with fail
          refine (HRL.out _ HB6.out).mono ?_
          rintro e w6 ⟨v6, rfl, ho6, hb6⟩
          obtain ⟨A6, c6, rfl⟩ := own_val ho6
          have r5 := own_readsV (own_below HO5.out hb6)
          have r6 := own_readsV ho6
          have HS1 := Lib.hid (show Calls Tryd.prog 17 #[.slice A5 R.length c5, .slice A6 R.length c6] w6 (Told (.bool true) w6) from by
            have hh := oops_any A5 A6 R.length R.length c5 c6 R R w6 r5.2 r6.2 r5.1 r6.1
            rw [sameL_self] at hh
            exact hh)
          have HB7 := Lib.hid (below_top HB6.out hb6)
          clear ho6 hb6 r5 r6 HO5 hcb HRL
          go_wp2_with fail
          refine HS1.out.mono ?_
          rintro e w7 ⟨rfl, hb7⟩
          have HB8 := Lib.hid (below_top HB7.out hb7)
          clear hb7
          go_wp2_with fail
          go_roundw
          case rel => exact ⟨i + 1, by go_num, HLT.out, HB8.out⟩
          case measure => have := HLT.out; simp [intOf]; omega
        · obtain rfl : i = n1 := by omega
          have HBW := Lib.hid (below_top HB5.out HB.out)
          have HLr := Lib.hid (HL4.out.after HB.out)
          have HQr := Lib.hid (HQ4.out.after HB.out)
          have HBE := Lib.hid (become_any (c := c2) (c' := c1) HLr.out.at_ HG4.out HLr.out.envw.spares HLr.out.far (HRD.out wr HBW.out).2 (HRD.out wr HBW.out).1 (by omega) (by omega) H32.out.2 H32.out.1)
          have hg5 : (becH (becH k.h l a b) (becL k.h l a b) b a) = k.h := HT2.out.2
          rw [HLr.out.hg, HT2.out.1, hg5] at HBE
          unfold ptr at HBE
          clear hlt hi hg5
          go_wp2_with fail
          refine HBE.out.mono ?_
          rintro e w5 ⟨rfl, H5, G5, S5⟩
          have HL5 := Lib.hid (HLr.out.step H5 S5 ⟨_, G5⟩)
          have HQ5 := Lib.hid (HQr.out.beside S5 (fun j hj hp => by have h1 := HD.out j hp; have h2 := HDq.out j hj; omega) (fun j hp => HLr.out.new j hp))
          have HSM := Lib.hid (HQ5.out.same HL5.out)
          rw [sameH_self] at HSM
          clear H5 G5 S5 HBE
          go_wp2_with fail
          refine HSM.out.mono ?_
          rintro e w6 ⟨rfl, hb6⟩
          have HF := Lib.hid (below_top (below_top HB1.out HL5.out.below) hb6)
          clear hb6
          go_wp2_with fail
          go_ret
          exact ⟨rfl, HF.out⟩
    · have HH' := Lib.hid (show becH k.h l a b = k.h ∧ becL k.h l a b = l from ⟨by unfold becH; rw [if_neg he], by unfold becL; rw [if_neg he]⟩)
      have hne : ((becE k.h a b : Int) != 0) = true := by simp; omega
      have HL4' := Lib.hid (show Live W1 w4 p g k.h from HH'.out.1 ▸ HL4.out)
      have HSM := Lib.hid (HQ4.out.same HL4'.out)
      rw [sameH_self] at HSM
      have HBF := Lib.hid (fun (w' : World) (hbw : Below w4.heap.size w4 w') => become_any (c := c1) (c' := c2) (HL4'.out.after hbw).at_ HG.out (HL4'.out.after hbw).envw.spares (HL4'.out.after hbw).far (HRD.out w' (below_top HB5.out hbw)).1 (HRD.out w' (below_top HB5.out hbw)).2 (by omega) (by omega) H32.out.1 H32.out.2)
      rw [HL4'.out.hg] at HBF
      unfold ptr at HBF
      clear he HTW
      generalize becE k.h a b = EE at *
      go_wp2_with fail
      refine HSM.out.mono ?_
      rintro e w5 ⟨rfl, hb5⟩
      have HB6 := Lib.hid hb5
      have HL5 := Lib.hid (HL4'.out.after hb5)
      clear hb5
      go_wp2_with fail
      refine (HBF.out _ HB6.out).mono ?_
      rintro e w6 ⟨rfl, H6, G6, S6⟩
      have HL6 := Lib.hid (HL5.out.step H6 S6 ⟨_, G6⟩)
      clear H6 G6 S6
      go_wp2_with fail
      go_ret
      exact ⟨by simp, below_top HB1.out HL6.out.below⟩
end Go.Proofs.YtblekggklimpeaaDoor
