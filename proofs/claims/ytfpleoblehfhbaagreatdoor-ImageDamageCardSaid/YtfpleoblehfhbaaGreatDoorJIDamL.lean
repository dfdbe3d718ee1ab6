/- ImageDamage, walked: up to 32 bits one behind the other are seen. Printed by wip/src/XIDamL.py. -/
import Derived.Test.YtfpleoblehfhbaaGreatDoorJILoad
import Derived.Test.YtfpleoblehfhbaaGreatDoorJISave
import Derived.Test.YtfpleoblehfhbaaGreatDoorJIROld
import Derived.BigQuiet
set_option linter.unusedVariables false
set_option linter.unusedSimpArgs false
namespace Go.Proofs.YtfpleoblehfhbaaGreatDoor
open Go.RowKit
attribute [local go_sem] Oper.semAt_some
theorem oldI_len17 {h : HM} (f : h.Fit) : h.oldI.length = 273 + 4 * h.words.length := by rw [oldI_len, f.roots]; omega
theorem payK_in {h : HM} {l : List Ob} (G : h.Good l) (k : Nat) (hk : k < 3) : posK h l k + 1 + (cnt7 (payK h l k).length).length + (payK h l k).length ≤ (h.newI l).length := by
  obtain ⟨t, h1, h2⟩ := newI_at G k hk
  have := congrArg List.length h1
  rw [List.length_drop, List.length_append] at this
  have h5 := cnt7_len_pos (payK h l k).length
  omega
theorem Fr1.under {rg B : Nat} {w w' : World} (h : Fr1 rg w w') (hB : B ≤ rg) (hw : B ≤ w.heap.size) : Below B w w' := h.below hB hw
theorem Row.len {w : World} {g c : Nat} {e : TypeId} {xs : List Value} (h : Row w g e c xs) : xs.length ≤ c := by obtain ⟨_, _, h1, _⟩ := h; exact h1
theorem iload_bad {w : World} {n c E : Nat} {A : Option Addr} {bs : List Nat} (Ev : Env w) (ht : takeR bs = .error E) (size : Int) (hs1 : 64 ≤ size) (hs2 : size ≤ 1048576)
    (hr : Reads w w.heap.size 1 A n (u8c bs)) (hA : 0 < n → ∃ g0 o0, A = some ⟨g0, o0, none⟩) (hc : n ≤ c) (hn : n ≤ 9223372036854775807) (h8 : ∀ x ∈ bs, x < 256) :
    Calls Tryz.prog 6 #[.slice A n c, .int .i64 size] w (Told (.tuple #[.pointer none, .int .i64 (E : Nat)]) w) :=
  (iload_any (c := c) size Ev.spares hr hA hc hn h8).mono fun e w' ⟨hb, hh⟩ => by
    have e3 : ildE bs size = E := (if_neg (by omega)).trans (takeR_errs ht)
    rcases hh with ⟨_, rfl⟩ | ⟨h5, _⟩
    · rw [e3]
      exact ⟨rfl, hb⟩
    · rw [e3] at h5; exact absurd h5 (takeR_err ht)
set_option maxRecDepth 100000 in
set_option maxHeartbeats 8000000 in
theorem imageDamage_any (W : World) (E : Env W) (k : Cs) (hk : k.At W W.heap.size) (which : Int) (hw0 : (Lit.int .i64 which).wf = true) (at_ : Int) (ha0 : (Lit.int .i64 at_).wf = true) (change : Nat) (hch : change < 4294967296) :
    Calls Tryz.prog 4 #[k.agg, .int .i64 which, .int .i64 at_, .int .u32 change] W (Told (.bool true) W) := by
  have hb0 := (Below.refl W.heap.size W).alloc (Nat.le_refl _) (.cells #[.int .i64 k.size, .slice k.A k.n k.c, .slice k.A' k.n' k.c', .int .u32 (k.last : Nat)] 47)
  have BX := Lib.hid (Blk.new W 47 #[.int .i64 k.size, .slice k.A k.n k.c, .slice k.A' k.n' k.c', .int .u32 (k.last : Nat)])
  have HB0 := Lib.hid hb0
  have HE0 := Lib.hid (E.below hb0)
  have HAW := Lib.hid (fun (w : World) (E : Env w) => iawake_any w E)
  have HBU := Lib.hid (iboth_any _ (E.below hb0) k (hk.below hb0))
  have HNU := Lib.hid (fun E hE w => inum_any E hE w)
  have hai : at_ ≤ 9223372036854775807 := (show _ ≤ IntKind.i64.max from (show IntKind.i64.min ≤ at_ ∧ at_ ≤ IntKind.i64.max by simpa [Lit.wf] using ha0).2)
  clear hb0 E hk hw0 ha0
  unfold Cs.agg at HBU ⊢
  go_enter Tryz.func4, Tryz.ntmps4
  obtain ⟨x0, x1, x2, x3⟩ := cells4I BX.out
  go_wp2_with fail
  clear x0 x1 x2 x3
  generalize W.alloc (.cells #[.int .i64 k.size, .slice k.A k.n k.c, .slice k.A' k.n' k.c', .int .u32 (k.last : Nat)] 47) = W1 at *
  refine HBU.out.mono ?_
  rintro e w1 ⟨hb1, ⟨hno, rfl⟩ | ⟨hok, p, q, l, rfl, L1, G1, R1⟩⟩
  · skip
    have HA := Lib.hid (HAW.out _ (HE0.out.below hb1))
    have HB1 := Lib.hid (HB0.out.trans (hb1.mono HB0.out.size))
    clear hb1 HBU
    go_wp2_with fail
    refine HA.out.mono ?_
    rintro e w2 ⟨rfl, hb2⟩
    have HB2 := Lib.hid (below_top HB1.out hb2)
    clear hb2
    go_wp2_with fail
    go_ret
    exact ⟨rfl, HB2.out⟩
  by_cases hs1 : which < 0
  · have hd1 : decide (which < 0) = true := decide_eq_true hs1
    clear hs1 L1 G1 hok R1
    unfold ptr
    have HA := Lib.hid (HAW.out _ (HE0.out.below hb1))
    have HB1 := Lib.hid (HB0.out.trans (hb1.mono HB0.out.size))
    clear hb1 HBU
    go_wp2_with fail
    refine HA.out.mono ?_
    rintro e w2 ⟨rfl, hb2⟩
    have HB2 := Lib.hid (below_top HB1.out hb2)
    clear hb2
    go_wp2_with fail
    go_ret
    exact ⟨rfl, HB2.out⟩
  by_cases hs2 : 3 < which
  · have hd1 : decide (which < 0) = false := decide_eq_false hs1
    have hd2 : (3 : Int) < which := hs2
    clear hs1 hs2 L1 G1 hok R1
    unfold ptr
    have HA := Lib.hid (HAW.out _ (HE0.out.below hb1))
    have HB1 := Lib.hid (HB0.out.trans (hb1.mono HB0.out.size))
    clear hb1 HBU
    go_wp2_with fail
    refine HA.out.mono ?_
    rintro e w2 ⟨rfl, hb2⟩
    have HB2 := Lib.hid (below_top HB1.out hb2)
    clear hb2
    go_wp2_with fail
    go_ret
    exact ⟨rfl, HB2.out⟩
  by_cases hs3 : at_ < 0
  · have hd1 : decide (which < 0) = false := decide_eq_false hs1
    have hd2 : decide (which > 3) = false := decide_eq_false hs2
    have hd3 : decide (at_ < 0) = true := decide_eq_true hs3
    clear hs1 hs2 hs3 L1 G1 hok R1
    unfold ptr
    have HA := Lib.hid (HAW.out _ (HE0.out.below hb1))
    have HB1 := Lib.hid (HB0.out.trans (hb1.mono HB0.out.size))
    clear hb1 HBU
    go_wp2_with fail
    refine HA.out.mono ?_
    rintro e w2 ⟨rfl, hb2⟩
    have HB2 := Lib.hid (below_top HB1.out hb2)
    clear hb2
    go_wp2_with fail
    go_ret
    exact ⟨rfl, HB2.out⟩
  obtain ⟨aN, rfl⟩ := Int.eq_ofNat_of_zero_le (show 0 ≤ at_ by omega)
  obtain ⟨wN, rfl⟩ := Int.eq_ofNat_of_zero_le (show 0 ≤ which by omega)
  have hd1 : decide ((wN : Int) < 0) = false := decide_eq_false hs1
  have hd2 : decide ((wN : Int) > 3) = false := decide_eq_false hs2
  have hd3 : decide ((aN : Int) < 0) = false := decide_eq_false hs3
  have HB1 := Lib.hid (HB0.out.trans (hb1.mono HB0.out.size))
  have HE1 := Lib.hid (HE0.out.below hb1)
  have BX1 := Lib.hid (BX.out.below hb1 BX.out.lt)
  have HR1 := Lib.hid R1
  have HG := Lib.hid G1
  have HK := Lib.hid hok
  have HLN := Lib.hid (newI_len G1)
  have HLO := Lib.hid (oldI_len17 G1.fit)
  have HW3 := Lib.hid (show wN ≤ 3 by omega)
  have HRO := Lib.hid (rsaveOld_any R1 G1.fit)
  have hw1 := G1.fit.room
  have hw2 := G1.fit.hi
  have hw3 := G1.fit.one
  clear hb1 HBU hok L1 G1 HB0 BX HE0 hs1 hs2 hs3 R1
  unfold ptr at HRO ⊢
  go_wp2_with fail
  clear hd1 hd2 hd3
  refine HRO.out.mono ?_
  rintro e w2 ⟨v2, rfl, hown2, hb2⟩
  obtain ⟨g2, c2, rfl, hr2, hx2, hg2⟩ := Row.of_any hown2 (by rw [HLO.out]; omega)
  have HR2 := Lib.hid (HR1.out.below hb2)
  have HO2 := Lib.hid hr2
  have HG2 := Lib.hid hg2
  have HF2 := Lib.hid hb2
  obtain ⟨q0, q1, q2, q3, q4⟩ := (HR1.out.below hb2).1.cells5
  clear hb2 HRO HR1 hown2 hr2 hx2 hg2
  rw [HLO.out]
  go_wp2_with fail
  go_quiet (fail)
  clear q0 q1 q2 q3 q4
  have hbq := below_drewN (Below.refl w2.heap.size w2) nq
  have HR3 := Lib.hid (HR2.out.below hbq)
  have HO3 := Lib.hid (HO2.out.below hbq)
  have HF3 := Lib.hid (HF2.out.trans (hbq.mono HF2.out.size))
  clear hbq HR2 HO2 HF2
  generalize w2.drewN nq = w3 at *
  by_cases hw : wN < 3
  · have hd1 : decide ((wN : Int) < 3) = true := decide_eq_true (by omega)
    have hW3 : wN < 3 := hw
    have HSV := Lib.hid (rsave_any HR3.out HG.out)
    have HNP := Lib.hid (show 0 < (k.h.newI l).length by show 0 < (69 :: _ : List Nat).length; simp)
    unfold ptr at HSV
    clear hw1 hw2 hw3 HLO HO3 HG2 hw
    go_wp2_with fail
    clear hd1
    refine HSV.out.mono ?_
    rintro e w4 ⟨v4, rfl, hown4, hb4⟩
    obtain ⟨g4, c4, rfl, hr4, hx4, hg4⟩ := Row.of_any hown4 HNP.out
    have HF4 := Lib.hid (HF3.out.trans (hb4.mono HF3.out.size))
    have HG4 := Lib.hid (show w1.heap.size ≤ g4 by have := HF3.out.size; omega)
    have HO4 := Lib.hid hr4
    have HDM0 := Lib.hid (fun (bit K : Nat) (h1 : K ≤ 32) (h2 : bit + K ≤ 8 * (payK k.h l wN).length) (h3 : change % 2 ^ K ≠ 0) => flip_new HG.out wN hW3 h1 h2 h3)
    have HTK := Lib.hid (show ∃ r, takeR (k.h.newI l) = .ok r ∧ r.words = k.h.words ∧ r.roots = k.h.roots ∧ r.last = k.h.last ∧ r.wrong = false from ⟨_, take_new HG.out, rfl, rfl, rfl, rfl⟩)
    have H8 := Lib.hid (newI_byte HG.out)
    have HIN := Lib.hid (payK_in HG.out wN hW3)
    have HPL := Lib.hid (payK_len HG.out wN)
    have hrr := hr4.reads hr4.lt
    rw [u8c_len] at hrr
    have hsp := span_any (c := c4) hrr (by have := HLN.out; omega) H8.out (posK k.h l) (fun i => (payK k.h l i).length) wN hW3 rfl (fun i hi => newI_at HG.out i (by omega)) (fun i => by have := payK_len HG.out i; omega) (fun i => by show posK k.h l i + secLen _ = _; unfold secLen; omega)
    have HSP := Lib.hid hsp
    have HN8 := HLN
    clear hb4 HSV hown4 hr4 hx4 hg4 hrr hsp HLN HNP HR3 HF3
    generalize k.h.newI l = bs at *
    generalize hlen : bs.length = n at *
    have HLEN := Lib.hid hlen
    clear hlen
    generalize posK k.h l wN + 1 + (cnt7 (payK k.h l wN).length).length = fr at *
    generalize (payK k.h l wN).length = nn at *
    go_wp2_with fail
    refine HSP.out.mono ?_
    rintro e w5 ⟨rfl, hb5⟩
    have HF := Lib.hid (HF4.out.trans (hb5.mono HF4.out.size))
    have HO := Lib.hid (HO4.out.below hb5)
    clear hb5 HSP HF4 HO4
    by_cases hn0 : nn = 0
    · subst hn0
      have HA := Lib.hid (HAW.out _ (HE1.out.below HF.out))
      go_wp2_with fail
      refine HA.out.mono ?_
      rintro e w6 ⟨rfl, hb6⟩
      have HB6 := Lib.hid (below_top HF.out hb6)
      clear hb6
      go_wp2_with fail
      go_ret
      exact ⟨rfl, below_top HB1.out HB6.out⟩
    · have hz0 : ((nn : Int) == 0) = false := by simp; omega
      have hnn : nn ≤ 6291456 := HPL.out
      have hn1 : 0 < nn := by omega
      have HNN := Lib.hid (show nn ≤ 8388608 by omega)
      go_wp2_with fail
      have e1 : (aN : Int) % (8 * (nn : Int)) = ((aN % (8 * nn) : Nat) : Int) := by push_cast; rfl
      rw [e1]
      have HBT := Lib.hid (show aN % (8 * nn) < 8 * nn from Nat.mod_lt _ (by omega))
      have HDM := Lib.hid (HDM0.out (aN % (8 * nn)))
      have HGB := HG4
      clear e1 HDM0 hz0 hn0
      generalize aN % (8 * nn) = bt at *
      clear hnn hn1
      go_loopw [16, 17] (fun ch kv wr => ∃ K : Nat, K ≤ 32 ∧ bt + K ≤ 8 * nn ∧ kv = .int .i64 K ∧ ch = .bool (decide (change % 2 ^ K ≠ 0)) ∧ Row wr g4 5 c4 (u8c (flipsM bs fr bt change K)) ∧ Fr1 g4 w5 wr) (fun _ kv _ => 32 - (intOf kv).toNat)
      case atStart => exact ⟨0, by omega, by have := HBT.out; omega, rfl, by simp [Nat.mod_one], HO.out, Fr1.refl _ _⟩
      case round =>
        obtain ⟨K, hK, hbK, rfl, rfl, hrow, hfrm⟩ := hrel
        have HRW := Lib.hid hrow
        have HFRM := Lib.hid hfrm
        have HKK := Lib.hid (And.intro hK hbK)
        have hn1 := HIN.out
        have hn2 := HNN.out
        have hn8 := HN8.out
        have hbt := HBT.out
        clear hrow hfrm hbK
        by_cases hgo : K < 32 ∧ bt + K < 8 * nn
        · obtain ⟨hg1, hg2⟩ := hgo
          by_cases hodd : change / 2 ^ K % 2 = 1
          · have hi : fr + (bt + K) / 8 < n := by omega
            have hcl := HRW.out.cell (i := fr + (bt + K) / 8) (u := .int .u8 ((flipsM bs fr bt change K).getD (fr + (bt + K) / 8) 0 : Nat)) (u8c_get (by rw [flip_len, HLEN.out]; exact hi))
            have hfl := flip_len bs fr bt change K
            have hx8 : (flipsM bs fr bt change K).getD (fr + (bt + K) / 8) 0 < 256 := by
              have := flip_byte H8.out fr bt change K (by rw [HLEN.out]; omega)
              rw [List.getD_eq_getElem?_getD, List.getElem?_eq_getElem (by rw [hfl, HLEN.out]; exact hi)]
              exact this _ (List.getElem_mem _)
            have ho : (((change : Int) / 2 ^ K).tmod 2 == 1) = true := by
              have e : (change : Int) / 2 ^ K = ((change / 2 ^ K : Nat) : Int) := by push_cast; rfl
              rw [e, show (((change / 2 ^ K : Nat) : Int)).tmod 2 = ((change / 2 ^ K % 2 : Nat) : Int) from rfl, hodd]
              rfl
            have ek : ((bt : Int) + (K : Int)) / 8 = (((bt + K) / 8 : Nat) : Int) := by omega
            have em : ((bt : Int) + (K : Int)) % 8 = (((bt + K) % 8 : Nat) : Int) := by omega
            generalize hx : (flipsM bs fr bt change K).getD (fr + (bt + K) / 8) 0 = x at *
            generalize hdv : (bt + K) / 8 = d at *
            generalize hmv : (bt + K) % 8 = m8 at *
            have hm8 : m8 < 8 := by omega
            have hp8 : 2 ^ m8 < 256 := Nat.pow_lt_pow_right (by decide) hm8
            have hbx : bits .xor .u8 (x : Int) ((2 : Int) ^ m8 % 256) = ((x ^^^ 2 ^ m8 : Nat) : Int) := by
              have e : (2 : Int) ^ m8 % 256 = ((2 ^ m8 : Nat) : Int) := by
                rw [show (2 : Int) ^ m8 = ((2 ^ m8 : Nat) : Int) by push_cast; rfl]
                generalize 2 ^ m8 = z8 at hp8
                omega
              rw [e]
              exact u8_xor_nat x (2 ^ m8) hx8 hp8
            generalize hy : x ^^^ 2 ^ m8 = y at *
            have hz := (HRW.out.below (below_drew (Below.refl _ wr))).frozen (fr + d)
            have HCH := Lib.hid (show decide (change % 2 ^ (K + 1) ≠ 0) = true from decide_eq_true ((flips_any change (K + 1)).2 ⟨K, by omega, hodd⟩))
            have HFL := Lib.hid (show flipsM bs fr bt change (K + 1) = (flipsM bs fr bt change K).set (fr + d) y by
              show (if change / 2 ^ K % 2 = 1 then _ else _) = _
              rw [if_pos hodd, hdv, hmv, hx, hy])
            have HRN := Lib.hid ((HRW.out.below (below_drew (Below.refl _ wr))).set (fr + d) (.int .u8 (y : Nat)))
            have HFN := Lib.hid ((HFRM.out.trans (Fr1.of_below (below_drew (Below.refl _ wr)))).trans (Fr1.set g4 (fr + d) wr.drew (.int .u8 (y : Nat))))
            clear hx hdv hmv hfl hy hp8 hodd
            go_wp2_with fail
            go_region
            go_wp2_with fail
            go_roundw
            case rel =>
              refine ⟨K + 1, by omega, by omega, by go_num, by rw [HCH.out], ?_, HFN.out⟩
              have e : u8c ((flipsM bs fr bt change K).set (fr + d) y) = (u8c (flipsM bs fr bt change K)).set (fr + d) (.int .u8 (y : Nat)) := by unfold u8c; rw [List.map_set]
              rw [HFL.out, e]
              exact HRN.out
            case measure => simp [intOf]; omega
          · have ho : (((change : Int) / 2 ^ K).tmod 2 == 1) = false := by
              have e : (change : Int) / 2 ^ K = ((change / 2 ^ K : Nat) : Int) := by push_cast; rfl
              rw [e, show (((change / 2 ^ K : Nat) : Int)).tmod 2 = ((change / 2 ^ K % 2 : Nat) : Int) from rfl]
              simp
              omega
            have HCH := Lib.hid (show decide (change % 2 ^ (K + 1) ≠ 0) = decide (change % 2 ^ K ≠ 0) by
              have := mod_pow_xor change K
              rw [if_neg hodd, Nat.xor_zero] at this
              rw [this])
            have HFL := Lib.hid (show flipsM bs fr bt change (K + 1) = flipsM bs fr bt change K by
              show (if change / 2 ^ K % 2 = 1 then _ else _) = _
              rw [if_neg hodd])
            clear hodd
            generalize hcd : decide (change % 2 ^ K ≠ 0) = cd at *
            go_wp2_with fail
            go_roundw
            case rel => exact ⟨K + 1, by omega, by omega, by go_num, by rw [HCH.out], by rw [HFL.out]; exact HRW.out, HFRM.out⟩
            case measure => simp [intOf]; omega
        · have HBW := Lib.hid (HF.out.trans (HFRM.out.below HGB.out HF.out.size))
          have HEW := Lib.hid (HE1.out.below HBW.out)
          have BXW := Lib.hid (BX1.out.below HBW.out BX1.out.lt)
          have x0 := BXW.out.cell 0
          have hrr := HRW.out.reads HRW.out.lt
          rw [u8c_len, flip_len, HLEN.out] at hrr
          have hlen := HRW.out.len
          rw [u8c_len, flip_len, HLEN.out] at hlen
          have h8' := flip_byte H8.out fr bt change K (by have := HKK.out.2; rw [HLEN.out]; omega)
          have hn3 : n ≤ 9223372036854775807 := by have := HN8.out; omega
          have hcond : (decide ((K : Int) < 32) = false) ∨ (decide ((K : Int) < 32) = true ∧ decide ((bt : Int) + (K : Int) < 8 * (nn : Int)) = false) := by
            by_cases h32 : K < 32
            · exact .inr ⟨decide_eq_true (by omega), decide_eq_false (by omega)⟩
            · exact .inl (decide_eq_false (by omega))
          by_cases hz : change % 2 ^ K = 0
          · obtain ⟨r, t0, t1, t2, t3, t4⟩ := HTK.out
            rw [flips_none bs fr bt change K hz] at hrr h8'
            have HLD := Lib.hid (iload_back (c := c4) HEW.out HG.out t0 t1 t2 t3 t4 k.size HK.out.1 HK.out.2.1 HG.out.fit.room hrr (fun _ => ⟨_, _, rfl⟩) hlen hn3 h8')
            have hch : decide (change % 2 ^ K ≠ 0) = false := decide_eq_false (fun h => h hz)
            rw [hch]
            clear hrr hlen h8' hn3 hz hch t0 t1 t2 t3 t4 hgo
            rcases hcond with hc1 | ⟨hc1, hc2⟩
            all_goals go_wp2_with fail
            all_goals refine HLD.out.mono ?_
            all_goals rintro e w6 ⟨p6, rfl, L6⟩
            all_goals have HB6 := Lib.hid (below_top HBW.out L6.below)
            all_goals clear L6 HLD
            all_goals unfold ptr
            all_goals go_wp2_with fail
            all_goals refine (HNU.out 0 (by decide) _).mono ?_
            all_goals rintro e w7 ⟨rfl, rfl⟩
            all_goals go_wp2_with fail
            all_goals go_ret
            all_goals exact ⟨rfl, below_top HB1.out HB6.out⟩
          · have HLD := Lib.hid (iload_bad (c := c4) HEW.out (HDM.out K hK HKK.out.2 hz) k.size HK.out.1 HK.out.2.1 hrr (fun _ => ⟨_, _, rfl⟩) hlen hn3 h8')
            have hch : decide (change % 2 ^ K ≠ 0) = true := decide_eq_true hz
            rw [hch]
            clear hrr hlen h8' hn3 hz hch hgo
            rcases hcond with hc1 | ⟨hc1, hc2⟩
            all_goals go_wp2_with fail
            all_goals refine HLD.out.mono ?_
            all_goals rintro e w6 ⟨rfl, hb6⟩
            all_goals have HB6 := Lib.hid (below_top HBW.out hb6)
            all_goals have HA6 := Lib.hid (HAW.out _ (HEW.out.below hb6))
            all_goals clear hb6 HLD
            all_goals go_wp2_with fail
            all_goals refine (HNU.out 144 (by decide) _).mono ?_
            all_goals rintro e w7 ⟨rfl, rfl⟩
            all_goals go_wp2_with fail
            all_goals refine HA6.out.mono ?_
            all_goals rintro e w8 ⟨rfl, hb8⟩
            all_goals have HB8 := Lib.hid (below_top HB6.out hb8)
            all_goals clear hb8
            all_goals go_wp2_with fail
            all_goals go_ret
            all_goals exact ⟨rfl, below_top HB1.out HB8.out⟩
  · have hd1 : decide ((wN : Int) < 3) = false := decide_eq_false (by omega)
    go_wp2_with fail
    have e1 : (aN : Int) % (8 * (4 * (k.h.words.length : Int))) = ((aN % (8 * (4 * k.h.words.length)) : Nat) : Int) := by push_cast; rfl
    have e2 : (4 * (k.h.words.length : Int)) = ((4 * k.h.words.length : Nat) : Int) := by push_cast; rfl
    rw [e1, e2]
    have HBT := Lib.hid (show aN % (8 * (4 * k.h.words.length)) < 8 * (4 * k.h.words.length) from Nat.mod_lt _ (by omega))
    have HNN := Lib.hid (show 4 * k.h.words.length ≤ 8388608 by omega)
    have HIN := Lib.hid (show 13 + 4 * k.h.words.length ≤ 273 + 4 * k.h.words.length by omega)
    have HDM := Lib.hid (fun (K : Nat) (h1 : K ≤ 32) (h2 : aN % (8 * (4 * k.h.words.length)) + K ≤ 8 * (4 * k.h.words.length)) (h3 : change % 2 ^ K ≠ 0) => flip_old HG.out.fit h1 h2 h3)
    have HTK := Lib.hid (show ∃ r, takeR k.h.oldI = .ok r ∧ r.words = k.h.words ∧ r.roots = k.h.roots ∧ r.last = k.h.last ∧ r.wrong = false from ⟨_, take_old HG.out.fit, rfl, rfl, rfl, rfl⟩)
    have H8 := Lib.hid (oldI_byte k.h)
    have HLEN := HLO
    have HO := HO3
    have HN8 := Lib.hid (show 273 + 4 * k.h.words.length ≤ 8388608 by omega)
    have HF := HF3
    clear e1 e2 HO3 HLO HF3
    generalize k.h.oldI = bs at *
    generalize aN % (8 * (4 * k.h.words.length)) = bt at *
    generalize 273 + 4 * k.h.words.length = n at *
    generalize 4 * k.h.words.length = nn at *
    clear hw1 hw2 hw3
    have HGB := HG2
    go_loopw [16, 17] (fun ch kv wr => ∃ K : Nat, K ≤ 32 ∧ bt + K ≤ 8 * nn ∧ kv = .int .i64 K ∧ ch = .bool (decide (change % 2 ^ K ≠ 0)) ∧ Row wr g2 5 c2 (u8c (flipsM bs 13 bt change K)) ∧ Fr1 g2 w3 wr) (fun _ kv _ => 32 - (intOf kv).toNat)
    case atStart => exact ⟨0, by omega, by have := HBT.out; omega, rfl, by simp [Nat.mod_one], HO.out, Fr1.refl _ _⟩
    case round =>
      obtain ⟨K, hK, hbK, rfl, rfl, hrow, hfrm⟩ := hrel
      have HRW := Lib.hid hrow
      have HFRM := Lib.hid hfrm
      have HKK := Lib.hid (And.intro hK hbK)
      have hn1 := HIN.out
      have hn2 := HNN.out
      have hn8 := HN8.out
      have hbt := HBT.out
      clear hrow hfrm hbK
      by_cases hgo : K < 32 ∧ bt + K < 8 * nn
      · obtain ⟨hg1, hg2⟩ := hgo
        by_cases hodd : change / 2 ^ K % 2 = 1
        · have hi : 13 + (bt + K) / 8 < n := by omega
          have hcl := HRW.out.cell (i := 13 + (bt + K) / 8) (u := .int .u8 ((flipsM bs 13 bt change K).getD (13 + (bt + K) / 8) 0 : Nat)) (u8c_get (by rw [flip_len, HLEN.out]; exact hi))
          have hfl := flip_len bs 13 bt change K
          have hx8 : (flipsM bs 13 bt change K).getD (13 + (bt + K) / 8) 0 < 256 := by
            have := flip_byte H8.out 13 bt change K (by rw [HLEN.out]; omega)
            rw [List.getD_eq_getElem?_getD, List.getElem?_eq_getElem (by rw [hfl, HLEN.out]; exact hi)]
            exact this _ (List.getElem_mem _)
          have ho : (((change : Int) / 2 ^ K).tmod 2 == 1) = true := by
            have e : (change : Int) / 2 ^ K = ((change / 2 ^ K : Nat) : Int) := by push_cast; rfl
            rw [e, show (((change / 2 ^ K : Nat) : Int)).tmod 2 = ((change / 2 ^ K % 2 : Nat) : Int) from rfl, hodd]
            rfl
          have ek : ((bt : Int) + (K : Int)) / 8 = (((bt + K) / 8 : Nat) : Int) := by omega
          have em : ((bt : Int) + (K : Int)) % 8 = (((bt + K) % 8 : Nat) : Int) := by omega
          generalize hx : (flipsM bs 13 bt change K).getD (13 + (bt + K) / 8) 0 = x at *
          generalize hdv : (bt + K) / 8 = d at *
          generalize hmv : (bt + K) % 8 = m8 at *
          have hm8 : m8 < 8 := by omega
          have hp8 : 2 ^ m8 < 256 := Nat.pow_lt_pow_right (by decide) hm8
          have hbx : bits .xor .u8 (x : Int) ((2 : Int) ^ m8 % 256) = ((x ^^^ 2 ^ m8 : Nat) : Int) := by
            have e : (2 : Int) ^ m8 % 256 = ((2 ^ m8 : Nat) : Int) := by
              rw [show (2 : Int) ^ m8 = ((2 ^ m8 : Nat) : Int) by push_cast; rfl]
              generalize 2 ^ m8 = z8 at hp8
              omega
            rw [e]
            exact u8_xor_nat x (2 ^ m8) hx8 hp8
          generalize hy : x ^^^ 2 ^ m8 = y at *
          have hz := (HRW.out.below (below_drew (Below.refl _ wr))).frozen (13 + d)
          have HCH := Lib.hid (show decide (change % 2 ^ (K + 1) ≠ 0) = true from decide_eq_true ((flips_any change (K + 1)).2 ⟨K, by omega, hodd⟩))
          have HFL := Lib.hid (show flipsM bs 13 bt change (K + 1) = (flipsM bs 13 bt change K).set (13 + d) y by
            show (if change / 2 ^ K % 2 = 1 then _ else _) = _
            rw [if_pos hodd, hdv, hmv, hx, hy])
          have HRN := Lib.hid ((HRW.out.below (below_drew (Below.refl _ wr))).set (13 + d) (.int .u8 (y : Nat)))
          have HFN := Lib.hid ((HFRM.out.trans (Fr1.of_below (below_drew (Below.refl _ wr)))).trans (Fr1.set g2 (13 + d) wr.drew (.int .u8 (y : Nat))))
          clear hx hdv hmv hfl hy hp8 hodd
          go_wp2_with fail
          go_region
          go_wp2_with fail
          go_roundw
          case rel =>
            refine ⟨K + 1, by omega, by omega, by go_num, by rw [HCH.out], ?_, HFN.out⟩
            have e : u8c ((flipsM bs 13 bt change K).set (13 + d) y) = (u8c (flipsM bs 13 bt change K)).set (13 + d) (.int .u8 (y : Nat)) := by unfold u8c; rw [List.map_set]
            rw [HFL.out, e]
            exact HRN.out
          case measure => simp [intOf]; omega
        · have ho : (((change : Int) / 2 ^ K).tmod 2 == 1) = false := by
            have e : (change : Int) / 2 ^ K = ((change / 2 ^ K : Nat) : Int) := by push_cast; rfl
            rw [e, show (((change / 2 ^ K : Nat) : Int)).tmod 2 = ((change / 2 ^ K % 2 : Nat) : Int) from rfl]
            simp
            omega
          have HCH := Lib.hid (show decide (change % 2 ^ (K + 1) ≠ 0) = decide (change % 2 ^ K ≠ 0) by
            have := mod_pow_xor change K
            rw [if_neg hodd, Nat.xor_zero] at this
            rw [this])
          have HFL := Lib.hid (show flipsM bs 13 bt change (K + 1) = flipsM bs 13 bt change K by
            show (if change / 2 ^ K % 2 = 1 then _ else _) = _
            rw [if_neg hodd])
          clear hodd
          generalize hcd : decide (change % 2 ^ K ≠ 0) = cd at *
          go_wp2_with fail
          go_roundw
          case rel => exact ⟨K + 1, by omega, by omega, by go_num, by rw [HCH.out], by rw [HFL.out]; exact HRW.out, HFRM.out⟩
          case measure => simp [intOf]; omega
      · have HBW := Lib.hid (HF.out.trans (HFRM.out.below HGB.out HF.out.size))
        have HEW := Lib.hid (HE1.out.below HBW.out)
        have BXW := Lib.hid (BX1.out.below HBW.out BX1.out.lt)
        have x0 := BXW.out.cell 0
        have hrr := HRW.out.reads HRW.out.lt
        rw [u8c_len, flip_len, HLEN.out] at hrr
        have hlen := HRW.out.len
        rw [u8c_len, flip_len, HLEN.out] at hlen
        have h8' := flip_byte H8.out 13 bt change K (by have := HKK.out.2; rw [HLEN.out]; omega)
        have hn3 : n ≤ 9223372036854775807 := by have := HN8.out; omega
        have hcond : (decide ((K : Int) < 32) = false) ∨ (decide ((K : Int) < 32) = true ∧ decide ((bt : Int) + (K : Int) < 8 * (nn : Int)) = false) := by
          by_cases h32 : K < 32
          · exact .inr ⟨decide_eq_true (by omega), decide_eq_false (by omega)⟩
          · exact .inl (decide_eq_false (by omega))
        by_cases hz : change % 2 ^ K = 0
        · obtain ⟨r, t0, t1, t2, t3, t4⟩ := HTK.out
          rw [flips_none bs 13 bt change K hz] at hrr h8'
          have HLD := Lib.hid (iload_back (c := c2) HEW.out HG.out t0 t1 t2 t3 t4 k.size HK.out.1 HK.out.2.1 HG.out.fit.room hrr (fun _ => ⟨_, _, rfl⟩) hlen hn3 h8')
          have hch : decide (change % 2 ^ K ≠ 0) = false := decide_eq_false (fun h => h hz)
          rw [hch]
          clear hrr hlen h8' hn3 hz hch t0 t1 t2 t3 t4 hgo
          rcases hcond with hc1 | ⟨hc1, hc2⟩
          all_goals go_wp2_with fail
          all_goals refine HLD.out.mono ?_
          all_goals rintro e w6 ⟨p6, rfl, L6⟩
          all_goals have HB6 := Lib.hid (below_top HBW.out L6.below)
          all_goals clear L6 HLD
          all_goals unfold ptr
          all_goals go_wp2_with fail
          all_goals refine (HNU.out 0 (by decide) _).mono ?_
          all_goals rintro e w7 ⟨rfl, rfl⟩
          all_goals go_wp2_with fail
          all_goals go_ret
          all_goals exact ⟨rfl, below_top HB1.out HB6.out⟩
        · have HLD := Lib.hid (iload_bad (c := c2) HEW.out (HDM.out K hK HKK.out.2 hz) k.size HK.out.1 HK.out.2.1 hrr (fun _ => ⟨_, _, rfl⟩) hlen hn3 h8')
          have hch : decide (change % 2 ^ K ≠ 0) = true := decide_eq_true hz
          rw [hch]
          clear hrr hlen h8' hn3 hz hch hgo
          rcases hcond with hc1 | ⟨hc1, hc2⟩
          all_goals go_wp2_with fail
          all_goals refine HLD.out.mono ?_
          all_goals rintro e w6 ⟨rfl, hb6⟩
          all_goals have HB6 := Lib.hid (below_top HBW.out hb6)
          all_goals have HA6 := Lib.hid (HAW.out _ (HEW.out.below hb6))
          all_goals clear hb6 HLD
          all_goals go_wp2_with fail
          all_goals refine (HNU.out 144 (by decide) _).mono ?_
          all_goals rintro e w7 ⟨rfl, rfl⟩
          all_goals go_wp2_with fail
          all_goals refine HA6.out.mono ?_
          all_goals rintro e w8 ⟨rfl, hb8⟩
          all_goals have HB8 := Lib.hid (below_top HB6.out hb8)
          all_goals clear hb8
          all_goals go_wp2_with fail
          all_goals go_ret
          all_goals exact ⟨rfl, below_top HB1.out HB8.out⟩
end Go.Proofs.YtfpleoblehfhbaaGreatDoor
