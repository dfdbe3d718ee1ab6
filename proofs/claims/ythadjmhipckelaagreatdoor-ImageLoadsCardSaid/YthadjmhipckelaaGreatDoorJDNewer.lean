import Derived.Test.YthadjmhipckelaaGreatDoorJDNwA
import Derived.Deep.CutBlock
set_option linter.unusedVariables false
set_option linter.unusedSimpArgs false
namespace Go.Proofs.YthadjmhipckelaaGreatDoor
section
open Go.RowKit
attribute [local go_sem] Oper.semAt_some
theorem own_baseD {w : World} {base base' : Nat} {e : TypeId} {size : Nat} {v : Value} {n : Nat} {xs : List Value} (h : w.ownsRow base e size v n xs) (hb : base' ≤ base) : w.ownsRow base' e size v n xs :=
 ⟨h.1, h.2.imp id fun ⟨g, cap, cur, h1, h2, h3⟩ => ⟨g, cap, cur, h1, Nat.le_trans hb h2, h3⟩⟩
set_option maxRecDepth 100000 in
set_option maxHeartbeats 16000000 in
theorem newer_any {w : World} {A : Option Addr} {n c : Nat} {bs : List Nat} (hs : Spares w) (hr : Reads w w.heap.size 1 A n (u8c bs)) (hc : n ≤ c) (hn : n ≤ 9000000) (h8 : ∀ x ∈ bs, x < 256) :
 Calls Tryz.prog 24 #[.slice A n c] w (NewerP bs w) := by
 have hbl : bs.length = n := by have := hr.1; rw [u8c_len] at this; omega
 have HSC := Lib.hid (sectionsD_any (c := c) hr hc hn h8)
 have HSP := Lib.hid hs
 clear hr hs
 go_enter Tryz.func24, Tryz.ntmps24
 go_wp2_with fail
 refine HSC.out.mono ?_
 rintro e w1 ⟨hb1, hm⟩
 clear HSC
 cases hsec : rdSecs [72, 79, 82, 90] bs with
 | error E =>
   rw [hsec] at hm
   simp only at hm
   subst hm
   have hE : E ≠ 0 := rdSecs_err hsec
   have he : ((E : Int) != 0) = true := by simp; omega
   have HF := Lib.hid (NewerP.err hb1 (show newM bs = .error E from by unfold newM; rw [hsec]))
   clear hsec hE hb1
   go_wp2_with fail
   go_ret2
   exact HF.out
 | ok q =>
   obtain ⟨ps, rest⟩ := q
   rw [hsec] at hm
   simp only at hm
   by_cases hrest : rest = []
   rotate_left
   ·rw [if_neg hrest] at hm
    subst hm
    have HF := Lib.hid (NewerP.err hb1 (show newM bs = .error 143 from by unfold newM; rw [hsec]; simp only [ne_eq]; rw [if_pos hrest]))
    clear hsec hb1 hrest
    go_wp2_with fail
    go_ret2
    exact HF.out
   subst hrest
   rw [if_pos rfl] at hm
   obtain ⟨vp, vs, rfl, hown, hpay, hpl⟩ := hm
   obtain ⟨gp, cp, rfl, hrow, -, hgp⟩ := Row.of_any hown (by omega)
   match ps, hpl with
   | [p0, p1, p2, p3], _ =>
     obtain ⟨A0, c0, v0, k0, r0, y0⟩ := hpay.2 0 p0 rfl
     obtain ⟨A1, c1, v1, k1, r1, y1⟩ := hpay.2 1 p1 rfl
     obtain ⟨A2, c2, v2, k2, r2, y2⟩ := hpay.2 2 p2 rfl
     obtain ⟨A3, c3, v3, k3, r3, y3⟩ := hpay.2 3 p3 rfl
     have hpb := rdSecs_len hsec h8
     have HV := Lib.hid (show vs[0]? = some (.slice A0 p0.length c0) ∧ vs[1]? = some (.slice A1 p1.length c1) ∧ vs[2]? = some (.slice A2 p2.length c2) ∧ vs[3]? = some (.slice A3 p3.length c3) from ⟨v0, v1, v2, v3⟩)
     have HK := Lib.hid (show p0.length ≤ c0 ∧ p1.length ≤ c1 ∧ p2.length ≤ c2 ∧ p3.length ≤ c3 from ⟨k0, k1, k2, k3⟩)
     have HY := Lib.hid (show (∀ x ∈ p0, x < 256) ∧ (∀ x ∈ p1, x < 256) ∧ (∀ x ∈ p2, x < 256) from ⟨y0, y1, y2⟩)
     have HRD := Lib.hid (fun (W' : World) (h : PayV W' w.heap.size vs [p0, p1, p2, p3]) => show Reads W' w.heap.size 1 A0 p0.length (u8c p0) ∧ Reads W' w.heap.size 1 A1 p1.length (u8c p1) ∧ Reads W' w.heap.size 1 A2 p2.length (u8c p2) from by
      obtain ⟨a0, d0, e0, _, f0, _⟩ := h.2 0 p0 rfl
      obtain ⟨a1, d1, e1, _, f1, _⟩ := h.2 1 p1 rfl
      obtain ⟨a2, d2, e2, _, f2, _⟩ := h.2 2 p2 rfl
      rw [v0] at e0; rw [v1] at e1; rw [v2] at e2
      injection e0 with e0; injection e1 with e1; injection e2 with e2
      injection e0 with e0 _ _; injection e1 with e1 _ _; injection e2 with e2 _ _
      exact ⟨by rw [e0]; exact f0, by rw [e1]; exact f1, by rw [e2]; exact f2⟩)
     have HER := Lib.hid (show partsM p0 p1 p2 p3 = none → newM bs = .error 143 from fun h => partsM_err hsec h)
     have HOKM := Lib.hid (fun i => show partsM p0 p1 p2 p3 = some i → newM bs = .ok i from fun h => partsM_ok hsec h)
     have HRW := Lib.hid hrow
     have HPY := Lib.hid hpay
     have HB1 := Lib.hid hb1
     have q0 := hrow.cell v0
     have hgw : gp < w1.heap.size := hrow.lt
     have hw1 : w.heap.size ≤ w1.heap.size := hb1.size
     clear v0 v1 v2 v3 k0 k1 k2 k3 y0 y1 y2 y3 r0 r1 r2 r3 hsec hown hpay hrow hb1
     go_upto_region 5 with fail
     clear q0
     have hb2 : Below w1.heap.size w1 (w1.alloc (.cells #[.slice A0 p0.length c0, .bool false] 96)) := (Below.refl _ _).alloc (Nat.le_refl _) _
     have R2 : RdD (w1.alloc (.cells #[.slice A0 p0.length c0, .bool false] 96)) w.heap.size w1.heap.size A0 c0 p0 false := ⟨Blk.new w1 _ _, HK.out.1, ((HRD.out w1 HPY.out).1).below (hb2.mono hw1), hw1, HY.out.1⟩
     have HRW2 := Lib.hid (HRW.out.below hb2)
     have HPY2 := Lib.hid (HPY.out.below (hb2.mono hw1))
     have HF2 := Lib.hid (below_top HB1.out hb2)
     have HN := Lib.hid (rnumberD_any R2 (by omega))
     have hg12 : w1.heap.size < (w1.alloc (.cells #[.slice A0 p0.length c0, .bool false] 96)).heap.size := by simp
     clear hb2 R2 HRW HPY HB1
     generalize w1.alloc (.cells #[.slice A0 p0.length c0, .bool false] 96) = w2 at *
     generalize w1.heap.size = g1 at *
     go_wp2_with fail
     refine HN.out.mono ?_
     rintro e w4 ⟨la, A4, c4, q4, d4, rfl, hla, R4, F4, D4, e4, he4⟩
     have HD4 := Lib.hid D4
     have hl4 : q4.length ≤ 9000000 := by have := hpb.1; rw [he4, List.length_append] at this; omega
     have hg14 : g1 < w4.heap.size := R4.box.lt
     have hb5 : Below w4.heap.size w4 (w4.alloc (.cells #[.int .i64 2, .int .i64 0, .int .i64 0, .int .u32 (la : Nat), .slice none 0 0, .slice none 0 0, .bool false] 63)) := (Below.refl _ _).alloc (Nat.le_refl _) _
     have HS5 := Lib.hid (show NwS w (w4.alloc (.cells #[.int .i64 2, .int .i64 0, .int .i64 0, .int .u32 (la : Nat), .slice none 0 0, .slice none 0 0, .bool false] 63)) gp cp vs [p0, p1, p2, p3] w4.heap.size (RdC (.int .i64 2) (.int .i64 0) (.int .i64 0) (.int .u32 (la : Nat)) (.slice none 0 0) (.slice none 0 0) false) from
      ⟨(HRW2.out.same (F4.same _ HRW2.out.lt (by omega))).below hb5, (HPY2.out.below (F4.below hw1 (by omega))).below (hb5.mono (by have := F4.size; omega)), Blk.new w4 _ _, below_top (below_fr1 HF2.out F4 hw1) hb5, hgp, by have := F4.size; omega⟩)
     have HR5 := Lib.hid (R4.below hb5)
     clear hb5 HN R4 F4 D4 he4 e4 HRW2 HPY2 HF2
     go_upto_region 6 with fail
     have hx45 : w4.heap.size < (w4.alloc (.cells #[.int .i64 2, .int .i64 0, .int .i64 0, .int .u32 (la : Nat), .slice none 0 0, .slice none 0 0, .bool false] 63)).heap.size := by simp
     generalize w4.alloc (.cells #[.int .i64 2, .int .i64 0, .int .i64 0, .int .u32 (la : Int), .slice none 0 0, .slice none 0 0, .bool false] 63) = w5 at *
     generalize w4.heap.size = xg at *
     have HN := Lib.hid (rnumberD_any HR5.out hl4)
     go_wp2_with fail
     refine HN.out.mono ?_
     rintro e w6 ⟨many, A6, c6, q6, d6, rfl, hmany, R6, F6, D6, e6, he6⟩
     have HD6 := Lib.hid D6
     have HS6 := Lib.hid (HS5.out.read F6 (by omega) (by omega) hw1)
     have r0 := R6.box.cell 0
     have r1 := R6.box.cell 1
     clear HN R6 F6 D6 he6 e6 HR5 HS5
     cases d6 with
     | true =>
       have HF := Lib.hid (NewerP.err HS6.out.fr (show newM bs = .error 143 from HER.out (head_err HD4.out HD6.out (.inl rfl))))
       clear HS6 HER HOKM HRD HD4 HD6
       go_wp2_with fail
       go_ret2
       exact HF.out
     | false =>
       obtain ⟨hd4, h6⟩ := HD6.out.1 rfl
       obtain ⟨_, h4⟩ := HD4.out.1 hd4
       have r0' : w6.cell? ⟨g1, 0, none⟩ = some (.slice A6 q6.length c6) := r0
       obtain ⟨lq, hlq⟩ : ∃ l, l = q6.length := ⟨_, rfl⟩
       rw [← hlq] at r0'
       clear r0
       have HLQ := Lib.hid hlq
       clear hlq
       by_cases hq6 : lq = 0
       rotate_left
       ·have hd0 : decide (0 < (lq : Int)) = true := decide_eq_true (by omega)
        have hlp : 0 < lq := by omega
        have HF := Lib.hid (NewerP.err HS6.out.fr (show newM bs = .error 143 from HER.out (head_err HD4.out HD6.out (.inr (fun h => hq6 (by rw [HLQ.out, h]; rfl))))))
        clear HS6 HER HOKM HRD HD4 HD6 h4 h6 hd4 hq6
        go_wp2_with fail
        go_ret2
        exact HF.out
       have hd0 : decide (0 < (lq : Int)) = false := decide_eq_false (by omega)
       have hq0 : q6 = [] := List.eq_nil_of_length_eq_zero (by rw [← HLQ.out]; exact hq6)
       have HH1 := Lib.hid (show rdNum p0 = some (la, q4) ∧ rdNum q4 = some (many, []) from ⟨h4, by rw [h6, hq0]⟩)
       clear h4 h6 hd4 HD4 HD6 hq0
       go_upto_region 9 with fail
       clear r0' r1 HLQ hq6 hd0
       have hgp6 : gp < w6.heap.size := HS6.out.row.lt
       have hxg6 : xg < w6.heap.size := HS6.out.box.lt
       have hw6 : w.heap.size ≤ w6.heap.size := HS6.out.fr.size
       have q1 := HS6.out.row.cell HV.out.2.1
       have hb7 : Below w6.heap.size w6 (w6.alloc (.cells #[.slice A1 p1.length c1, .bool false] 96)) := (Below.refl _ _).alloc (Nat.le_refl _) _
       have HR7 := Lib.hid (show RdD (w6.alloc (.cells #[.slice A1 p1.length c1, .bool false] 96)) w.heap.size w6.heap.size A1 c1 p1 false from ⟨Blk.new w6 _ _, HK.out.2.1, ((HRD.out w6 HS6.out.pay).2.1).below (hb7.mono hw6), hw6, HY.out.2.1⟩)
       have HS7 := Lib.hid (HS6.out.below hb7)
       clear HS6 hb7
       go_upto_block 0 with fail
       clear q1
       have hW67 : w6.heap.size < (w6.alloc (.cells #[.slice A1 p1.length c1, .bool false] 96)).heap.size := by simp
       generalize w6.alloc (.cells #[.slice A1 p1.length c1, .bool false] 96) = W7 at *
       generalize w6.heap.size = g2 at *
       obtain ⟨i0, hi0, hz0, hz1, hz2⟩ := info_parts info_th
       go_cut [10, 11] (fun v a wx => ∃ (k : Nat) (xs : List Value) (at_ : Nat) (A' : Option Addr) (c' : Nat) (bs' : List Nat) (bad' : Bool), a = .int .i64 at_ ∧ NwS w wx gp cp vs [p0, p1, p2, p3] xg (RdC (.int .i64 2) (.int .i64 0) (.int .i64 0) (.int .u32 (la : Nat)) (.slice none 0 0) (.slice none 0 0) false) ∧ RdD wx w.heap.size g2 A' c' bs' bad' ∧ wx.ownsRow W7.heap.size 105 8 v k xs ∧ W7.heap.size ≤ wx.heap.size ∧ k ≤ 9000001 ∧ at_ ≤ 1 + k * 65538 ∧
        (bad' = false → ∃ us : List Wr, xs = wrL us ∧ us.length = k ∧ k + ([] : List Nat).length ≤ 9000000 ∧ WrN wx W7.heap.size v us ∧ rdObjs k p1 = some (us.map Wr.th, []) ∧ at_ = placeT (us.map Wr.th) ∧ ∀ i, i < us.length → (us.getD i default).pl = placeT ((us.map Wr.th).take i)) ∧ (bad' = true → ∀ m l r, rdObjs m p1 = some (l, r) → r ≠ []))
       case first =>
        go_wp2_with fail
        go_loopw [10, 11] (fun v a wr => ∃ (k : Nat) (xs : List Value) (at_ : Nat) (A' : Option Addr) (c' : Nat) (bs' : List Nat) (bad' : Bool), a = .int .i64 at_ ∧ NwS w wr gp cp vs [p0, p1, p2, p3] xg (RdC (.int .i64 2) (.int .i64 0) (.int .i64 0) (.int .u32 (la : Nat)) (.slice none 0 0) (.slice none 0 0) false) ∧ RdD wr w.heap.size g2 A' c' bs' bad' ∧ wr.ownsRow W7.heap.size 105 8 v k xs ∧ W7.heap.size ≤ wr.heap.size ∧ k ≤ 9000001 ∧ at_ ≤ 1 + k * 65538 ∧
         (bad' = false → ∃ us : List Wr, xs = wrL us ∧ us.length = k ∧ k + (bs').length ≤ 9000000 ∧ WrN wr W7.heap.size v us ∧ rdObjs k p1 = some (us.map Wr.th, bs') ∧ at_ = placeT (us.map Wr.th) ∧ ∀ i, i < us.length → (us.getD i default).pl = placeT ((us.map Wr.th).take i)) ∧ (bad' = true → ∀ m l r, rdObjs m p1 = some (l, r) → r ≠ [])) (fun _ a _ => 600000000000 - (intOf a).toNat)
        case atStart => exact ⟨0, [], 1, A1, c1, p1, false, rfl, HS7.out, HR7.out, ⟨rfl, .inl ⟨rfl, rfl⟩⟩, Nat.le_refl _, by omega, by omega, (fun _ => ⟨[], rfl, rfl, by omega, (fun u hu => by cases hu), rfl, rfl, fun i hi => by simp at hi⟩), (fun h => by cases h)⟩
        case round =>
         clear HS7 HR7 hpb hc hn hbl hl4 hla hmany hg14 hx45 hg12 hgw hw1 hgp
         obtain ⟨k, xs, at_, A', c', bs', bad', rfl, S, R, O, hW, hk9, hat, hgo, hno⟩ := hrel
         have rr0 : wr.cell? ⟨g2, 0, none⟩ = some (.slice A' bs'.length c') := R.box.cell 0
         have rr1 : wr.cell? ⟨g2, 1, none⟩ = some (.bool bad') := R.box.cell 1
         obtain ⟨lb, hlb⟩ : ∃ l, l = bs'.length := ⟨_, rfl⟩
         rw [← hlb] at rr0
         have HS := Lib.hid S
         have HR := Lib.hid R
         have HO := Lib.hid O
         have HGO := Lib.hid hgo
         have HNN := Lib.hid hno
         have HLB := Lib.hid hlb
         clear S R O hgo hno hlb
         by_cases hl0 : lb = 0
         ·have hd0 : decide (0 < (lb : Int)) = false := decide_eq_false (by omega)
          cases bad' with
          | true =>
            have HX := Lib.hid (HNN.out rfl)
            clear HGO HNN
            go_wp2_with fail
            go_meet
            exact ⟨k, xs, at_, A', c', bs', true, rfl, HS.out, HR.out, HO.out, hW, hk9, hat, (fun h => by cases h), fun _ => HX.out⟩
          | false =>
            have hb0 : bs' = [] := List.eq_nil_of_length_eq_zero (by rw [← HLB.out]; omega)
            have HX := Lib.hid (HGO.out rfl)
            rw [hb0] at HX
            clear HGO HNN hb0
            go_wp2_with fail
            go_meet
            exact ⟨k, xs, at_, A', c', bs', false, rfl, HS.out, HR.out, HO.out, hW, hk9, hat, (fun _ => HX.out), fun h => by cases h⟩
         ·have hd0 : decide (0 < (lb : Int)) = true := decide_eq_true (by omega)
          have hlp : 0 < lb := by omega
          cases bad' with
          | true =>
            have HX := Lib.hid (HNN.out rfl)
            clear HGO HNN
            go_wp2_with fail
            go_meet
            exact ⟨k, xs, at_, A', c', bs', true, rfl, HS.out, HR.out, HO.out, hW, hk9, hat, (fun h => by cases h), fun _ => HX.out⟩
          | false =>
            obtain ⟨us, hxs, hul, hkb, hN, hK, hpl, hpi⟩ := HGO.out rfl
            subst hxs
            have hbl : bs'.length ≤ 9000000 := by omega
            have hu1 : us.length ≤ 9000000 := by omega
            have HUL := Lib.hid hul; have HKB := Lib.hid hkb; have HN := Lib.hid hN; have HK2 := Lib.hid hK; have HPL := Lib.hid hpl; have HPI := Lib.hid hpi
            have HBY := Lib.hid (fun x (hx : x ∈ bs') => HR.out.b8 x hx)
            have HB0 := Lib.hid (show bs' ≠ [] from fun e => hl0 (by rw [HLB.out, e]; rfl))
            have HT := Lib.hid (thing_any HR.out hbl)
            clear hul hkb hN hK hpl hpi HGO HNN hl0
            go_wp2_with fail
            refine HT.out.mono ?_
            rintro e w8 ⟨v8, A8, c8, bs8, bad8, rfl, ⟨x8, Af, nf, cf, hx65, rfl⟩, R8, F8, hbad, hgood⟩
            have HOL := Lib.hid (show ∀ q, u10.ownBlock = some q → q < wr.heap.size from fun q hq => (HO.out.lt q hq).2)
            have HS8 := Lib.hid (HS.out.read F8 (by omega) (by omega) (by omega))
            have HO8 := Lib.hid (own_sameI' HO.out (fun q hq => F8.same q (HO.out.lt q hq).2 (by have := (HO.out.lt q hq).1; omega)))
            have HN8 := Lib.hid (HN.out.read (w' := w8) F8.size (fun q h1 h2 => F8.same q h1 (by omega)))
            have hW8 : W7.heap.size ≤ w8.heap.size := Nat.le_trans hW F8.size
            have hwr8 : wr.heap.size ≤ w8.heap.size := F8.size
            have HR8 := Lib.hid R8
            have HBAD := Lib.hid hbad; have HGOOD := Lib.hid hgood
            clear HT HS HO HN HR R8 F8 hbad hgood rr0 rr1
            unfold wrV wrC
            have hb9 : Below w8.heap.size w8 (w8.alloc (.cells #[.int .i64 x8.size, .int .i64 x8.fmt, .int .i64 x8.spare, .int .u32 0, .int .u32 x8.ser, .int .u32 x8.cls, .slice Af nf cf, .int .i64 ((0 : Nat) : Int)] 105)) := (Below.refl _ _).alloc (Nat.le_refl _) _
            have B9 := Lib.hid (Blk.new w8 105 #[.int .i64 x8.size, .int .i64 x8.fmt, .int .i64 x8.spare, .int .u32 0, .int .u32 x8.ser, .int .u32 x8.cls, .slice Af nf cf, .int .i64 ((0 : Nat) : Int)])
            have HB9 := Lib.hid hb9
            have hs89 : w8.heap.size < (w8.alloc (.cells #[.int .i64 x8.size, .int .i64 x8.fmt, .int .i64 x8.spare, .int .u32 0, .int .u32 x8.ser, .int .u32 x8.cls, .slice Af nf cf, .int .i64 ((0 : Nat) : Int)] 105)).heap.size := by simp
            clear hb9
            go_upto_region 14 with fail
            generalize w8.alloc (.cells #[.int .i64 x8.size, .int .i64 x8.fmt, .int .i64 x8.spare, .int .u32 0, .int .u32 x8.ser, .int .u32 x8.cls, .slice Af nf cf, .int .i64 ((0 : Nat) : Int)] 105) = w9 at *
            have q7 := B9.out.cell 7
            have y7 := B9.out.frozen 7
            have B10 := Lib.hid (show Blk (w9.setCell ⟨w8.heap.size, 7, none⟩ (.int .i64 (at_ : Nat))) w8.heap.size 105 (thC x8 (.slice Af nf cf) at_).toArray from B9.out.set_ 7 (.int .i64 (at_ : Nat)))
            have HB10 := Lib.hid (show Below w8.heap.size w8 (w9.setCell ⟨w8.heap.size, 7, none⟩ (.int .i64 (at_ : Nat))) from HB9.out.setCell (p := ⟨w8.heap.size, 7, none⟩) (Nat.le_refl _) _)
            have hs10 : w8.heap.size < (w9.setCell ⟨w8.heap.size, 7, none⟩ (.int .i64 (at_ : Nat))).heap.size := by simp [World.setCell]; exact hs89
            go_upto_region 15 with fail
            generalize w9.setCell ⟨w8.heap.size, 7, none⟩ (.int .i64 (at_ : Int)) = w10 at *
            clear q7 y7 B9 HB9 hs89
            have HS10 := Lib.hid (HS8.out.below HB10.out)
            have HO10 := Lib.hid (own_sameI' HO8.out (fun q hq => HB10.out.block q (HO8.out.lt q hq).2))
            have HN10 := Lib.hid (HN8.out.read HB10.out.size (fun q h1 _ => HB10.out.block q h1))
            have HR10 := Lib.hid (HR8.out.below HB10.out)
            have o0 : w10.cell? ⟨w8.heap.size, 0, none⟩ = some (.int .i64 x8.size) := B10.out.cell 0
            have o1 : w10.cell? ⟨w8.heap.size, 1, none⟩ = some (.int .i64 x8.fmt) := B10.out.cell 1
            have o2 : w10.cell? ⟨w8.heap.size, 2, none⟩ = some (.int .i64 x8.spare) := B10.out.cell 2
            have o3 : w10.cell? ⟨w8.heap.size, 3, none⟩ = some (.int .u32 0) := B10.out.cell 3
            have o4 : w10.cell? ⟨w8.heap.size, 4, none⟩ = some (.int .u32 x8.ser) := B10.out.cell 4
            have o5 : w10.cell? ⟨w8.heap.size, 5, none⟩ = some (.int .u32 x8.cls) := B10.out.cell 5
            have o6 : w10.cell? ⟨w8.heap.size, 6, none⟩ = some (.slice Af nf cf) := B10.out.cell 6
            have o7 : w10.cell? ⟨w8.heap.size, 7, none⟩ = some (.int .i64 at_) := B10.out.cell 7
            obtain ⟨sz, hsz⟩ : ∃ n, n = x8.size := ⟨_, rfl⟩
            replace o0 : w10.cell? ⟨w8.heap.size, 0, none⟩ = some (.int .i64 (sz : Int)) := by rw [hsz]; exact o0
            have hz65 : sz ≤ 65535 := by rw [hsz]; exact hx65
            have HSZ := Lib.hid hsz
            clear hsz hx65
            have hw0 : wrap64 (sz : Int) = (sz : Int) := wrD0 hz65
            have hw1 : wrap64 (3 + (sz : Int)) = 3 + (sz : Int) := wrD1 hz65
            have hw2 : wrap64 ((at_ : Int) + (3 + (sz : Int))) = (at_ : Int) + (3 + (sz : Int)) := wrD2 hz65 hat hk9
            have HTC := Lib.hid (show ([.int .i64 (sz : Int), .int .i64 x8.fmt, .int .i64 x8.spare, .int .u32 0, .int .u32 x8.ser, .int .u32 x8.cls, .slice Af nf cf, .int .i64 at_] : List Value) = thC x8 (.slice Af nf cf) at_ from by rw [HSZ.out]; rfl)
            generalize hb12 : w8.heap.size = b12 at *
            have hbA : Below w10.heap.size w10 (w10.alloc (.cells #[.int .i64 (sz : Int), .int .i64 x8.fmt, .int .i64 x8.spare, .int .u32 0, .int .u32 x8.ser, .int .u32 x8.cls, .slice Af nf cf, .int .i64 at_] 105)) := (Below.refl _ _).alloc (Nat.le_refl _) _
            have HOA := Lib.hid (own_sameI' HO10.out (fun q hq => hbA.block q (HO10.out.lt q hq).2))
            have HBA := Lib.hid hbA
            have HBD := Lib.hid (And.intro hat (And.intro hk9 hz65))
            have hkl : k ≤ 9000001 := hk9
            clear hbA HS8 HO8 HN8 HR8 B10 hat hz65 hk9
            go_wp2_with (at_builtin; refine wpList_append_any _ rfl (.tmp 82) (.tmp 84) _ rfl W7.heap.size 105 i0 _ 8 72 Tryz.underlying100 hi0 hz0 hz1 hz2 rfl (by omega) u10 k (wrL us) rfl HOA.out (w10.heap.size + 1) (some ⟨w10.heap.size, 0, none⟩) 1 1 [.int .i64 (sz : Int), .int .i64 x8.fmt, .int .i64 x8.spare, .int .u32 0, .int .u32 x8.ser, .int .u32 x8.cls, .slice Af nf cf, .int .i64 at_] rfl (reads_th w10 _ rfl) (by rw [HTC.out]; exact thC_one _ _ _ _ _) (by simp only [maxLen]; omega) (by omega) (by simp; omega) ?_; intro v11 w11 hown11 hg11 hat11)
            have hlow : ∀ q, q < W7.heap.size → w11.heap[q]? = w10.heap[q]? := fun q hq => (hg11.block q (by simp; omega) (fun e => by have := (HOA.out.lt q (by first | exact e | exact e.symm)).1; omega)).trans (HBA.out.block q (by omega))
            have hszA : w10.heap.size ≤ w11.heap.size := Nat.le_trans HBA.out.size hg11.size
            have HS11 := Lib.hid (HS10.out.low (hg11.os.trans HBA.out.os) (hg11.tape.trans HBA.out.tape) (hg11.output.trans HBA.out.output) hszA hlow (by omega) (by omega) (by omega))
            have HR11 := Lib.hid (HR10.out.low (w' := w11) hlow (by omega))
            have HO11 := Lib.hid hown11
            have hW11 : W7.heap.size ≤ w11.heap.size := by omega
            have HGG := Lib.hid (show bad8 = false → ∃ us' : List Wr, wrL us ++ [.int .i64 (sz : Int), .int .i64 x8.fmt, .int .i64 x8.spare, .int .u32 0, .int .u32 x8.ser, .int .u32 x8.cls, .slice Af nf cf, .int .i64 at_] = wrL us' ∧ us'.length = k + 1 ∧ k + 1 + bs8.length ≤ 9000000 ∧ WrN w11 W7.heap.size v11 us' ∧ rdObjs (k + 1) p1 = some (us'.map Wr.th, bs8) ∧ at_ + (3 + sz) = placeT (us'.map Wr.th) ∧ ∀ i, i < us'.length → (us'.getD i default).pl = placeT ((us'.map Wr.th).take i) from fun hb => by
             obtain ⟨t, h1, A, c, heq, hrx, hnx⟩ := HGOOD.out hb
             obtain ⟨e1, e2, e3, e4⟩ := good_snoc heq HK2.out h1 HPL.out HPI.out
             rw [← HTC.out] at e1
             rw [← HSZ.out] at e3
             obtain ⟨f1, f2, f3⟩ := rdObj_ok h1 HBY.out
             have hkb := HKB.out
             refine ⟨_, e1, by rw [List.length_append, HUL.out]; rfl, by omega, ?_, e2, e3, e4⟩
             exact HN10.out.snoc (u := (⟨t.x, A, c, t.fs, at_⟩ : Wr)) (lo := wr.heap.size) ((hrx.below (by rw [hb12]; exact HB10.out)).more (by omega)) hnx hW HOL.out hwr8 hg11 hat11)
            have HBB := Lib.hid (show bad8 = true → ∀ m l r, rdObjs m p1 = some (l, r) → r ≠ [] from fun hb => objs_bad HY.out.2.1 HK2.out HB0.out (HBAD.out hb))
            obtain ⟨hat, hk9, hz65⟩ := HBD.out
            have hkb9 : k + 1 ≤ 9000001 := by have := HKB.out; omega
            have HWD := Lib.hid (wrD3 hz65 hat hkb9)
            have HMS := Lib.hid (wrD4 (sz := sz) hat hk9)
            clear hown11 hg11 hat11 hlow HGOOD HBAD HK2 HPL HPI HN10 HS10 HO10 HR10 HOA HBA HB10 HOL HB0 HUL HKB
            go_roundw
            case rel => exact ⟨k + 1, _, at_ + (3 + sz), A8, c8, bs8, bad8, by first | (rw [hw2]; rfl) | go_num | rfl, HS11.out, HR11.out, HO11.out, hW11, HWD.out.1, HWD.out.2, HGG.out, HBB.out⟩
            case measure => first | (rw [hw2]; exact HMS.out) | (simp only [intOf]; exact HMS.out) | (simp [intOf]; have := HMS.out; omega)
       case rest =>
        obtain ⟨k, xs, at_, A', c', bs', bad1, rfl, S, R, O, hW, hk9, hat, hgo, hno⟩ := hcut
        obtain ⟨AF, cF, rfl⟩ := own_sliceS O
        have q2 := S.row.cell HV.out.2.2.1
        have hwc : w.heap.size ≤ wc.heap.size := S.fr.size
        have hgpc : gp < wc.heap.size := S.row.lt
        have hxgc : xg < wc.heap.size := S.box.lt
        have hg2c : g2 < wc.heap.size := R.box.lt
        have hb9 : Below wc.heap.size wc (wc.alloc (.cells #[.slice A2 p2.length c2, .bool false] 96)) := (Below.refl _ _).alloc (Nat.le_refl _) _
        have HR9 := Lib.hid (show RdD (wc.alloc (.cells #[.slice A2 p2.length c2, .bool false] 96)) w.heap.size wc.heap.size A2 c2 p2 false from ⟨Blk.new wc _ _, HK.out.2.2.1, ((HRD.out wc S.pay).2.2).below (hb9.mono hwc), hwc, HY.out.2.2⟩)
        have HS9 := Lib.hid (S.below hb9)
        have HR1 := Lib.hid (R.below hb9)
        have HO9 := Lib.hid (own_sameI' O (fun q hq => hb9.block q (O.lt q hq).2))
        have HOL := Lib.hid (show ∀ q, (Value.slice AF k cF).ownBlock = some q → q < wc.heap.size from fun q hq => (O.lt q hq).2)
        have HGO := Lib.hid (show bad1 = false → ∃ us : List Wr, xs = wrL us ∧ us.length = k ∧ (∀ u ∈ us, Reads (wc.alloc (.cells #[.slice A2 p2.length c2, .bool false] 96)) wc.heap.size 1 u.A u.fs.length (u32s u.fs) ∧ ∀ a, u.A = some a → W7.heap.size ≤ a.block) ∧ rdObjs k p1 = some (us.map Wr.th, []) ∧ at_ = placeT (us.map Wr.th) ∧ ∀ i, i < us.length → (us.getD i default).pl = placeT ((us.map Wr.th).take i) from fun h => by
         obtain ⟨us, h1, h2, h3, h4, h5, h6, h7⟩ := hgo h
         exact ⟨us, h1, h2, (fun u hu => ⟨(h4 u hu).1.keep (fun q hq => World.cell?_of_block (hb9.block q.block hq)), fun a ha => ((h4 u hu).2 a ha).1⟩), h5, h6, h7⟩)
        have HNN := Lib.hid hno
        have hsz9 : wc.heap.size < (wc.alloc (.cells #[.slice A2 p2.length c2, .bool false] 96)).heap.size := by simp
        have hxW7 : xg < W7.heap.size := by omega
        clear S R O hgo hno hb9 HS7 HR7 hW67 hgp6 hxg6 hw6 hi0 hz0 hz1 hz2
        go_upto_region 20 with fail
        generalize wc.alloc (.cells #[.slice A2 p2.length c2, .bool false] 96) = W9 at *
        clear q2
        generalize wc.heap.size = g3 at *
        obtain ⟨i0, hi0, hz0, hz1, hz2⟩ := info_parts info_u32
        go_loopw [14, 15] (fun r i wr => ∃ (j : Nat) (rts : List Nat) (A' : Option Addr) (c' : Nat) (b' : List Nat) (bad : Bool), i = .int .i64 j ∧ j ≤ 64 ∧ Fr1 g3 W9 wr ∧ RdD wr w.heap.size g3 A' c' b' bad ∧ wr.ownsRow W9.heap.size 32 1 r j (u32s rts) ∧ (∀ x ∈ rts, x < 4294967296) ∧ ((bad = false → rdK j p2 = some (rts, b')) ∧ ((∃ q, rdK j p2 = some q) → bad = false)) ∧ b'.length ≤ 9000000) (fun _ i _ => 64 - (intOf i).toNat)
        case atStart => exact ⟨0, [], A2, c2, p2, false, rfl, by omega, Fr1.refl _ _, HR9.out, ⟨rfl, .inl ⟨rfl, rfl⟩⟩, fun _ h => (by cases h), ⟨fun _ => rfl, fun _ => rfl⟩, by have := hpb.2.2; omega⟩
        case round =>
         clear HR9
         obtain ⟨j, rts, A'', c'', b', bad, rfl, hj, F, R, O, h32, K1, hbl'⟩ := hrel
         have HF := Lib.hid F
         have HR := Lib.hid R
         have HO := Lib.hid O
         have H32 := Lib.hid h32
         have HK1 := Lib.hid K1
         clear F R O h32 K1
         by_cases hj64 : j < 64
         ·have hd : decide ((j : Int) < 64) = true := by simp; omega
          have HNB := Lib.hid (rnumberD_any HR.out hbl')
          go_wp2_with fail
          refine HNB.out.mono ?_
          rintro e w10 ⟨n10, A10, c10, b10, d10, rfl, hn10, R10, F10, D10, e10, he10⟩
          have hl10 : b10.length ≤ 9000000 := by rw [he10, List.length_append] at hbl'; omega
          have HF10 := Lib.hid (HF.out.trans F10)
          have HO10 := Lib.hid (own_sameI HO.out (fun q hq => F10.same q (HO.out.lt q hq).2 (by have := (HO.out.lt q hq).1; omega)))
          have HR10 := Lib.hid R10
          have HK10 := Lib.hid (rdK_step HK1.out D10)
          have H32' := Lib.hid (show ∀ x ∈ rts ++ [n10], x < 4294967296 from fun x hx => by
           rcases List.mem_append.1 hx with h | h
           ·exact H32.out x h
           ·rcases List.mem_singleton.1 h with rfl; exact hn10)
          have hW910 : W9.heap.size ≤ w10.heap.size := HF10.out.size
          clear HNB R10 F10 D10 he10 HF HO HR HK1 H32 hbl' e10
          have hbA : Below w10.heap.size w10 (w10.alloc (.cells #[.int .u32 (n10 : Nat)] 32)) := (Below.refl _ _).alloc (Nat.le_refl _) _
          have HOA := Lib.hid (own_sameI HO10.out (fun q hq => hbA.block q (HO10.out.lt q hq).2))
          go_wp2_with (at_builtin; refine wpList_append_any _ rfl (.tmp 95) (.tmp 98) _ rfl W9.heap.size 32 i0 _ 1 4 Tryz.underlying44 hi0 hz0 hz1 hz2 rfl (by omega) u14 j (u32s rts) rfl HOA.out (w10.heap.size + 1) (some ⟨w10.heap.size, 0, none⟩) 1 1 (u32s [n10]) rfl ⟨rfl, fun _ => ⟨_, rfl, by simp, cell_one_new _ _ _⟩⟩ (one_u32s _) (by simp only [maxLen]; omega) (by omega) (by simp; omega) ?_; intro v12 w12 hown12 hg12 hat12)
          have hlow : ∀ q, q < W9.heap.size → w12.heap[q]? = w10.heap[q]? := fun q hq => (hg12.block q (by simp; omega) (fun e => by have := (HOA.out.lt q (by first | exact e | exact e.symm)).1; omega)).trans (hbA.block q (by omega))
          have hszA : w10.heap.size ≤ w12.heap.size := Nat.le_trans hbA.size hg12.size
          have HR12 := Lib.hid (HR10.out.low (w' := w12) hlow (by omega))
          have HF12 := Lib.hid (show Fr1 g3 W9 w12 from ⟨(hg12.os.trans hbA.os).trans HF10.out.os, (hg12.tape.trans hbA.tape).trans HF10.out.tape, (hg12.output.trans hbA.output).trans HF10.out.output, Nat.le_trans HF10.out.size hszA, fun q h1 h2 => (hlow q h1).trans (HF10.out.same q h1 h2)⟩)
          have e12 : u32s rts ++ u32s [n10] = u32s (rts ++ [n10]) := by unfold u32s; rw [List.map_append]
          rw [e12] at hown12
          have HO12 := Lib.hid hown12
          clear hown12 hg12 hat12 hlow hszA HOA hbA e12 HO10 HF10 HR10
          go_roundw
          case rel => exact ⟨j + 1, rts ++ [n10], A10, c10, b10, d10, by go_num, by omega, HF12.out, HR12.out, HO12.out, H32'.out, HK10.out, hl10⟩
          case measure => simp [intOf]; omega
         ·obtain rfl : j = 64 := by omega
          have hd : decide ((64 : Int) < 64) = false := by decide
          have HS10 := Lib.hid (HS9.out.read HF.out (by omega) (by omega) hwc)
          have r1 : wr.cell? ⟨g2, 1, none⟩ = some (.bool bad1) := (HR1.out.box.fr1 HF.out (by omega)).cell 1
          have rr0 : wr.cell? ⟨g3, 0, none⟩ = some (.slice A'' b'.length c'') := HR.out.box.cell 0
          have rr1 : wr.cell? ⟨g3, 1, none⟩ = some (.bool bad) := HR.out.box.cell 1
          have q3 := HS10.out.row.cell HV.out.2.2.2
          obtain ⟨l2, hl2⟩ : ∃ l, l = b'.length := ⟨_, rfl⟩
          obtain ⟨l3, hl3⟩ : ∃ l, l = p3.length := ⟨_, rfl⟩
          rw [← hl2] at rr0
          rw [← hl3] at q3
          have HL2 := Lib.hid hl2
          have HL3 := Lib.hid hl3
          have HPB := Lib.hid (show p1.length ≤ 9000000 by have := hpb.2.1; omega)
          clear hl2 hl3 hbl' hj hj64 hpb hl4 hla hc hn hbl
          go_upto_region 23 with fail
          cases bad1 with
          | true =>
            have HFN := Lib.hid (NewerP.err HS10.out.fr (show newM bs = .error 143 from HER.out (partsM_obj HH1.out.1 HH1.out.2 (fun l r h => HNN.out rfl _ l r h))))
            clear HS10 HER HOKM HRD HGO HNN HO HF HR HR1 HO9 HOL HK1 HL2 HL3 HS9
            go_wp2_with fail
            go_ret2
            exact HFN.out
          | false =>
            obtain ⟨us, hxs, hul, hN, hK, hpl, hpi⟩ := HGO.out rfl
            subst hxs
            have HN := Lib.hid hN; have HK2 := Lib.hid hK; have HPL := Lib.hid hpl; have HPI := Lib.hid hpi; have HUL := Lib.hid hul
            clear hN hK hpl hpi hul
            by_cases hkm : k = many
            rotate_left
            ·have hne : ((k : Int) != (many : Int)) = true := by simp; omega
             have HFN := Lib.hid (NewerP.err HS10.out.fr (show newM bs = .error 143 from HER.out (partsM_obj HH1.out.1 HH1.out.2 (fun l r h hr => hkm (objs_count HY.out.2.1 HK2.out h hr).symm))))
             clear HS10 HER HOKM HRD HGO HNN HO HF HR HR1 HO9 HOL HK1 HL2 HL3 HS9 HK2 HN HPL HPI hkm
             go_wp2_with fail
             go_ret2
             exact HFN.out
            have hne : ((k : Int) != (many : Int)) = false := by simp; omega
            have HKM := Lib.hid hkm
            have HK3 := Lib.hid (show rdObjs many p1 = some (us.map Wr.th, []) from hkm ▸ HK2.out)
            have HPE := Lib.hid (parts_end HH1.out.1 HH1.out.2 HK3.out HK1.out (p3 := p3))
            clear hkm HK2
            cases bad with
            | true =>
              have HFN := Lib.hid (NewerP.err HS10.out.fr (show newM bs = .error 143 from HER.out (HPE.out.1 (.inr (.inl rfl)))))
              clear HS10 HER HOKM HRD HGO HNN HO HF HR HR1 HO9 HOL HK1 HL2 HL3 HS9 HN HPL HPI HK3
              go_wp2_with fail
              go_ret2
              exact HFN.out
            | false =>
              by_cases h20 : l2 = 0
              rotate_left
              ·have hd2 : decide (0 < (l2 : Int)) = true := decide_eq_true (by omega)
               have hlp2 : 0 < l2 := by omega
               have HFN := Lib.hid (NewerP.err HS10.out.fr (show newM bs = .error 143 from HER.out (HPE.out.1 (.inr (.inr (.inl (fun h => h20 (by rw [HL2.out, h]; rfl))))))))
               clear HS10 HER HOKM HRD HGO HNN HO HF HR HR1 HO9 HOL HK1 HL2 HL3 HS9 HN HPL HPI HK3 h20
               go_wp2_with fail
               go_ret2
               exact HFN.out
              have hd2 : decide (0 < (l2 : Int)) = false := decide_eq_false (by omega)
              by_cases h30 : l3 = 0
              rotate_left
              ·have hd3 : decide (0 < (l3 : Int)) = true := decide_eq_true (by omega)
               have hlp3 : 0 < l3 := by omega
               have HFN := Lib.hid (NewerP.err HS10.out.fr (show newM bs = .error 143 from HER.out (HPE.out.1 (.inr (.inr (.inr (fun h => h30 (by rw [HL3.out, h]; rfl))))))))
               clear HS10 HER HOKM HRD HGO HNN HO HF HR HR1 HO9 HOL HK1 HL2 HL3 HS9 HN HPL HPI HK3 h30
               go_wp2_with fail
               go_ret2
               exact HFN.out
              have hd3 : decide (0 < (l3 : Int)) = false := decide_eq_false (by omega)
              have HNG := Lib.hid (HOKM.out _ (HPE.out.2 rfl rfl (List.eq_nil_of_length_eq_zero (by rw [← HL2.out]; exact h20)) (List.eq_nil_of_length_eq_zero (by rw [← HL3.out]; exact h30))))
              go_upto_region 25 with fail
              clear r1 rr0 rr1 q3 hne hd2 hd3 h20 h30 HL2 HL3 HPE HER HOKM HNN HGO
              obtain ⟨W10, hW10⟩ : ∃ W, W = wr := ⟨wr, rfl⟩
              subst hW10
              obtain ⟨AR, cR, rfl, hrr⟩ := own_sliceI HO.out
              have HVL := Lib.hid hrr
              have HARB := Lib.hid (show ∀ a, AR = some a → W9.heap.size ≤ a.block from fun a ha => (HO.out.lt a.block (by rw [ha]; rfl)).1)
              have HOK := Lib.hid (rdObjs_ok _ _ _ _ HK3.out HY.out.2.1)
              have hk225 : k ≤ 9000000 := by have h1 := HOK.out.2.2.1; have h2 := HPB.out; have h3 := HKM.out; simp at h1; omega
              have HALL := Lib.hid (show AllD W10 AF us from ⟨fun h0 => by
               obtain ⟨g, c, e1, e2, e3⟩ := own_ths HO9.out HUL.out (by rw [← HUL.out]; exact h0)
               injection e1 with e1 _ _
               have hlt := HOL.out g (by rw [e1]; rfl)
               exact ⟨g, e1, e2.same (HF.out.same g e2.lt (by omega))⟩, HPI.out, by rw [← HPL.out]; omega, by rw [HUL.out]; exact hk225⟩)
              have HALB := Lib.hid (show ∀ g, AF = some ⟨g, 0, none⟩ → 0 < us.length → g < W10.heap.size ∧ g ≠ xg from fun g e h0 => by
               have h1 := HOL.out g (by rw [e]; rfl)
               have h2 := (HO9.out.lt g (by rw [e]; rfl)).1
               have h3 := HF.out.size
               exact ⟨by omega, by omega⟩)
              have HFL := Lib.hid (show ∀ u ∈ us, Reads W10 W10.heap.size 1 u.A u.fs.length (u32s u.fs) ∧ (0 < u.fs.length → ∀ a, u.A = some a → a.block ≠ xg) from fun u hu => by
               obtain ⟨h1, h2⟩ := HN.out u hu
               refine ⟨?_, fun h0 a ha => by have := h2 a ha; omega⟩
               exact (h1.keep (fun q hq => World.cell?_of_block (HF.out.same q.block (by omega) (by omega)))).more (by have := HF.out.size; omega))
              have HVB := Lib.hid (show 0 < 64 → ∀ a, AR = some a → a.block ≠ xg from fun _ a ha => by have := HARB.out a ha; omega)
              have HBX := Lib.hid HS10.out.box
              have HFR := Lib.hid HS10.out.fr
              have hwx := HS10.out.hx
              have hx10 : xg < W10.heap.size := HS10.out.box.lt
              have HPT2 := Lib.hid (show (at_ : Nat) = placeT (us.map Wr.th) from HPL.out)
              clear HS10 HF HO HN HO9 HOL HARB HR HR1 HK1 HK3 HPL hrr HKM HPB HS9 HRD HPI hgpc hxgc hg2c hwc hsz9
              have q1 := HBX.out.cell 1; have y1 := HBX.out.frozen 1; have q2 := HBX.out.cell 2; have y2 := HBX.out.frozen 2
              unfold RdC at q1 q2
              have HW1 := Lib.hid (show NwW W10 ((W10.setCell ⟨xg, 1, none⟩ (.int .i64 (k : Nat))).setCell ⟨xg, 2, none⟩ (.int .i64 (at_ : Nat))) xg (.int .i64 (k : Nat)) (.int .i64 (at_ : Nat)) (.int .u32 (la : Nat)) (.slice none 0 0) (.slice none 0 0) [] [] false from ⟨(Fr1.set _ _ _ _).trans (Fr1.set _ _ _ _), (HBX.out.set_ 1 _).set_ 2 _, hx10, ⟨rfl, .inl ⟨rfl, rfl⟩⟩, ⟨rfl, .inl ⟨rfl, rfl⟩⟩⟩)
              go_upto_region 27 with fail
              generalize (W10.setCell ⟨xg, 1, none⟩ (.int .i64 (k : Int))).setCell ⟨xg, 2, none⟩ (.int .i64 (at_ : Int)) = W11 at *
              clear q1 y1 q2 y2 HBX
              have q4 := HW1.out.box.cell 4
              unfold RdC at q4
              have hb1 : Below W11.heap.size W11 (W11.alloc (.cells #[.int .u32 0] 32)) := (Below.refl _ _).alloc (Nat.le_refl _) _
              have HW2 := Lib.hid (HW1.out.below hb1)
              have hs11 : W10.heap.size ≤ W11.heap.size := HW1.out.fr.size
              go_upto_region 28 with (at_builtin; refine wpList_append_any _ rfl (.tmp 147) (.tmp 148) _ rfl W10.heap.size 32 i0 _ 1 4 Tryz.underlying44 hi0 hz0 hz1 hz2 rfl (by omega) (.slice none 0 0) 0 [] rfl HW2.out.wo (W11.heap.size + 1) (some ⟨W11.heap.size, 0, none⟩) 1 1 (u32s [0]) rfl ⟨rfl, fun _ => ⟨_, rfl, by simp, cell_one_new _ _ _⟩⟩ (one_u32s _) (by simp only [maxLen]; omega) (by omega) (by simp; omega) ?_; intro v12 w12 hown12 hg12 hat12; obtain ⟨g12, c12, rfl, -, -, -⟩ := Row.of_any hown12 (by omega); have hrm := HW2.out.room hg12; have rz := hrm.frozen 4; have rc : w12.cell? ⟨xg, 4, none⟩ = some (.slice none 0 0) := hrm.cell 4)
              have HW3 := Lib.hid (HW2.out.appW (v' := .slice (some ⟨g12, 0, none⟩) 1 c12) (ys := [0]) (m := 1) rfl hown12 hg12)
              clear hown12 hg12 hrm rz rc HW1 HW2 hb1 q4 hs11
              generalize w12.setCell ⟨xg, 4, none⟩ (.slice (some ⟨g12, 0, none⟩) 1 c12) = W12 at *
              have HTS := Lib.hid (fun (t : Th) (ht : t ∈ us.map Wr.th) => HOK.out.2.1 t ht)
              have HWL := Lib.hid (fun j => wdsT_len HTS.out HALL.out.top j)
              clear hat12 HOK
              have HW4 := Lib.hid (show NwW W10 W12 xg (.int .i64 (k : Nat)) (.int .i64 (at_ : Nat)) (.int .u32 (la : Nat)) (.slice (some ⟨g12, 0, none⟩) 1 c12) (.slice none 0 0) (wdsT us 0) [] (wrgT us 0) from HW3.out)
              clear HW3
              have hkus : us.length = k := HUL.out
              go_wp2_with fail
              go_loopw [16] (fun i wr => ∃ (j : Nat) (vw : Value), i = .int .i64 j ∧ j ≤ k ∧ NwW W10 wr xg (.int .i64 (k : Nat)) (.int .i64 (at_ : Nat)) (.int .u32 (la : Nat)) vw (.slice none 0 0) (wdsT us j) [] (wrgT us j)) (fun i _ => k - (intOf i).toNat)
              case atStart => exact ⟨0, _, rfl, Nat.zero_le _, HW4.out⟩
              case round =>
               clear HW4
               obtain ⟨j, vw, rfl, hj, S⟩ := hrel
               have HS := Lib.hid S
               clear S
               by_cases hjk : j < k
               ·have hd : decide ((j : Int) < (k : Int)) = true := by simp; omega
                have hjki : (j : Int) < (k : Int) := by omega
                have hju : j < us.length := by omega
                have hmem : us.getD j default ∈ us := by rw [List.getD_eq_getElem?_getD, List.getElem?_eq_getElem hju]; exact List.getElem_mem hju
                obtain ⟨g, hAg, hrow⟩ := (HS.out.all HALL.out HALB.out).row (by omega)
                subst hAg
                have p0 : wr.cell? ⟨g, j * 8, none⟩ = _ := hrow.cell (i := j) (j := 0) (u := .int .i64 (us.getD j default).x.size) hju (by omega) rfl
                have p1 := hrow.cell (i := j) (j := 1) (u := .int .i64 (us.getD j default).x.fmt) hju (by omega) rfl
                have p2 := hrow.cell (i := j) (j := 2) (u := .int .i64 (us.getD j default).x.spare) hju (by omega) rfl
                have p3 := hrow.cell (i := j) (j := 3) (u := .int .u32 0) hju (by omega) rfl
                have p4 := hrow.cell (i := j) (j := 4) (u := .int .u32 (us.getD j default).x.ser) hju (by omega) rfl
                have p5 := hrow.cell (i := j) (j := 5) (u := .int .u32 (us.getD j default).x.cls) hju (by omega) rfl
                have p6 := hrow.cell (i := j) (j := 6) (u := .slice (us.getD j default).A (us.getD j default).fs.length (us.getD j default).c) hju (by omega) rfl
                have p7 := hrow.cell (i := j) (j := 7) (u := .int .i64 (us.getD j default).pl) hju (by omega) rfl
                have HUO := Lib.hid (HTS.out (us.getD j default).th (List.mem_map_of_mem hmem))
                have HUF := Lib.hid (HFL.out _ hmem)
                have HWS := Lib.hid (fun x A c pl fs (hu : us.getD j default = ⟨x, A, c, fs, pl⟩) => wdsT_succ hju hu)
                have HGS := Lib.hid (fun x A c pl fs (hu : us.getD j default = ⟨x, A, c, fs, pl⟩) => wrgT_succ hju hu)
                have HU := Lib.hid (show ∃ u, us.getD j default = u from ⟨_, rfl⟩)
                obtain ⟨u, hu⟩ := HU.out
                rw [hu] at p0 p1 p2 p4 p5 p6 p7 HUO HUF HWS HGS
                clear hrow hmem HU hu
                obtain ⟨⟨sx, fx, px, cx, rx⟩, uA, uc, ufs, upl⟩ := u
                simp only at p0 p1 p2 p4 p5 p6 p7
                have HWS2 := Lib.hid (HWS.out _ _ _ _ _ rfl)
                have HGS2 := Lib.hid (HGS.out _ _ _ _ _ rfl)
                clear HWS HGS
                go_upto_region 32 with fail
                have HS5 := Lib.hid (HS.out.below ((Below.refl _ _).alloc (Nat.le_refl _) (.cells #[.int .i64 sx, .int .i64 fx, .int .i64 px, .int .u32 0, .int .u32 rx, .int .u32 cx, .slice uA ufs.length uc, .int .i64 upl] 105)))
                have HO5 := Lib.hid (Blk.new wr 105 #[.int .i64 sx, .int .i64 fx, .int .i64 px, .int .u32 0, .int .u32 rx, .int .u32 cx, .slice uA ufs.length uc, .int .i64 upl])
                have hbB : W10.heap.size ≤ wr.heap.size := HS.out.fr.size
                clear HS p0 p1 p2 p3 p4 p5 p6 p7
                generalize wr.alloc (.cells #[.int .i64 sx, .int .i64 fx, .int .i64 px, .int .u32 0, .int .u32 rx, .int .u32 cx, .slice uA ufs.length uc, .int .i64 upl] 105) = W5 at *
                generalize wr.heap.size = b17 at *
                have hthl : (us.map Wr.th).length = k := by rw [List.length_map]; exact hkus
                have c5 : W5.cell? ⟨b17, 5, none⟩ = some (.int .u32 cx) := HO5.out.cell 5
                have hbx : b17 ≠ xg := by omega
                have HX32 := Lib.hid (show cx < 4294967296 from HUO.out.fit.cls)
                go_upto_if 167 with fail
                go_cut [] (fun wx => ∃ (cx2 : Nat) (wr2 : Bool), NwW W10 wx xg (.int .i64 (k : Nat)) (.int .i64 (at_ : Nat)) (.int .u32 (la : Nat)) vw (.slice none 0 0) (wdsT us j) [] wr2 ∧ Blk wx b17 105 #[.int .i64 sx, .int .i64 fx, .int .i64 px, .int .u32 0, .int .u32 rx, .int .u32 cx2, .slice uA ufs.length uc, .int .i64 upl] ∧ cx2 = (if k < cx then 0 else cx) ∧ wr2 = (wrgT us j || wrongN (us.map Wr.th) cx))
                case first =>
                 by_cases hbig : k < cx
                 ·have hd5 : decide ((k : Int) < wrap64 (cx : Int)) = true := by rw [wrD5 HX32.out]; exact decide_eq_true (by omega)
                  have z6 := HS5.out.box.frozen 6
                  have q6 : W5.cell? ⟨xg, 6, none⟩ = some (.bool (wrgT us j)) := HS5.out.box.cell 6
                  have HS6 := Lib.hid (HS5.out.setx (wrong' := true) (.bool true))
                  have HO6 := Lib.hid (HO5.out.same (Below.heap_setCell W5 ⟨xg, 6, none⟩ (.bool true) b17 hbx))
                  have y5 := HO6.out.frozen 5
                  have q5 : (W5.setCell ⟨xg, 6, none⟩ (.bool true)).cell? ⟨b17, 5, none⟩ = some (.int .u32 cx) := HO6.out.cell 5
                  have HS7 := Lib.hid (HS6.out.setT HO6.out hbB 5 (.int .u32 0))
                  have HO7 := Lib.hid (HO6.out.set_ 5 (.int .u32 0))
                  have HE := Lib.hid (show true = (wrgT us j || wrongN (us.map Wr.th) cx) from by unfold wrongN; rw [hthl, decide_eq_true hbig]; simp)
                  have HC0 := Lib.hid (show 0 = (if k < cx then 0 else cx) from by rw [if_pos hbig])
                  rw [hd5]
                  clear HS5 HO5 hbig hd5
                  go_wp2_with fail
                  go_meet
                  exact ⟨0, true, HS7.out, HO7.out, HC0.out, HE.out⟩
                 ·have hd5 : decide ((k : Int) < wrap64 (cx : Int)) = false := by rw [wrD5 HX32.out]; exact decide_eq_false (by omega)
                  have HE := Lib.hid (show wrgT us j = (wrgT us j || wrongN (us.map Wr.th) cx) from by unfold wrongN; rw [hthl, decide_eq_false hbig]; simp)
                  have HC0 := Lib.hid (show cx = (if k < cx then 0 else cx) from by rw [if_neg hbig])
                  rw [hd5]
                  clear hbig hd5
                  go_wp2_with fail
                  go_meet
                  exact ⟨cx, wrgT us j, HS5.out, HO5.out, HC0.out, HE.out⟩
                case rest =>
                 obtain ⟨cx2, wr2, S6, O6, hcx2, hwr2⟩ := hcut
                 have HS6 := Lib.hid S6; have HO6 := Lib.hid O6; have HC2 := Lib.hid hcx2; have HW2 := Lib.hid hwr2
                 clear S6 O6 hcx2 hwr2 HS5 HO5 c5
                 have hcx3 : cx2 ≤ cx := by rw [HC2.out]; split <;> omega
                 have c5 : wc.cell? ⟨b17, 5, none⟩ = some (.int .u32 cx2) := HO6.out.cell 5
                 go_upto_if 174 with fail
                 go_cut [] (fun wx => ∃ (cl : Nat), NwW W10 wx xg (.int .i64 (k : Nat)) (.int .i64 (at_ : Nat)) (.int .u32 (la : Nat)) vw (.slice none 0 0) (wdsT us j) [] wr2 ∧ Blk wx b17 105 #[.int .i64 sx, .int .i64 fx, .int .i64 px, .int .u32 (cl : Nat), .int .u32 rx, .int .u32 cx2, .slice uA ufs.length uc, .int .i64 upl] ∧ cl = namedT (us.map Wr.th) cx)
                 case first =>
                  by_cases h0 : cx2 = 0
                  ·have hd8 : decide ((0 : Int) < (cx2 : Int)) = false := by simp; omega
                   have HE := Lib.hid (show 0 = namedT (us.map Wr.th) cx from by
                    have h1 := HC2.out
                    unfold namedT
                    rw [hthl]
                    split
                    ·rfl
                    ·rw [if_pos (by by_cases h2 : k < cx; exact h2; rw [if_neg h2] at h1; omega)])
                   have hd9 : decide (0 < cx2) = false := decide_eq_false (by omega)
                   first | rw [hd8] | rw [hd9]
                   go_wp2_with fail
                   go_meet
                   exact ⟨0, HS6.out, HO6.out, HE.out⟩
                  ·have hd8 : decide ((0 : Int) < (cx2 : Int)) = true := by simp; omega
                   have hd9 : decide (0 < cx2) = true := decide_eq_true (by omega)
                   first | rw [hd8] | rw [hd9]
                   clear hd8 hd9
                   obtain ⟨m, rfl⟩ : ∃ m, cx2 = m + 1 := ⟨cx2 - 1, by omega⟩
                   have h1 := HC2.out
                   have hmk : m + 1 ≤ k ∧ cx = m + 1 := by split at h1 <;> omega
                   obtain ⟨hmk, hcm⟩ := hmk
                   have hmki : (m : Int) < (k : Int) := by omega
                   have hm1 : ((m + 1 : Nat) : Int) - 1 = (m : Int) := by omega
                   have hm2 : IntKind.u32.wrap (((m + 1 : Nat) : Int) - 1) = (m : Int) := by have := HX32.out; show (((m + 1 : Nat) : Int) - 1) % 4294967296 = _; omega
                   have DA := HS6.out.all HALL.out HALB.out
                   obtain ⟨gq, hgq, hrow6⟩ := DA.row (by omega)
                   injection hgq with hgq; injection hgq with hgq; subst hgq
                   have hpl6 := DA.pl m (by omega)
                   have hp26 : (us.getD m default).pl ≤ 1000000000000 := by rw [hpl6]; exact Nat.le_trans (placeT_le _ _) DA.top
                   have p7 := hrow6.cell (i := m) (j := 7) (u := .int .i64 (us.getD m default).pl) (by omega) (by omega) rfl
                   have o3 := HO6.out.cell 3; have y3 := HO6.out.frozen 3
                   have HE := Lib.hid (show 2 * (us.getD m default).pl % 4294967296 = namedT (us.map Wr.th) cx from by unfold namedT; rw [hthl, if_neg (by omega), if_neg (by omega), hcm, Nat.add_sub_cancel, ← hpl6])
                   have HS7 := Lib.hid (fun z : Int => HS6.out.setT HO6.out hbB 3 (.int .u32 z))
                   have HO7 := Lib.hid (fun z : Int => HO6.out.set_ 3 (.int .u32 z))
                   clear DA hrow6 hpl6 h1 HC2 hcx3 h0
                   generalize (us.getD m default).pl = pl at *
                   have hw1 : wrap64 (2 * (pl : Int)) = 2 * (pl : Int) := IntWalk.wrap64_in _ (by omega)
                   go_wp2_with fail
                   go_meet
                   refine (show ∀ z : Int, z = ((2 * pl % 4294967296 : Nat) : Int) → ∃ (cl : Nat), NwW W10 (wc.setCell ⟨b17, 3, none⟩ (.int .u32 z)) xg (.int .i64 (k : Nat)) (.int .i64 (at_ : Nat)) (.int .u32 (la : Nat)) vw (.slice none 0 0) (wdsT us j) [] wr2 ∧ Blk (wc.setCell ⟨b17, 3, none⟩ (.int .u32 z)) b17 105 #[.int .i64 sx, .int .i64 fx, .int .i64 px, .int .u32 (cl : Nat), .int .u32 rx, .int .u32 (m + 1 : Nat), .slice uA ufs.length uc, .int .i64 upl] ∧ cl = namedT (us.map Wr.th) cx from fun z hz => ⟨2 * pl % 4294967296, HS7.out z, by have := HO7.out z; rw [hz] at this ⊢; exact this, HE.out⟩) _ ?_
                   first | rfl | omega
                 case rest =>
                  obtain ⟨cl, S7, O7, hcl⟩ := hcut
                  have HS7 := Lib.hid S7; have HO7 := Lib.hid O7; have HCL := Lib.hid hcl
                  have hcl32 : cl < 4294967296 := by rw [hcl]; exact namedT_lt _ _
                  clear S7 O7 hcl HS6 HO6 c5 HC2 hcx3
                  have hfit : (⟨sx, fx, px, cl, rx⟩ : Hd).Fit := ⟨HUO.out.fit.size, HUO.out.fit.fmt, HUO.out.fit.spare, hcl32, HUO.out.fit.ser⟩
                  have HPK := Lib.hid (rpack_any ⟨sx, fx, px, cl, rx⟩ hfit wc)
                  have o0 := HO7.out.cell 0
                  have o1 := HO7.out.cell 1
                  have o2 := HO7.out.cell 2
                  have o3 := HO7.out.cell 3
                  have o4 := HO7.out.cell 4
                  clear hfit
                  go_wp2_with fail
                  refine HPK.out.mono ?_
                  rintro e w8 ⟨rfl, hb8⟩
                  rw [show (⟨sx, fx, px, cl, rx⟩ : Hd).packed = .agg #[.int .u32 (⟨sx, fx, px, cl, rx⟩ : Hd).w0, .int .u32 (cl : Nat), .int .u32 (rx : Nat)] from rfl]
                  obtain ⟨wz, hwz⟩ : ∃ wz, wz = (⟨sx, fx, px, cl, rx⟩ : Hd).w0 := ⟨_, rfl⟩
                  rw [← hwz]
                  have HS9 := Lib.hid ((HS7.out.below hb8).below ((Below.refl _ _).alloc (Nat.le_refl _) (.cells #[.int .u32 (wz : Nat), .int .u32 (cl : Nat), .int .u32 (rx : Nat)] 107)))
                  have HO9 := Lib.hid ((HO7.out.below hb8 HO7.out.lt).alloc (.cells #[.int .u32 (wz : Nat), .int .u32 (cl : Nat), .int .u32 (rx : Nat)] 107))
                  have HB9 := Lib.hid (Blk.new w8 107 #[.int .u32 (wz : Nat), .int .u32 (cl : Nat), .int .u32 (rx : Nat)])
                  have hl0 : (wdsT us j).length ≤ 1000000000000 := HWL.out j
                  have HWE := Lib.hid (show wdsT us (j + 1) = wdsT us j ++ [wz, cl, rx] ++ (if (⟨sx, fx, px, cx, rx⟩ : Hd).ptrT then ufs.map (valT (us.map Wr.th)) else ufs) from by rw [HWS2.out, ← HCL.out, hwz])
                  have HGE := Lib.hid (show wrgT us (j + 1) = (wr2 || ((⟨sx, fx, px, cx, rx⟩ : Hd).ptrT && ufs.any (wrongV (us.map Wr.th)))) from by rw [HGS2.out, HW2.out])
                  have hufl : ufs.length ≤ 65535 := by
                   have h1 := HUO.out.size
                   have h2 : ufs.length = sx := h1
                   have h3 := HUO.out.may
                   have h4 : (⟨sx, fx, px, cx, rx⟩ : Hd).may = true := h3
                   unfold Hd.may at h4
                   simp only [Bool.and_eq_true, Bool.or_eq_true, decide_eq_true_eq] at h4
                   omega
                  clear HPK HS7 HO7 hb8 o0 o1 o2 o3 o4 hwz HWS2 HGS2 HW2 HCL
                  obtain ⟨wsN, hwsN⟩ : ∃ x, x = wdsT us (j + 1) := ⟨_, rfl⟩
                  obtain ⟨wgN, hwgN⟩ : ∃ x, x = wrgT us (j + 1) := ⟨_, rfl⟩
                  rw [← hwsN] at HWE
                  rw [← hwgN] at HGE
                  have HSN := Lib.hid (fun (wx : World) (v : Value) (h : NwW W10 wx xg (.int .i64 (k : Nat)) (.int .i64 (at_ : Nat)) (.int .u32 (la : Nat)) v (.slice none 0 0) wsN [] wgN) => (show NwW W10 wx xg (.int .i64 (k : Nat)) (.int .i64 (at_ : Nat)) (.int .u32 (la : Nat)) v (.slice none 0 0) (wdsT us (j + 1)) [] (wrgT us (j + 1)) from by rw [← hwsN, ← hwgN]; exact h))
                  clear hwsN hwgN
                  generalize wdsT us j = ws0 at *
                  go_upto_region 38 with fail
                  generalize w8.alloc (.cells #[.int .u32 (wz : Int), .int .u32 (cl : Int), .int .u32 (rx : Int)] 107) = W9 at *
                  generalize w8.heap.size = b18 at *
                  refine wp_region_U 15 (fun w' => w'.cell? ⟨xg, 4, none⟩ = some vw ∧ w'.cell? ⟨b18, 0, none⟩ = some (.int .u32 (wz : Int)) ∧ w'.cell? ⟨b18, 1, none⟩ = some (.int .u32 (cl : Int)) ∧ w'.cell? ⟨b18, 2, none⟩ = some (.int .u32 (rx : Int))) (by kernel_rfl) ?_
                  have hbd : Below W9.heap.size W9 W9.drew := ⟨rfl, rfl, rfl, Nat.le_refl _, fun _ _ => rfl⟩
                  have HSq := Lib.hid (HS9.out.below hbd)
                  have HOq := Lib.hid (HO9.out.below hbd HO9.out.lt)
                  have HBq := Lib.hid (HB9.out.below hbd HB9.out.lt)
                  clear hbd HS9 HO9 HB9
                  generalize W9.drew = wq at *
                  have hS : wq.cell? ⟨xg, 4, none⟩ = some vw ∧ wq.cell? ⟨b18, 0, none⟩ = some (.int .u32 (wz : Int)) ∧ wq.cell? ⟨b18, 1, none⟩ = some (.int .u32 (cl : Int)) ∧ wq.cell? ⟨b18, 2, none⟩ = some (.int .u32 (rx : Int)) := ⟨HSq.out.box.cell 4, HBq.out.cell 0, HBq.out.cell 1, HBq.out.cell 2⟩
                  refine U_readC 0 [13, 14, 15] (v := (.pointer (some ⟨xg, 0, none⟩))) rfl (by kernel_rfl) (fun _ _ _ h => h) hS (by kernel_rfl) (fun w' hw' => by obtain ⟨h0, h1, h2, h3⟩ := hw'; go_simp) ?_
                  try simp only [Act.put, List.setIfInBounds_toArray, List.set_cons_zero, List.set_cons_succ]
                  refine U_readC 1 [2, 3, 4, 12, 15] (v := (.pointer (some ⟨xg, 0, none⟩))) rfl (by kernel_rfl) (fun _ _ _ h => h) hS (by kernel_rfl) (fun w' hw' => by obtain ⟨h0, h1, h2, h3⟩ := hw'; go_simp) ?_
                  try simp only [Act.put, List.setIfInBounds_toArray, List.set_cons_zero, List.set_cons_succ]
                  refine U_readC 2 [3, 4, 12, 15] (v := (.pointer (some ⟨xg, 0, none⟩))) rfl (by kernel_rfl) (fun _ _ _ h => h) hS (by kernel_rfl) (fun w' hw' => by obtain ⟨h0, h1, h2, h3⟩ := hw'; go_simp) ?_
                  try simp only [Act.put, List.setIfInBounds_toArray, List.set_cons_zero, List.set_cons_succ]
                  refine U_readC 3 [4, 12, 15] (v := (.pointer (some ⟨xg, 4, none⟩))) rfl (by kernel_rfl) (fun _ _ _ h => h) hS (by kernel_rfl) (fun w' hw' => by obtain ⟨h0, h1, h2, h3⟩ := hw'; go_simp) ?_
                  try simp only [Act.put, List.setIfInBounds_toArray, List.set_cons_zero, List.set_cons_succ]
                  refine U_readC 4 [12, 15] (v := vw) rfl (by kernel_rfl) (fun _ _ _ h => h) hS (by kernel_rfl) (fun w' hw' => by obtain ⟨h0, h1, h2, h3⟩ := hw'; go_simp) ?_
                  try simp only [Act.put, List.setIfInBounds_toArray, List.set_cons_zero, List.set_cons_succ]
                  refine U_readC 5 [6, 11, 12, 15] (v := (.pointer (some ⟨b18, 0, none⟩))) rfl (by kernel_rfl) (fun _ _ _ h => h) hS (by kernel_rfl) (fun w' hw' => by obtain ⟨h0, h1, h2, h3⟩ := hw'; go_simp) ?_
                  try simp only [Act.put, List.setIfInBounds_toArray, List.set_cons_zero, List.set_cons_succ]
                  refine U_readC 6 [11, 12, 15] (v := (.int .u32 (wz : Int))) rfl (by kernel_rfl) (fun _ _ _ h => h) hS (by kernel_rfl) (fun w' hw' => by obtain ⟨h0, h1, h2, h3⟩ := hw'; go_simp) ?_
                  try simp only [Act.put, List.setIfInBounds_toArray, List.set_cons_zero, List.set_cons_succ]
                  refine U_readC 7 [8, 11, 12, 15] (v := (.pointer (some ⟨b18, 1, none⟩))) rfl (by kernel_rfl) (fun _ _ _ h => h) hS (by kernel_rfl) (fun w' hw' => by obtain ⟨h0, h1, h2, h3⟩ := hw'; go_simp) ?_
                  try simp only [Act.put, List.setIfInBounds_toArray, List.set_cons_zero, List.set_cons_succ]
                  refine U_readC 8 [11, 12, 15] (v := (.int .u32 (cl : Int))) rfl (by kernel_rfl) (fun _ _ _ h => h) hS (by kernel_rfl) (fun w' hw' => by obtain ⟨h0, h1, h2, h3⟩ := hw'; go_simp) ?_
                  try simp only [Act.put, List.setIfInBounds_toArray, List.set_cons_zero, List.set_cons_succ]
                  refine U_readC 9 [10, 11, 12, 15] (v := (.pointer (some ⟨b18, 2, none⟩))) rfl (by kernel_rfl) (fun _ _ _ h => h) hS (by kernel_rfl) (fun w' hw' => by obtain ⟨h0, h1, h2, h3⟩ := hw'; go_simp) ?_
                  try simp only [Act.put, List.setIfInBounds_toArray, List.set_cons_zero, List.set_cons_succ]
                  refine U_readC 10 [11, 12, 15] (v := (.int .u32 (rx : Int))) rfl (by kernel_rfl) (fun _ _ _ h => h) hS (by kernel_rfl) (fun w' hw' => by obtain ⟨h0, h1, h2, h3⟩ := hw'; go_simp) ?_
                  try simp only [Act.put, List.setIfInBounds_toArray, List.set_cons_zero, List.set_cons_succ]
                  refine U_one 11 (by kernel_rfl) rfl rfl (fun K hK => ?_)
                  go_simp
                  have HSA := Lib.hid (HSq.out.below ((Below.refl _ _).alloc (Nat.le_refl _) (.cells #[.int .u32 (wz : Int), .int .u32 (cl : Int), .int .u32 (rx : Int)] 32)))
                  have HOA := Lib.hid (HOq.out.alloc (.cells #[.int .u32 (wz : Int), .int .u32 (cl : Int), .int .u32 (rx : Int)] 32))
                  have HBA := Lib.hid (HBq.out.alloc (.cells #[.int .u32 (wz : Int), .int .u32 (cl : Int), .int .u32 (rx : Int)] 32))
                  have HNA := Lib.hid (Blk.new wq 32 #[.int .u32 (wz : Int), .int .u32 (cl : Int), .int .u32 (rx : Int)])
                  clear HSq HOq HBq
                  generalize wq.alloc (.cells #[.int .u32 (wz : Int), .int .u32 (cl : Int), .int .u32 (rx : Int)] 32) = wA at *
                  generalize wq.heap.size = b19 at *
                  have hSA : wA.cell? ⟨xg, 4, none⟩ = some vw ∧ wA.cell? ⟨b18, 0, none⟩ = some (.int .u32 (wz : Int)) ∧ wA.cell? ⟨b18, 1, none⟩ = some (.int .u32 (cl : Int)) ∧ wA.cell? ⟨b18, 2, none⟩ = some (.int .u32 (rx : Int)) := ⟨HSA.out.box.cell 4, HBA.out.cell 0, HBA.out.cell 1, HBA.out.cell 2⟩
                  refine hK _ _ (fun _ => hSA) ?_
                  clear hK K
                  try simp only [Act.put, List.setIfInBounds_toArray, List.set_cons_zero, List.set_cons_succ]
                  obtain ⟨i0, hi0, hz0, hz1, hz2⟩ := info_parts info_u32
                  refine U_one 12 (by kernel_rfl) rfl rfl (fun K hK => ?_)
                  have hrd3 : Reads wA wA.heap.size 1 (some ⟨b19, 0, none⟩) 3 (u32s [wz, cl, rx]) := ⟨rfl, fun _ => ⟨_, rfl, HNA.out.lt, fun jj v hv => by
                   rw [WideShapes.add_plain, Nat.zero_add]
                   refine (HNA.out.cell jj).trans ?_
                   rw [← hv]
                   simp [u32s]⟩⟩
                  refine wp_append_any _ (.tmp 193) (.tmp 200) _ rfl W10.heap.size 32 i0 _ 1 4 Tryz.underlying44 hi0 hz0 hz1 hz2 rfl (by omega) vw ws0.length (u32s ws0) rfl HSA.out.wo wA.heap.size (some ⟨b19, 0, none⟩) 3 3 (u32s [wz, cl, rx]) rfl hrd3 (one_u32s _) (by simp only [maxLen]; omega) (by omega) HSA.out.fr.size ?_
                  intro v10 w10 hown10 hg10 hat10
                  obtain ⟨g10, c10, rfl, -, -, -⟩ := Row.of_any hown10 (by omega)
                  have HS11 := Lib.hid (HSA.out.appW (ys := [wz, cl, rx]) rfl hown10 hg10)
                  have HO11 := Lib.hid (HSA.out.sideW (v' := .slice (some ⟨g10, 0, none⟩) (ws0.length + 3) c10) HOA.out (by decide) (by decide) hg10)
                  have hB10 : Blk w10 b18 107 #[.int .u32 (wz : Nat), .int .u32 (cl : Nat), .int .u32 (rx : Nat)] := HBA.out.same (hg10.block b18 HBA.out.lt (fun e => own_blkI HSA.out.wo HBA.out (by decide) (by first | exact e | exact e.symm)))
                  have hcu := (HSA.out.room hg10).cell 4
                  have hfz := (HSA.out.room hg10).frozen 4
                  have hS10 : w10.cell? ⟨xg, 4, none⟩ = some vw ∧ w10.cell? ⟨b18, 0, none⟩ = some (.int .u32 (wz : Int)) ∧ w10.cell? ⟨b18, 1, none⟩ = some (.int .u32 (cl : Int)) ∧ w10.cell? ⟨b18, 2, none⟩ = some (.int .u32 (rx : Int)) := ⟨hcu, hB10.cell 0, hB10.cell 1, hB10.cell 2⟩
                  clear hown10 hg10 hat10 hrd3 HSA HOA HBA HNA hSA hB10
                  refine hK _ _ (fun _ => hS10) ?_
                  clear hK K
                  try simp only [Act.put, List.setIfInBounds_toArray, List.set_cons_zero, List.set_cons_succ]
                  refine U_one 13 (by kernel_rfl) rfl rfl (fun K hK => ?_)
                  go_simp
                  refine hK _ _ (fun _ => hS10) ?_
                  clear hK K
                  try simp only [Act.put, List.setIfInBounds_toArray, List.set_cons_zero, List.set_cons_succ]
                  refine U_one 14 (by kernel_rfl) rfl rfl (fun K hK => ?_)
                  go_simp
                  refine hK _ _ (fun _ => hS10) ?_
                  clear hK K
                  try simp only [Act.put, List.setIfInBounds_toArray, List.set_cons_zero, List.set_cons_succ]
                  refine U_one 15 (by kernel_rfl) rfl rfl (fun K hK => ?_)
                  go_simp
                  refine hK _ _ (fun h => absurd h (by decide)) ?_
                  clear hK K
                  try simp only [Act.put, List.setIfInBounds_toArray, List.set_cons_zero, List.set_cons_succ]
                  refine U_done (by kernel_rfl) ?_ _
                  simp only [Calm, Exit.then]
                  clear hS hS10 hcu hfz
                  generalize w10.setCell ⟨xg, 4, none⟩ (.slice (some ⟨g10, 0, none⟩) (ws0.length + 3) c10) = W12 at *
                  generalize Value.slice (some ⟨g10, 0, none⟩) (ws0.length + 3) c10 = vw1 at *
                  have HWL2 := Lib.hid (show (ws0 ++ [wz, cl, rx]).length ≤ 1000000000003 from by rw [List.length_append]; simp only [List.length_cons, List.length_nil]; omega)
                  generalize ws0 ++ [wz, cl, rx] = ws1 at *
                  have HGK := Lib.hid hkus
                  by_cases hf1 : fx = 1
                  ·have hd1 : ((fx : Int) == 1) = true := by simp; omega
                   have hpt : (⟨sx, fx, px, cx, rx⟩ : Hd).ptrT = true := by unfold Hd.ptrT; simp [hf1]
                   have HPT := Lib.hid hpt
                   clear hpt hf1
                   have o6 := HO11.out.cell 6
                   go_wp2_with fail
                   clear o6
                   go_loopw [19] (fun i wr => ∃ (q : Nat) (vw : Value), i = .int .i64 q ∧ q ≤ ufs.length ∧ NwW W10 wr xg (.int .i64 (k : Nat)) (.int .i64 (at_ : Nat)) (.int .u32 (la : Nat)) vw (.slice none 0 0) (ws1 ++ (ufs.take q).map (valT (us.map Wr.th))) [] (wr2 || (ufs.take q).any (wrongV (us.map Wr.th))) ∧ Blk wr b17 105 #[.int .i64 sx, .int .i64 fx, .int .i64 px, .int .u32 (cl : Nat), .int .u32 rx, .int .u32 cx2, .slice uA ufs.length uc, .int .i64 upl]) (fun i _ => ufs.length - (intOf i).toNat)
                   case atStart => exact ⟨0, _, rfl, Nat.zero_le _, by simpa using HS11.out, HO11.out⟩
                   case round =>
                    clear HS11 HO11
                    obtain ⟨q, vw2, rfl, hq, S, O⟩ := hrel
                    have HS := Lib.hid S
                    have HO := Lib.hid O
                    have o6 := O.cell 6
                    by_cases hqn : q < ufs.length
                    ·have hd2 : decide ((q : Int) < (ufs.length : Int)) = true := by simp; omega
                     have hqni : (q : Int) < (ufs.length : Int) := by omega
                     obtain ⟨ad, v0, hA2, -, hv0, hcj⟩ := (S.reads HUF.out.1 HUF.out.2).at_ hqn
                     rw [u32s_get hqn] at hv0
                     injection hv0 with hv0
                     subst hv0 hA2
                     have hf32 : ufs.getD q 0 < 4294967296 := by rw [List.getD_eq_getElem?_getD, List.getElem?_eq_getElem hqn]; exact HUO.out.f32 _ (List.getElem_mem hqn)
                     have HTJ := Lib.hid (show (ufs.take (q + 1)).map (valT (us.map Wr.th)) = (ufs.take q).map (valT (us.map Wr.th)) ++ [valT (us.map Wr.th) (ufs.getD q 0)] from by rw [take_one hqn, List.map_append]; rfl)
                     have HFJ := Lib.hid (show (ufs.take (q + 1)).any (wrongV (us.map Wr.th)) = ((ufs.take q).any (wrongV (us.map Wr.th)) || wrongV (us.map Wr.th) (ufs.getD q 0)) from by rw [take_one hqn]; exact any_snoc _ _ _)
                     have hwl : (ws1 ++ (ufs.take q).map (valT (us.map Wr.th))).length ≤ 1000001000000 := by have := HWL2.out; simp only [List.length_append, List.length_map, List.length_take]; omega
                     have o1 := O.cell 1
                     clear S O
                     generalize ufs.getD q 0 = f at *
                     generalize (ufs.take q).map (valT (us.map Wr.th)) = pk at *
                     generalize (ufs.take q).any (wrongV (us.map Wr.th)) = fbj at *
                     have HVC := Lib.hid (roop_any (k := cF) HS.out.box (HS.out.all HALL.out HALB.out) f hf32)
                     rw [HGK.out] at HVC
                     go_wp2_with fail
                     refine HVC.out.mono ?_
                     rintro e w13 ⟨rfl, hb13, F13⟩
                     have HS14 := Lib.hid (HS.out.wrg hb13 F13)
                     have HO14 := Lib.hid (HO.out.fr1 F13 hbx)
                     have hv32 := valT_lt (us.map Wr.th) f
                     clear HVC hb13 F13 HS HO hcj o1 o6
                     generalize valT (us.map Wr.th) f = y at *
                     have q4 : w13.cell? ⟨xg, 4, none⟩ = some vw2 := HS14.out.box.cell 4
                     have HSA := Lib.hid (HS14.out.below ((Below.refl _ _).alloc (Nat.le_refl _) (.cells #[.int .u32 (y : Nat)] 32)))
                     have HOA := Lib.hid (HO14.out.alloc (.cells #[.int .u32 (y : Nat)] 32))
                     obtain ⟨nl, hnl⟩ : ∃ n, n = (ws1 ++ pk).length := ⟨_, rfl⟩
                     have HWO := Lib.hid (show World.ownsRow _ W10.heap.size 32 1 vw2 nl (u32s (ws1 ++ pk)) from by rw [hnl]; exact HSA.out.wo)
                     have HNL := Lib.hid hnl
                     have hnb : nl ≤ 1000001000000 := by rw [hnl]; exact hwl
                     clear hnl hwl
                     go_wp2_with (at_builtin; refine wpList_append_any _ rfl (.tmp 234) (.tmp 236) _ rfl W10.heap.size 32 i0 _ 1 4 Tryz.underlying44 hi0 hz0 hz1 hz2 rfl (by omega) vw2 nl (u32s (ws1 ++ pk)) rfl HWO.out (w13.heap.size + 1) (some ⟨w13.heap.size, 0, none⟩) 1 1 (u32s [y]) rfl ⟨rfl, fun _ => ⟨_, rfl, by simp, cell_one_new _ _ _⟩⟩ (one_u32s _) (by simp only [maxLen]; omega) (by omega) (HSA.out.fr.size) ?_; intro v15 w15 hown15 hg15 hat15; obtain ⟨g15, c15, rfl, -, -, -⟩ := Row.of_any hown15 (by omega); have HS15 := Lib.hid (HSA.out.appW (ys := [y]) rfl (by rw [← HNL.out]; exact hown15) hg15); have HO15 := Lib.hid (HSA.out.sideW (v' := .slice (some ⟨g15, 0, none⟩) (nl + 1) c15) HOA.out (by decide) (by decide) hg15); have hfz := (HSA.out.room hg15).frozen 4; have hcu : w15.cell? ⟨xg, 4, none⟩ = some vw2 := (HSA.out.room hg15).cell 4; clear hown15 hg15 hat15 HSA HOA q4)
                     go_roundw
                     case rel => exact ⟨q + 1, _, by go_num, by omega, by rw [HTJ.out, HFJ.out, ← List.append_assoc, ← Bool.or_assoc]; exact HS15.out, HO15.out⟩
                     case measure => simp [intOf]; omega
                    ·obtain rfl : q = ufs.length := by omega
                     have hd2 : decide ((ufs.length : Int) < (ufs.length : Int)) = false := by simp
                     rw [List.take_length] at S
                     have HSE := Lib.hid (show NwW W10 wr xg (.int .i64 (k : Nat)) (.int .i64 (at_ : Nat)) (.int .u32 (la : Nat)) vw2 (.slice none 0 0) wsN [] wgN from by
                      rw [HWE.out, HGE.out, HPT.out, if_pos rfl, Bool.true_and]
                      exact S)
                     clear HS HO hq hqn S O
                     go_wp2_with fail
                     go_roundw
                     case rel => exact ⟨j + 1, vw2, by go_num, by omega, HSN.out _ _ HSE.out⟩
                     case measure => simp [intOf]; omega
                  ·have hd1 : ((fx : Int) == 1) = false := by simp; omega
                   by_cases hf4 : fx = 4
                   ·have hd4 : ((fx : Int) == 4) = true := by simp; omega
                    have hpt : (⟨sx, fx, px, cx, rx⟩ : Hd).ptrT = true := by unfold Hd.ptrT; simp [hf4]
                    have HPT := Lib.hid hpt
                    clear hpt hf1 hf4
                    have o6 := HO11.out.cell 6
                    go_wp2_with fail
                    clear o6
                    go_loopw [19] (fun i wr => ∃ (q : Nat) (vw : Value), i = .int .i64 q ∧ q ≤ ufs.length ∧ NwW W10 wr xg (.int .i64 (k : Nat)) (.int .i64 (at_ : Nat)) (.int .u32 (la : Nat)) vw (.slice none 0 0) (ws1 ++ (ufs.take q).map (valT (us.map Wr.th))) [] (wr2 || (ufs.take q).any (wrongV (us.map Wr.th))) ∧ Blk wr b17 105 #[.int .i64 sx, .int .i64 fx, .int .i64 px, .int .u32 (cl : Nat), .int .u32 rx, .int .u32 cx2, .slice uA ufs.length uc, .int .i64 upl]) (fun i _ => ufs.length - (intOf i).toNat)
                    case atStart => exact ⟨0, _, rfl, Nat.zero_le _, by simpa using HS11.out, HO11.out⟩
                    case round =>
                     clear HS11 HO11
                     obtain ⟨q, vw2, rfl, hq, S, O⟩ := hrel
                     have HS := Lib.hid S
                     have HO := Lib.hid O
                     have o6 := O.cell 6
                     by_cases hqn : q < ufs.length
                     ·have hd2 : decide ((q : Int) < (ufs.length : Int)) = true := by simp; omega
                      have hqni : (q : Int) < (ufs.length : Int) := by omega
                      obtain ⟨ad, v0, hA2, -, hv0, hcj⟩ := (S.reads HUF.out.1 HUF.out.2).at_ hqn
                      rw [u32s_get hqn] at hv0
                      injection hv0 with hv0
                      subst hv0 hA2
                      have hf32 : ufs.getD q 0 < 4294967296 := by rw [List.getD_eq_getElem?_getD, List.getElem?_eq_getElem hqn]; exact HUO.out.f32 _ (List.getElem_mem hqn)
                      have HTJ := Lib.hid (show (ufs.take (q + 1)).map (valT (us.map Wr.th)) = (ufs.take q).map (valT (us.map Wr.th)) ++ [valT (us.map Wr.th) (ufs.getD q 0)] from by rw [take_one hqn, List.map_append]; rfl)
                      have HFJ := Lib.hid (show (ufs.take (q + 1)).any (wrongV (us.map Wr.th)) = ((ufs.take q).any (wrongV (us.map Wr.th)) || wrongV (us.map Wr.th) (ufs.getD q 0)) from by rw [take_one hqn]; exact any_snoc _ _ _)
                      have hwl : (ws1 ++ (ufs.take q).map (valT (us.map Wr.th))).length ≤ 1000001000000 := by have := HWL2.out; simp only [List.length_append, List.length_map, List.length_take]; omega
                      have o1 := O.cell 1
                      clear S O
                      generalize ufs.getD q 0 = f at *
                      generalize (ufs.take q).map (valT (us.map Wr.th)) = pk at *
                      generalize (ufs.take q).any (wrongV (us.map Wr.th)) = fbj at *
                      have HVC := Lib.hid (roop_any (k := cF) HS.out.box (HS.out.all HALL.out HALB.out) f hf32)
                      rw [HGK.out] at HVC
                      go_wp2_with fail
                      refine HVC.out.mono ?_
                      rintro e w13 ⟨rfl, hb13, F13⟩
                      have HS14 := Lib.hid (HS.out.wrg hb13 F13)
                      have HO14 := Lib.hid (HO.out.fr1 F13 hbx)
                      have hv32 := valT_lt (us.map Wr.th) f
                      clear HVC hb13 F13 HS HO hcj o1 o6
                      generalize valT (us.map Wr.th) f = y at *
                      have q4 : w13.cell? ⟨xg, 4, none⟩ = some vw2 := HS14.out.box.cell 4
                      have HSA := Lib.hid (HS14.out.below ((Below.refl _ _).alloc (Nat.le_refl _) (.cells #[.int .u32 (y : Nat)] 32)))
                      have HOA := Lib.hid (HO14.out.alloc (.cells #[.int .u32 (y : Nat)] 32))
                      obtain ⟨nl, hnl⟩ : ∃ n, n = (ws1 ++ pk).length := ⟨_, rfl⟩
                      have HWO := Lib.hid (show World.ownsRow _ W10.heap.size 32 1 vw2 nl (u32s (ws1 ++ pk)) from by rw [hnl]; exact HSA.out.wo)
                      have HNL := Lib.hid hnl
                      have hnb : nl ≤ 1000001000000 := by rw [hnl]; exact hwl
                      clear hnl hwl
                      go_wp2_with (at_builtin; refine wpList_append_any _ rfl (.tmp 234) (.tmp 236) _ rfl W10.heap.size 32 i0 _ 1 4 Tryz.underlying44 hi0 hz0 hz1 hz2 rfl (by omega) vw2 nl (u32s (ws1 ++ pk)) rfl HWO.out (w13.heap.size + 1) (some ⟨w13.heap.size, 0, none⟩) 1 1 (u32s [y]) rfl ⟨rfl, fun _ => ⟨_, rfl, by simp, cell_one_new _ _ _⟩⟩ (one_u32s _) (by simp only [maxLen]; omega) (by omega) (HSA.out.fr.size) ?_; intro v15 w15 hown15 hg15 hat15; obtain ⟨g15, c15, rfl, -, -, -⟩ := Row.of_any hown15 (by omega); have HS15 := Lib.hid (HSA.out.appW (ys := [y]) rfl (by rw [← HNL.out]; exact hown15) hg15); have HO15 := Lib.hid (HSA.out.sideW (v' := .slice (some ⟨g15, 0, none⟩) (nl + 1) c15) HOA.out (by decide) (by decide) hg15); have hfz := (HSA.out.room hg15).frozen 4; have hcu : w15.cell? ⟨xg, 4, none⟩ = some vw2 := (HSA.out.room hg15).cell 4; clear hown15 hg15 hat15 HSA HOA q4)
                      go_roundw
                      case rel => exact ⟨q + 1, _, by go_num, by omega, by rw [HTJ.out, HFJ.out, ← List.append_assoc, ← Bool.or_assoc]; exact HS15.out, HO15.out⟩
                      case measure => simp [intOf]; omega
                     ·obtain rfl : q = ufs.length := by omega
                      have hd2 : decide ((ufs.length : Int) < (ufs.length : Int)) = false := by simp
                      rw [List.take_length] at S
                      have HSE := Lib.hid (show NwW W10 wr xg (.int .i64 (k : Nat)) (.int .i64 (at_ : Nat)) (.int .u32 (la : Nat)) vw2 (.slice none 0 0) wsN [] wgN from by
                       rw [HWE.out, HGE.out, HPT.out, if_pos rfl, Bool.true_and]
                       exact S)
                      clear HS HO hq hqn S O
                      go_wp2_with fail
                      go_roundw
                      case rel => exact ⟨j + 1, vw2, by go_num, by omega, HSN.out _ _ HSE.out⟩
                      case measure => simp [intOf]; omega
                   ·have hd4 : ((fx : Int) == 4) = false := by simp; omega
                    have hpt : (⟨sx, fx, px, cx, rx⟩ : Hd).ptrT = false := by unfold Hd.ptrT; simp; omega
                    have HPT := Lib.hid hpt
                    clear hpt hf1 hf4
                    have o6 := HO11.out.cell 6
                    go_wp2_with fail
                    clear o6
                    go_loopw [19] (fun i wr => ∃ (q : Nat) (vw : Value), i = .int .i64 q ∧ q ≤ ufs.length ∧ NwW W10 wr xg (.int .i64 (k : Nat)) (.int .i64 (at_ : Nat)) (.int .u32 (la : Nat)) vw (.slice none 0 0) (ws1 ++ ufs.take q) [] wr2 ∧ Blk wr b17 105 #[.int .i64 sx, .int .i64 fx, .int .i64 px, .int .u32 (cl : Nat), .int .u32 rx, .int .u32 cx2, .slice uA ufs.length uc, .int .i64 upl]) (fun i _ => ufs.length - (intOf i).toNat)
                    case atStart => exact ⟨0, _, rfl, Nat.zero_le _, by simpa using HS11.out, HO11.out⟩
                    case round =>
                     clear HS11 HO11
                     obtain ⟨q, vw2, rfl, hq, S, O⟩ := hrel
                     have HS := Lib.hid S
                     have HO := Lib.hid O
                     have o6 := O.cell 6
                     by_cases hqn : q < ufs.length
                     ·have hd2 : decide ((q : Int) < (ufs.length : Int)) = true := by simp; omega
                      have hqni : (q : Int) < (ufs.length : Int) := by omega
                      obtain ⟨ad, v0, hA2, -, hv0, hcj⟩ := (S.reads HUF.out.1 HUF.out.2).at_ hqn
                      rw [u32s_get hqn] at hv0
                      injection hv0 with hv0
                      subst hv0 hA2
                      have hf32 : ufs.getD q 0 < 4294967296 := by rw [List.getD_eq_getElem?_getD, List.getElem?_eq_getElem hqn]; exact HUO.out.f32 _ (List.getElem_mem hqn)
                      have HTJ := Lib.hid (show ufs.take (q + 1) = ufs.take q ++ [ufs.getD q 0] from take_one hqn)
                      have hwl : (ws1 ++ ufs.take q).length ≤ 1000001000000 := by have := HWL2.out; simp only [List.length_append, List.length_take]; omega
                      have o1 := O.cell 1
                      clear S O
                      generalize ufs.getD q 0 = f at *
                      generalize ufs.take q = pk at *
                      generalize hyf : f = y at *
                      clear hyf
                      have HS14 := Lib.hid HS.out
                      have HO14 := Lib.hid HO.out
                      have q4 : wr.cell? ⟨xg, 4, none⟩ = some vw2 := HS14.out.box.cell 4
                      have HSA := Lib.hid (HS14.out.below ((Below.refl _ _).alloc (Nat.le_refl _) (.cells #[.int .u32 (y : Nat)] 32)))
                      have HOA := Lib.hid (HO14.out.alloc (.cells #[.int .u32 (y : Nat)] 32))
                      obtain ⟨nl, hnl⟩ : ∃ n, n = (ws1 ++ pk).length := ⟨_, rfl⟩
                      have HWO := Lib.hid (show World.ownsRow _ W10.heap.size 32 1 vw2 nl (u32s (ws1 ++ pk)) from by rw [hnl]; exact HSA.out.wo)
                      have HNL := Lib.hid hnl
                      have hnb : nl ≤ 1000001000000 := by rw [hnl]; exact hwl
                      clear hnl hwl
                      go_wp2_with (at_builtin; refine wpList_append_any _ rfl (.tmp 234) (.tmp 236) _ rfl W10.heap.size 32 i0 _ 1 4 Tryz.underlying44 hi0 hz0 hz1 hz2 rfl (by omega) vw2 nl (u32s (ws1 ++ pk)) rfl HWO.out (wr.heap.size + 1) (some ⟨wr.heap.size, 0, none⟩) 1 1 (u32s [y]) rfl ⟨rfl, fun _ => ⟨_, rfl, by simp, cell_one_new _ _ _⟩⟩ (one_u32s _) (by simp only [maxLen]; omega) (by omega) (HSA.out.fr.size) ?_; intro v15 w15 hown15 hg15 hat15; obtain ⟨g15, c15, rfl, -, -, -⟩ := Row.of_any hown15 (by omega); have HS15 := Lib.hid (HSA.out.appW (ys := [y]) rfl (by rw [← HNL.out]; exact hown15) hg15); have HO15 := Lib.hid (HSA.out.sideW (v' := .slice (some ⟨g15, 0, none⟩) (nl + 1) c15) HOA.out (by decide) (by decide) hg15); have hfz := (HSA.out.room hg15).frozen 4; have hcu : w15.cell? ⟨xg, 4, none⟩ = some vw2 := (HSA.out.room hg15).cell 4; clear hown15 hg15 hat15 HSA HOA q4)
                      go_roundw
                      case rel => exact ⟨q + 1, _, by go_num, by omega, by rw [HTJ.out, ← List.append_assoc]; exact HS15.out, HO15.out⟩
                      case measure => simp [intOf]; omega
                     ·obtain rfl : q = ufs.length := by omega
                      have hd2 : decide ((ufs.length : Int) < (ufs.length : Int)) = false := by simp
                      rw [List.take_length] at S
                      have HSE := Lib.hid (show NwW W10 wr xg (.int .i64 (k : Nat)) (.int .i64 (at_ : Nat)) (.int .u32 (la : Nat)) vw2 (.slice none 0 0) wsN [] wgN from by
                       rw [HWE.out, HGE.out, HPT.out, if_neg (by decide), Bool.false_and, Bool.or_false]
                       exact S)
                      clear HS HO hq hqn S O
                      go_wp2_with fail
                      go_roundw
                      case rel => exact ⟨j + 1, vw2, by go_num, by omega, HSN.out _ _ HSE.out⟩
                      case measure => simp [intOf]; omega
               ·obtain rfl : k = j := by omega
                have hd : decide ((k : Int) < (k : Int)) = false := by simp
                have hku : (us.map Wr.th).take k = (us.map Wr.th) := List.take_of_length_le (by rw [List.length_map]; omega)
                have S0 := HS.out
                rw [show wdsT us k = (⟨(us.map Wr.th), rts, la⟩ : Img).words from by unfold wdsT; rw [hku]; rfl] at S0
                have HFW := Lib.hid (show (wrgT us k || rts.any (wrongV (us.map Wr.th))) = (⟨(us.map Wr.th), rts, la⟩ : Img).wrong from by unfold wrgT; rw [hku]; rfl)
                have HRO := Lib.hid (show rts.map (valT (us.map Wr.th)) = (⟨(us.map Wr.th), rts, la⟩ : Img).roots from rfl)
                have HS5 := Lib.hid S0
                have hrl : rts.length = 64 := by have := HVL.out.1; rw [u32s_len] at this; omega
                have HR32 := Lib.hid (show ∀ r ∈ rts, r < 4294967296 from H32.out)
                clear HS S0 hj hjk hku
                generalize wrgT us k = fbO at *
                go_wp2_with fail
                clear hd
                obtain ⟨i0, hi0, hz0, hz1, hz2⟩ := info_parts info_oop
                go_loopw [21] (fun i wr => ∃ (q : Nat) (vr : Value), i = .int .i64 q ∧ q ≤ 64 ∧ NwW W10 wr xg (.int .i64 (k : Nat)) (.int .i64 (at_ : Nat)) (.int .u32 (la : Nat)) vw vr (⟨(us.map Wr.th), rts, la⟩ : Img).words ((rts.take q).map (valT (us.map Wr.th))) (fbO || (rts.take q).any (wrongV (us.map Wr.th)))) (fun i _ => 64 - (intOf i).toNat)
                case atStart => exact ⟨0, _, rfl, Nat.zero_le _, by simpa using HS5.out⟩
                case round =>
                 clear HS5
                 obtain ⟨q, vr, rfl, hq, S⟩ := hrel
                 have HS := Lib.hid S
                 by_cases hqn : q < 64
                 ·have hd2 : decide ((q : Int) < 64) = true := by simp; omega
                  have hqni : (q : Int) < 64 := by omega
                  have hqr : q < rts.length := by omega
                  obtain ⟨ad, v0, hA2, hbl, hv0, hc0⟩ := HVL.out.at_ hqn
                  have HAD := Lib.hid (show ad.block < W10.heap.size ∧ ad.block ≠ xg from ⟨hbl, HVB.out (by omega) ad hA2⟩)
                  rw [u32s_get hqr] at hv0
                  injection hv0 with hv0
                  subst hv0 hA2
                  have HCC := Lib.hid (fun (W : World) (h : W.heap[ad.block]? = W10.heap[ad.block]?) => (show W.cell? (ad.add q) = some (.int .u32 (rts.getD q 0 : Nat)) from (World.cell?_of_block (a := ad.add q) (w := W10) (by rw [block_of_add]; exact h)).trans hc0))
                  clear hbl hc0
                  have hx32 : rts.getD q 0 < 4294967296 := by rw [List.getD_eq_getElem?_getD, List.getElem?_eq_getElem hqr]; exact HR32.out _ (List.getElem_mem hqr)
                  have HTJ := Lib.hid (show (rts.take (q + 1)).map (valT (us.map Wr.th)) = (rts.take q).map (valT (us.map Wr.th)) ++ [valT (us.map Wr.th) (rts.getD q 0)] from by rw [take_one hqr, List.map_append]; rfl)
                  have HFJ := Lib.hid (show (rts.take (q + 1)).any (wrongV (us.map Wr.th)) = ((rts.take q).any (wrongV (us.map Wr.th)) || wrongV (us.map Wr.th) (rts.getD q 0)) from by rw [take_one hqr]; exact any_snoc _ _ _)
                  have hpl : ((rts.take q).map (valT (us.map Wr.th))).length ≤ 64 := by rw [List.length_map, List.length_take]; omega
                  clear S
                  generalize rts.getD q 0 = x at *
                  generalize (rts.take q).map (valT (us.map Wr.th)) = pk at *
                  generalize (rts.take q).any (wrongV (us.map Wr.th)) = fbj at *
                  go_upto_region 49 with fail
                  refine wp_region_U 16 (fun w' => w'.cell? ⟨xg, 5, none⟩ = some vr ∧ w'.cell? (ad.add q) = some (.int .u32 (x : Int))) (by kernel_rfl) ?_
                  have HSq := Lib.hid (HS.out.below (⟨rfl, rfl, rfl, Nat.le_refl _, fun _ _ => rfl⟩ : Below wr.heap.size wr wr.drew))
                  have hcq : wr.drew.cell? (ad.add q) = some (.int .u32 (x : Int)) := HCC.out _ (HSq.out.fr.same _ HAD.out.1 HAD.out.2)
                  clear HS
                  generalize wr.drew = wq at *
                  have hS : wq.cell? ⟨xg, 5, none⟩ = some vr ∧ wq.cell? (ad.add q) = some (.int .u32 (x : Int)) := ⟨HSq.out.box.cell 5, hcq⟩
                  refine U_readC 0 [14, 15, 16] (v := (.pointer (some ⟨xg, 0, none⟩))) rfl (by kernel_rfl) (fun _ _ _ h => h) hS (by kernel_rfl) (fun w' hw' => by obtain ⟨h0, h1⟩ := hw'; go_simp) ?_
                  try simp only [Act.put, List.setIfInBounds_toArray, List.set_cons_zero, List.set_cons_succ]
                  refine U_readC 1 [2, 3, 4, 13, 16] (v := (.pointer (some ⟨xg, 0, none⟩))) rfl (by kernel_rfl) (fun _ _ _ h => h) hS (by kernel_rfl) (fun w' hw' => by obtain ⟨h0, h1⟩ := hw'; go_simp) ?_
                  try simp only [Act.put, List.setIfInBounds_toArray, List.set_cons_zero, List.set_cons_succ]
                  refine U_readC 2 [3, 4, 13, 16] (v := (.pointer (some ⟨xg, 0, none⟩))) rfl (by kernel_rfl) (fun _ _ _ h => h) hS (by kernel_rfl) (fun w' hw' => by obtain ⟨h0, h1⟩ := hw'; go_simp) ?_
                  try simp only [Act.put, List.setIfInBounds_toArray, List.set_cons_zero, List.set_cons_succ]
                  refine U_readC 3 [4, 13, 16] (v := (.pointer (some ⟨xg, 5, none⟩))) rfl (by kernel_rfl) (fun _ _ _ h => h) hS (by kernel_rfl) (fun w' hw' => by obtain ⟨h0, h1⟩ := hw'; go_simp) ?_
                  try simp only [Act.put, List.setIfInBounds_toArray, List.set_cons_zero, List.set_cons_succ]
                  refine U_readC 4 [13, 16] (v := vr) rfl (by kernel_rfl) (fun _ _ _ h => h) hS (by kernel_rfl) (fun w' hw' => by obtain ⟨h0, h1⟩ := hw'; go_simp) ?_
                  try simp only [Act.put, List.setIfInBounds_toArray, List.set_cons_zero, List.set_cons_succ]
                  refine U_readC 5 [11, 12, 13, 16] (v := (.pointer (some ⟨xg, 0, none⟩))) rfl (by kernel_rfl) (fun _ _ _ h => h) hS (by kernel_rfl) (fun w' hw' => by obtain ⟨h0, h1⟩ := hw'; go_simp) ?_
                  try simp only [Act.put, List.setIfInBounds_toArray, List.set_cons_zero, List.set_cons_succ]
                  refine U_readC 6 [8, 9, 11, 12, 13, 16] (v := (.slice (some ad) 64 cR)) rfl (by kernel_rfl) (fun _ _ _ h => h) hS (by kernel_rfl) (fun w' hw' => by obtain ⟨h0, h1⟩ := hw'; go_simp) ?_
                  try simp only [Act.put, List.setIfInBounds_toArray, List.set_cons_zero, List.set_cons_succ]
                  refine U_readC 7 [8, 9, 11, 12, 13, 16] (v := (.int .i64 (q : Int))) rfl (by kernel_rfl) (fun _ _ _ h => h) hS (by kernel_rfl) (fun w' hw' => by obtain ⟨h0, h1⟩ := hw'; go_simp) ?_
                  try simp only [Act.put, List.setIfInBounds_toArray, List.set_cons_zero, List.set_cons_succ]
                  refine U_readC 8 [9, 11, 12, 13, 16] (v := (.pointer (some (ad.add q)))) rfl (by kernel_rfl) (fun _ _ _ h => h) hS (by kernel_rfl) (fun w' hw' => by obtain ⟨h0, h1⟩ := hw'; go_simp) ?_
                  try simp only [Act.put, List.setIfInBounds_toArray, List.set_cons_zero, List.set_cons_succ]
                  refine U_readC 9 [11, 12, 13, 16] (v := (.int .u32 (x : Int))) rfl (by kernel_rfl) (fun _ _ _ h => h) hS (by kernel_rfl) (fun w' hw' => by obtain ⟨h0, h1⟩ := hw'; go_simp) ?_
                  try simp only [Act.put, List.setIfInBounds_toArray, List.set_cons_zero, List.set_cons_succ]
                  refine U_readC 10 [11, 12, 13, 16] (v := (.slice AF k cF)) rfl (by kernel_rfl) (fun _ _ _ h => h) hS (by kernel_rfl) (fun w' hw' => by obtain ⟨h0, h1⟩ := hw'; go_simp) ?_
                  try simp only [Act.put, List.setIfInBounds_toArray, List.set_cons_zero, List.set_cons_succ]
                  have HVC := Lib.hid (roop_any (k := cF) HSq.out.box (HSq.out.all HALL.out HALB.out) x hx32)
                  rw [hkus] at HVC
                  refine U_one 11 (by kernel_rfl) rfl rfl (fun K hK => ?_)
                  go_simp
                  refine HVC.out.mono ?_
                  rintro e w13 ⟨rfl, hb13, F13⟩
                  have HS14 := Lib.hid (HSq.out.wrg hb13 F13)
                  have hc13 : w13.cell? (ad.add q) = some (.int .u32 (x : Int)) := HCC.out _ (HS14.out.fr.same _ HAD.out.1 HAD.out.2)
                  have hv32 := valT_lt (us.map Wr.th) x
                  clear hb13 F13 HSq HVC
                  generalize valT (us.map Wr.th) x = y at *
                  have hS14 : w13.cell? ⟨xg, 5, none⟩ = some vr ∧ w13.cell? (ad.add q) = some (.int .u32 (x : Int)) := ⟨HS14.out.box.cell 5, hc13⟩
                  refine hK _ _ (fun _ => hS14) ?_
                  clear hK K
                  try simp only [Act.put, List.setIfInBounds_toArray, List.set_cons_zero, List.set_cons_succ]
                  refine U_one 12 (by kernel_rfl) rfl rfl (fun K hK => ?_)
                  go_simp
                  have HSA := Lib.hid (HS14.out.below ((Below.refl _ _).alloc (Nat.le_refl _) (.cells #[.int .u32 (y : Nat)] 72)))
                  have hcA : (w13.alloc (.cells #[.int .u32 (y : Nat)] 72)).cell? (ad.add q) = some (.int .u32 (x : Int)) := HCC.out _ (HSA.out.fr.same _ HAD.out.1 HAD.out.2)
                  have hSA : (w13.alloc (.cells #[.int .u32 (y : Nat)] 72)).cell? ⟨xg, 5, none⟩ = some vr ∧ (w13.alloc (.cells #[.int .u32 (y : Nat)] 72)).cell? (ad.add q) = some (.int .u32 (x : Int)) := ⟨HSA.out.box.cell 5, hcA⟩
                  refine hK _ _ (fun _ => hSA) ?_
                  clear hK K
                  try simp only [Act.put, List.setIfInBounds_toArray, List.set_cons_zero, List.set_cons_succ]
                  refine U_one 13 (by kernel_rfl) rfl rfl (fun K hK => ?_)
                  refine wp_append_any _ (.tmp 250) (.tmp 258) _ rfl W10.heap.size 72 i0 _ 1 4 Tryz.underlying45 hi0 hz0 hz1 hz2 rfl (by omega) vr pk.length (u32s pk) rfl HSA.out.ro (w13.heap.size + 1) (some ⟨w13.heap.size, 0, none⟩) 1 1 (u32s [y]) rfl ⟨rfl, fun _ => ⟨_, rfl, by simp, cell_one_new _ _ _⟩⟩ (one_u32s _) (by simp only [maxLen]; omega) (by omega) HSA.out.fr.size ?_
                  intro v15 w15 hown15 hg15 hat15
                  obtain ⟨g15, c15, rfl, -, -, -⟩ := Row.of_any hown15 (by omega)
                  have HS15 := Lib.hid (HSA.out.appR (ys := [y]) rfl hown15 hg15)
                  have hfz := (HSA.out.roomR hg15).frozen 5
                  have hcu := (HSA.out.roomR hg15).cell 5
                  have hc15 : w15.cell? (ad.add q) = some (.int .u32 (x : Int)) := HCC.out _ ((Below.heap_setCell w15 ⟨xg, 5, none⟩ (.slice (some ⟨g15, 0, none⟩) (pk.length + 1) c15) ad.block HAD.out.2).symm.trans (HS15.out.fr.same _ HAD.out.1 HAD.out.2))
                  have hS15 : w15.cell? ⟨xg, 5, none⟩ = some vr ∧ w15.cell? (ad.add q) = some (.int .u32 (x : Int)) := ⟨hcu, hc15⟩
                  clear hown15 hg15 hat15 HSA HS14 hcA hc15 hc13 hcq
                  refine hK _ _ (fun _ => hS15) ?_
                  clear hK K
                  try simp only [Act.put, List.setIfInBounds_toArray, List.set_cons_zero, List.set_cons_succ]
                  refine U_one 14 (by kernel_rfl) rfl rfl (fun K hK => ?_)
                  go_simp
                  refine hK _ _ (fun _ => hS15) ?_
                  clear hK K
                  try simp only [Act.put, List.setIfInBounds_toArray, List.set_cons_zero, List.set_cons_succ]
                  refine U_one 15 (by kernel_rfl) rfl rfl (fun K hK => ?_)
                  go_simp
                  refine hK _ _ (fun _ => hS15) ?_
                  clear hK K
                  try simp only [Act.put, List.setIfInBounds_toArray, List.set_cons_zero, List.set_cons_succ]
                  refine U_one 16 (by kernel_rfl) rfl rfl (fun K hK => ?_)
                  go_simp
                  refine hK _ _ (fun h => absurd h (by decide)) ?_
                  clear hK K
                  try simp only [Act.put, List.setIfInBounds_toArray, List.set_cons_zero, List.set_cons_succ]
                  refine U_done (by kernel_rfl) ?_ _
                  simp only [Calm, Exit.then]
                  clear hS hS14 hSA hS15 hcu hfz
                  go_wp2_with fail
                  go_roundw
                  case rel => exact ⟨q + 1, _, by go_num, by omega, by rw [HTJ.out, HFJ.out, ← Bool.or_assoc]; exact HS15.out⟩
                  case measure => simp [intOf]; omega
                 ·obtain rfl : q = 64 := by omega
                  have hd2 : decide ((64 : Int) < 64) = false := by decide
                  rw [show rts.take 64 = rts from List.take_of_length_le (by omega), HFW.out, HRO.out] at S
                  have HFN := Lib.hid (NewerP.of (below_fr1 HFR.out S.fr hwx) HNG.out (show Blk wr xg 63 (RdC (.int .i64 2) (.int .i64 ((us.map Wr.th).length : Nat)) (.int .i64 (placeT (us.map Wr.th) : Nat)) (.int .u32 (la : Nat)) vw vr _) from by rw [List.length_map, hkus, ← HPT2.out]; exact S.box) (own_baseD S.wo HFR.out.size) (own_baseD S.ro HFR.out.size) hwx)
                  clear HS S hq hqn
                  go_wp2_with fail
                  go_ret2
                  exact HFN.out
end
end Go.Proofs.YthadjmhipckelaaGreatDoor
