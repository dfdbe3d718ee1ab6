/- The document's Canon: a graph's bytes. -/
/- Counts of a graph. Plain data, and their bounds. -/
import Derived.Test.YtpajpdjjpgbklaaDoorJRWalk
import Derived.Test.YtpajpdjjpgbklaaDoorJRFollow
import Derived.Test.YtpajpdjjpgbklaaDoorJAll
import Derived.Test.YtpajpdjjpgbklaaDoorJCanK
import Derived.Test.YtpajpdjjpgbklaaDoorJSeen
set_option linter.unusedVariables false
set_option linter.unusedSimpArgs false
set_option linter.unusedSectionVars false
namespace Go.Proofs.YtpajpdjjpgbklaaDoor
open Go.RowKit Go.Maps
attribute [local go_sem] Oper.semAt_some

theorem rb4_at (x r : Nat) (hr : r < 4) : (bytes4 x)[r]? = some (byteOf x r) := by
  rcases (by omega : r = 0 ∨ r = 1 ∨ r = 2 ∨ r = 3) with rfl | rfl | rfl | rfl <;> simp [bytes4, byteOf]
theorem rbM_at (ys : List Nat) : ∀ i, i < 4 * ys.length → (bytesM ys)[i]? = some (byteOf (ys.getD (i / 4) 0) (i % 4)) := by
  induction ys with
  | nil => intro i hi; simp at hi
  | cons y ys ih =>
    intro i hi
    rw [bytesM_cons]
    have hl : (bytes4 y).length = 4 := rfl
    rcases Nat.lt_or_ge i 4 with h | h
    · rw [List.getElem?_append_left (by omega), rb4_at y i h, Nat.div_eq_of_lt h, Nat.mod_eq_of_lt h]
      rfl
    · rw [List.getElem?_append_right (by omega), hl, ih (i - 4) (by simp at hi; omega)]
      have e1 : i / 4 = (i - 4) / 4 + 1 := by omega
      have e2 : i % 4 = (i - 4) % 4 := by omega
      rw [e1, e2, List.getD_cons_succ]
theorem rbM_take_map (ys : List Nat) (n : Nat) (hn : n ≤ 4 * ys.length) (f : Nat → Nat) (hf : ∀ i, i < n → f i = byteOf (ys.getD (i / 4) 0) (i % 4)) : (bytesM ys).take n = (List.range n).map f := by
  apply List.ext_getElem?
  intro i
  rcases Nat.lt_or_ge i n with h | h
  · rw [List.getElem?_take, if_pos h, rbM_at ys i (by omega), List.getElem?_map, List.getElem?_range h]
    simp [hf i h]
  · rw [List.getElem?_eq_none (by simp; omega), List.getElem?_eq_none (by simp; omega)]
theorem good_bytesN {h : HM} {l : List Ob} (G : h.Good l) {o : Nat} (hi : h.isB o = true) (h2 : (h.hd (o / 2)).fmt = 2) : h.rbE o = 0 ∧ h.bytesN o (h.hd (o / 2)).len = h.bytesL o := by
  unfold HM.rbE HM.bytesL
  obtain ⟨a, b, c, rfl, rfl⟩ := (G.laid.isB_iff o).1 hi
  have L := G.laid
  rw [half_pos, L.hd_at] at h2
  rw [half_pos, L.hd_at, L.fields_at]
  have K := L.ok_at
  rw [if_neg (by rw [hi]; decide), if_pos h2]
  refine ⟨rfl, ?_⟩
  have hlen : b.x.len = 4 * b.x.size - b.x.spare := by unfold Hd.len; rw [if_pos h2]
  unfold HM.bytesN
  have hsz := K.size
  refine (rbM_take_map b.fs b.x.len (by omega) _ (fun i hi' => ?_)).symm
  have he : h.lookE (2 * posOf a) (i : Int) [2] = 0 := by
    unfold HM.lookE
    rw [half_pos, L.hd_at, if_neg (by rw [hi]; decide), h2, if_neg (by decide), if_neg (by omega)]
  unfold HM.byteN
  rw [if_pos he]
  unfold fb
  rw [Int.toNat_natCast, L.f_at (i / 4) (by omega)]
theorem rword_good {w : World} {p : HP} {h : HM} (H : RAt w p h) (f : h.Fit) (hh : h.Heads) {o : Nat} (ho : o < 4294967296) (hi : h.isB o = true) (h3 : (h.hd (o / 2)).fmt = 3) {k : Nat} (hk : k < (h.hd (o / 2)).size) (hs : (h.hd (o / 2)).size ≤ 1048576) :
    Calls Tryd.prog 59 #[ptr p.g, .int .u32 o, .int .i64 k] w (Told (.tuple #[.int .u32 (fw h o k : Nat), .int .i64 0]) w) := by
  have hG := rword_any H f hh o ho (k : Int) (by omega)
  have hln : (h.hd (o / 2)).len = (h.hd (o / 2)).size := by unfold Hd.len; rw [if_neg (by omega)]
  have he : h.lookE o (k : Int) [3] = 0 := by
    unfold HM.lookE
    rw [hi, if_neg (by decide), if_neg (by rw [h3]; decide), if_neg (by omega)]
  rw [show h.readN o (k : Int) [3] = fw h o k by unfold HM.readN; rw [if_pos he]; simp, he] at hG
  exact hG
/-- The bytes so far: a row of the call's own, of blocks from B on. -/
structure RC (w2 wr : World) (B : Nat) (v : Value) (bs : List Nat) : Prop where
  own : wr.ownsRow B 5 1 v bs.length (u8c bs)
  base : Below w2.heap.size w2 wr
  hB : w2.heap.size ≤ B
  top : B ≤ wr.heap.size
theorem RC.below {w2 w w' : World} {B : Nat} {v : Value} {bs : List Nat} (C : RC w2 w B v bs) (hb : Below w.heap.size w w') : RC w2 w' B v bs :=
  ⟨own_same C.own (fun k hk => hb.block k (C.own.lt k hk).2), below_top C.base hb, C.hB, Nat.le_trans C.top hb.size⟩
theorem u8c_app (a b : List Nat) : u8c (a ++ b) = u8c a ++ u8c b := by simp [u8c]
theorem RC.app {w2 w w' : World} {B m : Nat} {v v' : Value} {bs cs : List Nat} (C : RC w2 w B v bs) (hm : cs.length = m) (ho : w'.ownsRow B 5 1 v' (bs.length + m) (u8c bs ++ u8c cs)) (hg : w.grownBy w' v.ownBlock) : RC w2 w' B v' (bs ++ cs) :=
  ⟨by rw [List.length_append, u8c_app, hm]; exact ho, C.base.grown hg (Nat.le_trans C.hB C.top) (fun k hk => Nat.le_trans C.hB (C.own.lt k hk).1), C.hB, Nat.le_trans C.top hg.size⟩
theorem upd_take {l : List Nd} (hd : (oopsOf l).Nodup) {i : Nat} (hi : i < l.length) : upd (numF (l.take i)) (l.getD i default).o (i + 1) = numF (l.take (i + 1)) := by
  have e : l.take (i + 1) = l.take i ++ [l.getD i default] := by
    rw [List.take_add_one, List.getElem?_eq_getElem hi, List.getD_eq_getElem?_getD, List.getElem?_eq_getElem hi]; rfl
  have hn : (l.getD i default).o ∉ oopsOf (l.take i) := by
    intro hm
    have h1 : oopsOf (l.take (i + 1)) = oopsOf (l.take i) ++ [(l.getD i default).o] := by rw [e]; simp [oopsOf]
    have h2 : (oopsOf (l.take (i + 1))).Nodup := by
      have : oopsOf (l.take (i + 1)) = (oopsOf l).take (i + 1) := by simp [oopsOf, List.map_take]
      rw [this]
      exact hd.sublist (List.take_sublist _ _)
    rw [h1, List.nodup_append] at h2
    exact h2.2.2 _ hm _ (by simp) rfl
  have h3 := numF_new hn (l.getD i default).par (l.getD i default).fld (l.getD i default).deep
  rw [e]
  rw [show ([(⟨(l.getD i default).o, (l.getD i default).par, (l.getD i default).fld, (l.getD i default).deep⟩ : Nd)]) = [l.getD i default] from rfl] at h3
  rw [h3, List.length_take, Nat.min_eq_left (by omega)]
/-- The bytes so far, with the boxes of the object and of its header. -/
structure RQ (w2 wr : World) (B : Nat) (v : Value) (bs : List Nat) (gM : Nat) (cm : Array Value) (gH : Nat) (ch : Array Value) : Prop where
  rc : RC w2 wr B v bs
  bm : Blk wr gM 108 cm
  bh : Blk wr gH 55 ch
theorem RQ.below {w2 w w' : World} {B gM gH : Nat} {v : Value} {bs : List Nat} {cm ch : Array Value} (C : RQ w2 w B v bs gM cm gH ch) (hb : Below w.heap.size w w') : RQ w2 w' B v bs gM cm gH ch :=
  ⟨C.rc.below hb, C.bm.below hb C.bm.lt, C.bh.below hb C.bh.lt⟩
theorem RQ.app {w2 w w' : World} {B gM gH m : Nat} {v v' : Value} {bs cs : List Nat} {cm ch : Array Value} (C : RQ w2 w B v bs gM cm gH ch) (hm : cs.length = m) (ho : w'.ownsRow B 5 1 v' (bs.length + m) (u8c bs ++ u8c cs)) (hg : w.grownBy w' v.ownBlock) : RQ w2 w' B v' (bs ++ cs) gM cm gH ch :=
  ⟨C.rc.app hm ho hg, C.bm.same (hg.block _ C.bm.lt (fun e => own_ne_blk C.rc.own C.bm (by decide) e.symm)), C.bh.same (hg.block _ C.bh.lt (fun e => own_ne_blk C.rc.own C.bh (by decide) e.symm))⟩
theorem RC.names {w2 w w' : World} {B b1 n : Nat} {v vN : Value} {bs : List Nat} {xs : List Value} (C : RC w2 w B v bs) (hg : w.grownBy w' v.ownBlock) (h : w.ownsRow b1 50 1 vN n xs) : w'.ownsRow b1 50 1 vN n xs :=
  own_same h (fun k hk => hg.block k (h.lt k hk).2 (fun e => own_type h C.own (by decide) k hk e.symm))
theorem rc_fmt {h : HM} {i : Nat} (hd : h.hdAt i) : 1 ≤ (h.hd i).fmt ∧ (h.hd i).fmt ≤ 4 := by
  have h2 := hd.2
  unfold okhd Hd.may at h2
  simp only [Bool.and_eq_true, decide_eq_true_eq] at h2
  exact ⟨h2.1.1.1.2, h2.1.1.2⟩
theorem one_len (x y : Nat) : ([x, y] : List Nat).length = 2 := rfl
/-- What Canon answers. -/
def RCanonP (h : HM) (ser : Bool) (fr : List Nat) (w : World) (e : Ending) (w' : World) : Prop :=
  Below w.heap.size w w' ∧ ((h.fitsB fr = false ∧ e = .returned (.tuple #[.slice none 0 0, .int .i64 3])) ∨
    (h.fitsB fr = true ∧ seenM h.nmN h.nmAt fr = none ∧ e = .returned (.tuple #[.slice none 0 0, .int .i64 2])) ∨
    (h.fitsB fr = true ∧ ∃ l v, seenM h.nmN h.nmAt fr = some l ∧ e = .returned (.tuple #[v, .int .i64 0]) ∧ w'.ownsRow w.heap.size 5 1 v (canonM h ser fr l).length (u8c (canonM h ser fr l))))
set_option maxRecDepth 100000 in
set_option maxHeartbeats 16000000 in
theorem rcanon_any {w : World} {p : HP} {h : HM} {ls : List Ob} (H : RAt w p h) (G : h.Good ls) (ser : Bool) (A : Option Addr) (n c : Nat) (fr : List Nat) (hn : n ≤ 10000000000000) (hr : Reads w w.heap.size 1 A n (u32s fr)) (h32 : ∀ x ∈ fr, x < 4294967296) :
    Calls Tryd.prog 24 #[ptr p.g, .bool ser, .slice A n c] w (RCanonP h ser fr w) := by
  have f := G.fit
  have hh := G.laid.heads
  have hl : fr.length = n := by have := hr.1; rw [u32s_len] at this; omega
  have HWK := Lib.hid (rwalk_any (c := c) H G A n fr (by omega) hr h32)
  have HL := Lib.hid hl; have HR := Lib.hid hr; have HX := Lib.hid h32; have HH := Lib.hid H
  clear hl hr h32 H
  unfold ptr at HWK ⊢
  go_enter Tryd.func24, Tryd.ntmps24
  go_wp2_with fail
  refine HWK.out.mono ?_
  rintro e w1 ⟨hb1, ⟨hf, rfl⟩ | ⟨hf, hs, rfl⟩ | ⟨hf, l, Al, cl, hs, hw, rfl, hml⟩⟩
  · go_wp2_with fail
    go_ret2
    exact ⟨hb1, .inl ⟨hf, rfl⟩⟩
  · go_wp2_with fail
    go_ret2
    exact ⟨hb1, .inr (.inl ⟨hf, hs, rfl⟩)⟩
  · obtain ⟨hl6, hnd, hisb, hdp⟩ := hw
    have HFS := Lib.hid (And.intro hf hs)
    have HB1 := Lib.hid hb1
    have HND := Lib.hid hnd
    have HIS := Lib.hid hisb
    have hM0 : MapInt 3 (w1.alloc (.map #[] 0)) w1.heap.size 0 (numF (l.take 0)) := MapInt.made w1 3
    have HM0 := Lib.hid hM0
    have HA1 := Lib.hid ((Below.refl w1.heap.size w1).alloc (Nat.le_refl _) (.map #[] 0))
    have HML := Lib.hid hml
    have hmm := @run_makeMap Tryd.prog
    clear HWK hf hs hb1 hnd hisb hdp hM0 hml
    go_wp2_with fail
    clear hmm
    generalize hmB : w1.heap.size = mB at *
    have HMB := Lib.hid hmB
    clear hmB
    generalize w1.alloc (.map #[] 0) = wz at *
    have hfmt : ∀ (nd : Nd), (Nd.mk nd.o nd.par nd.fld nd.deep) = nd := fun _ => rfl
    clear hfmt
    go_loopw [38] (fun j wr => ∃ i : Nat, i ≤ l.length ∧ j = .int .i64 i ∧ MapInt 3 wr mB i (numF (l.take i)) ∧ Below w1.heap.size w1 wr) (fun j _ => l.length - (intOf j).toNat)
    case atStart => exact ⟨0, by omega, rfl, HM0.out, by rw [HMB.out]; exact HA1.out⟩
    case round =>
      clear HM0 HA1
      obtain ⟨i, hi, rfl, hM, hB⟩ := hrel
      by_cases hlt : i < l.length
      · have hlt2 : (i : Int) < (l.length : Int) := by omega
        have HMM := Lib.hid hM
        have HB := Lib.hid hB
        obtain ⟨ad, rfl, -, m0, m1, m2, m3⟩ := ((HML.out.below (by rw [← HMB.out]; exact hB)).load hlt)
        have ho32 : (l.getD i default).o < 4294967296 := by
          have h1 := HM.isB_lt (HIS.out _ (oopsOf_mem hlt)); have h2 := f.marks; have h3 := f.room; have h4 := f.hi; omega
        have HUT := Lib.hid (upd_take HND.out hlt)
        clear hM hB
        generalize l.getD i default = nd at *
        obtain ⟨xo, xp, xf, xd⟩ := nd
        dsimp only at *
        have hab := (Below.refl wr.heap.size wr).alloc (Nat.le_refl _) (.cells #[.int .u32 (xo : Nat), .int .i64 xp, .int .i64 xf, .int .i64 (xd : Nat)] 108)
        obtain ⟨W9, hpt, HM9, hg9⟩ := (HMM.out.below hab).put intTyI (x := xo) (v := i + 1) ho32 (by omega) (by omega)
        rw [HUT.out] at HM9
        have hpt2 : (Instr.mapUpdate 103 (.map (some mB)) (.int .i64 (xo : Int)) (.int .i64 ((i : Int) + 1))).run Tryd.prog (wr.alloc (.cells #[.int .u32 (xo : Nat), .int .i64 xp, .int .i64 xf, .int .i64 (xd : Nat)] 108)) = .ok () W9 := by
          have := hpt
          rw [show (((i + 1 : Nat)) : Int) = (i : Int) + 1 by omega] at this
          exact this
        have HM10 := Lib.hid HM9
        have HB10 := Lib.hid (below_grown (Nat.le_refl _) (below_top HB.out hab) hg9 (fun g hg => by injection hg with hg; have := HMB.out; omega))
        clear hpt HM9 hg9 hab
        go_wp2_with fail
        go_roundw
        case rel => exact ⟨i + 1, by omega, by go_num, HM10.out, HB10.out⟩
        case measure => simp [intOf]; omega
      · obtain rfl : i = l.length := by omega
        have HM2 := Lib.hid (show MapInt 3 wr mB l.length (numF l) from by have := hM; rw [List.take_length] at this; exact this)
        have HB12 := Lib.hid hB
        have HBW := Lib.hid (HB1.out.trans (hB.mono HB1.out.size))
        have hC0 : RC wr wr wr.heap.size (.slice none 0 0) (refsB l id (fr.take 0)) := ⟨⟨rfl, .inl ⟨rfl, rfl⟩⟩, Below.refl _ _, Nat.le_refl _, Nat.le_refl _⟩
        have HC0 := Lib.hid hC0
        have HML2 := Lib.hid ((HML.out.below (by rw [← HMB.out]; exact hB)).more (show mB ≤ wr.heap.size by rw [← HMB.out]; exact hB.size))
        have hl4 : l.length ≤ 4000000 := by omega
        have HLL := Lib.hid hl4
        obtain ⟨i0, hi0, hz0, hz1, hz2⟩ := info_parts info_u8
        clear hM hB hC0 hi HML
        generalize hw2 : wr = w2 at *
        clear hw2
        generalize hB2 : w2.heap.size = B2 at HC0
        have HB2 := Lib.hid hB2
        go_wp2_with fail
        go_loopw [13, 52] (fun v j wr => ∃ k : Nat, k ≤ n ∧ j = .int .i64 k ∧ RC w2 wr B2 v (refsB l id (fr.take k))) (fun _ j _ => n - (intOf j).toNat)
        case atStart => exact ⟨0, by omega, rfl, HC0.out⟩
        case round =>
          clear HC0
          obtain ⟨k, hk, rfl, hC⟩ := hrel
          by_cases hlt2 : k < n
          · have hkn : (k : Int) < (n : Int) := by omega
            obtain ⟨ad, u0, rfl, -, hx, hcell⟩ := (HR.out.below (HBW.out.trans (hC.base.mono HBW.out.size))).at_ hlt2
            rw [u32s_get (by rw [HL.out]; exact hlt2)] at hx
            injection hx with hx
            subst hx
            have hmem : fr.getD k 0 ∈ fr := by
              rw [List.getD_eq_getElem?_getD, List.getElem?_eq_getElem (by rw [HL.out]; exact hlt2)]
              exact List.getElem_mem _
            have ho := HX.out _ hmem
            have HRF := Lib.hid (rreference_any (HM2.out.below hC.base) (fr.getD k 0) ho hl4)
            have hcl := cnt7_len5 (x := refM l (fr.getD k 0)) (by have := refM_lt l (fr.getD k 0) ho hl4; omega)
            have HTK := Lib.hid (refsB_take1 l id (xs := fr) (i := k) (by rw [HL.out]; exact hlt2))
            have hbl : (refsB l id (fr.take k)).length ≤ 50000000000000 := by
              have h1 := refsB_len hl4 (f := id) (xs := fr.take k) (fun x hx => HX.out x (List.mem_of_mem_take hx))
              rw [List.length_take] at h1
              omega
            have HC := Lib.hid hC
            rw [id_eq] at HTK
            clear hmem hC ho
            unfold RCountP at HRF
            generalize fr.getD k 0 = y at *
            generalize refsB l id (fr.take k) = bs at *
            generalize cnt7 (refM l y) = cs at *
            go_wp2_with fail
            refine HRF.out.mono ?_
            rintro e w4 ⟨v4, rfl, hown4, hb4⟩
            obtain ⟨A4, c4, rfl, hr4⟩ := own_slice hown4
            have HC4 := Lib.hid (HC.out.below hb4)
            have HR4 := Lib.hid hr4
            clear hb4 hown4 hr4 HRF HC hcell
            go_wp2_with (at_builtin; refine wpList_append_any _ rfl (.tmp 56) (.tmp 59) _ rfl B2 5 i0 _ 1 1 Tryd.underlying46 hi0 hz0 hz1 hz2 rfl (by omega) u13 bs.length (u8c bs) rfl (HC4.out.own) w4.heap.size A4 cs.length c4 (u8c cs) rfl (HR4.out) (one_u8c _) (by simp only [maxLen]; omega) (by omega) (HC4.out.top) ?_; intro v5 w5 hown5 hgrow5 hat5; have HC5 := Lib.hid (HC4.out.app rfl hown5 hgrow5); clear hown5 hgrow5 hat5)
            go_roundw
            case rel => exact ⟨k + 1, by omega, by go_num, by rw [HTK.out]; exact HC5.out⟩
            case measure => simp [intOf]; omega
          · obtain rfl : k = n := by omega
            have hC3 : RC w2 wr B2 u13 (refsB l id fr ++ ((oopsOf l).take 0).flatMap (h.objC ser l)) := by
              rw [List.take_of_length_le (by rw [HL.out]; exact Nat.le_refl _)] at hC
              simpa using hC
            have HC3 := Lib.hid hC3
            clear hC hC3 hk hlt2
            go_wp2_with fail
            go_loopw [13, 64] (fun v j wr => ∃ i : Nat, i ≤ l.length ∧ j = .int .i64 i ∧ RC w2 wr B2 v (refsB l id fr ++ ((oopsOf l).take i).flatMap (h.objC ser l))) (fun _ j _ => l.length - (intOf j).toNat)
            case atStart => exact ⟨0, by omega, rfl, HC3.out⟩
            case round =>
              clear HC3
              obtain ⟨i, hi, rfl, hC⟩ := hrel
              by_cases hlt : i < l.length
              · have hlt2 : (i : Int) < (l.length : Int) := by omega
                have HC := Lib.hid hC
                obtain ⟨ad, rfl, -, m0, m1, m2, m3⟩ := (HML2.out.below hC.base).load hlt
                have HIB := Lib.hid (HIS.out _ (oopsOf_mem hlt))
                have hd := HM.isB_hd hh HIB.out
                have ho32 : (l.getD i default).o < 4294967296 := by have h1 := HM.isB_lt HIB.out; have h2 := f.marks; have h3 := f.room; have h4 := f.hi; omega
                have hfx := rc_fmt hd
                have hfit := HM.hd_fit f ((l.getD i default).o / 2)
                have hszx := hd_size_le f hd
                have hNle := nmN_le f _ hd
                have HHD := Lib.hid (fun (W' : World) (hb : Below w2.heap.size w2 W') => rheader_any (HH.out.below (HBW.out.trans (hb.mono HBW.out.size))) f _ ho32 hd)
                have HNM := Lib.hid (fun (W' : World) (hb : Below w2.heap.size w2 W') => rnames_any (HH.out.below (HBW.out.trans (hb.mono HBW.out.size))) f hh _ ho32 HIB.out)
                have HBY := Lib.hid (fun (W' : World) (hb : Below w2.heap.size w2 W') => rbytes_any (HH.out.below (HBW.out.trans (hb.mono HBW.out.size))) f _ ho32)
                have HWD := Lib.hid (fun (W' : World) (hb : Below w2.heap.size w2 W') (h3 : (h.hd ((l.getD i default).o / 2)).fmt = 3) (k : Nat) (hk : k < (h.hd ((l.getD i default).o / 2)).size) => rword_good (HH.out.below (HBW.out.trans (hb.mono HBW.out.size))) f hh ho32 HIB.out h3 hk hszx)
                have HTK := Lib.hid (show refsB l id fr ++ ((oopsOf l).take (i + 1)).flatMap (h.objC ser l) = (refsB l id fr ++ ((oopsOf l).take i).flatMap (h.objC ser l)) ++ h.objC ser l (l.getD i default).o by
                  rw [flatMap_take1 (h.objC ser l) (xs := oopsOf l) (i := i) (by rw [oopsOf_len]; exact hlt), oopsOf_getD hlt, List.append_assoc])
                have hbl : (refsB l id fr ++ ((oopsOf l).take i).flatMap (h.objC ser l)).length ≤ 60000000000000 := by
                  have h1 := refsB_len hl4 (f := id) (xs := fr) HX.out
                  have h2 := objs_len f hh ser hl6 HIS.out i
                  have h3 := HL.out
                  rw [List.length_append]
                  omega
                have hOBJ := Lib.hid (show h.objC ser l (l.getD i default).o = h.headB ser (l.getD i default).o ++ refsB l (h.nmAt (l.getD i default).o) (List.range (h.nmN (l.getD i default).o)) ++ h.contB (l.getD i default).o from rfl)
                have hHB := Lib.hid (show h.headB ser (l.getD i default).o = [(h.hd ((l.getD i default).o / 2)).fmt, (h.hd ((l.getD i default).o / 2)).spare] ++ cnt7 (h.hd ((l.getD i default).o / 2)).size ++ h.serB ser (l.getD i default).o from rfl)
                have hSB := Lib.hid (show h.serB ser (l.getD i default).o = if ser then cnt7 (h.hd ((l.getD i default).o / 2)).ser else [] from rfl)
                have hCB := Lib.hid (show h.contB (l.getD i default).o = if (h.hd ((l.getD i default).o / 2)).fmt = 3 then h.cwB (l.getD i default).o (h.hd ((l.getD i default).o / 2)).size else if (h.hd ((l.getD i default).o / 2)).fmt = 2 then h.bytesL (l.getD i default).o else [] from rfl)
                have hREF := Lib.hid (fun k => HM.nmAt_lt f (l.getD i default).o k)
                have hFW := Lib.hid (fun k => show fw h (l.getD i default).o k < 4294967296 from f.w _)
                have hGB := Lib.hid (fun h2 => good_bytesN G HIB.out h2)
                unfold ptr at HHD HNM HBY HWD
                unfold NamesP at HNM
                unfold RBytesP at HBY
                unfold Hd.val at HHD
                clear hC hi
                generalize refsB l id fr ++ ((oopsOf l).take i).flatMap (h.objC ser l) = bs at *
                generalize l.getD i default = nd at *
                obtain ⟨xo, xp, xf, xd⟩ := nd
                dsimp only at *
                generalize hXX : h.hd (xo / 2) = X at *
                have HXX := Lib.hid hXX
                clear hXX hd
                have hab := (Below.refl wr.heap.size wr).alloc (Nat.le_refl _) (.cells #[.int .u32 (xo : Nat), .int .i64 xp, .int .i64 xf, .int .i64 (xd : Nat)] 108)
                have BM := Lib.hid (Blk.new wr 108 #[.int .u32 (xo : Nat), .int .i64 xp, .int .i64 xf, .int .i64 (xd : Nat)])
                have HC1 := Lib.hid (HC.out.below hab)
                clear hab HC
                go_wp2_with fail
                clear m0 m1 m2 m3
                generalize wr.heap.size = gM at *
                generalize wr.alloc (.cells #[.int .u32 (xo : Nat), .int .i64 xp, .int .i64 xf, .int .i64 (xd : Nat)] 108) = w3 at *
                refine (HHD.out _ HC1.out.base).mono ?_
                rintro e w4 ⟨rfl, hb4⟩
                have hb5 := hb4.alloc hb4.size (.cells #[.int .i64 X.size, .int .i64 X.fmt, .int .i64 X.spare, .int .u32 X.cls, .int .u32 X.ser] 55)
                have HQ5 := Lib.hid (show RQ w2 (w4.alloc (.cells #[.int .i64 X.size, .int .i64 X.fmt, .int .i64 X.spare, .int .u32 X.cls, .int .u32 X.ser] 55)) B2 u13 bs gM #[.int .u32 (xo : Nat), .int .i64 xp, .int .i64 xf, .int .i64 (xd : Nat)] w4.heap.size #[.int .i64 X.size, .int .i64 X.fmt, .int .i64 X.spare, .int .u32 X.cls, .int .u32 X.ser] from ⟨HC1.out.below hb5, BM.out.below hb5 BM.out.lt, Blk.new w4 _ _⟩)
                clear hb4 hb5 HC1 BM HHD
                go_upto_region 20 with fail
                generalize w4.heap.size = gH at *
                generalize w4.alloc (.cells #[.int .i64 X.size, .int .i64 X.fmt, .int .i64 X.spare, .int .u32 X.cls, .int .u32 X.ser] 55) = w5 at *
                have x1 := HQ5.out.bh.cell 1
                have x2 := HQ5.out.bh.cell 2
                have hu1 : IntKind.u8.wrap (X.fmt : Int) = (X.fmt : Int) := by rw [wrap8_mod]; omega
                have hu2 : IntKind.u8.wrap (X.spare : Int) = (X.spare : Int) := by rw [wrap8_mod]; have := hfit.spare; omega
                go_upto_region 21 with (at_builtin; refine wpList_append_any _ rfl (.tmp 72) (.tmp 79) _ rfl B2 5 i0 _ 1 1 Tryd.underlying46 hi0 hz0 hz1 hz2 rfl (by omega) u13 bs.length (u8c bs) rfl ((HQ5.out.rc.own.alloc _)) (w5.heap.size + 1) (some ⟨w5.heap.size, 0, none⟩) 2 2 (u8c [X.fmt, X.spare]) rfl (row_two) (one_u8c _) (by simp only [maxLen]; omega) (by omega) (by have := HQ5.out.rc.top; simp; omega) ?_; intro v6 w6 hown6 hgrow6 hat6; have HQ6 := Lib.hid ((HQ5.out.below ((Below.refl _ _).alloc (Nat.le_refl _) _)).app (one_len X.fmt X.spare) hown6 hgrow6); clear hown6 hgrow6 hat6)
                clear x1 x2 hu1 hu2 HQ5
                generalize hb1 : bs ++ [X.fmt, X.spare] = bs1 at HQ6
                have HBE1 := Lib.hid hb1
                have hbs1 : bs1.length ≤ 60000000000002 := by rw [← hb1, List.length_append]; simp; omega
                clear hb1
                have x0 := HQ6.out.bh.cell 0
                have hw0 : IntKind.u64.wrap (X.size : Int) = (X.size : Int) := by simp only [wrap64_mod]; omega
                have hcl1 := cnt7_len5 (x := X.size) (by omega)
                have HCT := Lib.hid (rcount_any X.size (by omega))
                unfold RCountP at HCT
                go_wp2_with fail
                refine (HCT.out _).mono ?_
                rintro e w7 ⟨v7, rfl, hown7, hb7⟩
                obtain ⟨A7, c7, rfl, hr7⟩ := own_slice hown7
                have HQ7 := Lib.hid (HQ6.out.below hb7)
                have HR7 := Lib.hid hr7
                clear hb7 hown7 hr7 HCT HQ6 x0
                generalize cnt7 X.size = cs1 at *
                go_upto_if 87 with (at_builtin; refine wpList_append_any _ rfl (.tmp 81) (.tmp 85) _ rfl B2 5 i0 _ 1 1 Tryd.underlying46 hi0 hz0 hz1 hz2 rfl (by omega) v6 bs1.length (u8c bs1) rfl (HQ7.out.rc.own) w7.heap.size A7 cs1.length c7 (u8c cs1) rfl (HR7.out) (one_u8c _) (by simp only [maxLen]; omega) (by omega) (HQ7.out.rc.top) ?_; intro v8 w8 hown8 hgrow8 hat8; have HQ8 := Lib.hid (HQ7.out.app rfl hown8 hgrow8); clear hown8 hgrow8 hat8)
                clear HQ7 HR7
                generalize hb2 : bs1 ++ cs1 = bs2 at HQ8
                have HBE2 := Lib.hid hb2
                have hbs2 : bs2.length ≤ 60000000000010 := by rw [← hb2, List.length_append]; omega
                clear hb2
                go_cut [13] (fun v W' => RQ w2 W' B2 v (bs2 ++ h.serB ser xo) gM #[.int .u32 (xo : Nat), .int .i64 xp, .int .i64 xf, .int .i64 (xd : Nat)] gH #[.int .i64 X.size, .int .i64 X.fmt, .int .i64 X.spare, .int .u32 X.cls, .int .u32 X.ser])
                case first =>
                  have hser := hfit.ser
                  have HCT := Lib.hid (rcount_any X.ser (by omega))
                  have hcl2 := cnt7_len5 (x := X.ser) (by omega)
                  unfold RCountP at HCT
                  have HSE := Lib.hid hSB.out
                  clear HTK hOBJ hHB hSB hCB HNM HBY HWD hREF hFW hGB hcl1
                  cases ser
                  · go_wp2_with fail
                    go_meet
                    rw [HSE.out]
                    simpa using HQ8.out
                  · have x4 := HQ8.out.bh.cell 4
                    have hw4 : IntKind.u64.wrap (X.ser : Int) = (X.ser : Int) := by simp only [wrap64_mod]; omega
                    have HSE := Lib.hid (HSE.out.trans (if_pos rfl))
                    generalize cnt7 X.ser = cs2 at *
                    go_wp2_with fail
                    refine (HCT.out _).mono ?_
                    rintro e w9 ⟨v9, rfl, hown9, hb9⟩
                    obtain ⟨A9, c9, rfl, hr9⟩ := own_slice hown9
                    have HQ9 := Lib.hid (HQ8.out.below hb9)
                    have HR9 := Lib.hid hr9
                    clear hb9 hown9 hr9 HCT HQ8 x4
                    go_wp2_with (at_builtin; refine wpList_append_any _ rfl (.tmp 88) (.tmp 92) _ rfl B2 5 i0 _ 1 1 Tryd.underlying46 hi0 hz0 hz1 hz2 rfl (by omega) v8 bs2.length (u8c bs2) rfl (HQ9.out.rc.own) w9.heap.size A9 cs2.length c9 (u8c cs2) rfl (HR9.out) (one_u8c _) (by simp only [maxLen]; omega) (by omega) (HQ9.out.rc.top) ?_; intro v10 w10 hown10 hgrow10 hat10; have HQ10 := Lib.hid (HQ9.out.app rfl hown10 hgrow10); clear hown10 hgrow10 hat10)
                    go_meet
                    rw [HSE.out]
                    exact HQ10.out
                case rest =>
                have HQ9 := Lib.hid hcut
                have hsl := serB_len f ser xo
                clear hcut HQ8
                generalize hb3 : bs2 ++ h.serB ser xo = bs3 at HQ9
                have HBE3 := Lib.hid hb3
                have hbs3 : bs3.length ≤ 60000000000020 := by rw [← hb3, List.length_append]; omega
                clear hb3 hsl hcl1
                have q0 := HQ9.out.bm.cell 0
                have HN9 := Lib.hid (HNM.out _ HQ9.out.rc.base)
                clear HNM
                go_wp2_with fail
                refine HN9.out.mono ?_
                rintro e w10 ⟨vN, rfl, hownN, hb10⟩
                obtain ⟨AN, cN, rfl, -⟩ := own_slice hownN
                have HQ10 := Lib.hid (HQ9.out.below hb10)
                have HO10 := Lib.hid hownN
                clear hb10 hownN HN9 HQ9 q0
                go_wp2_with fail
                go_loopw [13, 99] (fun v j wr3 => ∃ k : Nat, k ≤ h.nmN xo ∧ j = .int .i64 k ∧ RQ w2 wr3 B2 v (bs3 ++ refsB l (h.nmAt xo) (List.range k)) gM #[.int .u32 (xo : Nat), .int .i64 xp, .int .i64 xf, .int .i64 (xd : Nat)] gH #[.int .i64 X.size, .int .i64 X.fmt, .int .i64 X.spare, .int .u32 X.cls, .int .u32 X.ser] ∧ wr3.ownsRow wc.heap.size 50 1 (.slice AN (h.nmN xo) cN) (h.nmN xo) (u32s (namesL h xo (h.nmN xo)))) (fun _ j _ => h.nmN xo - (intOf j).toNat)
                case atStart => exact ⟨0, by omega, rfl, by simpa [refsB] using HQ10.out, HO10.out⟩
                case round =>
                  clear HQ10 HO10
                  obtain ⟨k, hk, rfl, hQ, hown⟩ := hrel
                  have HQ := Lib.hid hQ
                  have HOW := Lib.hid hown
                  have hrl := refsB_len (xs := List.range k) hl4 (f := h.nmAt xo) (fun x _ => hREF.out x)
                  rw [List.length_range] at hrl
                  by_cases hkl : k < h.nmN xo
                  · have hkl2 : (k : Int) < (h.nmN xo : Int) := by omega
                    obtain ⟨A4, c4, e4, hrd⟩ := own_slice hown
                    injection e4 with e4 _ e5
                    subst e4
                    subst e5
                    obtain ⟨adN, uN, rfl, -, hxN, kN⟩ := hrd.at_ hkl
                    rw [u32s_get (by rw [namesL_len]; exact hkl), namesL_get hkl] at hxN
                    injection hxN with hxN
                    subst hxN
                    have hy := hREF.out k
                    have HRF := Lib.hid (rreference_any (HM2.out.below HQ.out.rc.base) (h.nmAt xo k) hy hl4)
                    have hcl := cnt7_len5 (x := refM l (h.nmAt xo k)) (by have := refM_lt l (h.nmAt xo k) hy hl4; omega)
                    have HSN := Lib.hid (show bs3 ++ refsB l (h.nmAt xo) (List.range (k + 1)) = (bs3 ++ refsB l (h.nmAt xo) (List.range k)) ++ cnt7 (refM l (h.nmAt xo k)) by rw [List.range_succ, refsB_snoc, List.append_assoc])
                    have hb4 : (bs3 ++ refsB l (h.nmAt xo) (List.range k)).length ≤ 60000010000000 := by rw [List.length_append]; omega
                    unfold RCountP at HRF
                    clear hQ hown hrd hrl hy
                    generalize bs3 ++ refsB l (h.nmAt xo) (List.range k) = bs4 at *
                    generalize cnt7 (refM l (h.nmAt xo k)) = cs4 at *
                    generalize h.nmAt xo k = y at *
                    go_wp2_with fail
                    refine HRF.out.mono ?_
                    rintro e w11 ⟨v11, rfl, hown11, hb11⟩
                    obtain ⟨A11, c11, rfl, hr11⟩ := own_slice hown11
                    have HQ11 := Lib.hid (HQ.out.below hb11)
                    have HO11 := Lib.hid (own_same HOW.out (fun k hk => hb11.block k (HOW.out.lt k hk).2))
                    have HR11 := Lib.hid hr11
                    clear hb11 hown11 hr11 HRF HQ HOW kN
                    go_wp2_with (at_builtin; refine wpList_append_any _ rfl (.tmp 103) (.tmp 106) _ rfl B2 5 i0 _ 1 1 Tryd.underlying46 hi0 hz0 hz1 hz2 rfl (by omega) u13 bs4.length (u8c bs4) rfl (HQ11.out.rc.own) w11.heap.size A11 cs4.length c11 (u8c cs4) rfl (HR11.out) (one_u8c _) (by simp only [maxLen]; omega) (by omega) (HQ11.out.rc.top) ?_; intro v12 w12 hown12 hgrow12 hat12; have HQ12 := Lib.hid (HQ11.out.app rfl hown12 hgrow12); have HO12 := Lib.hid (HQ11.out.rc.names hgrow12 HO11.out); clear hown12 hgrow12 hat12)
                    go_roundw
                    case rel => exact ⟨k + 1, by omega, by go_num, by rw [HSN.out]; exact HQ12.out, HO12.out⟩
                    case measure => simp [intOf]; omega
                  · obtain rfl : k = h.nmN xo := by omega
                    clear hQ hown hkl hk HOW
                    generalize hb4 : bs3 ++ refsB l (h.nmAt xo) (List.range (h.nmN xo)) = bs4 at HQ
                    have HBE4 := Lib.hid hb4
                    have hbs4 : bs4.length ≤ 60000010000000 := by rw [← hb4, List.length_append]; omega
                    have HALL := Lib.hid (show refsB l id fr ++ ((oopsOf l).take (i + 1)).flatMap (h.objC ser l) = bs4 ++ h.contB xo by
                      rw [HTK.out, hOBJ.out, hHB.out, ← hb4, ← HBE3.out, ← HBE2.out, ← HBE1.out]
                      simp only [List.append_assoc])
                    clear hb4 hrl HBE4 HBE3 HBE2 HBE1 HTK hOBJ hHB hSB
                    have x1 := HQ.out.bh.cell 1
                    have q0 := HQ.out.bm.cell 0
                    by_cases h2 : X.fmt = 2
                    · obtain ⟨hr0, hbn⟩ := hGB.out h2
                      have HBC := Lib.hid (show h.contB xo = h.bytesL xo by rw [hCB.out, if_neg (by omega), if_pos h2])
                      have HB9 := Lib.hid (HBY.out _ HQ.out.rc.base hh)
                      have e2 : ((X.fmt : Int) == 2) = true := by rw [h2]; rfl
                      rw [hr0, hbn] at HB9
                      have hlen : (h.bytesL xo).length ≤ 4 * 1048576 := bytesL_len f (HM.isB_hd hh HIB.out)
                      have hXl : (h.bytesL xo).length = X.len := by rw [← hbn, HM.bytesN_len]
                      rw [← hXl] at HB9
                      clear hGB hCB h2 hr0 hbn HBY HWD hXl
                      generalize h.bytesL xo = cs5 at *
                      go_wp2_with fail
                      refine HB9.out.mono ?_
                      rintro e w11 ⟨hb11, ⟨hne, -⟩ | ⟨-, v11, rfl, hown11⟩⟩
                      · exact absurd rfl hne
                      obtain ⟨A11, c11, rfl, hr11⟩ := own_slice hown11
                      have HQ11 := Lib.hid (HQ.out.below hb11)
                      have HR11 := Lib.hid hr11
                      clear hb11 hown11 hr11 HB9 HQ x1 q0
                      go_wp2_with (at_builtin; refine wpList_append_any _ rfl (.tmp 120) (.tmp 121) _ rfl B2 5 i0 _ 1 1 Tryd.underlying46 hi0 hz0 hz1 hz2 rfl (by omega) u13 bs4.length (u8c bs4) rfl (HQ11.out.rc.own) w11.heap.size A11 cs5.length c11 (u8c cs5) rfl (HR11.out) (one_u8c _) (by simp only [maxLen]; omega) (by omega) (HQ11.out.rc.top) ?_; intro v12 w12 hown12 hgrow12 hat12; have HQ12 := Lib.hid (HQ11.out.app rfl hown12 hgrow12); clear hown12 hgrow12 hat12)
                      go_roundw
                      case rel => exact ⟨i + 1, by omega, by go_num, by rw [HALL.out, HBC.out]; exact HQ12.out.rc⟩
                      case measure => simp [intOf]; omega
                    · by_cases h3 : X.fmt = 3
                      · have HBC := Lib.hid (show h.contB xo = h.cwB xo X.size by rw [hCB.out, if_pos h3])
                        have e2 : ((X.fmt : Int) == 2) = false := by simp; omega
                        have e3 : ((X.fmt : Int) == 3) = true := by rw [h3]; rfl
                        have HW3 := Lib.hid (fun (W' : World) (hb : Below w2.heap.size w2 W') (k : Nat) (hk : k < X.size) => HWD.out W' hb h3 k hk)
                        clear hGB hCB h2 h3 HBY HWD
                        go_wp2_with fail
                        go_loopw [13, 23] (fun v j wr4 => ∃ k : Nat, k ≤ X.size ∧ j = .int .i64 k ∧ RQ w2 wr4 B2 v (bs4 ++ h.cwB xo k) gM #[.int .u32 (xo : Nat), .int .i64 xp, .int .i64 xf, .int .i64 (xd : Nat)] gH #[.int .i64 X.size, .int .i64 X.fmt, .int .i64 X.spare, .int .u32 X.cls, .int .u32 X.ser]) (fun _ j _ => X.size - (intOf j).toNat)
                        case atStart => exact ⟨0, by omega, rfl, by simpa [HM.cwB] using HQ.out⟩
                        case round =>
                          clear HQ x1 q0
                          obtain ⟨k5, hk5, rfl, hQ5⟩ := hrel
                          have HQ5 := Lib.hid hQ5
                          have x0 := hQ5.bh.cell 0
                          have hcw := cwB_len f xo k5
                          clear hQ5
                          by_cases hkl5 : k5 < X.size
                          · have hkl6 : (k5 : Int) < (X.size : Int) := by omega
                            have q0 := HQ5.out.bm.cell 0
                            have HWC := Lib.hid (HW3.out _ HQ5.out.rc.base k5 hkl5)
                            have hfw := hFW.out k5
                            have HCT := Lib.hid (rcount_any (fw h xo k5) (by omega))
                            have hcl := cnt7_len5 (x := fw h xo k5) (by omega)
                            have HSN := Lib.hid (show bs4 ++ h.cwB xo (k5 + 1) = (bs4 ++ h.cwB xo k5) ++ cnt7 (fw h xo k5) by rw [cwB_snoc, List.append_assoc])
                            have hb5 : (bs4 ++ h.cwB xo k5).length ≤ 60000020000000 := by rw [List.length_append]; omega
                            have hw5 : IntKind.u64.wrap (fw h xo k5 : Int) = (fw h xo k5 : Int) := by simp only [wrap64_mod]; omega
                            unfold RCountP at HCT
                            clear hcw
                            generalize bs4 ++ h.cwB xo k5 = bs5 at *
                            generalize cnt7 (fw h xo k5) = cs5 at *
                            generalize fw h xo k5 = y at *
                            go_wp2_with fail
                            refine HWC.out.mono ?_
                            rintro e w11 ⟨rfl, hb11⟩
                            have HQ6 := Lib.hid (HQ5.out.below hb11)
                            clear hb11 HWC HQ5 x0 q0
                            go_wp2_with fail
                            refine (HCT.out _).mono ?_
                            rintro e w12 ⟨v12, rfl, hown12, hb12⟩
                            obtain ⟨A12, c12, rfl, hr12⟩ := own_slice hown12
                            have HQ7 := Lib.hid (HQ6.out.below hb12)
                            have HR12 := Lib.hid hr12
                            clear hb12 hown12 hr12 HCT HQ6
                            go_wp2_with (at_builtin; refine wpList_append_any _ rfl (.tmp 139) (.tmp 142) _ rfl B2 5 i0 _ 1 1 Tryd.underlying46 hi0 hz0 hz1 hz2 rfl (by omega) u13 bs5.length (u8c bs5) rfl (HQ7.out.rc.own) w12.heap.size A12 cs5.length c12 (u8c cs5) rfl (HR12.out) (one_u8c _) (by simp only [maxLen]; omega) (by omega) (HQ7.out.rc.top) ?_; intro v13 w13 hown13 hgrow13 hat13; have HQ13 := Lib.hid (HQ7.out.app rfl hown13 hgrow13); clear hown13 hgrow13 hat13)
                            go_roundw
                            case rel => exact ⟨k5 + 1, by omega, by go_num, by rw [HSN.out]; exact HQ13.out⟩
                            case measure => simp [intOf]; omega
                          · obtain rfl : k5 = X.size := by omega
                            go_wp2_with fail
                            go_roundw
                            case rel => exact ⟨i + 1, by omega, by go_num, by rw [HALL.out, HBC.out]; exact HQ5.out.rc⟩
                            case measure => simp [intOf]; omega
                      · have HBC := Lib.hid (show h.contB xo = [] by rw [hCB.out, if_neg h3, if_neg h2])
                        have e2 : ((X.fmt : Int) == 2) = false := by simp; omega
                        have e3 : ((X.fmt : Int) == 3) = false := by simp; omega
                        clear hGB hCB h2 h3 HBY HWD
                        go_wp2_with fail
                        go_roundw
                        case rel => exact ⟨i + 1, by omega, by go_num, by rw [HALL.out, HBC.out, List.append_nil]; exact HQ.out.rc⟩
                        case measure => simp [intOf]; omega
              · obtain rfl : i = l.length := by omega
                have HC := Lib.hid hC
                clear hC
                go_wp2_with fail
                go_ret2
                have hbb := HBW.out.trans (HC.out.base.mono HBW.out.size)
                refine ⟨hbb, .inr (.inr ⟨HFS.out.1, l, _, HFS.out.2, rfl, ?_⟩)⟩
                have := HC.out.own
                rw [List.take_of_length_le (by rw [oopsOf_len]; exact Nat.le_refl _)] at this
                refine ⟨this.1, ?_⟩
                rcases this.2 with h1 | ⟨g, cap, cur, h1, h2, h3⟩
                · exact .inl h1
                · exact .inr ⟨g, cap, cur, h1, by have h4 := HC.out.hB; have h5 := HBW.out.size; omega, h3⟩
end Go.Proofs.YtpajpdjjpgbklaaDoor

namespace Go.Proofs.YtpajpdjjpgbklaaDoor
open Go.RowKit

/-- Words, small integers, edges, depth. -/
structure Gc where
  words : Nat
  smalls : Nat
  edges : Nat
  deep : Nat
def Gc.cells (x : Gc) (n : Nat) : Array Value := #[.int .i64 (n : Nat), .int .i64 (x.words : Nat), .int .i64 (x.smalls : Nat), .int .i64 (x.edges : Nat), .int .i64 (x.deep : Nat)]
/-- With one value more. -/
def noteM (x : Gc) (o : Nat) (cls : Bool) : Gc :=
  if kindM o = 1 then (if cls = true then x else ⟨x.words, x.smalls + 1, x.edges, x.deep⟩) else if kindM o = 2 then ⟨x.words, x.smalls, x.edges + 1, x.deep⟩ else x
def notesF (fr : List Nat) (x : Gc) : Nat → Gc
  | 0 => x
  | k + 1 => noteM (notesF fr x k) (fr.getD k 0) false
def notesN (nA : Nat → Nat) (x : Gc) : Nat → Gc
  | 0 => x
  | k + 1 => noteM (notesN nA x k) (nA k) (decide (k = 0))
/-- An object's own words, how deep it lies. -/
def HM.ownC (h : HM) (x : Gc) (nd : Nd) : Gc := ⟨x.words + (3 + (h.hd (nd.o / 2)).size), x.smalls, x.edges, max x.deep nd.deep⟩
def HM.stepC (h : HM) (x : Gc) (nd : Nd) : Gc := notesN (h.nmAt nd.o) (h.ownC x nd) (h.nmN nd.o)
def HM.cntC (h : HM) (l : List Nd) (x : Gc) : Nat → Gc
  | 0 => x
  | i + 1 => h.stepC (h.cntC l x i) (l.getD i default)
def HM.countM (h : HM) (fr : List Nat) (l : List Nd) : Gc := h.cntC l (notesF fr ⟨0, 0, 0, 0⟩ fr.length) l.length
/-- No more than so many notes behind x. -/
def Gc.Up (x y : Gc) (k : Nat) : Prop := y.words = x.words ∧ y.smalls ≤ x.smalls + k ∧ y.edges ≤ x.edges + k ∧ y.deep = x.deep
theorem noteM_up (x : Gc) (o : Nat) (cls : Bool) : x.Up (noteM x o cls) 1 := by
  unfold noteM Gc.Up
  split
  · split
    · exact ⟨rfl, by omega, by omega, rfl⟩
    · exact ⟨rfl, Nat.le_refl _, by simp, rfl⟩
  · split
    · exact ⟨rfl, by simp, Nat.le_refl _, rfl⟩
    · exact ⟨rfl, by omega, by omega, rfl⟩
theorem Gc.Up.trans {x y z : Gc} {a b : Nat} (h : x.Up y a) (k : y.Up z b) : x.Up z (a + b) := by
  obtain ⟨h1, h2, h3, h4⟩ := h
  obtain ⟨k1, k2, k3, k4⟩ := k
  exact ⟨by omega, by omega, by omega, by omega⟩
theorem notesF_up (fr : List Nat) (x : Gc) : ∀ k, x.Up (notesF fr x k) k
  | 0 => ⟨rfl, Nat.le_refl _, Nat.le_refl _, rfl⟩
  | k + 1 => (notesF_up fr x k).trans (noteM_up _ _ _)
theorem notesN_up (nA : Nat → Nat) (x : Gc) : ∀ k, x.Up (notesN nA x k) k
  | 0 => ⟨rfl, Nat.le_refl _, Nat.le_refl _, rfl⟩
  | k + 1 => (notesN_up nA x k).trans (noteM_up _ _ _)
/-- Bounds behind the i-th object. -/
def Gc.Low (x : Gc) (n i : Nat) : Prop := x.words ≤ i * 1048579 ∧ x.smalls ≤ n + i * 1048577 ∧ x.edges ≤ n + i * 1048577 ∧ x.deep ≤ 65537
theorem cntC_low {h : HM} (f : h.Fit) (hh : h.Heads) (fr : List Nat) {l : List Nd} (W : GWell h l) : ∀ i, i ≤ l.length → (h.cntC l (notesF fr ⟨0, 0, 0, 0⟩ fr.length) i).Low fr.length i
  | 0, _ => by
    obtain ⟨h1, h2, h3, h4⟩ := notesF_up fr ⟨0, 0, 0, 0⟩ fr.length
    dsimp only at h1 h2 h3 h4
    exact ⟨by show (notesF fr ⟨0, 0, 0, 0⟩ fr.length).words ≤ _; omega, by show (notesF fr ⟨0, 0, 0, 0⟩ fr.length).smalls ≤ _; omega, by show (notesF fr ⟨0, 0, 0, 0⟩ fr.length).edges ≤ _; omega, by show (notesF fr ⟨0, 0, 0, 0⟩ fr.length).deep ≤ _; omega⟩
  | i + 1, hi => by
    obtain ⟨h1, h2, h3, h4⟩ := cntC_low f hh fr W i (by omega)
    have hlt : i < l.length := by omega
    have hib := W.2.2.1 _ (oopsOf_mem hlt)
    have hd := HM.isB_hd hh hib
    have hsz := hd_size_le f hd
    have hN := nmN_le f _ hd
    have hdp : (l.getD i default).deep ≤ 65537 := by
      rw [List.getD_eq_getElem?_getD, List.getElem?_eq_getElem hlt]
      exact W.2.2.2 _ (List.getElem_mem _)
    obtain ⟨k1, k2, k3, k4⟩ := notesN_up (h.nmAt (l.getD i default).o) (h.ownC (h.cntC l (notesF fr ⟨0, 0, 0, 0⟩ fr.length) i) (l.getD i default)) (h.nmN (l.getD i default).o)
    unfold HM.cntC HM.stepC Gc.Low
    have e1 : (h.ownC (h.cntC l (notesF fr ⟨0, 0, 0, 0⟩ fr.length) i) (l.getD i default)).words = (h.cntC l (notesF fr ⟨0, 0, 0, 0⟩ fr.length) i).words + (3 + (h.hd ((l.getD i default).o / 2)).size) := rfl
    have e2 : (h.ownC (h.cntC l (notesF fr ⟨0, 0, 0, 0⟩ fr.length) i) (l.getD i default)).smalls = (h.cntC l (notesF fr ⟨0, 0, 0, 0⟩ fr.length) i).smalls := rfl
    have e3 : (h.ownC (h.cntC l (notesF fr ⟨0, 0, 0, 0⟩ fr.length) i) (l.getD i default)).edges = (h.cntC l (notesF fr ⟨0, 0, 0, 0⟩ fr.length) i).edges := rfl
    have e4 : (h.ownC (h.cntC l (notesF fr ⟨0, 0, 0, 0⟩ fr.length) i) (l.getD i default)).deep = max (h.cntC l (notesF fr ⟨0, 0, 0, 0⟩ fr.length) i).deep (l.getD i default).deep := rfl
    exact ⟨by omega, by omega, by omega, by omega⟩
end Go.Proofs.YtpajpdjjpgbklaaDoor
