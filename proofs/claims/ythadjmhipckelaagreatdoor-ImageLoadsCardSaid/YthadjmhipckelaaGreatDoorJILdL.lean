import Derived.Test.YthadjmhipckelaaGreatDoorJDTkA
set_option linter.unusedVariables false
set_option linter.unusedSimpArgs false
namespace Go.Proofs.YthadjmhipckelaaGreatDoor
section
open Go.RowKit
attribute [local go_sem] Oper.semAt_some
set_option maxRecDepth 100000 in
set_option maxHeartbeats 16000000 in
theorem loadsI_any (W : World) (E : Env W) (A : Option Addr) (n c : Nat) (bs : List Nat) (hn : n ≤ 9223372036854775807) (hnc : n ≤ c) (hr : Reads W W.heap.size 1 A n (u8c bs)) (hb : ∀ x ∈ bs, x < 256) (hlen : n * 1 ≤ 140737488351232) (size : Int) (hsz : (Lit.int .i64 size).wf = true) :
 Calls Tryz.prog 3 #[.slice A n c, .int .i64 size] W (Told (.bool true) W) := by
 have hbl : bs.length = n := by have := hr.1; rw [u8c_len] at this; omega
 have hA := fun h0 => reads_plain hr h0
 obtain ⟨i0, hi0, hz0, hz1, hz2⟩ := info_parts info_u8
 have HR := Lib.hid hr; have HE := Lib.hid E; have H8 := Lib.hid hb; have HAP := Lib.hid hA; have HBL := Lib.hid hbl
 have HRA := Lib.hid (hr.alloc (Nat.le_refl _) (.cells #[] 5))
 clear hr E hb hA
 go_enter Tryz.func3, Tryz.ntmps3
 go_upto_region 2 with (at_builtin; first
  | (refine wpList_append_any _ rfl (.tmp 16) (.tmp 17) _ rfl W.heap.size 5 i0 _ 1 1 Tryz.underlying22 hi0 hz0 hz1 hz2 rfl (by omega) (.slice (some ⟨W.heap.size, 0, none⟩) 0 0) 0 [] rfl (owns_empty W _) _ A n c (u8c bs) rfl HRA.out (one_u8c _) (by simp only [maxLen]; omega) (by omega) (by simp) ?_; intro v1 w3 hown3 hg3 hat3; rw [Nat.zero_add, List.nil_append] at hown3)
  | (refine wpList_append_any _ rfl (.tmp 18) (.tmp 19) _ rfl W.heap.size 5 i0 _ 1 1 Tryz.underlying22 hi0 hz0 hz1 hz2 rfl (by omega) v1 n _ rfl (hown3.alloc _) (w3.heap.size + 1) (some ⟨w3.heap.size, 0, none⟩) 1 1 (u8c [77]) rfl ⟨rfl, fun _ => ⟨_, rfl, by simp, cell_one_new _ _ _⟩⟩ (one_u8c _) (by simp only [maxLen]; omega) (by omega) (by have := hg3.size; simp at this ⊢; omega) ?_; intro v2 w5 hown5 hg5 hat5; obtain ⟨g2, k2, rfl, rw5, -, hge2⟩ := Row.of_any hown5 (by omega)))
 have hb3 : Below W.heap.size W w3 := ((Below.refl _ _).alloc (Nat.le_refl _) _).grown hg3 (by simp) (fun q hq => by simp [Value.ownBlock] at hq; omega)
 have hb5 : Below W.heap.size W w5 := (hb3.alloc hb3.size _).grown hg5 (by have := hb3.size; simp; omega) (fun q hq => (hown3.lt q hq).1)
 have hnk : n + 1 ≤ k2 := by
  obtain ⟨cur, _, h1, _⟩ := rw5
  rw [List.length_append, u8c_len, u8c_len, hbl] at h1
  simpa using h1
 have hkm : k2 ≤ 9223372036854775807 := by obtain ⟨_, _, _, h1, _⟩ := rw5; unfold maxLen at h1; exact h1
 have HGV := Lib.hid (fun (W' : World) (h : Below w5.heap.size w5 W') => show Reads W' W'.heap.size 1 (some ⟨g2, 0, none⟩) n (u8c bs) from by have := (rw5.below h).shortD.reads (rw5.below h).lt; rw [u8c_len, hbl] at this; exact this)
 have HBV := Lib.hid (fun (W' : World) (h : Below w5.heap.size w5 W') => show Reads W' W'.heap.size 1 A n (u8c bs) from (HR.out.below (below_top hb5 h)).more (below_top hb5 h).size)
 have H77 := Lib.hid (fun (W' : World) (h : Below w5.heap.size w5 W') => show W'.cell? ⟨g2, n, none⟩ = some (.int .u8 77) from (rw5.below h).cell (by rw [List.getElem?_append_right (by rw [u8c_len]; omega), u8c_len, hbl, Nat.sub_self]; rfl))
 have HB5 := Lib.hid hb5
 have hnc2 : (n : Int) ≤ (k2 : Int) := by omega
 have hnc3 : n ≤ k2 := by omega
 have hn63 : n ≤ 9223372036854775807 := by omega
 have HSM := Lib.hid (fun (W' : World) (h : Below w5.heap.size w5 W') => show Calls Tryz.prog 11 #[.slice (some ⟨g2, 0, none⟩) n k2, .slice A n c] W' (Told (.bool true) W') from by
  have := isame_any (some ⟨g2, 0, none⟩) A n n k2 c bs bs W' hn63 hn63 (HGV.out W' h) (HBV.out W' h)
  rw [sameL_self] at this
  exact this)
 clear hb3 hb5 hown3 hg3 hat3 hown5 hg5 hat5 rw5 hi0 hz0 hz1 hz2 HRA HR i0
 have hb0 := Below.refl w5.heap.size w5
 have HS5 := Lib.hid (HE.out.below HB5.out)
 have HNU := Lib.hid (fun E hE w => inum_any E hE w)
 have HL1 := Lib.hid (iload_any (c := k2) size HS5.out.spares (HGV.out _ hb0) (fun _ => ⟨_, _, rfl⟩) hnc3 hn63 H8.out)
 go_wp2_with fail
 refine HL1.out.mono ?_
 rintro e w6 ⟨hb6, hcase6⟩
 have hs6 := HS5.out.below hb6
 have HL2 := Lib.hid (dload_any (c := c) size hs6.spares (HBV.out _ hb6) HAP.out hnc hn63 H8.out)
 have HC6 := Lib.hid hcase6; have HB6 := Lib.hid hb6
 clear hcase6 HL1 hs6 hb0
 obtain ⟨E1, hE1⟩ : ∃ E1, E1 = ildE bs size := ⟨_, rfl⟩
 have hes : E1 < 1000 := by rw [hE1]; exact ildE_small _ _
 obtain ⟨E2, hE2⟩ : ∃ E2, E2 = takeE bs 1048576 := ⟨_, rfl⟩
 have het : E2 < 1000 := by rw [hE2]; exact takeE_small _ _
 have HE1 := Lib.hid hE1; have HE2 := Lib.hid hE2
 clear hE1 hE2
 have hEE1 : ((E1 : Int) != (E1 : Int)) = false := by simp
 have hEE2 : ((E2 : Int) != (E2 : Int)) = false := by simp
 by_cases hE10 : E1 = 0
 rotate_left
 ·have hne1 : ((E1 : Int) != 0) = true := by simp; omega
  have hnei1 : ¬ ((E1 : Int) = 0) := by omega
  obtain rfl : e = .returned (.tuple #[.pointer none, .int .i64 (E1 : Nat)]) := by
   rcases HC6.out with ⟨_, h⟩ | ⟨h, _⟩
   ·rw [h, HE1.out]
   ·exact absurd (HE1.out.trans h) hE10
  clear hb6 HC6
  go_wp2_with fail
  refine HL2.out.mono ?_
  rintro e w7 ⟨hb7, hcase7⟩
  obtain rfl : e = .returned (.tuple #[.pointer none, .int .i64 (E1 : Nat)]) := by
   rcases hcase7 with ⟨_, h⟩ | ⟨h, _⟩
   ·rw [h, HE1.out]
   ·exact absurd (HE1.out.trans h) hE10
  have HBX := Lib.hid (below_top HB6.out hb7)
  clear hb7 hcase7 HL2
  go_wp2_with fail
  refine (HNU.out E1 (by omega) _).mono ?_
  rintro e w8 ⟨rfl, rfl⟩
  go_upto_region 6 with fail
  have hlt4 : (n : Int) < (n : Int) + 1 := by omega
  have HS6 := Lib.hid (HS5.out.below HBX.out)
  have HI := Lib.hid (iinfo_any (c := k2) HS6.out.spares (HGV.out _ HBX.out) (fun _ => ⟨_, _, rfl⟩) hnc3 hn63 H8.out)
  go_wp2_with fail
  refine HI.out.mono ?_
  rintro e w8 ⟨hb8, hcase8⟩
  by_cases hE20 : E2 = 0
  rotate_left
  ·have hne2 : ((E2 : Int) != 0) = true := by simp; omega
   have hnei2 : ¬ ((E2 : Int) = 0) := by omega
   obtain rfl : e = .returned (.tuple #[snapV 0 0 0 0, .int .i64 (E2 : Nat)]) := by
    rcases hcase8 with ⟨_, h⟩ | ⟨h, _⟩
    ·rw [h, HE2.out]
    ·exact absurd (HE2.out.trans h) hE20
   have hb9 := below_top (below_top HBX.out hb8) ((Below.refl w8.heap.size w8).alloc (Nat.le_refl _) (.cells #[.int .i64 0, .int .i64 0, .int .i64 0, .int .u32 0] 34))
   have HX9 := Lib.hid (Blk.new w8 34 #[.int .i64 0, .int .i64 0, .int .i64 0, .int .u32 0])
   have HMG := Lib.hid (imigrate_any (c := k2) (HS5.out.below hb9).spares (HGV.out _ hb9) (fun _ => ⟨_, _, rfl⟩) hnc3 hn63 H8.out)
   have HB9 := Lib.hid hb9
   have hw59 : w8.heap.size < (w8.alloc (.cells #[.int .i64 0, .int .i64 0, .int .i64 0, .int .u32 0] 34)).heap.size := by simp
   clear hb8 hb9 hcase8 HI HBX HS6
   unfold snapV
   go_upto_region 7 with fail
   generalize w8.alloc (.cells #[.int .i64 0, .int .i64 0, .int .i64 0, .int .u32 0] 34) = w9 at *
   generalize w8.heap.size = x10 at *
   go_wp2_with fail
   refine HMG.out.mono ?_
   rintro e w10 ⟨hb10, hcase10⟩
   obtain rfl : e = .returned (.tuple #[.slice none 0 0, .int .i64 (E2 : Nat)]) := by
    rcases hcase10 with ⟨_, h⟩ | ⟨h, _⟩
    ·rw [h, HE2.out]
    ·exact absurd (HE2.out.trans h) hE20
   have HX10 := Lib.hid (HX9.out.below hb10 HX9.out.lt)
   have hb11 := below_top HB9.out hb10
   have HTD := Lib.hid (takeD_any (c := c) (size := 1048576) (HS5.out.below hb11).spares (HBV.out _ hb11) HAP.out hnc hn63 H8.out (by decide) (by decide))
   have HB10 := Lib.hid hb11
   have hx10 : x10 < w10.heap.size := HX10.out.lt
   clear hb10 hb11 hcase10 HMG HX9 HB9 hw59
   go_wp2_with fail
   refine HTD.out.mono ?_
   rintro e w12 ⟨hb12, hcase12⟩
   obtain rfl : e = .returned (.tuple #[.pointer none, snapV 0 0 0 0, .int .i64 (E2 : Nat)]) := by
    rcases hcase12 with ⟨_, h⟩ | ⟨h, _⟩
    ·rw [h, HE2.out]
    ·exact absurd (HE2.out.trans h) hE20
   have hbA := (Below.refl w12.heap.size w12).alloc (Nat.le_refl _) (.cells #[.int .i64 0, .int .i64 0, .int .i64 0, .int .u32 0] 34)
   have HXA := Lib.hid ((HX10.out.below hb12 HX10.out.lt).alloc (.cells #[.int .i64 0, .int .i64 0, .int .i64 0, .int .u32 0] 34))
   have HXB := Lib.hid (Blk.new w12 34 #[.int .i64 0, .int .i64 0, .int .i64 0, .int .u32 0])
   have HBA := Lib.hid (below_top (below_top HB10.out hb12) hbA)
   clear hb12 hcase12 HTD HX10 HB10 hbA
   unfold snapV
   go_upto_region 9 with fail
   generalize w12.alloc (.cells #[.int .i64 0, .int .i64 0, .int .i64 0, .int .u32 0] 34) = w13 at *
   generalize w12.heap.size = x14 at *
   go_wp2_with fail
   refine (HNU.out E2 (by omega) _).mono ?_
   rintro e w14 ⟨rfl, rfl⟩
   go_wp2_with fail
   refine (HNU.out E2 (by omega) _).mono ?_
   rintro e w14 ⟨rfl, rfl⟩
   go_wp2_with fail
   refine (HSM.out _ HBA.out).mono ?_
   rintro e w15 ⟨rfl, hb15⟩
   have h77 := H77.out w15 (below_top HBA.out hb15)
   have HXC := Lib.hid (HXA.out.below hb15 HXA.out.lt)
   have HBC := Lib.hid (below_top HBA.out hb15)
   have a0 := HXC.out.cell 0
   have a1 := HXC.out.cell 1
   have a2 := HXC.out.cell 2
   have a3 := HXC.out.cell 3
   clear hb15 HXA HBA HSM HXB
   go_wp2_with fail
   go_ret
   exact ⟨rfl, below_top HB5.out HBC.out⟩
  obtain ⟨r, l, htk, hG, rfl⟩ : ∃ (r : Rd) (l : List Ob), takeR bs = .ok r ∧ (takeH bs 1048576).Good l ∧ e = .returned (.tuple #[snapV r.ver l.length r.words.length r.last, .int .i64 0]) := by
   rcases hcase8 with ⟨h, _⟩ | ⟨_, h⟩
   ·exact absurd (HE2.out.symm.trans hE20) h
   ·exact h
  have HTK := Lib.hid htk; have HG := Lib.hid hG
  have hz1 := HE2.out.symm.trans hE20
  have HZE := Lib.hid hz1
  clear htk hG hz1 hEE2 het
  have hb9 := below_top (below_top HBX.out hb8) ((Below.refl w8.heap.size w8).alloc (Nat.le_refl _) (.cells #[.int .i64 r.ver, .int .i64 l.length, .int .i64 r.words.length, .int .u32 r.last] 34))
  have HX9 := Lib.hid (Blk.new w8 34 #[.int .i64 r.ver, .int .i64 l.length, .int .i64 r.words.length, .int .u32 r.last])
  have HMG := Lib.hid (imigrate_any (c := k2) (HS5.out.below hb9).spares (HGV.out _ hb9) (fun _ => ⟨_, _, rfl⟩) hnc3 hn63 H8.out)
  have HB9 := Lib.hid hb9
  have hw59 : w8.heap.size < (w8.alloc (.cells #[.int .i64 r.ver, .int .i64 l.length, .int .i64 r.words.length, .int .u32 r.last] 34)).heap.size := by simp
  clear hb8 hb9 hcase8 HI HBX HS6
  unfold snapV
  go_upto_region 7 with fail
  generalize w8.alloc (.cells #[.int .i64 (r.ver : Int), .int .i64 (l.length : Int), .int .i64 r.words.length, .int .u32 (r.last : Int)] 34) = w9 at *
  generalize w8.heap.size = x10 at *
  go_wp2_with fail
  refine HMG.out.mono ?_
  rintro e w10 ⟨hb10, hcase10⟩
  obtain ⟨l2, v11, hG2, rfl, hown⟩ : ∃ (l : List Ob) (v : Value), (takeH bs 1048576).Good l ∧ e = .returned (.tuple #[v, .int .i64 0]) ∧ w10.ownsRow w9.heap.size 5 1 v ((takeH bs 1048576).newI l).length (u8c ((takeH bs 1048576).newI l)) := by
   rcases hcase10 with ⟨h, _⟩ | ⟨_, h⟩
   ·exact absurd HZE.out h
   ·exact h
  obtain rfl := good_same hG2 HG.out
  obtain ⟨A11, c11, rfl, hr11⟩ := own_sliceI hown
  have HR11 := Lib.hid hr11
  clear hown hr11 hG2
  have HX10 := Lib.hid (HX9.out.below hb10 HX9.out.lt)
  have hb11 := below_top HB9.out hb10
  have HTD := Lib.hid (takeD_any (c := c) (size := 1048576) (HS5.out.below hb11).spares (HBV.out _ hb11) HAP.out hnc hn63 H8.out (by decide) (by decide))
  have HB10 := Lib.hid hb11
  have hx10 : x10 < w10.heap.size := HX10.out.lt
  clear hb10 hb11 hcase10 HMG HX9 HB9 hw59
  go_wp2_with fail
  refine HTD.out.mono ?_
  rintro e w12 ⟨hb12, hcase12⟩
  obtain ⟨q, rfl, hRQ⟩ : ∃ (q : HP), e = .returned (.tuple #[ptr q.g, snapV r.ver l2.length r.words.length r.last, .int .i64 0]) ∧ RAt w12 q (takeH bs 1048576) := by
   rcases hcase12 with ⟨h, _⟩ | ⟨_, r3, l3, q, h1, h2, h3, h4, _⟩
   ·exact absurd HZE.out h
   ·obtain rfl := good_same h2 HG.out
    rw [HTK.out] at h1
    cases h1
    exact ⟨q, h3, h4⟩
  have hbA := (Below.refl w12.heap.size w12).alloc (Nat.le_refl _) (.cells #[.int .i64 r.ver, .int .i64 l2.length, .int .i64 r.words.length, .int .u32 r.last] 34)
  have HXA := Lib.hid ((HX10.out.below hb12 HX10.out.lt).alloc (.cells #[.int .i64 r.ver, .int .i64 l2.length, .int .i64 r.words.length, .int .u32 r.last] 34))
  have HXB := Lib.hid (Blk.new w12 34 #[.int .i64 r.ver, .int .i64 l2.length, .int .i64 r.words.length, .int .u32 r.last])
  have HRQ := Lib.hid (hRQ.below hbA)
  have HR12 := Lib.hid ((HR11.out.below hb12).more hb12.size)
  have HR13 := Lib.hid ((HR12.out.below hbA).more hbA.size)
  clear hRQ HR11 HR12
  have HBA := Lib.hid (below_top (below_top HB10.out hb12) hbA)
  clear hb12 hcase12 HTD HX10 HB10 hbA
  unfold snapV
  unfold ptr
  go_upto_region 9 with fail
  generalize w12.alloc (.cells #[.int .i64 (r.ver : Int), .int .i64 (l2.length : Int), .int .i64 (r.words.length : Int), .int .u32 (r.last : Int)] 34) = w13 at *
  generalize w12.heap.size = x14 at *
  go_wp2_with fail
  refine (HNU.out 0 (by decide) _).mono ?_
  rintro e w14 ⟨rfl, rfl⟩
  go_wp2_with fail
  refine (HNU.out 0 (by decide) _).mono ?_
  rintro e w14 ⟨rfl, rfl⟩
  go_wp2_with fail
  refine (HSM.out _ HBA.out).mono ?_
  rintro e w15 ⟨rfl, hb15⟩
  have h77 := H77.out w15 (below_top HBA.out hb15)
  have HXC := Lib.hid (HXA.out.below hb15 HXA.out.lt)
  have HBC := Lib.hid (below_top HBA.out hb15)
  have HXD := Lib.hid (HXB.out.below hb15 HXB.out.lt)
  have HRQ2 := Lib.hid (HRQ.out.below hb15)
  have HSV := Lib.hid (rsave_any HRQ2.out HG.out)
  have HR15 := Lib.hid ((HR13.out.below hb15).more hb15.size)
  have a0 := HXC.out.cell 0
  have a1 := HXC.out.cell 1
  have a2 := HXC.out.cell 2
  have a3 := HXC.out.cell 3
  have b0 := HXD.out.cell 0
  have b1 := HXD.out.cell 1
  have b2 := HXD.out.cell 2
  have b3 := HXD.out.cell 3
  clear hb15 HXA HBA HSM HXB HRQ HR13
  unfold ptr at HSV
  go_wp2_with fail
  refine HSV.out.mono ?_
  rintro e w16 ⟨v16, rfl, hown, hb16⟩
  obtain ⟨A16, c16, rfl, hr16⟩ := own_sliceI hown
  have hlen : ((takeH bs 1048576).newI l2).length ≤ 9223372036854775807 := by have h1 := newI_len HG.out; have h2 := HG.out.fit.room; have h3 := HG.out.fit.hi; omega
  have HFS := Lib.hid (show Calls Tryz.prog 11 #[.slice A11 ((takeH bs 1048576).newI l2).length c11, .slice A16 ((takeH bs 1048576).newI l2).length c16] w16 (Told (.bool true) w16) from by
   have := isame_any A11 A16 _ _ c11 c16 ((takeH bs 1048576).newI l2) ((takeH bs 1048576).newI l2) w16 hlen hlen ((HR15.out.below hb16).more hb16.size) hr16
   rw [sameL_self] at this
   exact this)
  have HBD := Lib.hid (below_top HBC.out hb16)
  clear hown hr16 hb16 HSV HR15 a0 a1 a2 a3 b0 b1 b2 b3
  go_wp2_with fail
  refine HFS.out.mono ?_
  rintro e w17 ⟨rfl, hb17⟩
  have HBE := Lib.hid (below_top HBD.out hb17)
  clear hb17 HFS
  go_wp2_with fail
  go_ret
  exact ⟨rfl, below_top HB5.out HBE.out⟩
 subst hE10
 obtain ⟨p, l0, rfl, hG0, hH0, hn0⟩ : ∃ (p : HP) (l : List Ob), e = .returned (.tuple #[ptr p.g, .int .i64 0]) ∧ (takeH bs size.toNat).Good l ∧ HAt w6 p (takeH bs size.toNat) ∧ ∀ k, p.has k → w5.heap.size ≤ k := by
  rcases HC6.out with ⟨h, _⟩ | ⟨_, h⟩
  ·exact absurd HE1.out.symm h
  ·exact h
 have L6 : Live w5 w6 p p.g (takeH bs size.toNat) := ⟨hH0, rfl, ⟨l0, hG0⟩, HS5.out, hn0, hb6⟩
 have HL6 := Lib.hid L6
 clear hG0 hH0 hn0 L6
 unfold ptr
 clear hb6 HC6
 go_wp2_with fail
 refine HL2.out.mono ?_
 rintro e w7 ⟨hb7, hcase7⟩
 obtain ⟨q0, rfl, hR0⟩ : ∃ q : HP, e = .returned (.tuple #[ptr q.g, .int .i64 0]) ∧ RAt w7 q (takeH bs size.toNat) := by
  rcases hcase7 with ⟨h, _⟩ | ⟨_, h⟩
  ·exact absurd HE1.out.symm h
  ·exact h
 have HLK := Lib.hid (like_any (HL6.out.after hb7) hR0)
 have HBY := Lib.hid (below_top HB6.out hb7)
 clear hb7 hcase7 HL2 HL6 hR0
 unfold ptr
 go_wp2_with fail
 refine (HNU.out 0 (by decide) _).mono ?_
 rintro e w8 ⟨rfl, rfl⟩
 go_wp2_with fail
 refine HLK.out.mono ?_
 rintro e w8 ⟨rfl, hb8⟩
 have HBX := Lib.hid (below_top HBY.out hb8)
 clear hb8 HLK HBY
 go_upto_region 6 with fail
 have hlt4 : (n : Int) < (n : Int) + 1 := by omega
 have HS6 := Lib.hid (HS5.out.below HBX.out)
 have HI := Lib.hid (iinfo_any (c := k2) HS6.out.spares (HGV.out _ HBX.out) (fun _ => ⟨_, _, rfl⟩) hnc3 hn63 H8.out)
 go_wp2_with fail
 refine HI.out.mono ?_
 rintro e w8 ⟨hb8, hcase8⟩
 by_cases hE20 : E2 = 0
 rotate_left
 ·have hne2 : ((E2 : Int) != 0) = true := by simp; omega
  have hnei2 : ¬ ((E2 : Int) = 0) := by omega
  obtain rfl : e = .returned (.tuple #[snapV 0 0 0 0, .int .i64 (E2 : Nat)]) := by
   rcases hcase8 with ⟨_, h⟩ | ⟨h, _⟩
   ·rw [h, HE2.out]
   ·exact absurd (HE2.out.trans h) hE20
  have hb9 := below_top (below_top HBX.out hb8) ((Below.refl w8.heap.size w8).alloc (Nat.le_refl _) (.cells #[.int .i64 0, .int .i64 0, .int .i64 0, .int .u32 0] 34))
  have HX9 := Lib.hid (Blk.new w8 34 #[.int .i64 0, .int .i64 0, .int .i64 0, .int .u32 0])
  have HMG := Lib.hid (imigrate_any (c := k2) (HS5.out.below hb9).spares (HGV.out _ hb9) (fun _ => ⟨_, _, rfl⟩) hnc3 hn63 H8.out)
  have HB9 := Lib.hid hb9
  have hw59 : w8.heap.size < (w8.alloc (.cells #[.int .i64 0, .int .i64 0, .int .i64 0, .int .u32 0] 34)).heap.size := by simp
  clear hb8 hb9 hcase8 HI HBX HS6
  unfold snapV
  go_upto_region 7 with fail
  generalize w8.alloc (.cells #[.int .i64 0, .int .i64 0, .int .i64 0, .int .u32 0] 34) = w9 at *
  generalize w8.heap.size = x10 at *
  go_wp2_with fail
  refine HMG.out.mono ?_
  rintro e w10 ⟨hb10, hcase10⟩
  obtain rfl : e = .returned (.tuple #[.slice none 0 0, .int .i64 (E2 : Nat)]) := by
   rcases hcase10 with ⟨_, h⟩ | ⟨h, _⟩
   ·rw [h, HE2.out]
   ·exact absurd (HE2.out.trans h) hE20
  have HX10 := Lib.hid (HX9.out.below hb10 HX9.out.lt)
  have hb11 := below_top HB9.out hb10
  have HTD := Lib.hid (takeD_any (c := c) (size := 1048576) (HS5.out.below hb11).spares (HBV.out _ hb11) HAP.out hnc hn63 H8.out (by decide) (by decide))
  have HB10 := Lib.hid hb11
  have hx10 : x10 < w10.heap.size := HX10.out.lt
  clear hb10 hb11 hcase10 HMG HX9 HB9 hw59
  go_wp2_with fail
  refine HTD.out.mono ?_
  rintro e w12 ⟨hb12, hcase12⟩
  obtain rfl : e = .returned (.tuple #[.pointer none, snapV 0 0 0 0, .int .i64 (E2 : Nat)]) := by
   rcases hcase12 with ⟨_, h⟩ | ⟨h, _⟩
   ·rw [h, HE2.out]
   ·exact absurd (HE2.out.trans h) hE20
  have hbA := (Below.refl w12.heap.size w12).alloc (Nat.le_refl _) (.cells #[.int .i64 0, .int .i64 0, .int .i64 0, .int .u32 0] 34)
  have HXA := Lib.hid ((HX10.out.below hb12 HX10.out.lt).alloc (.cells #[.int .i64 0, .int .i64 0, .int .i64 0, .int .u32 0] 34))
  have HXB := Lib.hid (Blk.new w12 34 #[.int .i64 0, .int .i64 0, .int .i64 0, .int .u32 0])
  have HBA := Lib.hid (below_top (below_top HB10.out hb12) hbA)
  clear hb12 hcase12 HTD HX10 HB10 hbA
  unfold snapV
  go_upto_region 9 with fail
  generalize w12.alloc (.cells #[.int .i64 0, .int .i64 0, .int .i64 0, .int .u32 0] 34) = w13 at *
  generalize w12.heap.size = x14 at *
  go_wp2_with fail
  refine (HNU.out E2 (by omega) _).mono ?_
  rintro e w14 ⟨rfl, rfl⟩
  go_wp2_with fail
  refine (HNU.out E2 (by omega) _).mono ?_
  rintro e w14 ⟨rfl, rfl⟩
  go_wp2_with fail
  refine (HSM.out _ HBA.out).mono ?_
  rintro e w15 ⟨rfl, hb15⟩
  have h77 := H77.out w15 (below_top HBA.out hb15)
  have HXC := Lib.hid (HXA.out.below hb15 HXA.out.lt)
  have HBC := Lib.hid (below_top HBA.out hb15)
  have a0 := HXC.out.cell 0
  have a1 := HXC.out.cell 1
  have a2 := HXC.out.cell 2
  have a3 := HXC.out.cell 3
  clear hb15 HXA HBA HSM HXB
  go_wp2_with fail
  go_ret
  exact ⟨rfl, below_top HB5.out HBC.out⟩
 obtain ⟨r, l, htk, hG, rfl⟩ : ∃ (r : Rd) (l : List Ob), takeR bs = .ok r ∧ (takeH bs 1048576).Good l ∧ e = .returned (.tuple #[snapV r.ver l.length r.words.length r.last, .int .i64 0]) := by
  rcases hcase8 with ⟨h, _⟩ | ⟨_, h⟩
  ·exact absurd (HE2.out.symm.trans hE20) h
  ·exact h
 have HTK := Lib.hid htk; have HG := Lib.hid hG
 have hz1 := HE2.out.symm.trans hE20
 have HZE := Lib.hid hz1
 clear htk hG hz1 hEE2 het
 have hb9 := below_top (below_top HBX.out hb8) ((Below.refl w8.heap.size w8).alloc (Nat.le_refl _) (.cells #[.int .i64 r.ver, .int .i64 l.length, .int .i64 r.words.length, .int .u32 r.last] 34))
 have HX9 := Lib.hid (Blk.new w8 34 #[.int .i64 r.ver, .int .i64 l.length, .int .i64 r.words.length, .int .u32 r.last])
 have HMG := Lib.hid (imigrate_any (c := k2) (HS5.out.below hb9).spares (HGV.out _ hb9) (fun _ => ⟨_, _, rfl⟩) hnc3 hn63 H8.out)
 have HB9 := Lib.hid hb9
 have hw59 : w8.heap.size < (w8.alloc (.cells #[.int .i64 r.ver, .int .i64 l.length, .int .i64 r.words.length, .int .u32 r.last] 34)).heap.size := by simp
 clear hb8 hb9 hcase8 HI HBX HS6
 unfold snapV
 go_upto_region 7 with fail
 generalize w8.alloc (.cells #[.int .i64 (r.ver : Int), .int .i64 (l.length : Int), .int .i64 r.words.length, .int .u32 (r.last : Int)] 34) = w9 at *
 generalize w8.heap.size = x10 at *
 go_wp2_with fail
 refine HMG.out.mono ?_
 rintro e w10 ⟨hb10, hcase10⟩
 obtain ⟨l2, v11, hG2, rfl, hown⟩ : ∃ (l : List Ob) (v : Value), (takeH bs 1048576).Good l ∧ e = .returned (.tuple #[v, .int .i64 0]) ∧ w10.ownsRow w9.heap.size 5 1 v ((takeH bs 1048576).newI l).length (u8c ((takeH bs 1048576).newI l)) := by
  rcases hcase10 with ⟨h, _⟩ | ⟨_, h⟩
  ·exact absurd HZE.out h
  ·exact h
 obtain rfl := good_same hG2 HG.out
 obtain ⟨A11, c11, rfl, hr11⟩ := own_sliceI hown
 have HR11 := Lib.hid hr11
 clear hown hr11 hG2
 have HX10 := Lib.hid (HX9.out.below hb10 HX9.out.lt)
 have hb11 := below_top HB9.out hb10
 have HTD := Lib.hid (takeD_any (c := c) (size := 1048576) (HS5.out.below hb11).spares (HBV.out _ hb11) HAP.out hnc hn63 H8.out (by decide) (by decide))
 have HB10 := Lib.hid hb11
 have hx10 : x10 < w10.heap.size := HX10.out.lt
 clear hb10 hb11 hcase10 HMG HX9 HB9 hw59
 go_wp2_with fail
 refine HTD.out.mono ?_
 rintro e w12 ⟨hb12, hcase12⟩
 obtain ⟨q, rfl, hRQ⟩ : ∃ (q : HP), e = .returned (.tuple #[ptr q.g, snapV r.ver l2.length r.words.length r.last, .int .i64 0]) ∧ RAt w12 q (takeH bs 1048576) := by
  rcases hcase12 with ⟨h, _⟩ | ⟨_, r3, l3, q, h1, h2, h3, h4, _⟩
  ·exact absurd HZE.out h
  ·obtain rfl := good_same h2 HG.out
   rw [HTK.out] at h1
   cases h1
   exact ⟨q, h3, h4⟩
 have hbA := (Below.refl w12.heap.size w12).alloc (Nat.le_refl _) (.cells #[.int .i64 r.ver, .int .i64 l2.length, .int .i64 r.words.length, .int .u32 r.last] 34)
 have HXA := Lib.hid ((HX10.out.below hb12 HX10.out.lt).alloc (.cells #[.int .i64 r.ver, .int .i64 l2.length, .int .i64 r.words.length, .int .u32 r.last] 34))
 have HXB := Lib.hid (Blk.new w12 34 #[.int .i64 r.ver, .int .i64 l2.length, .int .i64 r.words.length, .int .u32 r.last])
 have HRQ := Lib.hid (hRQ.below hbA)
 have HR12 := Lib.hid ((HR11.out.below hb12).more hb12.size)
 have HR13 := Lib.hid ((HR12.out.below hbA).more hbA.size)
 clear hRQ HR11 HR12
 have HBA := Lib.hid (below_top (below_top HB10.out hb12) hbA)
 clear hb12 hcase12 HTD HX10 HB10 hbA
 unfold snapV
 unfold ptr
 go_upto_region 9 with fail
 generalize w12.alloc (.cells #[.int .i64 (r.ver : Int), .int .i64 (l2.length : Int), .int .i64 (r.words.length : Int), .int .u32 (r.last : Int)] 34) = w13 at *
 generalize w12.heap.size = x14 at *
 go_wp2_with fail
 refine (HNU.out 0 (by decide) _).mono ?_
 rintro e w14 ⟨rfl, rfl⟩
 go_wp2_with fail
 refine (HNU.out 0 (by decide) _).mono ?_
 rintro e w14 ⟨rfl, rfl⟩
 go_wp2_with fail
 refine (HSM.out _ HBA.out).mono ?_
 rintro e w15 ⟨rfl, hb15⟩
 have h77 := H77.out w15 (below_top HBA.out hb15)
 have HXC := Lib.hid (HXA.out.below hb15 HXA.out.lt)
 have HBC := Lib.hid (below_top HBA.out hb15)
 have HXD := Lib.hid (HXB.out.below hb15 HXB.out.lt)
 have HRQ2 := Lib.hid (HRQ.out.below hb15)
 have HSV := Lib.hid (rsave_any HRQ2.out HG.out)
 have HR15 := Lib.hid ((HR13.out.below hb15).more hb15.size)
 have a0 := HXC.out.cell 0
 have a1 := HXC.out.cell 1
 have a2 := HXC.out.cell 2
 have a3 := HXC.out.cell 3
 have b0 := HXD.out.cell 0
 have b1 := HXD.out.cell 1
 have b2 := HXD.out.cell 2
 have b3 := HXD.out.cell 3
 clear hb15 HXA HBA HSM HXB HRQ HR13
 unfold ptr at HSV
 go_wp2_with fail
 refine HSV.out.mono ?_
 rintro e w16 ⟨v16, rfl, hown, hb16⟩
 obtain ⟨A16, c16, rfl, hr16⟩ := own_sliceI hown
 have hlen : ((takeH bs 1048576).newI l2).length ≤ 9223372036854775807 := by have h1 := newI_len HG.out; have h2 := HG.out.fit.room; have h3 := HG.out.fit.hi; omega
 have HFS := Lib.hid (show Calls Tryz.prog 11 #[.slice A11 ((takeH bs 1048576).newI l2).length c11, .slice A16 ((takeH bs 1048576).newI l2).length c16] w16 (Told (.bool true) w16) from by
  have := isame_any A11 A16 _ _ c11 c16 ((takeH bs 1048576).newI l2) ((takeH bs 1048576).newI l2) w16 hlen hlen ((HR15.out.below hb16).more hb16.size) hr16
  rw [sameL_self] at this
  exact this)
 have HBD := Lib.hid (below_top HBC.out hb16)
 clear hown hr16 hb16 HSV HR15 a0 a1 a2 a3 b0 b1 b2 b3
 go_wp2_with fail
 refine HFS.out.mono ?_
 rintro e w17 ⟨rfl, hb17⟩
 have HBE := Lib.hid (below_top HBD.out hb17)
 clear hb17 HFS
 go_wp2_with fail
 go_ret
 exact ⟨rfl, below_top HB5.out HBE.out⟩
end
end Go.Proofs.YthadjmhipckelaaGreatDoor
