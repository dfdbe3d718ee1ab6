/- seen: the graph that is seen from beginnings. -/
import Derived.Test.YtpajpdjjpgbklaaDoorJMarks
import Derived.Test.YtpajpdjjpgbklaaDoorRound
import Derived.OwnWalkIn
set_option linter.unusedVariables false
namespace Go.Proofs.YtpajpdjjpgbklaaDoor
open Go.RowKit Go.Maps Go.Sort
attribute [local go_sem] Oper.semAt_some

theorem oopsOf_getD {l : List Nd} {i : Nat} (hi : i < l.length) : (oopsOf l).getD i 0 = (l.getD i default).o := by
  unfold oopsOf
  rw [List.getD_eq_getElem?_getD, List.getD_eq_getElem?_getD, List.getElem?_map, List.getElem?_eq_getElem hi]
  rfl
theorem oopsOf_mem {l : List Nd} {i : Nat} (hi : i < l.length) : (l.getD i default).o ∈ oopsOf l := by
  unfold oopsOf
  rw [List.getD_eq_getElem?_getD, List.getElem?_eq_getElem hi]
  exact List.mem_map_of_mem (List.getElem_mem hi)
theorem deepsOf_getD {l : List Nd} {i : Nat} (hi : i < l.length) : (deepsOf l).getD i 0 = (l.getD i default).deep := by
  unfold deepsOf
  rw [List.getD_eq_getElem?_getD, List.getD_eq_getElem?_getD, List.getElem?_map, List.getElem?_eq_getElem hi]
  rfl
theorem pre_getD {l l' : List Nd} (h : l <+: l') {i : Nat} (hi : i < l.length) : l'.getD i default = l.getD i default := by
  obtain ⟨r, rfl⟩ := h
  rw [List.getD_eq_getElem?_getD, List.getD_eq_getElem?_getD, List.getElem?_append_left hi]
theorem meetN_deep {l : List Nd} {B : Nat} (h : ∀ nd ∈ l, nd.deep ≤ B) (o : Nat) (p f : Int) {d : Nat} (hd : d ≤ B) : ∀ nd ∈ meetN l o p f d, nd.deep ≤ B := by
  intro nd hnd
  unfold meetN at hnd
  split at hnd
  · rcases List.mem_append.1 hnd with h1 | h1
    · exact h nd h1
    · simp at h1; subst h1; exact hd
  · exact h nd hnd
theorem meetF_deep (fr : List Nat) : ∀ k, ∀ nd ∈ meetF fr k, nd.deep ≤ 0 + 1
  | 0 => fun nd h => by simp [meetF] at h
  | k + 1 => meetN_deep (meetF_deep fr k) _ _ _ (Nat.le_refl _)
theorem meetP_deep (nA : Nat → Nat → Nat) {l : List Nd} {i : Nat} (h : ∀ nd ∈ l, nd.deep ≤ i + 1) (hi : i < l.length) (pre : List Nat) : ∀ nd ∈ meetP nA l i pre, nd.deep ≤ i + 1 + 1 := by
  have hd : (l.getD i default).deep ≤ i + 1 := by
    rw [List.getD_eq_getElem?_getD, List.getElem?_eq_getElem hi]
    exact h _ (List.getElem_mem _)
  have h0 : ∀ nd ∈ l, nd.deep ≤ i + 1 + 1 := fun nd hn => by have := h nd hn; omega
  clear h
  unfold meetP
  generalize (l.getD i default).deep = d at *
  generalize (l.getD i default).o = o at *
  revert h0
  clear hi
  generalize l = l0
  induction pre generalizing l0 with
  | nil => exact fun h => h
  | cons k pre ih => exact fun h0 => ih _ (meetN_deep h0 _ _ _ (by omega))
theorem ints_get' {xs : List Nat} {i : Nat} (h : i < xs.length) : (ints xs)[i]? = some (.int .i64 ((xs.getD i 0 : Nat) : Int)) := by
  unfold ints; rw [List.getElem?_map, List.getElem?_eq_getElem h, List.getD_eq_getElem?_getD, List.getElem?_eq_getElem h]; rfl
/-- What is said of a whole graph. -/
def GWell (h : HM) (l : List Nd) : Prop := l.length ≤ 65536 ∧ (oopsOf l).Nodup ∧ (∀ x ∈ oopsOf l, h.isB x = true) ∧ (∀ nd ∈ l, nd.deep ≤ 65537)
/-- What seen answers. -/
def SeenP (p : HP) (h : HM) (fr : List Nat) (w : World) (e : Ending) (w' : World) : Prop :=
  Below w.heap.size w w' ∧ ((h.fitsB fr = false ∧ e = .returned (.tuple #[.pointer none, .int .i64 3])) ∨
    (h.fitsB fr = true ∧ seenM h.nmN h.nmAt fr = none ∧ e = .returned (.tuple #[.pointer none, .int .i64 2])) ∨
    (h.fitsB fr = true ∧ ∃ l gG mB vm vd, seenM h.nmN h.nmAt fr = some l ∧ GWell h l ∧ e = .returned (.tuple #[.pointer (some ⟨gG, 0, none⟩), .int .i64 0]) ∧ GAt w' w.heap.size gG mB (ptr p.g) vm vd l))
set_option maxRecDepth 100000 in
set_option maxHeartbeats 4000000 in
theorem seen_any {w : World} {p : HP} {h : HM} {ls : List Ob} (H : HAt w p h) (G : h.Good ls) (hh : h.Heads) (hs : Spares w) (A : Option Addr) (n c : Nat) (fr : List Nat) (hn : n ≤ 9223372036854775807) (hr : Reads w w.heap.size 1 A n (u32s fr)) (h32 : ∀ x ∈ fr, x < 4294967296) :
    Calls Tryd.prog 35 #[ptr p.g, .slice A n c] w (SeenP p h fr w) := by
  have f := G.fit
  have hl : fr.length = n := by have := hr.1; rw [u32s_len] at this; omega
  have HFT := Lib.hid (cfits_any H f A n c fr hn hr h32)
  have HL := Lib.hid hl; have HR := Lib.hid hr; have HX := Lib.hid h32; have HH := Lib.hid H
  clear hl hr h32 H
  refine (callsIn_wide (n := 6)).1 ?_
  refine callsIn_of_wp_marks Tryd.func35 rfl trivial ?_ rfl
  simp only [Tryd.ntmps35, List.size_toArray, List.length_cons, List.length_nil, Nat.reduceAdd, Nat.reduceSub, Array.replicate_succ, Array.replicate_zero, List.push_toArray, List.append_toArray, List.nil_append, List.cons_append]
  unfold ptr at HFT ⊢
  cases hfit : h.fitsB fr
  · rw [hfit] at HFT
    gi_wp2_with fail
    refine ⟨trivial, (callsIn_wide.2 HFT.out).mono ?_⟩
    rintro e w1 ⟨rfl, hb1⟩
    gi_wp2_with fail
    refine ⟨.tuple #[.pointer none, .int .i64 3], by simp [results, Tryd.results35, go_sem], ?_⟩
    exact ⟨hb1, .inl ⟨hfit, rfl⟩⟩
  · rw [hfit] at HFT
    gi_wp2_with fail
    refine ⟨trivial, (callsIn_wide.2 HFT.out).mono ?_⟩
    rintro e w1 ⟨rfl, hb1⟩
    have hmm := @run_makeMap Tryd.prog
    gi_wp2_with fail
    clear hmm
    have HS0 := Lib.hid (show GSt w (w1.heap.size + 1) w1.heap.size (w1.heap.size + 1 + 1) (.pointer (some ⟨p.g, 0, none⟩)) (.slice none 0 0) (.slice none 0 0) [] (((w1.alloc (.map #[] 0)).alloc (.cells #[.pointer (some ⟨p.g, 0, none⟩), .slice none 0 0, .map (some w1.heap.size), .slice none 0 0] 94)).alloc (.cells #[.pointer (some ⟨w1.heap.size + 1, 0, none⟩)] 88)) from by
      have hsz := hb1.size
      refine ⟨((hb1.alloc hb1.size _).alloc (by simp; omega) _).alloc (by simp; omega) _, ⟨?_, ⟨rfl, .inl ⟨rfl, rfl⟩⟩, ⟨rfl, .inl ⟨rfl, rfl⟩⟩, ?_, by omega, by omega, by simp; omega⟩, ?_⟩
      · have := (Blk.new (w1.alloc (.map #[] 0)) 94 #[.pointer (some ⟨p.g, 0, none⟩), .slice none 0 0, .map (some w1.heap.size), .slice none 0 0]).alloc (.cells #[.pointer (some ⟨w1.heap.size + 1, 0, none⟩)] 88)
        rw [World.size_alloc] at this
        exact this
      · refine MapOk.below (w := w1.alloc (.map #[] 0)) ((MapOk.made w1 _).ext (fun _ => rfl) (fun x => by simp [oopsOf])) (((Below.refl _ _).alloc (Nat.le_refl _) _).alloc (by simp) _)
      · have := Blk.new ((w1.alloc (.map #[] 0)).alloc (.cells #[.pointer (some ⟨p.g, 0, none⟩), .slice none 0 0, .map (some w1.heap.size), .slice none 0 0] 94)) 88 #[.pointer (some ⟨w1.heap.size + 1, 0, none⟩)]
        rw [World.size_alloc, World.size_alloc] at this
        exact this)
    have HISB := Lib.hid (fits_all hfit)
    have hgb : w.heap.size ≤ w1.heap.size := hb1.size
    generalize hmB : w1.heap.size = mB at *
    generalize ((w1.alloc (.map #[] 0)).alloc (.cells #[.pointer (some ⟨p.g, 0, none⟩), .slice none 0 0, .map (some mB), .slice none 0 0] 94)).alloc (.cells #[.pointer (some ⟨mB + 1, 0, none⟩)] 88) = w2 at *
    clear hb1 hmB
    gi_loopw [8, 22] (fun v i wr => ∃ k : Nat, k ≤ n ∧ i = .int .i64 k ∧ ∃ vm vd, GSt w (mB + 1) mB (mB + 1 + 1) (.pointer (some ⟨p.g, 0, none⟩)) vm vd (meetF fr k) wr) (fun _ i _ => n - (intOf i).toNat)
    case atStart => exact ⟨0, by omega, rfl, _, _, HS0.out⟩
    case round =>
      clear HS0
      obtain ⟨k, hk, rfl, vm, vd, S⟩ := hrel
      by_cases hlt : k < n
      · obtain ⟨ad, u0, rfl, hblk, hx, hcell⟩ := (HR.out.below S.base).at_ hlt
        rw [u32s_get (by rw [HL.out]; exact hlt)] at hx
        injection hx with hx
        subst hx
        have hmem : fr.getD k 0 ∈ fr := by
          rw [List.getD_eq_getElem?_getD, List.getElem?_eq_getElem (by rw [HL.out]; exact hlt)]
          exact List.getElem_mem _
        have ho := HX.out _ hmem
        have hbx := S.box.cell 0
        have HM := Lib.hid (meet_any S.graph (meetF_all fr (fun o _ hk => hk) k (by rw [HL.out]; exact hk)) (fr.getD k 0) ho 1 (by omega) (by have := graph_bound f (meetF_nodup fr k) (meetF_all fr HISB.out k (by rw [HL.out]; exact hk)); omega) (-1) (k : Int))
        have HSS := Lib.hid S
        clear S hmem
        rw [show meetN (meetF fr k) (fr.getD k 0) (-1) (k : Int) 1 = meetF fr (k + 1) from rfl] at HM
        generalize fr.getD k 0 = y at *
        gi_wp2_with fail
        refine ⟨trivial, (callsIn_wide.2 HM.out).mono ?_⟩
        rintro e w5 ⟨rfl, vm', vd', G', s'⟩
        have HS5 := Lib.hid (HSS.out.step G' s')
        clear G' s' hcell hbx
        gi_wp2_with fail
        go_roundw
        case rel => exact ⟨k + 1, by omega, by go_num, vm', vd', HS5.out⟩
        case measure => simp [intOf]; omega
      · obtain rfl : k = n := by omega
        have HSS := Lib.hid S
        clear S hk hlt
        gi_wp2_with fail
        refine wpIn_loop_n (fun j a W => ∃ (i bI : Nat) (ds : List Deferred) (vm vd : Value) (l : List Nd) (u30 u31 u32 u33 u34 u35 u36 u37 u38 u39 u40 u41 u42 u43 u44 u45 u46 u47 u61 u62 u63 u64 u65 u66 u67 : Value), a = { tmps := #[.pointer (some ⟨p.g, 0, none⟩), .slice A k c, undef, undef, .pointer none, .int .i64 0, .pointer (some ⟨mB + 1 + 1, 0, none⟩), undef, u8, .pointer (some ⟨bI, 0, none⟩), undef, undef, .pointer (some ⟨p.g, 0, none⟩), .slice A k c, .bool true, .bool false, .pointer (some ⟨p.g, 0, none⟩), .map (some mB), .agg #[.pointer (some ⟨p.g, 0, none⟩), .slice none 0 0, .map (some mB), .slice none 0 0], .pointer (some ⟨mB + 1, 0, none⟩), .slice A k c, .int .i64 (k : Int), .int .i64 (k : Int), .bool false, u24, u25, u26, u27, u28, u29, u30, u31, u32, u33, u34, u35, u36, u37, u38, u39, u40, u41, u42, u43, u44, u45, u46, u47, undef, undef, undef, undef, undef, undef, undef, undef, undef, undef, undef, undef, undef, u61, u62, u63, u64, u65, u66, u67, undef, undef, undef, undef, undef, undef, undef], defers := ds } ∧ j = 65538 - i ∧ Going h.nmN h.nmAt fr i l ∧ (∀ x ∈ oopsOf l, h.isB x = true) ∧ (∀ nd ∈ l, nd.deep ≤ i + 1) ∧ GSt w (mB + 1) mB (mB + 1 + 1) (.pointer (some ⟨p.g, 0, none⟩)) vm vd l W ∧ Blk W bI 3 #[.int .i64 i] ∧ Marks w.heap.size ds W ∧ vd.ownBlock ≠ some bI) 65538 ?start ?round
        case start =>
          refine ⟨0, wr.heap.size, [], vm, vd, _, _, _, _, _, _, _, _, _, _, _, _, _, _, _, _, _, _, _, _, _, _, _, _, _, _, rfl, rfl, Going.start h.nmN h.nmAt fr, meetF_all fr HISB.out _ (Nat.le_refl _), meetF_deep fr _, ?_, Blk.new wr _ _, Marks.nil _ _, fun e => by have := (HSS.out.graph.deep.lt _ e).2; omega⟩
          rw [HL.out]
          exact HSS.out.below ((Below.refl _ _).alloc (Nat.le_refl _) _)
        case round =>
          clear HSS
          rintro j a W ⟨i, bI, ds, vm, vd, l, u30, u31, u32, u33, u34, u35, u36, u37, u38, u39, u40, u41, u42, u43, u44, u45, u46, u47, u61, u62, u63, u64, u65, u66, u67, rfl, hj, hG, hisb, hdp, S, BI, MK, hvb⟩
          have HG := Lib.hid hG
          have HI := Lib.hid hisb
          have HDP := Lib.hid hdp
          have HS := Lib.hid S
          have HB := Lib.hid BI
          have HM := Lib.hid MK
          have HJ := Lib.hid hj
          obtain ⟨Am, cm, rfl, hrm⟩ := own_slice S.graph.met
          obtain ⟨Ad, cd, rfl, hrd⟩ := own_slice S.graph.deep
          have hrm := Lib.hid hrm
          have hrd := Lib.hid hrd
          have k0 : W.cell? ⟨bI, 0, none⟩ = some (.int .i64 (i : Int)) := BI.cell 0
          have k1 : W.cell? ⟨mB + 1 + 1, 0, none⟩ = some (.pointer (some ⟨mB + 1, 0, none⟩)) := S.box.cell 0
          have k2 : W.cell? ⟨mB + 1, 1, none⟩ = some (.slice Am l.length cm) := S.graph.box.cell 1
          have hll := graph_bound f hG.nodup hisb
          have hi5 : i ≤ 65537 := by have h1 := hG.le; rcases hG.short with e | e <;> omega
          clear hG hisb hdp S BI MK hj
          by_cases hlt : i < l.length
          · have hd : decide ((i : Int) < (l.length : Int)) = true := by simp; omega
            have HLT := Lib.hid hlt
            gi_wp2_with fail
            gi_region
            gi_wp2_with fail
            obtain ⟨ad, u0, rfl, _, hx, hcell⟩ := hrm.out.at_ hlt
            have hbd : Below W.heap.size W W.drew := ⟨rfl, rfl, rfl, Nat.le_refl _, fun _ _ => rfl⟩
            replace HS := Lib.hid (HS.out.below hbd)
            replace HB := Lib.hid (HB.out.below hbd HB.out.lt)
            replace HM := Lib.hid (HM.out.below hbd)
            replace k0 : W.drew.cell? ⟨bI, 0, none⟩ = some (.int .i64 (i : Int)) := k0
            replace k1 : W.drew.cell? ⟨mB + 1 + 1, 0, none⟩ = some (.pointer (some ⟨mB + 1, 0, none⟩)) := k1
            replace k2 : W.drew.cell? ⟨mB + 1, 1, none⟩ = some (.slice (some ad) l.length cm) := k2
            replace hcell : W.drew.cell? (ad.add i) = some u0 := hcell
            clear hbd
            generalize W.drew = W at *
            rw [u32s_get (by rw [oopsOf_len]; exact hlt), oopsOf_getD hlt] at hx
            injection hx with hx
            subst hx
            have hisb := HI.out _ (oopsOf_mem hlt)
            have HO := Lib.hid hisb
            clear hisb
            generalize hoo : (l.getD i default).o = o at *
            have HOO := Lib.hid hoo
            clear hoo
            replace k0 := cell_regrown k0
            replace k1 := cell_regrown k1
            replace k2 := cell_regrown k2
            replace hcell := cell_regrown hcell
            refine wpIn_wide.2 ?_
            refine wp_region_below_tail 8 (by kernel_rfl) (by kernel_rfl) ?_
            simp only [List.take_succ_cons, List.take_zero, List.drop_succ_cons, List.drop_zero]
            repeat (quiet_step (fail))
            refine wpQuiet_nil ?_
            intro wq hwq
            obtain ⟨⟨dq, osq⟩, hw''⟩ := hwq
            subst hw''
            have hbq := below_regrown W dq osq
            have HS3 := Lib.hid (HS.out.below hbq)
            have HB3 := Lib.hid (HB.out.below hbq HB.out.lt)
            have HM3 := Lib.hid (HM.out.below hbq)
            clear k0 k1 k2 hcell hrm hrd hbq HS HB HM
            generalize grow (redrawn W dq) osq = W3 at *
            go_wp2_with fail
            refine (names_any p.g o W3).mono ?_
            rintro e W4 ⟨rfl, rfl⟩
            go_wp2_with fail
            have hbe : Below W3.heap.size W3 ((W3.alloc (.cells #[.pointer (some ⟨p.g, 0, none⟩)] 27)).alloc (.cells #[.int .u32 (o : Nat)] 50)) := ((Below.refl _ _).alloc (Nat.le_refl _) _).alloc (by simp) _
            have BH := (Blk.new W3 27 #[.pointer (some ⟨p.g, 0, none⟩)]).alloc (.cells #[.int .u32 (o : Nat)] 50)
            have BO := Blk.new (W3.alloc (.cells #[.pointer (some ⟨p.g, 0, none⟩)] 27)) 50 #[.int .u32 (o : Nat)]
            rw [World.size_alloc] at BO
            have HS4 := Lib.hid (HS3.out.below hbe)
            have HB4 := Lib.hid (HB3.out.below hbe HB3.out.lt)
            have HM4 := Lib.hid (HM3.out.below hbe)
            have hmo : (Value.slice (some ad) l.length cm).ownBlock ≠ some (W3.heap.size + 1) := fun e => by
              have := (HS3.out.graph.met.lt _ e).2
              omega
            have hdl : ∀ D, ({ target := .collected D, args := #[] } : Deferred) ∈ ds → D < W3.heap.size := fun D hD => by
              obtain ⟨D', h1, _, h3⟩ := HM3.out.at_ _ hD
              injection h1 with h1; injection h1 with h1
              subst h1
              exact lt_of_get h3
            unfold ptr
            generalize hW4 : (W3.alloc (.cells #[.pointer (some ⟨p.g, 0, none⟩)] 27)).alloc (.cells #[.int .u32 (o : Nat)] 50) = W4 at *
            have hs4 : W4.heap.size = W3.heap.size + 2 := by rw [← hW4]; simp
            have hmBl : mB < W3.heap.size := HS3.out.graph.num.lt
            have hw3 : w.heap.size ≤ W3.heap.size := HS3.out.base.size
            generalize W3.heap.size = Bh at *
            clear hW4 hbe HS3 HB3 HM3
            have HSP4 := Lib.hid (show NmSt W4 p h Bh (Bh + 1) o from ⟨HH.out.below HS4.out.base, hs.below HS4.out.base, BH.cell 0, BO.cell 0⟩)
            have ho32 : o < 4294967296 := by
              have h1 := HM.isB_lt HO.out
              have h2 := f.marks
              have h3 := f.room
              have h4 := f.hi
              omega
            have hN := nmN_le f o (HM.isB_hd hh HO.out)
            gi_wp2_with fail
            refine wpIn_rangeFunc_ownH (F := Fence.wide) rfl (by omega) (gf := 78) (lb := #[.pointer (some ⟨Bh, 0, none⟩), .pointer (some ⟨Bh + 1, 0, none⟩)]) rfl trivial (enters_of Tryd.func78 (by kernel_rfl) rfl)
              (names_stops HSP4.out f hh ho32 HO.out 5 (fun A B => KpG w.heap.size Bh (Bh + 1) A B) (KpG.need HH.out hs)) (fun a b => KpG.trans a b) (fun W l o o' h1 h2 h3 _ => KpG.book W l o o' (by omega) (by omega) (by omega) h2 h3) (Below.refl _ _) (fun _ => rfl)
              (fun pre W => ∃ vm vd, GSt w (mB + 1) mB (mB + 1 + 1) (.pointer (some ⟨p.g, 0, none⟩)) vm vd (meetP h.nmAt l i pre) W ∧ (vm.ownBlock ≠ some (Bh + 1) ∧ vd.ownBlock ≠ some bI) ∧ Blk W bI 3 #[.int .i64 i] ∧ Marks w.heap.size ds W ∧ Blk W Bh 27 #[.pointer (some ⟨p.g, 0, none⟩)] ∧ Blk W (Bh + 1) 50 #[.int .u32 (o : Nat)])
              (fun c pre W => False)
              (fun pre A B row ⟨vm, vd, h1, h2, h3, h4, h5, h6⟩ hg hr => ⟨vm, vd, h1.own' (by omega) (by omega) hg hr, h2, blk_own' h3 hg hr, h4.own' (fun D hD => by have := hdl D hD; omega) hg hr, blk_own' h5 hg hr, blk_own' h6 hg hr⟩)
              (fun c pre A B row h _ _ => h.elim)
              ⟨_, _, HS4.out, ⟨hmo, hvb⟩, HB4.out, HM4.out, BH, BO⟩
              (fun x a' W => a' = { tmps := #[.pointer (some ⟨p.g, 0, none⟩), .slice A k c, undef, undef, .pointer none, .int .i64 0, .pointer (some ⟨mB + 1 + 1, 0, none⟩), undef, u8, .pointer (some ⟨bI, 0, none⟩), undef, .int .u32 (h.nmAt o x : Nat), .pointer (some ⟨p.g, 0, none⟩), .slice A k c, .bool true, .bool false, .pointer (some ⟨p.g, 0, none⟩), .map (some mB), .agg #[.pointer (some ⟨p.g, 0, none⟩), .slice none 0 0, .map (some mB), .slice none 0 0], .pointer (some ⟨mB + 1, 0, none⟩), .slice A k c, .int .i64 (k : Int), .int .i64 (k : Int), .bool false, u24, u25, u26, u27, u28, u29, .int .i64 (i : Int), .pointer (some ⟨mB + 1, 0, none⟩), .pointer (some ⟨mB + 1, 0, none⟩), .pointer (some ⟨mB + 1, 1, none⟩), .slice (some ad) l.length cm, .int .i64 (l.length : Int), .bool true, u37, u38, .pointer (some ⟨p.g, 0, none⟩), .pointer (some ⟨mB + 1, 0, none⟩), .pointer (some ⟨mB + 1, 0, none⟩), .pointer (some ⟨mB + 1, 1, none⟩), .slice (some ad) l.length cm, .int .i64 (i : Int), .pointer (some (ad.add i)), .int .u32 (o : Int), .func (.func 78) #[] #[.pointer (some ⟨Bh, 0, none⟩), .pointer (some ⟨Bh + 1, 0, none⟩)], .int .i64 ((x : Int) - 1), .int .u32 (h.nmAt o x : Nat), undef, undef, undef, undef, undef, undef, undef, undef, undef, undef, undef, u61, u62, u63, u64, u65, u66, u67, undef, undef, undef, undef, undef, undef, undef], defers := [] })
              (fun x a' _ X Y row hs hg hr => hs)
              ?assign ?body ?done (fun D c pre W _ _ h => h.elim)
            case assign =>
              rintro lp pre x W K hI hK
              rw [show nmV h o x = #[.int .i64 ((x : Int) - 1), .int .u32 (h.nmAt o x : Nat)] from rfl]
              have HK := Lib.hid hK
              have HIP := Lib.hid hI
              clear hK hI
              generalize h.nmAt o x = v at *
              gi_wp2_with fail
              exact HK.out _ _ ((KeepsOthers.refl _).from _) ⟨rfl, rfl, rfl, Nat.le_refl _, fun _ _ => rfl, rfl, rfl, fun _ _ b => b⟩ HIP.out rfl
            case body =>
              rintro lp pre x a' W hl ⟨r, hr⟩ ⟨vm, vd, S, h2, h3, h4, h5, h6⟩ rfl hltx
              have hdp1 : (l.getD i default).deep ≤ i + 1 := by
                have := HDP.out
                rw [List.getD_eq_getElem?_getD, List.getElem?_eq_getElem HLT.out]
                exact this _ (List.getElem_mem _)
              have hpre := meetP_pre h.nmAt l i pre
              have hlenp := meetP_len h.nmAt l i pre
              have hplen := hpre.length_le
              have hkp := Lib.hid (meetP_kind h.nmAt i (fun x hx => isB_kind (HI.out x hx)) pre)
              have hsn := meetP_snoc h.nmAt l i pre x
              rw [HOO.out] at hsn
              have HSN := Lib.hid hsn
              clear hsn
              have hgd := pre_getD hpre HLT.out
              have hvl := HM.nmAt_lt f o x
              generalize h.nmAt o x = v at *
              generalize meetP h.nmAt l i pre = l1 at *
              have hil : i < l1.length := by have := HLT.out; omega
              obtain ⟨Ad1, cd1, rfl, hrd1⟩ := own_slice S.graph.deep
              obtain ⟨ad1, u1, rfl, _, hx1, hcell1⟩ := hrd1.at_ (k := i) (by omega)
              rw [ints_get' (by simp [deepsOf]; omega), deepsOf_getD (by omega), hgd] at hx1
              injection hx1 with hx1
              subst hx1
              have k0 : W.cell? ⟨bI, 0, none⟩ = some (.int .i64 (i : Int)) := h3.cell 0
              have k1 : W.cell? ⟨mB + 1 + 1, 0, none⟩ = some (.pointer (some ⟨mB + 1, 0, none⟩)) := S.box.cell 0
              have k2 : W.cell? ⟨mB + 1, 3, none⟩ = some (.slice (some ad1) l1.length cd1) := S.graph.box.cell 3
              generalize (l.getD i default).deep = dp at *
              replace k0 := cell_regrown k0
              replace k1 := cell_regrown k1
              replace k2 := cell_regrown k2
              replace hcell1 := cell_regrown hcell1
              have HS6 := Lib.hid S
              have HV := Lib.hid (And.intro h2 (And.intro h3 (And.intro h4 (And.intro h5 h6))))
              clear S h2 h3 h4 h5 h6 hrd1 hpre hgd hrd hrm
              gi_wp2_with fail
              refine wpIn_region_below_tail 10 (by kernel_rfl) (by kernel_rfl) (by kernel_rfl) (by rintro ⟨a, w, hh⟩; exact hh) ?_
              simp only [List.take_succ_cons, List.take_zero, List.drop_succ_cons, List.drop_zero]
              repeat (quiet_step (fail))
              refine wpQuiet_nil ?_
              intro wq hwq
              obtain ⟨⟨dq1, osq1⟩, hw''⟩ := hwq
              subst hw''
              have hbq := below_regrown W dq1 osq1
              have HBQ := Lib.hid hbq
              have HS7 := Lib.hid (HS6.out.below hbq)
              have HV7 := Lib.hid (And.intro HV.out.1 (And.intro (HV.out.2.1.below hbq HV.out.2.1.lt) (And.intro (HV.out.2.2.1.below hbq) (And.intro (HV.out.2.2.2.1.below hbq HV.out.2.2.2.1.lt) (HV.out.2.2.2.2.below hbq HV.out.2.2.2.2.lt)))))
              have hsq := hbq.size
              have hlt6 : Bh + 1 < W.heap.size := HV.out.2.2.2.2.lt
              have hlh : Bh < W.heap.size := by omega
              have hw6 : w.heap.size ≤ W.heap.size := HS6.out.base.size
              clear k0 k1 k2 hcell1 hbq HS6 HV
              generalize grow (redrawn W dq1) osq1 = W7 at *
              have HMT := Lib.hid (meet_any HS7.out.graph hkp.out v hvl (dp + 1) (by omega) (by omega) (i : Int) ((x : Int) - 1))
              rw [← HSN.out, show (((dp + 1 : Nat)) : Int) = (dp : Int) + 1 by omega] at HMT
              go_wp2_with fail
              refine HMT.out.mono ?_
              rintro e W8 ⟨rfl, vm', vd', G', s'⟩
              have HFIN := Lib.hid (show KeepsFrom W4.heap.size W W8 ∧ KpG w.heap.size Bh (Bh + 1) W W8 ∧ ∃ vm vd, GSt w (mB + 1) mB (mB + 1 + 1) (.pointer (some ⟨p.g, 0, none⟩)) vm vd (meetP h.nmAt l i (pre ++ [x])) W8 ∧ (vm.ownBlock ≠ some (Bh + 1) ∧ vd.ownBlock ≠ some bI) ∧ Blk W8 bI 3 #[.int .i64 i] ∧ Marks w.heap.size ds W8 ∧ Blk W8 Bh 27 #[.pointer (some ⟨p.g, 0, none⟩)] ∧ Blk W8 (Bh + 1) 50 #[.int .u32 (o : Nat)] from
                ⟨(KeepsFrom.of_below HBQ.out).trans (s'.keeps HS7.out.graph (by omega)),
                  (KpG.of_below HBQ.out hw6 hlh hlt6).trans (s'.kpG HS7.out.graph HV7.out.2.2.2.1 HV7.out.2.2.2.2 HV7.out.1.1),
                  vm', vd', HS7.out.step G' s', ⟨fun e => by
                    rcases s'.rm _ e with e' | e'
                    · exact HV7.out.1.1 e'
                    · omega, fun e => by
                    rcases s'.rd _ e with e' | e'
                    · exact HV7.out.1.2 e'
                    · have := HV7.out.2.1.lt
                      omega⟩,
                  HV7.out.2.1.same (s'.blkD HS7.out.graph HV7.out.2.1 (by decide) (by decide) HV7.out.1.2), HV7.out.2.2.1.gstep HS7.out.graph s',
                  HV7.out.2.2.2.1.same (s'.blk HS7.out.graph HV7.out.2.2.2.1 (by decide) (by decide) (by decide)),
                  HV7.out.2.2.2.2.same (s'.kpG HS7.out.graph HV7.out.2.2.2.1 HV7.out.2.2.2.2 HV7.out.1.1).bo⟩)
              clear G' s'
              go_wp2_with fail
              gi_wp2_with fail
              exact HFIN.out
            case done =>
              rintro D xs W hD rfl ⟨vm, vd, S, h2, h3, h4, h5, h6⟩ hK
              rw [meetP_range] at S
              obtain ⟨Am1, cm1, rfl, hrm1⟩ := own_slice S.graph.met
              have k0 : W.cell? ⟨bI, 0, none⟩ = some (.int .i64 (i : Int)) := h3.cell 0
              have k1 : W.cell? ⟨mB + 1 + 1, 0, none⟩ = some (.pointer (some ⟨mB + 1, 0, none⟩)) := S.box.cell 0
              have k2 : W.cell? ⟨mB + 1, 1, none⟩ = some (.slice Am1 (meetK h.nmAt l i (h.nmN o)).length cm1) := S.graph.box.cell 1
              have HMK := Lib.hid (h4.cons (by omega) hK (fun D' hD' => by have := hdl D' hD'; omega))
              have hrnd : meetK h.nmAt l i (h.nmN o) = roundM h.nmN h.nmAt l i := by unfold roundM; rw [HOO.out]
              rw [hrnd] at S k2
              have HS6 := Lib.hid S
              clear S h2 h3 h4 h5 h6 hrm1 hrd hrm hrnd hK
              by_cases hlong : 65536 < (roundM h.nmN h.nmAt l i).length
              · have hd : decide ((65536 : Int) < ((roundM h.nmN h.nmAt l i).length : Int)) = true := by simp; omega
                have HF := Lib.hid (HG.out.long HLT.out hlong)
                clear hlong
                generalize roundM h.nmN h.nmAt l i = l2 at *
                gi_wp2_with fail
                refine leaves_marks (B := w.heap.size) _ _ HMK.out (fun w' e1 e2 e3 e4 e5 => ?_)
                refine ⟨.tuple #[.pointer none, .int .i64 2], by simp [results, Tryd.results35, go_sem], ?_⟩
                exact ⟨below_left HS6.out.base HMK.out e1 e2 e3 e4 e5, .inr (.inl ⟨hfit, HF.out, rfl⟩)⟩
              · have hd : decide ((65536 : Int) < ((roundM h.nmN h.nmAt l i).length : Int)) = false := by simp; omega
                have HNX := Lib.hid (HG.out.next HLT.out hlong)
                have HDN := Lib.hid (show ∀ nd ∈ roundM h.nmN h.nmAt l i, nd.deep ≤ i + 1 + 1 by
                  unfold roundM; rw [← meetP_range]; exact meetP_deep _ HDP.out HLT.out _)
                have HIN := Lib.hid (show ∀ x ∈ oopsOf (roundM h.nmN h.nmAt l i), h.isB x = true by
                  unfold roundM
                  refine meetK_all h.nmAt HI.out _ (fun k hk h2 => ?_) _ (Nat.le_refl _)
                  rw [HOO.out] at hk h2 ⊢
                  exact names_isB G HO.out hk h2)
                clear hlong
                generalize roundM h.nmN h.nmAt l i = l2 at *
                gi_wp2_with fail
                refine ⟨65538 - (i + 1), by have := HJ.out; omega, i + 1, W.heap.size, { target := .collected D, args := #[] } :: ds, .slice Am1 l2.length cm1, vd, l2, _, _, _, _, _, _, _, _, _, _, _, _, _, _, _, _, _, _, _, _, _, _, _, _, _, rfl, rfl, HNX.out, HIN.out, HDN.out, ?_, ?_, ?_, ?_⟩
                · exact HS6.out.below ((Below.refl _ _).alloc (Nat.le_refl _) _)
                · exact Blk.new W 3 #[.int .i64 ((i : Int) + 1)]
                · exact HMK.out.below ((Below.refl _ _).alloc (Nat.le_refl _) _)
                · exact fun e => by have := (HS6.out.graph.deep.lt _ e).2; omega
          · have hd : decide ((i : Int) < (l.length : Int)) = false := by simp; omega
            have HDN := Lib.hid (HG.out.done hlt)
            have hd2 : decide ((65536 : Int) < (l.length : Int)) = false := by have := HDN.out.2; simp; omega
            gi_wp2_with fail
            gi_region
            gi_wp2_with fail
            have hbd : Below W.heap.size W W.drew := ⟨rfl, rfl, rfl, Nat.le_refl _, fun _ _ => rfl⟩
            replace HS := Lib.hid (HS.out.below hbd)
            replace HM := Lib.hid (HM.out.below hbd)
            replace k1 : W.drew.cell? ⟨mB + 1 + 1, 0, none⟩ = some (.pointer (some ⟨mB + 1, 0, none⟩)) := k1
            replace k2 : W.drew.cell? ⟨mB + 1, 1, none⟩ = some (.slice Am l.length cm) := k2
            clear hbd k0
            generalize W.drew = W at *
            gi_wp2_with fail
            refine leaves_marks (B := w.heap.size) _ _ HM.out (fun w' e1 e2 e3 e4 e5 => ?_)
            refine ⟨.tuple #[.pointer (some ⟨mB + 1, 0, none⟩), .int .i64 0], by simp [results, Tryd.results35, go_sem], ?_⟩
            exact ⟨below_left HS.out.base HM.out e1 e2 e3 e4 e5, .inr (.inr ⟨hfit, l, mB + 1, mB, _, _, HDN.out.1, ⟨HDN.out.2, HG.out.nodup, HI.out, fun nd hnd => by have h1 := HDP.out nd hnd; have h2 := HG.out.le; have h3 := HDN.out.2; omega⟩, rfl, HS.out.graph.left HM.out e4 e5⟩)⟩
end Go.Proofs.YtpajpdjjpgbklaaDoor
