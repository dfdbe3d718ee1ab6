/- Canon: a graph's bytes. -/
import Derived.Test.YtpajpdjjpgbklaaDoorJCanK
import Derived.Test.YtpajpdjjpgbklaaDoorJUntil
import Derived.Sort.CutIn
set_option linter.unusedVariables false
set_option linter.unusedSimpArgs false
namespace Go.Proofs.YtpajpdjjpgbklaaDoor
open Go.RowKit Go.Maps Go.Sort
attribute [local go_sem] Oper.semAt_some

/-- What Canon answers. -/
def CanonP (h : HM) (ser : Bool) (fr : List Nat) (w : World) (e : Ending) (w' : World) : Prop :=
  Below w.heap.size w w' ∧ ((h.fitsB fr = false ∧ e = .returned (.tuple #[.slice none 0 0, .int .i64 3])) ∨
    (h.fitsB fr = true ∧ seenM h.nmN h.nmAt fr = none ∧ e = .returned (.tuple #[.slice none 0 0, .int .i64 2])) ∨
    (h.fitsB fr = true ∧ ∃ l v, seenM h.nmN h.nmAt fr = some l ∧ GWell h l ∧ e = .returned (.tuple #[v, .int .i64 0]) ∧
      w'.ownsRow w.heap.size 5 1 v (canonM h ser fr l).length (u8c (canonM h ser fr l))))
/-- The frame of the loop over objects: what it writes in its rounds is g's. -/
def frameCan (pg : Nat) (ser : Bool) (A : Option Addr) (k c gb gG : Nat) (Am : Option Addr) (ln cm : Nat) (g : Nat → Value) (iz : Int) : Array Value :=
  #[.pointer (some ⟨pg, 0, none⟩), .bool ser, .slice A k c, undef, undef, undef, .slice none 0 0, .int .i64 0, .pointer (some ⟨gb, 0, none⟩), .int .i64 0, .pointer (some ⟨gb + 1, 0, none⟩), undef, g 12, undef, g 14, g 15, g 16, undef, g 18, g 19, g 20, g 21, g 22, g 23, .tuple #[.pointer (some ⟨gG, 0, none⟩), .int .i64 0], .pointer (some ⟨pg, 0, none⟩), .slice A k c, .tuple #[.pointer (some ⟨gG, 0, none⟩), .int .i64 0], .pointer (some ⟨gG, 0, none⟩), .int .i64 0, .int .i64 0, .bool false, undef, .slice A k c, .int .i64 (k : Int), .int .i64 (k : Int), .bool false, g 37, g 38, g 39, g 40, g 41, g 42, g 43, g 44, g 45, .pointer (some ⟨gG, 0, none⟩), .pointer (some ⟨gG, 0, none⟩), .pointer (some ⟨gG, 1, none⟩), .slice Am ln cm, .int .i64 (ln : Int), .int .i64 iz, g 52, g 53, g 54, g 55, g 56, g 57, g 58, g 59, g 60, g 61, g 62, g 63, g 64, g 65, g 66, g 67, g 68, g 69, g 70, g 71, g 72, g 73, g 74, g 75, g 76, g 77, g 78, g 79, g 80, g 81, g 82, g 83, g 84, g 85, g 86, g 87, g 88, g 89, g 90, g 91, g 92, g 93, g 94, g 95, g 96, g 97, g 98, g 99, g 100, g 101, g 102, g 103, g 104, g 105, g 106, g 107, g 108, g 109, g 110, g 111, g 112, g 113, g 114, g 115, g 116, g 117, g 118, g 119, g 120, g 121, g 122, g 123, g 124, g 125, g 126, g 127]
/-- The frame of the loop over names. -/
def frameCanB (gb v : Nat) (g : Nat → Value) : Array Value :=
  #[g 0, g 1, g 2, g 3, g 4, g 5, g 6, g 7, .pointer (some ⟨gb, 0, none⟩), g 9, .pointer (some ⟨gb + 1, 0, none⟩), g 11, g 12, g 13, g 14, g 15, g 16, g 17, .int .u32 (v : Int), g 19, g 20, g 21, g 22, g 23, g 24, g 25, g 26, g 27, g 28, g 29, g 30, g 31, g 32, g 33, g 34, g 35, g 36, g 37, g 38, g 39, g 40, g 41, g 42, g 43, g 44, g 45, g 46, g 47, g 48, g 49, g 50, g 51, g 52, g 53, g 54, g 55, g 56, g 57, g 58, g 59, g 60, g 61, g 62, g 63, g 64, g 65, g 66, g 67, g 68, g 69, g 70, g 71, g 72, g 73, g 74, g 75, g 76, g 77, g 78, g 79, g 80, g 81, g 82, g 83, g 84, g 85, .int .u32 (v : Int), g 87, g 88, g 89, g 90, g 91, g 92, g 93, g 94, g 95, g 96, g 97, g 98, g 99, g 100, g 101, g 102, g 103, g 104, g 105, g 106, g 107, g 108, g 109, g 110, g 111, g 112, g 113, g 114, g 115, g 116, g 117, g 118, g 119, g 120, g 121, g 122, g 123, g 124, g 125, g 126, g 127]
set_option maxRecDepth 100000 in
set_option maxHeartbeats 8000000 in
theorem canon_any {w : World} {p : HP} {h : HM} {ls : List Ob} (H : HAt w p h) (G : h.Good ls) (hh : h.Heads) (hs : Spares w) (ser : Bool) (A : Option Addr) (n c : Nat) (fr : List Nat) (hn : n ≤ 10000000000000) (hr : Reads w w.heap.size 1 A n (u32s fr)) (h32 : ∀ x ∈ fr, x < 4294967296) :
    Calls Tryd.prog 15 #[ptr p.g, .bool ser, .slice A n c] w (CanonP h ser fr w) := by
  have f := G.fit
  have hl : fr.length = n := by have := hr.1; rw [u32s_len] at this; omega
  have HSN := Lib.hid (seen_any H G hh hs A n c fr (by omega) hr h32)
  have HL := Lib.hid hl; have HR := Lib.hid hr; have HX := Lib.hid h32; have HH := Lib.hid H
  clear hl hr h32 H
  refine (callsIn_wide (n := 6)).1 ?_
  refine callsIn_of_wp_marks Tryd.func15 rfl trivial ?_ rfl
  simp only [Tryd.ntmps15, List.size_toArray, List.length_cons, List.length_nil, Nat.reduceAdd, Nat.reduceSub, Array.replicate_succ, Array.replicate_zero, List.push_toArray, List.append_toArray, List.nil_append, List.cons_append]
  unfold ptr at HSN ⊢
  gi_wp2_with fail
  refine ⟨trivial, (callsIn_wide.2 HSN.out).mono ?_⟩
  rintro e w1 ⟨hb1, ⟨hf, rfl⟩ | ⟨hf, hm, rfl⟩ | ⟨hf, l, gG, mB, vm, vd, hm, hw, rfl, G1⟩⟩
  · clear HSN
    gi_wp2_with fail
    refine ⟨.tuple #[.slice none 0 0, .int .i64 3], by simp [results, Tryd.results15, go_sem], ?_⟩
    exact ⟨hb1.alloc hb1.size _, .inl ⟨hf, rfl⟩⟩
  · clear HSN
    gi_wp2_with fail
    refine ⟨.tuple #[.slice none 0 0, .int .i64 2], by simp [results, Tryd.results15, go_sem], ?_⟩
    exact ⟨hb1.alloc hb1.size _, .inr (.inl ⟨hf, hm, rfl⟩)⟩
  · obtain ⟨Am, cm, rfl, -⟩ := own_slice G1.met
    have HG1 := Lib.hid G1
    have HB1 := Lib.hid hb1
    have HMM := Lib.hid hm
    have HW := Lib.hid hw
    have hgb : w.heap.size ≤ w1.heap.size := hb1.size
    have HC0 := Lib.hid (show CanSt w gG mB w1.heap.size (w1.heap.size + 1) (.pointer (some ⟨p.g, 0, none⟩)) (.slice Am l.length cm) vd l [] (.slice none 0 0) ((w1.alloc (.cells #[.pointer (some ⟨gG, 0, none⟩)] 88)).alloc (.cells #[.slice none 0 0] 46)) from by
      have hba := ((Below.refl w1.heap.size w1).alloc (Nat.le_refl _) (.cells #[.pointer (some ⟨gG, 0, none⟩)] 88)).alloc (by simp) (.cells #[.slice none 0 0] 46)
      refine ⟨⟨below_top hb1 hba, G1.below hba, ?_⟩, ?_, ⟨rfl, .inl ⟨rfl, rfl⟩⟩, by omega⟩
      · exact (Blk.new w1 _ _).alloc _
      · have := Blk.new (w1.alloc (.cells #[.pointer (some ⟨gG, 0, none⟩)] 88)) 46 #[.slice none 0 0]
        rw [World.size_alloc] at this
        exact this)
    clear HSN G1 hb1 hm hw
    gi_wp2_with fail
    clear HG1 HB1
    generalize w1.heap.size = gb at *
    generalize (w1.alloc (.cells #[.pointer (some ⟨gG, 0, none⟩)] 88)).alloc (.cells #[.slice none 0 0] 46) = w2 at *
    gi_loopw [12, 35] (fun v i wr => ∃ k : Nat, k ≤ n ∧ i = .int .i64 k ∧ ∃ vb, CanSt w gG mB gb (gb + 1) (.pointer (some ⟨p.g, 0, none⟩)) (.slice Am l.length cm) vd l (refsB l id (fr.take k)) vb wr) (fun _ i _ => n - (intOf i).toNat)
    case atStart => exact ⟨0, by omega, rfl, _, HC0.out⟩
    case round =>
      clear HC0
      obtain ⟨k, hk, rfl, vb, C⟩ := hrel
      by_cases hlt : k < n
      · obtain ⟨ad, u0, rfl, hblk, hx, hcell⟩ := (HR.out.below C.gst.base).at_ hlt
        rw [u32s_get (by rw [HL.out]; exact hlt)] at hx
        injection hx with hx
        subst hx
        -- FOLD a
        have hmem : fr.getD k 0 ∈ fr := by
          rw [List.getD_eq_getElem?_getD, List.getElem?_eq_getElem (by rw [HL.out]; exact hlt)]
          exact List.getElem_mem _
        have ho := HX.out _ hmem
        have hl4 : l.length ≤ 4000000 := by have := HW.out.1; omega
        have HTK := Lib.hid (refsB_take1 l id (xs := fr) (i := k) (by rw [HL.out]; exact hlt))
        have hbl : (refsB l id (fr.take k)).length ≤ 50000000000000 := by
          have h1 := refsB_len hl4 (f := id) (xs := fr.take k) (fun x hx => HX.out x (List.mem_of_mem_take hx))
          rw [List.length_take] at h1
          omega
        clear hmem
        have HO := Lib.hid ho
        rw [id_eq] at HTK
        generalize fr.getD k 0 = y at *
        generalize refsB l id (fr.take k) = bs at *
        have HC := Lib.hid C
        have k0 := C.bb.cell 0
        have k1 := C.gst.box.cell 0
        have hrf := refM_lt l y ho hl4
        clear C ho
        gi_wp2_with fail
        refine wpIn_wide.2 ?_
        refine wp_region_U 6 (fun w' => w'.cell? ⟨gb + 1, 0, none⟩ = some vb ∧ w'.cell? ⟨gb, 0, none⟩ = some (.pointer (some ⟨gG, 0, none⟩))) (by kernel_rfl) ?_
        have HC3 := Lib.hid (HC.out.below (show Below wr.heap.size wr wr.drew from ⟨rfl, rfl, rfl, Nat.le_refl _, fun _ _ => rfl⟩))
        clear k0 k1 HC hcell hblk
        generalize wr.drew = W3 at *
        have hS : W3.cell? ⟨gb + 1, 0, none⟩ = some vb ∧ W3.cell? ⟨gb, 0, none⟩ = some (.pointer (some ⟨gG, 0, none⟩)) := ⟨HC3.out.bb.cell 0, HC3.out.gst.box.cell 0⟩
        refine U_read 0 (v := vb) rfl (by kernel_rfl) (fun _ _ _ h => h) hS (by rfl) (fun w' hw' => by obtain ⟨h0, h1⟩ := hw'; go_simp) ?_
        try simp only [Act.put, List.setIfInBounds_toArray, List.set_cons_zero, List.set_cons_succ]
        refine U_read 1 (v := .pointer (some ⟨gG, 0, none⟩)) rfl (by kernel_rfl) (fun _ _ _ h => h) hS (by rfl) (fun w' hw' => by obtain ⟨h0, h1⟩ := hw'; go_simp) ?_
        try simp only [Act.put, List.setIfInBounds_toArray, List.set_cons_zero, List.set_cons_succ]
        refine U_read 2 (v := .int .u32 (y : Int)) rfl (by kernel_rfl) (fun _ _ _ h => h) hS (by rfl) (fun w' hw' => by obtain ⟨h0, h1⟩ := hw'; go_simp) ?_
        try simp only [Act.put, List.setIfInBounds_toArray, List.set_cons_zero, List.set_cons_succ]
        refine U_one 3 (by kernel_rfl) rfl rfl (fun K hK => ?_)
        go_simp
        refine (reference_any HC3.out.gst.graph y HO.out hl4).mono ?_
        rintro e w4 ⟨rfl, rfl⟩
        try dsimp only
        refine hK _ _ (fun _ => hS) ?_
        clear hK K
        try simp only [Act.put, List.setIfInBounds_toArray, List.set_cons_zero, List.set_cons_succ]
        generalize refM l y = z at *
        refine U_one 4 (by kernel_rfl) rfl rfl (fun K hK => ?_)
        go_simp
        refine hK _ _ (fun _ => ⟨(World.cell?_alloc_lt W3 _ _ HC3.out.bb.lt).trans hS.1, (World.cell?_alloc_lt W3 _ _ HC3.out.gst.box.lt).trans hS.2⟩) ?_
        clear hK K
        try simp only [Act.put, List.setIfInBounds_toArray, List.set_cons_zero, List.set_cons_succ]
        refine U_one 5 (by kernel_rfl) rfl rfl (fun K hK => ?_)
        go_simp
        refine (counts_any (HC3.out.own.alloc _) _ 1 z (by omega) ⟨rfl, fun _ => ⟨_, rfl, by simp, cell_one_new _ _ _⟩⟩ (by omega) (by simp; have := HC3.out.gst.base.size; omega)).mono ?_
        rintro e w5 ⟨v', rfl, hown5, hgr5⟩
        obtain ⟨A5, c5, rfl, -⟩ := own_slice hown5
        generalize hcs : bs ++ cnt7 z = cs at *
        replace hgr5 := Grows.alloc_ _ _ _ hgr5
        have BB5 := HC3.out.bb' hgr5
        have k5 := BB5.cell 0
        have z5 := BB5.frozen 0
        have HC6 := Lib.hid (HC3.out.grow hown5 hgr5)
        try dsimp only
        refine hK _ _ (fun _ => ⟨k5, ?_⟩) ?_
        · exact (World.cell?_of_block (hgr5.g.block gb HC3.out.gst.box.lt (fun e => own_ne_blk HC3.out.own HC3.out.gst.box (by decide) e.symm))).trans hS.2
        clear hK K hown5 hgr5 BB5
        try simp only [Act.put, List.setIfInBounds_toArray, List.set_cons_zero, List.set_cons_succ]
        refine U_one 6 (by kernel_rfl) rfl rfl (fun K hK => ?_)
        go_simp
        refine hK _ _ (fun h => absurd h (by decide)) ?_
        clear hK K
        try simp only [Act.put, List.setIfInBounds_toArray, List.set_cons_zero, List.set_cons_succ]
        refine U_done (by kernel_rfl) ?_ _
        simp only [Calm, Exit.then]
        gi_wp2_with fail
        go_roundw
        case rel => exact ⟨k + 1, by omega, by go_num, _, by rw [HTK.out]; exact HC6.out⟩
        case measure => simp [intOf]; omega
        -- END a
      · obtain rfl : k = n := by omega
        have HC := Lib.hid C
        have k1 := C.gst.box.cell 0
        have k2 := C.gst.graph.box.cell 1
        clear C hk hlt
        gi_wp2_with fail
        refine wpIn_loop_n (fun j a W => ∃ (i : Nat) (iz : Int) (ds : List Deferred) (vb : Value), iz = (i : Int) ∧ a = { tmps := frameCan p.g ser A k c gb gG Am l.length cm (fun n => a.tmps.toList.getD n undef) iz, defers := ds } ∧ j = l.length - i ∧ i ≤ l.length ∧ CanSt w gG mB gb (gb + 1) (.pointer (some ⟨p.g, 0, none⟩)) (.slice Am l.length cm) vd l (refsB l id fr ++ ((oopsOf l).take i).flatMap (h.objC ser l)) vb W ∧ Marks w.heap.size ds W) l.length ?start ?round
        case start =>
          refine ⟨0, 0, [], vb, rfl, rfl, rfl, Nat.zero_le _, ?_, Marks.nil _ _⟩
          have := HC.out
          rw [List.take_of_length_le (by rw [HL.out]; exact Nat.le_refl _)] at this
          simpa using this
        case round =>
          clear HC k1 k2
          rintro j a W ⟨i, iz, ds, vb, hiz, ha, hj, hil, C, MK⟩
          subst hiz
          generalize (fun n => a.tmps.toList.getD n undef) = g at ha
          unfold frameCan at ha
          subst ha
          have HJ := Lib.hid hj
          have hl16 : l.length ≤ 65536 := HW.out.1
          have HC := Lib.hid C
          have HMK := Lib.hid MK
          have k0 := C.bb.cell 0
          have k1 := C.gst.box.cell 0
          have k2 := C.gst.graph.box.cell 1
          have hrm := Lib.hid (own_readsA C.gst.graph.met)
          clear C MK hj
          by_cases hlt : i < l.length
          · have hd : decide ((i : Int) < (l.length : Int)) = true := by simp; omega
            have HLT := Lib.hid hlt
            obtain ⟨ad, u0, rfl, _, hx, hcell⟩ := hrm.out.at_ hlt
            rw [u32s_get (by rw [oopsOf_len]; exact hlt), oopsOf_getD hlt] at hx
            injection hx with hx
            subst hx
            have hisb := HW.out.2.2.1 _ (oopsOf_mem hlt)
            have HO := Lib.hid hisb
            have HTK := Lib.hid (flatMap_take1 (h.objC ser l) (xs := oopsOf l) (i := i) (by rw [oopsOf_len]; exact hlt))
            rw [oopsOf_getD hlt] at HTK
            have hbl := objs_len f hh ser HW.out.1 HW.out.2.2.1 i
            clear hisb
            generalize (l.getD i default).o = o at *
            have ho32 : o < 4294967296 := by
              have h1 := HM.isB_lt HO.out
              have h2 := f.marks
              have h3 := f.room
              have h4 := f.hi
              omega
            have HHD := Lib.hid (Header_any (HH.out.below HC.out.gst.base) f hh (hs.below HC.out.gst.base) o ho32)
            rw [show h.headerV o = .tuple #[.agg #[.int .i64 (h.hd (o / 2)).size, .int .i64 (h.hd (o / 2)).fmt, .int .i64 (h.hd (o / 2)).spare, .int .u32 (h.hd (o / 2)).cls, .int .u32 (h.hd (o / 2)).ser], .int .i64 0] by unfold HM.headerV; rw [HO.out]; rfl] at HHD
            unfold ptr at HHD
            generalize hX : h.hd (o / 2) = X at *
            have HXE := Lib.hid hX
            clear hX
            gi_wp2_with fail
            refine ⟨trivial, (callsIn_wide.2 HHD.out).mono ?_⟩
            rintro e W1 ⟨rfl, hb1⟩
            have hfX := HM.hd_fit f (o / 2)
            rw [HXE.out] at hfX
            have hx1 := hfX.size
            have hx2 := hfX.fmt
            have hx3 := hfX.spare
            have hx5 := hfX.ser
            have hx4 := hfX.cls
            have hf8 : IntKind.u8.wrap (X.fmt : Int) = X.fmt := by rw [wrap8_mod]; omega
            have hs8 : IntKind.u8.wrap (X.spare : Int) = X.spare := by rw [wrap8_mod]; omega
            have hw64 : IntKind.u64.wrap (X.size : Int) = X.size := by rw [wrap64_mod]; omega
            gi_upto_region 14 with fail
            have hbX : Below W.heap.size W (W1.alloc (.cells #[.int .i64 X.size, .int .i64 X.fmt, .int .i64 X.spare, .int .u32 X.cls, .int .u32 X.ser] 55)) := hb1.alloc hb1.size _
            have HC2 := Lib.hid (HC.out.below hbX)
            have HMK2 := Lib.hid (HMK.out.below hbX)
            have HBX2 := Lib.hid (Blk.new W1 55 #[.int .i64 X.size, .int .i64 X.fmt, .int .i64 X.spare, .int .u32 X.cls, .int .u32 X.ser])
            clear HC HMK hbX hb1 k0 k1 k2 hcell hrm HHD
            generalize hbs : refsB l id fr ++ List.flatMap (h.objC ser l) (List.take i (oopsOf l)) = bs at *
            have HBL := Lib.hid (show bs.length ≤ 60000000000000 by
              rw [← hbs, List.length_append]
              have h1 := refsB_len (l := l) (by have := HW.out.1; omega) (f := id) (xs := fr) (fun x hx => HX.out x hx)
              have h2 := HL.out
              omega)
            have HBSD := Lib.hid hbs
            clear hbs
            generalize W1.heap.size = gX at *
            generalize W1.alloc (.cells #[.int .i64 X.size, .int .i64 X.fmt, .int .i64 X.spare, .int .u32 X.cls, .int .u32 X.ser] 55) = W2 at *
            gi_cut [] from 61 (fun W' => ∃ vb', CanSt w gG mB gb (gb + 1) (.pointer (some ⟨p.g, 0, none⟩)) (.slice (some ad) l.length cm) vd l (bs ++ ([X.fmt, X.spare] ++ cnt7 X.size)) vb' W' ∧ Marks w.heap.size ds W' ∧ Blk W' gX 55 #[.int .i64 X.size, .int .i64 X.fmt, .int .i64 X.spare, .int .u32 X.cls, .int .u32 X.ser])
            case first =>
              -- FOLD b
              refine wpIn_wide.2 ?_
              refine wp_region_U 14 (fun w' => w'.cell? ⟨gb + 1, 0, none⟩ = some vb ∧ w'.cell? ⟨gX, 0, none⟩ = some (.int .i64 X.size) ∧ w'.cell? ⟨gX, 1, none⟩ = some (.int .i64 X.fmt) ∧ w'.cell? ⟨gX, 2, none⟩ = some (.int .i64 X.spare)) (by kernel_rfl) ?_
              have hbd : Below W2.heap.size W2 W2.drew := ⟨rfl, rfl, rfl, Nat.le_refl _, fun _ _ => rfl⟩
              have HC3 := Lib.hid (HC2.out.below hbd)
              have HMK3 := Lib.hid (HMK2.out.below hbd)
              have HBX3 := Lib.hid (HBX2.out.below hbd HBX2.out.lt)
              clear HC2 HMK2 HBX2 hbd
              generalize W2.drew = W3 at *
              have HBS := Lib.hid (show bs ++ [X.fmt, X.spare] ++ cnt7 X.size = bs ++ ([X.fmt, X.spare] ++ cnt7 X.size) by simp)
              generalize [X.fmt, X.spare] ++ cnt7 X.size = hb8 at *
              have HSF := Lib.hid (show ∀ w' v', Grows W3 w' vb v' → (w'.cell? ⟨gb + 1, 0, none⟩ = some vb ∧ w'.cell? ⟨gX, 0, none⟩ = some (.int .i64 X.size) ∧ w'.cell? ⟨gX, 1, none⟩ = some (.int .i64 X.fmt) ∧ w'.cell? ⟨gX, 2, none⟩ = some (.int .i64 X.spare)) from fun w' v' hg => by
                have hx : w'.heap[gX]? = W3.heap[gX]? := hg.far HBX3.out.lt (own_ne_blk HC3.out.own HBX3.out (by decide))
                exact ⟨(HC3.out.bb' hg).cell 0, (HBX3.out.same hx).cell 0, (HBX3.out.same hx).cell 1, (HBX3.out.same hx).cell 2⟩)
              have hS := HSF.out W3 vb (.refl _ _)
              obtain ⟨i0, hi0, hz0, hz1, hz2⟩ := info_parts info_u8
              have hw3 : w.heap.size ≤ W3.heap.size := HC3.out.gst.base.size
              have hbl5 := HBL.out
              refine U_read 0 (v := vb) rfl (by kernel_rfl) (fun _ _ _ h => h) hS (by rfl) (fun w' hw' => by obtain ⟨h0, h1, h2, h3⟩ := hw'; go_simp) ?_
              try simp only [Act.put, List.setIfInBounds_toArray, List.set_cons_zero, List.set_cons_succ]
              refine U_read 1 (v := .pointer (some ⟨gX, 1, none⟩)) rfl (by kernel_rfl) (fun _ _ _ h => h) hS (by rfl) (fun w' hw' => by obtain ⟨h0, h1, h2, h3⟩ := hw'; go_simp) ?_
              try simp only [Act.put, List.setIfInBounds_toArray, List.set_cons_zero, List.set_cons_succ]
              refine U_read 2 (v := .int .i64 (X.fmt : Int)) rfl (by kernel_rfl) (fun _ _ _ h => h) hS (by rfl) (fun w' hw' => by obtain ⟨h0, h1, h2, h3⟩ := hw'; go_simp) ?_
              try simp only [Act.put, List.setIfInBounds_toArray, List.set_cons_zero, List.set_cons_succ]
              refine U_read 3 (v := .int .u8 (X.fmt : Int)) rfl (by kernel_rfl) (fun _ _ _ h => h) hS (by rfl) (fun w' hw' => by obtain ⟨h0, h1, h2, h3⟩ := hw'; go_simp) ?_
              try simp only [Act.put, List.setIfInBounds_toArray, List.set_cons_zero, List.set_cons_succ]
              refine U_read 4 (v := .pointer (some ⟨gX, 2, none⟩)) rfl (by kernel_rfl) (fun _ _ _ h => h) hS (by rfl) (fun w' hw' => by obtain ⟨h0, h1, h2, h3⟩ := hw'; go_simp) ?_
              try simp only [Act.put, List.setIfInBounds_toArray, List.set_cons_zero, List.set_cons_succ]
              refine U_read 5 (v := .int .i64 (X.spare : Int)) rfl (by kernel_rfl) (fun _ _ _ h => h) hS (by rfl) (fun w' hw' => by obtain ⟨h0, h1, h2, h3⟩ := hw'; go_simp) ?_
              try simp only [Act.put, List.setIfInBounds_toArray, List.set_cons_zero, List.set_cons_succ]
              refine U_read 6 (v := .int .u8 (X.spare : Int)) rfl (by kernel_rfl) (fun _ _ _ h => h) hS (by rfl) (fun w' hw' => by obtain ⟨h0, h1, h2, h3⟩ := hw'; go_simp) ?_
              try simp only [Act.put, List.setIfInBounds_toArray, List.set_cons_zero, List.set_cons_succ]
              refine U_read 9 (v := .pointer (some ⟨gX, 0, none⟩)) rfl (by kernel_rfl) (fun _ _ _ h => h) hS (by rfl) (fun w' hw' => by obtain ⟨h0, h1, h2, h3⟩ := hw'; go_simp) ?_
              try simp only [Act.put, List.setIfInBounds_toArray, List.set_cons_zero, List.set_cons_succ]
              refine U_read 10 (v := .int .i64 (X.size : Int)) rfl (by kernel_rfl) (fun _ _ _ h => h) hS (by rfl) (fun w' hw' => by obtain ⟨h0, h1, h2, h3⟩ := hw'; go_simp) ?_
              try simp only [Act.put, List.setIfInBounds_toArray, List.set_cons_zero, List.set_cons_succ]
              refine U_read 11 (v := .int .u64 (X.size : Int)) rfl (by kernel_rfl) (fun _ _ _ h => h) hS (by rfl) (fun w' hw' => by obtain ⟨h0, h1, h2, h3⟩ := hw'; go_simp) ?_
              try simp only [Act.put, List.setIfInBounds_toArray, List.set_cons_zero, List.set_cons_succ]
              refine U_two 7 12 (by kernel_rfl) rfl rfl rfl rfl (fun K hK => ?_) (fun K hK => ?_)
              · go_simp
                have G1 := Grows.alloc (Grows.refl W3 vb) (.cells #[.int .u8 (X.fmt : Int), .int .u8 (X.spare : Int)] 5)
                refine hK _ _ (fun _ => HSF.out _ _ G1) ?_
                clear hK K
                try simp only [Act.put, List.setIfInBounds_toArray, List.set_cons_zero, List.set_cons_succ]
                refine U_two 8 12 (by kernel_rfl) rfl rfl rfl rfl (fun K hK => ?_) (fun K hK => ?_)
                · skip
                  refine wp_append_any _ (.tmp 61) (.tmp 68) _ rfl w.heap.size 5 i0 _ 1 1 Tryd.underlying46 hi0 hz0 hz1 hz2 rfl (by omega) vb bs.length (u8c bs) rfl (HC3.out.own.alloc _) _ _ 2 2 (u8c [X.fmt, X.spare]) rfl (row_two' (heap_alloc_new W3 _) (Nat.lt_succ_self _)) (one_u8c _) (by simp only [maxLen]; omega) (by omega) (by simp; omega) ?_
                  intro v1 w5 hown5 hgrow5 hat5
                  obtain ⟨A5, c5, rfl, -⟩ := own_slice hown5
                  rw [show u8c bs ++ u8c [X.fmt, X.spare] = u8c (bs ++ [X.fmt, X.spare]) by simp [u8c], show bs.length + 2 = (bs ++ [X.fmt, X.spare]).length by simp] at hown5
                  have G5 := Grows.append G1 hgrow5 hat5
                  try dsimp only
                  refine hK _ _ (fun _ => HSF.out _ _ G5) ?_
                  clear hK K
                  try simp only [Act.put, List.setIfInBounds_toArray, List.set_cons_zero, List.set_cons_succ]
                  refine U_one 12 (by kernel_rfl) rfl rfl (fun K hK => ?_)
                  go_simp
                  have G6 := Grows.alloc G5 (.cells #[.int .u64 (X.size : Int)] 77)
                  refine hK _ _ (fun _ => HSF.out _ _ G6) ?_
                  clear hK K
                  try simp only [Act.put, List.setIfInBounds_toArray, List.set_cons_zero, List.set_cons_succ]
                  refine U_one 13 (by kernel_rfl) rfl rfl (fun K hK => ?_)
                  go_simp
                  refine (counts_any (v := .slice A5 (bs.length + 2) c5) (bs := bs ++ [X.fmt, X.spare]) (n := bs.length + 2) (by have := hown5.alloc (.cells #[.int .u64 (X.size : Int)] 77); simpa using this) _ 1 X.size (by omega) (row_one' (heap_alloc_new w5 _) (by simp)) (by omega) (by have := HC3.out.gst.base.size; have := G6.size; omega)).mono ?_
                  rintro e w7 ⟨v', rfl, hown7, hgr7⟩
                  obtain ⟨A7, c7, rfl, -⟩ := own_slice hown7
                  have G7 := G6.trans hgr7
                  generalize hcs : bs ++ [X.fmt, X.spare] ++ cnt7 X.size = cs at *
                  try dsimp only
                  have BB7 := HC3.out.bb' G7
                  have k7 := BB7.cell 0
                  have z7 := BB7.frozen 0
                  refine hK _ _ (fun _ => HSF.out _ _ G7) ?_
                  clear hK K
                  try simp only [Act.put, List.setIfInBounds_toArray, List.set_cons_zero, List.set_cons_succ]
                  refine U_one 14 (by kernel_rfl) rfl rfl (fun K hK => ?_)
                  go_simp
                  refine hK _ _ (fun h => absurd h (by decide)) ?_
                  clear hK K
                  try simp only [Act.put, List.setIfInBounds_toArray, List.set_cons_zero, List.set_cons_succ]
                  refine U_done (by kernel_rfl) ?_ _
                  simp only [Calm, Exit.then]
                  gi_step
                  gi_meet
                  exact ⟨_, by rw [← HBS.out]; exact HC3.out.grow hown7 G7, HC3.out.marks G7 _ HMK3.out, HBX3.out.same (HC3.out.blk G7 _ HBX3.out (by decide) (by decide))⟩
                · go_simp
                  have G2 := Grows.alloc G1 (.cells #[.int .u64 (X.size : Int)] 77)
                  refine hK _ _ (fun _ => HSF.out _ _ G2) ?_
                  clear hK K
                  try simp only [Act.put, List.setIfInBounds_toArray, List.set_cons_zero, List.set_cons_succ]
                  refine U_one 8 (by kernel_rfl) rfl rfl (fun K hK => ?_)
                  refine wp_append_any _ (.tmp 61) (.tmp 68) _ rfl w.heap.size 5 i0 _ 1 1 Tryd.underlying46 hi0 hz0 hz1 hz2 rfl (by omega) vb bs.length (u8c bs) rfl ((HC3.out.own.alloc _).alloc _) _ _ 2 2 (u8c [X.fmt, X.spare]) rfl (row_two' ((Below.heap_alloc _ _ _ (by simp)).trans (heap_alloc_new W3 _)) (Nat.lt_succ_self _)) (one_u8c _) (by simp only [maxLen]; omega) (by omega) (by simp; omega) ?_
                  intro v1 w5 hown5 hgrow5 hat5
                  obtain ⟨A5, c5, rfl, -⟩ := own_slice hown5
                  rw [show u8c bs ++ u8c [X.fmt, X.spare] = u8c (bs ++ [X.fmt, X.spare]) by simp [u8c], show bs.length + 2 = (bs ++ [X.fmt, X.spare]).length by simp] at hown5
                  have G5 := Grows.append G2 hgrow5 hat5
                  try dsimp only
                  have G6 := G5
                  refine hK _ _ (fun _ => HSF.out _ _ G6) ?_
                  clear hK K
                  try simp only [Act.put, List.setIfInBounds_toArray, List.set_cons_zero, List.set_cons_succ]
                  refine U_one 13 (by kernel_rfl) rfl rfl (fun K hK => ?_)
                  go_simp
                  refine (counts_any (v := .slice A5 (bs.length + 2) c5) (bs := bs ++ [X.fmt, X.spare]) (n := bs.length + 2) (by simpa using hown5) _ 1 X.size (by omega) (row_one' ((hgrow5.block _ (by simp) (fun e => by have := (HC3.out.own.lt _ e.symm).2; omega)).trans (by have := heap_alloc_new (W3.alloc (.cells #[.int .u8 (X.fmt : Int), .int .u8 (X.spare : Int)] 5)) (.cells #[.int .u64 (X.size : Int)] 77); rw [World.size_alloc] at this; exact this)) (by have := hgrow5.size; simp at this; omega)) (by omega) (by have := HC3.out.gst.base.size; have := G6.size; omega)).mono ?_
                  rintro e w7 ⟨v', rfl, hown7, hgr7⟩
                  obtain ⟨A7, c7, rfl, -⟩ := own_slice hown7
                  have G7 := G6.trans hgr7
                  generalize hcs : bs ++ [X.fmt, X.spare] ++ cnt7 X.size = cs at *
                  try dsimp only
                  have BB7 := HC3.out.bb' G7
                  have k7 := BB7.cell 0
                  have z7 := BB7.frozen 0
                  refine hK _ _ (fun _ => HSF.out _ _ G7) ?_
                  clear hK K
                  try simp only [Act.put, List.setIfInBounds_toArray, List.set_cons_zero, List.set_cons_succ]
                  refine U_one 14 (by kernel_rfl) rfl rfl (fun K hK => ?_)
                  go_simp
                  refine hK _ _ (fun h => absurd h (by decide)) ?_
                  clear hK K
                  try simp only [Act.put, List.setIfInBounds_toArray, List.set_cons_zero, List.set_cons_succ]
                  refine U_done (by kernel_rfl) ?_ _
                  simp only [Calm, Exit.then]
                  gi_step
                  gi_meet
                  exact ⟨_, by rw [← HBS.out]; exact HC3.out.grow hown7 G7, HC3.out.marks G7 _ HMK3.out, HBX3.out.same (HC3.out.blk G7 _ HBX3.out (by decide) (by decide))⟩
              · go_simp
                have G1 := Grows.alloc (Grows.refl W3 vb) (.cells #[.int .u64 (X.size : Int)] 77)
                refine hK _ _ (fun _ => HSF.out _ _ G1) ?_
                clear hK K
                try simp only [Act.put, List.setIfInBounds_toArray, List.set_cons_zero, List.set_cons_succ]
                refine U_one 7 (by kernel_rfl) rfl rfl (fun K hK => ?_)
                go_simp
                have G2 := Grows.alloc G1 (.cells #[.int .u8 (X.fmt : Int), .int .u8 (X.spare : Int)] 5)
                refine hK _ _ (fun _ => HSF.out _ _ G2) ?_
                clear hK K
                try simp only [Act.put, List.setIfInBounds_toArray, List.set_cons_zero, List.set_cons_succ]
                refine U_one 8 (by kernel_rfl) rfl rfl (fun K hK => ?_)
                refine wp_append_any _ (.tmp 61) (.tmp 68) _ rfl w.heap.size 5 i0 _ 1 1 Tryd.underlying46 hi0 hz0 hz1 hz2 rfl (by omega) vb bs.length (u8c bs) rfl ((HC3.out.own.alloc _).alloc _) _ _ 2 2 (u8c [X.fmt, X.spare]) rfl (row_two' (by have := heap_alloc_new (W3.alloc (.cells #[.int .u64 (X.size : Int)] 77)) (.cells #[.int .u8 (X.fmt : Int), .int .u8 (X.spare : Int)] 5); rw [World.size_alloc] at this; exact this) (Nat.lt_succ_self _)) (one_u8c _) (by simp only [maxLen]; omega) (by omega) (by simp; omega) ?_
                intro v1 w5 hown5 hgrow5 hat5
                obtain ⟨A5, c5, rfl, -⟩ := own_slice hown5
                rw [show u8c bs ++ u8c [X.fmt, X.spare] = u8c (bs ++ [X.fmt, X.spare]) by simp [u8c], show bs.length + 2 = (bs ++ [X.fmt, X.spare]).length by simp] at hown5
                have G5 := Grows.append G2 hgrow5 hat5
                try dsimp only
                have G6 := G5
                refine hK _ _ (fun _ => HSF.out _ _ G6) ?_
                clear hK K
                try simp only [Act.put, List.setIfInBounds_toArray, List.set_cons_zero, List.set_cons_succ]
                refine U_one 13 (by kernel_rfl) rfl rfl (fun K hK => ?_)
                go_simp
                refine (counts_any (v := .slice A5 (bs.length + 2) c5) (bs := bs ++ [X.fmt, X.spare]) (n := bs.length + 2) (by simpa using hown5) _ 1 X.size (by omega) (row_one' ((hgrow5.block _ (by simp; omega) (fun e => by have := (HC3.out.own.lt _ e.symm).2; omega)).trans ((Below.heap_alloc _ _ _ (by simp)).trans (heap_alloc_new W3 _))) (by have := hgrow5.size; simp at this; omega)) (by omega) (by have := HC3.out.gst.base.size; have := G6.size; omega)).mono ?_
                rintro e w7 ⟨v', rfl, hown7, hgr7⟩
                obtain ⟨A7, c7, rfl, -⟩ := own_slice hown7
                have G7 := G6.trans hgr7
                generalize hcs : bs ++ [X.fmt, X.spare] ++ cnt7 X.size = cs at *
                try dsimp only
                have BB7 := HC3.out.bb' G7
                have k7 := BB7.cell 0
                have z7 := BB7.frozen 0
                refine hK _ _ (fun _ => HSF.out _ _ G7) ?_
                clear hK K
                try simp only [Act.put, List.setIfInBounds_toArray, List.set_cons_zero, List.set_cons_succ]
                refine U_one 14 (by kernel_rfl) rfl rfl (fun K hK => ?_)
                go_simp
                refine hK _ _ (fun h => absurd h (by decide)) ?_
                clear hK K
                try simp only [Act.put, List.setIfInBounds_toArray, List.set_cons_zero, List.set_cons_succ]
                refine U_done (by kernel_rfl) ?_ _
                simp only [Calm, Exit.then]
                gi_step
                gi_meet
                exact ⟨_, by rw [← HBS.out]; exact HC3.out.grow hown7 G7, HC3.out.marks G7 _ HMK3.out, HBX3.out.same (HC3.out.blk G7 _ HBX3.out (by decide) (by decide))⟩
              -- END b
            case rest =>
              clear HC2 HMK2 HBX2
              obtain ⟨vb2, C2, MK2, BX2⟩ := hcut
              have HC2 := Lib.hid C2
              have HMK2 := Lib.hid MK2
              have HBX2 := Lib.hid BX2
              have k0 := C2.bb.cell 0
              obtain ⟨x0, x1, x2, x3, x4⟩ := BX2.cells5
              have hb2 := HBL.out
              have hc10 := cnt7_len10 (x := X.size) (by omega)
              have hw32 : IntKind.u64.wrap (X.ser : Int) = X.ser := by rw [wrap64_mod]; omega
              clear C2 MK2 BX2
              gi_upto_if 75 with fail
              gi_cut [] from 76 (fun W' => ∃ vb', CanSt w gG mB gb (gb + 1) (.pointer (some ⟨p.g, 0, none⟩)) (.slice (some ad) l.length cm) vd l (bs ++ ([X.fmt, X.spare] ++ cnt7 X.size ++ h.serB ser o)) vb' W' ∧ Marks w.heap.size ds W' ∧ Blk W' gX 55 #[.int .i64 X.size, .int .i64 X.fmt, .int .i64 X.spare, .int .u32 X.cls, .int .u32 X.ser])
              case first =>
                cases ser
                · have HSB := Lib.hid (show h.serB false o = [] from rfl)
                  gi_wp2_with fail
                  gi_meet
                  exact ⟨vb2, by rw [HSB.out, List.append_nil]; exact HC2.out, HMK2.out, HBX2.out⟩
                · have HSB := Lib.hid (show h.serB true o = cnt7 X.ser by unfold HM.serB; rw [HXE.out]; rfl)
                  have hbl6 : (bs ++ ([X.fmt, X.spare] ++ cnt7 X.size)).length ≤ 60000000000100 := by simp; omega
                  have HBS := Lib.hid (show bs ++ ([X.fmt, X.spare] ++ cnt7 X.size ++ h.serB true o) = (bs ++ ([X.fmt, X.spare] ++ cnt7 X.size)) ++ cnt7 X.ser by rw [HSB.out]; simp)
                  clear HSB
                  generalize hB2 : bs ++ ([X.fmt, X.spare] ++ cnt7 X.size) = b2 at *
                  clear hB2
                  gi_wp2_with fail
                  have hsz2 := HC2.out.gst.base.size
                  refine ⟨trivial, (callsIn_wide.2 (counts_any (HC2.out.own.alloc _) _ 1 X.ser (by omega) ⟨rfl, fun _ => ⟨_, rfl, by simp, cell_one_new _ _ _⟩⟩ (by omega) (by simp; omega))).mono ?_⟩
                  rintro e w7 ⟨v', rfl, hown7, hgr7⟩
                  obtain ⟨A7, c7, rfl, -⟩ := own_slice hown7
                  generalize hcs : b2 ++ cnt7 X.ser = cs at *
                  clear hcs
                  have G7 := Grows.alloc_ _ _ _ hgr7
                  have BB7 := HC2.out.bb' G7
                  have k7 := BB7.cell 0
                  have z7 := BB7.frozen 0
                  have HFIN := Lib.hid (And.intro (HC2.out.grow hown7 G7) (And.intro (HC2.out.marks G7 (.slice A7 cs.length c7) HMK2.out) (HBX2.out.same (HC2.out.blk G7 (.slice A7 cs.length c7) HBX2.out (by decide) (by decide)))))
                  clear hown7 hgr7 G7 BB7 k0 x0 x1 x2 x3 x4 HC2 HMK2 HBX2
                  gi_wp2_with fail
                  gi_meet
                  exact ⟨_, by rw [HBS.out]; exact HFIN.out.1, HFIN.out.2⟩
              case rest =>
                clear HC2 HMK2 HBX2 k0 x0 x1 x2 x3 x4
                obtain ⟨vb3, C3, MK3, BX3⟩ := hcut
                rw [show [X.fmt, X.spare] ++ cnt7 X.size ++ h.serB ser o = h.headB ser o by unfold HM.headB; rw [HXE.out]] at C3
                have HC3 := Lib.hid C3
                have HMK3 := Lib.hid MK3
                have HBX3 := Lib.hid BX3
                have hbl3 : (bs ++ h.headB ser o).length ≤ 60000000000012 := by have := headB_len f ser o; rw [List.length_append]; omega
                have HBS3 := Lib.hid (show bs ++ h.objC ser l o = (bs ++ h.headB ser o) ++ refsB l (h.nmAt o) (List.range (h.nmN o)) ++ h.contB o by unfold HM.objC; simp)
                generalize bs ++ h.headB ser o = b3 at *
                clear C3 MK3 BX3 hb2 hc10
                gi_wp2_with fail
                refine ⟨trivial, (callsIn_wide.2 (names_any p.g o wc)).mono ?_⟩
                rintro e W4 ⟨rfl, rfl⟩
                have hbe : Below wc.heap.size wc ((wc.alloc (.cells #[.pointer (some ⟨p.g, 0, none⟩)] 27)).alloc (.cells #[.int .u32 (o : Nat)] 50)) := ((Below.refl _ _).alloc (Nat.le_refl _) _).alloc (by simp) _
                have BH := (Blk.new wc 27 #[.pointer (some ⟨p.g, 0, none⟩)]).alloc (.cells #[.int .u32 (o : Nat)] 50)
                have BO := Blk.new (wc.alloc (.cells #[.pointer (some ⟨p.g, 0, none⟩)] 27)) 50 #[.int .u32 (o : Nat)]
                rw [World.size_alloc] at BO
                have HC4 := Lib.hid (HC3.out.below hbe)
                have HMK4 := Lib.hid (HMK3.out.below hbe)
                have HBX4 := Lib.hid (HBX3.out.below hbe HBX3.out.lt)
                have hdl : ∀ D, ({ target := .collected D, args := #[] } : Deferred) ∈ ds → D < wc.heap.size := fun D hD => by
                  obtain ⟨D', h1, _, h3⟩ := HMK3.out.at_ _ hD
                  injection h1 with h1; injection h1 with h1
                  subst h1
                  exact lt_of_get h3
                unfold ptr
                generalize hW4 : (wc.alloc (.cells #[.pointer (some ⟨p.g, 0, none⟩)] 27)).alloc (.cells #[.int .u32 (o : Nat)] 50) = W4 at *
                have hs4 : W4.heap.size = wc.heap.size + 2 := by rw [← hW4]; simp
                have hmBl : mB < wc.heap.size := HC3.out.gst.graph.num.lt
                have hw3 : w.heap.size ≤ wc.heap.size := HC3.out.gst.base.size
                generalize wc.heap.size = Bh at *
                clear hW4 hbe HC3 HMK3 HBX3
                have HSP4 := Lib.hid (show NmSt W4 p h Bh (Bh + 1) o from ⟨HH.out.below HC4.out.gst.base, hs.below HC4.out.gst.base, BH.cell 0, BO.cell 0⟩)
                have hN := nmN_le f o (HM.isB_hd hh HO.out)
                have HN3 := Lib.hid hN
                have hl4 : l.length ≤ 4000000 := by have := HW.out.1; omega
                gi_wp2_with fail
                refine wpIn_rangeFunc_ownH (F := Fence.wide) rfl (by omega) (gf := 78) (lb := #[.pointer (some ⟨Bh, 0, none⟩), .pointer (some ⟨Bh + 1, 0, none⟩)]) rfl trivial (enters_of Tryd.func78 (by kernel_rfl) rfl)
                  (names_stops HSP4.out f hh ho32 HO.out 5 (fun A B => KpG w.heap.size Bh (Bh + 1) A B) (KpG.need HH.out hs)) (fun a b => KpG.trans a b) (fun W l o o' h1 h2 h3 _ => KpG.book W l o o' (by omega) (by omega) (by omega) h2 h3) (Below.refl _ _) (fun _ => rfl)
                  (fun pre W => ∃ vb, CanSt w gG mB gb (gb + 1) (.pointer (some ⟨p.g, 0, none⟩)) (.slice (some ad) l.length cm) vd l (b3 ++ refsB l (h.nmAt o) pre) vb W ∧ Marks w.heap.size ds W ∧ Blk W gX 55 #[.int .i64 X.size, .int .i64 X.fmt, .int .i64 X.spare, .int .u32 X.cls, .int .u32 X.ser] ∧ Blk W Bh 27 #[.pointer (some ⟨p.g, 0, none⟩)] ∧ Blk W (Bh + 1) 50 #[.int .u32 (o : Nat)])
                  (fun c pre W => False)
                  (fun pre A B row ⟨vb, h1, h2, h3, h4, h5⟩ hg hr => ⟨vb, h1.own' (by omega) (by omega) hg hr, h2.own' (fun D hD => by have := hdl D hD; omega) hg hr, blk_own' h3 hg hr, blk_own' h4 hg hr, blk_own' h5 hg hr⟩)
                  (fun c pre A B row h _ _ => h.elim)
                  ⟨_, by have := HC4.out; simpa [refsB] using this, HMK4.out, HBX4.out, BH, BO⟩
                  (fun x a' W => a' = { tmps := frameCanB gb (h.nmAt o x) (fun n => a'.tmps.toList.getD n undef), defers := [] })
                  (fun x a' _ X Y row hs hg hr => hs)
                  ?assign ?body ?done (fun D c pre W _ _ h => h.elim)
                case assign =>
                  rintro lp pre x W K hI hK
                  rw [show nmV h o x = #[.int .i64 ((x : Int) - 1), .int .u32 (h.nmAt o x : Nat)] from rfl]
                  have HK := Lib.hid hK
                  have HIP := Lib.hid hI
                  clear hK hI
                  generalize h.nmAt o x = v at *
                  gi_wp2_with fail
                  exact HK.out _ _ ((KeepsOthers.refl _).from _) ⟨rfl, rfl, rfl, Nat.le_refl _, fun _ _ => rfl, rfl, rfl, fun _ _ b => b⟩ HIP.out rfl
                case body =>
                  -- FOLD c
                  rintro lp pre x a' W hl ⟨r, hr⟩ ⟨vb, C, MK, BX, BH, BO⟩ ha hltx
                  have hvl := HM.nmAt_lt f o x
                  have HSN := Lib.hid (show b3 ++ refsB l (h.nmAt o) (pre ++ [x]) = b3 ++ refsB l (h.nmAt o) pre ++ cnt7 (refM l (h.nmAt o x)) by rw [refsB_snoc, List.append_assoc])
                  have hbl4 : (b3 ++ refsB l (h.nmAt o) pre).length ≤ 70000000000000 := by
                    have h1 := refsB_len hl4 (f := h.nmAt o) (xs := pre) (fun k _ => HM.nmAt_lt f o k)
                    rw [List.length_append]; omega
                  generalize h.nmAt o x = v at *
                  generalize b3 ++ refsB l (h.nmAt o) pre = b4 at *
                  have hrf := refM_lt l v hvl hl4
                  generalize (fun n => a'.tmps.toList.getD n undef) = g2 at ha
                  unfold frameCanB at ha
                  subst ha
                  apply wpIn_block
                  refine wpIn_region_U 6 (fun w' => w'.cell? ⟨gb + 1, 0, none⟩ = some vb ∧ w'.cell? ⟨gb, 0, none⟩ = some (.pointer (some ⟨gG, 0, none⟩))) (by kernel_rfl) (by kernel_rfl) ?_
                  have hbd : Below W.heap.size W W.drew := ⟨rfl, rfl, rfl, Nat.le_refl _, fun _ _ => rfl⟩
                  have HBD := Lib.hid hbd
                  have HC7 := Lib.hid (C.below hbd)
                  have HMK7 := Lib.hid (MK.below hbd)
                  have HBX7 := Lib.hid (BX.below hbd BX.lt)
                  have HBH7 := Lib.hid (BH.below hbd BH.lt)
                  have HBO7 := Lib.hid (BO.below hbd BO.lt)
                  have hlt6 : Bh + 1 < W.heap.size := BO.lt
                  have hw6 : w.heap.size ≤ W.heap.size := C.gst.base.size
                  clear C MK BX BH BO hbd
                  generalize W.drew = W7 at *
                  have hw7 : w.heap.size ≤ W7.heap.size := HC7.out.gst.base.size
                  have hS : W7.cell? ⟨gb + 1, 0, none⟩ = some vb ∧ W7.cell? ⟨gb, 0, none⟩ = some (.pointer (some ⟨gG, 0, none⟩)) := ⟨HC7.out.bb.cell 0, HC7.out.gst.box.cell 0⟩
                  refine U_read 0 (v := vb) rfl (by kernel_rfl) (fun _ _ _ h => h) hS (by rfl) (fun w' hw' => by obtain ⟨h0, h1⟩ := hw'; go_simp) ?_
                  try simp only [Act.put, List.setIfInBounds_toArray, List.set_cons_zero, List.set_cons_succ]
                  refine U_read 1 (v := .pointer (some ⟨gG, 0, none⟩)) rfl (by kernel_rfl) (fun _ _ _ h => h) hS (by rfl) (fun w' hw' => by obtain ⟨h0, h1⟩ := hw'; go_simp) ?_
                  try simp only [Act.put, List.setIfInBounds_toArray, List.set_cons_zero, List.set_cons_succ]
                  refine U_read 2 (v := .int .u32 (v : Int)) rfl (by kernel_rfl) (fun _ _ _ h => h) hS (by rfl) (fun w' hw' => by obtain ⟨h0, h1⟩ := hw'; go_simp) ?_
                  try simp only [Act.put, List.setIfInBounds_toArray, List.set_cons_zero, List.set_cons_succ]
                  refine U_one 3 (by kernel_rfl) rfl rfl (fun K hK => ?_)
                  go_simp
                  refine (reference_any HC7.out.gst.graph v hvl hl4).mono ?_
                  rintro e w4 ⟨rfl, rfl⟩
                  try dsimp only
                  refine hK _ _ (fun _ => hS) ?_
                  clear hK K
                  try simp only [Act.put, List.setIfInBounds_toArray, List.set_cons_zero, List.set_cons_succ]
                  generalize refM l v = z at *
                  refine U_one 4 (by kernel_rfl) rfl rfl (fun K hK => ?_)
                  go_simp
                  refine hK _ _ (fun _ => ⟨(World.cell?_alloc_lt W7 _ _ HC7.out.bb.lt).trans hS.1, (World.cell?_alloc_lt W7 _ _ HC7.out.gst.box.lt).trans hS.2⟩) ?_
                  clear hK K
                  try simp only [Act.put, List.setIfInBounds_toArray, List.set_cons_zero, List.set_cons_succ]
                  refine U_one 5 (by kernel_rfl) rfl rfl (fun K hK => ?_)
                  go_simp
                  refine (counts_any (HC7.out.own.alloc _) _ 1 z (by omega) ⟨rfl, fun _ => ⟨_, rfl, by simp, cell_one_new _ _ _⟩⟩ (by omega) (by simp; omega)).mono ?_
                  rintro e w5 ⟨v', rfl, hown5, hgr5⟩
                  obtain ⟨A5, c5, rfl, -⟩ := own_slice hown5
                  generalize hcs : b4 ++ cnt7 z = cs at *
                  replace hgr5 := Grows.alloc_ _ _ _ hgr5
                  have BB5 := HC7.out.bb' hgr5
                  have k5 := BB5.cell 0
                  have z5 := BB5.frozen 0
                  have HFIN := Lib.hid (show KeepsFrom W4.heap.size W (w5.setCell ⟨gb + 1, 0, none⟩ (.slice A5 cs.length c5)) ∧ KpG w.heap.size Bh (Bh + 1) W (w5.setCell ⟨gb + 1, 0, none⟩ (.slice A5 cs.length c5)) ∧ ∃ vb, CanSt w gG mB gb (gb + 1) (.pointer (some ⟨p.g, 0, none⟩)) (.slice (some ad) l.length cm) vd l (b3 ++ refsB l (h.nmAt o) (pre ++ [x])) vb (w5.setCell ⟨gb + 1, 0, none⟩ (.slice A5 cs.length c5)) ∧ Marks w.heap.size ds (w5.setCell ⟨gb + 1, 0, none⟩ (.slice A5 cs.length c5)) ∧ Blk (w5.setCell ⟨gb + 1, 0, none⟩ (.slice A5 cs.length c5)) gX 55 #[.int .i64 X.size, .int .i64 X.fmt, .int .i64 X.spare, .int .u32 X.cls, .int .u32 X.ser] ∧ Blk (w5.setCell ⟨gb + 1, 0, none⟩ (.slice A5 cs.length c5)) Bh 27 #[.pointer (some ⟨p.g, 0, none⟩)] ∧ Blk (w5.setCell ⟨gb + 1, 0, none⟩ (.slice A5 cs.length c5)) (Bh + 1) 50 #[.int .u32 (o : Nat)] from
                    ⟨(KeepsFrom.of_below HBD.out).trans (HC7.out.keeps hgr5 _ _), (KpG.of_below HBD.out hw6 (by omega) hlt6).trans (HC7.out.kpG hgr5 _ HBH7.out HBO7.out),
                      _, by rw [HSN.out]; exact HC7.out.grow hown5 hgr5, HC7.out.marks hgr5 _ HMK7.out, HBX7.out.same (HC7.out.blk hgr5 _ HBX7.out (by decide) (by decide)), HBH7.out.same (HC7.out.blk hgr5 _ HBH7.out (by decide) (by decide)), HBO7.out.same (HC7.out.blk hgr5 _ HBO7.out (by decide) (by decide))⟩)
                  try dsimp only
                  refine hK _ _ (fun _ => ⟨k5, ?_⟩) ?_
                  · exact (World.cell?_of_block (hgr5.g.block gb HC7.out.gst.box.lt (fun e => own_ne_blk HC7.out.own HC7.out.gst.box (by decide) e.symm))).trans hS.2
                  clear hK K hown5 hgr5 BB5
                  try simp only [Act.put, List.setIfInBounds_toArray, List.set_cons_zero, List.set_cons_succ]
                  refine U_one 6 (by kernel_rfl) rfl rfl (fun K hK => ?_)
                  go_simp
                  refine hK _ _ (fun h => absurd h (by decide)) ?_
                  clear hK K
                  try simp only [Act.put, List.setIfInBounds_toArray, List.set_cons_zero, List.set_cons_succ]
                  refine U_done (by kernel_rfl) ?_ _
                  simp only [Calm, Exit.then]
                  exact HFIN.out
                  -- END c
                case done =>
                  rintro D xs W hD rfl ⟨vb, C, MK, BX, BH, BO⟩ hK
                  have hN0 := HN3.out
                  have HC5 := Lib.hid C
                  have HMK5 := Lib.hid (MK.cons (by omega) hK (fun D' hD' => by have := hdl D' hD'; omega))
                  have HBX5 := Lib.hid BX
                  have hbl5 : (b3 ++ refsB l (h.nmAt o) (List.range (h.nmN o))).length ≤ 70000000000000 := by
                    have h1 := refsB_len hl4 (f := h.nmAt o) (xs := List.range (h.nmN o)) (fun k _ => HM.nmAt_lt f o k)
                    rw [List.length_range] at h1
                    rw [List.length_append]; omega
                  generalize b3 ++ refsB l (h.nmAt o) (List.range (h.nmN o)) = b5 at *
                  have k0 := C.bb.cell 0
                  obtain ⟨x0, x1, x2, x3, x4⟩ := BX.cells5
                  clear C MK BX BH BO hK hN HSP4 hdl HC4 HMK4 HBX4
                  by_cases h3 : X.fmt = 3
                  · have e3 : ((X.fmt : Int) == 3) = true := by rw [h3]; rfl
                    have HCB := Lib.hid (show h.contB o = h.cwB o X.size by unfold HM.contB; rw [HXE.out, if_pos h3])
                    have H3 := Lib.hid (show (h.hd (o / 2)).fmt = 3 by rw [HXE.out]; exact h3)
                    have hszl : X.size ≤ 1048576 := by have := hd_size_le f (HM.isB_hd hh HO.out); rw [HXE.out] at this; exact this
                    have HSZ := Lib.hid (show (h.hd (o / 2)).size = X.size by rw [HXE.out])
                    clear h3
                    gi_wp2_with fail
                    clear k0 x0 x1 x2 x3 x4
                    gi_loopw [99] (fun b wr => ∃ kk : Nat, kk ≤ X.size ∧ b = .int .i64 kk ∧ ∃ vb, CanSt w gG mB gb (gb + 1) (.pointer (some ⟨p.g, 0, none⟩)) (.slice (some ad) l.length cm) vd l (b5 ++ h.cwB o kk) vb wr ∧ Marks w.heap.size ({ target := .collected D, args := #[] } :: ds) wr) (fun b _ => X.size - (intOf b).toNat)
                    case atStart => exact ⟨0, by omega, rfl, _, by simpa [HM.cwB] using HC5.out, HMK5.out⟩
                    case round =>
                      clear HC5 HMK5 HBX5
                      obtain ⟨kk, hkk, rfl, vb, C, MK⟩ := hrel
                      by_cases hlk : kk < X.size
                      · have HWD := Lib.hid (word_good (HH.out.below C.gst.base) f hh (hs.below C.gst.base) ho32 HO.out H3.out (k := kk) (by rw [HSZ.out]; exact hlk))
                        have hfw := HM.fw_lt f o kk
                        have HSN := Lib.hid (cwB_snoc h o kk)
                        have hbl6 : (b5 ++ h.cwB o kk).length ≤ 80000000000000 := by
                          have := cwB_len f o kk
                          rw [List.length_append]; omega
                        have HSN2 := Lib.hid (show b5 ++ h.cwB o (kk + 1) = (b5 ++ h.cwB o kk) ++ cnt7 (fw h o kk) by rw [HSN.out, List.append_assoc])
                        clear HSN
                        unfold ptr at HWD
                        have HC := Lib.hid C
                        have HMK := Lib.hid MK
                        generalize b5 ++ h.cwB o kk = b6 at *
                        generalize fw h o kk = y at *
                        have hwy : IntKind.u64.wrap (y : Int) = y := by rw [wrap64_mod]; omega
                        clear C MK
                        gi_wp2_with fail
                        refine ⟨trivial, (callsIn_wide.2 HWD.out).mono ?_⟩
                        rintro e w6 ⟨rfl, hb6⟩
                        have HC6 := Lib.hid (HC.out.below hb6)
                        have HMK6 := Lib.hid (HMK.out.below hb6)
                        have k0 := HC6.out.bb.cell 0
                        have hsz6 := HC6.out.gst.base.size
                        clear hb6 HWD HC HMK
                        gi_wp2_with fail
                        refine ⟨trivial, (callsIn_wide.2 (counts_any (HC6.out.own.alloc _) _ 1 y (by omega) ⟨rfl, fun _ => ⟨_, rfl, by simp, cell_one_new _ _ _⟩⟩ (by omega) (by simp; omega))).mono ?_⟩
                        rintro e w7 ⟨v', rfl, hown7, hgr7⟩
                        obtain ⟨A7, c7, rfl, -⟩ := own_slice hown7
                        generalize hcs : b6 ++ cnt7 y = cs at *
                        clear hcs
                        have G7 := Grows.alloc_ _ _ _ hgr7
                        have BB7 := HC6.out.bb' G7
                        have k7 := BB7.cell 0
                        have z7 := BB7.frozen 0
                        have HFIN := Lib.hid (And.intro (HC6.out.grow hown7 G7) (HC6.out.marks G7 (.slice A7 cs.length c7) HMK6.out))
                        clear hown7 hgr7 G7 BB7 k0 HC6 HMK6
                        gi_wp2_with fail
                        go_roundw
                        case rel => exact ⟨kk + 1, by omega, by go_num, _, by rw [HSN2.out]; exact HFIN.out.1, HFIN.out.2⟩
                        case measure => simp [intOf]; omega
                      · obtain rfl : kk = X.size := by omega
                        have HC := Lib.hid C
                        have HMK := Lib.hid MK
                        clear C MK hlk hkk
                        gi_wp2_with fail
                        refine ⟨l.length - (i + 1), ?qa, i + 1, (i : Int) + 1, { target := .collected D, args := #[] } :: ds, vb, ?qz, ?qf, rfl, ?qb, ?qc, ?qm⟩
                        case qa => have := HJ.out; have := HLT.out; omega
                        case qb => have := HLT.out; omega
                        case qz => omega
                        case qf => rfl
                        case qc => rw [HTK.out, ← List.append_assoc, HBSD.out, HBS3.out, HCB.out]; exact HC.out
                        case qm => exact HMK.out
                  · have e3 : ((X.fmt : Int) == 3) = false := by simp; omega
                    by_cases h2 : X.fmt = 2
                    · have e2 : ((X.fmt : Int) == 2) = true := by rw [h2]; rfl
                      have H2 := Lib.hid (show (h.hd (o / 2)).fmt = 2 by rw [HXE.out]; exact h2)
                      have HCB := Lib.hid (show h.contB o = h.bytesL o by unfold HM.contB; rw [HXE.out, if_neg h3, if_pos h2])
                      have HBY := Lib.hid (bytes_any (HH.out.below HC5.out.gst.base) f hh (hs.below HC5.out.gst.base) o ho32)
                      clear h2 h3
                      unfold ptr at HBY
                      gi_wp2_with fail
                      refine ⟨trivial, (callsIn_wide.2 HBY.out).mono ?_⟩
                      rintro e w6 ⟨hb6, hby⟩
                      rw [if_pos (good_bytesE G HO.out H2.out)] at hby
                      obtain ⟨gy, cy, rfl, hrow, hgy⟩ := hby
                      have HRD := Lib.hid (bytesP_reads hrow (bytes_room G HO.out H2.out))
                      have HC6 := Lib.hid (HC5.out.below hb6)
                      have HMK6 := Lib.hid (HMK5.out.below hb6)
                      have k0 := HC6.out.bb.cell 0
                      have hsz6 := HC6.out.gst.base.size
                      have hlb := bytesL_len f (HM.isB_hd hh HO.out)
                      have hlen : (h.bytesL o).length = (h.hd (o / 2)).len := by
                        unfold HM.bytesL; rw [List.length_take]; have := bytes_room G HO.out H2.out; omega
                      rw [show (bytesM (h.fields o)).take (h.hd (o / 2)).len = h.bytesL o from rfl] at HRD
                      obtain ⟨i0, hi0, hz0, hz1, hz2⟩ := info_parts info_u8
                      clear hb6 HBY HC5 HMK5 x0 x1 x2 x3 x4 hrow hgy
                      generalize (h.hd (o / 2)).len = nL at *
                      generalize h.bytesL o = bL at *
                      gi_upto_region 30 with fail
                      refine wpIn_wide.2 ?_
                      go_wp2_with (at_builtin; refine wpList_append_any _ rfl (.tmp 123) (.tmp 124) _ rfl w.heap.size 5 i0 _ 1 1 Tryd.underlying46 hi0 hz0 hz1 hz2 rfl (by omega) vb b5.length _ rfl HC6.out.own w6.heap.size (some ⟨gy, 0, none⟩) nL nL (u8c bL) rfl HRD.out (one_u8c _) (by simp only [maxLen]; omega) (by omega) (by omega) ?_; intro v7 w7 hown7 hgrow7 hat7; obtain ⟨A7, c7, rfl, -⟩ := own_slice hown7; have G7 := Grows.of hgrow7 hat7; have BB7 := HC6.out.bb' G7; have k7 := BB7.cell 0; have z7 := BB7.frozen 0)
                      rw [show u8c b5 ++ u8c bL = u8c (b5 ++ bL) by simp [u8c], show b5.length + nL = (b5 ++ bL).length by rw [List.length_append, hlen]] at hown7
                      rw [show b5.length + nL = (b5 ++ bL).length by rw [List.length_append, hlen]] at G7 ⊢
                      have HFIN := Lib.hid (And.intro (HC6.out.grow hown7 G7) (HC6.out.marks G7 (.slice A7 (b5 ++ bL).length c7) HMK6.out))
                      clear hown7 hgrow7 hat7 G7 BB7 k7 z7 k0 HC6 HMK6 HRD
                      generalize hcs : b5 ++ bL = cs at *
                      gi_wp2_with fail
                      refine ⟨l.length - (i + 1), ?qa, i + 1, (i : Int) + 1, { target := .collected D, args := #[] } :: ds, .slice A7 cs.length c7, ?qz, ?qf, rfl, ?qb, ?qc, ?qm⟩
                      case qa => have := HJ.out; have := HLT.out; omega
                      case qb => have := HLT.out; omega
                      case qz => omega
                      case qf => rfl
                      case qc => rw [HTK.out, ← List.append_assoc, HBSD.out, HBS3.out, HCB.out, hcs]; exact HFIN.out.1
                      case qm => exact HFIN.out.2
                    · have e2 : ((X.fmt : Int) == 2) = false := by simp; omega
                      have HCB := Lib.hid (show h.contB o = [] by unfold HM.contB; rw [HXE.out, if_neg h3, if_neg h2])
                      clear h2 h3
                      gi_wp2_with fail
                      refine ⟨l.length - (i + 1), ?qa, i + 1, (i : Int) + 1, { target := .collected D, args := #[] } :: ds, vb, ?qz, ?qf, rfl, ?qb, ?qc, ?qm⟩
                      case qa => have := HJ.out; have := HLT.out; omega
                      case qb => have := HLT.out; omega
                      case qz => omega
                      case qf => rfl
                      case qc => rw [HTK.out, ← List.append_assoc, HBSD.out, HBS3.out, HCB.out, List.append_nil]; exact HC5.out
                      case qm => exact HMK5.out
          · have hd : decide ((i : Int) < (l.length : Int)) = false := by simp; omega
            obtain rfl : i = l.length := by omega
            gi_wp2_with fail
            refine leaves_marks (B := w.heap.size) _ _ HMK.out (fun w' e1 e2 e3 e4 e5 => ?_)
            refine ⟨.tuple #[vb, .int .i64 0], by simp [results, Tryd.results15, go_sem], ?_⟩
            refine ⟨below_left HC.out.gst.base HMK.out e1 e2 e3 e4 e5, .inr (.inr ⟨hf, l, vb, HMM.out, HW.out, rfl, ?_⟩)⟩
            have := HC.out.own
            rw [List.take_of_length_le (by rw [oopsOf_len]; exact Nat.le_refl _)] at this
            exact own_same this (fun q hq => e5 q (this.lt q hq).2 (fun D hD e => by
              obtain ⟨D', h1, _, h3⟩ := HMK.out.at_ _ hD
              injection h1 with h1; injection h1 with h1
              subst h1; subst e
              obtain ⟨o', ho', hc'⟩ := own_cells this hq
              rw [ho'] at h3; injection h3 with h3; subst h3; cases hc'))
end Go.Proofs.YtpajpdjjpgbklaaDoor
